/- What functions of the program compute, in plain Lean, as the value machine runs them. Conditions: none. -/
import Derived.Test.YtfnkhejoihnlnaaPFo
set_option linter.unusedVariables false
set_option linter.unusedSimpArgs false
set_option maxRecDepth 100000
namespace Go.Proofs.Ytfnkhejoihnlnaa.Pl
open Vm
noncomputable section


def laws_markVirtualFunctionS_l0 {α : Type} (bad : α) (k_ : Int → Rows → α) (ih0 : Int → Int → Rows → α) (k_1 : Int) (i : Int) (a_1 : Rows) : α :=
  let z0 : Rows := List.set a_1 (Int.toNat i) (splice (nth a_1 (Int.toNat i)) 0 [.int k_1])
  let z1 : Rows := List.set z0 (Int.toNat i) (splice (nth z0 (Int.toNat i)) 1 [.int (w64 (k_1 + 1))])
  let z2 : Int := w64 ((w64 (k_1 + 1)) + 1)
  let z3 : Rows := List.set z1 (Int.toNat i) (splice (nth z1 (Int.toNat i)) 2 [.int z2])
  let z4 : Int := w64 (z2 + 1)
  let z5 : Rows := List.set z3 (Int.toNat i) (splice (nth z3 (Int.toNat i)) 3 [.int z4])
  let z6 : Int := w64 (z4 + 1)
  let z7 : Rows := List.set z5 (Int.toNat i) (splice (nth z5 (Int.toNat i)) 4 [.int z6])
  let z8 : Int := w64 (z6 + 1)
  let z9 : Rows := List.set z7 (Int.toNat i) (splice (nth z7 (Int.toNat i)) 5 [.bool ((Int.tmod z8 3) == 0)])
  let z10 : Int := w64 (z8 + 1)
  let z11 : Rows := List.set z9 (Int.toNat i) (splice (nth z9 (Int.toNat i)) 6 [.int z10])
  let z12 : Int := w64 (z10 + 1)
  bif decide (i < len a_1) then
    bif andt (andt true (idx i a_1)) (inl (Int.toNat i) a_1) then
      bif andt (andt true (idx i z0)) (inl (Int.toNat i) z0) then
        bif andt (andt true (idx i z1)) (inl (Int.toNat i) z1) then
          bif andt (andt true (idx i z3)) (inl (Int.toNat i) z3) then
            bif andt (andt true (idx i z5)) (inl (Int.toNat i) z5) then
              bif andt (andt true (idx i z7)) (inl (Int.toNat i) z7) then
                bif andt (andt true (idx i z9)) (inl (Int.toNat i) z9) then
                  bif andt (andt true (idx i z11)) (inl (Int.toNat i) z11) then
                    ih0 (w64 (z12 + 1)) (w64 (i + 1)) (List.set z11 (Int.toNat i) (splice (nth z11 (Int.toNat i)) 7 [.int z12]))
                  else bad
                else bad
              else bad
            else bad
          else bad
        else bad
      else bad
    else bad
  else k_ k_1 a_1
def laws_markVirtualFunctionS_L0 {α : Type} (bad : α) (k_ : Int → Rows → α) (N : Nat) (m_ : Nat) : Int → Int → Rows → α :=
  Nat.rec (motive := fun _ => Int → Int → Rows → α) (fun _ _ _ => bad) (fun _ ih0 => laws_markVirtualFunctionS_l0 bad k_ ih0) m_
theorem laws_markVirtualFunctionS_L0_z {α : Type} (bad : α) (k_ : Int → Rows → α) (N : Nat) (k_1 : Int) (i : Int) (a_1 : Rows) : laws_markVirtualFunctionS_L0 bad k_ N 0 k_1 i a_1 = bad := rfl
theorem laws_markVirtualFunctionS_L0_s {α : Type} (bad : α) (k_ : Int → Rows → α) (N : Nat) (m_ : Nat) (k_1 : Int) (i : Int) (a_1 : Rows) : laws_markVirtualFunctionS_L0 bad k_ N (m_ + 1) k_1 i a_1 = laws_markVirtualFunctionS_l0 bad k_ (laws_markVirtualFunctionS_L0 bad k_ N m_) k_1 i a_1 := rfl
def laws_markVirtualFunctionS_t {α : Type} (bad : α) (k_ : Int → Rows → α) (l0 : Int → Int → Rows → α) (a : Rows) (k : Int) : α :=
  l0 k 0 a
def laws_markVirtualFunctionS_f {α : Type} (bad : α) (k_ : Int → Rows → α) (N : Nat) (a : Rows) (k : Int) : α := laws_markVirtualFunctionS_t bad k_ (laws_markVirtualFunctionS_L0 bad k_ N N) a k
def fVirtualFunctionS (k : Int) : List DC := [.int (k), .int (k + 1), .int (k + 1 + 1), .int (k + 1 + 1 + 1), .int (k + 1 + 1 + 1 + 1), .bool (Int.tmod (k + 1 + 1 + 1 + 1 + 1) 3 == 0), .int (k + 1 + 1 + 1 + 1 + 1 + 1), .int (k + 1 + 1 + 1 + 1 + 1 + 1 + 1)]
def markVirtualFunctionS (a : Rows) (k : Int) : Int × Rows := (k + 8 * a.length, mkl fVirtualFunctionS 8 a.length k)
theorem laws_markVirtualFunctionS_c {α : Type} (bad : α) (k_ : Int → Rows → α) (a : Rows) (k : Int) (h_a : WtC (.sl [.int .i64, .int .i64, .int .i64, .int .i64, .int .i64, .bool, .int .i64, .int .i64]) (.sl a)) (h_k : WtC (.int .i64) (.int k)) (hok : mko 8 a k = true) : ∃ N, laws_markVirtualFunctionS_f bad k_ N a k = k_ (markVirtualFunctionS a k).1 (markVirtualFunctionS a k).2 := by
  obtain ⟨hl, hw⟩ := wt_sl h_a
  obtain ⟨h1, h2, h3⟩ := mko_of hok
  refine ⟨a.length + 1, ?_⟩
  unfold laws_markVirtualFunctionS_f laws_markVirtualFunctionS_t markVirtualFunctionS
  refine mark_loop a k 8 fVirtualFunctionS (laws_markVirtualFunctionS_L0 bad k_ (a.length + 1)) k_ ?_ ?_
  · intro n i b h hb hn
    rw [laws_markVirtualFunctionS_L0_s]
    have hk0 : 0 ≤ k + 8 * (i : Int) := by omega
    have hk1 : k + 8 * (i : Int) ≤ 1125901000000000000 := by omega
    generalize k + 8 * (i : Int) = K at hk0 hk1 ⊢
    have w1 : w64 (K + 1) = K + 1 := w64_in (by omega) (by omega)
    have w2 : w64 (K + 1 + 1) = K + 1 + 1 := w64_in (by omega) (by omega)
    have w3 : w64 (K + 1 + 1 + 1) = K + 1 + 1 + 1 := w64_in (by omega) (by omega)
    have w4 : w64 (K + 1 + 1 + 1 + 1) = K + 1 + 1 + 1 + 1 := w64_in (by omega) (by omega)
    have w5 : w64 (K + 1 + 1 + 1 + 1 + 1) = K + 1 + 1 + 1 + 1 + 1 := w64_in (by omega) (by omega)
    have w6 : w64 (K + 1 + 1 + 1 + 1 + 1 + 1) = K + 1 + 1 + 1 + 1 + 1 + 1 := w64_in (by omega) (by omega)
    have w7 : w64 (K + 1 + 1 + 1 + 1 + 1 + 1 + 1) = K + 1 + 1 + 1 + 1 + 1 + 1 + 1 := w64_in (by omega) (by omega)
    have w8 : w64 (K + 1 + 1 + 1 + 1 + 1 + 1 + 1 + 1) = K + 1 + 1 + 1 + 1 + 1 + 1 + 1 + 1 := w64_in (by omega) (by omega)
    have hr := wtl_len (hw (nth a i) (nth_mem h))
    simp only [laws_markVirtualFunctionS_l0, lt_len (show i < b.length by omega), idx_nat (show i < b.length by omega), inl_nat (show i < b.length by omega), w64_succ h hl, Int.toNat_natCast, andt_true_l, andt_true_r, cond_true, hn, w1, w2, w3, w4, w5, w6, w7, w8, idx_setl, inl_setl, List.set_set, nth_setl (show i < b.length by omega)]
    generalize nth a i = r at hr
    rw [show K + 1 + 1 + 1 + 1 + 1 + 1 + 1 + 1 = K + 8 by omega]
    congr 2
    match r, hr with
    | [_, _, _, _, _, _, _, _], _ => rfl
  · intro n b hb
    rw [laws_markVirtualFunctionS_L0_s]
    simp only [laws_markVirtualFunctionS_l0, ← hb, not_lt_len, cond_false]

def laws_heldVirtualFunctionS_l0 {α : Type} (bad : α) (k_ : Int → α) (a : Rows) (ih0 : Int → Int → α) (k_1 : Int) (i : Int) : α :=
  let z0 : Int := w64 ((w64 (k_1 + 1)) + 1)
  let z1 : Int := w64 (z0 + 1)
  let z2 : Int := w64 (z1 + 1)
  let z3 : Int := w64 (z2 + 1)
  let z4 : Int := w64 (z3 + 1)
  let z5 : Int := w64 (z4 + 1)
  bif decide (i < len a) then
    bif andt true (idx i a) then
      bif (rI (nth a (Int.toNat i)) 0) != k_1 then k_ (-1)
      else bif andt true (idx i a) then
          bif (rI (nth a (Int.toNat i)) 1) != (w64 (k_1 + 1)) then k_ (-1)
          else bif andt true (idx i a) then
              bif (rI (nth a (Int.toNat i)) 2) != z0 then k_ (-1)
              else bif andt true (idx i a) then
                  bif (rI (nth a (Int.toNat i)) 3) != z1 then k_ (-1)
                  else bif andt true (idx i a) then
                      bif (rI (nth a (Int.toNat i)) 4) != z2 then k_ (-1)
                      else bif andt true (idx i a) then
                          bif !((rB (nth a (Int.toNat i)) 5) == ((Int.tmod z3 3) == 0)) then k_ (-1)
                          else bif andt true (idx i a) then
                              bif (rI (nth a (Int.toNat i)) 6) != z4 then k_ (-1)
                              else bif andt true (idx i a) then
                                  bif (rI (nth a (Int.toNat i)) 7) != z5 then k_ (-1)
                                  else ih0 (w64 (z5 + 1)) (w64 (i + 1))
                                else bad
                            else bad
                        else bad
                    else bad
                else bad
            else bad
        else bad
    else bad
  else k_ k_1
def laws_heldVirtualFunctionS_L0 {α : Type} (bad : α) (k_ : Int → α) (N : Nat) (a : Rows) (m_ : Nat) : Int → Int → α :=
  Nat.rec (motive := fun _ => Int → Int → α) (fun _ _ => bad) (fun _ ih0 => laws_heldVirtualFunctionS_l0 bad k_ a ih0) m_
theorem laws_heldVirtualFunctionS_L0_z {α : Type} (bad : α) (k_ : Int → α) (N : Nat) (a : Rows) (k_1 : Int) (i : Int) : laws_heldVirtualFunctionS_L0 bad k_ N a 0 k_1 i = bad := rfl
theorem laws_heldVirtualFunctionS_L0_s {α : Type} (bad : α) (k_ : Int → α) (N : Nat) (a : Rows) (m_ : Nat) (k_1 : Int) (i : Int) : laws_heldVirtualFunctionS_L0 bad k_ N a (m_ + 1) k_1 i = laws_heldVirtualFunctionS_l0 bad k_ a (laws_heldVirtualFunctionS_L0 bad k_ N a m_) k_1 i := rfl
def laws_heldVirtualFunctionS_t {α : Type} (bad : α) (k_ : Int → α) (l0 : Int → Int → α) (a : Rows) (k : Int) : α :=
  l0 k 0
def laws_heldVirtualFunctionS_f {α : Type} (bad : α) (k_ : Int → α) (N : Nat) (a : Rows) (k : Int) : α := laws_heldVirtualFunctionS_t bad k_ (laws_heldVirtualFunctionS_L0 bad k_ N a N) a k
def heldVirtualFunctionS (a : Rows) (k : Int) : Int := k + 8 * a.length
theorem laws_heldVirtualFunctionS_c {α : Type} (bad : α) (k_ : Int → α) (a : Rows) (k : Int) (h_a : WtC (.sl [.int .i64, .int .i64, .int .i64, .int .i64, .int .i64, .bool, .int .i64, .int .i64]) (.sl a)) (h_k : WtC (.int .i64) (.int k)) (hok : hdo fVirtualFunctionS 8 a k = true) : ∃ N, laws_heldVirtualFunctionS_f bad k_ N a k = k_ (heldVirtualFunctionS a k) := by
  obtain ⟨hl, hw⟩ := wt_sl h_a
  obtain ⟨h0, h1, h2, h3⟩ := hdo_of hok
  refine ⟨a.length + 1, ?_⟩
  unfold laws_heldVirtualFunctionS_f laws_heldVirtualFunctionS_t heldVirtualFunctionS
  refine held_loop a k 8 fVirtualFunctionS (laws_heldVirtualFunctionS_L0 bad k_ (a.length + 1) a) k_ h0 ?_ ?_
  · intro n i h hn
    rw [laws_heldVirtualFunctionS_L0_s]
    have hk0 : 0 ≤ k + 8 * (i : Int) := by omega
    have hk1 : k + 8 * (i : Int) ≤ 1125901000000000000 := by omega
    generalize k + 8 * (i : Int) = K at hn hk0 hk1 ⊢
    have w1 : w64 (K + 1) = K + 1 := w64_in (by omega) (by omega)
    have w2 : w64 (K + 1 + 1) = K + 1 + 1 := w64_in (by omega) (by omega)
    have w3 : w64 (K + 1 + 1 + 1) = K + 1 + 1 + 1 := w64_in (by omega) (by omega)
    have w4 : w64 (K + 1 + 1 + 1 + 1) = K + 1 + 1 + 1 + 1 := w64_in (by omega) (by omega)
    have w5 : w64 (K + 1 + 1 + 1 + 1 + 1) = K + 1 + 1 + 1 + 1 + 1 := w64_in (by omega) (by omega)
    have w6 : w64 (K + 1 + 1 + 1 + 1 + 1 + 1) = K + 1 + 1 + 1 + 1 + 1 + 1 := w64_in (by omega) (by omega)
    have w7 : w64 (K + 1 + 1 + 1 + 1 + 1 + 1 + 1) = K + 1 + 1 + 1 + 1 + 1 + 1 + 1 := w64_in (by omega) (by omega)
    have w8 : w64 (K + 1 + 1 + 1 + 1 + 1 + 1 + 1 + 1) = K + 1 + 1 + 1 + 1 + 1 + 1 + 1 + 1 := w64_in (by omega) (by omega)
    have r0 : rI (nth a i) 0 = K := by rw [hn]; rfl
    have r1 : rI (nth a i) 1 = K + 1 := by rw [hn]; rfl
    have r2 : rI (nth a i) 2 = K + 1 + 1 := by rw [hn]; rfl
    have r3 : rI (nth a i) 3 = K + 1 + 1 + 1 := by rw [hn]; rfl
    have r4 : rI (nth a i) 4 = K + 1 + 1 + 1 + 1 := by rw [hn]; rfl
    have r5 : rB (nth a i) 5 = (Int.tmod (K + 1 + 1 + 1 + 1 + 1) 3 == 0) := by rw [hn]; rfl
    have r6 : rI (nth a i) 6 = K + 1 + 1 + 1 + 1 + 1 + 1 := by rw [hn]; rfl
    have r7 : rI (nth a i) 7 = K + 1 + 1 + 1 + 1 + 1 + 1 + 1 := by rw [hn]; rfl
    simp only [laws_heldVirtualFunctionS_l0, lt_len h, idx_nat h, w64_succ h hl, Int.toNat_natCast, andt_true_l, andt_true_r, cond_true, w1, w2, w3, w4, w5, w6, w7, w8, r0, r1, r2, r3, r4, r5, r6, r7, bne_self_eq_false, beq_self_eq_true, Bool.not_true, cond_false]
    rw [show K + 1 + 1 + 1 + 1 + 1 + 1 + 1 + 1 = K + 8 by omega]
  · intro n
    rw [laws_heldVirtualFunctionS_L0_s]
    simp only [laws_heldVirtualFunctionS_l0, not_lt_len, cond_false]

def impl_copyFunctions_t {α : Type} (bad : α) (k_ : Rows → α) (list_ : Rows) : α :=
  bif andt true (room2 64 [] list_) then
    k_ list_
  else bad
theorem impl_copyFunctions_c {α : Type} (bad : α) (k_ : Rows → α) (list_ : Rows) (h_list_ : WtC (.sl [.int .i64, .int .i64, .int .i64, .int .i64, .int .i64, .bool, .int .i64, .int .i64]) (.sl list_)) (hok : sm list_ = true) : impl_copyFunctions_t bad k_ list_ = k_ (idf list_) := by
  unfold impl_copyFunctions_t
  rw [room2_sm hok (show 64 ≤ 8388608 by omega)]
  rfl

end
end Go.Proofs.Ytfnkhejoihnlnaa.Pl
