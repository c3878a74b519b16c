/- What functions of the program compute, in plain Lean, as the value machine runs them. Conditions: none. -/
import Derived.Test.YtfnkhejoihnlnaaPFo
set_option linter.unusedVariables false
set_option linter.unusedSimpArgs false
namespace Go.Proofs.Ytfnkhejoihnlnaa.Pl
open Vm
noncomputable section


def laws_markVirtualFunctionS_l0 {α : Type} (bad : α) (k_ : Int → Rows → α) (ih0 : Int → Int → Rows → α) (k_1 : Int) (i : Int) (a_1 : Rows) : α :=
  let z0 : Rows := List.set a_1 (Int.toNat i) (splice (nth a_1 (Int.toNat i)) 0 [.int k_1])
  let z1 : Rows := List.set z0 (Int.toNat i) (splice (nth z0 (Int.toNat i)) 1 [.int (w64 (k_1 + 1))])
  let z2 : Int := w64 ((w64 (k_1 + 1)) + 1)
  let z3 : Rows := List.set z1 (Int.toNat i) (splice (nth z1 (Int.toNat i)) 2 [.int z2])
  let z4 : Int := w64 (z2 + 1)
  let z5 : Rows := List.set z3 (Int.toNat i) (splice (nth z3 (Int.toNat i)) 3 [.int z4])
  let z6 : Int := w64 (z4 + 1)
  let z7 : Rows := List.set z5 (Int.toNat i) (splice (nth z5 (Int.toNat i)) 4 [.int z6])
  let z8 : Int := w64 (z6 + 1)
  let z9 : Rows := List.set z7 (Int.toNat i) (splice (nth z7 (Int.toNat i)) 5 [.bool ((Int.tmod z8 3) == 0)])
  let z10 : Int := w64 (z8 + 1)
  let z11 : Rows := List.set z9 (Int.toNat i) (splice (nth z9 (Int.toNat i)) 6 [.int z10])
  let z12 : Int := w64 (z10 + 1)
  bif decide (i < len a_1) then
    bif andt (andt true (idx i a_1)) (inl (Int.toNat i) a_1) then
      bif andt (andt true (idx i z0)) (inl (Int.toNat i) z0) then
        bif andt (andt true (idx i z1)) (inl (Int.toNat i) z1) then
          bif andt (andt true (idx i z3)) (inl (Int.toNat i) z3) then
            bif andt (andt true (idx i z5)) (inl (Int.toNat i) z5) then
              bif andt (andt true (idx i z7)) (inl (Int.toNat i) z7) then
                bif andt (andt true (idx i z9)) (inl (Int.toNat i) z9) then
                  bif andt (andt true (idx i z11)) (inl (Int.toNat i) z11) then
                    ih0 (w64 (z12 + 1)) (w64 (i + 1)) (List.set z11 (Int.toNat i) (splice (nth z11 (Int.toNat i)) 7 [.int z12]))
                  else bad
                else bad
              else bad
            else bad
          else bad
        else bad
      else bad
    else bad
  else k_ k_1 a_1
def laws_markVirtualFunctionS_L0 {α : Type} (bad : α) (k_ : Int → Rows → α) (N : Nat) (m_ : Nat) : Int → Int → Rows → α :=
  Nat.rec (motive := fun _ => Int → Int → Rows → α) (fun _ _ _ => bad) (fun _ ih0 => laws_markVirtualFunctionS_l0 bad k_ ih0) m_
theorem laws_markVirtualFunctionS_L0_z {α : Type} (bad : α) (k_ : Int → Rows → α) (N : Nat) (k_1 : Int) (i : Int) (a_1 : Rows) : laws_markVirtualFunctionS_L0 bad k_ N 0 k_1 i a_1 = bad := rfl
theorem laws_markVirtualFunctionS_L0_s {α : Type} (bad : α) (k_ : Int → Rows → α) (N : Nat) (m_ : Nat) (k_1 : Int) (i : Int) (a_1 : Rows) : laws_markVirtualFunctionS_L0 bad k_ N (m_ + 1) k_1 i a_1 = laws_markVirtualFunctionS_l0 bad k_ (laws_markVirtualFunctionS_L0 bad k_ N m_) k_1 i a_1 := rfl
def laws_markVirtualFunctionS_t {α : Type} (bad : α) (k_ : Int → Rows → α) (l0 : Int → Int → Rows → α) (a : Rows) (k : Int) : α :=
  l0 k 0 a
def laws_markVirtualFunctionS_f {α : Type} (bad : α) (k_ : Int → Rows → α) (N : Nat) (a : Rows) (k : Int) : α := laws_markVirtualFunctionS_t bad k_ (laws_markVirtualFunctionS_L0 bad k_ N N) a k
def fVirtualFunctionS (k : Int) : List DC := [.int (k), .int (k + 1), .int (k + 1 + 1), .int (k + 1 + 1 + 1), .int (k + 1 + 1 + 1 + 1), .bool (Int.tmod (k + 1 + 1 + 1 + 1 + 1) 3 == 0), .int (k + 1 + 1 + 1 + 1 + 1 + 1), .int (k + 1 + 1 + 1 + 1 + 1 + 1 + 1)]
def markVirtualFunctionS (a : Rows) (k : Int) : Int × Rows := (k + 8 * a.length, mkl fVirtualFunctionS 8 a.length k)
theorem laws_markVirtualFunctionS_c {α : Type} (bad : α) (k_ : Int → Rows → α) (a : Rows) (k : Int) (h_a : WtC (.sl [.int .i64, .int .i64, .int .i64, .int .i64, .int .i64, .bool, .int .i64, .int .i64]) (.sl a)) (h_k : WtC (.int .i64) (.int k)) (hok : mko 8 a k = true) : ∃ N, laws_markVirtualFunctionS_f bad k_ N a k = k_ (markVirtualFunctionS a k).1 (markVirtualFunctionS a k).2 := by
  obtain ⟨hl, hw⟩ := wt_sl h_a
  obtain ⟨h1, h2, h3⟩ := mko_of hok
  refine ⟨a.length + 1, ?_⟩
  unfold laws_markVirtualFunctionS_f laws_markVirtualFunctionS_t markVirtualFunctionS
  refine mark_loop a k 8 fVirtualFunctionS (laws_markVirtualFunctionS_L0 bad k_ (a.length + 1)) k_ ?_ ?_
  · intro n i b h hb hn
    rw [laws_markVirtualFunctionS_L0_s]
    have hk0 : 0 ≤ k + 8 * (i : Int) := by omega
    have hk1 : k + 8 * (i : Int) ≤ 1125901000000000000 := by omega
    generalize k + 8 * (i : Int) = K at hk0 hk1 ⊢
    have w1 : w64 (K + 1) = K + 1 := w64_in (by omega) (by omega)
    have w2 : w64 (K + 1 + 1) = K + 1 + 1 := w64_in (by omega) (by omega)
    have w3 : w64 (K + 1 + 1 + 1) = K + 1 + 1 + 1 := w64_in (by omega) (by omega)
    have w4 : w64 (K + 1 + 1 + 1 + 1) = K + 1 + 1 + 1 + 1 := w64_in (by omega) (by omega)
    have w5 : w64 (K + 1 + 1 + 1 + 1 + 1) = K + 1 + 1 + 1 + 1 + 1 := w64_in (by omega) (by omega)
    have w6 : w64 (K + 1 + 1 + 1 + 1 + 1 + 1) = K + 1 + 1 + 1 + 1 + 1 + 1 := w64_in (by omega) (by omega)
    have w7 : w64 (K + 1 + 1 + 1 + 1 + 1 + 1 + 1) = K + 1 + 1 + 1 + 1 + 1 + 1 + 1 := w64_in (by omega) (by omega)
    have w8 : w64 (K + 1 + 1 + 1 + 1 + 1 + 1 + 1 + 1) = K + 1 + 1 + 1 + 1 + 1 + 1 + 1 + 1 := w64_in (by omega) (by omega)
    have hr := wtl_len (hw (nth a i) (nth_mem h))
    simp only [laws_markVirtualFunctionS_l0, lt_len (show i < b.length by omega), idx_nat (show i < b.length by omega), inl_nat (show i < b.length by omega), w64_succ h hl, Int.toNat_natCast, andt_true_l, andt_true_r, cond_true, hn, w1, w2, w3, w4, w5, w6, w7, w8, idx_setl, inl_setl, List.set_set, nth_setl (show i < b.length by omega)]
    generalize nth a i = r at hr
    rw [show K + 1 + 1 + 1 + 1 + 1 + 1 + 1 + 1 = K + 8 by omega]
    congr 2
    match r, hr with
    | [_, _, _, _, _, _, _, _], _ => rfl
  · intro n b hb
    rw [laws_markVirtualFunctionS_L0_s]
    simp only [laws_markVirtualFunctionS_l0, ← hb, not_lt_len, cond_false]

def laws_heldVirtualFunctionS_l0 {α : Type} (bad : α) (k_ : Int → α) (a : Rows) (ih0 : Int → Int → α) (k_1 : Int) (i : Int) : α :=
  let z0 : Int := w64 ((w64 (k_1 + 1)) + 1)
  let z1 : Int := w64 (z0 + 1)
  let z2 : Int := w64 (z1 + 1)
  let z3 : Int := w64 (z2 + 1)
  let z4 : Int := w64 (z3 + 1)
  let z5 : Int := w64 (z4 + 1)
  bif decide (i < len a) then
    bif andt true (idx i a) then
      bif (rI (nth a (Int.toNat i)) 0) != k_1 then k_ (-1)
      else bif andt true (idx i a) then
          bif (rI (nth a (Int.toNat i)) 1) != (w64 (k_1 + 1)) then k_ (-1)
          else bif andt true (idx i a) then
              bif (rI (nth a (Int.toNat i)) 2) != z0 then k_ (-1)
              else bif andt true (idx i a) then
                  bif (rI (nth a (Int.toNat i)) 3) != z1 then k_ (-1)
                  else bif andt true (idx i a) then
                      bif (rI (nth a (Int.toNat i)) 4) != z2 then k_ (-1)
                      else bif andt true (idx i a) then
                          bif !((rB (nth a (Int.toNat i)) 5) == ((Int.tmod z3 3) == 0)) then k_ (-1)
                          else bif andt true (idx i a) then
                              bif (rI (nth a (Int.toNat i)) 6) != z4 then k_ (-1)
                              else bif andt true (idx i a) then
                                  bif (rI (nth a (Int.toNat i)) 7) != z5 then k_ (-1)
                                  else ih0 (w64 (z5 + 1)) (w64 (i + 1))
                                else bad
                            else bad
                        else bad
                    else bad
                else bad
            else bad
        else bad
    else bad
  else k_ k_1
def laws_heldVirtualFunctionS_L0 {α : Type} (bad : α) (k_ : Int → α) (N : Nat) (a : Rows) (m_ : Nat) : Int → Int → α :=
  Nat.rec (motive := fun _ => Int → Int → α) (fun _ _ => bad) (fun _ ih0 => laws_heldVirtualFunctionS_l0 bad k_ a ih0) m_
theorem laws_heldVirtualFunctionS_L0_z {α : Type} (bad : α) (k_ : Int → α) (N : Nat) (a : Rows) (k_1 : Int) (i : Int) : laws_heldVirtualFunctionS_L0 bad k_ N a 0 k_1 i = bad := rfl
theorem laws_heldVirtualFunctionS_L0_s {α : Type} (bad : α) (k_ : Int → α) (N : Nat) (a : Rows) (m_ : Nat) (k_1 : Int) (i : Int) : laws_heldVirtualFunctionS_L0 bad k_ N a (m_ + 1) k_1 i = laws_heldVirtualFunctionS_l0 bad k_ a (laws_heldVirtualFunctionS_L0 bad k_ N a m_) k_1 i := rfl
def laws_heldVirtualFunctionS_t {α : Type} (bad : α) (k_ : Int → α) (l0 : Int → Int → α) (a : Rows) (k : Int) : α :=
  l0 k 0
def laws_heldVirtualFunctionS_f {α : Type} (bad : α) (k_ : Int → α) (N : Nat) (a : Rows) (k : Int) : α := laws_heldVirtualFunctionS_t bad k_ (laws_heldVirtualFunctionS_L0 bad k_ N a N) a k
def heldVirtualFunctionS (a : Rows) (k : Int) : Int := k + 8 * a.length
theorem laws_heldVirtualFunctionS_c {α : Type} (bad : α) (k_ : Int → α) (a : Rows) (k : Int) (h_a : WtC (.sl [.int .i64, .int .i64, .int .i64, .int .i64, .int .i64, .bool, .int .i64, .int .i64]) (.sl a)) (h_k : WtC (.int .i64) (.int k)) (hok : hdo fVirtualFunctionS 8 a k = true) : ∃ N, laws_heldVirtualFunctionS_f bad k_ N a k = k_ (heldVirtualFunctionS a k) := by
  obtain ⟨hl, hw⟩ := wt_sl h_a
  obtain ⟨h0, h1, h2, h3⟩ := hdo_of hok
  refine ⟨a.length + 1, ?_⟩
  unfold laws_heldVirtualFunctionS_f laws_heldVirtualFunctionS_t heldVirtualFunctionS
  refine held_loop a k 8 fVirtualFunctionS (laws_heldVirtualFunctionS_L0 bad k_ (a.length + 1) a) k_ h0 ?_ ?_
  · intro n i h hn
    rw [laws_heldVirtualFunctionS_L0_s]
    have hk0 : 0 ≤ k + 8 * (i : Int) := by omega
    have hk1 : k + 8 * (i : Int) ≤ 1125901000000000000 := by omega
    generalize k + 8 * (i : Int) = K at hn hk0 hk1 ⊢
    have w1 : w64 (K + 1) = K + 1 := w64_in (by omega) (by omega)
    have w2 : w64 (K + 1 + 1) = K + 1 + 1 := w64_in (by omega) (by omega)
    have w3 : w64 (K + 1 + 1 + 1) = K + 1 + 1 + 1 := w64_in (by omega) (by omega)
    have w4 : w64 (K + 1 + 1 + 1 + 1) = K + 1 + 1 + 1 + 1 := w64_in (by omega) (by omega)
    have w5 : w64 (K + 1 + 1 + 1 + 1 + 1) = K + 1 + 1 + 1 + 1 + 1 := w64_in (by omega) (by omega)
    have w6 : w64 (K + 1 + 1 + 1 + 1 + 1 + 1) = K + 1 + 1 + 1 + 1 + 1 + 1 := w64_in (by omega) (by omega)
    have w7 : w64 (K + 1 + 1 + 1 + 1 + 1 + 1 + 1) = K + 1 + 1 + 1 + 1 + 1 + 1 + 1 := w64_in (by omega) (by omega)
    have w8 : w64 (K + 1 + 1 + 1 + 1 + 1 + 1 + 1 + 1) = K + 1 + 1 + 1 + 1 + 1 + 1 + 1 + 1 := w64_in (by omega) (by omega)
    have r0 : rI (nth a i) 0 = K := by rw [hn]; rfl
    have r1 : rI (nth a i) 1 = K + 1 := by rw [hn]; rfl
    have r2 : rI (nth a i) 2 = K + 1 + 1 := by rw [hn]; rfl
    have r3 : rI (nth a i) 3 = K + 1 + 1 + 1 := by rw [hn]; rfl
    have r4 : rI (nth a i) 4 = K + 1 + 1 + 1 + 1 := by rw [hn]; rfl
    have r5 : rB (nth a i) 5 = (Int.tmod (K + 1 + 1 + 1 + 1 + 1) 3 == 0) := by rw [hn]; rfl
    have r6 : rI (nth a i) 6 = K + 1 + 1 + 1 + 1 + 1 + 1 := by rw [hn]; rfl
    have r7 : rI (nth a i) 7 = K + 1 + 1 + 1 + 1 + 1 + 1 + 1 := by rw [hn]; rfl
    simp only [laws_heldVirtualFunctionS_l0, lt_len h, idx_nat h, w64_succ h hl, Int.toNat_natCast, andt_true_l, andt_true_r, cond_true, w1, w2, w3, w4, w5, w6, w7, w8, r0, r1, r2, r3, r4, r5, r6, r7, bne_self_eq_false, beq_self_eq_true, Bool.not_true, cond_false]
    rw [show K + 1 + 1 + 1 + 1 + 1 + 1 + 1 + 1 = K + 8 by omega]
  · intro n
    rw [laws_heldVirtualFunctionS_L0_s]
    simp only [laws_heldVirtualFunctionS_l0, not_lt_len, cond_false]

def laws_markMappingS_l0 {α : Type} (bad : α) (k_ : Int → Rows → α) (ih0 : Int → Int → Rows → α) (k_1 : Int) (i : Int) (a_1 : Rows) : α :=
  let z0 : Rows := List.set a_1 (Int.toNat i) (splice (nth a_1 (Int.toNat i)) 0 [.int k_1])
  let z1 : Rows := List.set z0 (Int.toNat i) (splice (nth z0 (Int.toNat i)) 1 [.int (w64 (k_1 + 1))])
  let z2 : Int := w64 ((w64 (k_1 + 1)) + 1)
  let z3 : Rows := List.set z1 (Int.toNat i) (splice (nth z1 (Int.toNat i)) 2 [.int z2])
  let z4 : Int := w64 (z2 + 1)
  bif decide (i < len a_1) then
    bif andt (andt true (idx i a_1)) (inl (Int.toNat i) a_1) then
      bif andt (andt true (idx i z0)) (inl (Int.toNat i) z0) then
        bif andt (andt true (idx i z1)) (inl (Int.toNat i) z1) then
          bif andt (andt true (idx i z3)) (inl (Int.toNat i) z3) then
            ih0 (w64 (z4 + 1)) (w64 (i + 1)) (List.set z3 (Int.toNat i) (splice (nth z3 (Int.toNat i)) 3 [.bool ((Int.tmod z4 3) == 0)]))
          else bad
        else bad
      else bad
    else bad
  else k_ k_1 a_1
def laws_markMappingS_L0 {α : Type} (bad : α) (k_ : Int → Rows → α) (N : Nat) (m_ : Nat) : Int → Int → Rows → α :=
  Nat.rec (motive := fun _ => Int → Int → Rows → α) (fun _ _ _ => bad) (fun _ ih0 => laws_markMappingS_l0 bad k_ ih0) m_
theorem laws_markMappingS_L0_z {α : Type} (bad : α) (k_ : Int → Rows → α) (N : Nat) (k_1 : Int) (i : Int) (a_1 : Rows) : laws_markMappingS_L0 bad k_ N 0 k_1 i a_1 = bad := rfl
theorem laws_markMappingS_L0_s {α : Type} (bad : α) (k_ : Int → Rows → α) (N : Nat) (m_ : Nat) (k_1 : Int) (i : Int) (a_1 : Rows) : laws_markMappingS_L0 bad k_ N (m_ + 1) k_1 i a_1 = laws_markMappingS_l0 bad k_ (laws_markMappingS_L0 bad k_ N m_) k_1 i a_1 := rfl
def laws_markMappingS_t {α : Type} (bad : α) (k_ : Int → Rows → α) (l0 : Int → Int → Rows → α) (a : Rows) (k : Int) : α :=
  l0 k 0 a
def laws_markMappingS_f {α : Type} (bad : α) (k_ : Int → Rows → α) (N : Nat) (a : Rows) (k : Int) : α := laws_markMappingS_t bad k_ (laws_markMappingS_L0 bad k_ N N) a k
def fMappingS (k : Int) : List DC := [.int (k), .int (k + 1), .int (k + 1 + 1), .bool (Int.tmod (k + 1 + 1 + 1) 3 == 0)]
def markMappingS (a : Rows) (k : Int) : Int × Rows := (k + 4 * a.length, mkl fMappingS 4 a.length k)
theorem laws_markMappingS_c {α : Type} (bad : α) (k_ : Int → Rows → α) (a : Rows) (k : Int) (h_a : WtC (.sl [.int .i64, .int .i64, .int .i64, .bool]) (.sl a)) (h_k : WtC (.int .i64) (.int k)) (hok : mko 4 a k = true) : ∃ N, laws_markMappingS_f bad k_ N a k = k_ (markMappingS a k).1 (markMappingS a k).2 := by
  obtain ⟨hl, hw⟩ := wt_sl h_a
  obtain ⟨h1, h2, h3⟩ := mko_of hok
  refine ⟨a.length + 1, ?_⟩
  unfold laws_markMappingS_f laws_markMappingS_t markMappingS
  refine mark_loop a k 4 fMappingS (laws_markMappingS_L0 bad k_ (a.length + 1)) k_ ?_ ?_
  · intro n i b h hb hn
    rw [laws_markMappingS_L0_s]
    have hk0 : 0 ≤ k + 4 * (i : Int) := by omega
    have hk1 : k + 4 * (i : Int) ≤ 1125901000000000000 := by omega
    generalize k + 4 * (i : Int) = K at hk0 hk1 ⊢
    have w1 : w64 (K + 1) = K + 1 := w64_in (by omega) (by omega)
    have w2 : w64 (K + 1 + 1) = K + 1 + 1 := w64_in (by omega) (by omega)
    have w3 : w64 (K + 1 + 1 + 1) = K + 1 + 1 + 1 := w64_in (by omega) (by omega)
    have w4 : w64 (K + 1 + 1 + 1 + 1) = K + 1 + 1 + 1 + 1 := w64_in (by omega) (by omega)
    have hr := wtl_len (hw (nth a i) (nth_mem h))
    simp only [laws_markMappingS_l0, lt_len (show i < b.length by omega), idx_nat (show i < b.length by omega), inl_nat (show i < b.length by omega), w64_succ h hl, Int.toNat_natCast, andt_true_l, andt_true_r, cond_true, hn, w1, w2, w3, w4, idx_setl, inl_setl, List.set_set, nth_setl (show i < b.length by omega)]
    generalize nth a i = r at hr
    rw [show K + 1 + 1 + 1 + 1 = K + 4 by omega]
    congr 2
    match r, hr with
    | [_, _, _, _], _ => rfl
  · intro n b hb
    rw [laws_markMappingS_L0_s]
    simp only [laws_markMappingS_l0, ← hb, not_lt_len, cond_false]

def laws_heldMappingS_l0 {α : Type} (bad : α) (k_ : Int → α) (a : Rows) (ih0 : Int → Int → α) (k_1 : Int) (i : Int) : α :=
  let z0 : Int := w64 ((w64 (k_1 + 1)) + 1)
  let z1 : Int := w64 (z0 + 1)
  bif decide (i < len a) then
    bif andt true (idx i a) then
      bif (rI (nth a (Int.toNat i)) 0) != k_1 then k_ (-1)
      else bif andt true (idx i a) then
          bif (rI (nth a (Int.toNat i)) 1) != (w64 (k_1 + 1)) then k_ (-1)
          else bif andt true (idx i a) then
              bif (rI (nth a (Int.toNat i)) 2) != z0 then k_ (-1)
              else bif andt true (idx i a) then
                  bif !((rB (nth a (Int.toNat i)) 3) == ((Int.tmod z1 3) == 0)) then k_ (-1)
                  else ih0 (w64 (z1 + 1)) (w64 (i + 1))
                else bad
            else bad
        else bad
    else bad
  else k_ k_1
def laws_heldMappingS_L0 {α : Type} (bad : α) (k_ : Int → α) (N : Nat) (a : Rows) (m_ : Nat) : Int → Int → α :=
  Nat.rec (motive := fun _ => Int → Int → α) (fun _ _ => bad) (fun _ ih0 => laws_heldMappingS_l0 bad k_ a ih0) m_
theorem laws_heldMappingS_L0_z {α : Type} (bad : α) (k_ : Int → α) (N : Nat) (a : Rows) (k_1 : Int) (i : Int) : laws_heldMappingS_L0 bad k_ N a 0 k_1 i = bad := rfl
theorem laws_heldMappingS_L0_s {α : Type} (bad : α) (k_ : Int → α) (N : Nat) (a : Rows) (m_ : Nat) (k_1 : Int) (i : Int) : laws_heldMappingS_L0 bad k_ N a (m_ + 1) k_1 i = laws_heldMappingS_l0 bad k_ a (laws_heldMappingS_L0 bad k_ N a m_) k_1 i := rfl
def laws_heldMappingS_t {α : Type} (bad : α) (k_ : Int → α) (l0 : Int → Int → α) (a : Rows) (k : Int) : α :=
  l0 k 0
def laws_heldMappingS_f {α : Type} (bad : α) (k_ : Int → α) (N : Nat) (a : Rows) (k : Int) : α := laws_heldMappingS_t bad k_ (laws_heldMappingS_L0 bad k_ N a N) a k
def heldMappingS (a : Rows) (k : Int) : Int := k + 4 * a.length
theorem laws_heldMappingS_c {α : Type} (bad : α) (k_ : Int → α) (a : Rows) (k : Int) (h_a : WtC (.sl [.int .i64, .int .i64, .int .i64, .bool]) (.sl a)) (h_k : WtC (.int .i64) (.int k)) (hok : hdo fMappingS 4 a k = true) : ∃ N, laws_heldMappingS_f bad k_ N a k = k_ (heldMappingS a k) := by
  obtain ⟨hl, hw⟩ := wt_sl h_a
  obtain ⟨h0, h1, h2, h3⟩ := hdo_of hok
  refine ⟨a.length + 1, ?_⟩
  unfold laws_heldMappingS_f laws_heldMappingS_t heldMappingS
  refine held_loop a k 4 fMappingS (laws_heldMappingS_L0 bad k_ (a.length + 1) a) k_ h0 ?_ ?_
  · intro n i h hn
    rw [laws_heldMappingS_L0_s]
    have hk0 : 0 ≤ k + 4 * (i : Int) := by omega
    have hk1 : k + 4 * (i : Int) ≤ 1125901000000000000 := by omega
    generalize k + 4 * (i : Int) = K at hn hk0 hk1 ⊢
    have w1 : w64 (K + 1) = K + 1 := w64_in (by omega) (by omega)
    have w2 : w64 (K + 1 + 1) = K + 1 + 1 := w64_in (by omega) (by omega)
    have w3 : w64 (K + 1 + 1 + 1) = K + 1 + 1 + 1 := w64_in (by omega) (by omega)
    have w4 : w64 (K + 1 + 1 + 1 + 1) = K + 1 + 1 + 1 + 1 := w64_in (by omega) (by omega)
    have r0 : rI (nth a i) 0 = K := by rw [hn]; rfl
    have r1 : rI (nth a i) 1 = K + 1 := by rw [hn]; rfl
    have r2 : rI (nth a i) 2 = K + 1 + 1 := by rw [hn]; rfl
    have r3 : rB (nth a i) 3 = (Int.tmod (K + 1 + 1 + 1) 3 == 0) := by rw [hn]; rfl
    simp only [laws_heldMappingS_l0, lt_len h, idx_nat h, w64_succ h hl, Int.toNat_natCast, andt_true_l, andt_true_r, cond_true, w1, w2, w3, w4, r0, r1, r2, r3, bne_self_eq_false, beq_self_eq_true, Bool.not_true, cond_false]
    rw [show K + 1 + 1 + 1 + 1 = K + 4 by omega]
  · intro n
    rw [laws_heldMappingS_L0_s]
    simp only [laws_heldMappingS_l0, not_lt_len, cond_false]

def impl_RefillBucket_t {α : Type} (k_ : SBucket → α) (b : SBucket) (ticks : Int) : α :=
  bif bif BucketOk b then between ticks 0 1000000 else false then k_ (⟨b.Rate, b.Burst, minI (w64 (b.Tokens + (w64 (b.Rate * ticks)))) b.Burst⟩ : SBucket)
  else k_ b
def RefillBucket (b : SBucket) (ticks : Int) : SBucket := impl_RefillBucket_t id b ticks
theorem impl_RefillBucket_c {α : Type} (k_ : SBucket → α) (b : SBucket) (ticks : Int) : impl_RefillBucket_t k_ b ticks = k_ (RefillBucket b ticks) := by
  exact cond_k rfl rfl

def spec_RefillBucket_t {α : Type} (k_ : SBucket → α) (b : SBucket) (ticks : Int) : α :=
  bif bif !(BucketOk b) then true else !(between ticks 0 1000000) then k_ b
  else k_ (⟨b.Rate, b.Burst, minI b.Burst (w64 (b.Tokens + (w64 (b.Rate * ticks))))⟩ : SBucket)
theorem spec_RefillBucket_c {α : Type} (k_ : SBucket → α) (b : SBucket) (ticks : Int) (h_b : WtL SBucket.ct b.enc) (h_ticks : WtC (.int .i64) (.int ticks)) : spec_RefillBucket_t k_ b ticks = k_ (RefillBucket b ticks) := by
  unfold spec_RefillBucket_t RefillBucket impl_RefillBucket_t
  cases hb : BucketOk b
  · rfl
  · cases ht : between ticks 0 1000000
    · rfl
    · simp only [Bool.not_true, cond_false, cond_true, id, minI_comm b.Burst]

def impl_copyFunctions_t {α : Type} (bad : α) (k_ : Rows → α) (list_ : Rows) : α :=
  bif andt true (room2 64 [] list_) then
    k_ list_
  else bad
theorem impl_copyFunctions_c {α : Type} (bad : α) (k_ : Rows → α) (list_ : Rows) (h_list_ : WtC (.sl [.int .i64, .int .i64, .int .i64, .int .i64, .int .i64, .bool, .int .i64, .int .i64]) (.sl list_)) (hok : sm list_ = true) : impl_copyFunctions_t bad k_ list_ = k_ (idf list_) := by
  unfold impl_copyFunctions_t
  rw [room2_sm hok (show 64 ≤ 8388608 by omega)]
  rfl

def impl_TickFunctions_l0 {α : Type} (bad : α) (k_ : Rows → α) (ticks : Int) (x : Int) (ih0 : Int → Rows → α) (x_1 : Int) (out_ : Rows) : α :=
  bif decide (x_1 < x) then
    bif andt (andt (andt (andt true (idx x_1 out_)) (inl (Int.toNat x_1) out_)) (idx x_1 out_)) (inl (Int.toNat x_1) out_) then
      ih0 (w64 (x_1 + 1)) (List.set out_ (Int.toNat x_1) (splice (nth out_ (Int.toNat x_1)) 2 (SBucket.enc (RefillBucket (SBucket.decAt (nth out_ (Int.toNat x_1)) 2) ticks))))
    else bad
  else k_ out_
def impl_TickFunctions_L0 {α : Type} (bad : α) (k_ : Rows → α) (N : Nat) (ticks : Int) (x : Int) (m_ : Nat) : Int → Rows → α :=
  Nat.rec (motive := fun _ => Int → Rows → α) (fun _ _ => bad) (fun _ ih0 => impl_TickFunctions_l0 bad k_ ticks x ih0) m_
theorem impl_TickFunctions_L0_z {α : Type} (bad : α) (k_ : Rows → α) (N : Nat) (ticks : Int) (x : Int) (x_1 : Int) (out_ : Rows) : impl_TickFunctions_L0 bad k_ N ticks x 0 x_1 out_ = bad := rfl
theorem impl_TickFunctions_L0_s {α : Type} (bad : α) (k_ : Rows → α) (N : Nat) (ticks : Int) (x : Int) (m_ : Nat) (x_1 : Int) (out_ : Rows) : impl_TickFunctions_L0 bad k_ N ticks x (m_ + 1) x_1 out_ = impl_TickFunctions_l0 bad k_ ticks x (impl_TickFunctions_L0 bad k_ N ticks x m_) x_1 out_ := rfl
def impl_TickFunctions_t {α : Type} (bad : α) (k_ : Rows → α) (l0 : Int → Int → Rows → α) (list_ : Rows) (ticks : Int) : α :=
  bif andt true (sm list_) then
    l0 (len (idf list_)) 0 (idf list_)
  else bad
def impl_TickFunctions_f {α : Type} (bad : α) (k_ : Rows → α) (N : Nat) (list_ : Rows) (ticks : Int) : α := impl_TickFunctions_t bad k_ (fun x => impl_TickFunctions_L0 bad k_ N ticks x N) list_ ticks
def tickRow (ticks : Int) (r : List DC) : List DC := splice r 2 (SBucket.enc (RefillBucket (SBucket.decAt r 2) ticks))
def TickFunctions_ok (list_ : Rows) (ticks : Int) : Bool := sm list_
def TickFunctions (list_ : Rows) (ticks : Int) : Rows := list_.map (tickRow ticks)
theorem impl_TickFunctions_c {α : Type} (bad : α) (k_ : Rows → α) (list_ : Rows) (ticks : Int) (h_list_ : WtC (.sl [.int .i64, .int .i64, .int .i64, .int .i64, .int .i64, .bool, .int .i64, .int .i64]) (.sl list_)) (h_ticks : WtC (.int .i64) (.int ticks)) (hok : TickFunctions_ok list_ ticks = true) : ∃ N, impl_TickFunctions_f bad k_ N list_ ticks = k_ (TickFunctions list_ ticks) := by
  have hsm : sm list_ = true := hok

  obtain ⟨hl, hw⟩ := wt_sl h_list_
  refine ⟨list_.length + 1, ?_⟩
  unfold impl_TickFunctions_f impl_TickFunctions_t TickFunctions
  simp only [idf, hsm, andt_true_l, cond_true]
  refine map_loop list_ (impl_TickFunctions_L0 bad k_ (list_.length + 1) ticks (len list_)) k_ (tickRow ticks) ?_ ?_
  · intro n i out h ho hn
    rw [impl_TickFunctions_L0_s]
    simp only [impl_TickFunctions_l0, lt_len h, idx_nat (show i < out.length by omega), inl_nat (show i < out.length by omega), w64_succ h hl, Int.toNat_natCast, andt_true_l, andt_true_r, cond_true, hn]
    rfl
  · intro n out ho
    rw [impl_TickFunctions_L0_s]
    simp only [impl_TickFunctions_l0, not_lt_len, cond_false]

def spec_TickFunctions_l0 {α : Type} (bad : α) (k_ : Rows → α) (ticks : Int) (ih0 : Int → Rows → α) (k : Int) (out_ : Rows) : α :=
  bif decide (k < len out_) then
    bif andt (andt (andt (andt true (idx k out_)) (inl (Int.toNat k) out_)) (idx k out_)) (inl (Int.toNat k) out_) then
      ih0 (w64 (k + 1)) (List.set out_ (Int.toNat k) (splice (nth out_ (Int.toNat k)) 2 (SBucket.enc (RefillBucket (SBucket.decAt (nth out_ (Int.toNat k)) 2) ticks))))
    else bad
  else k_ out_
def spec_TickFunctions_L0 {α : Type} (bad : α) (k_ : Rows → α) (N : Nat) (ticks : Int) (m_ : Nat) : Int → Rows → α :=
  Nat.rec (motive := fun _ => Int → Rows → α) (fun _ _ => bad) (fun _ ih0 => spec_TickFunctions_l0 bad k_ ticks ih0) m_
theorem spec_TickFunctions_L0_z {α : Type} (bad : α) (k_ : Rows → α) (N : Nat) (ticks : Int) (k : Int) (out_ : Rows) : spec_TickFunctions_L0 bad k_ N ticks 0 k out_ = bad := rfl
theorem spec_TickFunctions_L0_s {α : Type} (bad : α) (k_ : Rows → α) (N : Nat) (ticks : Int) (m_ : Nat) (k : Int) (out_ : Rows) : spec_TickFunctions_L0 bad k_ N ticks (m_ + 1) k out_ = spec_TickFunctions_l0 bad k_ ticks (spec_TickFunctions_L0 bad k_ N ticks m_) k out_ := rfl
def spec_TickFunctions_t {α : Type} (bad : α) (k_ : Rows → α) (l0 : Int → Rows → α) (list_ : Rows) (ticks : Int) : α :=
  bif andt true (room2 64 [] list_) then
    l0 0 list_
  else bad
def spec_TickFunctions_f {α : Type} (bad : α) (k_ : Rows → α) (N : Nat) (list_ : Rows) (ticks : Int) : α := spec_TickFunctions_t bad k_ (spec_TickFunctions_L0 bad k_ N ticks N) list_ ticks
theorem spec_TickFunctions_c {α : Type} (bad : α) (k_ : Rows → α) (list_ : Rows) (ticks : Int) (h_list_ : WtC (.sl [.int .i64, .int .i64, .int .i64, .int .i64, .int .i64, .bool, .int .i64, .int .i64]) (.sl list_)) (h_ticks : WtC (.int .i64) (.int ticks)) (hok : TickFunctions_ok list_ ticks = true) : ∃ N, spec_TickFunctions_f bad k_ N list_ ticks = k_ (TickFunctions list_ ticks) := by
  have hsm : sm list_ = true := hok

  obtain ⟨hl, hw⟩ := wt_sl h_list_
  refine ⟨list_.length + 1, ?_⟩
  unfold spec_TickFunctions_f spec_TickFunctions_t TickFunctions
  simp only [room2_sm hsm (show 64 ≤ 8388608 by omega), andt_true_l, cond_true]
  refine map_loop list_ (spec_TickFunctions_L0 bad k_ (list_.length + 1) ticks) k_ (tickRow ticks) ?_ ?_
  · intro n i out h ho hn
    rw [spec_TickFunctions_L0_s]
    simp only [spec_TickFunctions_l0, lt_len (show i < out.length by omega), idx_nat (show i < out.length by omega), inl_nat (show i < out.length by omega), w64_succ h hl, Int.toNat_natCast, andt_true_l, andt_true_r, cond_true, hn]
    rfl
  · intro n out ho
    rw [spec_TickFunctions_L0_s]
    simp only [spec_TickFunctions_l0, ← ho, not_lt_len, cond_false]

def laws_FnExactTickFunctions_t {α : Type} (bad : α) (k_ : Bool → α) (aList : Rows) (aTicks : Int) : α :=
  let z0 : Bool := andt (andt true (sm aList)) (TickFunctions_ok (idf aList) aTicks)
  let z1 : Bool := andt true (same (TickFunctions (idf aList) aTicks) (TickFunctions (idf aList) aTicks))
  let z2 : Bool := !(yes2 (TickFunctions (idf aList) aTicks) (TickFunctions (idf aList) aTicks))
  let z3 : Bool := decide ((markVirtualFunctionS (idf aList) 1).1 < 0)
  let z4 : Int × Rows := markVirtualFunctionS (TickFunctions (idf aList) aTicks) 1
  let z5 : Bool := andt true (hdo fVirtualFunctionS 8 z4.2 1)
  let z6 : Int := heldVirtualFunctionS z4.2 1
  let z7 : Bool := decide (z6 < 0)
  let z8 : Bool := z6 != z4.1
  bif decide (szFlat aList 1048576 < 0) then k_ true
  else bif z0 then
      bif andt true (sm aList) then
        bif andt true (TickFunctions_ok (idf aList) aTicks) then
          bif z1 then
            bif z2 then k_ false
            else bif andt (andt true (sm aList)) (same (idf aList) (idf aList)) then
                bif !(yes2 (idf aList) (idf aList)) then k_ false
                else bif andt true (mko 8 (idf aList) 1) then
                    bif okm z3 true z1 then
                      bif bif z3 then true else z2 then k_ false
                      else bif andt true (mko 8 (TickFunctions (idf aList) aTicks) 1) then
                          bif z5 then
                            bif z7 then k_ false
                            else bif z8 then k_ false
                            else bif z0 then
                                bif z1 then
                                  bif z2 then k_ false
                                  else bif z5 then
                                      bif z7 then k_ false
                                      else bif z8 then k_ false
                                      else k_ true
                                    else bad
                                else bad
                              else bad
                          else bad
                        else bad
                    else bad
                  else bad
              else bad
          else bad
        else bad
      else bad
    else bad
theorem laws_FnExactTickFunctions_c {α : Type} (bad : α) (k_ : Bool → α) (aList : Rows) (aTicks : Int) (h_aList : WtC (.sl [.int .i64, .int .i64, .int .i64, .int .i64, .int .i64, .bool, .int .i64, .int .i64]) (.sl aList)) (h_aTicks : WtC (.int .i64) (.int aTicks)) (hok : fitL ((.sl [.int .i64, .int .i64, .int .i64, .int .i64, .int .i64, .bool, .int .i64, .int .i64]) :: ((.int .i64) :: ([]))) (.sl aList :: (.int aTicks :: ([]))) = true) : laws_FnExactTickFunctions_t bad k_ aList aTicks = k_ true := by
  unfold laws_FnExactTickFunctions_t
  by_cases c0 : szFlat aList 1048576 < 0
  · simp only [c0, decide_true, decide_false, cond_true, cond_false]
  have k0 := szFlat_ok (by omega) (by omega) (wt_sl h_aList).1 (Int.not_lt.1 c0)
  have hsm := k0.2
  have hln := sm_le hsm
  have ko : TickFunctions_ok aList aTicks = true := hsm
  have us : sm (TickFunctions aList aTicks) = true := by simp only [sm, TickFunctions, List.length_map]; exact hsm
  have ul := sm_le us
  have p1 : mko 8 aList 1 = true := mko_mk hsm (by omega) (by omega)
  have p2 : ¬ (markVirtualFunctionS aList 1).1 < 0 := by simp only [markVirtualFunctionS]; omega
  have n1 : mko 8 (TickFunctions aList aTicks) 1 = true := mko_mk us (by omega) (by omega)
  have n2 : hdo fVirtualFunctionS 8 (markVirtualFunctionS (TickFunctions aList aTicks) 1).2 1 = true := hdo_mk us (by omega) (by omega)
  have n3 : heldVirtualFunctionS (markVirtualFunctionS (TickFunctions aList aTicks) 1).2 1 = (markVirtualFunctionS (TickFunctions aList aTicks) 1).1 := by simp only [heldVirtualFunctionS, markVirtualFunctionS, mkl_length]
  have n4 : decide ((markVirtualFunctionS (TickFunctions aList aTicks) 1).1 < 0) = false := decide_eq_false (by simp only [markVirtualFunctionS]; omega)
  simp only [c0, decide_false, cond_false, cond_true, idf, k0.2, ko, p1, p2, n1, n2, n3, n4, andt_true_l, andt_true_r, same_refl, yes2, beq_self_eq_true, bne_self_eq_false, Bool.not_true, okm_tt]

end
end Go.Proofs.Ytfnkhejoihnlnaa.Pl
