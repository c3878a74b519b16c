/- What functions of the program compute, in plain Lean, as the value machine runs them. Conditions: none. -/
import Derived.Test.YthpmalpdnnbkgaaGreatPLs
import Derived.Test.YthpmalpdnnbkgaaGreatDp
set_option linter.unusedVariables false
set_option linter.unusedSimpArgs false
set_option maxRecDepth 100000
namespace Go.Proofs.YthpmalpdnnbkgaaGreat.Pl
open Vm
noncomputable section


def laws_markPoolS_l0 {α : Type} (bad : α) (k_ : Int → Rows → α) (ih0 : Int → Int → Rows → α) (k_1 : Int) (i : Int) (a_1 : Rows) : α :=
  let z0 : Rows := List.set a_1 (Int.toNat i) (splice (nth a_1 (Int.toNat i)) 0 [.int k_1])
  let z1 : Rows := List.set z0 (Int.toNat i) (splice (nth z0 (Int.toNat i)) 1 [.int (w64 (k_1 + 1))])
  let z2 : Int := w64 ((w64 (k_1 + 1)) + 1)
  let z3 : Rows := List.set z1 (Int.toNat i) (splice (nth z1 (Int.toNat i)) 2 [.int z2])
  let z4 : List DC := nth z3 (Int.toNat i)
  let z5 : Rows := rR z4 3
  let z6 : Int := w64 (z2 + 1)
  let z7 : Int × Rows := markIntS z5 z6
  bif decide (i < len a_1) then
    bif andt (andt true (idx i a_1)) (inl (Int.toNat i) a_1) then
      bif andt (andt true (idx i z0)) (inl (Int.toNat i) z0) then
        bif andt (andt true (idx i z1)) (inl (Int.toNat i) z1) then
          bif andt (andt (andt true (idx i z3)) (inl (Int.toNat i) z3)) (mko 1 z5 z6) then
            ih0 z7.1 (w64 (i + 1)) (List.set z3 (Int.toNat i) (splice z4 3 [.sl z7.2]))
          else bad
        else bad
      else bad
    else bad
  else k_ k_1 a_1
def laws_markPoolS_L0 {α : Type} (bad : α) (k_ : Int → Rows → α) (N : Nat) (m_ : Nat) : Int → Int → Rows → α :=
  Nat.rec (motive := fun _ => Int → Int → Rows → α) (fun _ _ _ => bad) (fun _ ih0 => laws_markPoolS_l0 bad k_ ih0) m_
theorem laws_markPoolS_L0_z {α : Type} (bad : α) (k_ : Int → Rows → α) (N : Nat) (k_1 : Int) (i : Int) (a_1 : Rows) : laws_markPoolS_L0 bad k_ N 0 k_1 i a_1 = bad := rfl
theorem laws_markPoolS_L0_s {α : Type} (bad : α) (k_ : Int → Rows → α) (N : Nat) (m_ : Nat) (k_1 : Int) (i : Int) (a_1 : Rows) : laws_markPoolS_L0 bad k_ N (m_ + 1) k_1 i a_1 = laws_markPoolS_l0 bad k_ (laws_markPoolS_L0 bad k_ N m_) k_1 i a_1 := rfl
def laws_markPoolS_t {α : Type} (bad : α) (k_ : Int → Rows → α) (l0 : Int → Int → Rows → α) (a : Rows) (k : Int) : α :=
  l0 k 0 a
def laws_markPoolS_f {α : Type} (bad : α) (k_ : Int → Rows → α) (N : Nat) (a : Rows) (k : Int) : α := laws_markPoolS_t bad k_ (laws_markPoolS_L0 bad k_ N N) a k
def fPoolS (r : List DC) (k : Int) : List DC × Int := ([.int (k), .int (k + 1), .int (k + 1 + 1), .sl (mkl fIntS 1 (rR r 3).length (k + 1 + 1 + 1))], k + 1 + 1 + 1 + 1 * (rR r 3).length)
def gPoolS (r : List DC) (k : Int) : Bool := mko 1 (rR r 3) (k + 1 + 1 + 1)
def markPoolS (a : Rows) (k : Int) : Int × Rows := ((mkd fPoolS a k).2, (mkd fPoolS a k).1)
theorem laws_markPoolS_c {α : Type} (bad : α) (k_ : Int → Rows → α) (a : Rows) (k : Int) (h_a : WtC (.sl [.int .i64, .int .i64, .int .i64, .sl [.int .i64]]) (.sl a)) (h_k : WtC (.int .i64) (.int k)) (hok : mkdOk fPoolS gPoolS a k = true) : ∃ N, laws_markPoolS_f bad k_ N a k = k_ (markPoolS a k).1 (markPoolS a k).2 := by
  obtain ⟨hl, hw⟩ := wt_sl h_a
  refine ⟨a.length + 1, ?_⟩
  unfold laws_markPoolS_f laws_markPoolS_t markPoolS
  refine mkd_loop a k fPoolS gPoolS (laws_markPoolS_L0 bad k_ (a.length + 1)) k_ hok ?_ ?_
  · intro n i k b h hb hn hg
    rw [laws_markPoolS_L0_s]
    have hr := wtl_len (hw (nth a i) (nth_mem h))
    have hk : -1 * 4 ≤ k := by have := (mko_of hg).2.1; omega
    rw [← hn] at hg hr ⊢
    have hbi : i < b.length := by omega
    generalize hrr : nth b i = r at *
    match r, hr with
    | [a0, a1, a2, a3], _ =>
      have hg' : mko 1 (DC.asRows a3) (k + 1 + 1 + 1) = true := hg
      obtain ⟨g1, g2, g3⟩ := mko_of hg'
      have rr : ∀ x0 x1 x2 x3 : DC, rR [x0, x1, x2, x3] 3 = DC.asRows x3 := fun _ _ _ _ => rfl
      have s0 : ∀ x0 x1 x2 x3 v : DC, splice [x0, x1, x2, x3] 0 [v] = [v, x1, x2, x3] := fun _ _ _ _ _ => rfl
      have s1 : ∀ x0 x1 x2 x3 v : DC, splice [x0, x1, x2, x3] 1 [v] = [x0, v, x2, x3] := fun _ _ _ _ _ => rfl
      have s2 : ∀ x0 x1 x2 x3 v : DC, splice [x0, x1, x2, x3] 2 [v] = [x0, x1, v, x3] := fun _ _ _ _ _ => rfl
      have s3 : ∀ x0 x1 x2 x3 v : DC, splice [x0, x1, x2, x3] 3 [v] = [x0, x1, x2, v] := fun _ _ _ _ _ => rfl
      have w0 : w64 (k + 1) = k + 1 := w64_in (by omega) (by omega)
      have w1 : w64 (k + 1 + 1) = k + 1 + 1 := w64_in (by omega) (by omega)
      have w2 : w64 (k + 1 + 1 + 1) = k + 1 + 1 + 1 := w64_in (by omega) (by omega)
      simp only [laws_markPoolS_l0, lt_len hbi, idx_nat hbi, inl_nat hbi, w64_succ h hl, Int.toNat_natCast, andt_true_l, andt_true_r, cond_true, hrr, w0, w1, w2, idx_setl, inl_setl, List.set_set, nth_setl hbi, s0, s1, s2, s3, rr, markIntS, hg', fPoolS]
  · intro n k b hb
    rw [laws_markPoolS_L0_s]
    simp only [laws_markPoolS_l0, ← hb, not_lt_len, cond_false]


def smPoolS (a : Rows) : Bool := sm a && a.all (fun r => sm (rR r 3))
theorem markPoolS_facts {a : Rows} (h : smPoolS a = true) {k : Int} (h0 : 0 ≤ k) (h1 : k ≤ 600000000000000) : mkdOk fPoolS gPoolS a k = true ∧ k ≤ (markPoolS a k).1 ∧ (markPoolS a k).1 ≤ k + 281475110928384 := by
  simp only [smPoolS, Bool.and_eq_true, List.all_eq_true] at h
  have hl := sm_le h.1
  obtain ⟨h2, h3, h4⟩ := mkd_sizes (f := fPoolS) (g := gPoolS) (B := 1125899906842000) (C := 16777224) (by omega) a k (fun r hr k k0 k1 => by
    have hs := sm_le (h.2 r hr)
    refine ⟨mko_mk (h.2 r hr) (by omega) (by omega), ?_, ?_⟩
    · show k ≤ k + 1 + 1 + 1 + 1 * ((rR r 3).length : Int)
      omega
    · show k + 1 + 1 + 1 + 1 * ((rR r 3).length : Int) ≤ k + 16777224
      omega) h0 (by omega)
  exact ⟨h2, h3, by show (mkd fPoolS a k).2 ≤ _; omega⟩

def laws_markSentS_l0 {α : Type} (bad : α) (k_ : Int → Rows → α) (ih0 : Int → Int → Rows → α) (k_1 : Int) (i : Int) (a_1 : Rows) : α :=
  let z0 : Rows := List.set a_1 (Int.toNat i) (splice (nth a_1 (Int.toNat i)) 0 [.int k_1])
  let z1 : Rows := List.set z0 (Int.toNat i) (splice (nth z0 (Int.toNat i)) 1 [.int (w64 (k_1 + 1))])
  let z2 : List DC := nth z1 (Int.toNat i)
  let z3 : Rows := rR z2 2
  let z4 : Int := w64 ((w64 (k_1 + 1)) + 1)
  let z5 : Int × Rows := markIntS z3 z4
  bif decide (i < len a_1) then
    bif andt (andt true (idx i a_1)) (inl (Int.toNat i) a_1) then
      bif andt (andt true (idx i z0)) (inl (Int.toNat i) z0) then
        bif andt (andt (andt true (idx i z1)) (inl (Int.toNat i) z1)) (mko 1 z3 z4) then
          ih0 z5.1 (w64 (i + 1)) (List.set z1 (Int.toNat i) (splice z2 2 [.sl z5.2]))
        else bad
      else bad
    else bad
  else k_ k_1 a_1
def laws_markSentS_L0 {α : Type} (bad : α) (k_ : Int → Rows → α) (N : Nat) (m_ : Nat) : Int → Int → Rows → α :=
  Nat.rec (motive := fun _ => Int → Int → Rows → α) (fun _ _ _ => bad) (fun _ ih0 => laws_markSentS_l0 bad k_ ih0) m_
theorem laws_markSentS_L0_z {α : Type} (bad : α) (k_ : Int → Rows → α) (N : Nat) (k_1 : Int) (i : Int) (a_1 : Rows) : laws_markSentS_L0 bad k_ N 0 k_1 i a_1 = bad := rfl
theorem laws_markSentS_L0_s {α : Type} (bad : α) (k_ : Int → Rows → α) (N : Nat) (m_ : Nat) (k_1 : Int) (i : Int) (a_1 : Rows) : laws_markSentS_L0 bad k_ N (m_ + 1) k_1 i a_1 = laws_markSentS_l0 bad k_ (laws_markSentS_L0 bad k_ N m_) k_1 i a_1 := rfl
def laws_markSentS_t {α : Type} (bad : α) (k_ : Int → Rows → α) (l0 : Int → Int → Rows → α) (a : Rows) (k : Int) : α :=
  l0 k 0 a
def laws_markSentS_f {α : Type} (bad : α) (k_ : Int → Rows → α) (N : Nat) (a : Rows) (k : Int) : α := laws_markSentS_t bad k_ (laws_markSentS_L0 bad k_ N N) a k
def fSentS (r : List DC) (k : Int) : List DC × Int := ([.int (k), .int (k + 1), .sl (mkl fIntS 1 (rR r 2).length (k + 1 + 1))], k + 1 + 1 + 1 * (rR r 2).length)
def gSentS (r : List DC) (k : Int) : Bool := mko 1 (rR r 2) (k + 1 + 1)
def markSentS (a : Rows) (k : Int) : Int × Rows := ((mkd fSentS a k).2, (mkd fSentS a k).1)
theorem laws_markSentS_c {α : Type} (bad : α) (k_ : Int → Rows → α) (a : Rows) (k : Int) (h_a : WtC (.sl [.int .i64, .int .i64, .sl [.int .i64]]) (.sl a)) (h_k : WtC (.int .i64) (.int k)) (hok : mkdOk fSentS gSentS a k = true) : ∃ N, laws_markSentS_f bad k_ N a k = k_ (markSentS a k).1 (markSentS a k).2 := by
  obtain ⟨hl, hw⟩ := wt_sl h_a
  refine ⟨a.length + 1, ?_⟩
  unfold laws_markSentS_f laws_markSentS_t markSentS
  refine mkd_loop a k fSentS gSentS (laws_markSentS_L0 bad k_ (a.length + 1)) k_ hok ?_ ?_
  · intro n i k b h hb hn hg
    rw [laws_markSentS_L0_s]
    have hr := wtl_len (hw (nth a i) (nth_mem h))
    have hk : -1 * 3 ≤ k := by have := (mko_of hg).2.1; omega
    rw [← hn] at hg hr ⊢
    have hbi : i < b.length := by omega
    generalize hrr : nth b i = r at *
    match r, hr with
    | [a0, a1, a2], _ =>
      have hg' : mko 1 (DC.asRows a2) (k + 1 + 1) = true := hg
      obtain ⟨g1, g2, g3⟩ := mko_of hg'
      have rr : ∀ x0 x1 x2 : DC, rR [x0, x1, x2] 2 = DC.asRows x2 := fun _ _ _ => rfl
      have s0 : ∀ x0 x1 x2 v : DC, splice [x0, x1, x2] 0 [v] = [v, x1, x2] := fun _ _ _ _ => rfl
      have s1 : ∀ x0 x1 x2 v : DC, splice [x0, x1, x2] 1 [v] = [x0, v, x2] := fun _ _ _ _ => rfl
      have s2 : ∀ x0 x1 x2 v : DC, splice [x0, x1, x2] 2 [v] = [x0, x1, v] := fun _ _ _ _ => rfl
      have w0 : w64 (k + 1) = k + 1 := w64_in (by omega) (by omega)
      have w1 : w64 (k + 1 + 1) = k + 1 + 1 := w64_in (by omega) (by omega)
      simp only [laws_markSentS_l0, lt_len hbi, idx_nat hbi, inl_nat hbi, w64_succ h hl, Int.toNat_natCast, andt_true_l, andt_true_r, cond_true, hrr, w0, w1, idx_setl, inl_setl, List.set_set, nth_setl hbi, s0, s1, s2, rr, markIntS, hg', fSentS]
  · intro n k b hb
    rw [laws_markSentS_L0_s]
    simp only [laws_markSentS_l0, ← hb, not_lt_len, cond_false]


def smSentS (a : Rows) : Bool := sm a && a.all (fun r => sm (rR r 2))
theorem markSentS_facts {a : Rows} (h : smSentS a = true) {k : Int} (h0 : 0 ≤ k) (h1 : k ≤ 600000000000000) : mkdOk fSentS gSentS a k = true ∧ k ≤ (markSentS a k).1 ∧ (markSentS a k).1 ≤ k + 281475110928384 := by
  simp only [smSentS, Bool.and_eq_true, List.all_eq_true] at h
  have hl := sm_le h.1
  obtain ⟨h2, h3, h4⟩ := mkd_sizes (f := fSentS) (g := gSentS) (B := 1125899906842000) (C := 16777224) (by omega) a k (fun r hr k k0 k1 => by
    have hs := sm_le (h.2 r hr)
    refine ⟨mko_mk (h.2 r hr) (by omega) (by omega), ?_, ?_⟩
    · show k ≤ k + 1 + 1 + 1 * ((rR r 2).length : Int)
      omega
    · show k + 1 + 1 + 1 * ((rR r 2).length : Int) ≤ k + 16777224
      omega) h0 (by omega)
  exact ⟨h2, h3, by show (mkd fSentS a k).2 ≤ _; omega⟩

def laws_markStreamS_l0 {α : Type} (bad : α) (k_ : Int → Rows → α) (ih0 : Int → Int → Rows → α) (k_1 : Int) (i : Int) (a_1 : Rows) : α :=
  let z0 : Rows := List.set a_1 (Int.toNat i) (splice (nth a_1 (Int.toNat i)) 0 [.int k_1])
  let z1 : Rows := List.set z0 (Int.toNat i) (splice (nth z0 (Int.toNat i)) 1 [.int (w64 (k_1 + 1))])
  let z2 : Int := w64 ((w64 (k_1 + 1)) + 1)
  let z3 : Rows := List.set z1 (Int.toNat i) (splice (nth z1 (Int.toNat i)) 2 [.int z2])
  let z4 : Int := w64 (z2 + 1)
  let z5 : Rows := List.set z3 (Int.toNat i) (splice (nth z3 (Int.toNat i)) 3 [.int z4])
  let z6 : Int := w64 (z4 + 1)
  let z7 : Rows := List.set z5 (Int.toNat i) (splice (nth z5 (Int.toNat i)) 4 [.int z6])
  let z8 : Int := w64 (z6 + 1)
  let z9 : Rows := List.set z7 (Int.toNat i) (splice (nth z7 (Int.toNat i)) 5 [.int z8])
  let z10 : Int := w64 (z8 + 1)
  let z11 : Rows := List.set z9 (Int.toNat i) (splice (nth z9 (Int.toNat i)) 6 [.str (markText z10)])
  let z12 : Int := w64 (z10 + 1)
  bif decide (i < len a_1) then
    bif andt (andt true (idx i a_1)) (inl (Int.toNat i) a_1) then
      bif andt (andt true (idx i z0)) (inl (Int.toNat i) z0) then
        bif andt (andt true (idx i z1)) (inl (Int.toNat i) z1) then
          bif andt (andt true (idx i z3)) (inl (Int.toNat i) z3) then
            bif andt (andt true (idx i z5)) (inl (Int.toNat i) z5) then
              bif andt (andt true (idx i z7)) (inl (Int.toNat i) z7) then
                bif andt (andt true (idx i z9)) (inl (Int.toNat i) z9) then
                  bif andt (andt true (idx i z11)) (inl (Int.toNat i) z11) then
                    ih0 (w64 (z12 + 1)) (w64 (i + 1)) (List.set z11 (Int.toNat i) (splice (nth z11 (Int.toNat i)) 7 [.bool ((Int.tmod z12 3) == 0)]))
                  else bad
                else bad
              else bad
            else bad
          else bad
        else bad
      else bad
    else bad
  else k_ k_1 a_1
def laws_markStreamS_L0 {α : Type} (bad : α) (k_ : Int → Rows → α) (N : Nat) (m_ : Nat) : Int → Int → Rows → α :=
  Nat.rec (motive := fun _ => Int → Int → Rows → α) (fun _ _ _ => bad) (fun _ ih0 => laws_markStreamS_l0 bad k_ ih0) m_
theorem laws_markStreamS_L0_z {α : Type} (bad : α) (k_ : Int → Rows → α) (N : Nat) (k_1 : Int) (i : Int) (a_1 : Rows) : laws_markStreamS_L0 bad k_ N 0 k_1 i a_1 = bad := rfl
theorem laws_markStreamS_L0_s {α : Type} (bad : α) (k_ : Int → Rows → α) (N : Nat) (m_ : Nat) (k_1 : Int) (i : Int) (a_1 : Rows) : laws_markStreamS_L0 bad k_ N (m_ + 1) k_1 i a_1 = laws_markStreamS_l0 bad k_ (laws_markStreamS_L0 bad k_ N m_) k_1 i a_1 := rfl
def laws_markStreamS_t {α : Type} (bad : α) (k_ : Int → Rows → α) (l0 : Int → Int → Rows → α) (a : Rows) (k : Int) : α :=
  l0 k 0 a
def laws_markStreamS_f {α : Type} (bad : α) (k_ : Int → Rows → α) (N : Nat) (a : Rows) (k : Int) : α := laws_markStreamS_t bad k_ (laws_markStreamS_L0 bad k_ N N) a k
def fStreamS (k : Int) : List DC := [.int (k), .int (k + 1), .int (k + 1 + 1), .int (k + 1 + 1 + 1), .int (k + 1 + 1 + 1 + 1), .int (k + 1 + 1 + 1 + 1 + 1), .str (markText (k + 1 + 1 + 1 + 1 + 1 + 1)), .bool (Int.tmod (k + 1 + 1 + 1 + 1 + 1 + 1 + 1) 3 == 0)]
def markStreamS (a : Rows) (k : Int) : Int × Rows := (k + 8 * a.length, mkl fStreamS 8 a.length k)
theorem rowStreamS (K : Int) (r : List DC) (hr : r.length = 8) : splice (splice (splice (splice (splice (splice (splice (splice r 0 [.int (K)]) 1 [.int (K + 1)]) 2 [.int (K + 1 + 1)]) 3 [.int (K + 1 + 1 + 1)]) 4 [.int (K + 1 + 1 + 1 + 1)]) 5 [.int (K + 1 + 1 + 1 + 1 + 1)]) 6 [.str (markText (K + 1 + 1 + 1 + 1 + 1 + 1))]) 7 [.bool (Int.tmod (K + 1 + 1 + 1 + 1 + 1 + 1 + 1) 3 == 0)] = fStreamS K := by
  obtain ⟨a0, r1, rfl, h1⟩ := len_cons hr
  obtain ⟨a1, r2, rfl, h2⟩ := len_cons h1
  obtain ⟨a2, r3, rfl, h3⟩ := len_cons h2
  obtain ⟨a3, r4, rfl, h4⟩ := len_cons h3
  obtain ⟨a4, r5, rfl, h5⟩ := len_cons h4
  obtain ⟨a5, r6, rfl, h6⟩ := len_cons h5
  obtain ⟨a6, r7, rfl, h7⟩ := len_cons h6
  obtain ⟨a7, r8, rfl, h8⟩ := len_cons h7
  obtain rfl := List.length_eq_zero_iff.1 h8
  kernel_rfl
theorem laws_markStreamS_c {α : Type} (bad : α) (k_ : Int → Rows → α) (a : Rows) (k : Int) (h_a : WtC (.sl [.int .i64, .int .i64, .int .i64, .int .i64, .int .i64, .int .i64, .str, .bool]) (.sl a)) (h_k : WtC (.int .i64) (.int k)) (hok : mko 8 a k = true) : ∃ N, laws_markStreamS_f bad k_ N a k = k_ (markStreamS a k).1 (markStreamS a k).2 := by
  obtain ⟨hl, hw⟩ := wt_sl h_a
  obtain ⟨h1, h2, h3⟩ := mko_of hok
  refine ⟨a.length + 1, ?_⟩
  unfold laws_markStreamS_f laws_markStreamS_t markStreamS
  refine mark_loop a k 8 fStreamS (laws_markStreamS_L0 bad k_ (a.length + 1)) k_ ?_ ?_
  · intro n i b h hb hn
    rw [laws_markStreamS_L0_s]
    have hk0 : 0 ≤ k + 8 * (i : Int) := by omega
    have hk1 : k + 8 * (i : Int) ≤ 1125901000000000000 := by omega
    generalize k + 8 * (i : Int) = K at hk0 hk1 ⊢
    have b0 : 0 ≤ K ∧ K ≤ 1125901000000000000 := ⟨hk0, hk1⟩
    obtain ⟨w1, b1⟩ := w64_one b0 (by decide)
    obtain ⟨w2, b2⟩ := w64_one b1 (by decide)
    obtain ⟨w3, b3⟩ := w64_one b2 (by decide)
    obtain ⟨w4, b4⟩ := w64_one b3 (by decide)
    obtain ⟨w5, b5⟩ := w64_one b4 (by decide)
    obtain ⟨w6, b6⟩ := w64_one b5 (by decide)
    obtain ⟨w7, b7⟩ := w64_one b6 (by decide)
    obtain ⟨w8, b8⟩ := w64_one b7 (by decide)
    have hr := wtl_len (hw (nth a i) (nth_mem h))
    have hbi : i < b.length := by omega
    simp only [laws_markStreamS_l0, lt_len hbi, idx_nat hbi, inl_nat hbi, w64_succ h hl, Int.toNat_natCast, andt_true_l, andt_true_r, cond_true, hn, w1, w2, w3, w4, w5, w6, w7, w8, idx_setl, inl_setl, List.set_set, nth_setl hbi]
    rw [show K + 1 + 1 + 1 + 1 + 1 + 1 + 1 + 1 = K + 8 by simp only [Int.add_assoc]; rfl, rowStreamS K (nth a i) hr]
  · intro n b hb
    rw [laws_markStreamS_L0_s]
    simp only [laws_markStreamS_l0, ← hb, not_lt_len, cond_false]

def laws_markRxQueueS_l0 {α : Type} (bad : α) (k_ : Int → Rows → α) (ih0 : Int → Int → Rows → α) (k_1 : Int) (i : Int) (a_1 : Rows) : α :=
  let z0 : Rows := List.set a_1 (Int.toNat i) (splice (nth a_1 (Int.toNat i)) 0 [.int k_1])
  let z1 : Rows := List.set z0 (Int.toNat i) (splice (nth z0 (Int.toNat i)) 1 [.int (w64 (k_1 + 1))])
  let z2 : Int := w64 ((w64 (k_1 + 1)) + 1)
  let z3 : Rows := List.set z1 (Int.toNat i) (splice (nth z1 (Int.toNat i)) 2 [.int z2])
  let z4 : Int := w64 (z2 + 1)
  let z5 : Rows := List.set z3 (Int.toNat i) (splice (nth z3 (Int.toNat i)) 3 [.int z4])
  let z6 : Int := w64 (z4 + 1)
  let z7 : Rows := List.set z5 (Int.toNat i) (splice (nth z5 (Int.toNat i)) 4 [.int z6])
  let z8 : Int := w64 (z6 + 1)
  let z9 : Rows := List.set z7 (Int.toNat i) (splice (nth z7 (Int.toNat i)) 5 [.int z8])
  let z10 : Int := w64 (z8 + 1)
  let z11 : Rows := List.set z9 (Int.toNat i) (splice (nth z9 (Int.toNat i)) 6 [.int z10])
  let z12 : Int := w64 (z10 + 1)
  let z13 : Rows := List.set z11 (Int.toNat i) (splice (nth z11 (Int.toNat i)) 7 [.int z12])
  let z14 : Int := w64 (z12 + 1)
  let z15 : Rows := List.set z13 (Int.toNat i) (splice (nth z13 (Int.toNat i)) 8 [.int z14])
  let z16 : Int := w64 (z14 + 1)
  let z17 : Rows := List.set z15 (Int.toNat i) (splice (nth z15 (Int.toNat i)) 9 [.int z16])
  let z18 : Int := w64 (z16 + 1)
  let z19 : Rows := List.set z17 (Int.toNat i) (splice (nth z17 (Int.toNat i)) 10 [.int z18])
  let z20 : Int := w64 (z18 + 1)
  let z21 : Rows := List.set z19 (Int.toNat i) (splice (nth z19 (Int.toNat i)) 11 [.int z20])
  let z22 : Int := w64 (z20 + 1)
  let z23 : Rows := List.set z21 (Int.toNat i) (splice (nth z21 (Int.toNat i)) 12 [.int z22])
  let z24 : Int := w64 (z22 + 1)
  let z25 : Rows := List.set z23 (Int.toNat i) (splice (nth z23 (Int.toNat i)) 13 [.int z24])
  let z26 : Int := w64 (z24 + 1)
  let z27 : Rows := List.set z25 (Int.toNat i) (splice (nth z25 (Int.toNat i)) 14 [.int z26])
  let z28 : Int := w64 (z26 + 1)
  let z29 : Rows := List.set z27 (Int.toNat i) (splice (nth z27 (Int.toNat i)) 15 [.int z28])
  let z30 : Int := w64 (z28 + 1)
  let z31 : Rows := List.set z29 (Int.toNat i) (splice (nth z29 (Int.toNat i)) 16 [.int z30])
  let z32 : Int := w64 (z30 + 1)
  let z33 : Rows := List.set z31 (Int.toNat i) (splice (nth z31 (Int.toNat i)) 17 [.int z32])
  let z34 : Int := w64 (z32 + 1)
  let z35 : Rows := List.set z33 (Int.toNat i) (splice (nth z33 (Int.toNat i)) 18 [.int z34])
  let z36 : Int := w64 (z34 + 1)
  let z37 : Rows := List.set z35 (Int.toNat i) (splice (nth z35 (Int.toNat i)) 19 [.int z36])
  let z38 : Int := w64 (z36 + 1)
  let z39 : Rows := List.set z37 (Int.toNat i) (splice (nth z37 (Int.toNat i)) 20 [.int z38])
  let z40 : Int := w64 (z38 + 1)
  let z41 : Rows := List.set z39 (Int.toNat i) (splice (nth z39 (Int.toNat i)) 21 [.int z40])
  let z42 : Int := w64 (z40 + 1)
  let z43 : Rows := List.set z41 (Int.toNat i) (splice (nth z41 (Int.toNat i)) 22 [.int z42])
  let z44 : Int := w64 (z42 + 1)
  let z45 : Rows := List.set z43 (Int.toNat i) (splice (nth z43 (Int.toNat i)) 23 [.int z44])
  let z46 : Int := w64 (z44 + 1)
  let z47 : Rows := List.set z45 (Int.toNat i) (splice (nth z45 (Int.toNat i)) 24 [.int z46])
  let z48 : Int := w64 (z46 + 1)
  let z49 : Rows := List.set z47 (Int.toNat i) (splice (nth z47 (Int.toNat i)) 25 [.str (markText z48)])
  let z50 : Int := w64 (z48 + 1)
  let z51 : Rows := List.set z49 (Int.toNat i) (splice (nth z49 (Int.toNat i)) 26 [.int z50])
  let z52 : Int := w64 (z50 + 1)
  let z53 : Rows := List.set z51 (Int.toNat i) (splice (nth z51 (Int.toNat i)) 27 [.int z52])
  let z54 : Int := w64 (z52 + 1)
  let z55 : Rows := List.set z53 (Int.toNat i) (splice (nth z53 (Int.toNat i)) 28 [.bool ((Int.tmod z54 3) == 0)])
  let z56 : Int := w64 (z54 + 1)
  bif decide (i < len a_1) then
    bif andt (andt true (idx i a_1)) (inl (Int.toNat i) a_1) then
      bif andt (andt true (idx i z0)) (inl (Int.toNat i) z0) then
        bif andt (andt true (idx i z1)) (inl (Int.toNat i) z1) then
          bif andt (andt true (idx i z3)) (inl (Int.toNat i) z3) then
            bif andt (andt true (idx i z5)) (inl (Int.toNat i) z5) then
              bif andt (andt true (idx i z7)) (inl (Int.toNat i) z7) then
                bif andt (andt true (idx i z9)) (inl (Int.toNat i) z9) then
                  bif andt (andt true (idx i z11)) (inl (Int.toNat i) z11) then
                    bif andt (andt true (idx i z13)) (inl (Int.toNat i) z13) then
                      bif andt (andt true (idx i z15)) (inl (Int.toNat i) z15) then
                        bif andt (andt true (idx i z17)) (inl (Int.toNat i) z17) then
                          bif andt (andt true (idx i z19)) (inl (Int.toNat i) z19) then
                            bif andt (andt true (idx i z21)) (inl (Int.toNat i) z21) then
                              bif andt (andt true (idx i z23)) (inl (Int.toNat i) z23) then
                                bif andt (andt true (idx i z25)) (inl (Int.toNat i) z25) then
                                  bif andt (andt true (idx i z27)) (inl (Int.toNat i) z27) then
                                    bif andt (andt true (idx i z29)) (inl (Int.toNat i) z29) then
                                      bif andt (andt true (idx i z31)) (inl (Int.toNat i) z31) then
                                        bif andt (andt true (idx i z33)) (inl (Int.toNat i) z33) then
                                          bif andt (andt true (idx i z35)) (inl (Int.toNat i) z35) then
                                            bif andt (andt true (idx i z37)) (inl (Int.toNat i) z37) then
                                              bif andt (andt true (idx i z39)) (inl (Int.toNat i) z39) then
                                                bif andt (andt true (idx i z41)) (inl (Int.toNat i) z41) then
                                                  bif andt (andt true (idx i z43)) (inl (Int.toNat i) z43) then
                                                    bif andt (andt true (idx i z45)) (inl (Int.toNat i) z45) then
                                                      bif andt (andt true (idx i z47)) (inl (Int.toNat i) z47) then
                                                        bif andt (andt true (idx i z49)) (inl (Int.toNat i) z49) then
                                                          bif andt (andt true (idx i z51)) (inl (Int.toNat i) z51) then
                                                            bif andt (andt true (idx i z53)) (inl (Int.toNat i) z53) then
                                                              bif andt (andt true (idx i z55)) (inl (Int.toNat i) z55) then
                                                                ih0 (w64 (z56 + 1)) (w64 (i + 1)) (List.set z55 (Int.toNat i) (splice (nth z55 (Int.toNat i)) 29 [.int z56]))
                                                              else bad
                                                            else bad
                                                          else bad
                                                        else bad
                                                      else bad
                                                    else bad
                                                  else bad
                                                else bad
                                              else bad
                                            else bad
                                          else bad
                                        else bad
                                      else bad
                                    else bad
                                  else bad
                                else bad
                              else bad
                            else bad
                          else bad
                        else bad
                      else bad
                    else bad
                  else bad
                else bad
              else bad
            else bad
          else bad
        else bad
      else bad
    else bad
  else k_ k_1 a_1
def laws_markRxQueueS_L0 {α : Type} (bad : α) (k_ : Int → Rows → α) (N : Nat) (m_ : Nat) : Int → Int → Rows → α :=
  Nat.rec (motive := fun _ => Int → Int → Rows → α) (fun _ _ _ => bad) (fun _ ih0 => laws_markRxQueueS_l0 bad k_ ih0) m_
theorem laws_markRxQueueS_L0_z {α : Type} (bad : α) (k_ : Int → Rows → α) (N : Nat) (k_1 : Int) (i : Int) (a_1 : Rows) : laws_markRxQueueS_L0 bad k_ N 0 k_1 i a_1 = bad := rfl
theorem laws_markRxQueueS_L0_s {α : Type} (bad : α) (k_ : Int → Rows → α) (N : Nat) (m_ : Nat) (k_1 : Int) (i : Int) (a_1 : Rows) : laws_markRxQueueS_L0 bad k_ N (m_ + 1) k_1 i a_1 = laws_markRxQueueS_l0 bad k_ (laws_markRxQueueS_L0 bad k_ N m_) k_1 i a_1 := rfl
def laws_markRxQueueS_t {α : Type} (bad : α) (k_ : Int → Rows → α) (l0 : Int → Int → Rows → α) (a : Rows) (k : Int) : α :=
  l0 k 0 a
def laws_markRxQueueS_f {α : Type} (bad : α) (k_ : Int → Rows → α) (N : Nat) (a : Rows) (k : Int) : α := laws_markRxQueueS_t bad k_ (laws_markRxQueueS_L0 bad k_ N N) a k
def fRxQueueS (k : Int) : List DC := [.int (k), .int (k + 1), .int (k + 1 + 1), .int (k + 1 + 1 + 1), .int (k + 1 + 1 + 1 + 1), .int (k + 1 + 1 + 1 + 1 + 1), .int (k + 1 + 1 + 1 + 1 + 1 + 1), .int (k + 1 + 1 + 1 + 1 + 1 + 1 + 1), .int (k + 1 + 1 + 1 + 1 + 1 + 1 + 1 + 1), .int (k + 1 + 1 + 1 + 1 + 1 + 1 + 1 + 1 + 1), .int (k + 1 + 1 + 1 + 1 + 1 + 1 + 1 + 1 + 1 + 1), .int (k + 1 + 1 + 1 + 1 + 1 + 1 + 1 + 1 + 1 + 1 + 1), .int (k + 1 + 1 + 1 + 1 + 1 + 1 + 1 + 1 + 1 + 1 + 1 + 1), .int (k + 1 + 1 + 1 + 1 + 1 + 1 + 1 + 1 + 1 + 1 + 1 + 1 + 1), .int (k + 1 + 1 + 1 + 1 + 1 + 1 + 1 + 1 + 1 + 1 + 1 + 1 + 1 + 1), .int (k + 1 + 1 + 1 + 1 + 1 + 1 + 1 + 1 + 1 + 1 + 1 + 1 + 1 + 1 + 1), .int (k + 1 + 1 + 1 + 1 + 1 + 1 + 1 + 1 + 1 + 1 + 1 + 1 + 1 + 1 + 1 + 1), .int (k + 1 + 1 + 1 + 1 + 1 + 1 + 1 + 1 + 1 + 1 + 1 + 1 + 1 + 1 + 1 + 1 + 1), .int (k + 1 + 1 + 1 + 1 + 1 + 1 + 1 + 1 + 1 + 1 + 1 + 1 + 1 + 1 + 1 + 1 + 1 + 1), .int (k + 1 + 1 + 1 + 1 + 1 + 1 + 1 + 1 + 1 + 1 + 1 + 1 + 1 + 1 + 1 + 1 + 1 + 1 + 1), .int (k + 1 + 1 + 1 + 1 + 1 + 1 + 1 + 1 + 1 + 1 + 1 + 1 + 1 + 1 + 1 + 1 + 1 + 1 + 1 + 1), .int (k + 1 + 1 + 1 + 1 + 1 + 1 + 1 + 1 + 1 + 1 + 1 + 1 + 1 + 1 + 1 + 1 + 1 + 1 + 1 + 1 + 1), .int (k + 1 + 1 + 1 + 1 + 1 + 1 + 1 + 1 + 1 + 1 + 1 + 1 + 1 + 1 + 1 + 1 + 1 + 1 + 1 + 1 + 1 + 1), .int (k + 1 + 1 + 1 + 1 + 1 + 1 + 1 + 1 + 1 + 1 + 1 + 1 + 1 + 1 + 1 + 1 + 1 + 1 + 1 + 1 + 1 + 1 + 1), .int (k + 1 + 1 + 1 + 1 + 1 + 1 + 1 + 1 + 1 + 1 + 1 + 1 + 1 + 1 + 1 + 1 + 1 + 1 + 1 + 1 + 1 + 1 + 1 + 1), .str (markText (k + 1 + 1 + 1 + 1 + 1 + 1 + 1 + 1 + 1 + 1 + 1 + 1 + 1 + 1 + 1 + 1 + 1 + 1 + 1 + 1 + 1 + 1 + 1 + 1 + 1)), .int (k + 1 + 1 + 1 + 1 + 1 + 1 + 1 + 1 + 1 + 1 + 1 + 1 + 1 + 1 + 1 + 1 + 1 + 1 + 1 + 1 + 1 + 1 + 1 + 1 + 1 + 1), .int (k + 1 + 1 + 1 + 1 + 1 + 1 + 1 + 1 + 1 + 1 + 1 + 1 + 1 + 1 + 1 + 1 + 1 + 1 + 1 + 1 + 1 + 1 + 1 + 1 + 1 + 1 + 1), .bool (Int.tmod (k + 1 + 1 + 1 + 1 + 1 + 1 + 1 + 1 + 1 + 1 + 1 + 1 + 1 + 1 + 1 + 1 + 1 + 1 + 1 + 1 + 1 + 1 + 1 + 1 + 1 + 1 + 1 + 1) 3 == 0), .int (k + 1 + 1 + 1 + 1 + 1 + 1 + 1 + 1 + 1 + 1 + 1 + 1 + 1 + 1 + 1 + 1 + 1 + 1 + 1 + 1 + 1 + 1 + 1 + 1 + 1 + 1 + 1 + 1 + 1)]
def markRxQueueS (a : Rows) (k : Int) : Int × Rows := (k + 30 * a.length, mkl fRxQueueS 30 a.length k)
theorem rowRxQueueS (K : Int) (r : List DC) (hr : r.length = 30) : splice (splice (splice (splice (splice (splice (splice (splice (splice (splice (splice (splice (splice (splice (splice (splice (splice (splice (splice (splice (splice (splice (splice (splice (splice (splice (splice (splice (splice (splice r 0 [.int (K)]) 1 [.int (K + 1)]) 2 [.int (K + 1 + 1)]) 3 [.int (K + 1 + 1 + 1)]) 4 [.int (K + 1 + 1 + 1 + 1)]) 5 [.int (K + 1 + 1 + 1 + 1 + 1)]) 6 [.int (K + 1 + 1 + 1 + 1 + 1 + 1)]) 7 [.int (K + 1 + 1 + 1 + 1 + 1 + 1 + 1)]) 8 [.int (K + 1 + 1 + 1 + 1 + 1 + 1 + 1 + 1)]) 9 [.int (K + 1 + 1 + 1 + 1 + 1 + 1 + 1 + 1 + 1)]) 10 [.int (K + 1 + 1 + 1 + 1 + 1 + 1 + 1 + 1 + 1 + 1)]) 11 [.int (K + 1 + 1 + 1 + 1 + 1 + 1 + 1 + 1 + 1 + 1 + 1)]) 12 [.int (K + 1 + 1 + 1 + 1 + 1 + 1 + 1 + 1 + 1 + 1 + 1 + 1)]) 13 [.int (K + 1 + 1 + 1 + 1 + 1 + 1 + 1 + 1 + 1 + 1 + 1 + 1 + 1)]) 14 [.int (K + 1 + 1 + 1 + 1 + 1 + 1 + 1 + 1 + 1 + 1 + 1 + 1 + 1 + 1)]) 15 [.int (K + 1 + 1 + 1 + 1 + 1 + 1 + 1 + 1 + 1 + 1 + 1 + 1 + 1 + 1 + 1)]) 16 [.int (K + 1 + 1 + 1 + 1 + 1 + 1 + 1 + 1 + 1 + 1 + 1 + 1 + 1 + 1 + 1 + 1)]) 17 [.int (K + 1 + 1 + 1 + 1 + 1 + 1 + 1 + 1 + 1 + 1 + 1 + 1 + 1 + 1 + 1 + 1 + 1)]) 18 [.int (K + 1 + 1 + 1 + 1 + 1 + 1 + 1 + 1 + 1 + 1 + 1 + 1 + 1 + 1 + 1 + 1 + 1 + 1)]) 19 [.int (K + 1 + 1 + 1 + 1 + 1 + 1 + 1 + 1 + 1 + 1 + 1 + 1 + 1 + 1 + 1 + 1 + 1 + 1 + 1)]) 20 [.int (K + 1 + 1 + 1 + 1 + 1 + 1 + 1 + 1 + 1 + 1 + 1 + 1 + 1 + 1 + 1 + 1 + 1 + 1 + 1 + 1)]) 21 [.int (K + 1 + 1 + 1 + 1 + 1 + 1 + 1 + 1 + 1 + 1 + 1 + 1 + 1 + 1 + 1 + 1 + 1 + 1 + 1 + 1 + 1)]) 22 [.int (K + 1 + 1 + 1 + 1 + 1 + 1 + 1 + 1 + 1 + 1 + 1 + 1 + 1 + 1 + 1 + 1 + 1 + 1 + 1 + 1 + 1 + 1)]) 23 [.int (K + 1 + 1 + 1 + 1 + 1 + 1 + 1 + 1 + 1 + 1 + 1 + 1 + 1 + 1 + 1 + 1 + 1 + 1 + 1 + 1 + 1 + 1 + 1)]) 24 [.int (K + 1 + 1 + 1 + 1 + 1 + 1 + 1 + 1 + 1 + 1 + 1 + 1 + 1 + 1 + 1 + 1 + 1 + 1 + 1 + 1 + 1 + 1 + 1 + 1)]) 25 [.str (markText (K + 1 + 1 + 1 + 1 + 1 + 1 + 1 + 1 + 1 + 1 + 1 + 1 + 1 + 1 + 1 + 1 + 1 + 1 + 1 + 1 + 1 + 1 + 1 + 1 + 1))]) 26 [.int (K + 1 + 1 + 1 + 1 + 1 + 1 + 1 + 1 + 1 + 1 + 1 + 1 + 1 + 1 + 1 + 1 + 1 + 1 + 1 + 1 + 1 + 1 + 1 + 1 + 1 + 1)]) 27 [.int (K + 1 + 1 + 1 + 1 + 1 + 1 + 1 + 1 + 1 + 1 + 1 + 1 + 1 + 1 + 1 + 1 + 1 + 1 + 1 + 1 + 1 + 1 + 1 + 1 + 1 + 1 + 1)]) 28 [.bool (Int.tmod (K + 1 + 1 + 1 + 1 + 1 + 1 + 1 + 1 + 1 + 1 + 1 + 1 + 1 + 1 + 1 + 1 + 1 + 1 + 1 + 1 + 1 + 1 + 1 + 1 + 1 + 1 + 1 + 1) 3 == 0)]) 29 [.int (K + 1 + 1 + 1 + 1 + 1 + 1 + 1 + 1 + 1 + 1 + 1 + 1 + 1 + 1 + 1 + 1 + 1 + 1 + 1 + 1 + 1 + 1 + 1 + 1 + 1 + 1 + 1 + 1 + 1)] = fRxQueueS K := by
  obtain ⟨a0, r1, rfl, h1⟩ := len_cons hr
  obtain ⟨a1, r2, rfl, h2⟩ := len_cons h1
  obtain ⟨a2, r3, rfl, h3⟩ := len_cons h2
  obtain ⟨a3, r4, rfl, h4⟩ := len_cons h3
  obtain ⟨a4, r5, rfl, h5⟩ := len_cons h4
  obtain ⟨a5, r6, rfl, h6⟩ := len_cons h5
  obtain ⟨a6, r7, rfl, h7⟩ := len_cons h6
  obtain ⟨a7, r8, rfl, h8⟩ := len_cons h7
  obtain ⟨a8, r9, rfl, h9⟩ := len_cons h8
  obtain ⟨a9, r10, rfl, h10⟩ := len_cons h9
  obtain ⟨a10, r11, rfl, h11⟩ := len_cons h10
  obtain ⟨a11, r12, rfl, h12⟩ := len_cons h11
  obtain ⟨a12, r13, rfl, h13⟩ := len_cons h12
  obtain ⟨a13, r14, rfl, h14⟩ := len_cons h13
  obtain ⟨a14, r15, rfl, h15⟩ := len_cons h14
  obtain ⟨a15, r16, rfl, h16⟩ := len_cons h15
  obtain ⟨a16, r17, rfl, h17⟩ := len_cons h16
  obtain ⟨a17, r18, rfl, h18⟩ := len_cons h17
  obtain ⟨a18, r19, rfl, h19⟩ := len_cons h18
  obtain ⟨a19, r20, rfl, h20⟩ := len_cons h19
  obtain ⟨a20, r21, rfl, h21⟩ := len_cons h20
  obtain ⟨a21, r22, rfl, h22⟩ := len_cons h21
  obtain ⟨a22, r23, rfl, h23⟩ := len_cons h22
  obtain ⟨a23, r24, rfl, h24⟩ := len_cons h23
  obtain ⟨a24, r25, rfl, h25⟩ := len_cons h24
  obtain ⟨a25, r26, rfl, h26⟩ := len_cons h25
  obtain ⟨a26, r27, rfl, h27⟩ := len_cons h26
  obtain ⟨a27, r28, rfl, h28⟩ := len_cons h27
  obtain ⟨a28, r29, rfl, h29⟩ := len_cons h28
  obtain ⟨a29, r30, rfl, h30⟩ := len_cons h29
  obtain rfl := List.length_eq_zero_iff.1 h30
  kernel_rfl
theorem laws_markRxQueueS_c {α : Type} (bad : α) (k_ : Int → Rows → α) (a : Rows) (k : Int) (h_a : WtC (.sl [.int .i64, .int .i64, .int .i64, .int .i64, .int .i64, .int .i64, .int .i64, .int .i64, .int .i64, .int .i64, .int .i64, .int .i64, .int .i64, .int .i64, .int .i64, .int .i64, .int .i64, .int .i64, .int .i64, .int .i64, .int .i64, .int .i64, .int .i64, .int .i64, .int .i64, .str, .int .i64, .int .i64, .bool, .int .i64]) (.sl a)) (h_k : WtC (.int .i64) (.int k)) (hok : mko 30 a k = true) : ∃ N, laws_markRxQueueS_f bad k_ N a k = k_ (markRxQueueS a k).1 (markRxQueueS a k).2 := by
  obtain ⟨hl, hw⟩ := wt_sl h_a
  obtain ⟨h1, h2, h3⟩ := mko_of hok
  refine ⟨a.length + 1, ?_⟩
  unfold laws_markRxQueueS_f laws_markRxQueueS_t markRxQueueS
  refine mark_loop a k 30 fRxQueueS (laws_markRxQueueS_L0 bad k_ (a.length + 1)) k_ ?_ ?_
  · intro n i b h hb hn
    rw [laws_markRxQueueS_L0_s]
    have hk0 : 0 ≤ k + 30 * (i : Int) := by omega
    have hk1 : k + 30 * (i : Int) ≤ 1125901000000000000 := by omega
    generalize k + 30 * (i : Int) = K at hk0 hk1 ⊢
    have b0 : 0 ≤ K ∧ K ≤ 1125901000000000000 := ⟨hk0, hk1⟩
    obtain ⟨w1, b1⟩ := w64_one b0 (by decide)
    obtain ⟨w2, b2⟩ := w64_one b1 (by decide)
    obtain ⟨w3, b3⟩ := w64_one b2 (by decide)
    obtain ⟨w4, b4⟩ := w64_one b3 (by decide)
    obtain ⟨w5, b5⟩ := w64_one b4 (by decide)
    obtain ⟨w6, b6⟩ := w64_one b5 (by decide)
    obtain ⟨w7, b7⟩ := w64_one b6 (by decide)
    obtain ⟨w8, b8⟩ := w64_one b7 (by decide)
    obtain ⟨w9, b9⟩ := w64_one b8 (by decide)
    obtain ⟨w10, b10⟩ := w64_one b9 (by decide)
    obtain ⟨w11, b11⟩ := w64_one b10 (by decide)
    obtain ⟨w12, b12⟩ := w64_one b11 (by decide)
    obtain ⟨w13, b13⟩ := w64_one b12 (by decide)
    obtain ⟨w14, b14⟩ := w64_one b13 (by decide)
    obtain ⟨w15, b15⟩ := w64_one b14 (by decide)
    obtain ⟨w16, b16⟩ := w64_one b15 (by decide)
    obtain ⟨w17, b17⟩ := w64_one b16 (by decide)
    obtain ⟨w18, b18⟩ := w64_one b17 (by decide)
    obtain ⟨w19, b19⟩ := w64_one b18 (by decide)
    obtain ⟨w20, b20⟩ := w64_one b19 (by decide)
    obtain ⟨w21, b21⟩ := w64_one b20 (by decide)
    obtain ⟨w22, b22⟩ := w64_one b21 (by decide)
    obtain ⟨w23, b23⟩ := w64_one b22 (by decide)
    obtain ⟨w24, b24⟩ := w64_one b23 (by decide)
    obtain ⟨w25, b25⟩ := w64_one b24 (by decide)
    obtain ⟨w26, b26⟩ := w64_one b25 (by decide)
    obtain ⟨w27, b27⟩ := w64_one b26 (by decide)
    obtain ⟨w28, b28⟩ := w64_one b27 (by decide)
    obtain ⟨w29, b29⟩ := w64_one b28 (by decide)
    obtain ⟨w30, b30⟩ := w64_one b29 (by decide)
    have hr := wtl_len (hw (nth a i) (nth_mem h))
    have hbi : i < b.length := by omega
    simp only [laws_markRxQueueS_l0, lt_len hbi, idx_nat hbi, inl_nat hbi, w64_succ h hl, Int.toNat_natCast, andt_true_l, andt_true_r, cond_true, hn, w1, w2, w3, w4, w5, w6, w7, w8, w9, w10, w11, w12, w13, w14, w15, w16, w17, w18, w19, w20, w21, w22, w23, w24, w25, w26, w27, w28, w29, w30, idx_setl, inl_setl, List.set_set, nth_setl hbi]
    rw [show K + 1 + 1 + 1 + 1 + 1 + 1 + 1 + 1 + 1 + 1 + 1 + 1 + 1 + 1 + 1 + 1 + 1 + 1 + 1 + 1 + 1 + 1 + 1 + 1 + 1 + 1 + 1 + 1 + 1 + 1 = K + 30 by simp only [Int.add_assoc]; rfl, rowRxQueueS K (nth a i) hr]
  · intro n b hb
    rw [laws_markRxQueueS_L0_s]
    simp only [laws_markRxQueueS_l0, ← hb, not_lt_len, cond_false]

def laws_markRuleS_l0 {α : Type} (bad : α) (k_ : Int → Rows → α) (ih0 : Int → Int → Rows → α) (k_1 : Int) (i : Int) (a_1 : Rows) : α :=
  let z0 : Rows := List.set a_1 (Int.toNat i) (splice (nth a_1 (Int.toNat i)) 0 [.int k_1])
  let z1 : Rows := List.set z0 (Int.toNat i) (splice (nth z0 (Int.toNat i)) 1 [.int (w64 (k_1 + 1))])
  let z2 : Int := w64 ((w64 (k_1 + 1)) + 1)
  let z3 : Rows := List.set z1 (Int.toNat i) (splice (nth z1 (Int.toNat i)) 2 [.int z2])
  let z4 : Int := w64 (z2 + 1)
  let z5 : Rows := List.set z3 (Int.toNat i) (splice (nth z3 (Int.toNat i)) 3 [.int z4])
  let z6 : Int := w64 (z4 + 1)
  let z7 : Rows := List.set z5 (Int.toNat i) (splice (nth z5 (Int.toNat i)) 4 [.int z6])
  let z8 : Int := w64 (z6 + 1)
  let z9 : Rows := List.set z7 (Int.toNat i) (splice (nth z7 (Int.toNat i)) 5 [.int z8])
  let z10 : Int := w64 (z8 + 1)
  let z11 : Rows := List.set z9 (Int.toNat i) (splice (nth z9 (Int.toNat i)) 6 [.int z10])
  let z12 : Int := w64 (z10 + 1)
  let z13 : Rows := List.set z11 (Int.toNat i) (splice (nth z11 (Int.toNat i)) 7 [.int z12])
  let z14 : Int := w64 (z12 + 1)
  bif decide (i < len a_1) then
    bif andt (andt true (idx i a_1)) (inl (Int.toNat i) a_1) then
      bif andt (andt true (idx i z0)) (inl (Int.toNat i) z0) then
        bif andt (andt true (idx i z1)) (inl (Int.toNat i) z1) then
          bif andt (andt true (idx i z3)) (inl (Int.toNat i) z3) then
            bif andt (andt true (idx i z5)) (inl (Int.toNat i) z5) then
              bif andt (andt true (idx i z7)) (inl (Int.toNat i) z7) then
                bif andt (andt true (idx i z9)) (inl (Int.toNat i) z9) then
                  bif andt (andt true (idx i z11)) (inl (Int.toNat i) z11) then
                    bif andt (andt true (idx i z13)) (inl (Int.toNat i) z13) then
                      ih0 (w64 (z14 + 1)) (w64 (i + 1)) (List.set z13 (Int.toNat i) (splice (nth z13 (Int.toNat i)) 8 [.int z14]))
                    else bad
                  else bad
                else bad
              else bad
            else bad
          else bad
        else bad
      else bad
    else bad
  else k_ k_1 a_1
def laws_markRuleS_L0 {α : Type} (bad : α) (k_ : Int → Rows → α) (N : Nat) (m_ : Nat) : Int → Int → Rows → α :=
  Nat.rec (motive := fun _ => Int → Int → Rows → α) (fun _ _ _ => bad) (fun _ ih0 => laws_markRuleS_l0 bad k_ ih0) m_
theorem laws_markRuleS_L0_z {α : Type} (bad : α) (k_ : Int → Rows → α) (N : Nat) (k_1 : Int) (i : Int) (a_1 : Rows) : laws_markRuleS_L0 bad k_ N 0 k_1 i a_1 = bad := rfl
theorem laws_markRuleS_L0_s {α : Type} (bad : α) (k_ : Int → Rows → α) (N : Nat) (m_ : Nat) (k_1 : Int) (i : Int) (a_1 : Rows) : laws_markRuleS_L0 bad k_ N (m_ + 1) k_1 i a_1 = laws_markRuleS_l0 bad k_ (laws_markRuleS_L0 bad k_ N m_) k_1 i a_1 := rfl
def laws_markRuleS_t {α : Type} (bad : α) (k_ : Int → Rows → α) (l0 : Int → Int → Rows → α) (a : Rows) (k : Int) : α :=
  l0 k 0 a
def laws_markRuleS_f {α : Type} (bad : α) (k_ : Int → Rows → α) (N : Nat) (a : Rows) (k : Int) : α := laws_markRuleS_t bad k_ (laws_markRuleS_L0 bad k_ N N) a k
def fRuleS (k : Int) : List DC := [.int (k), .int (k + 1), .int (k + 1 + 1), .int (k + 1 + 1 + 1), .int (k + 1 + 1 + 1 + 1), .int (k + 1 + 1 + 1 + 1 + 1), .int (k + 1 + 1 + 1 + 1 + 1 + 1), .int (k + 1 + 1 + 1 + 1 + 1 + 1 + 1), .int (k + 1 + 1 + 1 + 1 + 1 + 1 + 1 + 1)]
def markRuleS (a : Rows) (k : Int) : Int × Rows := (k + 9 * a.length, mkl fRuleS 9 a.length k)
theorem rowRuleS (K : Int) (r : List DC) (hr : r.length = 9) : splice (splice (splice (splice (splice (splice (splice (splice (splice r 0 [.int (K)]) 1 [.int (K + 1)]) 2 [.int (K + 1 + 1)]) 3 [.int (K + 1 + 1 + 1)]) 4 [.int (K + 1 + 1 + 1 + 1)]) 5 [.int (K + 1 + 1 + 1 + 1 + 1)]) 6 [.int (K + 1 + 1 + 1 + 1 + 1 + 1)]) 7 [.int (K + 1 + 1 + 1 + 1 + 1 + 1 + 1)]) 8 [.int (K + 1 + 1 + 1 + 1 + 1 + 1 + 1 + 1)] = fRuleS K := by
  obtain ⟨a0, r1, rfl, h1⟩ := len_cons hr
  obtain ⟨a1, r2, rfl, h2⟩ := len_cons h1
  obtain ⟨a2, r3, rfl, h3⟩ := len_cons h2
  obtain ⟨a3, r4, rfl, h4⟩ := len_cons h3
  obtain ⟨a4, r5, rfl, h5⟩ := len_cons h4
  obtain ⟨a5, r6, rfl, h6⟩ := len_cons h5
  obtain ⟨a6, r7, rfl, h7⟩ := len_cons h6
  obtain ⟨a7, r8, rfl, h8⟩ := len_cons h7
  obtain ⟨a8, r9, rfl, h9⟩ := len_cons h8
  obtain rfl := List.length_eq_zero_iff.1 h9
  kernel_rfl
theorem laws_markRuleS_c {α : Type} (bad : α) (k_ : Int → Rows → α) (a : Rows) (k : Int) (h_a : WtC (.sl [.int .i64, .int .i64, .int .i64, .int .i64, .int .i64, .int .i64, .int .i64, .int .i64, .int .i64]) (.sl a)) (h_k : WtC (.int .i64) (.int k)) (hok : mko 9 a k = true) : ∃ N, laws_markRuleS_f bad k_ N a k = k_ (markRuleS a k).1 (markRuleS a k).2 := by
  obtain ⟨hl, hw⟩ := wt_sl h_a
  obtain ⟨h1, h2, h3⟩ := mko_of hok
  refine ⟨a.length + 1, ?_⟩
  unfold laws_markRuleS_f laws_markRuleS_t markRuleS
  refine mark_loop a k 9 fRuleS (laws_markRuleS_L0 bad k_ (a.length + 1)) k_ ?_ ?_
  · intro n i b h hb hn
    rw [laws_markRuleS_L0_s]
    have hk0 : 0 ≤ k + 9 * (i : Int) := by omega
    have hk1 : k + 9 * (i : Int) ≤ 1125901000000000000 := by omega
    generalize k + 9 * (i : Int) = K at hk0 hk1 ⊢
    have b0 : 0 ≤ K ∧ K ≤ 1125901000000000000 := ⟨hk0, hk1⟩
    obtain ⟨w1, b1⟩ := w64_one b0 (by decide)
    obtain ⟨w2, b2⟩ := w64_one b1 (by decide)
    obtain ⟨w3, b3⟩ := w64_one b2 (by decide)
    obtain ⟨w4, b4⟩ := w64_one b3 (by decide)
    obtain ⟨w5, b5⟩ := w64_one b4 (by decide)
    obtain ⟨w6, b6⟩ := w64_one b5 (by decide)
    obtain ⟨w7, b7⟩ := w64_one b6 (by decide)
    obtain ⟨w8, b8⟩ := w64_one b7 (by decide)
    obtain ⟨w9, b9⟩ := w64_one b8 (by decide)
    have hr := wtl_len (hw (nth a i) (nth_mem h))
    have hbi : i < b.length := by omega
    simp only [laws_markRuleS_l0, lt_len hbi, idx_nat hbi, inl_nat hbi, w64_succ h hl, Int.toNat_natCast, andt_true_l, andt_true_r, cond_true, hn, w1, w2, w3, w4, w5, w6, w7, w8, w9, idx_setl, inl_setl, List.set_set, nth_setl hbi]
    rw [show K + 1 + 1 + 1 + 1 + 1 + 1 + 1 + 1 + 1 = K + 9 by simp only [Int.add_assoc]; rfl, rowRuleS K (nth a i) hr]
  · intro n b hb
    rw [laws_markRuleS_L0_s]
    simp only [laws_markRuleS_l0, ← hb, not_lt_len, cond_false]

def laws_markMappingS_l0 {α : Type} (bad : α) (k_ : Int → Rows → α) (ih0 : Int → Int → Rows → α) (k_1 : Int) (i : Int) (a_1 : Rows) : α :=
  let z0 : Rows := List.set a_1 (Int.toNat i) (splice (nth a_1 (Int.toNat i)) 0 [.int k_1])
  let z1 : Rows := List.set z0 (Int.toNat i) (splice (nth z0 (Int.toNat i)) 1 [.int (w64 (k_1 + 1))])
  let z2 : Int := w64 ((w64 (k_1 + 1)) + 1)
  let z3 : Rows := List.set z1 (Int.toNat i) (splice (nth z1 (Int.toNat i)) 2 [.int z2])
  let z4 : Int := w64 (z2 + 1)
  bif decide (i < len a_1) then
    bif andt (andt true (idx i a_1)) (inl (Int.toNat i) a_1) then
      bif andt (andt true (idx i z0)) (inl (Int.toNat i) z0) then
        bif andt (andt true (idx i z1)) (inl (Int.toNat i) z1) then
          bif andt (andt true (idx i z3)) (inl (Int.toNat i) z3) then
            ih0 (w64 (z4 + 1)) (w64 (i + 1)) (List.set z3 (Int.toNat i) (splice (nth z3 (Int.toNat i)) 3 [.bool ((Int.tmod z4 3) == 0)]))
          else bad
        else bad
      else bad
    else bad
  else k_ k_1 a_1
def laws_markMappingS_L0 {α : Type} (bad : α) (k_ : Int → Rows → α) (N : Nat) (m_ : Nat) : Int → Int → Rows → α :=
  Nat.rec (motive := fun _ => Int → Int → Rows → α) (fun _ _ _ => bad) (fun _ ih0 => laws_markMappingS_l0 bad k_ ih0) m_
theorem laws_markMappingS_L0_z {α : Type} (bad : α) (k_ : Int → Rows → α) (N : Nat) (k_1 : Int) (i : Int) (a_1 : Rows) : laws_markMappingS_L0 bad k_ N 0 k_1 i a_1 = bad := rfl
theorem laws_markMappingS_L0_s {α : Type} (bad : α) (k_ : Int → Rows → α) (N : Nat) (m_ : Nat) (k_1 : Int) (i : Int) (a_1 : Rows) : laws_markMappingS_L0 bad k_ N (m_ + 1) k_1 i a_1 = laws_markMappingS_l0 bad k_ (laws_markMappingS_L0 bad k_ N m_) k_1 i a_1 := rfl
def laws_markMappingS_t {α : Type} (bad : α) (k_ : Int → Rows → α) (l0 : Int → Int → Rows → α) (a : Rows) (k : Int) : α :=
  l0 k 0 a
def laws_markMappingS_f {α : Type} (bad : α) (k_ : Int → Rows → α) (N : Nat) (a : Rows) (k : Int) : α := laws_markMappingS_t bad k_ (laws_markMappingS_L0 bad k_ N N) a k
def fMappingS (k : Int) : List DC := [.int (k), .int (k + 1), .int (k + 1 + 1), .bool (Int.tmod (k + 1 + 1 + 1) 3 == 0)]
def markMappingS (a : Rows) (k : Int) : Int × Rows := (k + 4 * a.length, mkl fMappingS 4 a.length k)
theorem rowMappingS (K : Int) (r : List DC) (hr : r.length = 4) : splice (splice (splice (splice r 0 [.int (K)]) 1 [.int (K + 1)]) 2 [.int (K + 1 + 1)]) 3 [.bool (Int.tmod (K + 1 + 1 + 1) 3 == 0)] = fMappingS K := by
  obtain ⟨a0, r1, rfl, h1⟩ := len_cons hr
  obtain ⟨a1, r2, rfl, h2⟩ := len_cons h1
  obtain ⟨a2, r3, rfl, h3⟩ := len_cons h2
  obtain ⟨a3, r4, rfl, h4⟩ := len_cons h3
  obtain rfl := List.length_eq_zero_iff.1 h4
  kernel_rfl
theorem laws_markMappingS_c {α : Type} (bad : α) (k_ : Int → Rows → α) (a : Rows) (k : Int) (h_a : WtC (.sl [.int .i64, .int .i64, .int .i64, .bool]) (.sl a)) (h_k : WtC (.int .i64) (.int k)) (hok : mko 4 a k = true) : ∃ N, laws_markMappingS_f bad k_ N a k = k_ (markMappingS a k).1 (markMappingS a k).2 := by
  obtain ⟨hl, hw⟩ := wt_sl h_a
  obtain ⟨h1, h2, h3⟩ := mko_of hok
  refine ⟨a.length + 1, ?_⟩
  unfold laws_markMappingS_f laws_markMappingS_t markMappingS
  refine mark_loop a k 4 fMappingS (laws_markMappingS_L0 bad k_ (a.length + 1)) k_ ?_ ?_
  · intro n i b h hb hn
    rw [laws_markMappingS_L0_s]
    have hk0 : 0 ≤ k + 4 * (i : Int) := by omega
    have hk1 : k + 4 * (i : Int) ≤ 1125901000000000000 := by omega
    generalize k + 4 * (i : Int) = K at hk0 hk1 ⊢
    have b0 : 0 ≤ K ∧ K ≤ 1125901000000000000 := ⟨hk0, hk1⟩
    obtain ⟨w1, b1⟩ := w64_one b0 (by decide)
    obtain ⟨w2, b2⟩ := w64_one b1 (by decide)
    obtain ⟨w3, b3⟩ := w64_one b2 (by decide)
    obtain ⟨w4, b4⟩ := w64_one b3 (by decide)
    have hr := wtl_len (hw (nth a i) (nth_mem h))
    have hbi : i < b.length := by omega
    simp only [laws_markMappingS_l0, lt_len hbi, idx_nat hbi, inl_nat hbi, w64_succ h hl, Int.toNat_natCast, andt_true_l, andt_true_r, cond_true, hn, w1, w2, w3, w4, idx_setl, inl_setl, List.set_set, nth_setl hbi]
    rw [show K + 1 + 1 + 1 + 1 = K + 4 by simp only [Int.add_assoc]; rfl, rowMappingS K (nth a i) hr]
  · intro n b hb
    rw [laws_markMappingS_L0_s]
    simp only [laws_markMappingS_l0, ← hb, not_lt_len, cond_false]

def laws_markVectorS_l0 {α : Type} (bad : α) (k_ : Int → Rows → α) (ih0 : Int → Int → Rows → α) (k_1 : Int) (i : Int) (a_1 : Rows) : α :=
  let z0 : Rows := List.set a_1 (Int.toNat i) (splice (nth a_1 (Int.toNat i)) 0 [.int k_1])
  let z1 : Rows := List.set z0 (Int.toNat i) (splice (nth z0 (Int.toNat i)) 1 [.int (w64 (k_1 + 1))])
  let z2 : Int := w64 ((w64 (k_1 + 1)) + 1)
  let z3 : Rows := List.set z1 (Int.toNat i) (splice (nth z1 (Int.toNat i)) 2 [.int z2])
  let z4 : Int := w64 (z2 + 1)
  let z5 : Rows := List.set z3 (Int.toNat i) (splice (nth z3 (Int.toNat i)) 3 [.int z4])
  let z6 : Int := w64 (z4 + 1)
  let z7 : Rows := List.set z5 (Int.toNat i) (splice (nth z5 (Int.toNat i)) 4 [.bool ((Int.tmod z6 3) == 0)])
  let z8 : Int := w64 (z6 + 1)
  bif decide (i < len a_1) then
    bif andt (andt true (idx i a_1)) (inl (Int.toNat i) a_1) then
      bif andt (andt true (idx i z0)) (inl (Int.toNat i) z0) then
        bif andt (andt true (idx i z1)) (inl (Int.toNat i) z1) then
          bif andt (andt true (idx i z3)) (inl (Int.toNat i) z3) then
            bif andt (andt true (idx i z5)) (inl (Int.toNat i) z5) then
              bif andt (andt true (idx i z7)) (inl (Int.toNat i) z7) then
                ih0 (w64 (z8 + 1)) (w64 (i + 1)) (List.set z7 (Int.toNat i) (splice (nth z7 (Int.toNat i)) 5 [.bool ((Int.tmod z8 3) == 0)]))
              else bad
            else bad
          else bad
        else bad
      else bad
    else bad
  else k_ k_1 a_1
def laws_markVectorS_L0 {α : Type} (bad : α) (k_ : Int → Rows → α) (N : Nat) (m_ : Nat) : Int → Int → Rows → α :=
  Nat.rec (motive := fun _ => Int → Int → Rows → α) (fun _ _ _ => bad) (fun _ ih0 => laws_markVectorS_l0 bad k_ ih0) m_
theorem laws_markVectorS_L0_z {α : Type} (bad : α) (k_ : Int → Rows → α) (N : Nat) (k_1 : Int) (i : Int) (a_1 : Rows) : laws_markVectorS_L0 bad k_ N 0 k_1 i a_1 = bad := rfl
theorem laws_markVectorS_L0_s {α : Type} (bad : α) (k_ : Int → Rows → α) (N : Nat) (m_ : Nat) (k_1 : Int) (i : Int) (a_1 : Rows) : laws_markVectorS_L0 bad k_ N (m_ + 1) k_1 i a_1 = laws_markVectorS_l0 bad k_ (laws_markVectorS_L0 bad k_ N m_) k_1 i a_1 := rfl
def laws_markVectorS_t {α : Type} (bad : α) (k_ : Int → Rows → α) (l0 : Int → Int → Rows → α) (a : Rows) (k : Int) : α :=
  l0 k 0 a
def laws_markVectorS_f {α : Type} (bad : α) (k_ : Int → Rows → α) (N : Nat) (a : Rows) (k : Int) : α := laws_markVectorS_t bad k_ (laws_markVectorS_L0 bad k_ N N) a k
def fVectorS (k : Int) : List DC := [.int (k), .int (k + 1), .int (k + 1 + 1), .int (k + 1 + 1 + 1), .bool (Int.tmod (k + 1 + 1 + 1 + 1) 3 == 0), .bool (Int.tmod (k + 1 + 1 + 1 + 1 + 1) 3 == 0)]
def markVectorS (a : Rows) (k : Int) : Int × Rows := (k + 6 * a.length, mkl fVectorS 6 a.length k)
theorem rowVectorS (K : Int) (r : List DC) (hr : r.length = 6) : splice (splice (splice (splice (splice (splice r 0 [.int (K)]) 1 [.int (K + 1)]) 2 [.int (K + 1 + 1)]) 3 [.int (K + 1 + 1 + 1)]) 4 [.bool (Int.tmod (K + 1 + 1 + 1 + 1) 3 == 0)]) 5 [.bool (Int.tmod (K + 1 + 1 + 1 + 1 + 1) 3 == 0)] = fVectorS K := by
  obtain ⟨a0, r1, rfl, h1⟩ := len_cons hr
  obtain ⟨a1, r2, rfl, h2⟩ := len_cons h1
  obtain ⟨a2, r3, rfl, h3⟩ := len_cons h2
  obtain ⟨a3, r4, rfl, h4⟩ := len_cons h3
  obtain ⟨a4, r5, rfl, h5⟩ := len_cons h4
  obtain ⟨a5, r6, rfl, h6⟩ := len_cons h5
  obtain rfl := List.length_eq_zero_iff.1 h6
  kernel_rfl
theorem laws_markVectorS_c {α : Type} (bad : α) (k_ : Int → Rows → α) (a : Rows) (k : Int) (h_a : WtC (.sl [.int .i64, .int .i64, .int .i64, .int .i64, .bool, .bool]) (.sl a)) (h_k : WtC (.int .i64) (.int k)) (hok : mko 6 a k = true) : ∃ N, laws_markVectorS_f bad k_ N a k = k_ (markVectorS a k).1 (markVectorS a k).2 := by
  obtain ⟨hl, hw⟩ := wt_sl h_a
  obtain ⟨h1, h2, h3⟩ := mko_of hok
  refine ⟨a.length + 1, ?_⟩
  unfold laws_markVectorS_f laws_markVectorS_t markVectorS
  refine mark_loop a k 6 fVectorS (laws_markVectorS_L0 bad k_ (a.length + 1)) k_ ?_ ?_
  · intro n i b h hb hn
    rw [laws_markVectorS_L0_s]
    have hk0 : 0 ≤ k + 6 * (i : Int) := by omega
    have hk1 : k + 6 * (i : Int) ≤ 1125901000000000000 := by omega
    generalize k + 6 * (i : Int) = K at hk0 hk1 ⊢
    have b0 : 0 ≤ K ∧ K ≤ 1125901000000000000 := ⟨hk0, hk1⟩
    obtain ⟨w1, b1⟩ := w64_one b0 (by decide)
    obtain ⟨w2, b2⟩ := w64_one b1 (by decide)
    obtain ⟨w3, b3⟩ := w64_one b2 (by decide)
    obtain ⟨w4, b4⟩ := w64_one b3 (by decide)
    obtain ⟨w5, b5⟩ := w64_one b4 (by decide)
    obtain ⟨w6, b6⟩ := w64_one b5 (by decide)
    have hr := wtl_len (hw (nth a i) (nth_mem h))
    have hbi : i < b.length := by omega
    simp only [laws_markVectorS_l0, lt_len hbi, idx_nat hbi, inl_nat hbi, w64_succ h hl, Int.toNat_natCast, andt_true_l, andt_true_r, cond_true, hn, w1, w2, w3, w4, w5, w6, idx_setl, inl_setl, List.set_set, nth_setl hbi]
    rw [show K + 1 + 1 + 1 + 1 + 1 + 1 = K + 6 by simp only [Int.add_assoc]; rfl, rowVectorS K (nth a i) hr]
  · intro n b hb
    rw [laws_markVectorS_L0_s]
    simp only [laws_markVectorS_l0, ← hb, not_lt_len, cond_false]

def laws_markSlotS_l0 {α : Type} (bad : α) (k_ : Int → Rows → α) (ih0 : Int → Int → Rows → α) (k_1 : Int) (i : Int) (a_1 : Rows) : α :=
  let z0 : Rows := List.set a_1 (Int.toNat i) (splice (nth a_1 (Int.toNat i)) 0 [.int k_1])
  let z1 : Rows := List.set z0 (Int.toNat i) (splice (nth z0 (Int.toNat i)) 1 [.int (w64 (k_1 + 1))])
  let z2 : Int := w64 ((w64 (k_1 + 1)) + 1)
  let z3 : Rows := List.set z1 (Int.toNat i) (splice (nth z1 (Int.toNat i)) 2 [.int z2])
  let z4 : Int := w64 (z2 + 1)
  let z5 : Rows := List.set z3 (Int.toNat i) (splice (nth z3 (Int.toNat i)) 3 [.int z4])
  let z6 : Int := w64 (z4 + 1)
  let z7 : Rows := List.set z5 (Int.toNat i) (splice (nth z5 (Int.toNat i)) 4 [.int z6])
  let z8 : Int := w64 (z6 + 1)
  let z9 : Rows := List.set z7 (Int.toNat i) (splice (nth z7 (Int.toNat i)) 5 [.int z8])
  let z10 : Int := w64 (z8 + 1)
  bif decide (i < len a_1) then
    bif andt (andt true (idx i a_1)) (inl (Int.toNat i) a_1) then
      bif andt (andt true (idx i z0)) (inl (Int.toNat i) z0) then
        bif andt (andt true (idx i z1)) (inl (Int.toNat i) z1) then
          bif andt (andt true (idx i z3)) (inl (Int.toNat i) z3) then
            bif andt (andt true (idx i z5)) (inl (Int.toNat i) z5) then
              bif andt (andt true (idx i z7)) (inl (Int.toNat i) z7) then
                bif andt (andt true (idx i z9)) (inl (Int.toNat i) z9) then
                  ih0 (w64 (z10 + 1)) (w64 (i + 1)) (List.set z9 (Int.toNat i) (splice (nth z9 (Int.toNat i)) 6 [.int z10]))
                else bad
              else bad
            else bad
          else bad
        else bad
      else bad
    else bad
  else k_ k_1 a_1
def laws_markSlotS_L0 {α : Type} (bad : α) (k_ : Int → Rows → α) (N : Nat) (m_ : Nat) : Int → Int → Rows → α :=
  Nat.rec (motive := fun _ => Int → Int → Rows → α) (fun _ _ _ => bad) (fun _ ih0 => laws_markSlotS_l0 bad k_ ih0) m_
theorem laws_markSlotS_L0_z {α : Type} (bad : α) (k_ : Int → Rows → α) (N : Nat) (k_1 : Int) (i : Int) (a_1 : Rows) : laws_markSlotS_L0 bad k_ N 0 k_1 i a_1 = bad := rfl
theorem laws_markSlotS_L0_s {α : Type} (bad : α) (k_ : Int → Rows → α) (N : Nat) (m_ : Nat) (k_1 : Int) (i : Int) (a_1 : Rows) : laws_markSlotS_L0 bad k_ N (m_ + 1) k_1 i a_1 = laws_markSlotS_l0 bad k_ (laws_markSlotS_L0 bad k_ N m_) k_1 i a_1 := rfl
def laws_markSlotS_t {α : Type} (bad : α) (k_ : Int → Rows → α) (l0 : Int → Int → Rows → α) (a : Rows) (k : Int) : α :=
  l0 k 0 a
def laws_markSlotS_f {α : Type} (bad : α) (k_ : Int → Rows → α) (N : Nat) (a : Rows) (k : Int) : α := laws_markSlotS_t bad k_ (laws_markSlotS_L0 bad k_ N N) a k
def fSlotS (k : Int) : List DC := [.int (k), .int (k + 1), .int (k + 1 + 1), .int (k + 1 + 1 + 1), .int (k + 1 + 1 + 1 + 1), .int (k + 1 + 1 + 1 + 1 + 1), .int (k + 1 + 1 + 1 + 1 + 1 + 1)]
def markSlotS (a : Rows) (k : Int) : Int × Rows := (k + 7 * a.length, mkl fSlotS 7 a.length k)
theorem rowSlotS (K : Int) (r : List DC) (hr : r.length = 7) : splice (splice (splice (splice (splice (splice (splice r 0 [.int (K)]) 1 [.int (K + 1)]) 2 [.int (K + 1 + 1)]) 3 [.int (K + 1 + 1 + 1)]) 4 [.int (K + 1 + 1 + 1 + 1)]) 5 [.int (K + 1 + 1 + 1 + 1 + 1)]) 6 [.int (K + 1 + 1 + 1 + 1 + 1 + 1)] = fSlotS K := by
  obtain ⟨a0, r1, rfl, h1⟩ := len_cons hr
  obtain ⟨a1, r2, rfl, h2⟩ := len_cons h1
  obtain ⟨a2, r3, rfl, h3⟩ := len_cons h2
  obtain ⟨a3, r4, rfl, h4⟩ := len_cons h3
  obtain ⟨a4, r5, rfl, h5⟩ := len_cons h4
  obtain ⟨a5, r6, rfl, h6⟩ := len_cons h5
  obtain ⟨a6, r7, rfl, h7⟩ := len_cons h6
  obtain rfl := List.length_eq_zero_iff.1 h7
  kernel_rfl
theorem laws_markSlotS_c {α : Type} (bad : α) (k_ : Int → Rows → α) (a : Rows) (k : Int) (h_a : WtC (.sl [.int .i64, .int .i64, .int .i64, .int .i64, .int .i64, .int .i64, .int .i64]) (.sl a)) (h_k : WtC (.int .i64) (.int k)) (hok : mko 7 a k = true) : ∃ N, laws_markSlotS_f bad k_ N a k = k_ (markSlotS a k).1 (markSlotS a k).2 := by
  obtain ⟨hl, hw⟩ := wt_sl h_a
  obtain ⟨h1, h2, h3⟩ := mko_of hok
  refine ⟨a.length + 1, ?_⟩
  unfold laws_markSlotS_f laws_markSlotS_t markSlotS
  refine mark_loop a k 7 fSlotS (laws_markSlotS_L0 bad k_ (a.length + 1)) k_ ?_ ?_
  · intro n i b h hb hn
    rw [laws_markSlotS_L0_s]
    have hk0 : 0 ≤ k + 7 * (i : Int) := by omega
    have hk1 : k + 7 * (i : Int) ≤ 1125901000000000000 := by omega
    generalize k + 7 * (i : Int) = K at hk0 hk1 ⊢
    have b0 : 0 ≤ K ∧ K ≤ 1125901000000000000 := ⟨hk0, hk1⟩
    obtain ⟨w1, b1⟩ := w64_one b0 (by decide)
    obtain ⟨w2, b2⟩ := w64_one b1 (by decide)
    obtain ⟨w3, b3⟩ := w64_one b2 (by decide)
    obtain ⟨w4, b4⟩ := w64_one b3 (by decide)
    obtain ⟨w5, b5⟩ := w64_one b4 (by decide)
    obtain ⟨w6, b6⟩ := w64_one b5 (by decide)
    obtain ⟨w7, b7⟩ := w64_one b6 (by decide)
    have hr := wtl_len (hw (nth a i) (nth_mem h))
    have hbi : i < b.length := by omega
    simp only [laws_markSlotS_l0, lt_len hbi, idx_nat hbi, inl_nat hbi, w64_succ h hl, Int.toNat_natCast, andt_true_l, andt_true_r, cond_true, hn, w1, w2, w3, w4, w5, w6, w7, idx_setl, inl_setl, List.set_set, nth_setl hbi]
    rw [show K + 1 + 1 + 1 + 1 + 1 + 1 + 1 = K + 7 by simp only [Int.add_assoc]; rfl, rowSlotS K (nth a i) hr]
  · intro n b hb
    rw [laws_markSlotS_L0_s]
    simp only [laws_markSlotS_l0, ← hb, not_lt_len, cond_false]

end
end Go.Proofs.YthpmalpdnnbkgaaGreat.Pl
