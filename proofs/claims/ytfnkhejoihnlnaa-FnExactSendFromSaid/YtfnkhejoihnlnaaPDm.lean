/- What functions of the program compute, in plain Lean, as the value machine runs them. Conditions: none. -/
import Derived.Test.YtfnkhejoihnlnaaPLs
import Derived.Test.YtfnkhejoihnlnaaDp
set_option linter.unusedVariables false
set_option linter.unusedSimpArgs false
set_option maxRecDepth 100000
namespace Go.Proofs.Ytfnkhejoihnlnaa.Pl
open Vm
noncomputable section


def laws_markPortS_l0 {α : Type} (bad : α) (k_ : Int → Rows → α) (ih0 : Int → Int → Rows → α) (k_1 : Int) (i : Int) (a_1 : Rows) : α :=
  let z0 : Rows := List.set a_1 (Int.toNat i) (splice (nth a_1 (Int.toNat i)) 0 [.int k_1])
  let z1 : Bool := andt (andt true (idx i z0)) (inl (Int.toNat i) z0)
  let z2 : List DC := nth z0 (Int.toNat i)
  let z3 : Rows := rR z2 1
  let z4 : Int × Rows := markIntS z3 (w64 (k_1 + 1))
  let z5 : Int := z4.1
  let z6 : Rows := List.set z0 (Int.toNat i) (splice z2 2 [.int z5])
  let z7 : Int := w64 (z5 + 1)
  let z8 : Rows := List.set z6 (Int.toNat i) (splice (nth z6 (Int.toNat i)) 3 [.bool ((Int.tmod z7 3) == 0)])
  bif decide (i < len a_1) then
    bif andt (andt true (idx i a_1)) (inl (Int.toNat i) a_1) then
      bif andt z1 (mko 1 z3 (w64 (k_1 + 1))) then
        bif z1 then
          bif andt (andt true (idx i z6)) (inl (Int.toNat i) z6) then
            ih0 (w64 (z7 + 1)) (w64 (i + 1)) (List.set z8 (Int.toNat i) (splice (nth z8 (Int.toNat i)) 1 [.sl z4.2]))
          else bad
        else bad
      else bad
    else bad
  else k_ k_1 a_1
def laws_markPortS_L0 {α : Type} (bad : α) (k_ : Int → Rows → α) (N : Nat) (m_ : Nat) : Int → Int → Rows → α :=
  Nat.rec (motive := fun _ => Int → Int → Rows → α) (fun _ _ _ => bad) (fun _ ih0 => laws_markPortS_l0 bad k_ ih0) m_
theorem laws_markPortS_L0_z {α : Type} (bad : α) (k_ : Int → Rows → α) (N : Nat) (k_1 : Int) (i : Int) (a_1 : Rows) : laws_markPortS_L0 bad k_ N 0 k_1 i a_1 = bad := rfl
theorem laws_markPortS_L0_s {α : Type} (bad : α) (k_ : Int → Rows → α) (N : Nat) (m_ : Nat) (k_1 : Int) (i : Int) (a_1 : Rows) : laws_markPortS_L0 bad k_ N (m_ + 1) k_1 i a_1 = laws_markPortS_l0 bad k_ (laws_markPortS_L0 bad k_ N m_) k_1 i a_1 := rfl
def laws_markPortS_t {α : Type} (bad : α) (k_ : Int → Rows → α) (l0 : Int → Int → Rows → α) (a : Rows) (k : Int) : α :=
  l0 k 0 a
def laws_markPortS_f {α : Type} (bad : α) (k_ : Int → Rows → α) (N : Nat) (a : Rows) (k : Int) : α := laws_markPortS_t bad k_ (laws_markPortS_L0 bad k_ N N) a k
def fPort (r : List DC) (k : Int) : List DC × Int := ([.int k, .sl (mkl fIntS 1 (rR r 1).length (k + 1)), .int (k + 1 + 1 * (rR r 1).length), .bool (Int.tmod (k + 1 + 1 * (rR r 1).length + 1) 3 == 0)], k + 1 + 1 * (rR r 1).length + 1 + 1)
def gPort (r : List DC) (k : Int) : Bool := mko 1 (rR r 1) (k + 1)
def markPortS (a : Rows) (k : Int) : Int × Rows := ((mkd fPort a k).2, (mkd fPort a k).1)
theorem laws_markPortS_c {α : Type} (bad : α) (k_ : Int → Rows → α) (a : Rows) (k : Int) (h_a : WtC (.sl [.int .i64, .sl [.int .i64], .int .i64, .bool]) (.sl a)) (h_k : WtC (.int .i64) (.int k)) (hok : mkdOk fPort gPort a k = true) : ∃ N, laws_markPortS_f bad k_ N a k = k_ (markPortS a k).1 (markPortS a k).2 := by
  obtain ⟨hl, hw⟩ := wt_sl h_a
  refine ⟨a.length + 1, ?_⟩
  unfold laws_markPortS_f laws_markPortS_t markPortS
  refine mkd_loop a k fPort gPort (laws_markPortS_L0 bad k_ (a.length + 1)) k_ hok ?_ ?_
  · intro n i k b h hb hn hg
    rw [laws_markPortS_L0_s]
    obtain ⟨g1, g2, g3⟩ := mko_of hg
    have hr := wtl_len (hw (nth a i) (nth_mem h))
    rw [← hn] at hg g1 hr ⊢
    have w1 : w64 (k + 1) = k + 1 := w64_in (by omega) (by omega)
    have w2 : w64 (k + 1 + 1 * ((rR (nth b i) 1).length : Int) + 1) = k + 1 + 1 * ((rR (nth b i) 1).length : Int) + 1 := w64_in (by omega) (by omega)
    have w3 : w64 (k + 1 + 1 * ((rR (nth b i) 1).length : Int) + 1 + 1) = k + 1 + 1 * ((rR (nth b i) 1).length : Int) + 1 + 1 := w64_in (by omega) (by omega)
    have hbi : i < b.length := by omega
    generalize hrr : nth b i = r at *
    match r, hr with
    | [a0, a1, a2, a3], _ =>
      have hg' : mko 1 (rR [a0, a1, a2, a3] 1) (k + 1) = true := hg
      have e0 : splice [a0, a1, a2, a3] 0 [.int k] = [.int k, a1, a2, a3] := rfl
      have e1 : rR [DC.int k, a1, a2, a3] 1 = rR [a0, a1, a2, a3] 1 := rfl
      have e2 : ∀ x, splice [DC.int k, a1, a2, a3] 2 [.int x] = [.int k, a1, .int x, a3] := fun _ => rfl
      have e3 : ∀ x y, splice [DC.int k, a1, .int x, a3] 3 [.bool y] = [.int k, a1, .int x, .bool y] := fun _ _ => rfl
      have e4 : ∀ x y z, splice [DC.int k, a1, .int x, .bool y] 1 [.sl z] = [.int k, .sl z, .int x, .bool y] := fun _ _ _ => rfl
      simp only [laws_markPortS_l0, lt_len hbi, idx_nat hbi, inl_nat hbi, w64_succ h hl, Int.toNat_natCast, andt_true_l, andt_true_r, cond_true, hrr, w1, w2, w3, idx_setl, inl_setl, List.set_set, nth_setl hbi, e0, e1, e2, e3, e4, markIntS, hg', fPort]
  · intro n k b hb
    rw [laws_markPortS_L0_s]
    simp only [laws_markPortS_l0, ← hb, not_lt_len, cond_false]


def portsSm (a : Rows) : Bool := sm a && a.all (fun r => sm (rR r 1))
theorem markPortS_facts {a : Rows} (h : portsSm a = true) {k : Int} (h0 : 0 ≤ k) (h1 : k ≤ 1000000000000) : mkdOk fPort gPort a k = true ∧ k ≤ (markPortS a k).1 ∧ (markPortS a k).1 ≤ k + 281475043819520 := by
  simp only [portsSm, Bool.and_eq_true, List.all_eq_true] at h
  have hl := sm_le h.1
  have hb : (16777220 : Int) * a.length ≤ 281475043819520 := by omega
  obtain ⟨h2, h3, h4⟩ := mkd_sizes (f := fPort) (g := gPort) (B := 1125899906842623) (C := 16777220) (by omega) a k (fun r hr k k0 k1 => by
    have hs := sm_le (h.2 r hr)
    refine ⟨mko_mk (h.2 r hr) (by omega) (by omega), ?_, ?_⟩
    · show k ≤ k + 1 + 1 * ((rR r 1).length : Int) + 1 + 1
      omega
    · show k + 1 + 1 * ((rR r 1).length : Int) + 1 + 1 ≤ k + 16777220
      omega) h0 (by omega)
  exact ⟨h2, h3, by show (mkd fPort a k).2 ≤ _; omega⟩


theorem ports_sm {a : Rows} (h : laws_toPortS_ok a = true) : portsSm a = true := by
  simp only [laws_toPortS_ok, portsSm, Bool.and_eq_true, List.all_eq_true] at h ⊢
  refine ⟨h.1, fun r hr => ?_⟩
  have := h.2 r hr
  simp only [laws_toPort_ok, laws_toPort_t] at this
  cases hs : sm (rR r 1)
  · rw [show (SPort.decAt r 0).Vlans = rR r 1 from rfl, hs] at this
    cases this
  · rfl

end
end Go.Proofs.Ytfnkhejoihnlnaa.Pl
