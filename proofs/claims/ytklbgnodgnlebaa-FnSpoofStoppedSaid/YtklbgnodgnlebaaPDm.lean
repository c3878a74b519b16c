/- What functions of the program compute, in plain Lean, as the value machine runs them. Conditions: none. -/
import Derived.Test.YtklbgnodgnlebaaPLs
import Derived.Test.YtklbgnodgnlebaaDp
set_option linter.unusedVariables false
set_option linter.unusedSimpArgs false
set_option maxRecDepth 100000
namespace Go.Proofs.Ytklbgnodgnlebaa.Pl
open Vm
noncomputable section


def laws_markPortS_l0 {α : Type} (bad : α) (k_ : Int → Rows → α) (ih0 : Int → Int → Rows → α) (k_1 : Int) (i : Int) (a_1 : Rows) : α :=
  let z0 : Rows := List.set a_1 (Int.toNat i) (splice (nth a_1 (Int.toNat i)) 0 [.int k_1])
  let z1 : Bool := andt (andt true (idx i z0)) (inl (Int.toNat i) z0)
  let z2 : List DC := nth z0 (Int.toNat i)
  let z3 : Rows := rR z2 1
  let z4 : Int × Rows := markIntS z3 (w64 (k_1 + 1))
  let z5 : Int := z4.1
  let z6 : Rows := List.set z0 (Int.toNat i) (splice z2 2 [.int z5])
  let z7 : Int := w64 (z5 + 1)
  let z8 : Rows := List.set z6 (Int.toNat i) (splice (nth z6 (Int.toNat i)) 3 [.bool ((Int.tmod z7 3) == 0)])
  bif decide (i < len a_1) then
    bif andt (andt true (idx i a_1)) (inl (Int.toNat i) a_1) then
      bif andt z1 (mko 1 z3 (w64 (k_1 + 1))) then
        bif z1 then
          bif andt (andt true (idx i z6)) (inl (Int.toNat i) z6) then
            ih0 (w64 (z7 + 1)) (w64 (i + 1)) (List.set z8 (Int.toNat i) (splice (nth z8 (Int.toNat i)) 1 [.sl z4.2]))
          else bad
        else bad
      else bad
    else bad
  else k_ k_1 a_1
def laws_markPortS_L0 {α : Type} (bad : α) (k_ : Int → Rows → α) (N : Nat) (m_ : Nat) : Int → Int → Rows → α :=
  Nat.rec (motive := fun _ => Int → Int → Rows → α) (fun _ _ _ => bad) (fun _ ih0 => laws_markPortS_l0 bad k_ ih0) m_
theorem laws_markPortS_L0_z {α : Type} (bad : α) (k_ : Int → Rows → α) (N : Nat) (k_1 : Int) (i : Int) (a_1 : Rows) : laws_markPortS_L0 bad k_ N 0 k_1 i a_1 = bad := rfl
theorem laws_markPortS_L0_s {α : Type} (bad : α) (k_ : Int → Rows → α) (N : Nat) (m_ : Nat) (k_1 : Int) (i : Int) (a_1 : Rows) : laws_markPortS_L0 bad k_ N (m_ + 1) k_1 i a_1 = laws_markPortS_l0 bad k_ (laws_markPortS_L0 bad k_ N m_) k_1 i a_1 := rfl
def laws_markPortS_t {α : Type} (bad : α) (k_ : Int → Rows → α) (l0 : Int → Int → Rows → α) (a : Rows) (k : Int) : α :=
  l0 k 0 a
def laws_markPortS_f {α : Type} (bad : α) (k_ : Int → Rows → α) (N : Nat) (a : Rows) (k : Int) : α := laws_markPortS_t bad k_ (laws_markPortS_L0 bad k_ N N) a k
def fPort (r : List DC) (k : Int) : List DC × Int := ([.int k, .sl (mkl fIntS 1 (rR r 1).length (k + 1)), .int (k + 1 + 1 * (rR r 1).length), .bool (Int.tmod (k + 1 + 1 * (rR r 1).length + 1) 3 == 0)], k + 1 + 1 * (rR r 1).length + 1 + 1)
def gPort (r : List DC) (k : Int) : Bool := mko 1 (rR r 1) (k + 1)
def markPortS (a : Rows) (k : Int) : Int × Rows := ((mkd fPort a k).2, (mkd fPort a k).1)
theorem laws_markPortS_c {α : Type} (bad : α) (k_ : Int → Rows → α) (a : Rows) (k : Int) (h_a : WtC (.sl [.int .i64, .sl [.int .i64], .int .i64, .bool]) (.sl a)) (h_k : WtC (.int .i64) (.int k)) (hok : mkdOk fPort gPort a k = true) : ∃ N, laws_markPortS_f bad k_ N a k = k_ (markPortS a k).1 (markPortS a k).2 := by
  obtain ⟨hl, hw⟩ := wt_sl h_a
  refine ⟨a.length + 1, ?_⟩
  unfold laws_markPortS_f laws_markPortS_t markPortS
  refine mkd_loop a k fPort gPort (laws_markPortS_L0 bad k_ (a.length + 1)) k_ hok ?_ ?_
  · intro n i k b h hb hn hg
    rw [laws_markPortS_L0_s]
    obtain ⟨g1, g2, g3⟩ := mko_of hg
    have hr := wtl_len (hw (nth a i) (nth_mem h))
    rw [← hn] at hg g1 hr ⊢
    have w1 : w64 (k + 1) = k + 1 := w64_in (by omega) (by omega)
    have w2 : w64 (k + 1 + 1 * ((rR (nth b i) 1).length : Int) + 1) = k + 1 + 1 * ((rR (nth b i) 1).length : Int) + 1 := w64_in (by omega) (by omega)
    have w3 : w64 (k + 1 + 1 * ((rR (nth b i) 1).length : Int) + 1 + 1) = k + 1 + 1 * ((rR (nth b i) 1).length : Int) + 1 + 1 := w64_in (by omega) (by omega)
    have hbi : i < b.length := by omega
    generalize hrr : nth b i = r at *
    match r, hr with
    | [a0, a1, a2, a3], _ =>
      have hg' : mko 1 (rR [a0, a1, a2, a3] 1) (k + 1) = true := hg
      have e0 : splice [a0, a1, a2, a3] 0 [.int k] = [.int k, a1, a2, a3] := rfl
      have e1 : rR [DC.int k, a1, a2, a3] 1 = rR [a0, a1, a2, a3] 1 := rfl
      have e2 : ∀ x, splice [DC.int k, a1, a2, a3] 2 [.int x] = [.int k, a1, .int x, a3] := fun _ => rfl
      have e3 : ∀ x y, splice [DC.int k, a1, .int x, a3] 3 [.bool y] = [.int k, a1, .int x, .bool y] := fun _ _ => rfl
      have e4 : ∀ x y z, splice [DC.int k, a1, .int x, .bool y] 1 [.sl z] = [.int k, .sl z, .int x, .bool y] := fun _ _ _ => rfl
      simp only [laws_markPortS_l0, lt_len hbi, idx_nat hbi, inl_nat hbi, w64_succ h hl, Int.toNat_natCast, andt_true_l, andt_true_r, cond_true, hrr, w1, w2, w3, idx_setl, inl_setl, List.set_set, nth_setl hbi, e0, e1, e2, e3, e4, markIntS, hg', fPort]
  · intro n k b hb
    rw [laws_markPortS_L0_s]
    simp only [laws_markPortS_l0, ← hb, not_lt_len, cond_false]


def portsSm (a : Rows) : Bool := sm a && a.all (fun r => sm (rR r 1))
theorem markPortS_facts {a : Rows} (h : portsSm a = true) {k : Int} (h0 : 0 ≤ k) (h1 : k ≤ 1000000000000) : mkdOk fPort gPort a k = true ∧ k ≤ (markPortS a k).1 ∧ (markPortS a k).1 ≤ k + 281475043819520 := by
  simp only [portsSm, Bool.and_eq_true, List.all_eq_true] at h
  have hl := sm_le h.1
  have hb : (16777220 : Int) * a.length ≤ 281475043819520 := by omega
  obtain ⟨h2, h3, h4⟩ := mkd_sizes (f := fPort) (g := gPort) (B := 1125899906842623) (C := 16777220) (by omega) a k (fun r hr k k0 k1 => by
    have hs := sm_le (h.2 r hr)
    refine ⟨mko_mk (h.2 r hr) (by omega) (by omega), ?_, ?_⟩
    · show k ≤ k + 1 + 1 * ((rR r 1).length : Int) + 1 + 1
      omega
    · show k + 1 + 1 * ((rR r 1).length : Int) + 1 + 1 ≤ k + 16777220
      omega) h0 (by omega)
  exact ⟨h2, h3, by show (mkd fPort a k).2 ≤ _; omega⟩


theorem ports_sm {a : Rows} (h : laws_toPortS_ok a = true) : portsSm a = true := by
  simp only [laws_toPortS_ok, portsSm, Bool.and_eq_true, List.all_eq_true] at h ⊢
  refine ⟨h.1, fun r hr => ?_⟩
  have := h.2 r hr
  simp only [laws_toPort_ok, laws_toPort_t] at this
  cases hs : sm (rR r 1)
  · rw [show (SPort.decAt r 0).Vlans = rR r 1 from rfl, hs] at this
    cases this
  · rfl

def laws_markPacketS_l0 {α : Type} (bad : α) (k_ : Int → Rows → α) (ih0 : Int → Int → Rows → α) (k_1 : Int) (i : Int) (a_1 : Rows) : α :=
  let z0 : Rows := List.set a_1 (Int.toNat i) (splice (nth a_1 (Int.toNat i)) 0 [.int k_1])
  let z1 : Rows := List.set z0 (Int.toNat i) (splice (nth z0 (Int.toNat i)) 1 [.int (w64 (k_1 + 1))])
  let z2 : Int := w64 ((w64 (k_1 + 1)) + 1)
  let z3 : Rows := List.set z1 (Int.toNat i) (splice (nth z1 (Int.toNat i)) 2 [.int z2])
  let z4 : Int := w64 (z2 + 1)
  let z5 : Rows := List.set z3 (Int.toNat i) (splice (nth z3 (Int.toNat i)) 3 [.int z4])
  let z6 : Int := w64 (z4 + 1)
  let z7 : Rows := List.set z5 (Int.toNat i) (splice (nth z5 (Int.toNat i)) 4 [.int z6])
  let z8 : Int := w64 (z6 + 1)
  let z9 : Rows := List.set z7 (Int.toNat i) (splice (nth z7 (Int.toNat i)) 5 [.int z8])
  let z10 : Int := w64 (z8 + 1)
  let z11 : Rows := List.set z9 (Int.toNat i) (splice (nth z9 (Int.toNat i)) 6 [.int z10])
  let z12 : Int := w64 (z10 + 1)
  let z13 : Rows := List.set z11 (Int.toNat i) (splice (nth z11 (Int.toNat i)) 7 [.int z12])
  let z14 : Int := w64 (z12 + 1)
  let z15 : Rows := List.set z13 (Int.toNat i) (splice (nth z13 (Int.toNat i)) 8 [.int z14])
  let z16 : Int := w64 (z14 + 1)
  let z17 : Rows := List.set z15 (Int.toNat i) (splice (nth z15 (Int.toNat i)) 9 [.int z16])
  let z18 : Int := w64 (z16 + 1)
  let z19 : Rows := List.set z17 (Int.toNat i) (splice (nth z17 (Int.toNat i)) 10 [.int z18])
  let z20 : Int := w64 (z18 + 1)
  let z21 : Rows := List.set z19 (Int.toNat i) (splice (nth z19 (Int.toNat i)) 11 [.int z20])
  let z22 : Int := w64 (z20 + 1)
  let z23 : Rows := List.set z21 (Int.toNat i) (splice (nth z21 (Int.toNat i)) 12 [.int z22])
  let z24 : Int := w64 (z22 + 1)
  let z25 : Rows := List.set z23 (Int.toNat i) (splice (nth z23 (Int.toNat i)) 13 [.int z24])
  let z26 : Int := w64 (z24 + 1)
  let z27 : Rows := List.set z25 (Int.toNat i) (splice (nth z25 (Int.toNat i)) 14 [.int z26])
  let z28 : Int := w64 (z26 + 1)
  bif decide (i < len a_1) then
    bif andt (andt true (idx i a_1)) (inl (Int.toNat i) a_1) then
      bif andt (andt true (idx i z0)) (inl (Int.toNat i) z0) then
        bif andt (andt true (idx i z1)) (inl (Int.toNat i) z1) then
          bif andt (andt true (idx i z3)) (inl (Int.toNat i) z3) then
            bif andt (andt true (idx i z5)) (inl (Int.toNat i) z5) then
              bif andt (andt true (idx i z7)) (inl (Int.toNat i) z7) then
                bif andt (andt true (idx i z9)) (inl (Int.toNat i) z9) then
                  bif andt (andt true (idx i z11)) (inl (Int.toNat i) z11) then
                    bif andt (andt true (idx i z13)) (inl (Int.toNat i) z13) then
                      bif andt (andt true (idx i z15)) (inl (Int.toNat i) z15) then
                        bif andt (andt true (idx i z17)) (inl (Int.toNat i) z17) then
                          bif andt (andt true (idx i z19)) (inl (Int.toNat i) z19) then
                            bif andt (andt true (idx i z21)) (inl (Int.toNat i) z21) then
                              bif andt (andt true (idx i z23)) (inl (Int.toNat i) z23) then
                                bif andt (andt true (idx i z25)) (inl (Int.toNat i) z25) then
                                  bif andt (andt true (idx i z27)) (inl (Int.toNat i) z27) then
                                    ih0 (w64 (z28 + 1)) (w64 (i + 1)) (List.set z27 (Int.toNat i) (splice (nth z27 (Int.toNat i)) 15 [.str (markText z28)]))
                                  else bad
                                else bad
                              else bad
                            else bad
                          else bad
                        else bad
                      else bad
                    else bad
                  else bad
                else bad
              else bad
            else bad
          else bad
        else bad
      else bad
    else bad
  else k_ k_1 a_1
def laws_markPacketS_L0 {α : Type} (bad : α) (k_ : Int → Rows → α) (N : Nat) (m_ : Nat) : Int → Int → Rows → α :=
  Nat.rec (motive := fun _ => Int → Int → Rows → α) (fun _ _ _ => bad) (fun _ ih0 => laws_markPacketS_l0 bad k_ ih0) m_
theorem laws_markPacketS_L0_z {α : Type} (bad : α) (k_ : Int → Rows → α) (N : Nat) (k_1 : Int) (i : Int) (a_1 : Rows) : laws_markPacketS_L0 bad k_ N 0 k_1 i a_1 = bad := rfl
theorem laws_markPacketS_L0_s {α : Type} (bad : α) (k_ : Int → Rows → α) (N : Nat) (m_ : Nat) (k_1 : Int) (i : Int) (a_1 : Rows) : laws_markPacketS_L0 bad k_ N (m_ + 1) k_1 i a_1 = laws_markPacketS_l0 bad k_ (laws_markPacketS_L0 bad k_ N m_) k_1 i a_1 := rfl
def laws_markPacketS_t {α : Type} (bad : α) (k_ : Int → Rows → α) (l0 : Int → Int → Rows → α) (a : Rows) (k : Int) : α :=
  l0 k 0 a
def laws_markPacketS_f {α : Type} (bad : α) (k_ : Int → Rows → α) (N : Nat) (a : Rows) (k : Int) : α := laws_markPacketS_t bad k_ (laws_markPacketS_L0 bad k_ N N) a k
def fPacketS (k : Int) : List DC := [.int (k), .int (k + 1), .int (k + 1 + 1), .int (k + 1 + 1 + 1), .int (k + 1 + 1 + 1 + 1), .int (k + 1 + 1 + 1 + 1 + 1), .int (k + 1 + 1 + 1 + 1 + 1 + 1), .int (k + 1 + 1 + 1 + 1 + 1 + 1 + 1), .int (k + 1 + 1 + 1 + 1 + 1 + 1 + 1 + 1), .int (k + 1 + 1 + 1 + 1 + 1 + 1 + 1 + 1 + 1), .int (k + 1 + 1 + 1 + 1 + 1 + 1 + 1 + 1 + 1 + 1), .int (k + 1 + 1 + 1 + 1 + 1 + 1 + 1 + 1 + 1 + 1 + 1), .int (k + 1 + 1 + 1 + 1 + 1 + 1 + 1 + 1 + 1 + 1 + 1 + 1), .int (k + 1 + 1 + 1 + 1 + 1 + 1 + 1 + 1 + 1 + 1 + 1 + 1 + 1), .int (k + 1 + 1 + 1 + 1 + 1 + 1 + 1 + 1 + 1 + 1 + 1 + 1 + 1 + 1), .str (markText (k + 1 + 1 + 1 + 1 + 1 + 1 + 1 + 1 + 1 + 1 + 1 + 1 + 1 + 1 + 1))]
def markPacketS (a : Rows) (k : Int) : Int × Rows := (k + 16 * a.length, mkl fPacketS 16 a.length k)
theorem rowPacketS (K : Int) (r : List DC) (hr : r.length = 16) : splice (splice (splice (splice (splice (splice (splice (splice (splice (splice (splice (splice (splice (splice (splice (splice r 0 [.int (K)]) 1 [.int (K + 1)]) 2 [.int (K + 1 + 1)]) 3 [.int (K + 1 + 1 + 1)]) 4 [.int (K + 1 + 1 + 1 + 1)]) 5 [.int (K + 1 + 1 + 1 + 1 + 1)]) 6 [.int (K + 1 + 1 + 1 + 1 + 1 + 1)]) 7 [.int (K + 1 + 1 + 1 + 1 + 1 + 1 + 1)]) 8 [.int (K + 1 + 1 + 1 + 1 + 1 + 1 + 1 + 1)]) 9 [.int (K + 1 + 1 + 1 + 1 + 1 + 1 + 1 + 1 + 1)]) 10 [.int (K + 1 + 1 + 1 + 1 + 1 + 1 + 1 + 1 + 1 + 1)]) 11 [.int (K + 1 + 1 + 1 + 1 + 1 + 1 + 1 + 1 + 1 + 1 + 1)]) 12 [.int (K + 1 + 1 + 1 + 1 + 1 + 1 + 1 + 1 + 1 + 1 + 1 + 1)]) 13 [.int (K + 1 + 1 + 1 + 1 + 1 + 1 + 1 + 1 + 1 + 1 + 1 + 1 + 1)]) 14 [.int (K + 1 + 1 + 1 + 1 + 1 + 1 + 1 + 1 + 1 + 1 + 1 + 1 + 1 + 1)]) 15 [.str (markText (K + 1 + 1 + 1 + 1 + 1 + 1 + 1 + 1 + 1 + 1 + 1 + 1 + 1 + 1 + 1))] = fPacketS K := by
  obtain ⟨a0, r1, rfl, h1⟩ := len_cons hr
  obtain ⟨a1, r2, rfl, h2⟩ := len_cons h1
  obtain ⟨a2, r3, rfl, h3⟩ := len_cons h2
  obtain ⟨a3, r4, rfl, h4⟩ := len_cons h3
  obtain ⟨a4, r5, rfl, h5⟩ := len_cons h4
  obtain ⟨a5, r6, rfl, h6⟩ := len_cons h5
  obtain ⟨a6, r7, rfl, h7⟩ := len_cons h6
  obtain ⟨a7, r8, rfl, h8⟩ := len_cons h7
  obtain ⟨a8, r9, rfl, h9⟩ := len_cons h8
  obtain ⟨a9, r10, rfl, h10⟩ := len_cons h9
  obtain ⟨a10, r11, rfl, h11⟩ := len_cons h10
  obtain ⟨a11, r12, rfl, h12⟩ := len_cons h11
  obtain ⟨a12, r13, rfl, h13⟩ := len_cons h12
  obtain ⟨a13, r14, rfl, h14⟩ := len_cons h13
  obtain ⟨a14, r15, rfl, h15⟩ := len_cons h14
  obtain ⟨a15, r16, rfl, h16⟩ := len_cons h15
  obtain rfl := List.length_eq_zero_iff.1 h16
  kernel_rfl
theorem laws_markPacketS_c {α : Type} (bad : α) (k_ : Int → Rows → α) (a : Rows) (k : Int) (h_a : WtC (.sl [.int .i64, .int .i64, .int .i64, .int .i64, .int .i64, .int .i64, .int .i64, .int .i64, .int .i64, .int .i64, .int .i64, .int .i64, .int .i64, .int .i64, .int .i64, .str]) (.sl a)) (h_k : WtC (.int .i64) (.int k)) (hok : mko 16 a k = true) : ∃ N, laws_markPacketS_f bad k_ N a k = k_ (markPacketS a k).1 (markPacketS a k).2 := by
  obtain ⟨hl, hw⟩ := wt_sl h_a
  obtain ⟨h1, h2, h3⟩ := mko_of hok
  refine ⟨a.length + 1, ?_⟩
  unfold laws_markPacketS_f laws_markPacketS_t markPacketS
  refine mark_loop a k 16 fPacketS (laws_markPacketS_L0 bad k_ (a.length + 1)) k_ ?_ ?_
  · intro n i b h hb hn
    rw [laws_markPacketS_L0_s]
    have hk0 : 0 ≤ k + 16 * (i : Int) := by omega
    have hk1 : k + 16 * (i : Int) ≤ 1125901000000000000 := by omega
    generalize k + 16 * (i : Int) = K at hk0 hk1 ⊢
    have b0 : 0 ≤ K ∧ K ≤ 1125901000000000000 := ⟨hk0, hk1⟩
    obtain ⟨w1, b1⟩ := w64_one b0 (by decide)
    obtain ⟨w2, b2⟩ := w64_one b1 (by decide)
    obtain ⟨w3, b3⟩ := w64_one b2 (by decide)
    obtain ⟨w4, b4⟩ := w64_one b3 (by decide)
    obtain ⟨w5, b5⟩ := w64_one b4 (by decide)
    obtain ⟨w6, b6⟩ := w64_one b5 (by decide)
    obtain ⟨w7, b7⟩ := w64_one b6 (by decide)
    obtain ⟨w8, b8⟩ := w64_one b7 (by decide)
    obtain ⟨w9, b9⟩ := w64_one b8 (by decide)
    obtain ⟨w10, b10⟩ := w64_one b9 (by decide)
    obtain ⟨w11, b11⟩ := w64_one b10 (by decide)
    obtain ⟨w12, b12⟩ := w64_one b11 (by decide)
    obtain ⟨w13, b13⟩ := w64_one b12 (by decide)
    obtain ⟨w14, b14⟩ := w64_one b13 (by decide)
    obtain ⟨w15, b15⟩ := w64_one b14 (by decide)
    obtain ⟨w16, b16⟩ := w64_one b15 (by decide)
    have hr := wtl_len (hw (nth a i) (nth_mem h))
    have hbi : i < b.length := by omega
    simp only [laws_markPacketS_l0, lt_len hbi, idx_nat hbi, inl_nat hbi, w64_succ h hl, Int.toNat_natCast, andt_true_l, andt_true_r, cond_true, hn, w1, w2, w3, w4, w5, w6, w7, w8, w9, w10, w11, w12, w13, w14, w15, w16, idx_setl, inl_setl, List.set_set, nth_setl hbi]
    rw [show K + 1 + 1 + 1 + 1 + 1 + 1 + 1 + 1 + 1 + 1 + 1 + 1 + 1 + 1 + 1 + 1 = K + 16 by simp only [Int.add_assoc]; rfl, rowPacketS K (nth a i) hr]
  · intro n b hb
    rw [laws_markPacketS_L0_s]
    simp only [laws_markPacketS_l0, ← hb, not_lt_len, cond_false]

def laws_heldPacketS_l0 {α : Type} (bad : α) (k_ : Int → α) (a : Rows) (ih0 : Int → Int → α) (k_1 : Int) (i : Int) : α :=
  let z0 : Int := w64 ((w64 (k_1 + 1)) + 1)
  let z1 : Int := w64 (z0 + 1)
  let z2 : Int := w64 (z1 + 1)
  let z3 : Int := w64 (z2 + 1)
  let z4 : Int := w64 (z3 + 1)
  let z5 : Int := w64 (z4 + 1)
  let z6 : Int := w64 (z5 + 1)
  let z7 : Int := w64 (z6 + 1)
  let z8 : Int := w64 (z7 + 1)
  let z9 : Int := w64 (z8 + 1)
  let z10 : Int := w64 (z9 + 1)
  let z11 : Int := w64 (z10 + 1)
  let z12 : Int := w64 (z11 + 1)
  let z13 : Int := w64 (z12 + 1)
  bif decide (i < len a) then
    bif andt true (idx i a) then
      bif (rI (nth a (Int.toNat i)) 0) != k_1 then k_ (-1)
      else bif andt true (idx i a) then
          bif (rI (nth a (Int.toNat i)) 1) != (w64 (k_1 + 1)) then k_ (-1)
          else bif andt true (idx i a) then
              bif (rI (nth a (Int.toNat i)) 2) != z0 then k_ (-1)
              else bif andt true (idx i a) then
                  bif (rI (nth a (Int.toNat i)) 3) != z1 then k_ (-1)
                  else bif andt true (idx i a) then
                      bif (rI (nth a (Int.toNat i)) 4) != z2 then k_ (-1)
                      else bif andt true (idx i a) then
                          bif (rI (nth a (Int.toNat i)) 5) != z3 then k_ (-1)
                          else bif andt true (idx i a) then
                              bif (rI (nth a (Int.toNat i)) 6) != z4 then k_ (-1)
                              else bif andt true (idx i a) then
                                  bif (rI (nth a (Int.toNat i)) 7) != z5 then k_ (-1)
                                  else bif andt true (idx i a) then
                                      bif (rI (nth a (Int.toNat i)) 8) != z6 then k_ (-1)
                                      else bif andt true (idx i a) then
                                          bif (rI (nth a (Int.toNat i)) 9) != z7 then k_ (-1)
                                          else bif andt true (idx i a) then
                                              bif (rI (nth a (Int.toNat i)) 10) != z8 then k_ (-1)
                                              else bif andt true (idx i a) then
                                                  bif (rI (nth a (Int.toNat i)) 11) != z9 then k_ (-1)
                                                  else bif andt true (idx i a) then
                                                      bif (rI (nth a (Int.toNat i)) 12) != z10 then k_ (-1)
                                                      else bif andt true (idx i a) then
                                                          bif (rI (nth a (Int.toNat i)) 13) != z11 then k_ (-1)
                                                          else bif andt true (idx i a) then
                                                              bif (rI (nth a (Int.toNat i)) 14) != z12 then k_ (-1)
                                                              else bif andt true (idx i a) then
                                                                  bif !((rS (nth a (Int.toNat i)) 15) == (markText z13)) then k_ (-1)
                                                                  else ih0 (w64 (z13 + 1)) (w64 (i + 1))
                                                                else bad
                                                            else bad
                                                        else bad
                                                    else bad
                                                else bad
                                            else bad
                                        else bad
                                    else bad
                                else bad
                            else bad
                        else bad
                    else bad
                else bad
            else bad
        else bad
    else bad
  else k_ k_1
def laws_heldPacketS_L0 {α : Type} (bad : α) (k_ : Int → α) (N : Nat) (a : Rows) (m_ : Nat) : Int → Int → α :=
  Nat.rec (motive := fun _ => Int → Int → α) (fun _ _ => bad) (fun _ ih0 => laws_heldPacketS_l0 bad k_ a ih0) m_
theorem laws_heldPacketS_L0_z {α : Type} (bad : α) (k_ : Int → α) (N : Nat) (a : Rows) (k_1 : Int) (i : Int) : laws_heldPacketS_L0 bad k_ N a 0 k_1 i = bad := rfl
theorem laws_heldPacketS_L0_s {α : Type} (bad : α) (k_ : Int → α) (N : Nat) (a : Rows) (m_ : Nat) (k_1 : Int) (i : Int) : laws_heldPacketS_L0 bad k_ N a (m_ + 1) k_1 i = laws_heldPacketS_l0 bad k_ a (laws_heldPacketS_L0 bad k_ N a m_) k_1 i := rfl
def laws_heldPacketS_t {α : Type} (bad : α) (k_ : Int → α) (l0 : Int → Int → α) (a : Rows) (k : Int) : α :=
  l0 k 0
def laws_heldPacketS_f {α : Type} (bad : α) (k_ : Int → α) (N : Nat) (a : Rows) (k : Int) : α := laws_heldPacketS_t bad k_ (laws_heldPacketS_L0 bad k_ N a N) a k
def heldPacketS (a : Rows) (k : Int) : Int := k + 16 * a.length
theorem laws_heldPacketS_c {α : Type} (bad : α) (k_ : Int → α) (a : Rows) (k : Int) (h_a : WtC (.sl [.int .i64, .int .i64, .int .i64, .int .i64, .int .i64, .int .i64, .int .i64, .int .i64, .int .i64, .int .i64, .int .i64, .int .i64, .int .i64, .int .i64, .int .i64, .str]) (.sl a)) (h_k : WtC (.int .i64) (.int k)) (hok : hdo fPacketS 16 a k = true) : ∃ N, laws_heldPacketS_f bad k_ N a k = k_ (heldPacketS a k) := by
  obtain ⟨hl, hw⟩ := wt_sl h_a
  obtain ⟨h0, h1, h2, h3⟩ := hdo_of hok
  refine ⟨a.length + 1, ?_⟩
  unfold laws_heldPacketS_f laws_heldPacketS_t heldPacketS
  refine held_loop a k 16 fPacketS (laws_heldPacketS_L0 bad k_ (a.length + 1) a) k_ h0 ?_ ?_
  · intro n i h hn
    rw [laws_heldPacketS_L0_s]
    have hk0 : 0 ≤ k + 16 * (i : Int) := by omega
    have hk1 : k + 16 * (i : Int) ≤ 1125901000000000000 := by omega
    generalize k + 16 * (i : Int) = K at hn hk0 hk1 ⊢
    have b0 : 0 ≤ K ∧ K ≤ 1125901000000000000 := ⟨hk0, hk1⟩
    obtain ⟨w1, b1⟩ := w64_one b0 (by decide)
    obtain ⟨w2, b2⟩ := w64_one b1 (by decide)
    obtain ⟨w3, b3⟩ := w64_one b2 (by decide)
    obtain ⟨w4, b4⟩ := w64_one b3 (by decide)
    obtain ⟨w5, b5⟩ := w64_one b4 (by decide)
    obtain ⟨w6, b6⟩ := w64_one b5 (by decide)
    obtain ⟨w7, b7⟩ := w64_one b6 (by decide)
    obtain ⟨w8, b8⟩ := w64_one b7 (by decide)
    obtain ⟨w9, b9⟩ := w64_one b8 (by decide)
    obtain ⟨w10, b10⟩ := w64_one b9 (by decide)
    obtain ⟨w11, b11⟩ := w64_one b10 (by decide)
    obtain ⟨w12, b12⟩ := w64_one b11 (by decide)
    obtain ⟨w13, b13⟩ := w64_one b12 (by decide)
    obtain ⟨w14, b14⟩ := w64_one b13 (by decide)
    obtain ⟨w15, b15⟩ := w64_one b14 (by decide)
    obtain ⟨w16, b16⟩ := w64_one b15 (by decide)
    have r0 : rI (nth a i) 0 = K := by rw [hn]; rfl
    have r1 : rI (nth a i) 1 = K + 1 := by rw [hn]; rfl
    have r2 : rI (nth a i) 2 = K + 1 + 1 := by rw [hn]; rfl
    have r3 : rI (nth a i) 3 = K + 1 + 1 + 1 := by rw [hn]; rfl
    have r4 : rI (nth a i) 4 = K + 1 + 1 + 1 + 1 := by rw [hn]; rfl
    have r5 : rI (nth a i) 5 = K + 1 + 1 + 1 + 1 + 1 := by rw [hn]; rfl
    have r6 : rI (nth a i) 6 = K + 1 + 1 + 1 + 1 + 1 + 1 := by rw [hn]; rfl
    have r7 : rI (nth a i) 7 = K + 1 + 1 + 1 + 1 + 1 + 1 + 1 := by rw [hn]; rfl
    have r8 : rI (nth a i) 8 = K + 1 + 1 + 1 + 1 + 1 + 1 + 1 + 1 := by rw [hn]; rfl
    have r9 : rI (nth a i) 9 = K + 1 + 1 + 1 + 1 + 1 + 1 + 1 + 1 + 1 := by rw [hn]; rfl
    have r10 : rI (nth a i) 10 = K + 1 + 1 + 1 + 1 + 1 + 1 + 1 + 1 + 1 + 1 := by rw [hn]; rfl
    have r11 : rI (nth a i) 11 = K + 1 + 1 + 1 + 1 + 1 + 1 + 1 + 1 + 1 + 1 + 1 := by rw [hn]; rfl
    have r12 : rI (nth a i) 12 = K + 1 + 1 + 1 + 1 + 1 + 1 + 1 + 1 + 1 + 1 + 1 + 1 := by rw [hn]; rfl
    have r13 : rI (nth a i) 13 = K + 1 + 1 + 1 + 1 + 1 + 1 + 1 + 1 + 1 + 1 + 1 + 1 + 1 := by rw [hn]; rfl
    have r14 : rI (nth a i) 14 = K + 1 + 1 + 1 + 1 + 1 + 1 + 1 + 1 + 1 + 1 + 1 + 1 + 1 + 1 := by rw [hn]; rfl
    have r15 : rS (nth a i) 15 = markText (K + 1 + 1 + 1 + 1 + 1 + 1 + 1 + 1 + 1 + 1 + 1 + 1 + 1 + 1 + 1) := by rw [hn]; rfl
    simp only [laws_heldPacketS_l0, lt_len h, idx_nat h, w64_succ h hl, Int.toNat_natCast, andt_true_l, andt_true_r, cond_true, w1, w2, w3, w4, w5, w6, w7, w8, w9, w10, w11, w12, w13, w14, w15, w16, r0, r1, r2, r3, r4, r5, r6, r7, r8, r9, r10, r11, r12, r13, r14, r15, bne_self_eq_false, beq_self_eq_true, Bool.not_true, cond_false]
    rw [show K + 1 + 1 + 1 + 1 + 1 + 1 + 1 + 1 + 1 + 1 + 1 + 1 + 1 + 1 + 1 + 1 = K + 16 by simp only [Int.add_assoc]; rfl]
  · intro n
    rw [laws_heldPacketS_L0_s]
    simp only [laws_heldPacketS_l0, not_lt_len, cond_false]

def laws_markPacketSS_l0 {α : Type} (bad : α) (k_ : Int → Rows → α) (ih0 : Int → Int → Rows → α) (k_1 : Int) (i : Int) (a_1 : Rows) : α :=
  bif decide (i < len a_1) then
    bif andt (andt (andt true (idx i a_1)) (inl (Int.toNat i) a_1)) (mko 16 (rR (nth a_1 (Int.toNat i)) 0) k_1) then
      ih0 ((markPacketS (rR (nth a_1 (Int.toNat i)) 0) k_1).1) (w64 (i + 1)) (List.set a_1 (Int.toNat i) (splice (nth a_1 (Int.toNat i)) 0 [.sl ((markPacketS (rR (nth a_1 (Int.toNat i)) 0) k_1).2)]))
    else bad
  else k_ k_1 a_1
def laws_markPacketSS_L0 {α : Type} (bad : α) (k_ : Int → Rows → α) (N : Nat) (m_ : Nat) : Int → Int → Rows → α :=
  Nat.rec (motive := fun _ => Int → Int → Rows → α) (fun _ _ _ => bad) (fun _ ih0 => laws_markPacketSS_l0 bad k_ ih0) m_
theorem laws_markPacketSS_L0_z {α : Type} (bad : α) (k_ : Int → Rows → α) (N : Nat) (k_1 : Int) (i : Int) (a_1 : Rows) : laws_markPacketSS_L0 bad k_ N 0 k_1 i a_1 = bad := rfl
theorem laws_markPacketSS_L0_s {α : Type} (bad : α) (k_ : Int → Rows → α) (N : Nat) (m_ : Nat) (k_1 : Int) (i : Int) (a_1 : Rows) : laws_markPacketSS_L0 bad k_ N (m_ + 1) k_1 i a_1 = laws_markPacketSS_l0 bad k_ (laws_markPacketSS_L0 bad k_ N m_) k_1 i a_1 := rfl
def laws_markPacketSS_t {α : Type} (bad : α) (k_ : Int → Rows → α) (l0 : Int → Int → Rows → α) (a : Rows) (k : Int) : α :=
  l0 k 0 a
def laws_markPacketSS_f {α : Type} (bad : α) (k_ : Int → Rows → α) (N : Nat) (a : Rows) (k : Int) : α := laws_markPacketSS_t bad k_ (laws_markPacketSS_L0 bad k_ N N) a k
def fSS (r : List DC) (k : Int) : List DC × Int := ([.sl (mkl fPacketS 16 (rR r 0).length k)], k + 16 * (rR r 0).length)
def gSS (r : List DC) (k : Int) : Bool := mko 16 (rR r 0) k
def markPacketSS (a : Rows) (k : Int) : Int × Rows := ((mkd fSS a k).2, (mkd fSS a k).1)
theorem laws_markPacketSS_c {α : Type} (bad : α) (k_ : Int → Rows → α) (a : Rows) (k : Int) (h_a : WtC (.sl [.sl [.int .i64, .int .i64, .int .i64, .int .i64, .int .i64, .int .i64, .int .i64, .int .i64, .int .i64, .int .i64, .int .i64, .int .i64, .int .i64, .int .i64, .int .i64, .str]]) (.sl a)) (h_k : WtC (.int .i64) (.int k)) (hok : mkdOk fSS gSS a k = true) : ∃ N, laws_markPacketSS_f bad k_ N a k = k_ (markPacketSS a k).1 (markPacketSS a k).2 := by
  obtain ⟨hl, hw⟩ := wt_sl h_a
  refine ⟨a.length + 1, ?_⟩
  unfold laws_markPacketSS_f laws_markPacketSS_t markPacketSS
  refine mkd_loop a k fSS gSS (laws_markPacketSS_L0 bad k_ (a.length + 1)) k_ hok ?_ ?_
  · intro n i k b h hb hn hg
    rw [laws_markPacketSS_L0_s]
    have hr := wtl_len (hw (nth a i) (nth_mem h))
    rw [← hn] at hg hr ⊢
    have hbi : i < b.length := by omega
    have hg' : mko 16 (rR (nth b i) 0) k = true := hg
    simp only [laws_markPacketSS_l0, lt_len hbi, idx_nat hbi, inl_nat hbi, w64_succ h hl, Int.toNat_natCast, andt_true_l, andt_true_r, cond_true, hg', markPacketS, fSS]
    rw [splice_all (by rw [hr]; rfl)]
  · intro n k b hb
    rw [laws_markPacketSS_L0_s]
    simp only [laws_markPacketSS_l0, ← hb, not_lt_len, cond_false]

def laws_heldPacketSS_l0 {α : Type} (bad : α) (k_ : Int → α) (a : Rows) (ih0 : Int → Int → α) (k_1 : Int) (i : Int) : α :=
  let z0 : Int := heldPacketS (rR (nth a (Int.toNat i)) 0) k_1
  bif decide (i < len a) then
    bif andt (andt true (idx i a)) (hdo fPacketS 16 (rR (nth a (Int.toNat i)) 0) k_1) then
      bif decide (z0 < 0) then k_ (-1)
      else ih0 z0 (w64 (i + 1))
    else bad
  else k_ k_1
def laws_heldPacketSS_L0 {α : Type} (bad : α) (k_ : Int → α) (N : Nat) (a : Rows) (m_ : Nat) : Int → Int → α :=
  Nat.rec (motive := fun _ => Int → Int → α) (fun _ _ => bad) (fun _ ih0 => laws_heldPacketSS_l0 bad k_ a ih0) m_
theorem laws_heldPacketSS_L0_z {α : Type} (bad : α) (k_ : Int → α) (N : Nat) (a : Rows) (k_1 : Int) (i : Int) : laws_heldPacketSS_L0 bad k_ N a 0 k_1 i = bad := rfl
theorem laws_heldPacketSS_L0_s {α : Type} (bad : α) (k_ : Int → α) (N : Nat) (a : Rows) (m_ : Nat) (k_1 : Int) (i : Int) : laws_heldPacketSS_L0 bad k_ N a (m_ + 1) k_1 i = laws_heldPacketSS_l0 bad k_ a (laws_heldPacketSS_L0 bad k_ N a m_) k_1 i := rfl
def laws_heldPacketSS_t {α : Type} (bad : α) (k_ : Int → α) (l0 : Int → Int → α) (a : Rows) (k : Int) : α :=
  l0 k 0
def laws_heldPacketSS_f {α : Type} (bad : α) (k_ : Int → α) (N : Nat) (a : Rows) (k : Int) : α := laws_heldPacketSS_t bad k_ (laws_heldPacketSS_L0 bad k_ N a N) a k
def hkSS (a : Rows) (k : Int) : Bool := same a (mkd fSS a k).1 && mkdOk fSS gSS a k
def heldPacketSS (a : Rows) (k : Int) : Int := (mkd fSS a k).2
theorem laws_heldPacketSS_c {α : Type} (bad : α) (k_ : Int → α) (a : Rows) (k : Int) (h_a : WtC (.sl [.sl [.int .i64, .int .i64, .int .i64, .int .i64, .int .i64, .int .i64, .int .i64, .int .i64, .int .i64, .int .i64, .int .i64, .int .i64, .int .i64, .int .i64, .int .i64, .str]]) (.sl a)) (h_k : WtC (.int .i64) (.int k)) (hok : hkSS a k = true) : ∃ N, laws_heldPacketSS_f bad k_ N a k = k_ (heldPacketSS a k) := by
  obtain ⟨hl, hw⟩ := wt_sl h_a
  simp only [hkSS, Bool.and_eq_true] at hok
  refine ⟨a.length + 1, ?_⟩
  unfold laws_heldPacketSS_f laws_heldPacketSS_t heldPacketSS
  refine hkd_loop a k fSS gSS (laws_heldPacketSS_L0 bad k_ (a.length + 1) a) k_ hok.2 (same_eq hok.1) ?_ ?_
  · intro n i k h hn hg
    rw [laws_heldPacketSS_L0_s]
    have e : rR (nth a i) 0 = mkl fPacketS 16 (rR (nth a i) 0).length k := congrArg (fun r => rR r 0) hn
    have hg' : mko 16 (rR (nth a i) 0) k = true := hg
    have hh : hdo fPacketS 16 (rR (nth a i) 0) k = true := by
      simp only [hdo, Bool.and_eq_true]
      exact ⟨by rw [← e]; exact same_refl _, hg'⟩
    obtain ⟨g1, g2, g3⟩ := mko_of hg'
    have hz : ¬ k + 16 * ((rR (nth a i) 0).length : Int) < 0 := by omega
    simp only [laws_heldPacketSS_l0, lt_len h, idx_nat h, w64_succ h hl, Int.toNat_natCast, andt_true_l, andt_true_r, cond_true, hh, heldPacketS, hz, decide_false, cond_false, fSS]
  · intro n k
    rw [laws_heldPacketSS_L0_s]
    simp only [laws_heldPacketSS_l0, not_lt_len, cond_false]


theorem mh_PacketSS {a : Rows} {B : Int} (hB : 0 ≤ B) (hB1 : B ≤ 8388608) (hl : a.length ≤ 16) (h : ∀ r ∈ a, ((rR r 0).length : Int) ≤ B) {k : Int} (h0 : 0 ≤ k) (h1 : k ≤ 1000000) : mkdOk fSS gSS a k = true ∧ hkSS (mkd fSS a k).1 k = true ∧ (mkd fSS (mkd fSS a k).1 k).2 = (mkd fSS a k).2 ∧ 0 ≤ (mkd fSS a k).2 := by
  have hC : (134217728 : Int) * (a.length : Int) ≤ 2147483648 := by omega
  obtain ⟨h2, h3, _⟩ := mkd_sizes (f := fSS) (g := gSS) (B := 1125899906842624) (C := 134217728) (by omega) a k (fun r hr k k0 k1 => by
    have := h r hr
    refine ⟨mko_mk (decide_eq_true (by omega)) k0 k1, ?_, ?_⟩
    · show k ≤ k + 16 * ((rR r 0).length : Int)
      omega
    · show k + 16 * ((rR r 0).length : Int) ≤ k + 134217728
      omega) h0 (by omega)
  have hf : ∀ r k, fSS (fSS r k).1 k = fSS r k := by
    intro r k
    have e : (rR (fSS r k).1 0).length = (rR r 0).length := mkl_length fPacketS 16 _ _
    simp only [fSS] at e ⊢
    rw [e]
  have hg : ∀ r k, gSS (fSS r k).1 k = gSS r k := by
    intro r k
    have e : (rR (fSS r k).1 0).length = (rR r 0).length := mkl_length fPacketS 16 _ _
    simp only [gSS, mko, sm, e]
  obtain ⟨t1, t2⟩ := mkd_twice hf hg a k
  refine ⟨h2, ?_, by rw [t1], by omega⟩
  simp only [hkSS, t1, t2, h2, same_refl, Bool.and_self]

end
end Go.Proofs.Ytklbgnodgnlebaa.Pl
