/- Plain lemmas on bits and bytes. Conditions: none. -/
import Derived.Test.YthpmalpdnnbkgaaGreatLem
set_option linter.unusedVariables false
namespace Go.Proofs.YthpmalpdnnbkgaaGreat.Pl
open Vm

theorem wraps_i64 (n : Int) (h₀ : 0 ≤ n) (h₁ : n < 2 ^ 63) : IntKind.i64.wrap n = n := by rw [IntKind.wrap_i64]; omega
theorem wraps_u32 (n : Int) (h₀ : 0 ≤ n) (h₁ : n < 2 ^ 32) : IntKind.u32.wrap n = n := by rw [IntKind.wrap_u32]; omega
theorem xor_nat (k : IntKind) (j : Nat) (hj : j ≤ k.bits) (hk : ∀ n : Int, 0 ≤ n → n < 2 ^ j → k.wrap n = n) (a b : Nat) (ha : a < 2 ^ j) (hb : b < 2 ^ j) :
    bits .xor k a b = ((a ^^^ b : Nat) : Int) := by
  have hp : 2 ^ j ≤ 2 ^ k.bits := Nat.pow_le_pow_right (by decide) hj
  have ha' : a % 2 ^ k.bits = a := Nat.mod_eq_of_lt (Nat.lt_of_lt_of_le ha hp)
  have hb' : b % 2 ^ k.bits = b := Nat.mod_eq_of_lt (Nat.lt_of_lt_of_le hb hp)
  simp only [bits, BitVec.ofInt_natCast, BitVec.toNat_xor, BitVec.toNat_ofNat, ha', hb']
  exact hk _ (Int.natCast_nonneg _) (by exact_mod_cast Nat.xor_lt_two_pow ha hb)
/-- Below 2^32 both kinds agree. -/
theorem xor_both {a b : Int} (ha : 0 ≤ a) (ha' : a < 4294967296) (hb : 0 ≤ b) (hb' : b < 4294967296) :
    bits .xor .i64 a b = bits .xor .u32 a b ∧ 0 ≤ bits .xor .u32 a b ∧ bits .xor .u32 a b < 4294967296 := by
  obtain ⟨x, rfl⟩ := Int.eq_ofNat_of_zero_le ha
  obtain ⟨y, rfl⟩ := Int.eq_ofNat_of_zero_le hb
  have hx : x < 2 ^ 32 := by omega
  have hy : y < 2 ^ 32 := by omega
  rw [xor_nat .i64 63 (by decide) wraps_i64 x y (by omega) (by omega), xor_nat .u32 32 (by decide) wraps_u32 x y hx hy]
  have := Nat.xor_lt_two_pow hx hy
  omega
theorem and1_both {a : Int} (ha : 0 ≤ a) (ha' : a < 4294967296) : bits .and .i64 a 1 = bits .and .u32 a 1 := by
  have h1 := bits_mask .i64 63 (by decide) wraps_i64 1 (by decide) a ha (by omega)
  have h2 := bits_mask .u32 32 (by decide) wraps_u32 1 (by decide) a ha (by omega)
  simp only [show (2 : Int) ^ 1 - 1 = 1 from rfl] at h1 h2
  rw [h1, h2]
theorem shr1_i64 (a : Int) : shrI .i64 a 1 = a / 2 := by
  simp [shrI, IntKind.bits, Int.fdiv_eq_ediv]
theorem shr1_u32 (a : Int) : shrI .u32 a 1 = a / 2 := by
  simp [shrI, IntKind.bits, Int.fdiv_eq_ediv]
theorem shl_i64 (a : Int) (n : Nat) (h : n ≤ 63) : shlI .i64 a (n : Int) = w64 (a * 2 ^ n) := by
  simp only [shlI, w64, Int.toNat_natCast, IntKind.bits]
  rw [Nat.min_eq_left (by omega)]
theorem shl8 (a : Int) : shlI .i64 a 8 = w64 (a * 256) := rfl
theorem shl16 (a : Int) : shlI .i64 a 16 = w64 (a * 65536) := rfl
theorem shl24 (a : Int) : shlI .i64 a 24 = w64 (a * 16777216) := rfl
theorem or_join {x y : Int} (i : Nat) (hx₀ : 0 ≤ x) (hx : x % 2 ^ i = 0) (hx₁ : x < 2 ^ 63) (hy₀ : 0 ≤ y) (hy : y < 2 ^ i) (hy₁ : y < 2 ^ 63) : bits .or .i64 x y = x + y :=
  bits_join .i64 63 (by decide) wraps_i64 i x y hx₀ hx hx₁ hy₀ hy hy₁
theorem sAt_lo (s : Bytes) (i : Int) : 0 ≤ sAt s i := by simp [sAt]
theorem sAt_hi (s : Bytes) (i : Int) : sAt s i < 256 := by
  have := (s.getD i.toNat 0).toNat_lt
  simp only [sAt]
  omega
theorem not_u32 {c : Int} (h : 0 ≤ c) (h' : c < 4294967296) : bits .xor .u32 (IntKind.max .u32) c = 4294967295 - c := by
  obtain ⟨x, rfl⟩ := Int.eq_ofNat_of_zero_le h
  have hx : x < 2 ^ 32 := by omega
  have e : IntKind.max .u32 = ((4294967295 : Nat) : Int) := by decide
  rw [e, xor_nat .u32 32 (by decide) wraps_u32 4294967295 x (by decide) hx]
  have : 4294967295 ^^^ x = 4294967295 - x := by
    have h2 := congrArg BitVec.toNat (BitVec.xor_allOnes (x := BitVec.ofNat 32 x))
    rw [BitVec.toNat_xor, BitVec.toNat_not, BitVec.toNat_allOnes, BitVec.toNat_ofNat, Nat.mod_eq_of_lt hx] at h2
    rw [Nat.xor_comm]
    exact h2
  rw [this]
  omega

end Go.Proofs.YthpmalpdnnbkgaaGreat.Pl
