/- Plain lemmas on bits and bytes. Conditions: none. -/
import Derived.Test.YtngbcccnjiaddaaGreatLem
set_option linter.unusedVariables false
namespace Go.Proofs.YtngbcccnjiaddaaGreat.Pl
open Vm
theorem ng3 (n:Int) (nAe:0≤n) (nAf:n<2 ^ 63):IntKind.i64.wrap n=n:=by rw[IntKind.wrap_i64];omega
theorem noG (n:Int) (nAe:0≤n) (nAf:n<2 ^ 32):IntKind.u32.wrap n=n:=by rw[IntKind.wrap_u32];omega
theorem nwD (k:IntKind) (j:Nat) (hj:j≤k.bits) (hk:∀n:Int,0≤n→n<2 ^ j→k.wrap n=n) (a b:Nat) (ha:a<2 ^ j) (hb:b<2 ^ j):
  bits .xor k a b=((a ^^^ b:Nat):Int):=by
 have hp:2 ^ j≤2 ^ k.bits:=Nat.pow_le_pow_right (by decide) hj
 have ha':a % 2 ^ k.bits=a:=Nat.mod_eq_of_lt (Nat.lt_of_lt_of_le ha hp)
 have ax:b % 2 ^ k.bits=b:=Nat.mod_eq_of_lt (Nat.lt_of_lt_of_le hb hp)
 simp only[bits,BitVec.ofInt_natCast,BitVec.toNat_xor,BitVec.toNat_ofNat,ha',ax]
 exact hk _ (Int.natCast_nonneg _) (by exact_mod_cast Nat.xor_lt_two_pow ha hb)
theorem nba {a b:Int} (ha:0≤a) (ha':a<4294967296) (hb:0≤b) (ax:b<4294967296):
  bits .xor .i64 a b=bits .xor .u32 a b∧0≤bits .xor .u32 a b∧bits .xor .u32 a b<4294967296:=by
 obtain⟨x,rfl⟩:=Int.eq_ofNat_of_zero_le ha
 obtain⟨y,rfl⟩:=Int.eq_ofNat_of_zero_le hb
 have hx:x<2 ^ 32:=by omega
 have hy:y<2 ^ 32:=by omega
 rw[nwD .i64 63 (by decide) ng3 x y (by omega) (by omega),nwD .u32 32 (by decide) noG x y hx hy]
 have:=Nat.xor_lt_two_pow hx hy
 omega
theorem nx1 {a:Int} (ha:0≤a) (ha':a<4294967296):bits .and .i64 a 1=bits .and .u32 a 1:=by
 have h1:=bits_mask .i64 63 (by decide) ng3 1 (by decide) a ha (by omega)
 have h2:=bits_mask .u32 32 (by decide) noG 1 (by decide) a ha (by omega)
 simp only[show (2:Int) ^ 1 - 1=1 from rfl] at h1 h2
 rw[h1,h2]
theorem nyR (a:Int):So .i64 a 1=a / 2:=by
 simp [So,IntKind.bits,Int.fdiv_eq_ediv]
theorem nw4 (a:Int):So .u32 a 1=a / 2:=by
 simp [So,IntKind.bits,Int.fdiv_eq_ediv]
theorem nyQ (a:Int):nei .i64 a 8=nK (a*256):=rfl
theorem nzq (a:Int):nei .i64 a 16=nK (a*65536):=rfl
theorem nz9 (a:Int):nei .i64 a 24=nK (a*16777216):=rfl
theorem nbB {x y:Int} (i:Nat) (nz5:0≤x) (hx:x % 2 ^ i=0) (nz6:x<2 ^ 63) (nz7:0≤y) (hy:y<2 ^ i) (nz8:y<2 ^ 63):bits .or .i64 x y=x+y:=
 bits_join .i64 63 (by decide) ng3 i x y nz5 hx nz6 nz7 hy nz8
theorem ry (s:Bytes) (i:Int):0≤tK s i:=by simp [tK]
theorem sC (s:Bytes) (i:Int):tK s i<256:=by
 have:=(s.getD i.toNat 0).toNat_lt
 simp only[tK]
 omega
theorem ny8 {c:Int} (h:0≤c) (h':c<4294967296):bits .xor .u32 (IntKind.max .u32) c=4294967295 - c:=by
 obtain⟨x,rfl⟩:=Int.eq_ofNat_of_zero_le h
 have hx:x<2 ^ 32:=by omega
 have e:IntKind.max .u32=((4294967295:Nat):Int):=by decide
 rw[e,nwD .u32 32 (by decide) noG 4294967295 x (by decide) hx]
 have:4294967295 ^^^ x=4294967295 - x:=by
  have h2:=congrArg BitVec.toNat (BitVec.xor_allOnes (x:=BitVec.ofNat 32 x))
  rw[BitVec.toNat_xor,BitVec.toNat_not,BitVec.toNat_allOnes,BitVec.toNat_ofNat,Nat.mod_eq_of_lt hx] at h2
  rw[Nat.xor_comm]
  exact h2
 rw[this]
 omega
end Go.Proofs.YtngbcccnjiaddaaGreat.Pl
