/- Plain lemmas on bits and bytes. Conditions: none. -/
import Derived.Test.YtnlkklmcfafgeaaGreatLem
set_option linter.unusedVariables false
namespace Go.Proofs.YtnlkklmcfafgeaaGreat.Pl
open Vm
theorem ng9 (n:Int) (nBe:0≤n) (nBf:n<2 ^ 63):IntKind.i64.wrap n=n:=by rw[IntKind.wrap_i64];omega
theorem npr (n:Int) (nBe:0≤n) (nBf:n<2 ^ 32):IntKind.u32.wrap n=n:=by rw[IntKind.wrap_u32];omega
theorem nxA (k:IntKind) (j:Nat) (hj:j≤k.bits) (hk:∀n:Int,0≤n→n<2 ^ j→k.wrap n=n) (a b:Nat) (ha:a<2 ^ j) (hb:b<2 ^ j):
  bits .xor k a b=((a ^^^ b:Nat):Int):=by
 have hp:2 ^ j≤2 ^ k.bits:=Nat.pow_le_pow_right (by decide) hj
 have ha':a % 2 ^ k.bits=a:=Nat.mod_eq_of_lt (Nat.lt_of_lt_of_le ha hp)
 have aB:b % 2 ^ k.bits=b:=Nat.mod_eq_of_lt (Nat.lt_of_lt_of_le hb hp)
 simp only[bits,BitVec.ofInt_natCast,BitVec.toNat_xor,BitVec.toNat_ofNat,ha',aB]
 exact hk _ (Int.natCast_nonneg _) (by exact_mod_cast Nat.xor_lt_two_pow ha hb)
theorem nbw {a b:Int} (ha:0≤a) (ha':a<4294967296) (hb:0≤b) (aB:b<4294967296):
  bits .xor .i64 a b=bits .xor .u32 a b∧0≤bits .xor .u32 a b∧bits .xor .u32 a b<4294967296:=by
 obtain⟨x,rfl⟩:=Int.eq_ofNat_of_zero_le ha
 obtain⟨y,rfl⟩:=Int.eq_ofNat_of_zero_le hb
 have hx:x<2 ^ 32:=by omega
 have hy:y<2 ^ 32:=by omega
 rw[nxA .i64 63 (by decide) ng9 x y (by omega) (by omega),nxA .u32 32 (by decide) npr x y hx hy]
 have:=Nat.xor_lt_two_pow hx hy
 omega
theorem ny7 {a:Int} (ha:0≤a) (ha':a<4294967296):bits .and .i64 a 1=bits .and .u32 a 1:=by
 have h1:=bits_mask .i64 63 (by decide) ng9 1 (by decide) a ha (by omega)
 have h2:=bits_mask .u32 32 (by decide) npr 1 (by decide) a ha (by omega)
 simp only[show (2:Int) ^ 1 - 1=1 from rfl] at h1 h2
 rw[h1,h2]
theorem nz6 (a:Int):wE .i64 a 1=a / 2:=by
 simp [wE,IntKind.bits,Int.fdiv_eq_ediv]
theorem nx3 (a:Int):wE .u32 a 1=a / 2:=by
 simp [wE,IntKind.bits,Int.fdiv_eq_ediv]
theorem nz5 (a:Int):Zb .i64 a 8=nL (a*256):=rfl
theorem nAD (a:Int):Zb .i64 a 16=nL (a*65536):=rfl
theorem nBb (a:Int):Zb .i64 a 24=nL (a*16777216):=rfl
theorem Yl {x y:Int} (i:Nat) (nA8:0≤x) (hx:x % 2 ^ i=0) (nA9:x<2 ^ 63) (nA_:0≤y) (hy:y<2 ^ i) (nBa:y<2 ^ 63):bits .or .i64 x y=x+y:=
 bits_join .i64 63 (by decide) ng9 i x y nA8 hx nA9 nA_ hy nBa
theorem sL (s:Bytes) (i:Int):0≤wV s i:=by simp [wV]
theorem tY (s:Bytes) (i:Int):wV s i<256:=by
 have:=(s.getD i.toNat 0).toNat_lt
 simp only[wV]
 omega
theorem nAo {c:Int} (h:0≤c) (h':c<4294967296):bits .xor .u32 (IntKind.max .u32) c=4294967295 - c:=by
 obtain⟨x,rfl⟩:=Int.eq_ofNat_of_zero_le h
 have hx:x<2 ^ 32:=by omega
 have e:IntKind.max .u32=((4294967295:Nat):Int):=by decide
 rw[e,nxA .u32 32 (by decide) npr 4294967295 x (by decide) hx]
 have:4294967295 ^^^ x=4294967295 - x:=by
  have h2:=congrArg BitVec.toNat (BitVec.xor_allOnes (x:=BitVec.ofNat 32 x))
  rw[BitVec.toNat_xor,BitVec.toNat_not,BitVec.toNat_allOnes,BitVec.toNat_ofNat,Nat.mod_eq_of_lt hx] at h2
  rw[Nat.xor_comm]
  exact h2
 rw[this]
 omega
end Go.Proofs.YtnlkklmcfafgeaaGreat.Pl
