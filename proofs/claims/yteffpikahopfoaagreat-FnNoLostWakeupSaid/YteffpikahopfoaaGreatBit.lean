/- Conditions: as each says. -/
import Derived.Test.YteffpikahopfoaaGreatLem
set_option linter.unusedVariables false
open Int renaming eq_ofNat_of_zero_le→hS
namespace Go.Proofs.YteffpikahopfoaaGreat.Pl
open Vm
theorem XC(n:Int)(a:0≤n)(b:n<2 ^ 63):IntKind.i64.wrap n=n:=by rw[IntKind.wrap_i64];omega
theorem Qs(n:Int)(a:0≤n)(b:n<2 ^ 32):IntKind.u32.wrap n=n:=by rw[IntKind.wrap_u32];omega
theorem RR(k:IntKind)(j:Nat)(f:j≤k.bits)(g:∀n:Int,0≤n→n<2 ^ j→k.wrap n=n)(a b:Nat)(c:a<2 ^ j)(d:b<2 ^ j):
  bits .xor k a b=((a ^^^ b:Nat):Int):=by
 have e:2 ^ j≤2 ^ k.bits:=Nat.pow_le_pow_right (by decide) f;have ha':a % 2 ^ k.bits=a:=Nat.mod_eq_of_lt (Nat.lt_of_lt_of_le c e);have h:b % 2 ^ k.bits=b:=Nat.mod_eq_of_lt (Nat.lt_of_lt_of_le d e);simp only[bits,BitVec.ofInt_natCast,BitVec.toNat_xor,BitVec.toNat_ofNat,ha',h];exact g _ (Int.natCast_nonneg _) (by exact_mod_cast Nat.xor_lt_two_pow c d)
theorem Si{a b:Int}(e:0≤a)(f:a<4294967296)(g:0≤b)(h:b<4294967296):
  bits .xor .i64 a b=bits .xor .u32 a b∧0≤bits .xor .u32 a b∧bits .xor .u32 a b<4294967296:=by
 obtain⟨x,rfl⟩:=hS e;obtain⟨y,rfl⟩:=hS g;have c:x<2 ^ 32:=by omega
 have d:y<2 ^ 32:=by omega
 rw[RR .i64 63 (by decide) XC x y (by omega) (by omega),RR .u32 32 (by decide) Qs x y c d];have:=Nat.xor_lt_two_pow c d;omega
theorem nFc{a:Int}(b:0≤a)(e:a<4294967296):bits .and .i64 a 1=bits .and .u32 a 1:=by have c:=bits_mask .i64 63 (by decide) XC 1 (by decide) a b (by omega);have d:=bits_mask .u32 32 (by decide) Qs 1 (by decide) a b (by omega);simp only[show (2:Int) ^ 1 - 1=1 from rfl] at c d;rw[c,d]
theorem nbs(a:Int):I4 .i64 a 1=a / 2:=by simp[I4,IntKind.bits,Int.fdiv_eq_ediv]
theorem nkv(a:Int):I4 .u32 a 1=a / 2:=by simp[I4,IntKind.bits,Int.fdiv_eq_ediv]
theorem CP(a:Int):PJ .i64 a 8=s (a*256):=rfl
theorem naa(a:Int):PJ .i64 a 16=s (a*65536):=rfl
theorem ncy(a:Int):PJ .i64 a 24=s (a*16777216):=rfl
theorem eL{x y:Int}(i:Nat)(a:0≤x)(e:x % 2 ^ i=0)(b:x<2 ^ 63)(c:0≤y)(f:y<2 ^ i)(d:y<2 ^ 63):bits .or .i64 x y=x+y:=
 bits_join .i64 63 (by decide) XC i x y a e b c f d
theorem Te(s:x)(i:Int):0≤A2 s i:=by simp[A2]
theorem UE(s:x)(i:Int):A2 s i<256:=by have:=(s.getD i.toNat 0).toNat_lt;simp only[A2];omega
theorem nBS{c:Int}(h:0≤c)(d:c<4294967296):bits .xor .u32 (IntKind.max .u32) c=4294967295 - c:=by
 obtain⟨x,rfl⟩:=hS h;have a:x<2 ^ 32:=by omega
 have e:IntKind.max .u32=((4294967295:Nat):Int):=by decide
 rw[e,RR .u32 32 (by decide) Qs 4294967295 x (by decide) a];have:4294967295 ^^^ x=4294967295 - x:=by have b:=congrArg BitVec.toNat (BitVec.xor_allOnes (x:=BitVec.ofNat 32 x));rw[BitVec.toNat_xor,BitVec.toNat_not,BitVec.toNat_allOnes,BitVec.toNat_ofNat,Nat.mod_eq_of_lt a] at b;rw[Nat.xor_comm];exact b
 rw[this];omega
end Go.Proofs.YteffpikahopfoaaGreat.Pl
