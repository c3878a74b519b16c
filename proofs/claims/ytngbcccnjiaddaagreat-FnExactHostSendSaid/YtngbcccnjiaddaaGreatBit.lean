/- Plain lemmas on bits and bytes. Conditions: none. -/
import Derived.Test.YtngbcccnjiaddaaGreatLem
namespace Go.Proofs.YtngbcccnjiaddaaGreat.Pl
open Vm
theorem nyv (n:Int) (nDb:0≤n) (nDc:n<2 ^ 63):IntKind.i64.wrap n=n:=by rw[IntKind.wrap_i64];omega
theorem nCi (a:Int):nAK .i64 a 8=nM (a*256):=rfl
theorem nAZ {x y:Int} (i:Nat) (nCZ:0≤x) (hx:x % 2 ^ i=0) (nC0:x<2 ^ 63) (nC1:0≤y) (hy:y<2 ^ i) (nC2:y<2 ^ 63):bits .or .i64 x y=x+y:=
 bits_join .i64 63 (by decide) nyv i x y nCZ hx nC0 nC1 hy nC2
theorem Yp (s:Bytes) (i:Int):0≤SQ s i:=by simp [SQ]
theorem Yo (s:Bytes) (i:Int):SQ s i<256:=by
 have:=(s.getD i.toNat 0).toNat_lt
 simp only[SQ]
 omega
end Go.Proofs.YtngbcccnjiaddaaGreat.Pl
