/- Plain lemmas on bits and bytes. Conditions: none. -/
import Derived.Test.YtngbcccnjiaddaaGreatLem
set_option linter.unusedVariables false
namespace Go.Proofs.YtngbcccnjiaddaaGreat.Pl
open Vm
theorem nyx (n:Int) (nDb:0≤n) (nDc:n<2 ^ 63):IntKind.i64.wrap n=n:=by rw[IntKind.wrap_i64];omega
theorem nCi (a:Int):nAK .i64 a 8=nM (a*256):=rfl
theorem nAZ {x y:Int} (i:Nat) (nCZ:0≤x) (hx:x % 2 ^ i=0) (nC0:x<2 ^ 63) (nC1:0≤y) (hy:y<2 ^ i) (nC2:y<2 ^ 63):bits .or .i64 x y=x+y:=
 bits_join .i64 63 (by decide) nyx i x y nCZ hx nC0 nC1 hy nC2
theorem Yp (s:Bytes) (i:Int):0≤SR s i:=by simp [SR]
theorem Yo (s:Bytes) (i:Int):SR s i<256:=by
 have:=(s.getD i.toNat 0).toNat_lt
 simp only[SR]
 omega
end Go.Proofs.YtngbcccnjiaddaaGreat.Pl
