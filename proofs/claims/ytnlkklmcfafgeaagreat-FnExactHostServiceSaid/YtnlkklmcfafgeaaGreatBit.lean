/- Plain lemmas on bits and bytes. Conditions: none. -/
import Derived.Test.YtnlkklmcfafgeaaGreatLem
set_option linter.unusedVariables false
namespace Go.Proofs.YtnlkklmcfafgeaaGreat.Pl
open Vm
theorem ns2 (n:Int) (nxY:0≤n) (nxZ:n<2 ^ 63):IntKind.i64.wrap n=n:=by rw[IntKind.wrap_i64];omega
theorem nwH (a:Int):ncv .i64 a 8=nS (a*256):=rfl
theorem nxb (a:Int):ncv .i64 a 16=nS (a*65536):=rfl
theorem nxK (a:Int):ncv .i64 a 24=nS (a*16777216):=rfl
theorem Z8 {x y:Int} (i:Nat) (nxG:0≤x) (hx:x % 2 ^ i=0) (nxH:x<2 ^ 63) (nxI:0≤y) (hy:y<2 ^ i) (nxJ:y<2 ^ 63):bits .or .i64 x y=x+y:=
 bits_join .i64 63 (by decide) ns2 i x y nxG hx nxH nxI hy nxJ
theorem tr (s:Bytes) (i:Int):0≤zQ s i:=by simp [zQ]
theorem vr (s:Bytes) (i:Int):zQ s i<256:=by
 have:=(s.getD i.toNat 0).toNat_lt
 simp only[zQ]
 omega
end Go.Proofs.YtnlkklmcfafgeaaGreat.Pl
