/- Plain lemmas on bits and bytes. Conditions: none. -/
import Derived.Test.YtoaflbnkiobhdaaGreatLem
set_option linter.unusedVariables false
namespace Go.Proofs.YtoaflbnkiobhdaaGreat.Pl
open Vm
theorem ntD (n:Int) (nxq:0≤n) (nxr:n<2 ^ 63):IntKind.i64.wrap n=n:=by rw[IntKind.wrap_i64];omega
theorem nwm (a:Int):nfz .i64 a 8=nS (a*256):=rfl
theorem nwS (a:Int):nfz .i64 a 16=nS (a*65536):=rfl
theorem nxl (a:Int):nfz .i64 a 24=nS (a*16777216):=rfl
theorem ne1 {x y:Int} (i:Nat) (nxh:0≤x) (hx:x % 2 ^ i=0) (nxi:x<2 ^ 63) (nxj:0≤y) (hy:y<2 ^ i) (nxk:y<2 ^ 63):bits .or .i64 x y=x+y:=
 bits_join .i64 63 (by decide) ntD i x y nxh hx nxi nxj hy nxk
theorem x_ (s:Bytes) (i:Int):0≤y9 s i:=by simp [y9]
theorem x9 (s:Bytes) (i:Int):y9 s i<256:=by
 have:=(s.getD i.toNat 0).toNat_lt
 simp only[y9]
 omega
end Go.Proofs.YtoaflbnkiobhdaaGreat.Pl
