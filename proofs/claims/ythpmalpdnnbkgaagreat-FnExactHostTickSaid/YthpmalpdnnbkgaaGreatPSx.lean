/- What functions of the program compute, in plain Lean, as the value machine runs them. Conditions: none. -/
import Derived.Test.YthpmalpdnnbkgaaGreatPBa
import Derived.Test.YthpmalpdnnbkgaaGreatBit
set_option linter.unusedVariables false
set_option linter.unusedSimpArgs false
set_option maxRecDepth 100000
namespace Go.Proofs.YthpmalpdnnbkgaaGreat.Pl
open Vm
noncomputable section
def sK {α:Type} (k_:Bool→α) (g:bk):α:=
 bif bif !(aA g.dt 0 65535) then true else bif !(aA g.du 0 65535) then true else decide (320<len g.Body) then k_ false
 else bif g.Kind==6 then k_ (bif aA g.Seq 0 4294967295 then bif aA g.Ack 0 4294967295 then bif aA g.Flags 0 31 then aA g.GP 0 65535 else false else false else false)
 else bif g.Kind==17 then k_ (bif g.Seq==0 then bif g.Ack==0 then bif g.Flags==0 then g.GP==0 else false else false else false)
 else k_ false
def uW (g:bk):Bool:=sK id g
theorem aaO {α:Type} (k_:Bool→α) (g:bk):sK k_ g=k_ (uW g):=by
 exact cT rfl (cT rfl (cT rfl rfl))
def Eu {α:Type} (k_:Bool→α) (g:bk):α:=
 bif bif !(aA g.dt 0 65535) then true else bif !(aA g.du 0 65535) then true else decide (320<len g.Body) then k_ false
 else bif g.Kind==17 then k_ (bif g.Seq==0 then bif g.Ack==0 then bif g.Flags==0 then g.GP==0 else false else false else false)
 else k_ (bif g.Kind==6 then bif aA g.Seq 0 4294967295 then bif aA g.Ack 0 4294967295 then bif aA g.Flags 0 31 then aA g.GP 0 65535 else false else false else false else false)
theorem aaS {α:Type} (k_:Bool→α) (g:bk) (h_g:WtL bk.ct g.enc):Eu k_ g=k_ (uW g):=by
 unfold Eu uW sK
 refine cT rfl ?_
 by_cases h6:g.Kind=6
 ·have h17:(g.Kind==17)=false:=by rw[h6];rfl
  have h6':(g.Kind==6)=true:=by rw[h6];rfl
  rw[h17,h6']
  rfl
 ·have h6':(g.Kind==6)=false:=by simpa using h6
  rw[h6']
  cases (g.Kind==17)<;>rfl
def Ew {α:Type} (k_:Bool→α) (flags:Int):α:=
 k_ (bif (bits .and .i64 flags 16) != 0 then (bits .andNot .i64 flags 25)==0 else false)
def HH (flags:Int):Bool:=Ew id flags
theorem aaW {α:Type} (k_:Bool→α) (flags:Int):Ew k_ flags=k_ (HH flags):=by
 rfl
def Dm {α:Type} (k_:Bool→α) (p:bG):α:=
 k_ (bif aA p.I2 0 281474976710655 then bif aA p.I3 0 281474976710655 then bif aA p.MY (-1) 4095 then bif aA p.Tos 0 255 then bif aA p.Ttl 0 255 then bif aA p.Id 0 65535 then bif aA p.eb 0 4294967295 then bif aA p.fb 0 4294967295 then bif uW p.Bj then bif decide (len p.Bj.Body≤128) then true else bif p.Bj.Kind==6 then HH p.Bj.Flags else false else false else false else false else false else false else false else false else false else false)
def MP (p:bG):Bool:=Dm id p
theorem aiq {α:Type} (k_:Bool→α) (p:bG):Dm k_ p=k_ (MP p):=by
 rfl
def IH {α:Type} (k_:Bool→α) (p:bG):α:=
 bif bif !(aA p.I2 0 281474976710655) then true else bif !(aA p.I3 0 281474976710655) then true else bif !(aA p.MY (-1) 4095) then true else bif !(aA p.Tos 0 255) then true else bif !(aA p.Ttl 0 255) then true else bif !(aA p.Id 0 65535) then true else bif !(aA p.eb 0 4294967295) then true else bif !(aA p.fb 0 4294967295) then true else !(uW p.Bj) then k_ false
 else k_ (bif bif p.Bj.Kind==6 then (bits .andNot .i64 p.Bj.Flags 9)==16 else false then true else decide (len p.Bj.Body≤128))
theorem amg {f:Int} (h:aA f 0 31=true):((bits .andNot .i64 f 9)==16)=HH f:=by
 have key:∀n:Fin 32,((bits .andNot .i64 ((n.val:Nat):Int) 9)==16)=HH ((n.val:Nat):Int):=by decide+kernel
 have h0:0≤f∧f≤31:=by
  unfold aA Bw at h
  by_cases h1:0≤f
  ·by_cases h2:f≤31
   ·exact⟨h1,h2⟩
   ·simp [h1,h2] at h
  ·simp [h1] at h
 have:=key ⟨f.toNat,by omega⟩
 simp only at this
 rw[show ((f.toNat:Nat):Int)=f by omega] at this
 exact this
theorem apu {g:bk} (h:uW g=true) (h6:(g.Kind==6)=true):aA g.Flags 0 31=true:=by
 unfold uW sK at h
 rw[h6] at h
 cases hb:aA g.Flags 0 31
 ·rw[hb] at h
  revert h
  cases (bif !(aA g.dt 0 65535) then true else bif !(aA g.du 0 65535) then true else decide (320<len g.Body))<;>cases aA g.Seq 0 4294967295<;>cases aA g.Ack 0 4294967295<;>simp
 ·rfl
theorem ait {α:Type} (k_:Bool→α) (p:bG) (h_p:WtL bG.ct p.enc):IH k_ p=k_ (MP p):=by
 unfold IH MP Dm
 cases aA p.I2 0 281474976710655
 ·rfl
 cases aA p.I3 0 281474976710655
 ·rfl
 cases aA p.MY (-1) 4095
 ·rfl
 cases aA p.Tos 0 255
 ·rfl
 cases aA p.Ttl 0 255
 ·rfl
 cases aA p.Id 0 65535
 ·rfl
 cases aA p.eb 0 4294967295
 ·rfl
 cases aA p.fb 0 4294967295
 ·rfl
 cases hs:uW p.Bj
 ·rfl
 cases h6:(p.Bj.Kind==6)
 ·cases decide (len p.Bj.Body≤128)<;>rfl
 ·rw[amg (apu hs h6)]
  cases HH p.Bj.Flags<;>cases decide (len p.Bj.Body≤128)<;>rfl
end
end Go.Proofs.YthpmalpdnnbkgaaGreat.Pl
