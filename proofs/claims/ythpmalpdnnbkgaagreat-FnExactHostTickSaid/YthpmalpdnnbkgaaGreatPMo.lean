/- What functions of the program compute, in plain Lean, as the value machine runs them. Conditions: none. -/
import Derived.Test.YthpmalpdnnbkgaaGreatPMp
import Derived.Test.YthpmalpdnnbkgaaGreatBit
set_option linter.unusedVariables false
set_option linter.unusedSimpArgs false
set_option maxRecDepth 100000
namespace Go.Proofs.YthpmalpdnnbkgaaGreat.Pl
open Vm
noncomputable section
def A3 {α:Type} (bad:α) (k_:Rows→α) (l:Rows):α:=
 bif ak true (room2 16 [] l) then
  k_ l
 else bad
theorem Uk {α:Type} (bad:α) (k_:Rows→α) (l:Rows) (h_l:WtC (.sl [.str]) (.sl l)) (hok:sm l=true):A3 bad k_ l=k_ (ca l):=by
 unfold A3
 rw[d3 hok (show 16≤8388608 by omega)]
 rfl
def Dd {α:Type} (bad:α) (k_:aK→α) (m:aK):α:=
 bif ak true (sm m.dm) then
  k_ (⟨ca m.dm⟩:aK)
 else bad
def V1 (m:aK):Bool:=sm m.dm
theorem Xn {α:Type} (bad:α) (k_:aK→α) (m:aK) (h_m:WtL aK.ct m.enc) (hok:V1 m=true):Dd bad k_ m=k_ (ca m):=by
 have h:sm m.dm=true:=hok
 unfold Dd
 simp only[h,ah,cond_true]
 rfl
def sB {α:Type} (bad:α) (k_:Bool→α) (x:Rows) (bl:Int) (Bv:Rows) (bZ:Int→α) (bz:Int):α:=
 bif decide (bz<bl) then
  bif ak true (idx bz x) then
   bif (len (rS (nth x (Int.toNat bz)) 0)) != 128 then k_ false
   else bZ (w64 (bz+1))
  else bad
 else k_ (decide (len Bv≤64))
def mX {α:Type} (bad:α) (k_:Bool→α) (N:Nat) (x:Rows) (bl:Int) (Bv:Rows) (m_:Nat):Int→α:=
 Nat.rec (motive:=fun _=>Int→α) (fun _=>bad) (fun _ bZ=>sB bad k_ x bl Bv bZ) m_
theorem I9 {α:Type} (bad:α) (k_:Bool→α) (N:Nat) (x:Rows) (bl:Int) (Bv:Rows) (m_:Nat) (bz:Int):mX bad k_ N x bl Bv (m_+1) bz=sB bad k_ x bl Bv (mX bad k_ N x bl Bv m_) bz:=rfl
def AF {α:Type} (bad:α) (k_:Bool→α) (l0:Rows→Int→Rows→Int→α) (m:aK):α:=
 l0 m.dm (len m.dm) m.dm 0
def AE {α:Type} (bad:α) (k_:Bool→α) (N:Nat) (m:aK):α:=AF bad k_ (fun x bl Bv=>mX bad k_ N x bl Bv N) m
def jF (m:aK):Bool:=bif lA (fun _ r=>(len (rS r 0)) != 128) m.dm 0 then false else decide (len m.dm≤64)
theorem aeS {α:Type} (bad:α) (k_:Bool→α) (m:aK) (h_m:WtL aK.ct m.enc):∃N,AE bad k_ N m=k_ (jF m):=by
 obtain⟨hl,_⟩:=cU (aK.aiI h_m)
 refine⟨m.dm.length+1, ?_⟩
 unfold AE AF jF
 refine (dQ m.dm (mX bad k_ (m.dm.length+1) m.dm (len m.dm) m.dm) (fun i r c=>bif (len (rS r 0)) != 128 then k_ false else c) (k_ (decide (len m.dm≤64))) ?_ ?_).trans ?_
 ·intro n i h
  rw[I9]
  simp only[sB,ch h,bw h,bu h hl,Int.toNat_natCast,ah,ao,cond_true]
 ·intro n
  rw[I9]
  simp only[sB,aQ,cond_false]
 ·refine (yB (fun _ r=>(len (rS r 0)) != 128) _ _ m.dm 0).trans ?_
  exact cT rfl rfl
def sC {α:Type} (bad:α) (k_:Bool→α) (Bv:Rows) (bZ:Int→α) (k:Int):α:=
 bif decide (k<len Bv) then
  bif ak true (idx k Bv) then
   bif (len (rS (nth Bv (Int.toNat k)) 0)) != 128 then k_ false
   else bZ (w64 (k+1))
  else bad
 else k_ (decide (len Bv≤64))
def m0 {α:Type} (bad:α) (k_:Bool→α) (N:Nat) (Bv:Rows) (m_:Nat):Int→α:=
 Nat.rec (motive:=fun _=>Int→α) (fun _=>bad) (fun _ bZ=>sC bad k_ Bv bZ) m_
theorem I_ {α:Type} (bad:α) (k_:Bool→α) (N:Nat) (Bv:Rows) (m_:Nat) (k:Int):m0 bad k_ N Bv (m_+1) k=sC bad k_ Bv (m0 bad k_ N Bv m_) k:=rfl
def AL {α:Type} (bad:α) (k_:Bool→α) (l0:Rows→Int→α) (m:aK):α:=
 l0 m.dm 0
def AJ {α:Type} (bad:α) (k_:Bool→α) (N:Nat) (m:aK):α:=AL bad k_ (fun Bv=>m0 bad k_ N Bv N) m
theorem aeV {α:Type} (bad:α) (k_:Bool→α) (m:aK) (h_m:WtL aK.ct m.enc):∃N,AJ bad k_ N m=k_ (jF m):=by
 obtain⟨hl,_⟩:=cU (aK.aiI h_m)
 refine⟨m.dm.length+1, ?_⟩
 unfold AJ AL jF
 refine (dQ m.dm (m0 bad k_ (m.dm.length+1) m.dm) (fun i r c=>bif (len (rS r 0)) != 128 then k_ false else c) (k_ (decide (len m.dm≤64))) ?_ ?_).trans ?_
 ·intro n i h
  rw[I_]
  simp only[sC,ch h,bw h,bu h hl,Int.toNat_natCast,ah,ao,cond_true]
 ·intro n
  rw[I_]
  simp only[sC,aQ,cond_false]
 ·refine (yB (fun _ r=>(len (rS r 0)) != 128) _ _ m.dm 0).trans ?_
  exact cT rfl rfl
end
end Go.Proofs.YthpmalpdnnbkgaaGreat.Pl
