/- What functions of the program compute, in plain Lean, as the value machine runs them. Conditions: none. -/
import Derived.Test.YthpmalpdnnbkgaaGreatPLs
set_option linter.unusedVariables false
set_option linter.unusedSimpArgs false
set_option maxRecDepth 100000
namespace Go.Proofs.YthpmalpdnnbkgaaGreat.Pl
open Vm
noncomputable section
def Bw {α:Type} (k_:Bool→α) (n:Int) (low:Int) (high:Int):α:=
 k_ (bif decide (low≤n) then decide (n≤high) else false)
def aA (n:Int) (low:Int) (high:Int):Bool:=Bw id n low high
theorem afM {α:Type} (k_:Bool→α) (n:Int) (low:Int) (high:Int):Bw k_ n low high=k_ (aA n low high):=by
 rfl
def Vb {α:Type} (k_:Bool→α) (x:Int) (least:Int) (most:Int):α:=
 k_ (bif decide (least≤x) then decide (x≤most) else false)
theorem alW {α:Type} (k_:Bool→α) (x:Int) (least:Int) (most:Int) (h_x:WtC (.int .i64) (.int x)) (aoJ:WtC (.int .i64) (.int least)) (apJ:WtC (.int .i64) (.int most)):Vb k_ x least most=k_ (aA x least most):=by
 exact rfl
def ru {α:Type} (bad:α) (k_:Bool→α) (x:Rows) (bl:Int) (ea:Int) (d5:Rows) (bZ:Int→α) (bz:Int):α:=
 let z0:Bool:= !(aA (rI (nth x (Int.toNat bz)) 0) 0 4095)
 bif decide (bz<bl) then
  bif ak true (idx bz x) then
   bif RF z0 true (RF (decide (0<bz)) (ak true (idx (w64 (bz - 1)) d5)) true) then
    bif bif z0 then true else bif decide (0<bz) then decide (rI (nth x (Int.toNat bz)) 0≤rI (nth d5 (Int.toNat (w64 (bz - 1)))) 0) else false then k_ false
    else bZ (w64 (bz+1))
   else bad
  else bad
 else k_ (bif aA ea 0 281474976710654 then decide (len d5≤8) else false)
def mf {α:Type} (bad:α) (k_:Bool→α) (N:Nat) (x:Rows) (bl:Int) (ea:Int) (d5:Rows) (m_:Nat):Int→α:=
 Nat.rec (motive:=fun _=>Int→α) (fun _=>bad) (fun _ bZ=>ru bad k_ x bl ea d5 bZ) m_
theorem IK {α:Type} (bad:α) (k_:Bool→α) (N:Nat) (x:Rows) (bl:Int) (ea:Int) (d5:Rows) (m_:Nat) (bz:Int):mf bad k_ N x bl ea d5 (m_+1) bz=ru bad k_ x bl ea d5 (mf bad k_ N x bl ea d5 m_) bz:=rfl
def zu {α:Type} (bad:α) (k_:Bool→α) (l0:Rows→Int→Int→Rows→Int→α) (f:aI):α:=
 l0 f.cW (len f.cW) f.G3 f.cW 0
def zt {α:Type} (bad:α) (k_:Bool→α) (N:Nat) (f:aI):α:=zu bad k_ (fun x bl ea d5=>mf bad k_ N x bl ea d5 N) f
def m5 (f:aI):Bool:=bif lA (fun i r=>bif !(aA (rI r 0) 0 4095) then true else bif decide ((0:Int)<(i:Int)) then decide (rI r 0≤rI (nth f.cW (Int.toNat (w64 ((i:Int) - 1)))) 0) else false) f.cW 0 then false else bif aA f.G3 0 281474976710654 then decide (len f.cW≤8) else false
theorem ab1 {α:Type} (bad:α) (k_:Bool→α) (f:aI) (Nb:WtL aI.ct f.enc):∃N,zt bad k_ N f=k_ (m5 f):=by
 obtain⟨hl,_⟩:=cU (aI.aiy Nb)
 refine⟨f.cW.length+1, ?_⟩
 unfold zt zu
 refine (dQ f.cW (mf bad k_ (f.cW.length+1) f.cW (len f.cW) f.G3 f.cW) (fun i r c=>bif bif !(aA (rI r 0) 0 4095) then true else bif decide ((0:Int)<(i:Int)) then decide (rI r 0≤rI (nth f.cW (Int.toNat (w64 ((i:Int) - 1)))) 0) else false then k_ false else c) (k_ (bif aA f.G3 0 281474976710654 then decide (len f.cW≤8) else false)) ?_ ?_).trans ?_
 ·intro n i h
  have hp:decide ((0:Int)<(i:Int))=true→idx (w64 ((i:Int) - 1)) f.cW=true:=by
   intro h0
   have h0:=of_decide_eq_true h0
   rw[d8 (by omega) (by omega),show (i:Int) - 1=((i - 1:Nat):Int) by omega]
   exact bw (by omega)
  rw[IK]
  simp only[ru,ch h,bw h,bu h hl,Int.toNat_natCast,ah,ao,cond_true]
  exact apL (alr (fun _=>rfl) (fun _=>alr (fun h0=>hp h0) (fun _=>rfl)))
 ·intro n
  rw[IK]
  simp only[ru,aQ,cond_false]
 ·refine (yB (fun i r=>bif !(aA (rI r 0) 0 4095) then true else bif decide ((0:Int)<(i:Int)) then decide (rI r 0≤rI (nth f.cW (Int.toNat (w64 ((i:Int) - 1)))) 0) else false) _ _ f.cW 0).trans ?_
  exact cT rfl rfl
def rv {α:Type} (bad:α) (k_:Bool→α) (ea:Int) (d5:Rows) (bZ:Int→α) (k:Int):α:=
 let z0:Bool:= !(aA (rI (nth d5 (Int.toNat k)) 0) 0 4095)
 bif decide (k<len d5) then
  bif RF z0 (ak true (idx k d5)) (RF (decide (0<k)) (ak (ak (ak true (idx k d5)) (idx k d5)) (idx (w64 (k - 1)) d5)) (ak true (idx k d5))) then
   bif bif z0 then true else bif decide (0<k) then decide (rI (nth d5 (Int.toNat k)) 0≤rI (nth d5 (Int.toNat (w64 (k - 1)))) 0) else false then k_ false
   else bZ (w64 (k+1))
  else bad
 else k_ (bif aA ea 0 281474976710654 then decide (len d5≤8) else false)
def mi {α:Type} (bad:α) (k_:Bool→α) (N:Nat) (ea:Int) (d5:Rows) (m_:Nat):Int→α:=
 Nat.rec (motive:=fun _=>Int→α) (fun _=>bad) (fun _ bZ=>rv bad k_ ea d5 bZ) m_
theorem IL {α:Type} (bad:α) (k_:Bool→α) (N:Nat) (ea:Int) (d5:Rows) (m_:Nat) (k:Int):mi bad k_ N ea d5 (m_+1) k=rv bad k_ ea d5 (mi bad k_ N ea d5 m_) k:=rfl
def zz {α:Type} (bad:α) (k_:Bool→α) (l0:Int→Rows→Int→α) (f:aI):α:=
 l0 f.G3 f.cW 0
def zy {α:Type} (bad:α) (k_:Bool→α) (N:Nat) (f:aI):α:=zz bad k_ (fun ea d5=>mi bad k_ N ea d5 N) f
theorem ab5 {α:Type} (bad:α) (k_:Bool→α) (f:aI) (Nb:WtL aI.ct f.enc):∃N,zy bad k_ N f=k_ (m5 f):=by
 obtain⟨hl,_⟩:=cU (aI.aiy Nb)
 refine⟨f.cW.length+1, ?_⟩
 unfold zy zz
 refine (dQ f.cW (mi bad k_ (f.cW.length+1) f.G3 f.cW) (fun i r c=>bif bif !(aA (rI r 0) 0 4095) then true else bif decide ((0:Int)<(i:Int)) then decide (rI r 0≤rI (nth f.cW (Int.toNat (w64 ((i:Int) - 1)))) 0) else false then k_ false else c) (k_ (bif aA f.G3 0 281474976710654 then decide (len f.cW≤8) else false)) ?_ ?_).trans ?_
 ·intro n i h
  have hp:decide ((0:Int)<(i:Int))=true→idx (w64 ((i:Int) - 1)) f.cW=true:=by
   intro h0
   have h0:=of_decide_eq_true h0
   rw[d8 (by omega) (by omega),show (i:Int) - 1=((i - 1:Nat):Int) by omega]
   exact bw (by omega)
  rw[IL]
  simp only[rv,ch h,bw h,bu h hl,Int.toNat_natCast,ah,ao,cond_true]
  exact apL (alr (fun _=>rfl) (fun _=>alr (fun h0=>hp h0) (fun _=>rfl)))
 ·intro n
  rw[IL]
  simp only[rv,aQ,cond_false]
 ·refine (yB (fun i r=>bif !(aA (rI r 0) 0 4095) then true else bif decide ((0:Int)<(i:Int)) then decide (rI r 0≤rI (nth f.cW (Int.toNat (w64 ((i:Int) - 1)))) 0) else false) _ _ f.cW 0).trans ?_
  exact cT rfl rfl
end
end Go.Proofs.YthpmalpdnnbkgaaGreat.Pl
