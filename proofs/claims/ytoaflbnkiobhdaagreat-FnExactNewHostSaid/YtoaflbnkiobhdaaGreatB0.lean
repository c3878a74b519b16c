/- Contracts. Conditions: as each says. -/
import Derived.Test.YtoaflbnkiobhdaaGreatP0
import Derived.Test.YtoaflbnkiobhdaaGreatRows
import Derived.Test.YtoaflbnkiobhdaaGreatP1
set_option linter.unusedVariables false
set_option linter.unusedSimpArgs false
set_option maxRecDepth 100000
namespace Go.Proofs.YtoaflbnkiobhdaaGreat.Pl
open Vm
noncomputable section
def VQ:Sum:= {ps:=[⟨[.sl [.i,.i,.i,.i,.i,.i,.i]],false⟩,⟨[.i],false⟩],rs:=[⟨[.dV .i],false⟩],fn:=fun ds=>(true,[.int (ui (rR ds 0) (rI ds 1))])}
theorem nft:DV Tryz.prog 135 VQ:=by
 refine nU Jn Tryz.func135 fun ds (hw:jV ([.sl [.i,.i,.i,.i,.i,.i,.i],.i]) ds) _=> ?_
 obtain⟨a,ds,rfl,_,hw⟩:=nX hw
 obtain⟨left,rfl,_⟩:=nw hw
 exact⟨0,eT (Pz (fun r0=>((true,[.int r0]):kx)) a left)⟩
def Py:Sum:= {ps:=[⟨ni.ct,true⟩,⟨[.i],false⟩],rs:=[⟨[.dV .i],false⟩],fn:=fun ds=>(true,[.int (qU (ni.nh ds 0) (rI ds 1))])}
theorem YT:DV Tryz.prog 30 Py:=by
 refine nU (Γ:=[(135,VQ)]) (HZ nft Jn) Tryz.func30 fun ds (hw:jV (ni.ct++[.i]) ds) _=> ?_
 obtain⟨a,ds,rfl,_,hw⟩:=ni.nC (r:=_) hw
 obtain⟨left,rfl,_⟩:=nw hw
 exact⟨0,eT (YS (fun r0=>((true,[.int r0]):kx)) a left)⟩
def R3:Sum:= {ps:=[⟨oP.ct,true⟩,⟨oP.ct,true⟩],rs:=[⟨[.dV .bool],false⟩],fn:=fun ds=>(same (oP.nh ds 0) (oP.nh ds 4),[.bool (om (oP.nh ds 0) (oP.nh ds 4))])}
theorem nbp:DV Tryz.prog 164 R3:=by
 refine nU Jn Tryz.func164 fun ds (hw:jV (oP.ct++(oP.ct++[])) ds) aI=> ?_
 obtain⟨a,ds,rfl,_,hw⟩:=oP.nC (r:=_) hw
 obtain⟨b,ds,rfl,_,hw⟩:=oP.nC (r:=_) hw
 obtain rfl:=nA hw
 exact⟨0,eT (nbo (fun r0=>((true,[.bool r0]):kx)) a b aI)⟩
def zW:Sum:= {ps:=[⟨[.sl [.i]],false⟩],rs:=[⟨[.own 3 [.i]],false⟩],fn:=fun ds=>(sm (rR ds 0),[.sl (qY (rR ds 0))])}
def XT:List (Nat×lb):=[(3, {bY:=[(0,.mr),(3,.mr),(4,.mr)],boxes:=[]})]
def XU:Rows→kx:=(fun r0=>((true,[.sl r0]):kx))
def nfv (a:Rows) (i:Int) (su:Rows):St:= {n:=22,sl:=[(0,.sl [.i] a),(3,.own 640192),(4,.int .i64 i)],hp:=[(640192,.row 3 [.i] su false true)],ok:=true,ls:=[],lm:=[]}
theorem XV:DV Tryz.prog 41 zW:=by
 refine qw (A:=XT) Jn Tryz.func41 fun ds (hw:jV ([.sl [.i]]) ds) aI=> ?_
 obtain⟨a,rfl,qn⟩:=qb hw
 obtain⟨N,hN⟩:=ngX Vm.jX XU a qn aI
 have e0:(fun i su=>LC (LB Tryz.prog [] XT N Tryz.f41 zW [true,true,false,true,false] []) N (nfv a i su))=(niP ngi Vm.jX XU N a N):=nL2 _ _ _ N
 refine⟨N,Eq.trans ?_ (hN.trans (by kernel_rfl))⟩
 unfold nir
 rw[←e0]
 kernel_rfl
def Up:Sum:= {ps:=[⟨nz.ct,true⟩],rs:=[⟨[.dV .str,.own 3 [.i]],true⟩],fn:=fun ds=>(sM (nz.nh ds 0),nz.enc (qY (nz.nh ds 0)))}
theorem ndR:DV Tryz.prog 44 Up:=by
 refine nU (Γ:=[(41,zW)]) (HZ XV Jn) Tryz.func44 fun ds (hw:jV (nz.ct++[]) ds) aI=> ?_
 obtain⟨a,ds,rfl,_,hw⟩:=nz.nC (r:=_) hw
 obtain rfl:=nA hw
 exact⟨0,eT (ndQ Vm.jX (fun r0=>((true,nz.enc r0):kx)) a aI)⟩
def tR:Sum:= {ps:=[⟨[.sl [.i]],false⟩,⟨[.sl [.i]],false⟩],rs:=[⟨[.dV .bool],false⟩],fn:=fun ds=>(same (rR ds 0) (rR ds 1),[.bool (om (rR ds 0) (rR ds 1))])}
def XE:List (Nat×lb):=[(4, {bY:=[(0,.mr),(1,.mr),(5,.mr)],boxes:=[]})]
def XF:Bool→kx:=(fun r0=>((true,[.bool r0]):kx))
def nfd (a b:Rows) (i:Int):St:= {n:=26,sl:=[(0,.sl [.i] a),(1,.sl [.i] b),(5,.int .i64 i)],hp:=[],ok:=true,ls:=[],lm:=[]}
theorem w_:DV Tryz.prog 64 tR:=by
 refine qw (A:=XE) Jn Tryz.func64 fun ds (hw:jV ([.sl [.i],.sl [.i]]) ds) aI=> ?_
 obtain⟨a,ds,rfl,qn,hw⟩:=nX hw
 obtain⟨b,rfl,_⟩:=qb hw
 obtain⟨N,hN⟩:=ngL Vm.jX XF a b qn aI
 exact⟨N,eL (fun l_=>Rz Vm.jX XF l_ a b) (nL1 (LB Tryz.prog [] XE N Tryz.f64 tR [true,true,false,true,false] []) (nfd a b) _ N) hN⟩
def RA:Sum:= {ps:=[⟨nt.ct,true⟩,⟨nt.ct,true⟩],rs:=[⟨[.dV .bool],false⟩],fn:=fun ds=>(same (nt.nh ds 0) (nt.nh ds 4),[.bool (om (nt.nh ds 0) (nt.nh ds 4))])}
theorem XH:DV Tryz.prog 166 RA:=by
 refine nU (Γ:=[(64,tR)]) (HZ w_ Jn) Tryz.func166 fun ds (hw:jV (nt.ct++(nt.ct++[])) ds) aI=> ?_
 obtain⟨a,ds,rfl,_,hw⟩:=nt.nC (r:=_) hw
 obtain⟨b,ds,rfl,_,hw⟩:=nt.nC (r:=_) hw
 obtain rfl:=nA hw
 exact⟨0,eT (ngM Vm.jX (fun r0=>((true,[.bool r0]):kx)) a b aI)⟩
def O2:Sum:= {ps:=[⟨[.sl [.i,.i,.i,.sl [.i]]],false⟩,⟨[.sl [.i,.i,.i,.sl [.i]]],false⟩],rs:=[⟨[.dV .bool],false⟩],fn:=fun ds=>(same (rR ds 0) (rR ds 1),[.bool (om (rR ds 0) (rR ds 1))])}
def Vs:Ctx:=[(166,RA)]
theorem nfg:bD Tryz.prog Vs:=HZ XH Jn
def Vr:List (Nat×lb):=[(4, {bY:=[(0,.mr),(1,.mr),(5,.mr)],boxes:=[]})]
def Vt:Bool→kx:=(fun r0=>((true,[.bool r0]):kx))
def ndj (a b:Rows) (i:Int):St:= {n:=27,sl:=[(0,.sl [.i,.i,.i,.sl [.i]] a),(1,.sl [.i,.i,.i,.sl [.i]] b),(5,.int .i64 i)],hp:=[],ok:=true,ls:=[],lm:=[]}
theorem nff:DV Tryz.prog 59 O2:=by
 refine qw (A:=Vr) nfg Tryz.func59 fun ds (hw:jV ([.sl [.i,.i,.i,.sl [.i]],.sl [.i,.i,.i,.sl [.i]]]) ds) aI=> ?_
 obtain⟨a,ds,rfl,qn,hw⟩:=nX hw
 obtain⟨b,rfl,_⟩:=qb hw
 obtain⟨N,hN⟩:=nfe Vm.jX Vt a b qn aI
 have e0:(fun i=>LC (LB Tryz.prog Vs Vr N Tryz.f59 O2 [true,true,false,true,false] []) N (ndj a b i))=(ncG (fun r=>nt.nh r 0) Vm.jX Vt N a b N):=nL1 _ _ _ N
 refine⟨N,Eq.trans ?_ (hN.trans (by kernel_rfl))⟩
 unfold UZ
 rw[←e0]
 kernel_rfl
def wm:Sum:= {ps:=[⟨[.sl [.str]],false⟩,⟨[.sl [.str]],false⟩],rs:=[⟨[.dV .bool],false⟩],fn:=fun ds=>(same (rR ds 0) (rR ds 1),[.bool (om (rR ds 0) (rR ds 1))])}
def Sb:List (Nat×lb):=[(4, {bY:=[(0,.mr),(1,.mr),(5,.mr)],boxes:=[]})]
def Sc:Bool→kx:=(fun r0=>((true,[.bool r0]):kx))
def naf (a b:Rows) (i:Int):St:= {n:=26,sl:=[(0,.sl [.str] a),(1,.sl [.str] b),(5,.int .i64 i)],hp:=[],ok:=true,ls:=[],lm:=[]}
theorem Se:DV Tryz.prog 63 wm:=by
 refine qw (A:=Sb) Jn Tryz.func63 fun ds (hw:jV ([.sl [.str],.sl [.str]]) ds) aI=> ?_
 obtain⟨a,ds,rfl,qn,hw⟩:=nX hw
 obtain⟨b,rfl,_⟩:=qb hw
 obtain⟨N,hN⟩:=nbx Vm.jX Sc a b qn aI
 exact⟨N,eL (fun l_=>zn Vm.jX Sc l_ a b) (nL1 (LB Tryz.prog [] Sb N Tryz.f63 wm [true,true,false,true,false] []) (naf a b) _ N) hN⟩
def TY:Sum:= {ps:=[⟨na.ct,true⟩,⟨na.ct,true⟩],rs:=[⟨[.dV .bool],false⟩],fn:=fun ds=>(same (na.nh ds 0) (na.nh ds 1),[.bool (om (na.nh ds 0) (na.nh ds 1))])}
theorem ndg:DV Tryz.prog 55 TY:=by
 refine nU (Γ:=[(63,wm)]) (HZ Se Jn) Tryz.func55 fun ds (hw:jV (na.ct++(na.ct++[])) ds) aI=> ?_
 obtain⟨a,ds,rfl,_,hw⟩:=na.nC (r:=_) hw
 obtain⟨b,ds,rfl,_,hw⟩:=na.nC (r:=_) hw
 obtain rfl:=nA hw
 exact⟨0,eT (ndf Vm.jX (fun r0=>((true,[.bool r0]):kx)) a b aI)⟩
def VP:Sum:= {ps:=[⟨[.sl [.i,.i,.i,.i,.i,.i,.i,.i,.i]],false⟩,⟨[.i],false⟩],rs:=[⟨[.dV .i],false⟩],fn:=fun ds=>(true,[.int (ui (rR ds 0) (rI ds 1))])}
theorem nfs:DV Tryz.prog 29 VP:=by
 refine nU Jn Tryz.func29 fun ds (hw:jV ([.sl [.i,.i,.i,.i,.i,.i,.i,.i,.i],.i]) ds) _=> ?_
 obtain⟨a,ds,rfl,_,hw⟩:=nX hw
 obtain⟨left,rfl,_⟩:=nw hw
 exact⟨0,eT (Pz (fun r0=>((true,[.int r0]):kx)) a left)⟩
def RD:Sum:= {ps:=[⟨[.sl [.i]],false⟩,⟨[.i],false⟩],rs:=[⟨[.dV .i],false⟩],fn:=fun ds=>(true,[.int (ui (rR ds 0) (rI ds 1))])}
theorem XR:DV Tryz.prog 28 RD:=by
 refine nU Jn Tryz.func28 fun ds (hw:jV ([.sl [.i],.i]) ds) _=> ?_
 obtain⟨a,ds,rfl,_,hw⟩:=nX hw
 obtain⟨left,rfl,_⟩:=nw hw
 exact⟨0,eT (Pz (fun r0=>((true,[.int r0]):kx)) a left)⟩
def Un:Sum:= {ps:=[⟨nz.ct,true⟩,⟨[.i],false⟩],rs:=[⟨[.dV .i],false⟩],fn:=fun ds=>(true,[.int (tS (nz.nh ds 0) (rI ds 2))])}
theorem ndL:DV Tryz.prog 31 Un:=by
 refine nU (Γ:=[(28,RD)]) (HZ XR Jn) Tryz.func31 fun ds (hw:jV (nz.ct++[.i]) ds) _=> ?_
 obtain⟨a,ds,rfl,_,hw⟩:=nz.nC (r:=_) hw
 obtain⟨left,rfl,_⟩:=nw hw
 exact⟨0,eT (ndK (fun r0=>((true,[.int r0]):kx)) a left)⟩
def QT:Sum:= {ps:=[⟨nj.ct,true⟩,⟨[.i],false⟩],rs:=[⟨[.dV .i],false⟩],fn:=fun ds=>(true,[.int (sj (nj.nh ds 0) (rI ds 4))])}
theorem naL:DV Tryz.prog 8 QT:=by
 refine nU (Γ:=[(29,VP),(30,Py),(31,Un)]) (HZ nfs (HZ YT (HZ ndL Jn))) Tryz.func8 fun ds (hw:jV (nj.ct++[.i]) ds) _=> ?_
 obtain⟨a,ds,rfl,_,hw⟩:=nj.nC (r:=_) hw
 obtain⟨left,rfl,_⟩:=nw hw
 exact⟨0,eT (naK (fun r0=>((true,[.int r0]):kx)) a left)⟩
def RB:Sum:= {ps:=[⟨ny.ct,true⟩,⟨ny.ct,true⟩],rs:=[⟨[.dV .bool],false⟩],fn:=fun ds=>(same (ny.nh ds 0) (ny.nh ds 4),[.bool (om (ny.nh ds 0) (ny.nh ds 4))])}
theorem XJ:DV Tryz.prog 165 RB:=by
 refine nU Jn Tryz.func165 fun ds (hw:jV (ny.ct++(ny.ct++[])) ds) aI=> ?_
 obtain⟨a,ds,rfl,_,hw⟩:=ny.nC (r:=_) hw
 obtain⟨b,ds,rfl,_,hw⟩:=ny.nC (r:=_) hw
 obtain rfl:=nA hw
 exact⟨0,eT (ngN (fun r0=>((true,[.bool r0]):kx)) a b aI)⟩
def w8:Sum:= {ps:=[⟨nv.ct,true⟩,⟨nv.ct,true⟩],rs:=[⟨[.dV .bool],false⟩],fn:=fun ds=>(same (nv.nh ds 0) (nv.nh ds 3),[.bool (om (nv.nh ds 0) (nv.nh ds 3))])}
theorem Rw:DV Tryz.prog 272 w8:=by
 refine nU Jn Tryz.func272 fun ds (hw:jV (nv.ct++(nv.ct++[])) ds) aI=> ?_
 obtain⟨a,ds,rfl,_,hw⟩:=nv.nC (r:=_) hw
 obtain⟨b,ds,rfl,_,hw⟩:=nv.nC (r:=_) hw
 obtain rfl:=nA hw
 exact⟨0,eT (Rv (fun r0=>((true,[.bool r0]):kx)) a b aI)⟩
def R7:Sum:= {ps:=[⟨oe.ct,true⟩,⟨oe.ct,true⟩],rs:=[⟨[.dV .bool],false⟩],fn:=fun ds=>(same (oe.nh ds 0) (oe.nh ds 8),[.bool (om (oe.nh ds 0) (oe.nh ds 8))])}
theorem nbt:DV Tryz.prog 370 R7:=by
 refine nU Jn Tryz.func370 fun ds (hw:jV (oe.ct++(oe.ct++[])) ds) aI=> ?_
 obtain⟨a,ds,rfl,_,hw⟩:=oe.nC (r:=_) hw
 obtain⟨b,ds,rfl,_,hw⟩:=oe.nC (r:=_) hw
 obtain rfl:=nA hw
 exact⟨0,eT (nbs (fun r0=>((true,[.bool r0]):kx)) a b aI)⟩
def T0:Sum:= {ps:=[⟨oJ.ct,true⟩,⟨oJ.ct,true⟩],rs:=[⟨[.dV .bool],false⟩],fn:=fun ds=>(same (oJ.nh ds 0) (oJ.nh ds 16),[.bool (om (oJ.nh ds 0) (oJ.nh ds 16))])}
theorem ndi:DV Tryz.prog 331 T0:=by
 refine nU (Γ:=[(370,R7)]) (HZ nbt Jn) Tryz.func331 fun ds (hw:jV (oJ.ct++(oJ.ct++[])) ds) aI=> ?_
 obtain⟨a,ds,rfl,_,hw⟩:=oJ.nC (r:=_) hw
 obtain⟨b,ds,rfl,_,hw⟩:=oJ.nC (r:=_) hw
 obtain rfl:=nA hw
 exact⟨0,eT (ndh Vm.jX (fun r0=>((true,[.bool r0]):kx)) a b aI)⟩
def VD:Sum:= {ps:=[⟨pz.ct,true⟩,⟨pz.ct,true⟩],rs:=[⟨[.dV .bool],false⟩],fn:=fun ds=>(same (pz.nh ds 0) (pz.nh ds 18),[.bool (om (pz.nh ds 0) (pz.nh ds 18))])}
theorem nfr:DV Tryz.prog 273 VD:=by
 refine nU (Γ:=[(331,T0)]) (HZ ndi Jn) Tryz.func273 fun ds (hw:jV (pz.ct++(pz.ct++[])) ds) aI=> ?_
 obtain⟨a,ds,rfl,_,hw⟩:=pz.nC (r:=_) hw
 obtain⟨b,ds,rfl,_,hw⟩:=pz.nC (r:=_) hw
 obtain rfl:=nA hw
 exact⟨0,eT (nfq Vm.jX (fun r0=>((true,[.bool r0]):kx)) a b aI)⟩
def R5:Sum:= {ps:=[⟨nW.ct,true⟩,⟨nW.ct,true⟩],rs:=[⟨[.dV .bool],false⟩],fn:=fun ds=>(same (nW.nh ds 0) (nW.nh ds 30),[.bool (om (nW.nh ds 0) (nW.nh ds 30))])}
theorem nbr:DV Tryz.prog 168 R5:=by
 refine nU (Γ:=[(165,RB),(272,w8),(273,VD)]) (HZ XJ (HZ Rw (HZ nfr Jn))) Tryz.func168 fun ds (hw:jV (nW.ct++(nW.ct++[])) ds) aI=> ?_
 obtain⟨a,ds,rfl,_,hw⟩:=nW.nC (r:=_) hw
 obtain⟨b,ds,rfl,_,hw⟩:=nW.nC (r:=_) hw
 obtain rfl:=nA hw
 exact⟨0,eT (nbq Vm.jX (fun r0=>((true,[.bool r0]):kx)) a b aI)⟩
def XN:Sum:= {ps:=[⟨qX.ct,true⟩,⟨qX.ct,true⟩],rs:=[⟨[.dV .bool],false⟩],fn:=fun ds=>(same (qX.nh ds 0) (qX.nh ds 3),[.bool (om (qX.nh ds 0) (qX.nh ds 3))])}
theorem ngR:DV Tryz.prog 271 XN:=by
 refine nU (Γ:=[(64,tR)]) (HZ w_ Jn) Tryz.func271 fun ds (hw:jV (qX.ct++(qX.ct++[])) ds) aI=> ?_
 obtain⟨a,ds,rfl,_,hw⟩:=qX.nC (r:=_) hw
 obtain⟨b,ds,rfl,_,hw⟩:=qX.nC (r:=_) hw
 obtain rfl:=nA hw
 exact⟨0,eT (ngQ Vm.jX (fun r0=>((true,[.bool r0]):kx)) a b aI)⟩
def O4:Sum:= {ps:=[⟨[.sl [.i,.i,.sl [.i]]],false⟩,⟨[.sl [.i,.i,.sl [.i]]],false⟩],rs:=[⟨[.dV .bool],false⟩],fn:=fun ds=>(same (rR ds 0) (rR ds 1),[.bool (om (rR ds 0) (rR ds 1))])}
def Vy:Ctx:=[(271,XN)]
theorem nfm:bD Tryz.prog Vy:=HZ ngR Jn
def Vx:List (Nat×lb):=[(4, {bY:=[(0,.mr),(1,.mr),(5,.mr)],boxes:=[]})]
def Vz:Bool→kx:=(fun r0=>((true,[.bool r0]):kx))
def ndl (a b:Rows) (i:Int):St:= {n:=27,sl:=[(0,.sl [.i,.i,.sl [.i]] a),(1,.sl [.i,.i,.sl [.i]] b),(5,.int .i64 i)],hp:=[],ok:=true,ls:=[],lm:=[]}
theorem nfl:DV Tryz.prog 167 O4:=by
 refine qw (A:=Vx) nfm Tryz.func167 fun ds (hw:jV ([.sl [.i,.i,.sl [.i]],.sl [.i,.i,.sl [.i]]]) ds) aI=> ?_
 obtain⟨a,ds,rfl,qn,hw⟩:=nX hw
 obtain⟨b,rfl,_⟩:=qb hw
 obtain⟨N,hN⟩:=nfk Vm.jX Vz a b qn aI
 have e0:(fun i=>LC (LB Tryz.prog Vy Vx N Tryz.f167 O4 [true,true,false,true,false] []) N (ndl a b i))=(ncG (fun r=>qX.nh r 0) Vm.jX Vz N a b N):=nL1 _ _ _ N
 refine⟨N,Eq.trans ?_ (hN.trans (by kernel_rfl))⟩
 unfold UZ
 rw[←e0]
 kernel_rfl
def Sf:Sum:= {ps:=[⟨nH.ct,true⟩,⟨nH.ct,true⟩],rs:=[⟨[.dV .bool],false⟩],fn:=fun ds=>(same (nH.nh ds 0) (nH.nh ds 10),[.bool (om (nH.nh ds 0) (nH.nh ds 10))])}
theorem nbz:DV Tryz.prog 57 Sf:=by
 refine nU (Γ:=[(165,RB),(166,RA),(167,O4)]) (HZ XJ (HZ XH (HZ nfl Jn))) Tryz.func57 fun ds (hw:jV (nH.ct++(nH.ct++[])) ds) aI=> ?_
 obtain⟨a,ds,rfl,_,hw⟩:=nH.nC (r:=_) hw
 obtain⟨b,ds,rfl,_,hw⟩:=nH.nC (r:=_) hw
 obtain rfl:=nA hw
 exact⟨0,eT (nby Vm.jX (fun r0=>((true,[.bool r0]):kx)) a b aI)⟩
def XS:Sum:= {ps:=[⟨nD.ct,true⟩],rs:=[⟨[.dV .i,.dV .i,.dV .i,.dV .i,.dV .i],true⟩],fn:=fun ds=>(true,nD.enc (qY (nD.nh ds 0)))}
theorem ngV:DV Tryz.prog 289 XS:=by
 refine nU Jn Tryz.func289 fun ds (hw:jV (nD.ct++[]) ds) _=> ?_
 obtain⟨a,ds,rfl,_,hw⟩:=nD.nC (r:=_) hw
 obtain rfl:=nA hw
 exact⟨0,eT (ngU (fun r0=>((true,nD.enc r0):kx)) a)⟩
def XX:Sum:= {ps:=[⟨py.ct,true⟩],rs:=[⟨[.dV .i,.dV .i,.dV .i,.dV .i,.dV .i,.dV .i,.dV .i],true⟩],fn:=fun ds=>(true,py.enc (qY (py.nh ds 0)))}
theorem ng2:DV Tryz.prog 257 XX:=by
 refine nU (Γ:=[(289,XS)]) (HZ ngV Jn) Tryz.func257 fun ds (hw:jV (py.ct++[]) ds) _=> ?_
 obtain⟨a,ds,rfl,_,hw⟩:=py.nC (r:=_) hw
 obtain rfl:=nA hw
 exact⟨0,eT (ng1 (fun r0=>((true,py.enc r0):kx)) a)⟩
def PC:Sum:= {ps:=[⟨[.sl [.i,.i,.i,.i,.i,.i,.i]],false⟩],rs:=[⟨[.own 201 [.i,.i,.i,.i,.i,.i,.i]],false⟩],fn:=fun ds=>(sm (rR ds 0),[.sl (qY (rR ds 0))])}
def VV:Ctx:=[(257,XX)]
theorem nfB:bD Tryz.prog VV:=HZ ng2 Jn
def VU:List (Nat×lb):=[(3, {bY:=[(0,.mr),(3,.mr),(4,.mr)],boxes:=[]})]
def VW:Rows→kx:=(fun r0=>((true,[.sl r0]):kx))
def ndP (a:Rows) (i:Int) (su:Rows):St:= {n:=23,sl:=[(0,.sl [.i,.i,.i,.i,.i,.i,.i] a),(3,.own 640192),(4,.int .i64 i)],hp:=[(640192,.row 201 [.i,.i,.i,.i,.i,.i,.i] su false true)],ok:=true,ls:=[],lm:=[]}
theorem nfA:DV Tryz.prog 146 PC:=by
 refine qw (A:=VU) nfB Tryz.func146 fun ds (hw:jV ([.sl [.i,.i,.i,.i,.i,.i,.i]]) ds) aI=> ?_
 obtain⟨a,rfl,qn⟩:=qb hw
 obtain⟨N,hN⟩:=nfz Vm.jX VW a qn aI
 have e0:(fun i su=>LC (LB Tryz.prog VV VU N Tryz.f146 PC [true,true,false,true,false] []) N (ndP a i su))=(niP ncr Vm.jX VW N a N):=nL2 _ _ _ N
 refine⟨N,Eq.trans ?_ (hN.trans (by kernel_rfl))⟩
 unfold nir
 rw[←e0]
 kernel_rfl
def PA:Sum:= {ps:=[⟨ni.ct,true⟩],rs:=[⟨[.own 201 [.i,.i,.i,.i,.i,.i,.i]],true⟩],fn:=fun ds=>(rp (ni.nh ds 0),ni.enc (qY (ni.nh ds 0)))}
theorem YW:DV Tryz.prog 43 PA:=by
 refine nU (Γ:=[(146,PC)]) (HZ nfA Jn) Tryz.func43 fun ds (hw:jV (ni.ct++[]) ds) aI=> ?_
 obtain⟨a,ds,rfl,_,hw⟩:=ni.nC (r:=_) hw
 obtain rfl:=nA hw
 exact⟨0,eT (YV Vm.jX (fun r0=>((true,ni.enc r0):kx)) a aI)⟩
def Um:Sum:= {ps:=[⟨nm.ct,true⟩,⟨[.i],false⟩],rs:=[⟨[.dV .i],false⟩],fn:=fun ds=>(true,[.int (rN (nm.nh ds 0) (rI ds 3))])}
theorem ndJ:DV Tryz.prog 7 Um:=by
 refine nU (Γ:=[(28,RD)]) (HZ XR Jn) Tryz.func7 fun ds (hw:jV (nm.ct++[.i]) ds) _=> ?_
 obtain⟨a,ds,rfl,_,hw⟩:=nm.nC (r:=_) hw
 obtain⟨left,rfl,_⟩:=nw hw
 exact⟨0,eT (ndI (fun r0=>((true,[.int r0]):kx)) a left)⟩
def XL:Sum:= {ps:=[⟨oy.ct,true⟩,⟨oy.ct,true⟩],rs:=[⟨[.dV .bool],false⟩],fn:=fun ds=>(same (oy.nh ds 0) (oy.nh ds 9),[.bool (om (oy.nh ds 0) (oy.nh ds 9))])}
theorem ngP:DV Tryz.prog 171 XL:=by
 refine nU Jn Tryz.func171 fun ds (hw:jV (oy.ct++(oy.ct++[])) ds) aI=> ?_
 obtain⟨a,ds,rfl,_,hw⟩:=oy.nC (r:=_) hw
 obtain⟨b,ds,rfl,_,hw⟩:=oy.nC (r:=_) hw
 obtain rfl:=nA hw
 exact⟨0,eT (ngO (fun r0=>((true,[.bool r0]):kx)) a b aI)⟩
def Ry:Sum:= {ps:=[⟨nD.ct,true⟩,⟨nD.ct,true⟩],rs:=[⟨[.dV .bool],false⟩],fn:=fun ds=>(same (nD.nh ds 0) (nD.nh ds 5),[.bool (om (nD.nh ds 0) (nD.nh ds 5))])}
theorem XA:DV Tryz.prog 274 Ry:=by
 refine nU Jn Tryz.func274 fun ds (hw:jV (nD.ct++(nD.ct++[])) ds) aI=> ?_
 obtain⟨a,ds,rfl,_,hw⟩:=nD.nC (r:=_) hw
 obtain⟨b,ds,rfl,_,hw⟩:=nD.nC (r:=_) hw
 obtain rfl:=nA hw
 exact⟨0,eT (ngI (fun r0=>((true,[.bool r0]):kx)) a b aI)⟩
def XP:Sum:= {ps:=[⟨py.ct,true⟩,⟨py.ct,true⟩],rs:=[⟨[.dV .bool],false⟩],fn:=fun ds=>(same (py.nh ds 0) (py.nh ds 7),[.bool (om (py.nh ds 0) (py.nh ds 7))])}
theorem ngT:DV Tryz.prog 275 XP:=by
 refine nU (Γ:=[(274,Ry)]) (HZ XA Jn) Tryz.func275 fun ds (hw:jV (py.ct++(py.ct++[])) ds) aI=> ?_
 obtain⟨a,ds,rfl,_,hw⟩:=py.nC (r:=_) hw
 obtain⟨b,ds,rfl,_,hw⟩:=py.nC (r:=_) hw
 obtain rfl:=nA hw
 exact⟨0,eT (ngS Vm.jX (fun r0=>((true,[.bool r0]):kx)) a b aI)⟩
def O5:Sum:= {ps:=[⟨[.sl [.i,.i,.i,.i,.i,.i,.i]],false⟩,⟨[.sl [.i,.i,.i,.i,.i,.i,.i]],false⟩],rs:=[⟨[.dV .bool],false⟩],fn:=fun ds=>(same (rR ds 0) (rR ds 1),[.bool (om (rR ds 0) (rR ds 1))])}
def VB:Ctx:=[(275,XP)]
theorem nfp:bD Tryz.prog VB:=HZ ngT Jn
def VA:List (Nat×lb):=[(4, {bY:=[(0,.mr),(1,.mr),(5,.mr)],boxes:=[]})]
def VC:Bool→kx:=(fun r0=>((true,[.bool r0]):kx))
def ndm (a b:Rows) (i:Int):St:= {n:=27,sl:=[(0,.sl [.i,.i,.i,.i,.i,.i,.i] a),(1,.sl [.i,.i,.i,.i,.i,.i,.i] b),(5,.int .i64 i)],hp:=[],ok:=true,ls:=[],lm:=[]}
theorem nfo:DV Tryz.prog 172 O5:=by
 refine qw (A:=VA) nfp Tryz.func172 fun ds (hw:jV ([.sl [.i,.i,.i,.i,.i,.i,.i],.sl [.i,.i,.i,.i,.i,.i,.i]]) ds) aI=> ?_
 obtain⟨a,ds,rfl,qn,hw⟩:=nX hw
 obtain⟨b,rfl,_⟩:=qb hw
 obtain⟨N,hN⟩:=nfn Vm.jX VC a b qn aI
 have e0:(fun i=>LC (LB Tryz.prog VB VA N Tryz.f172 O5 [true,true,false,true,false] []) N (ndm a b i))=(ncG (fun r=>py.nh r 0) Vm.jX VC N a b N):=nL1 _ _ _ N
 refine⟨N,Eq.trans ?_ (hN.trans (by kernel_rfl))⟩
 unfold UZ
 rw[←e0]
 kernel_rfl
def O0:Sum:= {ps:=[⟨ni.ct,true⟩,⟨ni.ct,true⟩],rs:=[⟨[.dV .bool],false⟩],fn:=fun ds=>(same (ni.nh ds 0) (ni.nh ds 1),[.bool (om (ni.nh ds 0) (ni.nh ds 1))])}
theorem Yv:DV Tryz.prog 67 O0:=by
 refine nU (Γ:=[(172,O5)]) (HZ nfo Jn) Tryz.func67 fun ds (hw:jV (ni.ct++(ni.ct++[])) ds) aI=> ?_
 obtain⟨a,ds,rfl,_,hw⟩:=ni.nC (r:=_) hw
 obtain⟨b,ds,rfl,_,hw⟩:=ni.nC (r:=_) hw
 obtain rfl:=nA hw
 exact⟨0,eT (Yu Vm.jX (fun r0=>((true,[.bool r0]):kx)) a b aI)⟩
def T4:Sum:= {ps:=[⟨nz.ct,true⟩,⟨nz.ct,true⟩],rs:=[⟨[.dV .bool],false⟩],fn:=fun ds=>(same (nz.nh ds 0) (nz.nh ds 2),[.bool (om (nz.nh ds 0) (nz.nh ds 2))])}
theorem ndo:DV Tryz.prog 68 T4:=by
 refine nU (Γ:=[(64,tR)]) (HZ w_ Jn) Tryz.func68 fun ds (hw:jV (nz.ct++(nz.ct++[])) ds) aI=> ?_
 obtain⟨a,ds,rfl,_,hw⟩:=nz.nC (r:=_) hw
 obtain⟨b,ds,rfl,_,hw⟩:=nz.nC (r:=_) hw
 obtain rfl:=nA hw
 exact⟨0,eT (ndn Vm.jX (fun r0=>((true,[.bool r0]):kx)) a b aI)⟩
def T6:Sum:= {ps:=[⟨oR.ct,true⟩,⟨oR.ct,true⟩],rs:=[⟨[.dV .bool],false⟩],fn:=fun ds=>(same (oR.nh ds 0) (oR.nh ds 8),[.bool (om (oR.nh ds 0) (oR.nh ds 8))])}
theorem ndq:DV Tryz.prog 170 T6:=by
 refine nU (Γ:=[(274,Ry)]) (HZ XA Jn) Tryz.func170 fun ds (hw:jV (oR.ct++(oR.ct++[])) ds) aI=> ?_
 obtain⟨a,ds,rfl,_,hw⟩:=oR.nC (r:=_) hw
 obtain⟨b,ds,rfl,_,hw⟩:=oR.nC (r:=_) hw
 obtain rfl:=nA hw
 exact⟨0,eT (ndp Vm.jX (fun r0=>((true,[.bool r0]):kx)) a b aI)⟩
def yL:Sum:= {ps:=[⟨[.sl [.i,.i,.i,.bool]],false⟩,⟨[.sl [.i,.i,.i,.bool]],false⟩],rs:=[⟨[.dV .bool],false⟩],fn:=fun ds=>(same (rR ds 0) (rR ds 1),[.bool (om (rR ds 0) (rR ds 1))])}
def QG:Ctx:=[(164,R3)]
theorem Z_:bD Tryz.prog QG:=HZ nbp Jn
def QF:List (Nat×lb):=[(4, {bY:=[(0,.mr),(1,.mr),(5,.mr)],boxes:=[]})]
def QH:Bool→kx:=(fun r0=>((true,[.bool r0]):kx))
def Yw (a b:Rows) (i:Int):St:= {n:=27,sl:=[(0,.sl [.i,.i,.i,.bool] a),(1,.sl [.i,.i,.i,.bool] b),(5,.int .i64 i)],hp:=[],ok:=true,ls:=[],lm:=[]}
theorem Z9:DV Tryz.prog 56 yL:=by
 refine qw (A:=QF) Z_ Tryz.func56 fun ds (hw:jV ([.sl [.i,.i,.i,.bool],.sl [.i,.i,.i,.bool]]) ds) aI=> ?_
 obtain⟨a,ds,rfl,qn,hw⟩:=nX hw
 obtain⟨b,rfl,_⟩:=qb hw
 obtain⟨N,hN⟩:=Z8 Vm.jX QH a b qn aI
 have e0:(fun i=>LC (LB Tryz.prog QG QF N Tryz.f56 yL [true,true,false,true,false] []) N (Yw a b i))=(ncG (fun r=>oP.nh r 0) Vm.jX QH N a b N):=nL1 _ _ _ N
 refine⟨N,Eq.trans ?_ (hN.trans (by kernel_rfl))⟩
 unfold UZ
 rw[←e0]
 kernel_rfl
def yM:Sum:= {ps:=[⟨[.sl [.i,.i,.i,.i,.i,.i,.i,.i,.i,.i,.i,.i,.i,.i,.i,.i,.i,.i,.i,.i,.i,.i,.i,.i,.i,.str,.i,.i,.bool,.i]],false⟩,⟨[.sl [.i,.i,.i,.i,.i,.i,.i,.i,.i,.i,.i,.i,.i,.i,.i,.i,.i,.i,.i,.i,.i,.i,.i,.i,.i,.str,.i,.i,.bool,.i]],false⟩],rs:=[⟨[.dV .bool],false⟩],fn:=fun ds=>(same (rR ds 0) (rR ds 1),[.bool (om (rR ds 0) (rR ds 1))])}
def QJ:Ctx:=[(168,R5)]
theorem nac:bD Tryz.prog QJ:=HZ nbr Jn
def QI:List (Nat×lb):=[(4, {bY:=[(0,.mr),(1,.mr),(5,.mr)],boxes:=[]})]
def QK:Bool→kx:=(fun r0=>((true,[.bool r0]):kx))
def Yx (a b:Rows) (i:Int):St:= {n:=27,sl:=[(0,.sl [.i,.i,.i,.i,.i,.i,.i,.i,.i,.i,.i,.i,.i,.i,.i,.i,.i,.i,.i,.i,.i,.i,.i,.i,.i,.str,.i,.i,.bool,.i] a),(1,.sl [.i,.i,.i,.i,.i,.i,.i,.i,.i,.i,.i,.i,.i,.i,.i,.i,.i,.i,.i,.i,.i,.i,.i,.i,.i,.str,.i,.i,.bool,.i] b),(5,.int .i64 i)],hp:=[],ok:=true,ls:=[],lm:=[]}
theorem nab:DV Tryz.prog 58 yM:=by
 refine qw (A:=QI) nac Tryz.func58 fun ds (hw:jV ([.sl [.i,.i,.i,.i,.i,.i,.i,.i,.i,.i,.i,.i,.i,.i,.i,.i,.i,.i,.i,.i,.i,.i,.i,.i,.i,.str,.i,.i,.bool,.i],.sl [.i,.i,.i,.i,.i,.i,.i,.i,.i,.i,.i,.i,.i,.i,.i,.i,.i,.i,.i,.i,.i,.i,.i,.i,.i,.str,.i,.i,.bool,.i]]) ds) aI=> ?_
 obtain⟨a,ds,rfl,qn,hw⟩:=nX hw
 obtain⟨b,rfl,_⟩:=qb hw
 obtain⟨N,hN⟩:=naa Vm.jX QK a b qn aI
 have e0:(fun i=>LC (LB Tryz.prog QJ QI N Tryz.f58 yM [true,true,false,true,false] []) N (Yx a b i))=(ncG (fun r=>nW.nh r 0) Vm.jX QK N a b N):=nL1 _ _ _ N
 refine⟨N,Eq.trans ?_ (hN.trans (by kernel_rfl))⟩
 unfold UZ
 rw[←e0]
 kernel_rfl
def T8:Sum:= {ps:=[⟨nO.ct,true⟩,⟨nO.ct,true⟩],rs:=[⟨[.dV .bool],false⟩],fn:=fun ds=>(same (nO.nh ds 0) (nO.nh ds 6),[.bool (om (nO.nh ds 0) (nO.nh ds 6))])}
theorem nds:DV Tryz.prog 169 T8:=by
 refine nU Jn Tryz.func169 fun ds (hw:jV (nO.ct++(nO.ct++[])) ds) aI=> ?_
 obtain⟨a,ds,rfl,_,hw⟩:=nO.nC (r:=_) hw
 obtain⟨b,ds,rfl,_,hw⟩:=nO.nC (r:=_) hw
 obtain rfl:=nA hw
 exact⟨0,eT (ndr (fun r0=>((true,[.bool r0]):kx)) a b aI)⟩
def zo:Sum:= {ps:=[⟨[.sl [.i,.i,.i,.i,.bool,.bool]],false⟩,⟨[.sl [.i,.i,.i,.i,.bool,.bool]],false⟩],rs:=[⟨[.dV .bool],false⟩],fn:=fun ds=>(same (rR ds 0) (rR ds 1),[.bool (om (rR ds 0) (rR ds 1))])}
def Si:Ctx:=[(169,T8)]
theorem nbC:bD Tryz.prog Si:=HZ nds Jn
def Sh:List (Nat×lb):=[(4, {bY:=[(0,.mr),(1,.mr),(5,.mr)],boxes:=[]})]
def Sj:Bool→kx:=(fun r0=>((true,[.bool r0]):kx))
def nag (a b:Rows) (i:Int):St:= {n:=27,sl:=[(0,.sl [.i,.i,.i,.i,.bool,.bool] a),(1,.sl [.i,.i,.i,.i,.bool,.bool] b),(5,.int .i64 i)],hp:=[],ok:=true,ls:=[],lm:=[]}
theorem nbB:DV Tryz.prog 60 zo:=by
 refine qw (A:=Sh) nbC Tryz.func60 fun ds (hw:jV ([.sl [.i,.i,.i,.i,.bool,.bool],.sl [.i,.i,.i,.i,.bool,.bool]]) ds) aI=> ?_
 obtain⟨a,ds,rfl,qn,hw⟩:=nX hw
 obtain⟨b,rfl,_⟩:=qb hw
 obtain⟨N,hN⟩:=nbA Vm.jX Sj a b qn aI
 have e0:(fun i=>LC (LB Tryz.prog Si Sh N Tryz.f60 zo [true,true,false,true,false] []) N (nag a b i))=(ncG (fun r=>nO.nh r 0) Vm.jX Sj N a b N):=nL1 _ _ _ N
 refine⟨N,Eq.trans ?_ (hN.trans (by kernel_rfl))⟩
 unfold UZ
 rw[←e0]
 kernel_rfl
def OY:Sum:= {ps:=[⟨[.sl [.bool]],false⟩,⟨[.sl [.bool]],false⟩],rs:=[⟨[.dV .bool],false⟩],fn:=fun ds=>(same (rR ds 0) (rR ds 1),[.bool (om (rR ds 0) (rR ds 1))])}
def Vo:List (Nat×lb):=[(4, {bY:=[(0,.mr),(1,.mr),(5,.mr)],boxes:=[]})]
def Vp:Bool→kx:=(fun r0=>((true,[.bool r0]):kx))
def ndd (a b:Rows) (i:Int):St:= {n:=26,sl:=[(0,.sl [.bool] a),(1,.sl [.bool] b),(5,.int .i64 i)],hp:=[],ok:=true,ls:=[],lm:=[]}
theorem nfc:DV Tryz.prog 61 OY:=by
 refine qw (A:=Vo) Jn Tryz.func61 fun ds (hw:jV ([.sl [.bool],.sl [.bool]]) ds) aI=> ?_
 obtain⟨a,ds,rfl,qn,hw⟩:=nX hw
 obtain⟨b,rfl,_⟩:=qb hw
 obtain⟨N,hN⟩:=nfb Vm.jX Vp a b qn aI
 exact⟨N,eL (fun l_=>OZ Vm.jX Vp l_ a b) (nL1 (LB Tryz.prog [] Vo N Tryz.f61 OY [true,true,false,true,false] []) (ndd a b) _ N) hN⟩
def NI:Sum:= {ps:=[⟨nm.ct,true⟩,⟨nm.ct,true⟩],rs:=[⟨[.dV .bool],false⟩],fn:=fun ds=>(same (nm.nh ds 0) (nm.nh ds 3),[.bool (om (nm.nh ds 0) (nm.nh ds 3))])}
theorem TW:DV Tryz.prog 14 NI:=by
 refine nU (Γ:=[(64,tR)]) (HZ w_ Jn) Tryz.func14 fun ds (hw:jV (nm.ct++(nm.ct++[])) ds) aI=> ?_
 obtain⟨a,ds,rfl,_,hw⟩:=nm.nC (r:=_) hw
 obtain⟨b,ds,rfl,_,hw⟩:=nm.nC (r:=_) hw
 obtain rfl:=nA hw
 exact⟨0,eT (nde Vm.jX (fun r0=>((true,[.bool r0]):kx)) a b aI)⟩
def O3:Sum:= {ps:=[⟨[.sl [.i,.i,.i,.i,.i,.i,.i,.i,.i]],false⟩,⟨[.sl [.i,.i,.i,.i,.i,.i,.i,.i,.i]],false⟩],rs:=[⟨[.dV .bool],false⟩],fn:=fun ds=>(same (rR ds 0) (rR ds 1),[.bool (om (rR ds 0) (rR ds 1))])}
def Vv:Ctx:=[(171,XL)]
theorem nfj:bD Tryz.prog Vv:=HZ ngP Jn
def Vu:List (Nat×lb):=[(4, {bY:=[(0,.mr),(1,.mr),(5,.mr)],boxes:=[]})]
def Vw:Bool→kx:=(fun r0=>((true,[.bool r0]):kx))
def ndk (a b:Rows) (i:Int):St:= {n:=27,sl:=[(0,.sl [.i,.i,.i,.i,.i,.i,.i,.i,.i] a),(1,.sl [.i,.i,.i,.i,.i,.i,.i,.i,.i] b),(5,.int .i64 i)],hp:=[],ok:=true,ls:=[],lm:=[]}
theorem nfi:DV Tryz.prog 66 O3:=by
 refine qw (A:=Vu) nfj Tryz.func66 fun ds (hw:jV ([.sl [.i,.i,.i,.i,.i,.i,.i,.i,.i],.sl [.i,.i,.i,.i,.i,.i,.i,.i,.i]]) ds) aI=> ?_
 obtain⟨a,ds,rfl,qn,hw⟩:=nX hw
 obtain⟨b,rfl,_⟩:=qb hw
 obtain⟨N,hN⟩:=nfh Vm.jX Vw a b qn aI
 have e0:(fun i=>LC (LB Tryz.prog Vv Vu N Tryz.f66 O3 [true,true,false,true,false] []) N (ndk a b i))=(ncG (fun r=>oy.nh r 0) Vm.jX Vw N a b N):=nL1 _ _ _ N
 refine⟨N,Eq.trans ?_ (hN.trans (by kernel_rfl))⟩
 unfold UZ
 rw[←e0]
 kernel_rfl
def yN:Sum:= {ps:=[⟨nj.ct,true⟩,⟨nj.ct,true⟩],rs:=[⟨[.dV .bool],false⟩],fn:=fun ds=>(same (nj.nh ds 0) (nj.nh ds 4),[.bool (om (nj.nh ds 0) (nj.nh ds 4))])}
theorem QL:DV Tryz.prog 15 yN:=by
 refine nU (Γ:=[(66,O3),(67,O0),(68,T4)]) (HZ nfi (HZ Yv (HZ ndo Jn))) Tryz.func15 fun ds (hw:jV (nj.ct++(nj.ct++[])) ds) aI=> ?_
 obtain⟨a,ds,rfl,_,hw⟩:=nj.nC (r:=_) hw
 obtain⟨b,ds,rfl,_,hw⟩:=nj.nC (r:=_) hw
 obtain rfl:=nA hw
 exact⟨0,eT (nad Vm.jX (fun r0=>((true,[.bool r0]):kx)) a b aI)⟩
def zm:Sum:= {ps:=[⟨[.sl [.i,.i,.i,.i,.i,.i,.str,.bool]],false⟩,⟨[.sl [.i,.i,.i,.i,.i,.i,.str,.bool]],false⟩],rs:=[⟨[.dV .bool],false⟩],fn:=fun ds=>(same (rR ds 0) (rR ds 1),[.bool (om (rR ds 0) (rR ds 1))])}
def R_:Ctx:=[(170,T6)]
theorem nbw:bD Tryz.prog R_:=HZ ndq Jn
def R9:List (Nat×lb):=[(4, {bY:=[(0,.mr),(1,.mr),(5,.mr)],boxes:=[]})]
def Sa:Bool→kx:=(fun r0=>((true,[.bool r0]):kx))
def nae (a b:Rows) (i:Int):St:= {n:=27,sl:=[(0,.sl [.i,.i,.i,.i,.i,.i,.str,.bool] a),(1,.sl [.i,.i,.i,.i,.i,.i,.str,.bool] b),(5,.int .i64 i)],hp:=[],ok:=true,ls:=[],lm:=[]}
theorem nbv:DV Tryz.prog 62 zm:=by
 refine qw (A:=R9) nbw Tryz.func62 fun ds (hw:jV ([.sl [.i,.i,.i,.i,.i,.i,.str,.bool],.sl [.i,.i,.i,.i,.i,.i,.str,.bool]]) ds) aI=> ?_
 obtain⟨a,ds,rfl,qn,hw⟩:=nX hw
 obtain⟨b,rfl,_⟩:=qb hw
 obtain⟨N,hN⟩:=nbu Vm.jX Sa a b qn aI
 have e0:(fun i=>LC (LB Tryz.prog R_ R9 N Tryz.f62 zm [true,true,false,true,false] []) N (nae a b i))=(ncG (fun r=>oR.nh r 0) Vm.jX Sa N a b N):=nL1 _ _ _ N
 refine⟨N,Eq.trans ?_ (hN.trans (by kernel_rfl))⟩
 unfold UZ
 rw[←e0]
 kernel_rfl
def QD:Sum:= {ps:=[⟨og.ct,true⟩,⟨og.ct,true⟩],rs:=[⟨[.dV .bool],false⟩],fn:=fun ds=>(same (og.nh ds 0) (og.nh ds 5),[.bool (om (og.nh ds 0) (og.nh ds 5))])}
theorem Z7:DV Tryz.prog 65 QD:=by
 refine nU Jn Tryz.func65 fun ds (hw:jV (og.ct++(og.ct++[])) ds) aI=> ?_
 obtain⟨a,ds,rfl,_,hw⟩:=og.nC (r:=_) hw
 obtain⟨b,ds,rfl,_,hw⟩:=og.nC (r:=_) hw
 obtain rfl:=nA hw
 exact⟨0,eT (Z6 (fun r0=>((true,[.bool r0]):kx)) a b aI)⟩
def XC:Sum:= {ps:=[⟨nB.ct,true⟩,⟨nB.ct,true⟩],rs:=[⟨[.dV .bool],false⟩],fn:=fun ds=>(same (nB.nh ds 0) (nB.nh ds 33),[.bool (om (nB.nh ds 0) (nB.nh ds 33))])}
theorem ngK:DV Tryz.prog 13 XC:=by
 refine nU (Γ:=[(14,NI),(15,yN),(55,TY),(56,yL),(57,Sf),(58,yM),(59,O2),(60,zo),(61,OY),(62,zm),(63,wm),(64,tR),(65,QD)]) (HZ TW (HZ QL (HZ ndg (HZ Z9 (HZ nbz (HZ nab (HZ nff (HZ nbB (HZ nfc (HZ nbv (HZ Se (HZ w_ (HZ Z7 Jn))))))))))))) Tryz.func13 fun ds (hw:jV (nB.ct++(nB.ct++[])) ds) aI=> ?_
 obtain⟨a,ds,rfl,_,hw⟩:=nB.nC (r:=_) hw
 obtain⟨b,ds,rfl,_,hw⟩:=nB.nC (r:=_) hw
 obtain rfl:=nA hw
 exact⟨0,eT (ngJ Vm.jX (fun r0=>((true,[.bool r0]):kx)) a b aI)⟩
def XW:Sum:= {ps:=[⟨oy.ct,true⟩],rs:=[⟨[.dV .i,.dV .i,.dV .i,.dV .i,.dV .i,.dV .i,.dV .i,.dV .i,.dV .i],true⟩],fn:=fun ds=>(true,oy.enc (qY (oy.nh ds 0)))}
theorem ngZ:DV Tryz.prog 145 XW:=by
 refine nU Jn Tryz.func145 fun ds (hw:jV (oy.ct++[]) ds) _=> ?_
 obtain⟨a,ds,rfl,_,hw⟩:=oy.nC (r:=_) hw
 obtain rfl:=nA hw
 exact⟨0,eT (ngY (fun r0=>((true,oy.enc r0):kx)) a)⟩
def PB:Sum:= {ps:=[⟨[.sl [.i,.i,.i,.i,.i,.i,.i,.i,.i]],false⟩],rs:=[⟨[.own 197 [.i,.i,.i,.i,.i,.i,.i,.i,.i]],false⟩],fn:=fun ds=>(sm (rR ds 0),[.sl (qY (rR ds 0))])}
def VS:Ctx:=[(145,XW)]
theorem nfy:bD Tryz.prog VS:=HZ ngZ Jn
def VR:List (Nat×lb):=[(3, {bY:=[(0,.mr),(3,.mr),(4,.mr)],boxes:=[]})]
def VT:Rows→kx:=(fun r0=>((true,[.sl r0]):kx))
def ndO (a:Rows) (i:Int) (su:Rows):St:= {n:=23,sl:=[(0,.sl [.i,.i,.i,.i,.i,.i,.i,.i,.i] a),(3,.own 640192),(4,.int .i64 i)],hp:=[(640192,.row 197 [.i,.i,.i,.i,.i,.i,.i,.i,.i] su false true)],ok:=true,ls:=[],lm:=[]}
theorem nfx:DV Tryz.prog 42 PB:=by
 refine qw (A:=VR) nfy Tryz.func42 fun ds (hw:jV ([.sl [.i,.i,.i,.i,.i,.i,.i,.i,.i]]) ds) aI=> ?_
 obtain⟨a,rfl,qn⟩:=qb hw
 obtain⟨N,hN⟩:=nfw Vm.jX VT a qn aI
 have e0:(fun i su=>LC (LB Tryz.prog VS VR N Tryz.f42 PB [true,true,false,true,false] []) N (ndO a i su))=(niP ncq Vm.jX VT N a N):=nL2 _ _ _ N
 refine⟨N,Eq.trans ?_ (hN.trans (by kernel_rfl))⟩
 unfold nir
 rw[←e0]
 kernel_rfl
def QU:Sum:= {ps:=[⟨nj.ct,true⟩],rs:=[⟨[.own 197 [.i,.i,.i,.i,.i,.i,.i,.i,.i],.own 201 [.i,.i,.i,.i,.i,.i,.i],.dV .str,.own 3 [.i]],true⟩],fn:=fun ds=>(pD (nj.nh ds 0),nj.enc (qY (nj.nh ds 0)))}
theorem naN:DV Tryz.prog 11 QU:=by
 refine nU (Γ:=[(42,PB),(43,PA),(44,Up)]) (HZ nfx (HZ YW (HZ ndR Jn))) Tryz.func11 fun ds (hw:jV (nj.ct++[]) ds) aI=> ?_
 obtain⟨a,ds,rfl,_,hw⟩:=nj.nC (r:=_) hw
 obtain rfl:=nA hw
 exact⟨0,eT (naM Vm.jX (fun r0=>((true,nj.enc r0):kx)) a aI)⟩
def Uo:Sum:= {ps:=[⟨nm.ct,true⟩],rs:=[⟨[.dV .i,.dV .bool,.own 3 [.i]],true⟩],fn:=fun ds=>(qs (nm.nh ds 0),nm.enc (qY (nm.nh ds 0)))}
theorem ndN:DV Tryz.prog 10 Uo:=by
 refine nU (Γ:=[(41,zW)]) (HZ XV Jn) Tryz.func10 fun ds (hw:jV (nm.ct++[]) ds) aI=> ?_
 obtain⟨a,ds,rfl,_,hw⟩:=nm.nC (r:=_) hw
 obtain rfl:=nA hw
 exact⟨0,eT (ndM Vm.jX (fun r0=>((true,nm.enc r0):kx)) a aI)⟩
def rA:Sum:= {ps:=[⟨[.sl [.i]],false⟩,⟨[.i],false⟩],rs:=[⟨[.dV .i],false⟩],fn:=fun ds=>(wY 1 (rR ds 0) (rI ds 1),[.int (p7 (rR ds 0) (rI ds 1)).1]++[.sl (p7 (rR ds 0) (rI ds 1)).2]),ms:=[some (.rows [.flat 3]),none]}
def Uf:List (Nat×lb):=[(2, {bY:=[(0,.mr),(1,.mr),(5,.mr)],boxes:=[]})]
def Ug:Int→Rows→kx:=(fun r0 r1=>((true,[.int r0]++[.sl r1]):kx))
def nbS (qu i:Int) (wO:Rows):St:= {n:=1099511627795,sl:=[(0,.own 640000),(1,.int .i64 qu),(5,.int .i64 i)],hp:=[(640000,.row 3 [.i] wO false true)],ok:=true,ls:=[],lm:=[]}
theorem tw:B8 Tryz.prog 69 rA:=by
 refine ya (A:=Uf) Jn Tryz.func69 fun ds (hw:jV ([.sl [.i],.i]) ds) aI=> ?_
 obtain⟨a,ds,rfl,qn,hw⟩:=nX hw
 obtain⟨k,rfl,_⟩:=nw hw
 obtain⟨N,hN⟩:=ndC Vm.jX Ug a k qn aI
 exact⟨N,eL (fun l_=>NK Vm.jX Ug l_ a k) (nL3 (KW Tryz.prog [] Uf N Tryz.f69 rA [true,false,true,false] []) (nbS) _ N) hN⟩
def rz:Sum:= {ps:=[⟨[.sl [.i]],false⟩,⟨[.i],false⟩],rs:=[⟨[.dV .i],false⟩],fn:=fun ds=>(y7 pF 1 (rR ds 0) (rI ds 1),[.int (pG (rR ds 0) (rI ds 1))])}
def Ua:List (Nat×lb):=[(2, {bY:=[(0,.mr),(1,.mr),(5,.mr)],boxes:=[]})]
def Ub:Int→kx:=(fun r0=>((true,[.int r0]):kx))
def nbF (a:Rows) (qu i:Int):St:= {n:=21,sl:=[(0,.sl [.i] a),(1,.int .i64 qu),(5,.int .i64 i)],hp:=[],ok:=true,ls:=[],lm:=[]}
theorem tv:DV Tryz.prog 93 rz:=by
 refine qw (A:=Ua) Jn Tryz.func93 fun ds (hw:jV ([.sl [.i],.i]) ds) aI=> ?_
 obtain⟨a,ds,rfl,qn,hw⟩:=nX hw
 obtain⟨k,rfl,_⟩:=nw hw
 obtain⟨N,hN⟩:=ndv Vm.jX Ub a k qn aI
 exact⟨N,eL (fun l_=>NJ Vm.jX Ub l_ a k) (nL2 (LB Tryz.prog [] Ua N Tryz.f93 rz [true,false,true,false] []) (nbF a) _ N) hN⟩
def zy:Sum:= {ps:=[⟨[.sl [.bool]],false⟩,⟨[.i],false⟩],rs:=[⟨[.dV .i],false⟩],fn:=fun ds=>(wY 1 (rR ds 0) (rI ds 1),[.int (zG (rR ds 0) (rI ds 1)).1]++[.sl (zG (rR ds 0) (rI ds 1)).2]),ms:=[some (.rows [.flat 4]),none]}
def SA:List (Nat×lb):=[(2, {bY:=[(0,.mr),(1,.mr),(5,.mr)],boxes:=[]})]
def SB:Int→Rows→kx:=(fun r0 r1=>((true,[.int r0]++[.sl r1]):kx))
def nau (qu i:Int) (wO:Rows):St:= {n:=1099511627797,sl:=[(0,.own 640000),(1,.int .i64 qu),(5,.int .i64 i)],hp:=[(640000,.row 4 [.bool] wO false true)],ok:=true,ls:=[],lm:=[]}
theorem nbR:B8 Tryz.prog 79 zy:=by
 refine ya (A:=SA) Jn Tryz.func79 fun ds (hw:jV ([.sl [.bool],.i]) ds) aI=> ?_
 obtain⟨a,ds,rfl,qn,hw⟩:=nX hw
 obtain⟨k,rfl,_⟩:=nw hw
 obtain⟨N,hN⟩:=nbQ Vm.jX SB a k qn aI
 exact⟨N,eL (fun l_=>zz Vm.jX SB l_ a k) (nL3 (KW Tryz.prog [] SA N Tryz.f79 zy [true,false,true,false] []) (nau) _ N) hN⟩
def zp:Sum:= {ps:=[⟨[.sl [.bool]],false⟩,⟨[.i],false⟩],rs:=[⟨[.dV .i],false⟩],fn:=fun ds=>(y7 yi 1 (rR ds 0) (rI ds 1),[.int (Oq (rR ds 0) (rI ds 1))])}
def Sk:List (Nat×lb):=[(2, {bY:=[(0,.mr),(1,.mr),(5,.mr)],boxes:=[]})]
def Sl:Int→kx:=(fun r0=>((true,[.int r0]):kx))
def nah (a:Rows) (qu i:Int):St:= {n:=23,sl:=[(0,.sl [.bool] a),(1,.int .i64 qu),(5,.int .i64 i)],hp:=[],ok:=true,ls:=[],lm:=[]}
theorem nbE:DV Tryz.prog 88 zp:=by
 refine qw (A:=Sk) Jn Tryz.func88 fun ds (hw:jV ([.sl [.bool],.i]) ds) aI=> ?_
 obtain⟨a,ds,rfl,qn,hw⟩:=nX hw
 obtain⟨k,rfl,_⟩:=nw hw
 obtain⟨N,hN⟩:=nbD Vm.jX Sl a k qn aI
 exact⟨N,eL (fun l_=>zq Vm.jX Sl l_ a k) (nL2 (LB Tryz.prog [] Sk N Tryz.f88 zp [true,false,true,false] []) (nah a) _ N) hN⟩
def rC:Sum:= {ps:=[⟨[.i],false⟩],rs:=[⟨[.dV .str],false⟩],fn:=fun ds=>(true,[.str (Nm (rI ds 0))])}
def Uj:List (Nat×lb):=[(4, {bY:=[(0,.mr),(3,.mr)],boxes:=[]})]
def Uk:Bytes→kx:=(fun r0=>((true,[.str r0]):kx))
def nb3 (qu:Int) (su:Bytes):St:= {n:=20,sl:=[(0,.int .i64 qu),(3,.str su)],hp:=[],ok:=true,ls:=[],lm:=[]}
theorem tx:DV Tryz.prog 176 rC:=by
 refine qw (A:=Uj) Jn Tryz.func176 fun ds (hw:jV ([.i]) ds) _=> ?_
 obtain⟨k,rfl,h_k⟩:=nw hw
 obtain⟨N,hN⟩:=ndH Vm.jX Uk k h_k
 exact⟨N,eL (fun l_=>NL Vm.jX Uk l_ k) (nL2 (LB Tryz.prog [] Uj N Tryz.f176 rC [true,true,true,false,false] []) (nb3) _ N) hN⟩
def uz:Sum:= {ps:=[⟨[.sl [.str]],false⟩,⟨[.i],false⟩],rs:=[⟨[.dV .i],false⟩],fn:=fun ds=>(wY 1 (rR ds 0) (rI ds 1),[.int (sJ (rR ds 0) (rI ds 1)).1]++[.sl (sJ (rR ds 0) (rI ds 1)).2]),ms:=[some (.rows [.flat 9]),none]}
def Pq:Ctx:=[(176,rC)]
theorem YL:bD Tryz.prog Pq:=HZ tx Jn
def Pp:List (Nat×lb):=[(2, {bY:=[(0,.mr),(1,.mr),(5,.mr)],boxes:=[]})]
def Pr:Int→Rows→kx:=(fun r0 r1=>((true,[.int r0]++[.sl r1]):kx))
def W7 (qu i:Int) (wO:Rows):St:= {n:=1099511627796,sl:=[(0,.own 640000),(1,.int .i64 qu),(5,.int .i64 i)],hp:=[(640000,.row 9 [.str] wO false true)],ok:=true,ls:=[],lm:=[]}
theorem Pt:B8 Tryz.prog 81 uz:=by
 refine ya (A:=Pp) YL Tryz.func81 fun ds (hw:jV ([.sl [.str],.i]) ds) aI=> ?_
 obtain⟨a,ds,rfl,qn,hw⟩:=nX hw
 obtain⟨k,rfl,_⟩:=nw hw
 obtain⟨N,hN⟩:=YK Vm.jX Pr a k qn aI
 exact⟨N,eL (fun l_=>xV Vm.jX Pr l_ a k) (nL3 (KW Tryz.prog Pq Pp N Tryz.f81 uz [true,false,true,false] []) (W7) _ N) hN⟩
def uy:Sum:= {ps:=[⟨[.sl [.str]],false⟩,⟨[.i],false⟩],rs:=[⟨[.dV .i],false⟩],fn:=fun ds=>(y7 qT 1 (rR ds 0) (rI ds 1),[.int (sG (rR ds 0) (rI ds 1))])}
def Pa:Ctx:=[(176,rC)]
theorem YC:bD Tryz.prog Pa:=HZ tx Jn
def O_:List (Nat×lb):=[(2, {bY:=[(0,.mr),(1,.mr),(5,.mr)],boxes:=[]})]
def Pb:Int→kx:=(fun r0=>((true,[.int r0]):kx))
def WW (a:Rows) (qu i:Int):St:= {n:=22,sl:=[(0,.sl [.str] a),(1,.int .i64 qu),(5,.int .i64 i)],hp:=[],ok:=true,ls:=[],lm:=[]}
theorem Pf:DV Tryz.prog 92 uy:=by
 refine qw (A:=O_) YC Tryz.func92 fun ds (hw:jV ([.sl [.str],.i]) ds) aI=> ?_
 obtain⟨a,ds,rfl,qn,hw⟩:=nX hw
 obtain⟨k,rfl,_⟩:=nw hw
 obtain⟨N,hN⟩:=YB Vm.jX Pb a k qn aI
 exact⟨N,eL (fun l_=>xS Vm.jX Pb l_ a k) (nL2 (LB Tryz.prog Pa O_ N Tryz.f92 uy [true,false,true,false] []) (WW a) _ N) hN⟩
def xU:Sum:= {ps:=[⟨[.sl [.i,.i,.i,.i,.i,.i,.str,.bool]],false⟩,⟨[.i],false⟩],rs:=[⟨[.dV .i],false⟩],fn:=fun ds=>(wY 8 (rR ds 0) (rI ds 1),[.int (yf (rR ds 0) (rI ds 1)).1]++[.sl (yf (rR ds 0) (rI ds 1)).2]),ms:=[some (.rows [.flat 232]),none]}
def Pn:Ctx:=[(176,rC)]
theorem YJ:bD Tryz.prog Pn:=HZ tx Jn
def Pm:List (Nat×lb):=[(2, {bY:=[(0,.mr),(1,.mr),(5,.mr)],boxes:=[]})]
def Po:Int→Rows→kx:=(fun r0 r1=>((true,[.int r0]++[.sl r1]):kx))
def W6 (qu i:Int) (wO:Rows):St:= {n:=1099511627853,sl:=[(0,.own 640000),(1,.int .i64 qu),(5,.int .i64 i)],hp:=[(640000,.row 232 [.i,.i,.i,.i,.i,.i,.str,.bool] wO false true)],ok:=true,ls:=[],lm:=[]}
theorem YI:B8 Tryz.prog 80 xU:=by
 refine ya (A:=Pm) YJ Tryz.func80 fun ds (hw:jV ([.sl [.i,.i,.i,.i,.i,.i,.str,.bool],.i]) ds) aI=> ?_
 obtain⟨a,ds,rfl,qn,hw⟩:=nX hw
 obtain⟨k,rfl,_⟩:=nw hw
 obtain⟨N,hN⟩:=YH Vm.jX Po a k qn aI
 have e0:(fun qu i wO=>LC (KW Tryz.prog Pn Pm N Tryz.f80 xU [true,false,true,false] []) N (W6 qu i wO))=(ng4 PE Vm.jX Po N N):=nL3 _ _ _ N
 refine⟨N,Eq.trans ?_ (hN.trans (by kernel_rfl))⟩
 unfold nb6
 rw[←e0]
 kernel_rfl
def xR:Sum:= {ps:=[⟨[.sl [.i,.i,.i,.i,.i,.i,.str,.bool]],false⟩,⟨[.i],false⟩],rs:=[⟨[.dV .i],false⟩],fn:=fun ds=>(y7 yj 8 (rR ds 0) (rI ds 1),[.int (Na (rR ds 0) (rI ds 1))])}
def O8:Ctx:=[(176,rC)]
theorem YA:bD Tryz.prog O8:=HZ tx Jn
def O7:List (Nat×lb):=[(2, {bY:=[(0,.mr),(1,.mr),(5,.mr)],boxes:=[]})]
def O9:Int→kx:=(fun r0=>((true,[.int r0]):kx))
def WV (a:Rows) (qu i:Int):St:= {n:=93,sl:=[(0,.sl [.i,.i,.i,.i,.i,.i,.str,.bool] a),(1,.int .i64 qu),(5,.int .i64 i)],hp:=[],ok:=true,ls:=[],lm:=[]}
theorem Yz:DV Tryz.prog 91 xR:=by
 refine qw (A:=O7) YA Tryz.func91 fun ds (hw:jV ([.sl [.i,.i,.i,.i,.i,.i,.str,.bool],.i]) ds) aI=> ?_
 obtain⟨a,ds,rfl,qn,hw⟩:=nX hw
 obtain⟨k,rfl,_⟩:=nw hw
 obtain⟨N,hN⟩:=Yy Vm.jX O9 a k qn aI
 have e0:(fun qu i=>LC (LB Tryz.prog O8 O7 N Tryz.f91 xR [true,false,true,false] []) N (WV a qu i))=(ngo PE Vm.jX O9 N a N):=nL2 _ _ _ N
 refine⟨N,Eq.trans ?_ (hN.trans (by kernel_rfl))⟩
 unfold nba
 rw[←e0]
 kernel_rfl
def wR:Sum:= {ps:=[⟨[.sl [.i,.i,.i,.bool]],false⟩,⟨[.i],false⟩],rs:=[⟨[.dV .i],false⟩],fn:=fun ds=>(wY 4 (rR ds 0) (rI ds 1),[.int (wz (rR ds 0) (rI ds 1)).1]++[.sl (wz (rR ds 0) (rI ds 1)).2]),ms:=[some (.rows [.flat 113]),none]}
def Od:List (Nat×lb):=[(2, {bY:=[(0,.mr),(1,.mr),(5,.mr)],boxes:=[]})]
def Oe:Int→Rows→kx:=(fun r0 r1=>((true,[.int r0]++[.sl r1]):kx))
def VN (qu i:Int) (wO:Rows):St:= {n:=1099511627819,sl:=[(0,.own 640000),(1,.int .i64 qu),(5,.int .i64 i)],hp:=[(640000,.row 113 [.i,.i,.i,.bool] wO false true)],ok:=true,ls:=[],lm:=[]}
theorem WZ:B8 Tryz.prog 74 wR:=by
 refine ya (A:=Od) Jn Tryz.func74 fun ds (hw:jV ([.sl [.i,.i,.i,.bool],.i]) ds) aI=> ?_
 obtain⟨a,ds,rfl,qn,hw⟩:=nX hw
 obtain⟨k,rfl,_⟩:=nw hw
 obtain⟨N,hN⟩:=WY Vm.jX Oe a k qn aI
 have e0:(fun qu i wO=>LC (KW Tryz.prog [] Od N Tryz.f74 wR [true,false,true,false] []) N (VN qu i wO))=(ng4 zH Vm.jX Oe N N):=nL3 _ _ _ N
 refine⟨N,Eq.trans ?_ (hN.trans (by kernel_rfl))⟩
 unfold nb6
 rw[←e0]
 kernel_rfl
def wP:Sum:= {ps:=[⟨[.sl [.i,.i,.i,.bool]],false⟩,⟨[.i],false⟩],rs:=[⟨[.dV .i],false⟩],fn:=fun ds=>(y7 vZ 4 (rR ds 0) (rI ds 1),[.int (yr (rR ds 0) (rI ds 1))])}
def N5:List (Nat×lb):=[(2, {bY:=[(0,.mr),(1,.mr),(5,.mr)],boxes:=[]})]
def N6:Int→kx:=(fun r0=>((true,[.int r0]):kx))
def VH (a:Rows) (qu i:Int):St:= {n:=51,sl:=[(0,.sl [.i,.i,.i,.bool] a),(1,.int .i64 qu),(5,.int .i64 i)],hp:=[],ok:=true,ls:=[],lm:=[]}
theorem WO:DV Tryz.prog 83 wP:=by
 refine qw (A:=N5) Jn Tryz.func83 fun ds (hw:jV ([.sl [.i,.i,.i,.bool],.i]) ds) aI=> ?_
 obtain⟨a,ds,rfl,qn,hw⟩:=nX hw
 obtain⟨k,rfl,_⟩:=nw hw
 obtain⟨N,hN⟩:=WN Vm.jX N6 a k qn aI
 have e0:(fun qu i=>LC (LB Tryz.prog [] N5 N Tryz.f83 wP [true,false,true,false] []) N (VH a qu i))=(ngo zH Vm.jX N6 N a N):=nL2 _ _ _ N
 refine⟨N,Eq.trans ?_ (hN.trans (by kernel_rfl))⟩
 unfold nba
 rw[←e0]
 kernel_rfl
def zC:Sum:= {ps:=[⟨[.sl [.i,.i,.i,.i,.i,.i,.i,.i,.i]],false⟩,⟨[.i],false⟩],rs:=[⟨[.dV .i],false⟩],fn:=fun ds=>(wY 9 (rR ds 0) (rI ds 1),[.int (wB (rR ds 0) (rI ds 1)).1]++[.sl (wB (rR ds 0) (rI ds 1)).2]),ms:=[some (.rows [.flat 197]),none]}
def SH:List (Nat×lb):=[(2, {bY:=[(0,.mr),(1,.mr),(5,.mr)],boxes:=[]})]
def SI:Int→Rows→kx:=(fun r0 r1=>((true,[.int r0]++[.sl r1]):kx))
def naD (qu i:Int) (wO:Rows):St:= {n:=1099511627852,sl:=[(0,.own 640000),(1,.int .i64 qu),(5,.int .i64 i)],hp:=[(640000,.row 197 [.i,.i,.i,.i,.i,.i,.i,.i,.i] wO false true)],ok:=true,ls:=[],lm:=[]}
theorem nbX:B8 Tryz.prog 70 zC:=by
 refine ya (A:=SH) Jn Tryz.func70 fun ds (hw:jV ([.sl [.i,.i,.i,.i,.i,.i,.i,.i,.i],.i]) ds) aI=> ?_
 obtain⟨a,ds,rfl,qn,hw⟩:=nX hw
 obtain⟨k,rfl,_⟩:=nw hw
 obtain⟨N,hN⟩:=nbW Vm.jX SI a k qn aI
 have e0:(fun qu i wO=>LC (KW Tryz.prog [] SH N Tryz.f70 zC [true,false,true,false] []) N (naD qu i wO))=(ng4 Y0 Vm.jX SI N N):=nL3 _ _ _ N
 refine⟨N,Eq.trans ?_ (hN.trans (by kernel_rfl))⟩
 unfold nb6
 rw[←e0]
 kernel_rfl
def zt:Sum:= {ps:=[⟨[.sl [.i,.i,.i,.i,.i,.i,.i,.i,.i]],false⟩,⟨[.i],false⟩],rs:=[⟨[.dV .i],false⟩],fn:=fun ds=>(y7 Ox 9 (rR ds 0) (rI ds 1),[.int (zi (rR ds 0) (rI ds 1))])}
def Sr:List (Nat×lb):=[(2, {bY:=[(0,.mr),(1,.mr),(5,.mr)],boxes:=[]})]
def Ss:Int→kx:=(fun r0=>((true,[.int r0]):kx))
def nao (a:Rows) (qu i:Int):St:= {n:=94,sl:=[(0,.sl [.i,.i,.i,.i,.i,.i,.i,.i,.i] a),(1,.int .i64 qu),(5,.int .i64 i)],hp:=[],ok:=true,ls:=[],lm:=[]}
theorem nbK:DV Tryz.prog 179 zt:=by
 refine qw (A:=Sr) Jn Tryz.func179 fun ds (hw:jV ([.sl [.i,.i,.i,.i,.i,.i,.i,.i,.i],.i]) ds) aI=> ?_
 obtain⟨a,ds,rfl,qn,hw⟩:=nX hw
 obtain⟨k,rfl,_⟩:=nw hw
 obtain⟨N,hN⟩:=nbJ Vm.jX Ss a k qn aI
 have e0:(fun qu i=>LC (LB Tryz.prog [] Sr N Tryz.f179 zt [true,false,true,false] []) N (nao a qu i))=(ngo Y0 Vm.jX Ss N a N):=nL2 _ _ _ N
 refine⟨N,Eq.trans ?_ (hN.trans (by kernel_rfl))⟩
 unfold nba
 rw[←e0]
 kernel_rfl
def xW:Sum:= {ps:=[⟨[.sl [.i,.i,.i,.i,.bool,.bool]],false⟩,⟨[.i],false⟩],rs:=[⟨[.dV .i],false⟩],fn:=fun ds=>(wY 6 (rR ds 0) (rI ds 1),[.int (yg (rR ds 0) (rI ds 1)).1]++[.sl (yg (rR ds 0) (rI ds 1)).2]),ms:=[some (.rows [.flat 102]),none]}
def Pw:List (Nat×lb):=[(2, {bY:=[(0,.mr),(1,.mr),(5,.mr)],boxes:=[]})]
def Px:Int→Rows→kx:=(fun r0 r1=>((true,[.int r0]++[.sl r1]):kx))
def W8 (qu i:Int) (wO:Rows):St:= {n:=1099511627835,sl:=[(0,.own 640000),(1,.int .i64 qu),(5,.int .i64 i)],hp:=[(640000,.row 102 [.i,.i,.i,.i,.bool,.bool] wO false true)],ok:=true,ls:=[],lm:=[]}
theorem YR:B8 Tryz.prog 78 xW:=by
 refine ya (A:=Pw) Jn Tryz.func78 fun ds (hw:jV ([.sl [.i,.i,.i,.i,.bool,.bool],.i]) ds) aI=> ?_
 obtain⟨a,ds,rfl,qn,hw⟩:=nX hw
 obtain⟨k,rfl,_⟩:=nw hw
 obtain⟨N,hN⟩:=YQ Vm.jX Px a k qn aI
 have e0:(fun qu i wO=>LC (KW Tryz.prog [] Pw N Tryz.f78 xW [true,false,true,false] []) N (W8 qu i wO))=(ng4 PF Vm.jX Px N N):=nL3 _ _ _ N
 refine⟨N,Eq.trans ?_ (hN.trans (by kernel_rfl))⟩
 unfold nb6
 rw[←e0]
 kernel_rfl
def xT:Sum:= {ps:=[⟨[.sl [.i,.i,.i,.i,.bool,.bool]],false⟩,⟨[.i],false⟩],rs:=[⟨[.dV .i],false⟩],fn:=fun ds=>(y7 yk 6 (rR ds 0) (rI ds 1),[.int (Nc (rR ds 0) (rI ds 1))])}
def Ph:List (Nat×lb):=[(2, {bY:=[(0,.mr),(1,.mr),(5,.mr)],boxes:=[]})]
def Pj:Int→kx:=(fun r0=>((true,[.int r0]):kx))
def WX (a:Rows) (qu i:Int):St:= {n:=71,sl:=[(0,.sl [.i,.i,.i,.i,.bool,.bool] a),(1,.int .i64 qu),(5,.int .i64 i)],hp:=[],ok:=true,ls:=[],lm:=[]}
theorem YG:DV Tryz.prog 87 xT:=by
 refine qw (A:=Ph) Jn Tryz.func87 fun ds (hw:jV ([.sl [.i,.i,.i,.i,.bool,.bool],.i]) ds) aI=> ?_
 obtain⟨a,ds,rfl,qn,hw⟩:=nX hw
 obtain⟨k,rfl,_⟩:=nw hw
 obtain⟨N,hN⟩:=YF Vm.jX Pj a k qn aI
 have e0:(fun qu i=>LC (LB Tryz.prog [] Ph N Tryz.f87 xT [true,false,true,false] []) N (WX a qu i))=(ngo PF Vm.jX Pj N a N):=nL2 _ _ _ N
 refine⟨N,Eq.trans ?_ (hN.trans (by kernel_rfl))⟩
 unfold nba
 rw[←e0]
 kernel_rfl
def wS:Sum:= {ps:=[⟨[.sl [.i,.i,.i,.i,.i,.i,.i,.i,.i,.i,.i,.i,.i,.i,.i,.i,.i,.i,.i,.i,.i,.i,.i,.i,.i,.str,.i,.i,.bool,.i]],false⟩,⟨[.i],false⟩],rs:=[⟨[.dV .i],false⟩],fn:=fun ds=>(wY 30 (rR ds 0) (rI ds 1),[.int (wC (rR ds 0) (rI ds 1)).1]++[.sl (wC (rR ds 0) (rI ds 1)).2]),ms:=[some (.rows [.flat 123]),none]}
def Oh:Ctx:=[(176,rC)]
theorem W2:bD Tryz.prog Oh:=HZ tx Jn
def Og:List (Nat×lb):=[(2, {bY:=[(0,.mr),(1,.mr),(5,.mr)],boxes:=[]})]
def Oi:Int→Rows→kx:=(fun r0 r1=>((true,[.int r0]++[.sl r1]):kx))
def VO (qu i:Int) (wO:Rows):St:= {n:=1099511628054,sl:=[(0,.own 640000),(1,.int .i64 qu),(5,.int .i64 i)],hp:=[(640000,.row 123 [.i,.i,.i,.i,.i,.i,.i,.i,.i,.i,.i,.i,.i,.i,.i,.i,.i,.i,.i,.i,.i,.i,.i,.i,.i,.str,.i,.i,.bool,.i] wO false true)],ok:=true,ls:=[],lm:=[]}
theorem W1:B8 Tryz.prog 76 wS:=by
 refine ya (A:=Og) W2 Tryz.func76 fun ds (hw:jV ([.sl [.i,.i,.i,.i,.i,.i,.i,.i,.i,.i,.i,.i,.i,.i,.i,.i,.i,.i,.i,.i,.i,.i,.i,.i,.i,.str,.i,.i,.bool,.i],.i]) ds) aI=> ?_
 obtain⟨a,ds,rfl,qn,hw⟩:=nX hw
 obtain⟨k,rfl,_⟩:=nw hw
 obtain⟨N,hN⟩:=W0 Vm.jX Oi a k qn aI
 have e0:(fun qu i wO=>LC (KW Tryz.prog Oh Og N Tryz.f76 wS [true,false,true,false] []) N (VO qu i wO))=(ng4 zI Vm.jX Oi N N):=nL3 _ _ _ N
 refine⟨N,Eq.trans ?_ (hN.trans (by kernel_rfl))⟩
 unfold nb6
 rw[←e0]
 kernel_rfl
def wQ:Sum:= {ps:=[⟨[.sl [.i,.i,.i,.i,.i,.i,.i,.i,.i,.i,.i,.i,.i,.i,.i,.i,.i,.i,.i,.i,.i,.i,.i,.i,.i,.str,.i,.i,.bool,.i]],false⟩,⟨[.i],false⟩],rs:=[⟨[.dV .i],false⟩],fn:=fun ds=>(y7 v7 30 (rR ds 0) (rI ds 1),[.int (yt (rR ds 0) (rI ds 1))])}
def N9:Ctx:=[(176,rC)]
theorem WS:bD Tryz.prog N9:=HZ tx Jn
def N8:List (Nat×lb):=[(2, {bY:=[(0,.mr),(1,.mr),(5,.mr)],boxes:=[]})]
def N_:Int→kx:=(fun r0=>((true,[.int r0]):kx))
def VI (a:Rows) (qu i:Int):St:= {n:=338,sl:=[(0,.sl [.i,.i,.i,.i,.i,.i,.i,.i,.i,.i,.i,.i,.i,.i,.i,.i,.i,.i,.i,.i,.i,.i,.i,.i,.i,.str,.i,.i,.bool,.i] a),(1,.int .i64 qu),(5,.int .i64 i)],hp:=[],ok:=true,ls:=[],lm:=[]}
theorem WR:DV Tryz.prog 85 wQ:=by
 refine qw (A:=N8) WS Tryz.func85 fun ds (hw:jV ([.sl [.i,.i,.i,.i,.i,.i,.i,.i,.i,.i,.i,.i,.i,.i,.i,.i,.i,.i,.i,.i,.i,.i,.i,.i,.i,.str,.i,.i,.bool,.i],.i]) ds) aI=> ?_
 obtain⟨a,ds,rfl,qn,hw⟩:=nX hw
 obtain⟨k,rfl,_⟩:=nw hw
 obtain⟨N,hN⟩:=WQ Vm.jX N_ a k qn aI
 have e0:(fun qu i=>LC (LB Tryz.prog N9 N8 N Tryz.f85 wQ [true,false,true,false] []) N (VI a qu i))=(ngo zI Vm.jX N_ N a N):=nL2 _ _ _ N
 refine⟨N,Eq.trans ?_ (hN.trans (by kernel_rfl))⟩
 unfold nba
 rw[←e0]
 kernel_rfl
def zF:Sum:= {ps:=[⟨[.sl [.i,.i,.i,.i,.i,.i,.i]],false⟩,⟨[.i],false⟩],rs:=[⟨[.dV .i],false⟩],fn:=fun ds=>(wY 7 (rR ds 0) (rI ds 1),[.int (ye (rR ds 0) (rI ds 1)).1]++[.sl (ye (rR ds 0) (rI ds 1)).2]),ms:=[some (.rows [.flat 201]),none]}
def SN:List (Nat×lb):=[(2, {bY:=[(0,.mr),(1,.mr),(5,.mr)],boxes:=[]})]
def SP:Int→Rows→kx:=(fun r0 r1=>((true,[.int r0]++[.sl r1]):kx))
def naF (qu i:Int) (wO:Rows):St:= {n:=1099511627843,sl:=[(0,.own 640000),(1,.int .i64 qu),(5,.int .i64 i)],hp:=[(640000,.row 201 [.i,.i,.i,.i,.i,.i,.i] wO false true)],ok:=true,ls:=[],lm:=[]}
theorem nb2:B8 Tryz.prog 173 zF:=by
 refine ya (A:=SN) Jn Tryz.func173 fun ds (hw:jV ([.sl [.i,.i,.i,.i,.i,.i,.i],.i]) ds) aI=> ?_
 obtain⟨a,ds,rfl,qn,hw⟩:=nX hw
 obtain⟨k,rfl,_⟩:=nw hw
 obtain⟨N,hN⟩:=nb1 Vm.jX SP a k qn aI
 have e0:(fun qu i wO=>LC (KW Tryz.prog [] SN N Tryz.f173 zF [true,false,true,false] []) N (naF qu i wO))=(ng4 Y1 Vm.jX SP N N):=nL3 _ _ _ N
 refine⟨N,Eq.trans ?_ (hN.trans (by kernel_rfl))⟩
 unfold nb6
 rw[←e0]
 kernel_rfl
def zx:Sum:= {ps:=[⟨[.sl [.i,.i,.i,.i,.i,.i,.i]],false⟩,⟨[.i],false⟩],rs:=[⟨[.dV .i],false⟩],fn:=fun ds=>(y7 Oy 7 (rR ds 0) (rI ds 1),[.int (Ot (rR ds 0) (rI ds 1))])}
def Sy:List (Nat×lb):=[(2, {bY:=[(0,.mr),(1,.mr),(5,.mr)],boxes:=[]})]
def Sz:Int→kx:=(fun r0=>((true,[.int r0]):kx))
def naq (a:Rows) (qu i:Int):St:= {n:=81,sl:=[(0,.sl [.i,.i,.i,.i,.i,.i,.i] a),(1,.int .i64 qu),(5,.int .i64 i)],hp:=[],ok:=true,ls:=[],lm:=[]}
theorem nbP:DV Tryz.prog 276 zx:=by
 refine qw (A:=Sy) Jn Tryz.func276 fun ds (hw:jV ([.sl [.i,.i,.i,.i,.i,.i,.i],.i]) ds) aI=> ?_
 obtain⟨a,ds,rfl,qn,hw⟩:=nX hw
 obtain⟨k,rfl,_⟩:=nw hw
 obtain⟨N,hN⟩:=nbO Vm.jX Sz a k qn aI
 have e0:(fun qu i=>LC (LB Tryz.prog [] Sy N Tryz.f276 zx [true,false,true,false] []) N (naq a qu i))=(ngo Y1 Vm.jX Sz N a N):=nL2 _ _ _ N
 refine⟨N,Eq.trans ?_ (hN.trans (by kernel_rfl))⟩
 unfold nba
 rw[←e0]
 kernel_rfl
def zA:Sum:= {ps:=[⟨[.sl [.i,.i,.i,.sl [.i]]],false⟩,⟨[.i],false⟩],rs:=[⟨[.dV .i],false⟩],fn:=fun ds=>(vB qG Nz (rR ds 0) (rI ds 1),[.int (wA (rR ds 0) (rI ds 1)).1]++[.sl (wA (rR ds 0) (rI ds 1)).2]),ms:=[some (.rows [.deep 42 [3]]),none]}
def SE:Ctx:=[(1125899906842661,JP),(69,rA)]
theorem nbV:bD Tryz.prog SE:=HZ Lc (HZ tw Jn)
def SD:List (Nat×lb):=[(2, {bY:=[(0,.mr),(1,.mr),(5,.mr)],boxes:=[]})]
def SF:Int→Rows→kx:=(fun r0 r1=>((true,[.int r0]++[.sl r1]):kx))
def naC (qu i:Int) (wO:Rows):St:= {n:=1099511627817,sl:=[(0,.own 640000),(1,.int .i64 qu),(5,.int .i64 i)],hp:=[(640000,.deep 42 [.i,.i,.i,.sl [.i]] [3] wO none)],ok:=true,ls:=[],lm:=[]}
theorem nbU:B8 Tryz.prog 77 zA:=by
 refine ya (A:=SD) nbV Tryz.func77 fun ds (hw:jV ([.sl [.i,.i,.i,.sl [.i]],.i]) ds) aI=> ?_
 obtain⟨a,ds,rfl,qn,hw⟩:=nX hw
 obtain⟨k,rfl,_⟩:=nw hw
 obtain⟨N,hN⟩:=nbT Vm.jX SF a k qn aI
 exact⟨N,eL (fun l_=>zB Vm.jX SF l_ a k) (nL3 (KW Tryz.prog SE SD N Tryz.f77 zA [true,false,true,false] []) (naC) _ N) hN⟩
def zr:Sum:= {ps:=[⟨[.sl [.i,.i,.i,.sl [.i]]],false⟩,⟨[.i],false⟩],rs:=[⟨[.dV .i],false⟩],fn:=fun ds=>(Wz (rR ds 0) (rI ds 1),[.int (RO (rR ds 0) (rI ds 1))])}
def So:Ctx:=[(93,rz)]
theorem nbI:bD Tryz.prog So:=HZ tv Jn
def Sn:List (Nat×lb):=[(2, {bY:=[(0,.mr),(1,.mr),(5,.mr)],boxes:=[]})]
def Sp:Int→kx:=(fun r0=>((true,[.int r0]):kx))
def nam (a:Rows) (qu i:Int):St:= {n:=49,sl:=[(0,.sl [.i,.i,.i,.sl [.i]] a),(1,.int .i64 qu),(5,.int .i64 i)],hp:=[],ok:=true,ls:=[],lm:=[]}
theorem nbH:DV Tryz.prog 86 zr:=by
 refine qw (A:=Sn) nbI Tryz.func86 fun ds (hw:jV ([.sl [.i,.i,.i,.sl [.i]],.i]) ds) aI=> ?_
 obtain⟨a,ds,rfl,qn,hw⟩:=nX hw
 obtain⟨k,rfl,_⟩:=nw hw
 obtain⟨N,hN⟩:=nbG Vm.jX Sp a k qn aI
 exact⟨N,eL (fun l_=>zs Vm.jX Sp l_ a k) (nL2 (LB Tryz.prog So Sn N Tryz.f86 zr [true,false,true,false] []) (nam a) _ N) hN⟩
def zD:Sum:= {ps:=[⟨[.sl [.i,.i,.sl [.i]]],false⟩,⟨[.i],false⟩],rs:=[⟨[.dV .i],false⟩],fn:=fun ds=>(vB qH NA (rR ds 0) (rI ds 1),[.int (wD (rR ds 0) (rI ds 1)).1]++[.sl (wD (rR ds 0) (rI ds 1)).2]),ms:=[some (.rows [.deep 304 [3]]),none]}
def SK:Ctx:=[(1125899906842654,JP),(69,rA)]
theorem nb0:bD Tryz.prog SK:=HZ Lc (HZ tw Jn)
def SJ:List (Nat×lb):=[(2, {bY:=[(0,.mr),(1,.mr),(5,.mr)],boxes:=[]})]
def SL:Int→Rows→kx:=(fun r0 r1=>((true,[.int r0]++[.sl r1]):kx))
def naE (qu i:Int) (wO:Rows):St:= {n:=1099511627810,sl:=[(0,.own 640000),(1,.int .i64 qu),(5,.int .i64 i)],hp:=[(640000,.deep 304 [.i,.i,.sl [.i]] [3] wO none)],ok:=true,ls:=[],lm:=[]}
theorem nbZ:B8 Tryz.prog 175 zD:=by
 refine ya (A:=SJ) nb0 Tryz.func175 fun ds (hw:jV ([.sl [.i,.i,.sl [.i]],.i]) ds) aI=> ?_
 obtain⟨a,ds,rfl,qn,hw⟩:=nX hw
 obtain⟨k,rfl,_⟩:=nw hw
 obtain⟨N,hN⟩:=nbY Vm.jX SL a k qn aI
 exact⟨N,eL (fun l_=>zE Vm.jX SL l_ a k) (nL3 (KW Tryz.prog SK SJ N Tryz.f175 zD [true,false,true,false] []) (naE) _ N) hN⟩
def zu:Sum:= {ps:=[⟨[.sl [.i,.i,.sl [.i]]],false⟩,⟨[.i],false⟩],rs:=[⟨[.dV .i],false⟩],fn:=fun ds=>(WA (rR ds 0) (rI ds 1),[.int (RP (rR ds 0) (rI ds 1))])}
def Sv:Ctx:=[(93,rz)]
theorem nbN:bD Tryz.prog Sv:=HZ tv Jn
def Su:List (Nat×lb):=[(2, {bY:=[(0,.mr),(1,.mr),(5,.mr)],boxes:=[]})]
def Sw:Int→kx:=(fun r0=>((true,[.int r0]):kx))
def nap (a:Rows) (qu i:Int):St:= {n:=40,sl:=[(0,.sl [.i,.i,.sl [.i]] a),(1,.int .i64 qu),(5,.int .i64 i)],hp:=[],ok:=true,ls:=[],lm:=[]}
theorem nbM:DV Tryz.prog 178 zu:=by
 refine qw (A:=Su) nbN Tryz.func178 fun ds (hw:jV ([.sl [.i,.i,.sl [.i]],.i]) ds) aI=> ?_
 obtain⟨a,ds,rfl,qn,hw⟩:=nX hw
 obtain⟨k,rfl,_⟩:=nw hw
 obtain⟨N,hN⟩:=nbL Vm.jX Sw a k qn aI
 exact⟨N,eL (fun l_=>zw Vm.jX Sw l_ a k) (nL2 (LB Tryz.prog Sv Su N Tryz.f178 zu [true,false,true,false] []) (nap a) _ N) hN⟩
def nL:Sum:= {ps:=[⟨[.i],false⟩,⟨[.i],false⟩,⟨[.i],false⟩],rs:=[⟨[.dV .bool],false⟩],fn:=fun ds=>(true,[.bool (nx (rI ds 0) (rI ds 1) (rI ds 2))])}
theorem o_:DV Tryz.prog 46 nL:=by
 refine nU Jn Tryz.func46 fun ds (hw:jV ([.i,.i,.i]) ds) _=> ?_
 obtain⟨n,ds,rfl,_,hw⟩:=nQ hw
 obtain⟨low,ds,rfl,_,hw⟩:=nQ hw
 obtain⟨high,rfl,_⟩:=nw hw
 exact⟨0,eT (Vl (fun r0=>((true,[.bool r0]):kx)) n low high)⟩
theorem p_:DV Tryz.prog 33 nL:=by
 refine nU Jn Tryz.func33 fun ds (hw:jV ([.i,.i,.i]) ds) _=> ?_
 obtain⟨x,ds,rfl,_,hw⟩:=nQ hw
 obtain⟨least,ds,rfl,_,hw⟩:=nQ hw
 obtain⟨most,rfl,_⟩:=nw hw
 exact⟨0,eT (Vl (fun r0=>((true,[.bool r0]):kx)) x least most)⟩
def th:Sum:= {ps:=[⟨nm.ct,true⟩],rs:=[⟨[.dV .bool],false⟩],fn:=fun ds=>(true,[.bool (Ou (nm.nh ds 0))])}
def Tu:Ctx:=[(46,nL)]
theorem ncO:bD Tryz.prog Tu:=HZ o_ Jn
def Tt:List (Nat×lb):=[(2, {bY:=[(1,.mr),(6,.mr),(7,.mr),(8,.mr)],boxes:=[(64,[])]})]
def Tv:Bool→kx:=(fun r0=>((true,[.bool r0]):kx))
def nbc (x:Rows) (ot oA vf:Int) (Ny:Bool) (tW:Rows):St:= {n:=40,sl:=[(1,.ptr 64 0),(6,.sl [.i] x),(7,.int .i64 ot),(8,.int .i64 oA)],hp:=[(64,.box 50 [.int .i64 vf,.bool Ny,.sl [.i] tW])],ok:=true,ls:=[],lm:=[]}
theorem ncN:DV Tryz.prog 47 th:=by
 refine qw (A:=Tt) ncO Tryz.func47 fun ds (hw:jV (nm.ct++[]) ds) _=> ?_
 obtain⟨f,ds,rfl,h_f,hw⟩:=nm.nC (r:=_) hw
 obtain rfl:=nA hw
 obtain⟨N,hN⟩:=ncM Vm.jX Tv f h_f
 exact⟨N,eL (fun l_=>NC Vm.jX Tv l_ f) (funext fun x=>funext fun ot=>funext fun vf=>funext fun tW=>nL1 (LB Tryz.prog Tu Tt N Tryz.f47 th [true,false,true,false] []) (fun oA=>nbc x ot oA vf f.nN tW) _ N) hN⟩
def UB:Ctx:=[(33,nL)]
theorem nd2:bD Tryz.prog UB:=HZ p_ Jn
def UA:List (Nat×lb):=[(2, {bY:=[(1,.mr),(3,.mr)],boxes:=[(64,[])]})]
def UC:Bool→kx:=(fun r0=>((true,[.bool r0]):kx))
def ncb (k vf:Int) (Ny:Bool) (tW:Rows):St:= {n:=45,sl:=[(1,.ptr 64 0),(3,.int .i64 k)],hp:=[(64,.box 50 [.int .i64 vf,.bool Ny,.sl [.i] tW])],ok:=true,ls:=[],lm:=[]}
theorem nd1:DV Tryz.prog 34 th:=by
 refine qw (A:=UA) nd2 Tryz.func34 fun ds (hw:jV (nm.ct++[]) ds) _=> ?_
 obtain⟨f,ds,rfl,h_f,hw⟩:=nm.nC (r:=_) hw
 obtain rfl:=nA hw
 obtain⟨N,hN⟩:=nd0 Vm.jX UC f h_f
 exact⟨N,eL (fun l_=>NR Vm.jX UC l_ f) (funext fun vf=>funext fun tW=>nL1 (LB Tryz.prog UB UA N Tryz.f34 th [true,false,true,false] []) (fun k=>ncb k vf f.nN tW) _ N) hN⟩
def uw:Sum:= {ps:=[⟨[.sl [.i,.i,.i,.bool]],false⟩,⟨[.i],false⟩,⟨[.i],false⟩],rs:=[⟨[.dV .i],false⟩],fn:=fun ds=>(true,[.int (qV (rR ds 0) (rI ds 1) (rI ds 2))])}
def OU:List (Nat×lb):=[(2, {bY:=[(1,.mr),(2,.mr),(9,.mr),(10,.mr),(11,.mr)],boxes:=[]})]
def OV:Int→kx:=(fun r0=>((true,[.int r0]):kx))
def WM (domain oc:Int) (nc:Rows) (ot oA:Int):St:= {n:=28,sl:=[(1,.int .i64 domain),(2,.int .i64 oc),(9,.sl [.i,.i,.i,.bool] nc),(10,.int .i64 ot),(11,.int .i64 oA)],hp:=[],ok:=true,ls:=[],lm:=[]}
theorem OX:DV Tryz.prog 291 uw:=by
 refine qw (A:=OU) Jn Tryz.func291 fun ds (hw:jV ([.sl [.i,.i,.i,.bool],.i,.i]) ds) _=> ?_
 obtain⟨nc,ds,rfl,pC,hw⟩:=nX hw
 obtain⟨domain,ds,rfl,_,hw⟩:=nQ hw
 obtain⟨oc,rfl,_⟩:=nw hw
 obtain⟨N,hN⟩:=Yr Vm.jX OV nc domain oc pC
 exact⟨N,eL (fun l_=>xP Vm.jX OV l_ nc domain oc) (funext fun ot=>nL1 (LB Tryz.prog [] OU N Tryz.f291 uw [true,false,true,false] []) (WM domain oc nc ot) _ N) hN⟩
def re:Sum:= {ps:=[⟨[.sl [.i,.i,.i,.bool]],false⟩],rs:=[⟨[.dV .bool],false⟩],fn:=fun ds=>(true,[.bool (oZ (rR ds 0))])}
def Qo:Ctx:=[(46,nL),(291,uw)]
theorem ZK:bD Tryz.prog Qo:=HZ o_ (HZ OX Jn)
def Qn:List (Nat×lb):=[(2, {bY:=[(0,.mr),(5,.mr),(6,.mr),(7,.mr)],boxes:=[]})]
def Qp:Bool→kx:=(fun r0=>((true,[.bool r0]):kx))
def Yf (nc x:Rows) (ot oA:Int):St:= {n:=42,sl:=[(0,.sl [.i,.i,.i,.bool] nc),(5,.sl [.i,.i,.i,.bool] x),(6,.int .i64 ot),(7,.int .i64 oA)],hp:=[],ok:=true,ls:=[],lm:=[]}
theorem ZJ:DV Tryz.prog 209 re:=by
 refine qw (A:=Qn) ZK Tryz.func209 fun ds (hw:jV ([.sl [.i,.i,.i,.bool]]) ds) _=> ?_
 obtain⟨nc,rfl,pC⟩:=qb hw
 obtain⟨N,hN⟩:=ZI Vm.jX Qp nc pC
 exact⟨N,eL (fun l_=>yv Vm.jX Qp l_ nc) (funext fun x=>funext fun ot=>nL1 (LB Tryz.prog Qo Qn N Tryz.f209 re [true,false,true,false] []) (Yf nc x ot) _ N) hN⟩
def yT:Ctx:=[(33,nL)]
theorem naW:bD Tryz.prog yT:=HZ p_ Jn
def yS:List (Nat×lb):=[(4, {bY:=[(0,.mr),(3,.mr)],boxes:=[]}),(10, {bY:=[(0,.mr),(3,.mr),(4,.mr),(5,.mr)],boxes:=[(256,[])]})]
def tL:Bool→kx:=(fun r0=>((true,[.bool r0]):kx))
def s_ (nc:Rows) (k:Int):St:= {n:=58,sl:=[(0,.sl [.i,.i,.i,.bool] nc),(3,.int .i64 k)],hp:=[],ok:=true,ls:=[],lm:=[]}
def uE (nc:Rows) (k i x ot oA:Int) (x_3:Bool):St:= {n:=58,sl:=[(0,.sl [.i,.i,.i,.bool] nc),(3,.int .i64 k),(4,.ptr 256 0),(5,.int .i64 i)],hp:=[(256,.box 113 [.int .i64 x,.int .i64 ot,.int .i64 oA,.bool x_3])],ok:=true,ls:=[],lm:=[]}
noncomputable def uD (N:Nat) (o0:St→kx):(St→kx)→St→kx:=LB Tryz.prog yT yS N Tryz.f190 re [true,true,false,true,false,false,true,false,false,true,true,true,false] [o0]
noncomputable def uC (N:Nat):(St→kx)→St→kx:=LB Tryz.prog yT yS N Tryz.f190 re [true,true,false,true,false] []
theorem Y6 (N:Nat) (o0:St→kx) (nc:Rows) (k x ot oA:Int) (x_3:Bool) (ih:St→kx) (i:Int):uD N o0 ih (uE nc k i x ot oA x_3)=sZ Vm.jX tL (fun k=>o0 (s_ nc k)) nc k x ot (fun i=>ih (uE nc k i x ot oA x_3)) i:=by kernel_rfl
theorem Y8 (N:Nat) (o0:St→kx) (nc:Rows) (k x ot oA:Int) (x_3:Bool) (m_:Nat):(fun i=>LC (uD N o0) m_ (uE nc k i x ot oA x_3))=pE Vm.jX tL N (fun k=>o0 (s_ nc k)) nc k x ot m_:=by
 induction m_ with
 | zero=>rfl
 | succ m_ ih=>
  funext i
  refine (Y6 N o0 nc k x ot oA x_3 (LC (uD N o0) m_) i).trans ?_
  rw[ih]
  rfl
theorem Y5 (N:Nat) (nc:Rows) (ih:St→kx) (k:Int):uC N ih (s_ nc k)=sY Vm.jX tL (fun k x ot i=>LC (uD N ih) N (uE nc k i x ot (rI (nth nc (Int.toNat k)) 2) (rB (nth nc (Int.toNat k)) 3))) nc (fun k=>ih (s_ nc k)) k:=by kernel_rfl
theorem Y7 (N:Nat) (nc:Rows) (m_:Nat):(fun k=>LC (uC N) m_ (s_ nc k))=rM Vm.jX tL N nc m_:=by
 induction m_ with
 | zero=>rfl
 | succ m_ ih=>
  funext k
  refine (Y5 N nc (LC (uC N) m_) k).trans ?_
  have e1:=funext fun k=>funext fun x=>funext fun ot=>Y8 N (LC (uC N) m_) nc k x ot (rI (nth nc (Int.toNat k)) 2) (rB (nth nc (Int.toNat k)) 3) N
  rw[e1]
  rw[ih]
  rfl
theorem naV:DV Tryz.prog 190 re:=by
 refine qw (A:=yS) naW Tryz.func190 fun ds (hw:jV ([.sl [.i,.i,.i,.bool]]) ds) _=> ?_
 obtain⟨nc,rfl,pC⟩:=qb hw
 obtain⟨N,hN⟩:=naU Vm.jX tL nc pC
 refine⟨N,Eq.trans ?_ (hN.trans (by kernel_rfl))⟩
 unfold yU
 rw[←Y7 N nc N]
 kernel_rfl
def OS:Sum:= {ps:=[⟨[.sl [.str]],false⟩],rs:=[⟨[.own 9 [.str]],false⟩],fn:=fun ds=>(sm (rR ds 0),[.sl (qY (rR ds 0))])}
theorem Yq:DV Tryz.prog 207 OS:=by
 refine nU Jn Tryz.func207 fun ds (hw:jV ([.sl [.str]]) ds) aI=> ?_
 obtain⟨l,rfl,_⟩:=qb hw
 exact⟨0,eT (Yp Vm.jX (fun r0=>((true,[.sl r0]):kx)) l aI)⟩
def tC:Sum:= {ps:=[⟨na.ct,true⟩],rs:=[⟨[.own 9 [.str]],true⟩],fn:=fun ds=>(xc (na.nh ds 0),na.enc (qY (na.nh ds 0)))}
theorem vk:DV Tryz.prog 157 tC:=by
 refine nU (Γ:=[(207,OS)]) (HZ Yq Jn) Tryz.func157 fun ds (hw:jV (na.ct++[]) ds) aI=> ?_
 obtain⟨m,ds,rfl,_,hw⟩:=na.nC (r:=_) hw
 obtain rfl:=nA hw
 exact⟨0,eT (ZS Vm.jX (fun r0=>((true,na.enc r0):kx)) m aI)⟩
def rv:Sum:= {ps:=[⟨na.ct,true⟩],rs:=[⟨[.dV .bool],false⟩],fn:=fun ds=>(true,[.bool (qe (na.nh ds 0))])}
def TC:List (Nat×lb):=[(2, {bY:=[(1,.mr),(6,.mr),(7,.mr),(8,.mr)],boxes:=[(64,[])]})]
def TD:Bool→kx:=(fun r0=>((true,[.bool r0]):kx))
def nbe (x:Rows) (ot oA:Int) (tX:Rows):St:= {n:=20,sl:=[(1,.ptr 64 0),(6,.sl [.str] x),(7,.int .i64 ot),(8,.int .i64 oA)],hp:=[(64,.box 37 [.sl [.str] tX])],ok:=true,ls:=[],lm:=[]}
theorem TF:DV Tryz.prog 208 rv:=by
 refine qw (A:=TC) Jn Tryz.func208 fun ds (hw:jV (na.ct++[]) ds) _=> ?_
 obtain⟨m,ds,rfl,Ye,hw⟩:=na.nC (r:=_) hw
 obtain rfl:=nA hw
 obtain⟨N,hN⟩:=ncS Vm.jX TD m Ye
 exact⟨N,eL (fun l_=>NF Vm.jX TD l_ m) (funext fun x=>funext fun ot=>funext fun tX=>nL1 (LB Tryz.prog [] TC N Tryz.f208 rv [true,false,true,false] []) (fun oA=>nbe x ot oA tX) _ N) hN⟩
def UH:List (Nat×lb):=[(2, {bY:=[(1,.mr),(3,.mr)],boxes:=[(64,[])]})]
def UI:Bool→kx:=(fun r0=>((true,[.bool r0]):kx))
def ncg (k:Int) (tX:Rows):St:= {n:=22,sl:=[(1,.ptr 64 0),(3,.int .i64 k)],hp:=[(64,.box 37 [.sl [.str] tX])],ok:=true,ls:=[],lm:=[]}
theorem UK:DV Tryz.prog 189 rv:=by
 refine qw (A:=UH) Jn Tryz.func189 fun ds (hw:jV (na.ct++[]) ds) _=> ?_
 obtain⟨m,ds,rfl,Ye,hw⟩:=na.nC (r:=_) hw
 obtain rfl:=nA hw
 obtain⟨N,hN⟩:=nd5 Vm.jX UI m Ye
 exact⟨N,eL (fun l_=>NT Vm.jX UI l_ m) (funext fun tX=>nL1 (LB Tryz.prog [] UH N Tryz.f189 rv [true,false,true,false] []) (fun k=>ncg k tX) _ N) hN⟩
def tu:Sum:= {ps:=[⟨[.i],false⟩],rs:=[⟨[.dV .bool],false⟩],fn:=fun ds=>(true,[.bool (tK (rI ds 0))])}
theorem TU:DV Tryz.prog 263 tu:=by
 refine nU Jn Tryz.func263 fun ds (hw:jV ([.i]) ds) _=> ?_
 obtain⟨n,rfl,_⟩:=nw hw
 exact⟨0,eT (TS (fun r0=>((true,[.bool r0]):kx)) n)⟩
theorem Wr:DV Tryz.prog 326 tu:=by
 refine nU Jn Tryz.func326 fun ds (hw:jV ([.i]) ds) _=> ?_
 obtain⟨n,rfl,_⟩:=nw hw
 exact⟨0,eT (TS (fun r0=>((true,[.bool r0]):kx)) n)⟩
def wk:Sum:= {ps:=[⟨[.i],false⟩],rs:=[⟨[.dV .bool],false⟩],fn:=fun ds=>(true,[.bool (S5 (rI ds 0))])}
theorem nbn:DV Tryz.prog 262 wk:=by
 refine nU Jn Tryz.func262 fun ds (hw:jV ([.i]) ds) _=> ?_
 obtain⟨n,rfl,_⟩:=nw hw
 exact⟨0,eT (R0 (fun r0=>((true,[.bool r0]):kx)) n)⟩
theorem nf0:DV Tryz.prog 251 wk:=by
 refine nU Jn Tryz.func251 fun ds (hw:jV ([.i]) ds) _=> ?_
 obtain⟨n,rfl,_⟩:=nw hw
 exact⟨0,eT (R0 (fun r0=>((true,[.bool r0]):kx)) n)⟩
def Rl:Sum:= {ps:=[⟨[.i],false⟩,⟨[.i],false⟩],rs:=[⟨[.dV .i],false⟩],fn:=fun ds=>(yh (rI ds 0) (rI ds 1),[.int (Tf (rI ds 0) (rI ds 1))])}
theorem Xl:DV Tryz.prog 214 Rl:=by
 refine nU Jn Tryz.func214 fun ds (hw:jV ([.i,.i]) ds) aI=> ?_
 obtain⟨x,ds,rfl,_,hw⟩:=nQ hw
 obtain⟨n,rfl,_⟩:=nw hw
 exact⟨0,eT (ngv Vm.jX (fun r0=>((true,[.int r0]):kx)) x n aI)⟩
def tn:Sum:= {ps:=[⟨ny.ct,true⟩],rs:=[⟨[.dV .i],false⟩],fn:=fun ds=>(true,[.int (vG (ny.nh ds 0))])}
theorem TH:DV Tryz.prog 264 tn:=by
 refine nU (Γ:=[(214,Rl),(263,tu)]) (HZ Xl (HZ TU Jn)) Tryz.func264 fun ds (hw:jV (ny.ct++[]) ds) _=> ?_
 obtain⟨r,ds,rfl,h_r,hw⟩:=ny.nC (r:=_) hw
 obtain rfl:=nA hw
 exact⟨0,eT (nc1 Vm.jX (fun r0=>((true,[.int r0]):kx)) r h_r)⟩
theorem UO:DV Tryz.prog 280 tn:=by
 refine nU (Γ:=[(326,tu)]) (HZ Wr Jn) Tryz.func280 fun ds (hw:jV (ny.ct++[]) ds) _=> ?_
 obtain⟨r,ds,rfl,_,hw⟩:=ny.nC (r:=_) hw
 obtain rfl:=nA hw
 exact⟨0,eT (nee (fun r0=>((true,[.int r0]):kx)) r)⟩
def sH:Sum:= {ps:=[⟨ny.ct,true⟩],rs:=[⟨[.dV .bool],false⟩],fn:=fun ds=>(true,[.bool (sO (ny.nh ds 0))])}
theorem Rh:DV Tryz.prog 159 sH:=by
 refine nU (Γ:=[(46,nL),(263,tu),(264,tn)]) (HZ o_ (HZ TU (HZ TH Jn))) Tryz.func159 fun ds (hw:jV (ny.ct++[]) ds) _=> ?_
 obtain⟨r,ds,rfl,_,hw⟩:=ny.nC (r:=_) hw
 obtain rfl:=nA hw
 exact⟨0,eT (Xh (fun r0=>((true,[.bool r0]):kx)) r)⟩
theorem RI:DV Tryz.prog 253 sH:=by
 refine nU (Γ:=[(33,nL),(280,tn),(326,tu)]) (HZ p_ (HZ UO (HZ Wr Jn))) Tryz.func253 fun ds (hw:jV (ny.ct++[]) ds) _=> ?_
 obtain⟨r,ds,rfl,_,hw⟩:=ny.nC (r:=_) hw
 obtain rfl:=nA hw
 exact⟨0,eT (Xh (fun r0=>((true,[.bool r0]):kx)) r)⟩
def Tb:Sum:= {ps:=[⟨nO.ct,true⟩],rs:=[⟨[.dV .bool],false⟩],fn:=fun ds=>(true,[.bool (due (nO.nh ds 0))])}
theorem niD:DV Tryz.prog 258 Tb:=by
 refine nU Jn Tryz.func258 fun ds (hw:jV (nO.ct++[]) ds) _=> ?_
 obtain⟨v,ds,rfl,_,hw⟩:=nO.nC (r:=_) hw
 obtain rfl:=nA hw
 exact⟨0,eT (ne3 (fun r0=>((true,[.bool r0]):kx)) v)⟩
theorem nhb:DV Tryz.prog 248 Tb:=by
 refine nU Jn Tryz.func248 fun ds (hw:jV (nO.ct++[]) ds) _=> ?_
 obtain⟨v,ds,rfl,_,hw⟩:=nO.nC (r:=_) hw
 obtain rfl:=nA hw
 exact⟨0,eT (ne3 (fun r0=>((true,[.bool r0]):kx)) v)⟩
def xm:Sum:= {ps:=[⟨nO.ct,true⟩],rs:=[⟨[.dV .bool],false⟩],fn:=fun ds=>(true,[.bool (neE (nO.nh ds 0))])}
theorem nc_:DV Tryz.prog 147 xm:=by
 refine nU (Γ:=[(46,nL),(258,Tb)]) (HZ o_ (HZ niD Jn)) Tryz.func147 fun ds (hw:jV (nO.ct++[]) ds) _=> ?_
 obtain⟨v,ds,rfl,_,hw⟩:=nO.nC (r:=_) hw
 obtain rfl:=nA hw
 exact⟨0,eT (TN (fun r0=>((true,[.bool r0]):kx)) v)⟩
theorem nel:DV Tryz.prog 136 xm:=by
 refine nU (Γ:=[(33,nL),(248,Tb)]) (HZ p_ (HZ nhb Jn)) Tryz.func136 fun ds (hw:jV (nO.ct++[]) ds) _=> ?_
 obtain⟨v,ds,rfl,_,hw⟩:=nO.nC (r:=_) hw
 obtain rfl:=nA hw
 exact⟨0,eT (TN (fun r0=>((true,[.bool r0]):kx)) v)⟩
def zT:Sum:= {ps:=[⟨oy.ct,true⟩],rs:=[⟨[.dV .bool],false⟩],fn:=fun ds=>(true,[.bool (zf (oy.nh ds 0))])}
theorem ngs:DV Tryz.prog 259 zT:=by
 refine nU (Γ:=[(46,nL)]) (HZ o_ Jn) Tryz.func259 fun ds (hw:jV (oy.ct++[]) ds) _=> ?_
 obtain⟨r,ds,rfl,_,hw⟩:=oy.nC (r:=_) hw
 obtain rfl:=nA hw
 exact⟨0,eT (Xi (fun r0=>((true,[.bool r0]):kx)) r)⟩
theorem ng9:DV Tryz.prog 249 zT:=by
 refine nU (Γ:=[(33,nL)]) (HZ p_ Jn) Tryz.func249 fun ds (hw:jV (oy.ct++[]) ds) _=> ?_
 obtain⟨r,ds,rfl,_,hw⟩:=oy.nC (r:=_) hw
 obtain rfl:=nA hw
 exact⟨0,eT (Xi (fun r0=>((true,[.bool r0]):kx)) r)⟩
def ud:Sum:= {ps:=[⟨[.sl [.i,.i,.i,.i,.i,.i,.i,.i,.i]],false⟩],rs:=[⟨[.dV .bool],false⟩],fn:=fun ds=>(true,[.bool (On (rR ds 0))])}
def Vi:Ctx:=[(259,zT)]
theorem neY:bD Tryz.prog Vi:=HZ ngs Jn
def Vh:List (Nat×lb):=[(2, {bY:=[(0,.mr),(5,.mr),(6,.mr),(7,.mr)],boxes:=[]})]
def Vj:Bool→kx:=(fun r0=>((true,[.bool r0]):kx))
def nc2 (nc x:Rows) (ot oA:Int):St:= {n:=18,sl:=[(0,.sl [.i,.i,.i,.i,.i,.i,.i,.i,.i] nc),(5,.sl [.i,.i,.i,.i,.i,.i,.i,.i,.i] x),(6,.int .i64 ot),(7,.int .i64 oA)],hp:=[],ok:=true,ls:=[],lm:=[]}
theorem neX:DV Tryz.prog 148 ud:=by
 refine qw (A:=Vh) neY Tryz.func148 fun ds (hw:jV ([.sl [.i,.i,.i,.i,.i,.i,.i,.i,.i]]) ds) _=> ?_
 obtain⟨nc,rfl,pC⟩:=qb hw
 obtain⟨N,hN⟩:=neW Vm.jX Vj nc pC
 exact⟨N,eL (fun l_=>OL Vm.jX Vj l_ nc) (funext fun x=>funext fun ot=>nL1 (LB Tryz.prog Vi Vh N Tryz.f148 ud [true,false,true,false] []) (nc2 nc x ot) _ N) hN⟩
def V7:Ctx:=[(249,zT)]
theorem nfV:bD Tryz.prog V7:=HZ ng9 Jn
def V6:List (Nat×lb):=[(2, {bY:=[(0,.mr),(3,.mr)],boxes:=[]})]
def V8:Bool→kx:=(fun r0=>((true,[.bool r0]):kx))
def nef (nc:Rows) (k:Int):St:= {n:=19,sl:=[(0,.sl [.i,.i,.i,.i,.i,.i,.i,.i,.i] nc),(3,.int .i64 k)],hp:=[],ok:=true,ls:=[],lm:=[]}
theorem nfU:DV Tryz.prog 137 ud:=by
 refine qw (A:=V6) nfV Tryz.func137 fun ds (hw:jV ([.sl [.i,.i,.i,.i,.i,.i,.i,.i,.i]]) ds) _=> ?_
 obtain⟨nc,rfl,pC⟩:=qb hw
 obtain⟨N,hN⟩:=nfT Vm.jX V8 nc pC
 exact⟨N,eL (fun l_=>PN Vm.jX V8 l_ nc) (nL1 (LB Tryz.prog V7 V6 N Tryz.f137 ud [true,false,true,false] []) (nef nc) _ N) hN⟩
def uR:Sum:= {ps:=[⟨[.sl [.i]],false⟩],rs:=[⟨[.own 3 [.i]],false⟩],fn:=fun ds=>(sm (rR ds 0),[.sl (qY (rR ds 0))])}
theorem xn:DV Tryz.prog 153 uR:=by
 refine nU Jn Tryz.func153 fun ds (hw:jV ([.sl [.i]]) ds) aI=> ?_
 obtain⟨l,rfl,_⟩:=qb hw
 exact⟨0,eT (nda Vm.jX (fun r0=>((true,[.sl r0]):kx)) l aI)⟩
def xo:Sum:= {ps:=[⟨nt.ct,true⟩],rs:=[⟨[.dV .i,.dV .i,.dV .i,.own 3 [.i]],true⟩],fn:=fun ds=>(VX (nt.nh ds 0),nt.enc (qY (nt.nh ds 0)))}
theorem ndc:DV Tryz.prog 158 xo:=by
 refine nU (Γ:=[(153,uR)]) (HZ xn Jn) Tryz.func158 fun ds (hw:jV (nt.ct++[]) ds) aI=> ?_
 obtain⟨p,ds,rfl,_,hw⟩:=nt.nC (r:=_) hw
 obtain rfl:=nA hw
 exact⟨0,eT (ndb Vm.jX (fun r0=>((true,nt.enc r0):kx)) p aI)⟩
theorem ngb:DV Tryz.prog 188 xo:=by
 refine nU Jn Tryz.func188 fun ds (hw:jV (nt.ct++[]) ds) aI=> ?_
 obtain⟨p,ds,rfl,_,hw⟩:=nt.nC (r:=_) hw
 obtain rfl:=nA hw
 exact⟨0,eT (nga Vm.jX (fun r0=>((true,nt.enc r0):kx)) p aI)⟩
def qZ:Sum:= {ps:=[⟨nt.ct,true⟩],rs:=[⟨[.dV .bool],false⟩],fn:=fun ds=>(true,[.bool (tP (nt.nh ds 0))])}
def Xe:Ctx:=[(46,nL)]
theorem ngr:bD Tryz.prog Xe:=HZ o_ Jn
def Xd:List (Nat×lb):=[(5, {bY:=[(1,.mr),(3,.mr),(26,.mr),(27,.mr),(28,.mr)],boxes:=[(64,[])]})]
def Xf:Bool→kx:=(fun r0=>((true,[.bool r0]):kx))
def neT (x:Rows) (ot oA YY zX vF:Int) (Nq seen:Rows):St:= {n:=48,sl:=[(1,.ptr 64 0),(3,.own 640192),(26,.sl [.i] x),(27,.int .i64 ot),(28,.int .i64 oA)],hp:=[(64,.box 42 [.int .i64 YY,.int .i64 zX,.int .i64 vF,.sl [.i] Nq]),(640192,.row 4 [.bool] seen false true)],ok:=true,ls:=[],lm:=[]}
theorem Rf:DV Tryz.prog 160 qZ:=by
 refine qw (A:=Xd) ngr Tryz.func160 fun ds (hw:jV (nt.ct++[]) ds) _=> ?_
 obtain⟨p,ds,rfl,h_p,hw⟩:=nt.nC (r:=_) hw
 obtain rfl:=nA hw
 obtain⟨N,hN⟩:=ngq Vm.jX Xf p h_p
 exact⟨N,eL (fun l_=>Rg Vm.jX Xf l_ p) (funext fun x=>funext fun ot=>funext fun vF=>nL2 (LB Tryz.prog Xe Xd N Tryz.f160 qZ [true,true,true,false,true,false] []) (fun oA seen=>neT x ot oA p.oB p.nK vF p.nY seen) _ N) hN⟩
def X1:Ctx:=[(33,nL)]
theorem ng8:bD Tryz.prog X1:=HZ p_ Jn
def X0:List (Nat×lb):=[(5, {bY:=[(1,.mr),(3,.mr),(4,.mr)],boxes:=[(64,[])]})]
def X2:Bool→kx:=(fun r0=>((true,[.bool r0]):kx))
def nfQ (k YY zX vF:Int) (Nq seen:Rows):St:= {n:=58,sl:=[(1,.ptr 64 0),(3,.own 640192),(4,.int .i64 k)],hp:=[(64,.box 42 [.int .i64 YY,.int .i64 zX,.int .i64 vF,.sl [.i] Nq]),(640192,.row 4 [.bool] seen false true)],ok:=true,ls:=[],lm:=[]}
theorem RG:DV Tryz.prog 193 qZ:=by
 refine qw (A:=X0) ng8 Tryz.func193 fun ds (hw:jV (nt.ct++[]) ds) _=> ?_
 obtain⟨p,ds,rfl,h_p,hw⟩:=nt.nC (r:=_) hw
 obtain rfl:=nA hw
 obtain⟨N,hN⟩:=ng7 Vm.jX X2 p h_p
 exact⟨N,eL (fun l_=>RH Vm.jX X2 l_ p) (funext fun vF=>funext fun Nq=>nL2 (LB Tryz.prog X1 X0 N Tryz.f193 qZ [true,true,true,false,true,false] []) (fun k seen=>nfQ k p.oB p.nK vF Nq seen) _ N) hN⟩
def QR:Sum:= {ps:=[⟨na.ct,true⟩,⟨[.i],false⟩],rs:=[⟨[.dV .i],false⟩],fn:=fun ds=>(xb (na.nh ds 0) (rI ds 1),[.int (uB (na.nh ds 0) (rI ds 1)).1]++[.sl (uB (na.nh ds 0) (rI ds 1)).2]),ms:=[some (.rows [.flat 9]),none]}
def nay:Ctx:=[(81,uz)]
theorem naB:bD Tryz.prog nay:=HZ Pt Jn
theorem naA:B8 Tryz.prog 73 QR:=by
 refine ya (A:=[]) naB Tryz.func73 fun ds (hw:jV (na.ct++[.i]) ds) aI=> ?_
 obtain⟨a,ds,rfl,_,hw⟩:=na.nC (r:=_) hw
 obtain⟨k,rfl,_⟩:=nw hw
 exact⟨0,eT (naz Vm.jX (fun r0 r1=>((true,[.int r0]++[.sl r1]):kx)) a k aI)⟩
def QO:Sum:= {ps:=[⟨na.ct,true⟩,⟨[.i],false⟩],rs:=[⟨[.dV .i],false⟩],fn:=fun ds=>(w5 (na.nh ds 0) (rI ds 1),[.int (xM (na.nh ds 0) (rI ds 1))])}
theorem nal:DV Tryz.prog 82 QO:=by
 refine nU (Γ:=[(92,uy)]) (HZ Pf Jn) Tryz.func82 fun ds (hw:jV (na.ct++[.i]) ds) aI=> ?_
 obtain⟨a,ds,rfl,_,hw⟩:=na.nC (r:=_) hw
 obtain⟨k,rfl,_⟩:=nw hw
 exact⟨0,eT (nak Vm.jX (fun r0=>((true,[.int r0]):kx)) a k aI)⟩
def Ui:Sum:= {ps:=[⟨nt.ct,true⟩,⟨[.i],false⟩],rs:=[⟨[.dV .i],false⟩],fn:=fun ds=>(Nl (nt.nh ds 0) (rI ds 4),[.int (yQ (nt.nh ds 0) (rI ds 4)).1]++[.sl (yQ (nt.nh ds 0) (rI ds 4)).2]),ms:=[some (.rows [.flat 3]),none]}
def ndD:Ctx:=[(69,rA)]
theorem ndG:bD Tryz.prog ndD:=HZ tw Jn
theorem ndF:B8 Tryz.prog 174 Ui:=by
 refine ya (A:=[]) ndG Tryz.func174 fun ds (hw:jV (nt.ct++[.i]) ds) aI=> ?_
 obtain⟨a,ds,rfl,_,hw⟩:=nt.nC (r:=_) hw
 obtain⟨k,rfl,_⟩:=nw hw
 exact⟨0,eT (ndE Vm.jX (fun r0 r1=>((true,[.int r0]++[.sl r1]):kx)) a k aI)⟩
def Ud:Sum:= {ps:=[⟨nt.ct,true⟩,⟨[.i],false⟩],rs:=[⟨[.dV .i],false⟩],fn:=fun ds=>(z_ (nt.nh ds 0) (rI ds 4),[.int (OD (nt.nh ds 0) (rI ds 4))])}
theorem ndx:DV Tryz.prog 177 Ud:=by
 refine nU (Γ:=[(93,rz)]) (HZ tv Jn) Tryz.func177 fun ds (hw:jV (nt.ct++[.i]) ds) aI=> ?_
 obtain⟨a,ds,rfl,_,hw⟩:=nt.nC (r:=_) hw
 obtain⟨k,rfl,_⟩:=nw hw
 exact⟨0,eT (ndw Vm.jX (fun r0=>((true,[.int r0]):kx)) a k aI)⟩
def yO:Sum:= {ps:=[⟨nm.ct,true⟩,⟨[.i],false⟩],rs:=[⟨[.dV .i],false⟩],fn:=fun ds=>(qI (nm.nh ds 0) (rI ds 3),[.int (rk (nm.nh ds 0) (rI ds 3)).1]++[.sl (rk (nm.nh ds 0) (rI ds 3)).2]),ms:=[some (.rows [.flat 3]),none]}
def nav:Ctx:=[(69,rA)]
theorem nax:bD Tryz.prog nav:=HZ tw Jn
theorem QQ:B8 Tryz.prog 16 yO:=by
 refine ya (A:=[]) nax Tryz.func16 fun ds (hw:jV (nm.ct++[.i]) ds) aI=> ?_
 obtain⟨a,ds,rfl,_,hw⟩:=nm.nC (r:=_) hw
 obtain⟨k,rfl,_⟩:=nw hw
 exact⟨0,eT (naw Vm.jX (fun r0 r1=>((true,[.int r0]++[.sl r1]):kx)) a k aI)⟩
def QN:Sum:= {ps:=[⟨nm.ct,true⟩,⟨[.i],false⟩],rs:=[⟨[.dV .i],false⟩],fn:=fun ds=>(w3 (nm.nh ds 0) (rI ds 3),[.int (OC (nm.nh ds 0) (rI ds 3))])}
theorem naj:DV Tryz.prog 89 QN:=by
 refine nU (Γ:=[(93,rz)]) (HZ tv Jn) Tryz.func89 fun ds (hw:jV (nm.ct++[.i]) ds) aI=> ?_
 obtain⟨a,ds,rfl,_,hw⟩:=nm.nC (r:=_) hw
 obtain⟨k,rfl,_⟩:=nw hw
 exact⟨0,eT (nai Vm.jX (fun r0=>((true,[.int r0]):kx)) a k aI)⟩
def Nk:Sum:= {ps:=[⟨ni.ct,true⟩,⟨[.i],false⟩],rs:=[⟨[.dV .i],false⟩],fn:=fun ds=>(qt (ni.nh ds 0) (rI ds 1),[.int (qJ (ni.nh ds 0) (rI ds 1)).1]++[.sl (qJ (ni.nh ds 0) (rI ds 1)).2]),ms:=[some (.rows [.flat 201]),none]}
def VJ:Ctx:=[(173,zF)]
theorem VM:bD Tryz.prog VJ:=HZ nb2 Jn
theorem VL:B8 Tryz.prog 71 Nk:=by
 refine ya (A:=[]) VM Tryz.func71 fun ds (hw:jV (ni.ct++[.i]) ds) aI=> ?_
 obtain⟨a,ds,rfl,_,hw⟩:=ni.nC (r:=_) hw
 obtain⟨k,rfl,_⟩:=nw hw
 exact⟨0,eT (VK Vm.jX (fun r0 r1=>((true,[.int r0]++[.sl r1]):kx)) a k aI)⟩
def Nj:Sum:= {ps:=[⟨ni.ct,true⟩,⟨[.i],false⟩],rs:=[⟨[.dV .i],false⟩],fn:=fun ds=>(uc (ni.nh ds 0) (rI ds 1),[.int (w4 (ni.nh ds 0) (rI ds 1))])}
theorem VG:DV Tryz.prog 180 Nj:=by
 refine nU (Γ:=[(276,zx)]) (HZ nbP Jn) Tryz.func180 fun ds (hw:jV (ni.ct++[.i]) ds) aI=> ?_
 obtain⟨a,ds,rfl,_,hw⟩:=ni.nC (r:=_) hw
 obtain⟨k,rfl,_⟩:=nw hw
 exact⟨0,eT (VF Vm.jX (fun r0=>((true,[.int r0]):kx)) a k aI)⟩
def QS:Sum:= {ps:=[⟨nz.ct,true⟩,⟨[.i],false⟩],rs:=[⟨[.dV .i],false⟩],fn:=fun ds=>(rO (nz.nh ds 0) (rI ds 2),[.int (sW (nz.nh ds 0) (rI ds 2)).1]++[.sl (sW (nz.nh ds 0) (rI ds 2)).2]),ms:=[some (.rows [.flat 3]),none]}
def naG:Ctx:=[(69,rA)]
theorem naJ:bD Tryz.prog naG:=HZ tw Jn
theorem naI:B8 Tryz.prog 72 QS:=by
 refine ya (A:=[]) naJ Tryz.func72 fun ds (hw:jV (nz.ct++[.i]) ds) aI=> ?_
 obtain⟨a,ds,rfl,_,hw⟩:=nz.nC (r:=_) hw
 obtain⟨k,rfl,_⟩:=nw hw
 exact⟨0,eT (naH Vm.jX (fun r0 r1=>((true,[.int r0]++[.sl r1]):kx)) a k aI)⟩
def QP:Sum:= {ps:=[⟨nz.ct,true⟩,⟨[.i],false⟩],rs:=[⟨[.dV .i],false⟩],fn:=fun ds=>(w6 (nz.nh ds 0) (rI ds 2),[.int (OE (nz.nh ds 0) (rI ds 2))])}
theorem nas:DV Tryz.prog 181 QP:=by
 refine nU (Γ:=[(93,rz)]) (HZ tv Jn) Tryz.func181 fun ds (hw:jV (nz.ct++[.i]) ds) aI=> ?_
 obtain⟨a,ds,rfl,_,hw⟩:=nz.nC (r:=_) hw
 obtain⟨k,rfl,_⟩:=nw hw
 exact⟨0,eT (nar Vm.jX (fun r0=>((true,[.int r0]):kx)) a k aI)⟩
def Pv:Sum:= {ps:=[⟨nH.ct,true⟩,⟨[.i],false⟩],rs:=[⟨[.dV .i],false⟩],fn:=fun ds=>(vP (nH.nh ds 0) (rI ds 10),[.int (tJ (nH.nh ds 0) (rI ds 10)).1]++[.sl (tJ (nH.nh ds 0) (rI ds 10)).2.1]++[.sl (tJ (nH.nh ds 0) (rI ds 10)).2.2]),ms:=[some (.rows [.flat 3,.deep 304 [3]]),none]}
def YM:Ctx:=[(174,Ui),(175,zD)]
theorem YP:bD Tryz.prog YM:=HZ ndF (HZ nbZ Jn)
theorem YO:B8 Tryz.prog 75 Pv:=by
 refine ya (A:=[]) YP Tryz.func75 fun ds (hw:jV (nH.ct++[.i]) ds) aI=> ?_
 obtain⟨a,ds,rfl,_,hw⟩:=nH.nC (r:=_) hw
 obtain⟨k,rfl,_⟩:=nw hw
 exact⟨0,eT (YN Vm.jX (fun r0 r1 r2=>((true,[.int r0]++[.sl r1]++[.sl r2]):kx)) a k aI)⟩
def Pg:Sum:= {ps:=[⟨nH.ct,true⟩,⟨[.i],false⟩],rs:=[⟨[.dV .i],false⟩],fn:=fun ds=>(vJ (nH.nh ds 0) (rI ds 10),[.int (Nb (nH.nh ds 0) (rI ds 10))])}
theorem YE:DV Tryz.prog 84 Pg:=by
 refine nU (Γ:=[(177,Ud),(178,zu)]) (HZ ndx (HZ nbM Jn)) Tryz.func84 fun ds (hw:jV (nH.ct++[.i]) ds) aI=> ?_
 obtain⟨a,ds,rfl,_,hw⟩:=nH.nC (r:=_) hw
 obtain⟨k,rfl,_⟩:=nw hw
 exact⟨0,eT (YD Vm.jX (fun r0=>((true,[.int r0]):kx)) a k aI)⟩
def wT:Sum:= {ps:=[⟨nj.ct,true⟩,⟨[.i],false⟩],rs:=[⟨[.dV .i],false⟩],fn:=fun ds=>(pJ (nj.nh ds 0) (rI ds 4),[.int (pg (nj.nh ds 0) (rI ds 4)).1]++[.sl (pg (nj.nh ds 0) (rI ds 4)).2.1]++[.sl (pg (nj.nh ds 0) (rI ds 4)).2.2.1]++[.sl (pg (nj.nh ds 0) (rI ds 4)).2.2.2]),ms:=[some (.rows [.flat 197,.flat 201,.flat 3]),none]}
def W3:Ctx:=[(70,zC),(71,Nk),(72,QS)]
theorem W5:bD Tryz.prog W3:=HZ nbX (HZ VL (HZ naI Jn))
theorem Ok:B8 Tryz.prog 17 wT:=by
 refine ya (A:=[]) W5 Tryz.func17 fun ds (hw:jV (nj.ct++[.i]) ds) aI=> ?_
 obtain⟨a,ds,rfl,_,hw⟩:=nj.nC (r:=_) hw
 obtain⟨k,rfl,_⟩:=nw hw
 exact⟨0,eT (W4 Vm.jX (fun r0 r1 r2 r3=>((true,[.int r0]++[.sl r1]++[.sl r2]++[.sl r3]):kx)) a k aI)⟩
def Ob:Sum:= {ps:=[⟨nj.ct,true⟩,⟨[.i],false⟩],rs:=[⟨[.dV .i],false⟩],fn:=fun ds=>(uI (nj.nh ds 0) (rI ds 4),[.int (yu (nj.nh ds 0) (rI ds 4))])}
theorem WU:DV Tryz.prog 90 Ob:=by
 refine nU (Γ:=[(179,zt),(180,Nj),(181,QP)]) (HZ nbK (HZ VG (HZ nas Jn))) Tryz.func90 fun ds (hw:jV (nj.ct++[.i]) ds) aI=> ?_
 obtain⟨a,ds,rfl,_,hw⟩:=nj.nC (r:=_) hw
 obtain⟨k,rfl,_⟩:=nw hw
 exact⟨0,eT (WT Vm.jX (fun r0=>((true,[.int r0]):kx)) a k aI)⟩
def Ue:Sum:= {ps:=[⟨nB.ct,true⟩,⟨[.i],false⟩],rs:=[⟨[.dV .i],false⟩],fn:=fun ds=>(yd (nB.nh ds 0) (rI ds 33),[.int (oF (nB.nh ds 0) (rI ds 33)).1]++[.sl (oF (nB.nh ds 0) (rI ds 33)).2.1]++[.sl (oF (nB.nh ds 0) (rI ds 33)).2.2.1]++[.sl (oF (nB.nh ds 0) (rI ds 33)).2.2.2.1]++[.sl (oF (nB.nh ds 0) (rI ds 33)).2.2.2.2.1]++[.sl (oF (nB.nh ds 0) (rI ds 33)).2.2.2.2.2.1]++[.sl (oF (nB.nh ds 0) (rI ds 33)).2.2.2.2.2.2.1]++[.sl (oF (nB.nh ds 0) (rI ds 33)).2.2.2.2.2.2.2.1]++[.sl (oF (nB.nh ds 0) (rI ds 33)).2.2.2.2.2.2.2.2.1]++[.sl (oF (nB.nh ds 0) (rI ds 33)).2.2.2.2.2.2.2.2.2.1]++[.sl (oF (nB.nh ds 0) (rI ds 33)).2.2.2.2.2.2.2.2.2.2.1]++[.sl (oF (nB.nh ds 0) (rI ds 33)).2.2.2.2.2.2.2.2.2.2.2.1]++[.sl (oF (nB.nh ds 0) (rI ds 33)).2.2.2.2.2.2.2.2.2.2.2.2.1]++[.sl (oF (nB.nh ds 0) (rI ds 33)).2.2.2.2.2.2.2.2.2.2.2.2.2.1]++[.sl (oF (nB.nh ds 0) (rI ds 33)).2.2.2.2.2.2.2.2.2.2.2.2.2.2.1]++[.sl (oF (nB.nh ds 0) (rI ds 33)).2.2.2.2.2.2.2.2.2.2.2.2.2.2.2.1]++[.sl (oF (nB.nh ds 0) (rI ds 33)).2.2.2.2.2.2.2.2.2.2.2.2.2.2.2.2]),ms:=[some (.rows [.flat 9,.flat 113,.flat 3,.deep 304 [3],.flat 123,.deep 42 [3],.flat 102,.flat 4,.flat 3,.flat 197,.flat 201,.flat 3,.flat 232,.flat 9,.flat 3,.flat 3]),none]}
def ndy:Ctx:=[(16,yO),(17,wT),(69,rA),(73,QR),(74,wR),(75,Pv),(76,wS),(77,zA),(78,xW),(79,zy),(80,xU),(81,uz)]
theorem ndB:bD Tryz.prog ndy:=HZ QQ (HZ Ok (HZ tw (HZ naA (HZ WZ (HZ YO (HZ W1 (HZ nbU (HZ YR (HZ nbR (HZ YI (HZ Pt Jn)))))))))))
theorem ndA:B8 Tryz.prog 18 Ue:=by
 refine ya (A:=[]) ndB Tryz.func18 fun ds (hw:jV (nB.ct++[.i]) ds) aI=> ?_
 obtain⟨a,ds,rfl,_,hw⟩:=nB.nC (r:=_) hw
 obtain⟨k,rfl,_⟩:=nw hw
 exact⟨0,eT (ndz Vm.jX (fun r0 r1 r2 r3 r4 r5 r6 r7 r8 r9 r10 r11 r12 r13 r14 r15 r16=>((true,[.int r0]++[.sl r1]++[.sl r2]++[.sl r3]++[.sl r4]++[.sl r5]++[.sl r6]++[.sl r7]++[.sl r8]++[.sl r9]++[.sl r10]++[.sl r11]++[.sl r12]++[.sl r13]++[.sl r14]++[.sl r15]++[.sl r16]):kx)) a k aI)⟩
def T_:Sum:= {ps:=[⟨nB.ct,true⟩,⟨[.i],false⟩],rs:=[⟨[.dV .i],false⟩],fn:=fun ds=>(yb (nB.nh ds 0) (rI ds 33),[.int (RN (nB.nh ds 0) (rI ds 33))])}
theorem ndu:DV Tryz.prog 19 T_:=by
 refine nU (Γ:=[(82,QO),(83,wP),(84,Pg),(85,wQ),(86,zr),(87,xT),(88,zp),(89,QN),(90,Ob),(91,xR),(92,uy),(93,rz)]) (HZ nal (HZ WO (HZ YE (HZ WR (HZ nbH (HZ YG (HZ nbE (HZ naj (HZ WU (HZ Yz (HZ Pf (HZ tv Jn)))))))))))) Tryz.func19 fun ds (hw:jV (nB.ct++[.i]) ds) aI=> ?_
 obtain⟨a,ds,rfl,_,hw⟩:=nB.nC (r:=_) hw
 obtain⟨k,rfl,_⟩:=nw hw
 exact⟨0,eT (ndt Vm.jX (fun r0=>((true,[.int r0]):kx)) a k aI)⟩
def yZ:Sum:= {ps:=[⟨[.i],false⟩,⟨[.int .u8],false⟩],rs:=[⟨[.dV .str],false⟩],fn:=fun ds=>(xQ (rI ds 0) (rI ds 1),[.str (ux (rI ds 0) (rI ds 1))])}
def Wd:List (Nat×lb):=[(3, {bY:=[(0,.mr),(1,.mr),(5,.mr),(6,.mr)],boxes:=[]})]
def We:Bytes→kx:=(fun r0=>((true,[.str r0]):kx))
def nem (n x i:Int) (su:Rows):St:= {n:=20,sl:=[(0,.int .i64 n),(1,.int .u8 x),(5,.own 640320),(6,.int .i64 i)],hp:=[(640320,.row 5 [.int .u8] su false true)],ok:=true,ls:=[],lm:=[]}
theorem Wg:DV Tryz.prog 140 yZ:=by
 refine qw (A:=Wd) Jn Tryz.func140 fun ds (hw:jV ([.i,.int .u8]) ds) aI=> ?_
 obtain⟨n,ds,rfl,_,hw⟩:=nQ hw
 obtain⟨x,rfl,h_x⟩:=nw hw
 obtain⟨N,hN⟩:=nfZ Vm.jX We n x h_x aI
 exact⟨N,eL (fun l_=>PX Vm.jX We l_ n x) (nL2 (LB Tryz.prog [] Wd N Tryz.f140 yZ [true,true,false,true,false] []) (nem n x) _ N) hN⟩
def Rm:Sum:= {ps:=[⟨[.int .u8],false⟩,⟨[.i],false⟩],rs:=[⟨[.dV .str],false⟩],fn:=fun ds=>(WG (rI ds 0) (rI ds 1),[.str (WE (rI ds 0) (rI ds 1))])}
def Xn:List (Nat×lb):=[(3, {bY:=[(0,.mr),(5,.mr),(10,.mr),(11,.mr)],boxes:=[]})]
def Xo:Bytes→kx:=(fun r0=>((true,[.str r0]):kx))
def ne9 (b x ot:Int) (su:Rows):St:= {n:=21,sl:=[(0,.int .u8 b),(5,.own 640320),(10,.int .i64 x),(11,.int .i64 ot)],hp:=[(640320,.row 5 [.int .u8] su false true)],ok:=true,ls:=[],lm:=[]}
theorem ngx:DV Tryz.prog 151 Rm:=by
 refine qw (A:=Xn) Jn Tryz.func151 fun ds (hw:jV ([.int .u8,.i]) ds) aI=> ?_
 obtain⟨b,ds,rfl,h_b,hw⟩:=nQ hw
 obtain⟨n,rfl,_⟩:=nw hw
 obtain⟨N,hN⟩:=ngw Vm.jX Xo b n h_b aI
 exact⟨N,eL (fun l_=>Ro Vm.jX Xo l_ b n) (funext fun x=>nL2 (LB Tryz.prog [] Xn N Tryz.f151 Rm [true,true,false,true,false] []) (ne9 b x) _ N) hN⟩
def zV:Sum:= {ps:=[⟨[.i],false⟩],rs:=[⟨[.dV .str],false⟩],fn:=fun ds=>(true,[.str (Rd (rI ds 0))])}
theorem ngu:DV Tryz.prog 267 zV:=by
 refine nU (Γ:=[(46,nL)]) (HZ o_ Jn) Tryz.func267 fun ds (hw:jV ([.i]) ds) _=> ?_
 obtain⟨v,rfl,_⟩:=nw hw
 exact⟨0,eT (Xk (fun r0=>((true,[.str r0]):kx)) v)⟩
theorem nha:DV Tryz.prog 328 zV:=by
 refine nU (Γ:=[(33,nL)]) (HZ p_ Jn) Tryz.func328 fun ds (hw:jV ([.i]) ds) _=> ?_
 obtain⟨v,rfl,_⟩:=nw hw
 exact⟨0,eT (Xk (fun r0=>((true,[.str r0]):kx)) v)⟩
def zU:Sum:= {ps:=[⟨[.i],false⟩],rs:=[⟨[.dV .str],false⟩],fn:=fun ds=>(true,[.str (zg (rI ds 0))])}
theorem ngt:DV Tryz.prog 266 zU:=by
 refine nU (Γ:=[(46,nL)]) (HZ o_ Jn) Tryz.func266 fun ds (hw:jV ([.i]) ds) _=> ?_
 obtain⟨v,rfl,_⟩:=nw hw
 exact⟨0,eT (Xj (fun r0=>((true,[.str r0]):kx)) v)⟩
theorem ng_:DV Tryz.prog 307 zU:=by
 refine nU (Γ:=[(33,nL)]) (HZ p_ Jn) Tryz.func307 fun ds (hw:jV ([.i]) ds) _=> ?_
 obtain⟨v,rfl,_⟩:=nw hw
 exact⟨0,eT (Xj (fun r0=>((true,[.str r0]):kx)) v)⟩
def S2:Sum:= {ps:=[⟨[.str],false⟩,⟨[.i],false⟩,⟨[.i],false⟩],rs:=[⟨[.dV .bool],false⟩],fn:=fun ds=>(true,[.bool (yc (rS ds 0) (rI ds 1) (rI ds 2))])}
theorem ncn:DV Tryz.prog 372 S2:=by
 refine nU Jn Tryz.func372 fun ds (hw:jV ([.str,.i,.i]) ds) _=> ?_
 obtain⟨s,ds,rfl,_,hw⟩:=SQ hw
 obtain⟨at_,ds,rfl,_,hw⟩:=nQ hw
 obtain⟨n,rfl,_⟩:=nw hw
 exact⟨0,eT (ncm (fun r0=>((true,[.bool r0]):kx)) s at_ n)⟩
def UL:Sum:= {ps:=[⟨[.str],false⟩,⟨[.i],false⟩,⟨[.str],false⟩],rs:=[⟨[.dV .str],false⟩],fn:=fun ds=>(x9 (rS ds 0) (rI ds 1) (rS ds 2),[.str (RL (rS ds 0) (rI ds 1) (rS ds 2))])}
theorem ned:DV Tryz.prog 368 UL:=by
 refine nU (Γ:=[(372,S2)]) (HZ ncn Jn) Tryz.func368 fun ds (hw:jV ([.str,.i,.str]) ds) aI=> ?_
 obtain⟨s,ds,rfl,_,hw⟩:=SQ hw
 obtain⟨at_,ds,rfl,_,hw⟩:=nQ hw
 obtain⟨part,rfl,_⟩:=vR hw
 exact⟨0,eT (nec Vm.jX (fun r0=>((true,[.str r0]):kx)) s at_ part aI)⟩
def ZZ:Sum:= {ps:=[⟨[.sl [.i,.i,.i,.bool]],false⟩,⟨[.i],false⟩,⟨[.i],false⟩,⟨[.bool],false⟩],rs:=[⟨[.dV .i],false⟩],fn:=fun ds=>(true,[.int (place (rR ds 0) (rI ds 1) (rI ds 2) (rB ds 3))])}
theorem nhH:DV Tryz.prog 380 ZZ:=by
 refine nU (Γ:=[(291,uw)]) (HZ OX Jn) Tryz.func380 fun ds (hw:jV ([.sl [.i,.i,.i,.bool],.i,.i,.bool]) ds) _=> ?_
 obtain⟨nc,ds,rfl,pC,hw⟩:=nX hw
 obtain⟨domain,ds,rfl,_,hw⟩:=nQ hw
 obtain⟨address,ds,rfl,_,hw⟩:=nQ hw
 obtain⟨write,rfl,_⟩:=Np hw
 exact⟨0,eT (nhG Vm.jX (fun r0=>((true,[.int r0]):kx)) nc domain address write pC)⟩
def ve:Sum:= {ps:=[⟨na.ct,true⟩,⟨[.i],false⟩,⟨[.i],false⟩],rs:=[⟨[.dV .bool],false⟩],fn:=fun ds=>(true,[.bool (within (na.nh ds 0) (rI ds 1) (rI ds 2))])}
theorem Xz:DV Tryz.prog 381 ve:=by
 refine nU (Γ:=[(208,rv)]) (HZ TF Jn) Tryz.func381 fun ds hw _=> ?_
 replace hw:jV (na.ct++[.i,.i]) ds:=hw
 obtain⟨m,ds,rfl,_,hw⟩:=na.nC (r:=_) hw
 obtain⟨at_,ds,rfl,_,hw⟩:=nQ hw
 obtain⟨n,rfl,_⟩:=nw hw
 exact⟨0,eT (ngH (fun r0=>((true,[.bool r0]):kx)) m at_ n)⟩
theorem S3:DV Tryz.prog 359 ve:=by
 refine nU (Γ:=[(189,rv)]) (HZ UK Jn) Tryz.func359 fun ds hw _=> ?_
 replace hw:jV (na.ct++[.i,.i]) ds:=hw
 obtain⟨m,ds,rfl,Ye,hw⟩:=na.nC (r:=_) hw
 obtain⟨at_,ds,rfl,U_,hw⟩:=nQ hw
 obtain⟨n,rfl,h_n⟩:=nw hw
 exact⟨0,eT (nco (fun r0=>((true,[.bool r0]):kx)) m at_ n Ye U_ h_n)⟩
def xN:Sum:= {ps:=[⟨na.ct,true⟩,⟨[.i],false⟩,⟨[.str],false⟩],rs:=[⟨[.own 9 [.str]],true⟩,⟨[.dV .bool],false⟩],fn:=fun ds=>(qF (na.nh ds 0) (rI ds 1) (rS ds 2),na.enc (pc (na.nh ds 0) (rI ds 1) (rS ds 2)).1++[.bool (pc (na.nh ds 0) (rI ds 1) (rS ds 2)).2])}
def OP:Ctx:=[(1125899906842657,JP),(157,tC),(381,ve)]
theorem Yo:bD Tryz.prog OP:=HZ Lc (HZ vk (HZ Xz Jn))
def OO:List (Nat×lb):=[(4, {bY:=[(1,.mr),(2,.mr),(6,.mr),(8,.mr)],boxes:=[(192,[]),(384,[]),(512,[])]})]
def OQ:na→Bool→kx:=(fun r0 r1=>((true,na.enc r0++[.bool r1]):kx))
def WJ (sL:Int) (rP:Bytes) (tX pB:Rows):St:= {n:=50,sl:=[(1,.int .i64 sL),(2,.str rP),(6,.ptr 384 0),(8,.ptr 512 0)],hp:=[(192,.box 37 [.sl [.str] tX]),(384,.box 37 [.nil]),(512,.box 37 [.own 1411072]),(1411072,.row 9 [.str] pB false true)],ok:=true,ls:=[],lm:=[]}
theorem Yn:DV Tryz.prog 369 xN:=by
 refine qw (A:=OO) Yo Tryz.func369 fun ds hw aI=> ?_
 replace hw:jV (na.ct++[.i,.str]) ds:=hw
 obtain⟨m,ds,rfl,Ye,hw⟩:=na.nC (r:=_) hw
 obtain⟨at_,ds,rfl,_,hw⟩:=nQ hw
 obtain⟨s,rfl,_⟩:=vR hw
 obtain⟨N,hN⟩:=Ym Vm.jX OQ m at_ s Ye aI
 exact⟨N,eL (fun l_=>xO Vm.jX OQ l_ m at_ s) (nL3 (LB Tryz.prog OP OO N Tryz.f369 xN [true,true,true,false,false] []) (fun sL rP pB=>WJ sL rP m.nF pB) _ N) hN⟩
def Rp:Sum:= {ps:=[⟨[.sl [.i,.i,.i,.bool]],false⟩,⟨na.ct,true⟩,⟨[.i],false⟩,⟨[.i],false⟩,⟨[.i],false⟩,⟨[.bool],false⟩],rs:=[⟨[.own 364 [.i,.i]],false⟩,⟨[.dV .bool],false⟩],fn:=fun ds=>(true,[.sl (rl (rR ds 0) (na.nh ds 1) (rI ds 2) (rI ds 3) (rI ds 4) (rB ds 5)).1]++[.bool (rl (rR ds 0) (na.nh ds 1) (rI ds 2) (rI ds 3) (rI ds 4) (rB ds 5)).2])}
def Xr:Ctx:=[(46,nL),(208,rv),(209,re),(380,ZZ),(381,ve)]
theorem ngA:bD Tryz.prog Xr:=HZ o_ (HZ TF (HZ ZJ (HZ nhH (HZ Xz Jn))))
def Xq:List (Nat×lb):=[(8, {bY:=[(0,.mr),(2,.mr),(3,.mr),(4,.mr),(5,.mr),(7,.mr),(14,.mr)],boxes:=[(448,[])]})]
def Xt:Rows→Bool→kx:=(fun r0 r1=>((true,[.sl r0]++[.bool r1]):kx))
def ne_ (nc:Rows) (domain sL n_1:Int) (write:Bool) (tX su:Rows):St:= {n:=75,sl:=[(0,.sl [.i,.i,.i,.bool] nc),(2,.int .i64 domain),(3,.int .i64 sL),(4,.int .i64 n_1),(5,.bool write),(7,.ptr 448 0),(14,.own 640896)],hp:=[(448,.box 37 [.sl [.str] tX]),(640896,.row 364 [.i,.i] su false true)],ok:=true,ls:=[],lm:=[]}
theorem ngz:DV Tryz.prog 344 Rp:=by
 refine qw (A:=Xq) ngA Tryz.func344 fun ds hw _=> ?_
 replace hw:jV ((.sl [.i,.i,.i,.bool])::(na.ct++[.i,.i,.i,.bool])) ds:=hw
 obtain⟨nc,ds,rfl,_,hw⟩:=nX hw
 obtain⟨m,ds,rfl,_,hw⟩:=na.nC (r:=_) hw
 obtain⟨domain,ds,rfl,_,hw⟩:=nQ hw
 obtain⟨at_,ds,rfl,U_,hw⟩:=nQ hw
 obtain⟨n,ds,rfl,_,hw⟩:=nQ hw
 obtain⟨write,rfl,_⟩:=Np hw
 obtain⟨N,hN⟩:=ngy Vm.jX Xt nc m domain at_ n write U_
 exact⟨N,eL (fun l_=>Rq Vm.jX Xt l_ nc m domain at_ n write) (funext fun tX=>nL3 (LB Tryz.prog Xr Xq N Tryz.f344 Rp [true,true,true,true,true,false,false] []) (fun sL n_1 su=>ne_ nc domain sL n_1 write tX su) _ N) hN⟩
def Ys:Sum:= {ps:=[⟨[.sl [.i,.i,.i,.bool]],false⟩,⟨na.ct,true⟩,⟨[.i],false⟩,⟨[.i],false⟩,⟨[.str],false⟩,⟨[.bool],false⟩],rs:=[⟨[.own 9 [.str]],true⟩,⟨[.dV .bool],false⟩],fn:=fun ds=>(nhP (rR ds 0) (na.nh ds 1) (rI ds 2) (rI ds 3) (rS ds 4) (rB ds 5),na.enc (put (rR ds 0) (na.nh ds 1) (rI ds 2) (rI ds 3) (rS ds 4) (rB ds 5)).1++[.bool (put (rR ds 0) (na.nh ds 1) (rI ds 2) (rI ds 3) (rS ds 4) (rB ds 5)).2])}
def ne6:Ctx:=[(157,tC),(344,Rp),(369,xN)]
theorem niG:bD Tryz.prog ne6:=HZ vk (HZ ngz (HZ Yn Jn))
def ne5:List (Nat×lb):=[(6, {bY:=[(4,.mr),(12,.mr),(14,.mr),(35,.mr),(36,.mr),(37,.mr)],boxes:=[(448,[]),(768,[]),(896,[])]})]
def ne7:na→Bool→kx:=(fun r0 r1=>((true,na.enc r0++[.bool r1]):kx))
def nh_ (rP:Bytes) (x ot:Int) (tX oA pB:Rows):St:= {n:=58,sl:=[(4,.str rP),(12,.ptr 768 0),(14,.ptr 896 0),(35,.own 642240),(36,.int .i64 x),(37,.int .i64 ot)],hp:=[(448,.box 37 [.sl [.str] tX]),(768,.box 37 [.nil]),(896,.box 37 [.own 1509376]),(642240,.row 364 [.i,.i] oA false true),(1509376,.row 9 [.str] pB false true)],ok:=true,ls:=[],lm:=[]}
theorem niF:DV Tryz.prog 330 Ys:=by
 refine qw (A:=ne5) niG Tryz.func330 fun ds hw aI=> ?_
 replace hw:jV ((.sl [.i,.i,.i,.bool])::(na.ct++[.i,.i,.str,.bool])) ds:=hw
 obtain⟨nc,ds,rfl,_,hw⟩:=nX hw
 obtain⟨m,ds,rfl,Ye,hw⟩:=na.nC (r:=_) hw
 obtain⟨domain,ds,rfl,_,hw⟩:=nQ hw
 obtain⟨at_,ds,rfl,_,hw⟩:=nQ hw
 obtain⟨s,ds,rfl,h_s,hw⟩:=SQ hw
 obtain⟨write,rfl,_⟩:=Np hw
 obtain⟨N,hN⟩:=niE Vm.jX ne7 nc m domain at_ s write Ye h_s aI
 exact⟨N,eL (fun l_=>Yt Vm.jX ne7 l_ nc m domain at_ s write) (funext fun x=>funext fun oA=>nL3 (LB Tryz.prog ne6 ne5 N Tryz.f330 Ys [true,true,true,true,false,true,false] []) (fun rP ot pB=>nh_ rP x ot m.nF oA pB) _ N) hN⟩
def Tm:Sum:= {ps:=[⟨[.sl [.i,.i,.i,.bool]],false⟩,⟨na.ct,true⟩,⟨[.i],false⟩,⟨[.i],false⟩,⟨[.str],false⟩],rs:=[⟨[.own 9 [.str]],true⟩,⟨[.dV .bool],false⟩],fn:=fun ds=>(sF (rR ds 0) (na.nh ds 1) (rI ds 2) (rI ds 3) (rS ds 4),na.enc (qE (rR ds 0) (na.nh ds 1) (rI ds 2) (rI ds 3) (rS ds 4)).1++[.bool (qE (rR ds 0) (na.nh ds 1) (rI ds 2) (rI ds 3) (rS ds 4)).2])}
theorem ncI:DV Tryz.prog 269 Tm:=by
 refine nU (Γ:=[(330,Ys)]) (HZ niF Jn) Tryz.func269 fun ds hw aI=> ?_
 replace hw:jV ((.sl [.i,.i,.i,.bool])::(na.ct++[.i,.i,.str])) ds:=hw
 obtain⟨nc,ds,rfl,_,hw⟩:=nX hw
 obtain⟨m,ds,rfl,_,hw⟩:=na.nC (r:=_) hw
 obtain⟨domain,ds,rfl,_,hw⟩:=nQ hw
 obtain⟨at_,ds,rfl,_,hw⟩:=nQ hw
 obtain⟨s,rfl,_⟩:=vR hw
 exact⟨0,eT (ncH Vm.jX (fun r0 r1=>((true,na.enc r0++[.bool r1]):kx)) nc m domain at_ s aI)⟩
def zM:Sum:= {ps:=[⟨[.i],false⟩],rs:=[⟨[.own 9 [.str]],true⟩],fn:=fun ds=>(true,na.enc (pL (rI ds 0)))}
def SY:Ctx:=[(140,yZ)]
theorem ncj:bD Tryz.prog SY:=HZ Wg Jn
def SX:List (Nat×lb):=[(3, {bY:=[(0,.mr),(2,.mr),(3,.mr),(4,.mr)],boxes:=[(128,[]),(192,[(0,.own 9)])]})]
def SZ:na→kx:=(fun r0=>((true,na.enc r0):kx))
def naX (ou k:Int) (m_0:Rows):St:= {n:=22,sl:=[(0,.int .i64 ou),(2,.ptr 128 0),(3,.ptr 192 0),(4,.int .i64 k)],hp:=[(128,.box 37 [.nil]),(192,.box 37 [.own 1329152]),(1329152,.row 9 [.str] m_0 false true)],ok:=true,ls:=[],lm:=[]}
theorem nci:DV Tryz.prog 36 zM:=by
 refine qw (A:=SX) ncj Tryz.func36 fun ds (hw:jV ([.i]) ds) _=> ?_
 obtain⟨ou,rfl,_⟩:=nw hw
 obtain⟨N,hN⟩:=nch Vm.jX SZ ou
 exact⟨N,eL (fun l_=>zN Vm.jX SZ l_ ou) (nL2 (LB Tryz.prog SY SX N Tryz.f36 zM [true,true,false,true,false] []) (naX ou) _ N) hN⟩
def P_:Sum:= {ps:=[⟨[.sl [.i,.i,.i,.bool]],false⟩,⟨[.i],false⟩,⟨[.i],false⟩,⟨[.bool],false⟩],rs:=[⟨[.dV .i],false⟩],fn:=fun ds=>(true,[.int (t6 (rR ds 0) (rI ds 1) (rI ds 2) (rB ds 3))])}
def Wo:List (Nat×lb):=[(2, {bY:=[(0,.mr),(1,.mr),(2,.mr),(3,.mr),(9,.mr)],boxes:=[]})]
def Wp:Int→kx:=(fun r0=>((true,[.int r0]):kx))
def neo (nc:Rows) (domain oc:Int) (write:Bool) (k:Int):St:= {n:=48,sl:=[(0,.sl [.i,.i,.i,.bool] nc),(1,.int .i64 domain),(2,.int .i64 oc),(3,.bool write),(9,.int .i64 k)],hp:=[],ok:=true,ls:=[],lm:=[]}
theorem nf_:DV Tryz.prog 358 P_:=by
 refine qw (A:=Wo) Jn Tryz.func358 fun ds (hw:jV ([.sl [.i,.i,.i,.bool],.i,.i,.bool]) ds) _=> ?_
 obtain⟨nc,ds,rfl,pC,hw⟩:=nX hw
 obtain⟨domain,ds,rfl,_,hw⟩:=nQ hw
 obtain⟨oc,ds,rfl,_,hw⟩:=nQ hw
 obtain⟨write,rfl,_⟩:=Np hw
 obtain⟨N,hN⟩:=nf9 Vm.jX Wp nc domain oc write pC
 exact⟨N,eL (fun l_=>Qa Vm.jX Wp l_ nc domain oc write) (nL1 (LB Tryz.prog [] Wo N Tryz.f358 P_ [true,false,true,false] []) (neo nc domain oc write) _ N) hN⟩
def NW:Sum:= {ps:=[⟨[.sl [.i,.i,.i,.bool]],false⟩,⟨na.ct,true⟩,⟨[.i],false⟩,⟨[.i],false⟩,⟨[.i],false⟩,⟨[.bool],false⟩],rs:=[⟨[.own 3 [.i]],false⟩,⟨[.own 3 [.i]],false⟩,⟨[.dV .bool],false⟩],fn:=fun ds=>(true,[.sl (yI (rR ds 0) (na.nh ds 1) (rI ds 2) (rI ds 3) (rI ds 4) (rB ds 5)).1]++[.sl (yI (rR ds 0) (na.nh ds 1) (rI ds 2) (rI ds 3) (rI ds 4) (rB ds 5)).2.1]++[.bool (yI (rR ds 0) (na.nh ds 1) (rI ds 2) (rI ds 3) (rI ds 4) (rB ds 5)).2.2])}
def UW:Ctx:=[(33,nL),(189,rv),(190,re),(358,P_),(359,ve)]
theorem nes:bD Tryz.prog UW:=HZ p_ (HZ UK (HZ naV (HZ nf_ (HZ S3 Jn))))
def UU:List (Nat×lb):=[(5, {bY:=[(0,.mr),(2,.mr),(3,.mr),(4,.mr),(5,.mr),(7,.mr),(15,.mr),(16,.mr)],boxes:=[(448,[])]})]
def UX:Rows→Rows→Bool→kx:=(fun r0 r1 r2=>((true,[.sl r0]++[.sl r1]++[.bool r2]):kx))
def ncp (nc:Rows) (domain sL n_1:Int) (write:Bool) (tX starts qd:Rows):St:= {n:=83,sl:=[(0,.sl [.i,.i,.i,.bool] nc),(2,.int .i64 domain),(3,.int .i64 sL),(4,.int .i64 n_1),(5,.bool write),(7,.ptr 448 0),(15,.own 640960),(16,.own 641024)],hp:=[(448,.box 37 [.sl [.str] tX]),(640960,.row 3 [.i] starts false true),(641024,.row 3 [.i] qd false true)],ok:=true,ls:=[],lm:=[]}
theorem ner:DV Tryz.prog 301 NW:=by
 refine qw (A:=UU) nes Tryz.func301 fun ds hw _=> ?_
 replace hw:jV ((.sl [.i,.i,.i,.bool])::(na.ct++[.i,.i,.i,.bool])) ds:=hw
 obtain⟨nc,ds,rfl,_,hw⟩:=nX hw
 obtain⟨m,ds,rfl,Ye,hw⟩:=na.nC (r:=_) hw
 obtain⟨domain,ds,rfl,_,hw⟩:=nQ hw
 obtain⟨at_,ds,rfl,U_,hw⟩:=nQ hw
 obtain⟨n,ds,rfl,_,hw⟩:=nQ hw
 obtain⟨write,rfl,_⟩:=Np hw
 obtain⟨N,hN⟩:=nep Vm.jX UX nc m domain at_ n write Ye U_
 exact⟨N,eL (fun l_=>NX Vm.jX UX l_ nc m domain at_ n write) (funext fun tX=>nL4 (LB Tryz.prog UW UU N Tryz.f301 NW [true,true,true,true,false,false] []) (fun sL n_1 starts qd=>ncp nc domain sL n_1 write tX starts qd) _ N) hN⟩
def vU:Sum:= {ps:=[⟨na.ct,true⟩],rs:=[⟨[.own 9 [.str]],true⟩],fn:=fun ds=>(xc (na.nh ds 0),na.enc (qY (na.nh ds 0)))}
theorem y5:DV Tryz.prog 186 vU:=by
 refine nU Jn Tryz.func186 fun ds (hw:jV (na.ct++[]) ds) aI=> ?_
 obtain⟨m,ds,rfl,_,hw⟩:=na.nC (r:=_) hw
 obtain rfl:=nA hw
 exact⟨0,eT (nf8 Vm.jX (fun r0=>((true,na.enc r0):kx)) m aI)⟩
def x7:Sum:= {ps:=[⟨na.ct,true⟩,⟨[.i],false⟩,⟨[.str],false⟩],rs:=[⟨[.own 9 [.str]],true⟩,⟨[.dV .bool],false⟩],fn:=fun ds=>(qF (na.nh ds 0) (rI ds 1) (rS ds 2),na.enc (pc (na.nh ds 0) (rI ds 1) (rS ds 2)).1++[.bool (pc (na.nh ds 0) (rI ds 1) (rS ds 2)).2])}
def PU:Ctx:=[(186,vU),(359,ve),(368,UL)]
theorem Zg:bD Tryz.prog PU:=HZ y5 (HZ S3 (HZ ned Jn))
def PT:List (Nat×lb):=[(4, {bY:=[(1,.mr),(2,.mr),(6,.mr),(8,.mr)],boxes:=[(192,[]),(384,[]),(512,[])]})]
def PV:na→Bool→kx:=(fun r0 r1=>((true,na.enc r0++[.bool r1]):kx))
def W_ (sL:Int) (rP:Bytes) (tX pB:Rows):St:= {n:=53,sl:=[(1,.int .i64 sL),(2,.str rP),(6,.ptr 384 0),(8,.ptr 512 0)],hp:=[(192,.box 37 [.sl [.str] tX]),(384,.box 37 [.nil]),(512,.box 37 [.own 1411072]),(1411072,.row 9 [.str] pB false true)],ok:=true,ls:=[],lm:=[]}
theorem Zf:DV Tryz.prog 325 x7:=by
 refine qw (A:=PT) Zg Tryz.func325 fun ds hw aI=> ?_
 replace hw:jV (na.ct++[.i,.str]) ds:=hw
 obtain⟨m,ds,rfl,Ye,hw⟩:=na.nC (r:=_) hw
 obtain⟨at_,ds,rfl,_,hw⟩:=nQ hw
 obtain⟨s,rfl,_⟩:=vR hw
 obtain⟨N,hN⟩:=Ze Vm.jX PV m at_ s Ye aI
 exact⟨N,eL (fun l_=>x8 Vm.jX PV l_ m at_ s) (nL3 (LB Tryz.prog PU PT N Tryz.f325 x7 [true,true,true,false,false] []) (fun sL rP pB=>W_ sL rP m.nF pB) _ N) hN⟩
def xv:Sum:= {ps:=[⟨[.sl [.i,.i,.i,.bool]],false⟩,⟨na.ct,true⟩,⟨[.i],false⟩,⟨[.i],false⟩,⟨[.str],false⟩],rs:=[⟨[.own 9 [.str]],true⟩,⟨[.dV .bool],false⟩],fn:=fun ds=>(sF (rR ds 0) (na.nh ds 1) (rI ds 2) (rI ds 3) (rS ds 4),na.enc (qE (rR ds 0) (na.nh ds 1) (rI ds 2) (rI ds 3) (rS ds 4)).1++[.bool (qE (rR ds 0) (na.nh ds 1) (rI ds 2) (rI ds 3) (rS ds 4)).2])}
def Us:Ctx:=[(186,vU),(301,NW),(325,x7)]
theorem ndW:bD Tryz.prog Us:=HZ y5 (HZ ner (HZ Zf Jn))
def Ur:List (Nat×lb):=[(6, {bY:=[(4,.mr),(10,.mr),(12,.mr),(13,.mr),(15,.mr),(16,.mr)],boxes:=[(384,[]),(640,[]),(960,[])]})]
def Ut:na→Bool→kx:=(fun r0 r1=>((true,na.enc r0++[.bool r1]):kx))
def nb_ (rP:Bytes) (k:Int) (tX starts qd pB:Rows):St:= {n:=61,sl:=[(4,.str rP),(10,.ptr 640 0),(12,.own 640768),(13,.own 640832),(15,.ptr 960 0),(16,.int .i64 k)],hp:=[(384,.box 37 [.sl [.str] tX]),(640,.box 37 [.nil]),(960,.box 37 [.own 1525760]),(640768,.row 3 [.i] starts false true),(640832,.row 3 [.i] qd false true),(1525760,.row 9 [.str] pB false true)],ok:=true,ls:=[],lm:=[]}
theorem Uv:DV Tryz.prog 252 xv:=by
 refine qw (A:=Ur) ndW Tryz.func252 fun ds hw aI=> ?_
 replace hw:jV ((.sl [.i,.i,.i,.bool])::(na.ct++[.i,.i,.str])) ds:=hw
 obtain⟨nc,ds,rfl,_,hw⟩:=nX hw
 obtain⟨m,ds,rfl,Ye,hw⟩:=na.nC (r:=_) hw
 obtain⟨domain,ds,rfl,_,hw⟩:=nQ hw
 obtain⟨at_,ds,rfl,_,hw⟩:=nQ hw
 obtain⟨s,rfl,h_s⟩:=vR hw
 obtain⟨N,hN⟩:=ndV Vm.jX Ut nc m domain at_ s Ye h_s aI
 exact⟨N,eL (fun l_=>NP Vm.jX Ut l_ nc m domain at_ s) (funext fun starts=>funext fun qd=>nL3 (LB Tryz.prog Us Ur N Tryz.f252 xv [true,true,true,true,false,true,false] []) (fun rP k pB=>nb_ rP k m.nF starts qd pB) _ N) hN⟩
def zK:Sum:= {ps:=[⟨[.sl [.i,.i,.i,.bool]],false⟩,⟨na.ct,true⟩,⟨[.i],false⟩,⟨[.i],false⟩,⟨[.str],false⟩],rs:=[⟨[.own 9 [.str]],true⟩,⟨[.dV .bool],false⟩],fn:=fun ds=>(vX (rR ds 0) (na.nh ds 1) (rI ds 2) (rI ds 3) (rS ds 4),na.enc (ub (rR ds 0) (na.nh ds 1) (rI ds 2) (rI ds 3) (rS ds 4)).1++[.bool (ub (rR ds 0) (na.nh ds 1) (rI ds 2) (rI ds 3) (rS ds 4)).2])}
def SS:Ctx:=[(252,xv)]
theorem ncf:bD Tryz.prog SS:=HZ Uv Jn
def SR:List (Nat×lb):=[(3, {bY:=[(0,.mr),(2,.mr),(3,.mr),(4,.mr),(6,.mr),(10,.mr),(12,.mr),(13,.mr)],boxes:=[(384,[]),(640,[])]})]
def SU:na→Bool→kx:=(fun r0 r1=>((true,na.enc r0++[.bool r1]):kx))
def naT (nc:Rows) (domain at_:Int) (s:Bytes) (k:Int) (tX open_:Rows):St:= {n:=39,sl:=[(0,.sl [.i,.i,.i,.bool] nc),(2,.int .i64 domain),(3,.int .i64 at_),(4,.str s),(6,.ptr 384 0),(10,.ptr 640 0),(12,.own 640768),(13,.int .i64 k)],hp:=[(384,.box 37 [.sl [.str] tX]),(640,.box 37 [.nil]),(640768,.row 113 [.i,.i,.i,.bool] open_ false true)],ok:=true,ls:=[],lm:=[]}
theorem nce:DV Tryz.prog 143 zK:=by
 refine qw (A:=SR) ncf Tryz.func143 fun ds hw aI=> ?_
 replace hw:jV ((.sl [.i,.i,.i,.bool])::(na.ct++[.i,.i,.str])) ds:=hw
 obtain⟨nc,ds,rfl,pC,hw⟩:=nX hw
 obtain⟨m,ds,rfl,_,hw⟩:=na.nC (r:=_) hw
 obtain⟨domain,ds,rfl,_,hw⟩:=nQ hw
 obtain⟨at_,ds,rfl,_,hw⟩:=nQ hw
 obtain⟨s,rfl,_⟩:=vR hw
 obtain⟨N,hN⟩:=ncd Vm.jX SU nc m domain at_ s pC aI
 exact⟨N,eL (fun l_=>zL Vm.jX SU l_ nc m domain at_ s) (funext fun tX=>nL2 (LB Tryz.prog SS SR N Tryz.f143 zK [true,true,false,true,false] []) (fun k open_=>naT nc domain at_ s k tX open_) _ N) hN⟩
def y6:Sum:= {ps:=[⟨nm.ct,true⟩],rs:=[⟨[.dV .i,.dV .bool,.own 3 [.i]],true⟩],fn:=fun ds=>(U6 (nm.nh ds 0),nm.enc (qY (nm.nh ds 0)))}
theorem ngd:DV Tryz.prog 38 y6:=by
 refine nU Jn Tryz.func38 fun ds (hw:jV (nm.ct++[]) ds) aI=> ?_
 obtain⟨f,ds,rfl,_,hw⟩:=nm.nC (r:=_) hw
 obtain rfl:=nA hw
 exact⟨0,eT (ngc Vm.jX (fun r0=>((true,nm.enc r0):kx)) f aI)⟩
theorem ZR:DV Tryz.prog 51 y6:=by
 refine nU (Γ:=[(153,uR)]) (HZ xn Jn) Tryz.func51 fun ds (hw:jV (nm.ct++[]) ds) aI=> ?_
 obtain⟨f,ds,rfl,_,hw⟩:=nm.nC (r:=_) hw
 obtain rfl:=nA hw
 exact⟨0,eT (ZQ Vm.jX (fun r0=>((true,nm.enc r0):kx)) f aI)⟩
def y3:Sum:= {ps:=[⟨ni.ct,true⟩],rs:=[⟨[.own 201 [.i,.i,.i,.i,.i,.i,.i]],true⟩],fn:=fun ds=>(na3 (ni.nh ds 0),ni.enc (qY (ni.nh ds 0)))}
theorem nf2:DV Tryz.prog 142 y3:=by
 refine nU Jn Tryz.func142 fun ds (hw:jV (ni.ct++[]) ds) aI=> ?_
 obtain⟨t,ds,rfl,_,hw⟩:=ni.nC (r:=_) hw
 obtain rfl:=nA hw
 exact⟨0,eT (nf1 Vm.jX (fun r0=>((true,ni.enc r0):kx)) t aI)⟩
theorem nbl:DV Tryz.prog 154 y3:=by
 refine nU Jn Tryz.func154 fun ds (hw:jV (ni.ct++[]) ds) aI=> ?_
 obtain⟨t,ds,rfl,_,hw⟩:=ni.nC (r:=_) hw
 obtain rfl:=nA hw
 exact⟨0,eT (nbk Vm.jX (fun r0=>((true,ni.enc r0):kx)) t aI)⟩
def Qy:Sum:= {ps:=[⟨nz.ct,true⟩],rs:=[⟨[.dV .str,.own 3 [.i]],true⟩],fn:=fun ds=>(nio (nz.nh ds 0),nz.enc (qY (nz.nh ds 0)))}
theorem ZU:DV Tryz.prog 155 Qy:=by
 refine nU (Γ:=[(153,uR)]) (HZ xn Jn) Tryz.func155 fun ds (hw:jV (nz.ct++[]) ds) aI=> ?_
 obtain⟨s,ds,rfl,_,hw⟩:=nz.nC (r:=_) hw
 obtain rfl:=nA hw
 exact⟨0,eT (ZT Vm.jX (fun r0=>((true,nz.enc r0):kx)) s aI)⟩
def y4:Sum:= {ps:=[⟨nj.ct,true⟩],rs:=[⟨[.own 197 [.i,.i,.i,.i,.i,.i,.i,.i,.i],.own 201 [.i,.i,.i,.i,.i,.i,.i],.dV .str,.own 3 [.i]],true⟩],fn:=fun ds=>(Rc (nj.nh ds 0),nj.enc (qY (nj.nh ds 0)))}
theorem nf7:DV Tryz.prog 39 y4:=by
 refine nU (Γ:=[(142,y3)]) (HZ nf2 Jn) Tryz.func39 fun ds (hw:jV (nj.ct++[]) ds) aI=> ?_
 obtain⟨s,ds,rfl,_,hw⟩:=nj.nC (r:=_) hw
 obtain rfl:=nA hw
 exact⟨0,eT (nf6 Vm.jX (fun r0=>((true,nj.enc r0):kx)) s aI)⟩
theorem WL:DV Tryz.prog 52 y4:=by
 refine nU (Γ:=[(154,y3),(155,Qy)]) (HZ nbl (HZ ZU Jn)) Tryz.func52 fun ds (hw:jV (nj.ct++[]) ds) aI=> ?_
 obtain⟨s,ds,rfl,_,hw⟩:=nj.nC (r:=_) hw
 obtain rfl:=nA hw
 exact⟨0,eT (WK Vm.jX (fun r0=>((true,nj.enc r0):kx)) s aI)⟩
def uN:Sum:= {ps:=[⟨ny.ct,true⟩],rs:=[⟨[.dV .i],false⟩],fn:=fun ds=>(true,[.int (rG (ny.nh ds 0))])}
theorem nc0:DV Tryz.prog 268 uN:=by
 refine nU (Γ:=[(159,sH),(264,tn)]) (HZ Rh (HZ TH Jn)) Tryz.func268 fun ds (hw:jV (ny.ct++[]) ds) _=> ?_
 obtain⟨r,ds,rfl,_,hw⟩:=ny.nC (r:=_) hw
 obtain rfl:=nA hw
 exact⟨0,eT (TG (fun r0=>((true,[.int r0]):kx)) r)⟩
theorem UN:DV Tryz.prog 254 uN:=by
 refine nU (Γ:=[(253,sH),(280,tn)]) (HZ RI (HZ UO Jn)) Tryz.func254 fun ds (hw:jV (ny.ct++[]) ds) _=> ?_
 obtain⟨r,ds,rfl,_,hw⟩:=ny.nC (r:=_) hw
 obtain rfl:=nA hw
 exact⟨0,eT (TG (fun r0=>((true,[.int r0]):kx)) r)⟩
def tz:Sum:= {ps:=[⟨nt.ct,true⟩,⟨[.i],false⟩],rs:=[⟨[.dV .i],false⟩],fn:=fun ds=>(true,[.int (px (nt.nh ds 0) (rI ds 4))])}
theorem Va:DV Tryz.prog 162 tz:=by
 refine nU (Γ:=[(46,nL),(160,qZ)]) (HZ o_ (HZ Rf Jn)) Tryz.func162 fun ds (hw:jV (nt.ct++[.i]) ds) _=> ?_
 obtain⟨p,ds,rfl,_,hw⟩:=nt.nC (r:=_) hw
 obtain⟨k,rfl,_⟩:=nw hw
 exact⟨0,eT (Nd (fun r0=>((true,[.int r0]):kx)) p k)⟩
theorem VZ:DV Tryz.prog 217 tz:=by
 refine nU (Γ:=[(33,nL),(193,qZ)]) (HZ p_ (HZ RG Jn)) Tryz.func217 fun ds (hw:jV (nt.ct++[.i]) ds) _=> ?_
 obtain⟨p,ds,rfl,_,hw⟩:=nt.nC (r:=_) hw
 obtain⟨k,rfl,_⟩:=nw hw
 exact⟨0,eT (Nd (fun r0=>((true,[.int r0]):kx)) p k)⟩
def zR:Sum:= {ps:=[⟨qp.ct,true⟩],rs:=[⟨[.dV .bool],false⟩],fn:=fun ds=>(true,[.bool (nhv (qp.nh ds 0))])}
theorem ngp:DV Tryz.prog 265 zR:=by
 refine nU (Γ:=[(46,nL)]) (HZ o_ Jn) Tryz.func265 fun ds (hw:jV (qp.ct++[]) ds) _=> ?_
 obtain⟨x,ds,rfl,_,hw⟩:=qp.nC (r:=_) hw
 obtain rfl:=nA hw
 exact⟨0,eT (Xb (fun r0=>((true,[.bool r0]):kx)) x)⟩
theorem ng6:DV Tryz.prog 327 zR:=by
 refine nU (Γ:=[(33,nL)]) (HZ p_ Jn) Tryz.func327 fun ds (hw:jV (qp.ct++[]) ds) _=> ?_
 obtain⟨x,ds,rfl,_,hw⟩:=qp.nC (r:=_) hw
 obtain rfl:=nA hw
 exact⟨0,eT (Xb (fun r0=>((true,[.bool r0]):kx)) x)⟩
def ur:Sum:= {ps:=[⟨ny.ct,true⟩,⟨[.i],false⟩],rs:=[⟨[.dV .i],false⟩],fn:=fun ds=>(true,[.int (qB (ny.nh ds 0) (rI ds 4))])}
theorem Yh:DV Tryz.prog 270 ur:=by
 refine nU (Γ:=[(159,sH)]) (HZ Rh Jn) Tryz.func270 fun ds (hw:jV (ny.ct++[.i]) ds) _=> ?_
 obtain⟨r,ds,rfl,_,hw⟩:=ny.nC (r:=_) hw
 obtain⟨count,rfl,_⟩:=nw hw
 exact⟨0,eT (Yg Vm.jX (fun r0=>((true,[.int r0]):kx)) r count)⟩
theorem Y_:DV Tryz.prog 281 ur:=by
 refine nU (Γ:=[(253,sH)]) (HZ RI Jn) Tryz.func281 fun ds (hw:jV (ny.ct++[.i]) ds) _=> ?_
 obtain⟨r,ds,rfl,_,hw⟩:=ny.nC (r:=_) hw
 obtain⟨count,rfl,_⟩:=nw hw
 exact⟨0,eT (Y9 Vm.jX (fun r0=>((true,[.int r0]):kx)) r count)⟩
def vg:Sum:= {ps:=[⟨qp.ct,true⟩],rs:=[⟨[.dV .str],false⟩],fn:=fun ds=>(true,[.str (qO (qp.nh ds 0))])}
theorem ZH:DV Tryz.prog 161 vg:=by
 refine nU (Γ:=[(265,zR),(266,zU),(267,zV)]) (HZ ngp (HZ ngt (HZ ngu Jn))) Tryz.func161 fun ds (hw:jV (qp.ct++[]) ds) _=> ?_
 obtain⟨x,ds,rfl,_,hw⟩:=qp.nC (r:=_) hw
 obtain rfl:=nA hw
 exact⟨0,eT (Ql Vm.jX (fun r0=>((true,[.str r0]):kx)) x)⟩
theorem naS:DV Tryz.prog 256 vg:=by
 refine nU (Γ:=[(307,zU),(327,zR),(328,zV)]) (HZ ng_ (HZ ng6 (HZ nha Jn))) Tryz.func256 fun ds (hw:jV (qp.ct++[]) ds) _=> ?_
 obtain⟨x,ds,rfl,_,hw⟩:=qp.nC (r:=_) hw
 obtain rfl:=nA hw
 exact⟨0,eT (Ql Vm.jX (fun r0=>((true,[.str r0]):kx)) x)⟩
def yA:Sum:= {ps:=[⟨[.sl [.i,.i,.i,.bool]],false⟩,⟨na.ct,true⟩,⟨[.i],false⟩,⟨ny.ct,true⟩,⟨[.str],false⟩],rs:=[⟨[.own 9 [.str]],true⟩,⟨[.dV .i,.dV .i,.dV .i,.dV .i],true⟩,⟨[.dV .bool],false⟩],fn:=fun ds=>(xG (rR ds 0) (na.nh ds 1) (rI ds 2) (ny.nh ds 3) (rS ds 7),na.enc (qq (rR ds 0) (na.nh ds 1) (rI ds 2) (ny.nh ds 3) (rS ds 7)).1++ny.enc (qq (rR ds 0) (na.nh ds 1) (rI ds 2) (ny.nh ds 3) (rS ds 7)).2.1++[.bool (qq (rR ds 0) (na.nh ds 1) (rI ds 2) (ny.nh ds 3) (rS ds 7)).2.2])}
theorem neV:DV Tryz.prog 163 yA:=by
 refine nU (Γ:=[(157,tC),(268,uN),(269,Tm),(270,ur)]) (HZ vk (HZ nc0 (HZ ncI (HZ Yh Jn)))) Tryz.func163 fun ds hw aI=> ?_
 replace hw:jV ((.sl [.i,.i,.i,.bool])::(na.ct++(.i::(ny.ct++[.str])))) ds:=hw
 obtain⟨nc,ds,rfl,_,hw⟩:=nX hw
 obtain⟨m,ds,rfl,_,hw⟩:=na.nC (r:=_) hw
 obtain⟨domain,ds,rfl,_,hw⟩:=nQ hw
 obtain⟨r,ds,rfl,_,hw⟩:=ny.nC (r:=_) hw
 obtain⟨entry,rfl,_⟩:=vR hw
 exact⟨0,eT (neU Vm.jX (fun r0 r1 r2=>((true,na.enc r0++ny.enc r1++[.bool r2]):kx)) nc m domain r entry aI)⟩
theorem nfS:DV Tryz.prog 255 yA:=by
 refine nU (Γ:=[(186,vU),(252,xv),(254,uN),(281,ur)]) (HZ y5 (HZ Uv (HZ UN (HZ Y_ Jn)))) Tryz.func255 fun ds hw aI=> ?_
 replace hw:jV ((.sl [.i,.i,.i,.bool])::(na.ct++(.i::(ny.ct++[.str])))) ds:=hw
 obtain⟨nc,ds,rfl,_,hw⟩:=nX hw
 obtain⟨m,ds,rfl,_,hw⟩:=na.nC (r:=_) hw
 obtain⟨domain,ds,rfl,_,hw⟩:=nQ hw
 obtain⟨r,ds,rfl,_,hw⟩:=ny.nC (r:=_) hw
 obtain⟨entry,rfl,_⟩:=vR hw
 exact⟨0,eT (nfR Vm.jX (fun r0 r1 r2=>((true,na.enc r0++ny.enc r1++[.bool r2]):kx)) nc m domain r entry aI)⟩
def tl:Sum:= {ps:=[⟨nD.ct,true⟩],rs:=[⟨[.dV .i],false⟩],fn:=fun ds=>(true,[.int (pk (nD.nh ds 0))])}
def Tz:Ctx:=[(214,Rl)]
theorem ncR:bD Tryz.prog Tz:=HZ Xl Jn
def Ty:List (Nat×lb):=[(3, {bY:=[(3,.mr),(16,.mr),(17,.mr),(18,.mr)],boxes:=[(64,[])]})]
def TA:Int→kx:=(fun r0=>((true,[.int r0]):kx))
def nbd (n x ot vf Ny tW Oz OA:Int) (oA:Rows):St:= {n:=29,sl:=[(3,.int .i64 n),(16,.own 641024),(17,.int .i64 x),(18,.int .i64 ot)],hp:=[(64,.box 199 [.int .i64 vf,.int .i64 Ny,.int .i64 tW,.int .i64 Oz,.int .i64 OA]),(641024,.row 3 [.i] oA false true)],ok:=true,ls:=[],lm:=[]}
theorem ncQ:DV Tryz.prog 329 tl:=by
 refine qw (A:=Ty) ncR Tryz.func329 fun ds (hw:jV (nD.ct++[]) ds) _=> ?_
 obtain⟨f,ds,rfl,h_f,hw⟩:=nD.nC (r:=_) hw
 obtain rfl:=nA hw
 obtain⟨N,hN⟩:=ncP Vm.jX TA f h_f
 exact⟨N,eL (fun l_=>ND Vm.jX TA l_ f) (funext fun x=>funext fun oA=>nL2 (LB Tryz.prog Tz Ty N Tryz.f329 tl [true,true,false,true,false] []) (fun n ot=>nbd n x ot f.Kind f.qC f.ru f.oW f.oV oA) _ N) hN⟩
def UE:List (Nat×lb):=[(4, {bY:=[(3,.mr),(4,.mr),(5,.mr)],boxes:=[(64,[])]})]
def UF:Int→kx:=(fun r0=>((true,[.int r0]):kx))
def ncc (n k vf Ny tW Oz OA:Int) (nc:Rows):St:= {n:=32,sl:=[(3,.int .i64 n),(4,.own 640256),(5,.int .i64 k)],hp:=[(64,.box 199 [.int .i64 vf,.int .i64 Ny,.int .i64 tW,.int .i64 Oz,.int .i64 OA]),(640256,.row 3 [.i] nc false true)],ok:=true,ls:=[],lm:=[]}
theorem nd4:DV Tryz.prog 324 tl:=by
 refine qw (A:=UE) Jn Tryz.func324 fun ds (hw:jV (nD.ct++[]) ds) _=> ?_
 obtain⟨f,ds,rfl,h_f,hw⟩:=nD.nC (r:=_) hw
 obtain rfl:=nA hw
 obtain⟨N,hN⟩:=nd3 Vm.jX UF f h_f
 exact⟨N,eL (fun l_=>NS Vm.jX UF l_ f) (funext fun nc=>nL2 (LB Tryz.prog [] UE N Tryz.f324 tl [true,true,true,false,true,false] []) (fun n k=>ncc n k f.Kind f.qC f.ru f.oW f.oV nc) _ N) hN⟩
def Rr:Sum:= {ps:=[⟨ni.ct,true⟩,⟨nD.ct,true⟩],rs:=[⟨[.dV .i],false⟩],fn:=fun ds=>(true,[.int (Y4 (ni.nh ds 0) (nD.nh ds 1))])}
def Xw:List (Nat×lb):=[(2, {bY:=[(3,.mr),(8,.mr),(9,.mr),(10,.mr)],boxes:=[(128,[]),(192,[])]})]
def Xx:Int→kx:=(fun r0=>((true,[.int r0]):kx))
def nfa (x:Rows) (ot oA:Int) (sK:Rows) (vf Ny tW Oz OA:Int):St:= {n:=26,sl:=[(3,.ptr 192 0),(8,.sl [.i,.i,.i,.i,.i,.i,.i] x),(9,.int .i64 ot),(10,.int .i64 oA)],hp:=[(128,.box 54 [.sl [.i,.i,.i,.i,.i,.i,.i] sK]),(192,.box 199 [.int .i64 vf,.int .i64 Ny,.int .i64 tW,.int .i64 Oz,.int .i64 OA])],ok:=true,ls:=[],lm:=[]}
theorem ngF:DV Tryz.prog 260 Rr:=by
 refine qw (A:=Xw) Jn Tryz.func260 fun ds (hw:jV (ni.ct++(nD.ct++[])) ds) _=> ?_
 obtain⟨t,ds,rfl,h_t,hw⟩:=ni.nC (r:=_) hw
 obtain⟨f,ds,rfl,_,hw⟩:=nD.nC (r:=_) hw
 obtain rfl:=nA hw
 obtain⟨N,hN⟩:=ngE Vm.jX Xx t f h_t
 exact⟨N,eL (fun l_=>Rs Vm.jX Xx l_ t f) (funext fun x=>funext fun ot=>funext fun vf=>funext fun Ny=>funext fun tW=>funext fun Oz=>funext fun OA=>nL1 (LB Tryz.prog [] Xw N Tryz.f260 Rr [true,false,true,false] []) (fun oA=>nfa x ot oA t.nr vf Ny tW Oz OA) _ N) hN⟩
def PY:Sum:= {ps:=[⟨ni.ct,true⟩,⟨nD.ct,true⟩],rs:=[⟨[.dV .i],false⟩],fn:=fun ds=>(niY (ni.nh ds 0) (nD.nh ds 1),[.int (Te (ni.nh ds 0) (nD.nh ds 1))])}
def Wj:Ctx:=[(324,tl)]
theorem nf5:bD Tryz.prog Wj:=HZ nd4 Jn
def Wi:List (Nat×lb):=[(2, {bY:=[(2,.mr),(3,.mr),(5,.mr)],boxes:=[(128,[]),(192,[])]})]
def Wk:Int→kx:=(fun r0=>((true,[.int r0]):kx))
def nen (k:Int) (sK:Rows) (vf Ny tW Oz OA:Int):St:= {n:=41,sl:=[(2,.ptr 128 0),(3,.ptr 192 0),(5,.int .i64 k)],hp:=[(128,.box 54 [.sl [.i,.i,.i,.i,.i,.i,.i] sK]),(192,.box 199 [.int .i64 vf,.int .i64 Ny,.int .i64 tW,.int .i64 Oz,.int .i64 OA])],ok:=true,ls:=[],lm:=[]}
theorem nf4:DV Tryz.prog 250 PY:=by
 refine qw (A:=Wi) nf5 Tryz.func250 fun ds (hw:jV (ni.ct++(nD.ct++[])) ds) aI=> ?_
 obtain⟨t,ds,rfl,_,hw⟩:=ni.nC (r:=_) hw
 obtain⟨f,ds,rfl,_,hw⟩:=nD.nC (r:=_) hw
 obtain rfl:=nA hw
 obtain⟨N,hN⟩:=nf3 Vm.jX Wk t f aI
 exact⟨N,eL (fun l_=>PZ Vm.jX Wk l_ t f) (funext fun sK=>funext fun vf=>funext fun Ny=>funext fun tW=>funext fun Oz=>funext fun OA=>nL1 (LB Tryz.prog Wj Wi N Tryz.f250 PY [true,false,true,false] []) (fun k=>nen k sK vf Ny tW Oz OA) _ N) hN⟩
def Tc:Sum:= {ps:=[⟨nD.ct,true⟩],rs:=[⟨[.own 3 [.i]],false⟩],fn:=fun ds=>(true,[.sl (Om (nD.nh ds 0))])}
def Z2:Ctx:=[(329,tl)]
theorem nhL:bD Tryz.prog Z2:=HZ ncQ Jn
def Z1:List (Nat×lb):=[(3, {bY:=[(1,.mr),(3,.mr),(4,.mr)],boxes:=[(64,[])]})]
def Z3:Rows→kx:=(fun r0=>((true,[.sl r0]):kx))
def ngG (i vf Ny tW Oz OA:Int) (su:Rows):St:= {n:=19,sl:=[(1,.ptr 64 0),(3,.own 640192),(4,.int .i64 i)],hp:=[(64,.box 199 [.int .i64 vf,.int .i64 Ny,.int .i64 tW,.int .i64 Oz,.int .i64 OA]),(640192,.row 3 [.i] su false true)],ok:=true,ls:=[],lm:=[]}
theorem nhK:DV Tryz.prog 261 Tc:=by
 refine qw (A:=Z1) nhL Tryz.func261 fun ds (hw:jV (nD.ct++[]) ds) _=> ?_
 obtain⟨f,ds,rfl,_,hw⟩:=nD.nC (r:=_) hw
 obtain rfl:=nA hw
 obtain⟨N,hN⟩:=nhJ Vm.jX Z3 f
 exact⟨N,eL (fun l_=>Td Vm.jX Z3 l_ f) (funext fun vf=>funext fun Ny=>funext fun tW=>funext fun Oz=>funext fun OA=>nL2 (LB Tryz.prog Z2 Z1 N Tryz.f261 Tc [true,true,false,true,false] []) (fun i su=>ngG i vf Ny tW Oz OA su) _ N) hN⟩
def rj:Sum:= {ps:=[⟨ni.ct,true⟩],rs:=[⟨[.dV .bool],false⟩],fn:=fun ds=>(true,[.bool (vY (ni.nh ds 0))])}
def vN:Ctx:=[(46,nL),(260,Rr),(261,Tc)]
theorem ne2:bD Tryz.prog vN:=HZ o_ (HZ ngF (HZ nhK Jn))
def vM:List (Nat×lb):=[(4, {bY:=[(1,.mr),(12,.mr),(13,.mr),(14,.mr)],boxes:=[(64,[])]}),(14, {bY:=[(1,.mr),(3,.mr),(12,.mr),(13,.mr),(14,.mr),(49,.mr),(50,.mr),(51,.mr)],boxes:=[(64,[]),(256,[])]})]
def ri:Bool→kx:=(fun r0=>((true,[.bool r0]):kx))
def sg (x:Rows) (ot oA:Int) (sK:Rows):St:= {n:=67,sl:=[(1,.ptr 64 0),(12,.sl [.i,.i,.i,.i,.i,.i,.i] x),(13,.int .i64 ot),(14,.int .i64 oA)],hp:=[(64,.box 54 [.sl [.i,.i,.i,.i,.i,.i,.i] sK])],ok:=true,ls:=[],lm:=[]}
def xl (oA:Int) (x:Rows) (ot Qh x_6 x_7:Int) (sK:Rows) (s rP qK RE RF s_5 s_6:Int) (x_8:Rows):St:= {n:=67,sl:=[(1,.ptr 64 0),(3,.int .i64 oA),(12,.sl [.i,.i,.i,.i,.i,.i,.i] x),(13,.int .i64 ot),(14,.int .i64 Qh),(49,.own 643136),(50,.int .i64 x_6),(51,.int .i64 x_7)],hp:=[(64,.box 54 [.sl [.i,.i,.i,.i,.i,.i,.i] sK]),(256,.box 201 [.int .i64 s,.int .i64 rP,.int .i64 qK,.int .i64 RE,.int .i64 RF,.int .i64 s_5,.int .i64 s_6]),(643136,.row 3 [.i] x_8 false true)],ok:=true,ls:=[],lm:=[]}
noncomputable def xk (N:Nat) (o0:St→kx):(St→kx)→St→kx:=LB Tryz.prog vN vM N Tryz.f149 rj [true,true,false,true,false,false,true,true,false,false,true,true,true,true,true,false] [o0]
noncomputable def tr (N:Nat):(St→kx)→St→kx:=LB Tryz.prog vN vM N Tryz.f149 rj [true,true,false,true,false] []
theorem nc7 (N:Nat) (o0:St→kx) (oA:Int) (x:Rows) (ot Qh x_6:Int) (sK:Rows) (s rP qK RE RF s_5 s_6:Int) (x_8:Rows) (ih:St→kx) (x_7:Int):xk N o0 ih (xl oA x ot Qh x_6 x_7 sK s rP qK RE RF s_5 s_6 x_8)=uQ Vm.jX ri (fun oA=>o0 (sg x ot oA sK)) oA Qh x_6 sK x_8 (fun x_7=>ih (xl oA x ot Qh x_6 x_7 sK s rP qK RE RF s_5 s_6 x_8)) x_7:=by kernel_rfl
theorem nc9 (N:Nat) (o0:St→kx) (oA:Int) (x:Rows) (ot Qh x_6:Int) (sK:Rows) (s rP qK RE RF s_5 s_6:Int) (x_8:Rows) (m_:Nat):(fun x_7=>LC (xk N o0) m_ (xl oA x ot Qh x_6 x_7 sK s rP qK RE RF s_5 s_6 x_8))=sf Vm.jX ri N (fun oA=>o0 (sg x ot oA sK)) oA Qh x_6 sK x_8 m_:=by
 induction m_ with
 | zero=>rfl
 | succ m_ ih=>
  funext x_7
  refine (nc7 N o0 oA x ot Qh x_6 sK s rP qK RE RF s_5 s_6 x_8 (LC (xk N o0) m_) x_7).trans ?_
  rw[ih]
  rfl
theorem nc6 (N:Nat) (x:Rows) (ot:Int) (sK:Rows) (ih:St→kx) (oA:Int):tr N ih (sg x ot oA sK)=uP Vm.jX ri (fun oA Qh x_6 x_8 x_7=>LC (xk N ih) N (xl oA x ot Qh x_6 x_7 sK (rI (nth x (Int.toNat oA)) 0) (rI (nth x (Int.toNat oA)) 1) (rI (nth x (Int.toNat oA)) 2) (rI (nth x (Int.toNat oA)) 3) (rI (nth x (Int.toNat oA)) 4) (rI (nth x (Int.toNat oA)) 5) (rI (nth x (Int.toNat oA)) 6) x_8)) x ot sK (fun oA=>ih (sg x ot oA sK)) oA:=by kernel_rfl
theorem nc8 (N:Nat) (x:Rows) (ot:Int) (sK:Rows) (m_:Nat):(fun oA=>LC (tr N) m_ (sg x ot oA sK))=ry Vm.jX ri N x ot sK m_:=by
 induction m_ with
 | zero=>rfl
 | succ m_ ih=>
  funext oA
  refine (nc6 N x ot sK (LC (tr N) m_) oA).trans ?_
  have e1:=funext fun oA=>funext fun Qh=>funext fun x_6=>funext fun x_8=>nc9 N (LC (tr N) m_) oA x ot Qh x_6 sK (rI (nth x (Int.toNat oA)) 0) (rI (nth x (Int.toNat oA)) 1) (rI (nth x (Int.toNat oA)) 2) (rI (nth x (Int.toNat oA)) 3) (rI (nth x (Int.toNat oA)) 4) (rI (nth x (Int.toNat oA)) 5) (rI (nth x (Int.toNat oA)) 6) x_8 N
  rw[e1]
  rw[ih]
  rfl
theorem ne1 (N:Nat) (t:ni):HG Tryz.prog vN vM N Tryz.f149 rj (t.enc++([]))=yB Vm.jX ri N t:=by
 have nhR:HG Tryz.prog vN vM N Tryz.f149 rj (t.enc++([]))=yC Vm.jX ri (fun x ot sK oA=>LC (tr N) N (sg x ot oA sK)) t:=by kernel_rfl
 refine nhR.trans ?_
 unfold yB
 have e0:(fun x ot sK oA=>LC (tr N) N (sg x ot oA sK))=(fun x ot sK=>ry Vm.jX ri N x ot sK N):=by
  funext x ot sK
  exact nc8 N x ot sK N
 exact congrArg (fun l_=>yC Vm.jX ri l_ t) e0
theorem ne0:DV Tryz.prog 149 rj:=by
 refine qw (A:=vM) ne2 Tryz.func149 fun ds (hw:jV (ni.ct++[]) ds) _=> ?_
 obtain⟨t,ds,rfl,h_t,hw⟩:=ni.nC (r:=_) hw
 obtain rfl:=nA hw
 obtain⟨N,hN⟩:=neZ Vm.jX ri t h_t
 exact⟨N,((ne1 N t).trans hN).trans (by kernel_rfl)⟩
def Wa:Ctx:=[(33,nL),(250,PY)]
theorem nfY:bD Tryz.prog Wa:=HZ p_ (HZ nf4 Jn)
def V_:List (Nat×lb):=[(4, {bY:=[(1,.mr),(3,.mr)],boxes:=[(64,[])]})]
def Wb:Bool→kx:=(fun r0=>((true,[.bool r0]):kx))
def nek (k:Int) (sK:Rows):St:= {n:=49,sl:=[(1,.ptr 64 0),(3,.int .i64 k)],hp:=[(64,.box 54 [.sl [.i,.i,.i,.i,.i,.i,.i] sK])],ok:=true,ls:=[],lm:=[]}
theorem nfX:DV Tryz.prog 138 rj:=by
 refine qw (A:=V_) nfY Tryz.func138 fun ds (hw:jV (ni.ct++[]) ds) _=> ?_
 obtain⟨t,ds,rfl,h_t,hw⟩:=ni.nC (r:=_) hw
 obtain rfl:=nA hw
 obtain⟨N,hN⟩:=nfW Vm.jX Wb t h_t
 exact⟨N,eL (fun l_=>PR Vm.jX Wb l_ t) (funext fun sK=>nL1 (LB Tryz.prog Wa V_ N Tryz.f138 rj [true,true,false,true,false] []) (fun k=>nek k sK) _ N) hN⟩
def tq:Sum:= {ps:=[⟨nz.ct,true⟩,⟨[.i],false⟩],rs:=[⟨[.dV .bool],false⟩],fn:=fun ds=>(true,[.bool (vH (nz.nh ds 0) (rI ds 2))])}
def TK:Ctx:=[(46,nL),(262,wk)]
theorem nc5:bD Tryz.prog TK:=HZ o_ (HZ nbn Jn)
def TJ:List (Nat×lb):=[(4, {bY:=[(1,.mr),(24,.mr),(25,.mr),(26,.mr)],boxes:=[(128,[])]})]
def TL:Bool→kx:=(fun r0=>((true,[.bool r0]):kx))
def nbj (nf:Int) (x:Rows) (ot oA:Int) (rP:Bytes) (qK:Rows):St:= {n:=36,sl:=[(1,.int .i64 nf),(24,.sl [.i] x),(25,.int .i64 ot),(26,.int .i64 oA)],hp:=[(128,.box 55 [.str rP,.sl [.i] qK])],ok:=true,ls:=[],lm:=[]}
theorem nc4:DV Tryz.prog 150 tq:=by
 refine qw (A:=TJ) nc5 Tryz.func150 fun ds (hw:jV (nz.ct++[.i]) ds) _=> ?_
 obtain⟨s,ds,rfl,h_s,hw⟩:=nz.nC (r:=_) hw
 obtain⟨nf,rfl,_⟩:=nw hw
 obtain⟨N,hN⟩:=nc3 Vm.jX TL s nf h_s
 exact⟨N,eL (fun l_=>NG Vm.jX TL l_ s nf) (funext fun x=>funext fun ot=>nL1 (LB Tryz.prog TK TJ N Tryz.f150 tq [true,true,false,true,false] []) (fun oA=>nbj nf x ot oA s.Key s.Table) _ N) hN⟩
def UR:Ctx:=[(33,nL),(251,wk)]
theorem nej:bD Tryz.prog UR:=HZ p_ (HZ nf0 Jn)
def UQ:List (Nat×lb):=[(4, {bY:=[(1,.mr),(2,.mr),(5,.mr)],boxes:=[(128,[])]})]
def US:Bool→kx:=(fun r0=>((true,[.bool r0]):kx))
def ncl (nf k:Int) (rP:Bytes) (qK:Rows):St:= {n:=38,sl:=[(1,.int .i64 nf),(2,.ptr 128 0),(5,.int .i64 k)],hp:=[(128,.box 55 [.str rP,.sl [.i] qK])],ok:=true,ls:=[],lm:=[]}
theorem nei:DV Tryz.prog 139 tq:=by
 refine qw (A:=UQ) nej Tryz.func139 fun ds (hw:jV (nz.ct++[.i]) ds) _=> ?_
 obtain⟨s,ds,rfl,h_s,hw⟩:=nz.nC (r:=_) hw
 obtain⟨nf,rfl,_⟩:=nw hw
 obtain⟨N,hN⟩:=neh Vm.jX US s nf h_s
 exact⟨N,eL (fun l_=>NU Vm.jX US l_ s nf) (funext fun qK=>nL1 (LB Tryz.prog UR UQ N Tryz.f139 tq [true,true,false,true,false] []) (fun k=>ncl nf k s.Key qK) _ N) hN⟩
def oY:Sum:= {ps:=[⟨nj.ct,true⟩,⟨[.i],false⟩],rs:=[⟨[.dV .bool],false⟩],fn:=fun ds=>(true,[.bool (uk (nj.nh ds 0) (rI ds 4))])}
def tB:Ctx:=[(148,ud),(149,rj),(150,tq)]
theorem ZP:bD Tryz.prog tB:=HZ neX (HZ ne0 (HZ nc4 Jn))
def tA:List (Nat×lb):=[(4, {bY:=[(1,.mr),(2,.mr),(27,.mr),(28,.mr),(29,.mr)],boxes:=[(128,[])]}),(10, {bY:=[(1,.mr),(45,.mr),(46,.mr),(47,.mr)],boxes:=[(128,[])]})]
def pY:Bool→kx:=(fun r0=>((true,[.bool r0]):kx))
def sT (nf:Int) (x:Rows) (ot oA:Int) (rP qK:Rows) (RE:Bytes) (RF:Rows):St:= {n:=61,sl:=[(1,.int .i64 nf),(2,.ptr 128 0),(27,.sl [.i,.i,.i,.i,.i,.i,.i,.i,.i] x),(28,.int .i64 ot),(29,.int .i64 oA)],hp:=[(128,.box 57 [.sl [.i,.i,.i,.i,.i,.i,.i,.i,.i] rP,.sl [.i,.i,.i,.i,.i,.i,.i] qK,.str RE,.sl [.i] RF])],ok:=true,ls:=[],lm:=[]}
def uv (nf:Int) (qK:Rows) (x_4 Qh:Int) (rP s_6:Rows) (RE:Bytes) (RF:Rows):St:= {n:=61,sl:=[(1,.int .i64 nf),(45,.sl [.i,.i,.i,.i,.i,.i,.i] qK),(46,.int .i64 x_4),(47,.int .i64 Qh)],hp:=[(128,.box 57 [.sl [.i,.i,.i,.i,.i,.i,.i,.i,.i] rP,.sl [.i,.i,.i,.i,.i,.i,.i] s_6,.str RE,.sl [.i] RF])],ok:=true,ls:=[],lm:=[]}
noncomputable def uu (N:Nat):(St→kx)→St→kx:=LB Tryz.prog tB tA N Tryz.f48 oY [true,true,true,false,true,false] []
noncomputable def sP (N:Nat):(St→kx)→St→kx:=LB Tryz.prog tB tA N Tryz.f48 oY [true,true,false,true,false] []
theorem Yj (N:Nat) (nf:Int) (qK:Rows) (x_4:Int) (rP s_6:Rows) (RE:Bytes) (RF:Rows) (ih:St→kx) (Qh:Int):uu N ih (uv nf qK x_4 Qh rP s_6 RE RF)=sR Vm.jX pY nf qK x_4 (fun Qh=>ih (uv nf qK x_4 Qh rP s_6 RE RF)) Qh:=by kernel_rfl
theorem Yl (N:Nat) (nf:Int) (qK:Rows) (x_4:Int) (rP s_6:Rows) (RE:Bytes) (RF:Rows) (m_:Nat):(fun Qh=>LC (uu N) m_ (uv nf qK x_4 Qh rP s_6 RE RF))=qQ Vm.jX pY N nf qK x_4 m_:=by
 induction m_ with
 | zero=>rfl
 | succ m_ ih=>
  funext Qh
  refine (Yj N nf qK x_4 rP s_6 RE RF (LC (uu N) m_) Qh).trans ?_
  rw[ih]
  rfl
theorem Yi (N:Nat) (nf:Int) (x:Rows) (ot:Int) (rP qK:Rows) (RE:Bytes) (RF:Rows) (ih:St→kx) (oA:Int):sP N ih (sT nf x ot oA rP qK RE RF)=sQ Vm.jX pY (fun x_4 Qh=>LC (uu N) N (uv nf qK x_4 Qh rP qK RE RF)) nf x ot qK (fun oA=>ih (sT nf x ot oA rP qK RE RF)) oA:=by kernel_rfl
theorem Yk (N:Nat) (nf:Int) (x:Rows) (ot:Int) (rP qK:Rows) (RE:Bytes) (RF:Rows) (m_:Nat):(fun oA=>LC (sP N) m_ (sT nf x ot oA rP qK RE RF))=qP Vm.jX pY N nf x ot qK m_:=by
 induction m_ with
 | zero=>rfl
 | succ m_ ih=>
  funext oA
  refine (Yi N nf x ot rP qK RE RF (LC (sP N) m_) oA).trans ?_
  have e1:=funext fun x_4=>Yl N nf qK x_4 rP qK RE RF N
  rw[e1]
  rw[ih]
  rfl
theorem ZO (N:Nat) (s:nj) (nf:Int):HG Tryz.prog tB tA N Tryz.f48 oY (s.enc++(.int nf::([])))=vi Vm.jX pY N s nf:=by
 have nhR:HG Tryz.prog tB tA N Tryz.f48 oY (s.enc++(.int nf::([])))=vj Vm.jX pY (fun x ot qK oA=>LC (sP N) N (sT nf x ot oA s.nP qK s.nG.Key s.nG.Table)) s nf:=by kernel_rfl
 refine nhR.trans ?_
 unfold vi
 have e0:(fun x ot qK oA=>LC (sP N) N (sT nf x ot oA s.nP qK s.nG.Key s.nG.Table))=(fun x ot qK=>qP Vm.jX pY N nf x ot qK N):=by
  funext x ot qK
  exact Yk N nf x ot s.nP qK s.nG.Key s.nG.Table N
 exact congrArg (fun l_=>vj Vm.jX pY l_ s nf) e0
theorem ZN:DV Tryz.prog 48 oY:=by
 refine qw (A:=tA) ZP Tryz.func48 fun ds (hw:jV (nj.ct++[.i]) ds) _=> ?_
 obtain⟨s,ds,rfl,h_s,hw⟩:=nj.nC (r:=_) hw
 obtain⟨nf,rfl,_⟩:=nw hw
 obtain⟨N,hN⟩:=ZM Vm.jX pY s nf h_s
 exact⟨N,((ZO N s nf).trans hN).trans (by kernel_rfl)⟩
def tO:Ctx:=[(137,ud),(138,rj),(139,tq)]
theorem na1:bD Tryz.prog tO:=HZ nfU (HZ nfX (HZ nei Jn))
def tN:List (Nat×lb):=[(4, {bY:=[(1,.mr),(2,.mr),(5,.mr)],boxes:=[(128,[])]}),(9, {bY:=[(1,.mr),(2,.mr),(6,.mr)],boxes:=[(128,[])]})]
def p9:Bool→kx:=(fun r0=>((true,[.bool r0]):kx))
def te (nf k:Int) (rP qK:Rows) (RE:Bytes) (RF:Rows):St:= {n:=56,sl:=[(1,.int .i64 nf),(2,.ptr 128 0),(5,.int .i64 k)],hp:=[(128,.box 57 [.sl [.i,.i,.i,.i,.i,.i,.i,.i,.i] rP,.sl [.i,.i,.i,.i,.i,.i,.i] qK,.str RE,.sl [.i] RF])],ok:=true,ls:=[],lm:=[]}
def uG (nf qu:Int) (rP qK:Rows) (RE:Bytes) (RF:Rows):St:= {n:=56,sl:=[(1,.int .i64 nf),(2,.ptr 128 0),(6,.int .i64 qu)],hp:=[(128,.box 57 [.sl [.i,.i,.i,.i,.i,.i,.i,.i,.i] rP,.sl [.i,.i,.i,.i,.i,.i,.i] qK,.str RE,.sl [.i] RF])],ok:=true,ls:=[],lm:=[]}
noncomputable def uF (N:Nat):(St→kx)→St→kx:=LB Tryz.prog tO tN N Tryz.f35 oY [true,true,true,false,true,false] []
noncomputable def ta (N:Nat):(St→kx)→St→kx:=LB Tryz.prog tO tN N Tryz.f35 oY [true,true,false,true,false] []
theorem Zb (N:Nat) (nf:Int) (rP qK:Rows) (RE:Bytes) (RF:Rows) (ih:St→kx) (qu:Int):uF N ih (uG nf qu rP qK RE RF)=tc Vm.jX p9 nf qK (fun qu=>ih (uG nf qu rP qK RE RF)) qu:=by kernel_rfl
theorem Zd (N:Nat) (nf:Int) (rP qK:Rows) (RE:Bytes) (RF:Rows) (m_:Nat):(fun qu=>LC (uF N) m_ (uG nf qu rP qK RE RF))=qS Vm.jX p9 N nf qK m_:=by
 induction m_ with
 | zero=>rfl
 | succ m_ ih=>
  funext qu
  refine (Zb N nf rP qK RE RF (LC (uF N) m_) qu).trans ?_
  rw[ih]
  rfl
theorem Za (N:Nat) (nf:Int) (rP qK:Rows) (RE:Bytes) (RF:Rows) (ih:St→kx) (k:Int):ta N ih (te nf k rP qK RE RF)=tb Vm.jX p9 (fun qu=>LC (uF N) N (uG nf qu rP qK RE RF)) nf rP qK (fun k=>ih (te nf k rP qK RE RF)) k:=by kernel_rfl
theorem Zc (N:Nat) (nf:Int) (rP qK:Rows) (RE:Bytes) (RF:Rows) (m_:Nat):(fun k=>LC (ta N) m_ (te nf k rP qK RE RF))=qR Vm.jX p9 N nf rP qK m_:=by
 induction m_ with
 | zero=>rfl
 | succ m_ ih=>
  funext k
  refine (Za N nf rP qK RE RF (LC (ta N) m_) k).trans ?_
  have e1:=Zd N nf rP qK RE RF N
  rw[e1]
  rw[ih]
  rfl
theorem na0 (N:Nat) (s:nj) (nf:Int):HG Tryz.prog tO tN N Tryz.f35 oY (s.enc++(.int nf::([])))=vD Vm.jX p9 N s nf:=by
 have nhR:HG Tryz.prog tO tN N Tryz.f35 oY (s.enc++(.int nf::([])))=vE Vm.jX p9 (fun rP qK k=>LC (ta N) N (te nf k rP qK s.nG.Key s.nG.Table)) s nf:=by kernel_rfl
 refine nhR.trans ?_
 unfold vD
 have e0:(fun rP qK k=>LC (ta N) N (te nf k rP qK s.nG.Key s.nG.Table))=(fun rP qK=>qR Vm.jX p9 N nf rP qK N):=by
  funext rP qK
  exact Zc N nf rP qK s.nG.Key s.nG.Table N
 exact congrArg (fun l_=>vE Vm.jX p9 l_ s nf) e0
theorem naZ:DV Tryz.prog 35 oY:=by
 refine qw (A:=tN) na1 Tryz.func35 fun ds (hw:jV (nj.ct++[.i]) ds) _=> ?_
 obtain⟨s,ds,rfl,h_s,hw⟩:=nj.nC (r:=_) hw
 obtain⟨nf,rfl,_⟩:=nw hw
 obtain⟨N,hN⟩:=naY Vm.jX p9 s nf h_s
 exact⟨N,((na0 N s nf).trans hN).trans (by kernel_rfl)⟩
def wi:Sum:= {ps:=[⟨[.i],false⟩,⟨[.i],false⟩],rs:=[⟨[.dV .i,.dV .i,.dV .i,.dV .i,.dV .bool,.dV .bool],true⟩,⟨[.dV .bool],false⟩],fn:=fun ds=>(true,nO.enc (pd (rI ds 0) (rI ds 1)).1++[.bool (pd (rI ds 0) (rI ds 1)).2])}
theorem nbi:DV Tryz.prog 45 wi:=by
 refine nU (Γ:=[(147,xm)]) (HZ nc_ Jn) Tryz.func45 fun ds (hw:jV ([.i,.i]) ds) _=> ?_
 obtain⟨count,ds,rfl,_,hw⟩:=nQ hw
 obtain⟨time,rfl,_⟩:=nw hw
 exact⟨0,eT (RU (fun r0 r1=>((true,nO.enc r0++[.bool r1]):kx)) count time)⟩
theorem nck:DV Tryz.prog 32 wi:=by
 refine nU (Γ:=[(136,xm)]) (HZ nel Jn) Tryz.func32 fun ds (hw:jV ([.i,.i]) ds) _=> ?_
 obtain⟨count,ds,rfl,_,hw⟩:=nQ hw
 obtain⟨time,rfl,_⟩:=nw hw
 exact⟨0,eT (RU (fun r0 r1=>((true,nO.enc r0++[.bool r1]):kx)) count time)⟩
def zk:Sum:= {ps:=[⟨[.i],false⟩],rs:=[⟨[.own 9 [.str]],true⟩],fn:=fun ds=>(true,na.enc (pL (rI ds 0)))}
def RR:Ctx:=[(46,nL),(151,Rm)]
theorem nbh:bD Tryz.prog RR:=HZ o_ (HZ ngx Jn)
def RQ:List (Nat×lb):=[(5, {bY:=[(0,.mr),(2,.mr),(3,.mr),(4,.mr)],boxes:=[(128,[]),(192,[])]})]
def RS:na→kx:=(fun r0=>((true,na.enc r0):kx))
def ZL (ou i:Int) (m_0:Rows):St:= {n:=23,sl:=[(0,.int .i64 ou),(2,.ptr 128 0),(3,.ptr 192 0),(4,.int .i64 i)],hp:=[(128,.box 37 [.nil]),(192,.box 37 [.own 1329152]),(1329152,.row 9 [.str] m_0 false true)],ok:=true,ls:=[],lm:=[]}
theorem nbg:DV Tryz.prog 49 zk:=by
 refine qw (A:=RQ) nbh Tryz.func49 fun ds (hw:jV ([.i]) ds) _=> ?_
 obtain⟨ou,rfl,_⟩:=nw hw
 obtain⟨N,hN⟩:=nbf Vm.jX RS ou
 exact⟨N,eL (fun l_=>zl Vm.jX RS l_ ou) (nL2 (LB Tryz.prog RR RQ N Tryz.f49 zk [true,true,true,false,true,false] []) (ZL ou) _ N) hN⟩
def rZ:Sum:= {ps:=[⟨[.i],false⟩,⟨[.i],false⟩,⟨[.i],false⟩],rs:=[⟨[.dV .i,.dV .i,.dV .i,.own 3 [.i]],true⟩,⟨[.dV .bool],false⟩],fn:=fun ds=>(naO (rI ds 0) (rI ds 1) (rI ds 2),nt.enc (uj (rI ds 0) (rI ds 1) (rI ds 2)).1++[.bool (uj (rI ds 0) (rI ds 1) (rI ds 2)).2])}
def Vc:Ctx:=[(160,qZ)]
theorem neS:bD Tryz.prog Vc:=HZ Rf Jn
def Vb:List (Nat×lb):=[(5, {bY:=[(2,.mr),(6,.mr),(8,.mr),(9,.mr)],boxes:=[(384,[]),(512,[(3,.own 3)])]})]
def Vd:nt→Bool→kx:=(fun r0 r1=>((true,nt.enc r0++[.bool r1]):kx))
def ncZ (count k b6 nkk nkl base size zX:Int) (vF:Rows):St:= {n:=30,sl:=[(2,.int .i64 count),(6,.ptr 384 0),(8,.ptr 512 0),(9,.int .i64 k)],hp:=[(384,.box 42 [.int .i64 b6,.int .i64 nkk,.int .i64 nkl,.nil]),(512,.box 42 [.int .i64 base,.int .i64 size,.int .i64 zX,.own 1411075]),(1411075,.row 3 [.i] vF false true)],ok:=true,ls:=[],lm:=[]}
theorem Vf:DV Tryz.prog 152 rZ:=by
 refine qw (A:=Vb) neS Tryz.func152 fun ds (hw:jV ([.i,.i,.i]) ds) aI=> ?_
 obtain⟨base,ds,rfl,_,hw⟩:=nQ hw
 obtain⟨size,ds,rfl,_,hw⟩:=nQ hw
 obtain⟨count,rfl,_⟩:=nw hw
 obtain⟨N,hN⟩:=neR Vm.jX Vd base size count aI
 exact⟨N,eL (fun l_=>OK Vm.jX Vd l_ base size count) (funext fun zX=>nL2 (LB Tryz.prog Vc Vb N Tryz.f152 rZ [true,true,true,false,true,false] []) (fun k vF=>ncZ count k 0 0 0 base size zX vF) _ N) hN⟩
def V1:Ctx:=[(193,qZ)]
theorem nfP:bD Tryz.prog V1:=HZ RG Jn
def V0:List (Nat×lb):=[(3, {bY:=[(2,.mr),(6,.mr),(8,.mr),(9,.mr)],boxes:=[(384,[]),(512,[(3,.own 3)])]})]
def V2:nt→Bool→kx:=(fun r0 r1=>((true,nt.enc r0++[.bool r1]):kx))
def neb (count k b6 nkk nkl base size zX:Int) (vF:Rows):St:= {n:=34,sl:=[(2,.int .i64 count),(6,.ptr 384 0),(8,.ptr 512 0),(9,.int .i64 k)],hp:=[(384,.box 42 [.int .i64 b6,.int .i64 nkk,.int .i64 nkl,.nil]),(512,.box 42 [.int .i64 base,.int .i64 size,.int .i64 zX,.own 1411075]),(1411075,.row 3 [.i] vF false true)],ok:=true,ls:=[],lm:=[]}
theorem V4:DV Tryz.prog 141 rZ:=by
 refine qw (A:=V0) nfP Tryz.func141 fun ds (hw:jV ([.i,.i,.i]) ds) aI=> ?_
 obtain⟨base,ds,rfl,_,hw⟩:=nQ hw
 obtain⟨size,ds,rfl,_,hw⟩:=nQ hw
 obtain⟨count,rfl,_⟩:=nw hw
 obtain⟨N,hN⟩:=nfO Vm.jX V2 base size count aI
 exact⟨N,eL (fun l_=>PM Vm.jX V2 l_ base size count) (funext fun zX=>nL2 (LB Tryz.prog V1 V0 N Tryz.f141 rZ [true,true,false,true,false] []) (fun k vF=>neb count k 0 0 0 base size zX vF) _ N) hN⟩
def tg:Sum:= {ps:=[⟨[.sl [.i,.i,.i,.bool]],false⟩,⟨na.ct,true⟩,⟨[.i],false⟩,⟨ny.ct,true⟩,⟨nt.ct,true⟩],rs:=[⟨[.own 9 [.str]],true⟩,⟨[.dV .i,.dV .i,.dV .i,.dV .i],true⟩,⟨[.dV .i,.dV .i,.dV .i,.own 3 [.i]],true⟩,⟨[.dV .i],false⟩],fn:=fun ds=>(U8 (rR ds 0) (na.nh ds 1) (rI ds 2) (ny.nh ds 3) (nt.nh ds 7),na.enc (oT (rR ds 0) (na.nh ds 1) (rI ds 2) (ny.nh ds 3) (nt.nh ds 7)).1++ny.enc (oT (rR ds 0) (na.nh ds 1) (rI ds 2) (ny.nh ds 3) (nt.nh ds 7)).2.1++nt.enc (oT (rR ds 0) (na.nh ds 1) (rI ds 2) (ny.nh ds 3) (nt.nh ds 7)).2.2.1++[.int (oT (rR ds 0) (na.nh ds 1) (rI ds 2) (ny.nh ds 3) (nt.nh ds 7)).2.2.2])}
def Tp:Ctx:=[(153,uR),(157,tC),(158,xo),(159,sH),(160,qZ),(161,vg),(162,tz),(163,yA)]
theorem ncL:bD Tryz.prog Tp:=HZ xn (HZ vk (HZ ndc (HZ Rh (HZ Rf (HZ ZH (HZ Va (HZ neV Jn)))))))
def To:List (Nat×lb):=[(6, {bY:=[(0,.mr),(2,.mr),(8,.mr),(9,.mr),(10,.mr),(11,.mr),(12,.mr),(14,.mr),(15,.mr),(16,.mr),(39,.mr),(40,.mr),(41,.mr)],boxes:=[(384,[]),(512,[]),(576,[]),(640,[]),(704,[]),(768,[]),(896,[]),(960,[])]})]
def Tq:na→ny→nt→Int→kx:=(fun r0 r1 r2 r3=>((true,na.enc r0++ny.enc r1++nt.enc r2++[.int r3]):kx))
def nbb (nc:Rows) (domain n:Int) (x:Rows) (ot oA:Int) (tX:Rows) (r_1 r_2 r_3 r_4 YY zX vF:Int) (Nq:Rows) (b11 njl njm njn S6 q_ ra y8 rE rF:Int) (pB wV:Rows):St:= {n:=80,sl:=[(0,.sl [.i,.i,.i,.bool] nc),(2,.int .i64 domain),(8,.ptr 512 0),(9,.ptr 576 0),(10,.ptr 640 0),(11,.ptr 704 0),(12,.ptr 768 0),(14,.ptr 896 0),(15,.ptr 960 0),(16,.int .i64 n),(39,.sl [.i] x),(40,.int .i64 ot),(41,.int .i64 oA)],hp:=[(384,.box 37 [.sl [.str] tX]),(512,.box 40 [.int .i64 r_1,.int .i64 r_2,.int .i64 r_3,.int .i64 r_4]),(576,.box 42 [.int .i64 YY,.int .i64 zX,.int .i64 vF,.sl [.i] Nq]),(640,.box 37 [.nil]),(704,.box 40 [.int .i64 b11,.int .i64 njl,.int .i64 njm,.int .i64 njn]),(768,.box 42 [.int .i64 S6,.int .i64 q_,.int .i64 ra,.nil]),(896,.box 37 [.own 1509376]),(960,.box 42 [.int .i64 y8,.int .i64 rE,.int .i64 rF,.own 1525763]),(1509376,.row 9 [.str] pB false true),(1525763,.row 3 [.i] wV false true)],ok:=true,ls:=[],lm:=[]}
theorem ncK:DV Tryz.prog 54 tg:=by
 refine qw (A:=To) ncL Tryz.func54 fun ds hw aI=> ?_
 replace hw:jV ((.sl [.i,.i,.i,.bool])::(na.ct++(.i::(ny.ct++(nt.ct++[]))))) ds:=hw
 obtain⟨nc,ds,rfl,_,hw⟩:=nX hw
 obtain⟨m,ds,rfl,_,hw⟩:=na.nC (r:=_) hw
 obtain⟨domain,ds,rfl,_,hw⟩:=nQ hw
 obtain⟨r,ds,rfl,_,hw⟩:=ny.nC (r:=_) hw
 obtain⟨p,ds,rfl,_,hw⟩:=nt.nC (r:=_) hw
 obtain rfl:=nA hw
 obtain⟨N,hN⟩:=ncJ Vm.jX Tq nc m domain r p aI
 exact⟨N,eL (fun l_=>NB Vm.jX Tq l_ nc m domain r p) (funext fun x=>funext fun ot=>funext fun YY=>funext fun zX=>funext fun vF=>funext fun Nq=>funext fun y8=>funext fun rE=>funext fun rF=>nL7 (LB Tryz.prog Tp To N Tryz.f54 tg [true,true,true,true,false,true,false] []) (fun n oA r_1 r_2 r_3 r_4 pB=>nbb nc domain n x ot oA m.nF r_1 r_2 r_3 r_4 YY zX vF Nq 0 0 0 0 0 0 0 y8 rE rF pB ((qY p).nY)) _ N) hN⟩
def Ux:Ctx:=[(186,vU),(188,xo),(193,qZ),(217,tz),(253,sH),(254,uN),(255,yA),(256,vg)]
theorem ndZ:bD Tryz.prog Ux:=HZ y5 (HZ ngb (HZ RG (HZ VZ (HZ RI (HZ UN (HZ nfS (HZ naS Jn)))))))
def Uw:List (Nat×lb):=[(6, {bY:=[(0,.mr),(2,.mr),(8,.mr),(9,.mr),(10,.mr),(11,.mr),(12,.mr),(14,.mr),(15,.mr),(16,.mr)],boxes:=[(384,[]),(512,[]),(576,[]),(640,[]),(704,[]),(768,[]),(896,[]),(960,[])]})]
def Uy:na→ny→nt→Int→kx:=(fun r0 r1 r2 r3=>((true,na.enc r0++ny.enc r1++nt.enc r2++[.int r3]):kx))
def nca (nc:Rows) (domain n:Int) (tX:Rows) (r_1 r_2 r_3 r_4 YY zX vF:Int) (Nq:Rows) (b11 njl njm njn S6 q_ ra y8 rE rF:Int) (pB wV:Rows):St:= {n:=82,sl:=[(0,.sl [.i,.i,.i,.bool] nc),(2,.int .i64 domain),(8,.ptr 512 0),(9,.ptr 576 0),(10,.ptr 640 0),(11,.ptr 704 0),(12,.ptr 768 0),(14,.ptr 896 0),(15,.ptr 960 0),(16,.int .i64 n)],hp:=[(384,.box 37 [.sl [.str] tX]),(512,.box 40 [.int .i64 r_1,.int .i64 r_2,.int .i64 r_3,.int .i64 r_4]),(576,.box 42 [.int .i64 YY,.int .i64 zX,.int .i64 vF,.sl [.i] Nq]),(640,.box 37 [.nil]),(704,.box 40 [.int .i64 b11,.int .i64 njl,.int .i64 njm,.int .i64 njn]),(768,.box 42 [.int .i64 S6,.int .i64 q_,.int .i64 ra,.nil]),(896,.box 37 [.own 1509376]),(960,.box 42 [.int .i64 y8,.int .i64 rE,.int .i64 rF,.own 1525763]),(1509376,.row 9 [.str] pB false true),(1525763,.row 3 [.i] wV false true)],ok:=true,ls:=[],lm:=[]}
theorem ndY:DV Tryz.prog 144 tg:=by
 refine qw (A:=Uw) ndZ Tryz.func144 fun ds hw aI=> ?_
 replace hw:jV ((.sl [.i,.i,.i,.bool])::(na.ct++(.i::(ny.ct++(nt.ct++[]))))) ds:=hw
 obtain⟨nc,ds,rfl,_,hw⟩:=nX hw
 obtain⟨m,ds,rfl,_,hw⟩:=na.nC (r:=_) hw
 obtain⟨domain,ds,rfl,_,hw⟩:=nQ hw
 obtain⟨r,ds,rfl,_,hw⟩:=ny.nC (r:=_) hw
 obtain⟨p,ds,rfl,_,hw⟩:=nt.nC (r:=_) hw
 obtain rfl:=nA hw
 obtain⟨N,hN⟩:=ndX Vm.jX Uy nc m domain r p aI
 exact⟨N,eL (fun l_=>NQ Vm.jX Uy l_ nc m domain r p) (funext fun YY=>funext fun zX=>funext fun vF=>funext fun Nq=>funext fun y8=>funext fun rE=>funext fun rF=>nL7 (LB Tryz.prog Ux Uw N Tryz.f144 tg [true,true,true,true,true,false,false] []) (fun n r_1 r_2 r_3 r_4 pB wV=>nca nc domain n m.nF r_1 r_2 r_3 r_4 YY zX vF Nq 0 0 0 0 0 0 0 y8 rE rF pB wV) _ N) hN⟩
def Oo:Sum:= {ps:=[],rs:=[⟨[.dV .i,.dV .i,.dV .i,.dV .i,.dV .i,.dV .i,.dV .i,.own 3 [.i],.deep 304 [.i,.i,.sl [.i]] [3],.dV .i],true⟩],fn:=fun ds=>(true,nH.enc nE)}
theorem nhE:DV Tryz.prog 50 Oo:=by
 refine nU (Γ:=[(152,rZ)]) (HZ Vf Jn) Tryz.func50 fun ds hw _=> ?_
 obtain rfl:=nA hw
 exact⟨0,eT (ZX Vm.jX (fun r0=>((true,nH.enc r0):kx)))⟩
theorem net:DV Tryz.prog 37 Oo:=by
 refine nU (Γ:=[(141,rZ)]) (HZ V4 Jn) Tryz.func37 fun ds hw _=> ?_
 obtain rfl:=nA hw
 exact⟨0,eT (ZX Vm.jX (fun r0=>((true,nH.enc r0):kx)))⟩
def Xv:Sum:= {ps:=[⟨[.i],false⟩],rs:=[⟨[.dV .i],false⟩],fn:=fun ds=>(true,[.int (VY (rI ds 0))])}
theorem ngC:DV Tryz.prog 156 Xv:=by
 refine nU Jn Tryz.func156 fun ds (hw:jV ([.i]) ds) _=> ?_
 obtain⟨k,rfl,_⟩:=nw hw
 exact⟨0,eT (ngB (fun r0=>((true,[.int r0]):kx)) k)⟩
def ZV:Sum:= {ps:=[⟨[.i],false⟩],rs:=[⟨[.dV .i,.dV .i,.dV .i,.dV .i,.dV .i,.dV .i,.dV .i,.dV .i,.dV .i,.dV .i,.dV .i,.dV .i,.dV .i,.dV .i,.dV .i,.dV .i,.dV .i,.dV .i,.dV .i,.dV .i,.dV .i,.dV .i,.dV .i,.dV .i,.dV .i,.dV .str,.dV .i,.dV .i,.dV .bool,.dV .i],true⟩,⟨[.dV .i,.dV .i,.dV .i,.own 3 [.i]],true⟩],fn:=fun ds=>(true,nW.enc (oC (rI ds 0)).1++nt.enc (oC (rI ds 0)).2)}
theorem nhD:DV Tryz.prog 53 ZV:=by
 refine nU (Γ:=[(152,rZ),(156,Xv)]) (HZ Vf (HZ ngC Jn)) Tryz.func53 fun ds (hw:jV ([.i]) ds) _=> ?_
 obtain⟨k,rfl,_⟩:=nw hw
 exact⟨0,eT (nhC Vm.jX (fun r0 r1=>((true,nW.enc r0++nt.enc r1):kx)) k)⟩
def Wu:Sum:= {ps:=[⟨nB.ct,true⟩,⟨[.i],false⟩],rs:=[],fn:=fun ds=>(nhm (nB.nh ds 0) (rI ds 33),nB.enc (Z5 (nB.nh ds 0) (rI ds 33))),ms:=[some (.cH 62 [.flat 9,.flat 113,.flat 3,.deep 304 [3],.flat 123,.deep 42 [3],.flat 102,.flat 4,.flat 3,.flat 197,.flat 201,.flat 3,.flat 232,.flat 9,.flat 3,.flat 3]),none]}
def nge:Ctx:=[(140,yZ),(141,rZ),(143,zK),(144,tg)]
theorem ngh:bD Tryz.prog nge:=HZ Wg (HZ V4 (HZ nce (HZ ndY Jn)))
theorem ngg:B8 Tryz.prog 40 Wu:=by
 refine ya (A:=[]) ngh Tryz.func40 fun ds (hw:jV (nB.ct++[.i]) ds) aI=> ?_
 obtain⟨h,ds,rfl,h_h,hw⟩:=nB.nC (r:=_) hw
 obtain⟨k,rfl,_⟩:=nw hw
 exact⟨0,eT (ngf Vm.jX (fun r0=>((true,nB.enc r0):kx)) h k h_h aI)⟩
def pI:Sum:= {ps:=[⟨[.i],false⟩,⟨nm.ct,true⟩,⟨nj.ct,true⟩,⟨[.bool],false⟩,⟨[.i],false⟩,⟨[.i],false⟩],rs:=[⟨[.own 9 [.str],.own 113 [.i,.i,.i,.bool],.dV .i,.dV .i,.dV .i,.dV .i,.dV .i,.dV .i,.dV .i,.own 3 [.i],.deep 304 [.i,.i,.sl [.i]] [3],.dV .i,.own 123 [.i,.i,.i,.i,.i,.i,.i,.i,.i,.i,.i,.i,.i,.i,.i,.i,.i,.i,.i,.i,.i,.i,.i,.i,.i,.str,.i,.i,.bool,.i],.deep 42 [.i,.i,.i,.sl [.i]] [3],.own 102 [.i,.i,.i,.i,.bool,.bool],.own 4 [.bool],.dV .i,.dV .bool,.own 3 [.i],.own 197 [.i,.i,.i,.i,.i,.i,.i,.i,.i],.own 201 [.i,.i,.i,.i,.i,.i,.i],.dV .str,.own 3 [.i],.own 232 [.i,.i,.i,.i,.i,.i,.str,.bool],.dV .bool,.own 9 [.str],.own 3 [.i],.own 3 [.i],.dV .i,.dV .i,.dV .i,.dV .i,.dV .i],true⟩,⟨[.dV .bool],false⟩],fn:=fun ds=>(ncA (rI ds 0) (nm.nh ds 1) (nj.nh ds 4) (rB ds 8) (rI ds 9) (rI ds 10),nB.enc (xe (rI ds 0) (nm.nh ds 1) (nj.nh ds 4) (rB ds 8) (rI ds 9) (rI ds 10)).1++[.bool (xe (rI ds 0) (nm.nh ds 1) (nj.nh ds 4) (rB ds 8) (rI ds 9) (rI ds 10)).2])}
def vL:Ctx:=[(1125899906842728,JP),(1125899906842729,JP),(45,wi),(46,nL),(47,th),(48,oY),(49,zk),(50,Oo),(51,y6),(52,y4),(53,ZV),(54,tg)]
theorem neQ:bD Tryz.prog vL:=HZ Lc (HZ Lc (HZ nbi (HZ o_ (HZ ncN (HZ ZN (HZ nbg (HZ nhE (HZ ZR (HZ WL (HZ nhD (HZ ncK Jn)))))))))))
def vK:List (Nat×lb):=[(6, {bY:=[(0,.mr),(12,.mr),(14,.mr),(16,.mr),(17,.mr)],boxes:=[(448,[]),(512,[]),(768,[]),(896,[]),(1024,[(1,.own 113)])]}),(10, {bY:=[(0,.mr),(12,.mr),(14,.mr),(16,.mr),(18,.mr)],boxes:=[(448,[]),(512,[]),(768,[]),(896,[]),(1024,[(12,.own 123),(13,.deep 42 [3]),(14,.own 102),(15,.own 4)])]})]
def rh:nB→Bool→kx:=(fun r0 r1=>((true,nB.enc r0++[.bool r1]):kx))
def uM (nf p oK:Int) (oL:Bool) (oM n7 n8:Rows) (n9:Bytes) (n_:Rows) (S6 q_ ra rQ rT rU rV rW rX:Int) (rY:Bool) (qf:Bytes) (qg:Bool) (qh qi qj qk ql v sA sB sC:Int) (sD sE:Bool) (h u6 h_2 u7 u9 u_ va vb vc:Int) (vd:Bool) (pO:Bytes) (ng:Bool) (pP pQ pR pS pT:Int) (zh oz oG nV pU pV pW pX:Rows):St:= {n:=119,sl:=[(0,.int .i64 nf),(12,.ptr 768 0),(14,.ptr 896 0),(16,.ptr 1024 0),(17,.int .i64 p)],hp:=[(448,.box 50 [.int .i64 oK,.bool oL,.sl [.i] oM]),(512,.box 57 [.sl [.i,.i,.i,.i,.i,.i,.i,.i,.i] n7,.sl [.i,.i,.i,.i,.i,.i,.i] n8,.str n9,.sl [.i] n_]),(768,.box 62 [.nil,.nil,.int .i64 S6,.int .i64 q_,.int .i64 ra,.int .i64 rQ,.int .i64 rT,.int .i64 rU,.int .i64 rV,.nil,.nil,.int .i64 rW,.nil,.nil,.nil,.nil,.int .i64 rX,.bool rY,.nil,.nil,.nil,.str qf,.nil,.nil,.bool qg,.nil,.nil,.nil,.int .i64 qh,.int .i64 qi,.int .i64 qj,.int .i64 qk,.int .i64 ql]),(896,.box 102 [.int .i64 v,.int .i64 sA,.int .i64 sB,.int .i64 sC,.bool sD,.bool sE]),(1024,.box 62 [.own 1542144,.own 1542145,.int .i64 h,.int .i64 u6,.int .i64 h_2,.int .i64 u7,.int .i64 u9,.int .i64 u_,.int .i64 va,.own 1542153,.own 1542154,.int .i64 vb,.nil,.nil,.nil,.nil,.int .i64 vc,.bool vd,.own 1542162,.own 1542163,.own 1542164,.str pO,.own 1542166,.nil,.bool ng,.nil,.nil,.nil,.int .i64 pP,.int .i64 pQ,.int .i64 pR,.int .i64 pS,.int .i64 pT]),(1542144,.row 9 [.str] zh false true),(1542145,.row 113 [.i,.i,.i,.bool] oz false true),(1542153,.row 3 [.i] oG false true),(1542154,.deep 304 [.i,.i,.sl [.i]] [3] nV none),(1542162,.row 3 [.i] pU false true),(1542163,.row 197 [.i,.i,.i,.i,.i,.i,.i,.i,.i] pV false true),(1542164,.row 201 [.i,.i,.i,.i,.i,.i,.i] pW false true),(1542166,.row 3 [.i] pX false true)],ok:=true,ls:=[],lm:=[]}
def xh (nf k oK:Int) (oL:Bool) (oM n7 n8:Rows) (n9:Bytes) (n_:Rows) (S6 q_ ra rQ rT rU rV rW rX:Int) (rY:Bool) (qf:Bytes) (qg:Bool) (qh qi qj qk ql v sA sB sC:Int) (sD sE:Bool) (h u6 h_2 u7 u9 u_ va vb vc:Int) (vd:Bool) (pO:Bytes) (ng:Bool) (pP pQ pR pS pT:Int) (qN oz oG nV qx qy qz qA pU pV pW pX:Rows):St:= {n:=119,sl:=[(0,.int .i64 nf),(12,.ptr 768 0),(14,.ptr 896 0),(16,.ptr 1024 0),(18,.int .i64 k)],hp:=[(448,.box 50 [.int .i64 oK,.bool oL,.sl [.i] oM]),(512,.box 57 [.sl [.i,.i,.i,.i,.i,.i,.i,.i,.i] n7,.sl [.i,.i,.i,.i,.i,.i,.i] n8,.str n9,.sl [.i] n_]),(768,.box 62 [.nil,.nil,.int .i64 S6,.int .i64 q_,.int .i64 ra,.int .i64 rQ,.int .i64 rT,.int .i64 rU,.int .i64 rV,.nil,.nil,.int .i64 rW,.nil,.nil,.nil,.nil,.int .i64 rX,.bool rY,.nil,.nil,.nil,.str qf,.nil,.nil,.bool qg,.nil,.nil,.nil,.int .i64 qh,.int .i64 qi,.int .i64 qj,.int .i64 qk,.int .i64 ql]),(896,.box 102 [.int .i64 v,.int .i64 sA,.int .i64 sB,.int .i64 sC,.bool sD,.bool sE]),(1024,.box 62 [.own 1542144,.own 1542145,.int .i64 h,.int .i64 u6,.int .i64 h_2,.int .i64 u7,.int .i64 u9,.int .i64 u_,.int .i64 va,.own 1542153,.own 1542154,.int .i64 vb,.own 1542156,.own 1542157,.own 1542158,.own 1542159,.int .i64 vc,.bool vd,.own 1542162,.own 1542163,.own 1542164,.str pO,.own 1542166,.nil,.bool ng,.nil,.nil,.nil,.int .i64 pP,.int .i64 pQ,.int .i64 pR,.int .i64 pS,.int .i64 pT]),(1542144,.row 9 [.str] qN false true),(1542145,.row 113 [.i,.i,.i,.bool] oz false true),(1542153,.row 3 [.i] oG false true),(1542154,.deep 304 [.i,.i,.sl [.i]] [3] nV none),(1542156,.row 123 [.i,.i,.i,.i,.i,.i,.i,.i,.i,.i,.i,.i,.i,.i,.i,.i,.i,.i,.i,.i,.i,.i,.i,.i,.i,.str,.i,.i,.bool,.i] qx false true),(1542157,.deep 42 [.i,.i,.i,.sl [.i]] [3] qy none),(1542158,.row 102 [.i,.i,.i,.i,.bool,.bool] qz false true),(1542159,.row 4 [.bool] qA false true),(1542162,.row 3 [.i] pU false true),(1542163,.row 197 [.i,.i,.i,.i,.i,.i,.i,.i,.i] pV false true),(1542164,.row 201 [.i,.i,.i,.i,.i,.i,.i] pW false true),(1542166,.row 3 [.i] pX false true)],ok:=true,ls:=[],lm:=[]}
noncomputable def xg (N:Nat):(St→kx)→St→kx:=LB Tryz.prog vL vK N Tryz.f12 pI [true,true,true,true,true,false,true,false] []
noncomputable def uJ (N:Nat):(St→kx)→St→kx:=LB Tryz.prog vL vK N Tryz.f12 pI [true,true,true,true,false,true,false] []
theorem ncU (N:Nat) (nf oK:Int) (oL:Bool) (oM n7 n8:Rows) (n9:Bytes) (n_:Rows) (S6 q_ ra rQ rT rU rV rW rX:Int) (rY:Bool) (qf:Bytes) (qg:Bool) (qh qi qj qk ql v sA sB sC:Int) (sD sE:Bool) (h u6 h_2 u7 u9 u_ va vb vc:Int) (vd:Bool) (pO:Bytes) (ng:Bool) (pP pQ pR pS pT:Int) (oz oG nV pU pV pW pX:Rows) (ih:St→kx) (k:Int) (qN qx qy qz qA:Rows):xg N ih (xh nf k oK oL oM n7 n8 n9 n_ S6 q_ ra rQ rT rU rV rW rX rY qf qg qh qi qj qk ql v sA sB sC sD sE h u6 h_2 u7 u9 u_ va vb vc vd pO ng pP pQ pR pS pT qN oz oG nV qx qy qz qA pU pV pW pX)=uL Vm.jX rh nf v sA sB sC sD sE h u6 h_2 u7 u9 u_ va vb vc vd pO ng pP pQ pR pS pT oz oG nV pU pV pW pX (fun k qN qx qy qz qA=>ih (xh nf k oK oL oM n7 n8 n9 n_ S6 q_ ra rQ rT rU rV rW rX rY qf qg qh qi qj qk ql v sA sB sC sD sE h u6 h_2 u7 u9 u_ va vb vc vd pO ng pP pQ pR pS pT qN oz oG nV qx qy qz qA pU pV pW pX)) k qN qx qy qz qA:=by kernel_rfl
theorem ncW (N:Nat) (nf oK:Int) (oL:Bool) (oM n7 n8:Rows) (n9:Bytes) (n_:Rows) (S6 q_ ra rQ rT rU rV rW rX:Int) (rY:Bool) (qf:Bytes) (qg:Bool) (qh qi qj qk ql v sA sB sC:Int) (sD sE:Bool) (h u6 h_2 u7 u9 u_ va vb vc:Int) (vd:Bool) (pO:Bytes) (ng:Bool) (pP pQ pR pS pT:Int) (oz oG nV pU pV pW pX:Rows) (m_:Nat):(fun k qN qx qy qz qA=>LC (xg N) m_ (xh nf k oK oL oM n7 n8 n9 n_ S6 q_ ra rQ rT rU rV rW rX rY qf qg qh qi qj qk ql v sA sB sC sD sE h u6 h_2 u7 u9 u_ va vb vc vd pO ng pP pQ pR pS pT qN oz oG nV qx qy qz qA pU pV pW pX))=pH Vm.jX rh N nf v sA sB sC sD sE h u6 h_2 u7 u9 u_ va vb vc vd pO ng pP pQ pR pS pT oz oG nV pU pV pW pX m_:=by
 induction m_ with
 | zero=>rfl
 | succ m_ ih=>
  funext k qN qx qy qz qA
  refine (ncU N nf oK oL oM n7 n8 n9 n_ S6 q_ ra rQ rT rU rV rW rX rY qf qg qh qi qj qk ql v sA sB sC sD sE h u6 h_2 u7 u9 u_ va vb vc vd pO ng pP pQ pR pS pT oz oG nV pU pV pW pX (LC (xg N) m_) k qN qx qy qz qA).trans ?_
  rw[ih]
  rfl
theorem ncT (N:Nat) (nf oK:Int) (oL:Bool) (oM n7 n8:Rows) (n9:Bytes) (n_:Rows) (S6 q_ ra rQ rT rU rV rW rX:Int) (rY:Bool) (qf:Bytes) (qg:Bool) (qh qi qj qk ql v sA sB sC:Int) (sD sE:Bool) (h u6 h_2 u7 u9 u_ va vb vc:Int) (vd:Bool) (pO:Bytes) (ng:Bool) (pP pQ pR pS pT:Int) (zh oG nV pU pV pW pX:Rows) (ih:St→kx) (p:Int) (oz:Rows):uJ N ih (uM nf p oK oL oM n7 n8 n9 n_ S6 q_ ra rQ rT rU rV rW rX rY qf qg qh qi qj qk ql v sA sB sC sD sE h u6 h_2 u7 u9 u_ va vb vc vd pO ng pP pQ pR pS pT zh oz oG nV pU pV pW pX)=uK Vm.jX rh (fun oz k qN qx qy qz qA=>LC (xg N) N (xh nf k oK oL oM n7 n8 n9 n_ S6 q_ ra rQ rT rU rV rW rX rY qf qg qh qi qj qk ql v sA sB sC sD sE h u6 h_2 u7 u9 u_ va vb vc vd pO ng pP pQ pR pS pT qN oz oG nV qx qy qz qA pU pV pW pX)) nf v sA sB sC sD sE h u6 h_2 u7 u9 u_ va vb vc vd pO ng pP pQ pR pS pT zh oG nV pU pV pW pX (fun p oz=>ih (uM nf p oK oL oM n7 n8 n9 n_ S6 q_ ra rQ rT rU rV rW rX rY qf qg qh qi qj qk ql v sA sB sC sD sE h u6 h_2 u7 u9 u_ va vb vc vd pO ng pP pQ pR pS pT zh oz oG nV pU pV pW pX)) p oz:=by kernel_rfl
theorem ncV (N:Nat) (nf oK:Int) (oL:Bool) (oM n7 n8:Rows) (n9:Bytes) (n_:Rows) (S6 q_ ra rQ rT rU rV rW rX:Int) (rY:Bool) (qf:Bytes) (qg:Bool) (qh qi qj qk ql v sA sB sC:Int) (sD sE:Bool) (h u6 h_2 u7 u9 u_ va vb vc:Int) (vd:Bool) (pO:Bytes) (ng:Bool) (pP pQ pR pS pT:Int) (zh oG nV pU pV pW pX:Rows) (m_:Nat):(fun p oz=>LC (uJ N) m_ (uM nf p oK oL oM n7 n8 n9 n_ S6 q_ ra rQ rT rU rV rW rX rY qf qg qh qi qj qk ql v sA sB sC sD sE h u6 h_2 u7 u9 u_ va vb vc vd pO ng pP pQ pR pS pT zh oz oG nV pU pV pW pX))=qL Vm.jX rh N nf v sA sB sC sD sE h u6 h_2 u7 u9 u_ va vb vc vd pO ng pP pQ pR pS pT zh oG nV pU pV pW pX m_:=by
 induction m_ with
 | zero=>rfl
 | succ m_ ih=>
  funext p oz
  refine (ncT N nf oK oL oM n7 n8 n9 n_ S6 q_ ra rQ rT rU rV rW rX rY qf qg qh qi qj qk ql v sA sB sC sD sE h u6 h_2 u7 u9 u_ va vb vc vd pO ng pP pQ pR pS pT zh oG nV pU pV pW pX (LC (uJ N) m_) p oz).trans ?_
  have e1:=funext fun oz=>ncW N nf oK oL oM n7 n8 n9 n_ S6 q_ ra rQ rT rU rV rW rX rY qf qg qh qi qj qk ql v sA sB sC sD sE h u6 h_2 u7 u9 u_ va vb vc vd pO ng pP pQ pR pS pT oz oG nV pU pV pW pX N
  rw[e1]
  rw[ih]
  rfl
theorem neP (N:Nat) (nf:Int) (filter:nm) (nd:nj) (ng:Bool) (count time:Int):HG Tryz.prog vL vK N Tryz.f12 pI (.int nf::(filter.enc++(nd.enc++(.bool ng::(.int count::(.int time::([])))))))=yw Vm.jX rh N nf filter nd ng count time:=by
 have nhR:HG Tryz.prog vL vK N Tryz.f12 pI (.int nf::(filter.enc++(nd.enc++(.bool ng::(.int count::(.int time::([])))))))=yx Vm.jX rh (fun v sA sB sC sD sE h u6 h_2 u7 u9 u_ va vb vc vd pO pP pQ pR pS pT zh oG nV pU pV pW pX p oz=>LC (uJ N) N (uM nf p filter.Qe filter.nN filter.nZ nd.nP nd.Table.nr nd.nG.Key nd.nG.Table 0 0 0 0 0 0 0 0 0 false [] false 0 0 0 0 0 v sA sB sC sD sE h u6 h_2 u7 u9 u_ va vb vc vd pO ng pP pQ pR pS pT zh oz oG nV pU pV pW pX)) nf filter nd ng count time:=by kernel_rfl
 refine nhR.trans ?_
 unfold yw
 have e0:(fun v sA sB sC sD sE h u6 h_2 u7 u9 u_ va vb vc vd pO pP pQ pR pS pT zh oG nV pU pV pW pX p oz=>LC (uJ N) N (uM nf p filter.Qe filter.nN filter.nZ nd.nP nd.Table.nr nd.nG.Key nd.nG.Table 0 0 0 0 0 0 0 0 0 false [] false 0 0 0 0 0 v sA sB sC sD sE h u6 h_2 u7 u9 u_ va vb vc vd pO ng pP pQ pR pS pT zh oz oG nV pU pV pW pX))=(fun v sA sB sC sD sE h u6 h_2 u7 u9 u_ va vb vc vd pO pP pQ pR pS pT zh oG nV pU pV pW pX=>qL Vm.jX rh N nf v sA sB sC sD sE h u6 h_2 u7 u9 u_ va vb vc vd pO ng pP pQ pR pS pT zh oG nV pU pV pW pX N):=by
  funext v sA sB sC sD sE h u6 h_2 u7 u9 u_ va vb vc vd pO pP pQ pR pS pT zh oG nV pU pV pW pX
  exact ncV N nf filter.Qe filter.nN filter.nZ nd.nP nd.Table.nr nd.nG.Key nd.nG.Table 0 0 0 0 0 0 0 0 0 false [] false 0 0 0 0 0 v sA sB sC sD sE h u6 h_2 u7 u9 u_ va vb vc vd pO ng pP pQ pR pS pT zh oG nV pU pV pW pX N
 exact congrArg (fun l_=>yx Vm.jX rh l_ nf filter nd ng count time) e0
theorem neO:DV Tryz.prog 12 pI:=by
 refine qw (A:=vK) neQ Tryz.func12 fun ds hw aI=> ?_
 replace hw:jV (.i::(nm.ct++(nj.ct++[.bool,.i,.i]))) ds:=hw
 obtain⟨nf,ds,rfl,_,hw⟩:=nQ hw
 obtain⟨filter,ds,rfl,_,hw⟩:=nm.nC (r:=_) hw
 obtain⟨nd,ds,rfl,_,hw⟩:=nj.nC (r:=_) hw
 obtain⟨ng,ds,rfl,_,hw⟩:=Th hw
 obtain⟨count,ds,rfl,_,hw⟩:=nQ hw
 obtain⟨time,rfl,_⟩:=nw hw
 obtain⟨N,hN⟩:=neN Vm.jX rh nf filter nd ng count time aI
 exact⟨N,((neP N nf filter nd ng count time).trans hN).trans (by kernel_rfl)⟩
def vT:Ctx:=[(1125899906842706,JP),(1125899906842707,JP),(32,wi),(33,nL),(34,th),(35,oY),(36,zM),(37,Oo),(38,y6),(39,y4),(40,Wu)]
theorem nfN:bD Tryz.prog vT:=HZ Lc (HZ Lc (HZ nck (HZ p_ (HZ nd1 (HZ naZ (HZ nci (HZ net (HZ ngd (HZ nf7 (HZ ngg Jn))))))))))
def vS:List (Nat×lb):=[(6, {bY:=[(0,.mr),(12,.mr),(14,.mr),(16,.mr),(17,.mr)],boxes:=[(448,[]),(512,[]),(768,[]),(896,[]),(1024,[(1,.own 113)])]}),(10, {bY:=[(0,.mr),(12,.mr),(14,.mr),(16,.mr),(18,.mr)],boxes:=[(448,[]),(512,[]),(768,[]),(896,[]),(1024,[(12,.own 123),(13,.deep 42 [3]),(14,.own 102),(15,.own 4),(23,.own 232),(25,.own 9),(26,.own 3),(27,.own 3)])]})]
def rm:nB→Bool→kx:=(fun r0 r1=>((true,nB.enc r0++[.bool r1]):kx))
def uZ (nf p oK:Int) (oL:Bool) (oM n7 n8:Rows) (n9:Bytes) (n_:Rows) (S6 q_ ra rQ rT rU rV rW rX:Int) (rY:Bool) (qf:Bytes) (qg:Bool) (qh qi qj qk ql v sA sB sC:Int) (sD sE:Bool) (h u6 h_2 u7 u9 u_ va vb vc:Int) (vd:Bool) (pO:Bytes) (ng:Bool) (pP pQ pR pS pT:Int) (zh oz oG nV pU pV pW pX:Rows):St:= {n:=99,sl:=[(0,.int .i64 nf),(12,.ptr 768 0),(14,.ptr 896 0),(16,.ptr 1024 0),(17,.int .i64 p)],hp:=[(448,.box 50 [.int .i64 oK,.bool oL,.sl [.i] oM]),(512,.box 57 [.sl [.i,.i,.i,.i,.i,.i,.i,.i,.i] n7,.sl [.i,.i,.i,.i,.i,.i,.i] n8,.str n9,.sl [.i] n_]),(768,.box 62 [.nil,.nil,.int .i64 S6,.int .i64 q_,.int .i64 ra,.int .i64 rQ,.int .i64 rT,.int .i64 rU,.int .i64 rV,.nil,.nil,.int .i64 rW,.nil,.nil,.nil,.nil,.int .i64 rX,.bool rY,.nil,.nil,.nil,.str qf,.nil,.nil,.bool qg,.nil,.nil,.nil,.int .i64 qh,.int .i64 qi,.int .i64 qj,.int .i64 qk,.int .i64 ql]),(896,.box 102 [.int .i64 v,.int .i64 sA,.int .i64 sB,.int .i64 sC,.bool sD,.bool sE]),(1024,.box 62 [.own 1542144,.own 1542145,.int .i64 h,.int .i64 u6,.int .i64 h_2,.int .i64 u7,.int .i64 u9,.int .i64 u_,.int .i64 va,.own 1542153,.own 1542154,.int .i64 vb,.nil,.nil,.nil,.nil,.int .i64 vc,.bool vd,.own 1542162,.own 1542163,.own 1542164,.str pO,.own 1542166,.nil,.bool ng,.nil,.nil,.nil,.int .i64 pP,.int .i64 pQ,.int .i64 pR,.int .i64 pS,.int .i64 pT]),(1542144,.row 9 [.str] zh false true),(1542145,.row 113 [.i,.i,.i,.bool] oz false true),(1542153,.row 3 [.i] oG false true),(1542154,.deep 304 [.i,.i,.sl [.i]] [3] nV none),(1542162,.row 3 [.i] pU false true),(1542163,.row 197 [.i,.i,.i,.i,.i,.i,.i,.i,.i] pV false true),(1542164,.row 201 [.i,.i,.i,.i,.i,.i,.i] pW false true),(1542166,.row 3 [.i] pX false true)],ok:=true,ls:=[],lm:=[]}
def xx (nf k oK:Int) (oL:Bool) (oM n7 n8:Rows) (n9:Bytes) (n_:Rows) (S6 q_ ra rQ rT rU rV rW rX:Int) (rY:Bool) (qf:Bytes) (qg:Bool) (qh qi qj qk ql v sA sB sC:Int) (sD sE:Bool) (Zt Zu Zv Zw Zx Zy Zz ZA Yb:Int) (Yc:Bool) (ZB:Bytes) (Yd:Bool) (ZC ZD ZE ZF ZG:Int) (qN OB Qk ym qx qy qz qA xH yn yo yp xI xJ xK xL:Rows):St:= {n:=99,sl:=[(0,.int .i64 nf),(12,.ptr 768 0),(14,.ptr 896 0),(16,.ptr 1024 0),(18,.int .i64 k)],hp:=[(448,.box 50 [.int .i64 oK,.bool oL,.sl [.i] oM]),(512,.box 57 [.sl [.i,.i,.i,.i,.i,.i,.i,.i,.i] n7,.sl [.i,.i,.i,.i,.i,.i,.i] n8,.str n9,.sl [.i] n_]),(768,.box 62 [.nil,.nil,.int .i64 S6,.int .i64 q_,.int .i64 ra,.int .i64 rQ,.int .i64 rT,.int .i64 rU,.int .i64 rV,.nil,.nil,.int .i64 rW,.nil,.nil,.nil,.nil,.int .i64 rX,.bool rY,.nil,.nil,.nil,.str qf,.nil,.nil,.bool qg,.nil,.nil,.nil,.int .i64 qh,.int .i64 qi,.int .i64 qj,.int .i64 qk,.int .i64 ql]),(896,.box 102 [.int .i64 v,.int .i64 sA,.int .i64 sB,.int .i64 sC,.bool sD,.bool sE]),(1024,.box 62 [.own 1542144,.own 1542145,.int .i64 Zt,.int .i64 Zu,.int .i64 Zv,.int .i64 Zw,.int .i64 Zx,.int .i64 Zy,.int .i64 Zz,.own 1542153,.own 1542154,.int .i64 ZA,.own 1542156,.own 1542157,.own 1542158,.own 1542159,.int .i64 Yb,.bool Yc,.own 1542162,.own 1542163,.own 1542164,.str ZB,.own 1542166,.own 1542167,.bool Yd,.own 1542169,.own 1542170,.own 1542171,.int .i64 ZC,.int .i64 ZD,.int .i64 ZE,.int .i64 ZF,.int .i64 ZG]),(1542144,.row 9 [.str] qN false true),(1542145,.row 113 [.i,.i,.i,.bool] OB false true),(1542153,.row 3 [.i] Qk false true),(1542154,.deep 304 [.i,.i,.sl [.i]] [3] ym none),(1542156,.row 123 [.i,.i,.i,.i,.i,.i,.i,.i,.i,.i,.i,.i,.i,.i,.i,.i,.i,.i,.i,.i,.i,.i,.i,.i,.i,.str,.i,.i,.bool,.i] qx false true),(1542157,.deep 42 [.i,.i,.i,.sl [.i]] [3] qy none),(1542158,.row 102 [.i,.i,.i,.i,.bool,.bool] qz false true),(1542159,.row 4 [.bool] qA false true),(1542162,.row 3 [.i] xH false true),(1542163,.row 197 [.i,.i,.i,.i,.i,.i,.i,.i,.i] yn false true),(1542164,.row 201 [.i,.i,.i,.i,.i,.i,.i] yo false true),(1542166,.row 3 [.i] yp false true),(1542167,.row 232 [.i,.i,.i,.i,.i,.i,.str,.bool] xI false true),(1542169,.row 9 [.str] xJ false true),(1542170,.row 3 [.i] xK false true),(1542171,.row 3 [.i] xL false true)],ok:=true,ls:=[],lm:=[]}
noncomputable def xw (N:Nat):(St→kx)→St→kx:=LB Tryz.prog vT vS N Tryz.f9 pI [true,true,true,true,true,false,true,false] []
noncomputable def uW (N:Nat):(St→kx)→St→kx:=LB Tryz.prog vT vS N Tryz.f9 pI [true,true,true,true,false,true,false] []
theorem nd7 (N:Nat) (nf oK:Int) (oL:Bool) (oM n7 n8:Rows) (n9:Bytes) (n_:Rows) (S6 q_ ra rQ rT rU rV rW rX:Int) (rY:Bool) (qf:Bytes) (qg:Bool) (qh qi qj qk ql v sA sB sC:Int) (sD sE:Bool) (ih:St→kx) (k Zt Zu Zv Zw Zx Zy Zz ZA Yb:Int) (Yc:Bool) (ZB:Bytes) (Yd:Bool) (ZC ZD ZE ZF ZG:Int) (qN OB Qk ym qx qy qz qA xH yn yo yp xI xJ xK xL:Rows):xw N ih (xx nf k oK oL oM n7 n8 n9 n_ S6 q_ ra rQ rT rU rV rW rX rY qf qg qh qi qj qk ql v sA sB sC sD sE Zt Zu Zv Zw Zx Zy Zz ZA Yb Yc ZB Yd ZC ZD ZE ZF ZG qN OB Qk ym qx qy qz qA xH yn yo yp xI xJ xK xL)=uY Vm.jX rm nf v sA sB sC sD sE (fun k Zt Zu Zv Zw Zx Zy Zz ZA Yb Yc ZB Yd ZC ZD ZE ZF ZG qN OB Qk ym qx qy qz qA xH yn yo yp xI xJ xK xL=>ih (xx nf k oK oL oM n7 n8 n9 n_ S6 q_ ra rQ rT rU rV rW rX rY qf qg qh qi qj qk ql v sA sB sC sD sE Zt Zu Zv Zw Zx Zy Zz ZA Yb Yc ZB Yd ZC ZD ZE ZF ZG qN OB Qk ym qx qy qz qA xH yn yo yp xI xJ xK xL)) k Zt Zu Zv Zw Zx Zy Zz ZA Yb Yc ZB Yd ZC ZD ZE ZF ZG qN OB Qk ym qx qy qz qA xH yn yo yp xI xJ xK xL:=by kernel_rfl
theorem nd9 (N:Nat) (nf oK:Int) (oL:Bool) (oM n7 n8:Rows) (n9:Bytes) (n_:Rows) (S6 q_ ra rQ rT rU rV rW rX:Int) (rY:Bool) (qf:Bytes) (qg:Bool) (qh qi qj qk ql v sA sB sC:Int) (sD sE:Bool) (m_:Nat):(fun k Zt Zu Zv Zw Zx Zy Zz ZA Yb Yc ZB Yd ZC ZD ZE ZF ZG qN OB Qk ym qx qy qz qA xH yn yo yp xI xJ xK xL=>LC (xw N) m_ (xx nf k oK oL oM n7 n8 n9 n_ S6 q_ ra rQ rT rU rV rW rX rY qf qg qh qi qj qk ql v sA sB sC sD sE Zt Zu Zv Zw Zx Zy Zz ZA Yb Yc ZB Yd ZC ZD ZE ZF ZG qN OB Qk ym qx qy qz qA xH yn yo yp xI xJ xK xL))=pq Vm.jX rm N nf v sA sB sC sD sE m_:=by
 induction m_ with
 | zero=>rfl
 | succ m_ ih=>
  funext k Zt Zu Zv Zw Zx Zy Zz ZA Yb Yc ZB Yd ZC ZD ZE ZF ZG qN OB Qk ym qx qy qz qA xH yn yo yp xI xJ xK xL
  refine (nd7 N nf oK oL oM n7 n8 n9 n_ S6 q_ ra rQ rT rU rV rW rX rY qf qg qh qi qj qk ql v sA sB sC sD sE (LC (xw N) m_) k Zt Zu Zv Zw Zx Zy Zz ZA Yb Yc ZB Yd ZC ZD ZE ZF ZG qN OB Qk ym qx qy qz qA xH yn yo yp xI xJ xK xL).trans ?_
  rw[ih]
  rfl
theorem nd6 (N:Nat) (nf oK:Int) (oL:Bool) (oM n7 n8:Rows) (n9:Bytes) (n_:Rows) (S6 q_ ra rQ rT rU rV rW rX:Int) (rY:Bool) (qf:Bytes) (qg:Bool) (qh qi qj qk ql v sA sB sC:Int) (sD sE:Bool) (h u6 h_2 u7 u9 u_ va vb vc:Int) (vd:Bool) (pO:Bytes) (ng:Bool) (pP pQ pR pS pT:Int) (zh oG nV pU pV pW pX:Rows) (ih:St→kx) (p:Int) (oz:Rows):uW N ih (uZ nf p oK oL oM n7 n8 n9 n_ S6 q_ ra rQ rT rU rV rW rX rY qf qg qh qi qj qk ql v sA sB sC sD sE h u6 h_2 u7 u9 u_ va vb vc vd pO ng pP pQ pR pS pT zh oz oG nV pU pV pW pX)=uX Vm.jX rm (fun k Zt Zu Zv Zw Zx Zy Zz ZA Yb Yc ZB Yd ZC ZD ZE ZF ZG qN OB Qk ym qx qy qz qA xH yn yo yp xI xJ xK xL=>LC (xw N) N (xx nf k oK oL oM n7 n8 n9 n_ S6 q_ ra rQ rT rU rV rW rX rY qf qg qh qi qj qk ql v sA sB sC sD sE Zt Zu Zv Zw Zx Zy Zz ZA Yb Yc ZB Yd ZC ZD ZE ZF ZG qN OB Qk ym qx qy qz qA xH yn yo yp xI xJ xK xL)) nf v sA sB sC sD sE h u6 h_2 u7 u9 u_ va vb vc vd pO ng pP pQ pR pS pT zh oG nV pU pV pW pX (fun p oz=>ih (uZ nf p oK oL oM n7 n8 n9 n_ S6 q_ ra rQ rT rU rV rW rX rY qf qg qh qi qj qk ql v sA sB sC sD sE h u6 h_2 u7 u9 u_ va vb vc vd pO ng pP pQ pR pS pT zh oz oG nV pU pV pW pX)) p oz:=by kernel_rfl
theorem nd8 (N:Nat) (nf oK:Int) (oL:Bool) (oM n7 n8:Rows) (n9:Bytes) (n_:Rows) (S6 q_ ra rQ rT rU rV rW rX:Int) (rY:Bool) (qf:Bytes) (qg:Bool) (qh qi qj qk ql v sA sB sC:Int) (sD sE:Bool) (h u6 h_2 u7 u9 u_ va vb vc:Int) (vd:Bool) (pO:Bytes) (ng:Bool) (pP pQ pR pS pT:Int) (zh oG nV pU pV pW pX:Rows) (m_:Nat):(fun p oz=>LC (uW N) m_ (uZ nf p oK oL oM n7 n8 n9 n_ S6 q_ ra rQ rT rU rV rW rX rY qf qg qh qi qj qk ql v sA sB sC sD sE h u6 h_2 u7 u9 u_ va vb vc vd pO ng pP pQ pR pS pT zh oz oG nV pU pV pW pX))=qM Vm.jX rm N nf v sA sB sC sD sE h u6 h_2 u7 u9 u_ va vb vc vd pO ng pP pQ pR pS pT zh oG nV pU pV pW pX m_:=by
 induction m_ with
 | zero=>rfl
 | succ m_ ih=>
  funext p oz
  refine (nd6 N nf oK oL oM n7 n8 n9 n_ S6 q_ ra rQ rT rU rV rW rX rY qf qg qh qi qj qk ql v sA sB sC sD sE h u6 h_2 u7 u9 u_ va vb vc vd pO ng pP pQ pR pS pT zh oG nV pU pV pW pX (LC (uW N) m_) p oz).trans ?_
  have e1:=nd9 N nf oK oL oM n7 n8 n9 n_ S6 q_ ra rQ rT rU rV rW rX rY qf qg qh qi qj qk ql v sA sB sC sD sE N
  rw[e1]
  rw[ih]
  rfl
theorem nfM (N:Nat) (nf:Int) (filter:nm) (nd:nj) (ng:Bool) (count time:Int):HG Tryz.prog vT vS N Tryz.f9 pI (.int nf::(filter.enc++(nd.enc++(.bool ng::(.int count::(.int time::([])))))))=yV Vm.jX rm N nf filter nd ng count time:=by
 have nhR:HG Tryz.prog vT vS N Tryz.f9 pI (.int nf::(filter.enc++(nd.enc++(.bool ng::(.int count::(.int time::([])))))))=yW Vm.jX rm (fun v sA sB sC sD sE h u6 h_2 u7 u9 u_ va vb vc vd pO pP pQ pR pS pT zh oG nV pU pV pW pX p oz=>LC (uW N) N (uZ nf p filter.Qe filter.nN filter.nZ nd.nP nd.Table.nr nd.nG.Key nd.nG.Table 0 0 0 0 0 0 0 0 0 false [] false 0 0 0 0 0 v sA sB sC sD sE h u6 h_2 u7 u9 u_ va vb vc vd pO ng pP pQ pR pS pT zh oz oG nV pU pV pW pX)) nf filter nd ng count time:=by kernel_rfl
 refine nhR.trans ?_
 unfold yV
 have e0:(fun v sA sB sC sD sE h u6 h_2 u7 u9 u_ va vb vc vd pO pP pQ pR pS pT zh oG nV pU pV pW pX p oz=>LC (uW N) N (uZ nf p filter.Qe filter.nN filter.nZ nd.nP nd.Table.nr nd.nG.Key nd.nG.Table 0 0 0 0 0 0 0 0 0 false [] false 0 0 0 0 0 v sA sB sC sD sE h u6 h_2 u7 u9 u_ va vb vc vd pO ng pP pQ pR pS pT zh oz oG nV pU pV pW pX))=(fun v sA sB sC sD sE h u6 h_2 u7 u9 u_ va vb vc vd pO pP pQ pR pS pT zh oG nV pU pV pW pX=>qM Vm.jX rm N nf v sA sB sC sD sE h u6 h_2 u7 u9 u_ va vb vc vd pO ng pP pQ pR pS pT zh oG nV pU pV pW pX N):=by
  funext v sA sB sC sD sE h u6 h_2 u7 u9 u_ va vb vc vd pO pP pQ pR pS pT zh oG nV pU pV pW pX
  exact nd8 N nf filter.Qe filter.nN filter.nZ nd.nP nd.Table.nr nd.nG.Key nd.nG.Table 0 0 0 0 0 0 0 0 0 false [] false 0 0 0 0 0 v sA sB sC sD sE h u6 h_2 u7 u9 u_ va vb vc vd pO ng pP pQ pR pS pT zh oG nV pU pV pW pX N
 exact congrArg (fun l_=>yW Vm.jX rm l_ nf filter nd ng count time) e0
theorem nfL:DV Tryz.prog 9 pI:=by
 refine qw (A:=vS) nfN Tryz.func9 fun ds hw aI=> ?_
 replace hw:jV (.i::(nm.ct++(nj.ct++[.bool,.i,.i]))) ds:=hw
 obtain⟨nf,ds,rfl,_,hw⟩:=nQ hw
 obtain⟨filter,ds,rfl,_,hw⟩:=nm.nC (r:=_) hw
 obtain⟨nd,ds,rfl,_,hw⟩:=nj.nC (r:=_) hw
 obtain⟨ng,ds,rfl,_,hw⟩:=Th hw
 obtain⟨count,ds,rfl,_,hw⟩:=nQ hw
 obtain⟨time,rfl,_⟩:=nw hw
 obtain⟨N,hN⟩:=nfK Vm.jX rm nf filter nd ng count time aI
 exact⟨N,((nfM N nf filter nd ng count time).trans hN).trans (by kernel_rfl)⟩
def U2:Sum:= {ps:=[⟨[.i],false⟩,⟨nm.ct,true⟩,⟨nj.ct,true⟩,⟨[.bool],false⟩,⟨[.i],false⟩,⟨[.i],false⟩],rs:=[⟨[.dV .bool],false⟩],fn:=fun ds=>(Qg (.i::(nm.ct++(nj.ct++(.bool::(.i::(.i::([]))))))) ds,[.bool true])}
theorem U1:DV Tryz.prog 3 U2:=by
 refine nU (Γ:=[(7,Um),(8,QT),(9,pI),(10,Uo),(11,QU),(12,pI),(13,XC),(14,NI),(15,yN),(16,yO),(17,wT),(18,Ue),(19,T_)]) (HZ ndJ (HZ naL (HZ nfL (HZ ndN (HZ naN (HZ neO (HZ ngK (HZ TW (HZ QL (HZ QQ (HZ Ok (HZ ndA (HZ ndu Jn))))))))))))) Tryz.func3 fun ds hw aI=> ?_
 replace hw:jV (.i::(nm.ct++(nj.ct++[.bool,.i,.i]))) ds:=hw
 obtain⟨zQ,ds,rfl,nhj,hw⟩:=nQ hw
 obtain⟨qW,ds,rfl,na_,hw⟩:=nm.nC (r:=_) hw
 obtain⟨pN,ds,rfl,U9,hw⟩:=nj.nC (r:=_) hw
 obtain⟨u4,ds,rfl,ncy,hw⟩:=Th hw
 obtain⟨Re,ds,rfl,nh7,hw⟩:=nQ hw
 obtain⟨Xa,rfl,niX⟩:=nw hw
 exact⟨0,eT (U0 Vm.jX (fun r0=>((true,[.bool r0]):kx)) zQ qW pN u4 Re Xa nhj na_ U9 ncy nh7 niX aI)⟩
end
end Go.Proofs.YtoaflbnkiobhdaaGreat.Pl
