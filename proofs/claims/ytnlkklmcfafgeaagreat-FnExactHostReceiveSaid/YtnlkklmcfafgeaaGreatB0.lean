/- Contracts. Conditions: as each says. -/
import Derived.Test.YtnlkklmcfafgeaaGreatP0
import Derived.Test.YtnlkklmcfafgeaaGreatRows
import Derived.Test.YtnlkklmcfafgeaaGreatP1
set_option linter.unusedVariables false
set_option linter.unusedSimpArgs false
set_option maxRecDepth 100000
namespace Go.Proofs.YtnlkklmcfafgeaaGreat.Pl
open Vm
noncomputable section
def yB:Sum:= {ps:=[⟨[.sl [.i]],false⟩,⟨[.i],false⟩],rs:=[⟨[.ef .i],false⟩],fn:=fun ds=>(true,[.int (oX (rR ds 0) (rI ds 1))])}
theorem N7:D_ Tryz.prog 34 yB:=by
 refine nD JD Tryz.func34 fun ds (hw:kd ([.sl [.i],.i]) ds) _=> ?_
 obtain⟨a,ds,rfl,_,hw⟩:=nW hw
 obtain⟨left,rfl,_⟩:=nx hw
 exact⟨0,eT (yA (fun r0=>((true,[.int r0]):kM)) a left)⟩
def ndh:Sum:= {ps:=[⟨nE.ct,true⟩,⟨[.i],false⟩],rs:=[⟨[.ef .i],false⟩],fn:=fun ds=>(true,[.int (sG (nE.nc ds 0) (rI ds 3))])}
theorem nrb:D_ Tryz.prog 30 ndh:=by
 refine nD (Γ:=[(34,yB)]) (Ih N7 JD) Tryz.func30 fun ds (hw:kd (nE.ct++[.i]) ds) _=> ?_
 obtain⟨a,ds,rfl,_,hw⟩:=nE.nw (r:=_) hw
 obtain⟨left,rfl,_⟩:=nx hw
 exact⟨0,eT (nra (fun r0=>((true,[.int r0]):kM)) a left)⟩
def Yb:Sum:= {ps:=[⟨nV.ct,true⟩],rs:=[⟨[.ef .i,.ef .i,.ef .i,.ef .i,.ef .i],true⟩],fn:=fun ds=>(true,nV.enc (n7 (nV.nc ds 0)))}
theorem nmg:D_ Tryz.prog 53 Yb:=by
 refine nD JD Tryz.func53 fun ds (hw:kd (nV.ct++[]) ds) _=> ?_
 obtain⟨a,ds,rfl,_,hw⟩:=nV.nw (r:=_) hw
 obtain rfl:=nk hw
 exact⟨0,eT (nmf (fun r0=>((true,nV.enc r0):kM)) a)⟩
def Z0:Sum:= {ps:=[⟨nz.ct,true⟩,⟨nz.ct,true⟩],rs:=[⟨[.ef .bool],false⟩],fn:=fun ds=>(same (nz.nc ds 0) (nz.nc ds 8),[.bool (pd (nz.nc ds 0) (nz.nc ds 8))])}
theorem nnD:D_ Tryz.prog 407 Z0:=by
 refine nD JD Tryz.func407 fun ds (hw:kd (nz.ct++(nz.ct++[])) ds) aP=> ?_
 obtain⟨a,ds,rfl,_,hw⟩:=nz.nw (r:=_) hw
 obtain⟨b,ds,rfl,_,hw⟩:=nz.nw (r:=_) hw
 obtain rfl:=nk hw
 exact⟨0,eT (nnC (fun r0=>((true,[.bool r0]):kM)) a b aP)⟩
def ncX:Sum:= {ps:=[⟨nj.ct,true⟩,⟨nj.ct,true⟩],rs:=[⟨[.ef .bool],false⟩],fn:=fun ds=>(same (nj.nc ds 0) (nj.nc ds 16),[.bool (pd (nj.nc ds 0) (nj.nc ds 16))])}
theorem nqL:D_ Tryz.prog 357 ncX:=by
 refine nD (Γ:=[(407,Z0)]) (Ih nnD JD) Tryz.func357 fun ds (hw:kd (nj.ct++(nj.ct++[])) ds) aP=> ?_
 obtain⟨a,ds,rfl,_,hw⟩:=nj.nw (r:=_) hw
 obtain⟨b,ds,rfl,_,hw⟩:=nj.nw (r:=_) hw
 obtain rfl:=nk hw
 exact⟨0,eT (nqK Vm.kf (fun r0=>((true,[.bool r0]):kM)) a b aP)⟩
def nfl:Sum:= {ps:=[⟨nU.ct,true⟩,⟨nU.ct,true⟩],rs:=[⟨[.ef .bool],false⟩],fn:=fun ds=>(same (nU.nc ds 0) (nU.nc ds 18),[.bool (pd (nU.nc ds 0) (nU.nc ds 18))])}
theorem ntM:D_ Tryz.prog 282 nfl:=by
 refine nD (Γ:=[(357,ncX)]) (Ih nqL JD) Tryz.func282 fun ds (hw:kd (nU.ct++(nU.ct++[])) ds) aP=> ?_
 obtain⟨a,ds,rfl,_,hw⟩:=nU.nw (r:=_) hw
 obtain⟨b,ds,rfl,_,hw⟩:=nU.nw (r:=_) hw
 obtain rfl:=nk hw
 exact⟨0,eT (ntL Vm.kf (fun r0=>((true,[.bool r0]):kM)) a b aP)⟩
def wO:Sum:= {ps:=[⟨[.sl [.i]],false⟩],rs:=[⟨[.own 3 [.i]],false⟩],fn:=fun ds=>(sm (rR ds 0),[.sl (n7 (rR ds 0))])}
def niL:List (Nat×lE):=[(3, {cl:=[(0,.mP),(3,.mP),(4,.mP)],boxes:=[]})]
def niM:Rows→kM:=(fun r0=>((true,[.sl r0]):kM))
def nt2 (a:Rows) (i:Int) (oc:Rows):St:= {n:=22,sl:=[(0,.sl [.i] a),(3,.own 640192),(4,.int .i64 i)],hp:=[(640192,.row 3 [.i] oc false true)],ok:=true,ls:=[],lm:=[]}
theorem N9:D_ Tryz.prog 52 wO:=by
 refine qC (A:=niL) JD Tryz.func52 fun ds (hw:kd ([.sl [.i]]) ds) aP=> ?_
 obtain⟨a,rfl,qA⟩:=pL hw
 obtain⟨N,hN⟩:=nv3 Vm.kf niM a qA aP
 have e0:(fun i oc=>LX (LW Tryz.prog [] niL N Tryz.f52 wO [true,true,false,true,false] []) N (nt2 a i oc))=(npl nu8 Vm.kf niM N a N):=Te _ _ _ N
 refine⟨N,Eq.trans ?_ (hN.trans (by kernel_rfl))⟩
 unfold nbv
 rw[←e0]
 kernel_rfl
def ndn:Sum:= {ps:=[⟨nE.ct,true⟩],rs:=[⟨[.ef .i,.ef .bool,.own 3 [.i]],true⟩],fn:=fun ds=>(vd (nE.nc ds 0),nE.enc (n7 (nE.nc ds 0)))}
theorem nrr:D_ Tryz.prog 48 ndn:=by
 refine nD (Γ:=[(52,wO)]) (Ih N9 JD) Tryz.func48 fun ds (hw:kd (nE.ct++[]) ds) aP=> ?_
 obtain⟨a,ds,rfl,_,hw⟩:=nE.nw (r:=_) hw
 obtain rfl:=nk hw
 exact⟨0,eT (nrq Vm.kf (fun r0=>((true,nE.enc r0):kM)) a aP)⟩
def Y7:Sum:= {ps:=[⟨n8.ct,true⟩],rs:=[⟨[.ef .i,.ef .i,.ef .i,.ef .i],true⟩],fn:=fun ds=>(true,n8.enc (n7 (n8.nc ds 0)))}
theorem niO:D_ Tryz.prog 151 Y7:=by
 refine nD JD Tryz.func151 fun ds (hw:kd (n8.ct++[]) ds) _=> ?_
 obtain⟨a,ds,rfl,_,hw⟩:=n8.nw (r:=_) hw
 obtain rfl:=nk hw
 exact⟨0,eT (nv5 (fun r0=>((true,n8.enc r0):kM)) a)⟩
def N8:Sum:= {ps:=[⟨nd.ct,true⟩],rs:=[⟨[.ef .i,.ef .i,.ef .i],true⟩],fn:=fun ds=>(true,nd.enc (n7 (nd.nc ds 0)))}
theorem Y3:D_ Tryz.prog 269 N8:=by
 refine nD JD Tryz.func269 fun ds (hw:kd (nd.ct++[]) ds) _=> ?_
 obtain⟨a,ds,rfl,_,hw⟩:=nd.nw (r:=_) hw
 obtain rfl:=nk hw
 exact⟨0,eT (Y2 (fun r0=>((true,nd.enc r0):kM)) a)⟩
def naY:Sum:= {ps:=[⟨nz.ct,true⟩],rs:=[⟨[.ef .i,.ef .i,.ef .i,.ef .i,.ef .i,.ef .i,.ef .i,.ef .str],true⟩],fn:=fun ds=>(true,nz.enc (n7 (nz.nc ds 0)))}
theorem noC:D_ Tryz.prog 406 naY:=by
 refine nD JD Tryz.func406 fun ds (hw:kd (nz.ct++[]) ds) _=> ?_
 obtain⟨a,ds,rfl,_,hw⟩:=nz.nw (r:=_) hw
 obtain rfl:=nk hw
 exact⟨0,eT (noB (fun r0=>((true,nz.enc r0):kM)) a)⟩
def ndp:Sum:= {ps:=[⟨nj.ct,true⟩],rs:=[⟨[.ef .i,.ef .i,.ef .i,.ef .i,.ef .i,.ef .i,.ef .i,.ef .i,.ef .i,.ef .i,.ef .i,.ef .i,.ef .i,.ef .i,.ef .i,.ef .str],true⟩],fn:=fun ds=>(true,nj.enc (n7 (nj.nc ds 0)))}
theorem nrv:D_ Tryz.prog 352 ndp:=by
 refine nD (Γ:=[(406,naY)]) (Ih noC JD) Tryz.func352 fun ds (hw:kd (nj.ct++[]) ds) _=> ?_
 obtain⟨a,ds,rfl,_,hw⟩:=nj.nw (r:=_) hw
 obtain rfl:=nk hw
 exact⟨0,eT (nru (fun r0=>((true,nj.enc r0):kM)) a)⟩
def nfZ:Sum:= {ps:=[⟨nU.ct,true⟩],rs:=[⟨[.ef .i,.ef .i,.ef .i,.ef .i,.ef .i,.ef .i,.ef .i,.ef .i,.ef .i,.ef .i,.ef .i,.ef .i,.ef .i,.ef .i,.ef .i,.ef .str,.ef .i,.ef .i],true⟩],fn:=fun ds=>(true,nU.enc (n7 (nU.nc ds 0)))}
theorem nuf:D_ Tryz.prog 270 nfZ:=by
 refine nD (Γ:=[(352,ndp)]) (Ih nrv JD) Tryz.func270 fun ds (hw:kd (nU.ct++[]) ds) _=> ?_
 obtain⟨a,ds,rfl,_,hw⟩:=nU.nw (r:=_) hw
 obtain rfl:=nk hw
 exact⟨0,eT (nue (fun r0=>((true,nU.enc r0):kM)) a)⟩
def naX:Sum:= {ps:=[⟨nh.ct,true⟩],rs:=[⟨[.ef .i,.ef .i,.ef .i,.ef .i,.ef .i,.ef .i,.ef .i,.ef .i,.ef .i,.ef .i,.ef .i,.ef .i,.ef .i,.ef .i,.ef .i,.ef .i,.ef .i,.ef .i,.ef .i,.ef .i,.ef .i,.ef .i,.ef .i,.ef .i,.ef .i,.ef .str,.ef .i,.ef .i,.ef .bool,.ef .i],true⟩],fn:=fun ds=>(true,nh.enc (n7 (nh.nc ds 0)))}
theorem noz:D_ Tryz.prog 154 naX:=by
 refine nD (Γ:=[(151,Y7),(269,N8),(270,nfZ)]) (Ih niO (Ih Y3 (Ih nuf JD))) Tryz.func154 fun ds (hw:kd (nh.ct++[]) ds) _=> ?_
 obtain⟨a,ds,rfl,_,hw⟩:=nh.nw (r:=_) hw
 obtain rfl:=nk hw
 exact⟨0,eT (noy (fun r0=>((true,nh.enc r0):kM)) a)⟩
def QB:Sum:= {ps:=[⟨[.sl [.i,.i,.i,.i,.i,.i,.i,.i,.i,.i,.i,.i,.i,.i,.i,.i,.i,.i,.i,.i,.i,.i,.i,.i,.i,.str,.i,.i,.bool,.i]],false⟩],rs:=[⟨[.own 104 [.i,.i,.i,.i,.i,.i,.i,.i,.i,.i,.i,.i,.i,.i,.i,.i,.i,.i,.i,.i,.i,.i,.i,.i,.i,.str,.i,.i,.bool,.i]],false⟩],fn:=fun ds=>(sm (rR ds 0),[.sl (n7 (rR ds 0))])}
def Yh:Ctx:=[(154,naX)]
theorem nmn:bN Tryz.prog Yh:=Ih noz JD
def Yg:List (Nat×lE):=[(3, {cl:=[(0,.mP),(3,.mP),(4,.mP)],boxes:=[]})]
def Yi:Rows→kM:=(fun r0=>((true,[.sl r0]):kM))
def nkh (a:Rows) (i:Int) (oc:Rows):St:= {n:=23,sl:=[(0,.sl [.i,.i,.i,.i,.i,.i,.i,.i,.i,.i,.i,.i,.i,.i,.i,.i,.i,.i,.i,.i,.i,.i,.i,.i,.i,.str,.i,.i,.bool,.i] a),(3,.own 640192),(4,.int .i64 i)],hp:=[(640192,.row 104 [.i,.i,.i,.i,.i,.i,.i,.i,.i,.i,.i,.i,.i,.i,.i,.i,.i,.i,.i,.i,.i,.i,.i,.i,.i,.str,.i,.i,.bool,.i] oc false true)],ok:=true,ls:=[],lm:=[]}
theorem nmm:D_ Tryz.prog 44 QB:=by
 refine qC (A:=Yg) nmn Tryz.func44 fun ds (hw:kd ([.sl [.i,.i,.i,.i,.i,.i,.i,.i,.i,.i,.i,.i,.i,.i,.i,.i,.i,.i,.i,.i,.i,.i,.i,.i,.i,.str,.i,.i,.bool,.i]]) ds) aP=> ?_
 obtain⟨a,rfl,qA⟩:=pL hw
 obtain⟨N,hN⟩:=nml Vm.kf Yi a qA aP
 have e0:(fun i oc=>LX (LW Tryz.prog Yh Yg N Tryz.f44 QB [true,true,false,true,false] []) N (nkh a i oc))=(npl nbM Vm.kf Yi N a N):=Te _ _ _ N
 refine⟨N,Eq.trans ?_ (hN.trans (by kernel_rfl))⟩
 unfold nbv
 rw[←e0]
 kernel_rfl
def Na:Sum:= {ps:=[⟨[.sl [.str]],false⟩,⟨[.sl [.str]],false⟩],rs:=[⟨[.ef .bool],false⟩],fn:=fun ds=>(same (rR ds 0) (rR ds 1),[.bool (pd (rR ds 0) (rR ds 1))])}
def Z5:List (Nat×lE):=[(4, {cl:=[(0,.mP),(1,.mP),(5,.mP)],boxes:=[]})]
def Z6:Bool→kM:=(fun r0=>((true,[.bool r0]):kM))
def nlA (a b:Rows) (i:Int):St:= {n:=26,sl:=[(0,.sl [.str] a),(1,.sl [.str] b),(5,.int .i64 i)],hp:=[],ok:=true,ls:=[],lm:=[]}
theorem Z8:D_ Tryz.prog 69 Na:=by
 refine qC (A:=Z5) JD Tryz.func69 fun ds (hw:kd ([.sl [.str],.sl [.str]]) ds) aP=> ?_
 obtain⟨a,ds,rfl,qA,hw⟩:=nW hw
 obtain⟨b,rfl,_⟩:=pL hw
 obtain⟨N,hN⟩:=nnH Vm.kf Z6 a b qA aP
 exact⟨N,eL (fun l_=>Rp Vm.kf Z6 l_ a b) (nL1 (LW Tryz.prog [] Z5 N Tryz.f69 Na [true,true,false,true,false] []) (nlA a b) _ N) hN⟩
def ncV:Sum:= {ps:=[⟨na.ct,true⟩,⟨na.ct,true⟩],rs:=[⟨[.ef .bool],false⟩],fn:=fun ds=>(same (na.nc ds 0) (na.nc ds 1),[.bool (pd (na.nc ds 0) (na.nc ds 1))])}
theorem nqJ:D_ Tryz.prog 59 ncV:=by
 refine nD (Γ:=[(69,Na)]) (Ih Z8 JD) Tryz.func59 fun ds (hw:kd (na.ct++(na.ct++[])) ds) aP=> ?_
 obtain⟨a,ds,rfl,_,hw⟩:=na.nw (r:=_) hw
 obtain⟨b,ds,rfl,_,hw⟩:=na.nw (r:=_) hw
 obtain rfl:=nk hw
 exact⟨0,eT (nqI Vm.kf (fun r0=>((true,[.bool r0]):kM)) a b aP)⟩
def naW:Sum:= {ps:=[⟨oN.ct,true⟩],rs:=[⟨[.ef .i,.ef .i,.ef .i,.ef .bool],true⟩],fn:=fun ds=>(true,oN.enc (n7 (oN.nc ds 0)))}
theorem nov:D_ Tryz.prog 150 naW:=by
 refine nD JD Tryz.func150 fun ds (hw:kd (oN.ct++[]) ds) _=> ?_
 obtain⟨a,ds,rfl,_,hw⟩:=oN.nw (r:=_) hw
 obtain rfl:=nk hw
 exact⟨0,eT (nou (fun r0=>((true,oN.enc r0):kM)) a)⟩
def nc3:Sum:= {ps:=[⟨nA.ct,true⟩,⟨nA.ct,true⟩],rs:=[⟨[.ef .bool],false⟩],fn:=fun ds=>(same (nA.nc ds 0) (nA.nc ds 6),[.bool (pd (nA.nc ds 0) (nA.nc ds 6))])}
theorem nqV:D_ Tryz.prog 176 nc3:=by
 refine nD JD Tryz.func176 fun ds (hw:kd (nA.ct++(nA.ct++[])) ds) aP=> ?_
 obtain⟨a,ds,rfl,_,hw⟩:=nA.nw (r:=_) hw
 obtain⟨b,ds,rfl,_,hw⟩:=nA.nw (r:=_) hw
 obtain rfl:=nk hw
 exact⟨0,eT (nqU (fun r0=>((true,[.bool r0]):kM)) a b aP)⟩
def Y5:Sum:= {ps:=[⟨nG.ct,true⟩],rs:=[⟨[.ef .i,.ef .i,.ef .i,.ef .i,.ef .i],true⟩],fn:=fun ds=>(true,nG.enc (n7 (nG.nc ds 0)))}
theorem niJ:D_ Tryz.prog 273 Y5:=by
 refine nD JD Tryz.func273 fun ds (hw:kd (nG.ct++[]) ds) _=> ?_
 obtain⟨a,ds,rfl,_,hw⟩:=nG.nw (r:=_) hw
 obtain rfl:=nk hw
 exact⟨0,eT (nvZ (fun r0=>((true,nG.enc r0):kM)) a)⟩
def ndr:Sum:= {ps:=[⟨oh.ct,true⟩],rs:=[⟨[.ef .i,.ef .i,.ef .i,.ef .i,.ef .i,.ef .i,.ef .str,.ef .bool],true⟩],fn:=fun ds=>(true,oh.enc (n7 (oh.nc ds 0)))}
theorem nrE:D_ Tryz.prog 159 ndr:=by
 refine nD (Γ:=[(273,Y5)]) (Ih niJ JD) Tryz.func159 fun ds (hw:kd (oh.ct++[]) ds) _=> ?_
 obtain⟨a,ds,rfl,_,hw⟩:=oh.nw (r:=_) hw
 obtain rfl:=nk hw
 exact⟨0,eT (nrD (fun r0=>((true,oh.enc r0):kM)) a)⟩
def RP:Sum:= {ps:=[⟨[.sl [.i,.i,.i,.i,.i,.i,.str,.bool]],false⟩],rs:=[⟨[.own 236 [.i,.i,.i,.i,.i,.i,.str,.bool]],false⟩],fn:=fun ds=>(sm (rR ds 0),[.sl (n7 (rR ds 0))])}
def na0:Ctx:=[(159,ndr)]
theorem noG:bN Tryz.prog na0:=Ih nrE JD
def naZ:List (Nat×lE):=[(3, {cl:=[(0,.mP),(3,.mP),(4,.mP)],boxes:=[]})]
def na1:Rows→kM:=(fun r0=>((true,[.sl r0]):kM))
def nmq (a:Rows) (i:Int) (oc:Rows):St:= {n:=23,sl:=[(0,.sl [.i,.i,.i,.i,.i,.i,.str,.bool] a),(3,.own 640192),(4,.int .i64 i)],hp:=[(640192,.row 236 [.i,.i,.i,.i,.i,.i,.str,.bool] oc false true)],ok:=true,ls:=[],lm:=[]}
theorem noF:D_ Tryz.prog 50 RP:=by
 refine qC (A:=naZ) noG Tryz.func50 fun ds (hw:kd ([.sl [.i,.i,.i,.i,.i,.i,.str,.bool]]) ds) aP=> ?_
 obtain⟨a,rfl,qA⟩:=pL hw
 obtain⟨N,hN⟩:=noE Vm.kf na1 a qA aP
 have e0:(fun i oc=>LX (LW Tryz.prog na0 naZ N Tryz.f50 RP [true,true,false,true,false] []) N (nmq a i oc))=(npl ngR Vm.kf na1 N a N):=Te _ _ _ N
 refine⟨N,Eq.trans ?_ (hN.trans (by kernel_rfl))⟩
 unfold nbv
 rw[←e0]
 kernel_rfl
def ndl:Sum:= {ps:=[⟨nB.ct,true⟩,⟨[.i],false⟩],rs:=[⟨[.ef .i],false⟩],fn:=fun ds=>(true,[.int (wN (nB.nc ds 0) (rI ds 2))])}
theorem nrk:D_ Tryz.prog 127 ndl:=by
 refine nD (Γ:=[(34,yB)]) (Ih N7 JD) Tryz.func127 fun ds (hw:kd (nB.ct++[.i]) ds) _=> ?_
 obtain⟨a,ds,rfl,_,hw⟩:=nB.nw (r:=_) hw
 obtain⟨left,rfl,_⟩:=nx hw
 exact⟨0,eT (nrj (fun r0=>((true,[.int r0]):kM)) a left)⟩
def niQ:Sum:= {ps:=[⟨oZ.ct,true⟩],rs:=[⟨[.ef .i,.ef .i,.own 3 [.i]],true⟩],fn:=fun ds=>(um (oZ.nc ds 0),oZ.enc (n7 (oZ.nc ds 0)))}
theorem nwa:D_ Tryz.prog 268 niQ:=by
 refine nD (Γ:=[(52,wO)]) (Ih N9 JD) Tryz.func268 fun ds (hw:kd (oZ.ct++[]) ds) aP=> ?_
 obtain⟨a,ds,rfl,_,hw⟩:=oZ.nw (r:=_) hw
 obtain rfl:=nk hw
 exact⟨0,eT (nv_ Vm.kf (fun r0=>((true,oZ.enc r0):kM)) a aP)⟩
def Wx:Sum:= {ps:=[⟨[.sl [.i,.i,.sl [.i]]],false⟩],rs:=[⟨[.deep 293 [.i,.i,.sl [.i]] [3]],false⟩],fn:=fun ds=>(tP (rR ds 0),[.sl (n7 (rR ds 0))])}
def nfT:Ctx:=[(1125899906842631,J7),(268,niQ)]
theorem nua:bN Tryz.prog nfT:=Ih Lv (Ih nwa JD)
def nfS:List (Nat×lE):=[(3, {cl:=[(0,.mP),(3,.mP),(4,.mP)],boxes:=[]})]
def nfU:Rows→kM:=(fun r0=>((true,[.sl r0]):kM))
def nrz (a:Rows) (i:Int) (oc:Rows):St:= {n:=23,sl:=[(0,.sl [.i,.i,.sl [.i]] a),(3,.own 640192),(4,.int .i64 i)],hp:=[(640192,.deep 293 [.i,.i,.sl [.i]] [3] oc none)],ok:=true,ls:=[],lm:=[]}
theorem nt_:D_ Tryz.prog 153 Wx:=by
 refine qC (A:=nfS) nua Tryz.func153 fun ds (hw:kd ([.sl [.i,.i,.sl [.i]]]) ds) aP=> ?_
 obtain⟨a,rfl,qA⟩:=pL hw
 obtain⟨N,hN⟩:=nt9 Vm.kf nfU a qA aP
 exact⟨N,eL (fun l_=>Wy Vm.kf nfU l_ a) (Te (LW Tryz.prog nfT nfS N Tryz.f153 Wx [true,true,false,true,false] []) (nrz a) _ N) hN⟩
def naV:Sum:= {ps:=[⟨[.sl [.i,.i,.i,.i,.bool,.bool]],false⟩,⟨[.i],false⟩],rs:=[⟨[.ef .i],false⟩],fn:=fun ds=>(true,[.int (oX (rR ds 0) (rI ds 1))])}
theorem nos:D_ Tryz.prog 28 naV:=by
 refine nD JD Tryz.func28 fun ds (hw:kd ([.sl [.i,.i,.i,.i,.bool,.bool],.i]) ds) _=> ?_
 obtain⟨a,ds,rfl,_,hw⟩:=nW hw
 obtain⟨left,rfl,_⟩:=nx hw
 exact⟨0,eT (yA (fun r0=>((true,[.int r0]):kM)) a left)⟩
def Nj:Sum:= {ps:=[⟨[.sl [.str]],false⟩],rs:=[⟨[.own 9 [.str]],false⟩],fn:=fun ds=>(sm (rR ds 0),[.sl (n7 (rR ds 0))])}
def na2:List (Nat×lE):=[(3, {cl:=[(0,.mP),(3,.mP),(4,.mP)],boxes:=[]})]
def na3:Rows→kM:=(fun r0=>((true,[.sl r0]):kM))
def nmr (a:Rows) (i:Int) (oc:Rows):St:= {n:=22,sl:=[(0,.sl [.str] a),(3,.own 640192),(4,.int .i64 i)],hp:=[(640192,.row 9 [.str] oc false true)],ok:=true,ls:=[],lm:=[]}
theorem na4:D_ Tryz.prog 51 Nj:=by
 refine qC (A:=na2) JD Tryz.func51 fun ds (hw:kd ([.sl [.str]]) ds) aP=> ?_
 obtain⟨a,rfl,qA⟩:=pL hw
 obtain⟨N,hN⟩:=noH Vm.kf na3 a qA aP
 have e0:(fun i oc=>LX (LW Tryz.prog [] na2 N Tryz.f51 Nj [true,true,false,true,false] []) N (nmr a i oc))=(npl ngS Vm.kf na3 N a N):=Te _ _ _ N
 refine⟨N,Eq.trans ?_ (hN.trans (by kernel_rfl))⟩
 unfold nbv
 rw[←e0]
 kernel_rfl
def ndo:Sum:= {ps:=[⟨na.ct,true⟩],rs:=[⟨[.own 9 [.str]],true⟩],fn:=fun ds=>(ve (na.nc ds 0),na.enc (n7 (na.nc ds 0)))}
theorem nrt:D_ Tryz.prog 41 ndo:=by
 refine nD (Γ:=[(51,Nj)]) (Ih na4 JD) Tryz.func41 fun ds (hw:kd (na.ct++[]) ds) aP=> ?_
 obtain⟨a,ds,rfl,_,hw⟩:=na.nw (r:=_) hw
 obtain rfl:=nk hw
 exact⟨0,eT (nrs Vm.kf (fun r0=>((true,na.enc r0):kM)) a aP)⟩
def QA:Sum:= {ps:=[⟨[.sl [.i,.i,.i,.bool]],false⟩],rs:=[⟨[.own 222 [.i,.i,.i,.bool]],false⟩],fn:=fun ds=>(sm (rR ds 0),[.sl (n7 (rR ds 0))])}
def Yd:Ctx:=[(150,naW)]
theorem nmk:bN Tryz.prog Yd:=Ih nov JD
def Yc:List (Nat×lE):=[(3, {cl:=[(0,.mP),(3,.mP),(4,.mP)],boxes:=[]})]
def Ye:Rows→kM:=(fun r0=>((true,[.sl r0]):kM))
def nkg (a:Rows) (i:Int) (oc:Rows):St:= {n:=23,sl:=[(0,.sl [.i,.i,.i,.bool] a),(3,.own 640192),(4,.int .i64 i)],hp:=[(640192,.row 222 [.i,.i,.i,.bool] oc false true)],ok:=true,ls:=[],lm:=[]}
theorem nmj:D_ Tryz.prog 42 QA:=by
 refine qC (A:=Yc) nmk Tryz.func42 fun ds (hw:kd ([.sl [.i,.i,.i,.bool]]) ds) aP=> ?_
 obtain⟨a,rfl,qA⟩:=pL hw
 obtain⟨N,hN⟩:=nmi Vm.kf Ye a qA aP
 have e0:(fun i oc=>LX (LW Tryz.prog Yd Yc N Tryz.f42 QA [true,true,false,true,false] []) N (nkg a i oc))=(npl nbL Vm.kf Ye N a N):=Te _ _ _ N
 refine⟨N,Eq.trans ?_ (hN.trans (by kernel_rfl))⟩
 unfold nbv
 rw[←e0]
 kernel_rfl
def Y6:Sum:= {ps:=[⟨nJ.ct,true⟩],rs:=[⟨[.ef .i,.ef .i,.ef .i,.own 3 [.i]],true⟩],fn:=fun ds=>(tx (nJ.nc ds 0),nJ.enc (n7 (nJ.nc ds 0)))}
theorem niN:D_ Tryz.prog 152 Y6:=by
 refine nD (Γ:=[(52,wO)]) (Ih N9 JD) Tryz.func152 fun ds (hw:kd (nJ.ct++[]) ds) aP=> ?_
 obtain⟨a,ds,rfl,_,hw⟩:=nJ.nw (r:=_) hw
 obtain rfl:=nk hw
 exact⟨0,eT (nv4 Vm.kf (fun r0=>((true,nJ.enc r0):kM)) a aP)⟩
def na5:Sum:= {ps:=[⟨nt.ct,true⟩],rs:=[⟨[.ef .i,.ef .i,.ef .i,.ef .i,.ef .i,.ef .i,.ef .i,.own 3 [.i],.deep 293 [.i,.i,.sl [.i]] [3],.ef .i],true⟩],fn:=fun ds=>(ux (nt.nc ds 0),nt.enc (n7 (nt.nc ds 0)))}
theorem noJ:D_ Tryz.prog 43 na5:=by
 refine nD (Γ:=[(151,Y7),(152,Y6),(153,Wx)]) (Ih niO (Ih niN (Ih nt_ JD))) Tryz.func43 fun ds (hw:kd (nt.ct++[]) ds) aP=> ?_
 obtain⟨a,ds,rfl,_,hw⟩:=nt.nw (r:=_) hw
 obtain rfl:=nk hw
 exact⟨0,eT (noI Vm.kf (fun r0=>((true,nt.enc r0):kM)) a aP)⟩
def Wu:Sum:= {ps:=[⟨[.sl [.i,.i,.i,.sl [.i]]],false⟩],rs:=[⟨[.deep 57 [.i,.i,.i,.sl [.i]] [3]],false⟩],fn:=fun ds=>(uE (rR ds 0),[.sl (n7 (rR ds 0))])}
def nfM:Ctx:=[(1125899906842631,J7),(152,Y6)]
theorem nt5:bN Tryz.prog nfM:=Ih Lv (Ih niN JD)
def nfL:List (Nat×lE):=[(3, {cl:=[(0,.mP),(3,.mP),(4,.mP)],boxes:=[]})]
def nfN:Rows→kM:=(fun r0=>((true,[.sl r0]):kM))
def nrx (a:Rows) (i:Int) (oc:Rows):St:= {n:=23,sl:=[(0,.sl [.i,.i,.i,.sl [.i]] a),(3,.own 640192),(4,.int .i64 i)],hp:=[(640192,.deep 57 [.i,.i,.i,.sl [.i]] [3] oc none)],ok:=true,ls:=[],lm:=[]}
theorem nt4:D_ Tryz.prog 45 Wu:=by
 refine qC (A:=nfL) nt5 Tryz.func45 fun ds (hw:kd ([.sl [.i,.i,.i,.sl [.i]]]) ds) aP=> ?_
 obtain⟨a,rfl,qA⟩:=pL hw
 obtain⟨N,hN⟩:=nt3 Vm.kf nfN a qA aP
 exact⟨N,eL (fun l_=>Wv Vm.kf nfN l_ a) (Te (LW Tryz.prog nfM nfL N Tryz.f45 Wu [true,true,false,true,false] []) (nrx a) _ N) hN⟩
def nds:Sum:= {ps:=[⟨nA.ct,true⟩],rs:=[⟨[.ef .i,.ef .i,.ef .i,.ef .i,.ef .bool,.ef .bool],true⟩],fn:=fun ds=>(true,nA.enc (n7 (nA.nc ds 0)))}
theorem nrH:D_ Tryz.prog 155 nds:=by
 refine nD JD Tryz.func155 fun ds (hw:kd (nA.ct++[]) ds) _=> ?_
 obtain⟨a,ds,rfl,_,hw⟩:=nA.nw (r:=_) hw
 obtain rfl:=nk hw
 exact⟨0,eT (nrG (fun r0=>((true,nA.enc r0):kM)) a)⟩
def RQ:Sum:= {ps:=[⟨[.sl [.i,.i,.i,.i,.bool,.bool]],false⟩],rs:=[⟨[.own 107 [.i,.i,.i,.i,.bool,.bool]],false⟩],fn:=fun ds=>(sm (rR ds 0),[.sl (n7 (rR ds 0))])}
def na7:Ctx:=[(155,nds)]
theorem noM:bN Tryz.prog na7:=Ih nrH JD
def na6:List (Nat×lE):=[(3, {cl:=[(0,.mP),(3,.mP),(4,.mP)],boxes:=[]})]
def na8:Rows→kM:=(fun r0=>((true,[.sl r0]):kM))
def nms (a:Rows) (i:Int) (oc:Rows):St:= {n:=23,sl:=[(0,.sl [.i,.i,.i,.i,.bool,.bool] a),(3,.own 640192),(4,.int .i64 i)],hp:=[(640192,.row 107 [.i,.i,.i,.i,.bool,.bool] oc false true)],ok:=true,ls:=[],lm:=[]}
theorem noL:D_ Tryz.prog 46 RQ:=by
 refine qC (A:=na6) noM Tryz.func46 fun ds (hw:kd ([.sl [.i,.i,.i,.i,.bool,.bool]]) ds) aP=> ?_
 obtain⟨a,rfl,qA⟩:=pL hw
 obtain⟨N,hN⟩:=noK Vm.kf na8 a qA aP
 have e0:(fun i oc=>LX (LW Tryz.prog na7 na6 N Tryz.f46 RQ [true,true,false,true,false] []) N (nms a i oc))=(npl ngT Vm.kf na8 N a N):=Te _ _ _ N
 refine⟨N,Eq.trans ?_ (hN.trans (by kernel_rfl))⟩
 unfold nbv
 rw[←e0]
 kernel_rfl
def Ws:Sum:= {ps:=[⟨[.sl [.bool]],false⟩],rs:=[⟨[.own 4 [.bool]],false⟩],fn:=fun ds=>(sm (rR ds 0),[.sl (n7 (rR ds 0))])}
def nfJ:List (Nat×lE):=[(3, {cl:=[(0,.mP),(3,.mP),(4,.mP)],boxes:=[]})]
def nfK:Rows→kM:=(fun r0=>((true,[.sl r0]):kM))
def nrp (a:Rows) (i:Int) (oc:Rows):St:= {n:=22,sl:=[(0,.sl [.bool] a),(3,.own 640192),(4,.int .i64 i)],hp:=[(640192,.row 4 [.bool] oc false true)],ok:=true,ls:=[],lm:=[]}
theorem nt1:D_ Tryz.prog 47 Ws:=by
 refine qC (A:=nfJ) JD Tryz.func47 fun ds (hw:kd ([.sl [.bool]]) ds) aP=> ?_
 obtain⟨a,rfl,qA⟩:=pL hw
 obtain⟨N,hN⟩:=nt0 Vm.kf nfK a qA aP
 have e0:(fun i oc=>LX (LW Tryz.prog [] nfJ N Tryz.f47 Ws [true,true,false,true,false] []) N (nrp a i oc))=(npl npk Vm.kf nfK N a N):=Te _ _ _ N
 refine⟨N,Eq.trans ?_ (hN.trans (by kernel_rfl))⟩
 unfold nbv
 rw[←e0]
 kernel_rfl
def niP:Sum:= {ps:=[⟨oE.ct,true⟩],rs:=[⟨[.ef .i,.ef .i,.ef .i,.ef .i,.ef .i,.ef .i,.ef .i,.ef .i,.ef .i],true⟩],fn:=fun ds=>(true,oE.enc (n7 (oE.nc ds 0)))}
theorem nv8:D_ Tryz.prog 271 niP:=by
 refine nD JD Tryz.func271 fun ds (hw:kd (oE.ct++[]) ds) _=> ?_
 obtain⟨a,ds,rfl,_,hw⟩:=oE.nw (r:=_) hw
 obtain rfl:=nk hw
 exact⟨0,eT (nv7 (fun r0=>((true,oE.enc r0):kM)) a)⟩
def Ww:Sum:= {ps:=[⟨[.sl [.i,.i,.i,.i,.i,.i,.i,.i,.i]],false⟩],rs:=[⟨[.own 260 [.i,.i,.i,.i,.i,.i,.i,.i,.i]],false⟩],fn:=fun ds=>(sm (rR ds 0),[.sl (n7 (rR ds 0))])}
def nfQ:Ctx:=[(271,niP)]
theorem nt8:bN Tryz.prog nfQ:=Ih nv8 JD
def nfP:List (Nat×lE):=[(3, {cl:=[(0,.mP),(3,.mP),(4,.mP)],boxes:=[]})]
def nfR:Rows→kM:=(fun r0=>((true,[.sl r0]):kM))
def nry (a:Rows) (i:Int) (oc:Rows):St:= {n:=23,sl:=[(0,.sl [.i,.i,.i,.i,.i,.i,.i,.i,.i] a),(3,.own 640192),(4,.int .i64 i)],hp:=[(640192,.row 260 [.i,.i,.i,.i,.i,.i,.i,.i,.i] oc false true)],ok:=true,ls:=[],lm:=[]}
theorem nt7:D_ Tryz.prog 156 Ww:=by
 refine qC (A:=nfP) nt8 Tryz.func156 fun ds (hw:kd ([.sl [.i,.i,.i,.i,.i,.i,.i,.i,.i]]) ds) aP=> ?_
 obtain⟨a,rfl,qA⟩:=pL hw
 obtain⟨N,hN⟩:=nt6 Vm.kf nfR a qA aP
 have e0:(fun i oc=>LX (LW Tryz.prog nfQ nfP N Tryz.f156 Ww [true,true,false,true,false] []) N (nry a i oc))=(npl npm Vm.kf nfR N a N):=Te _ _ _ N
 refine⟨N,Eq.trans ?_ (hN.trans (by kernel_rfl))⟩
 unfold nbv
 rw[←e0]
 kernel_rfl
def niR:Sum:= {ps:=[⟨rD.ct,true⟩],rs:=[⟨[.ef .i,.ef .i,.ef .i,.ef .i,.ef .i,.ef .i,.ef .i],true⟩],fn:=fun ds=>(true,rD.enc (n7 (rD.nc ds 0)))}
theorem nwc:D_ Tryz.prog 353 niR:=by
 refine nD (Γ:=[(273,Y5)]) (Ih niJ JD) Tryz.func353 fun ds (hw:kd (rD.ct++[]) ds) _=> ?_
 obtain⟨a,ds,rfl,_,hw⟩:=rD.nw (r:=_) hw
 obtain rfl:=nk hw
 exact⟨0,eT (nwb (fun r0=>((true,rD.enc r0):kM)) a)⟩
def Wz:Sum:= {ps:=[⟨[.sl [.i,.i,.i,.i,.i,.i,.i]],false⟩],rs:=[⟨[.own 264 [.i,.i,.i,.i,.i,.i,.i]],false⟩],fn:=fun ds=>(sm (rR ds 0),[.sl (n7 (rR ds 0))])}
def nfX:Ctx:=[(353,niR)]
theorem nud:bN Tryz.prog nfX:=Ih nwc JD
def nfW:List (Nat×lE):=[(3, {cl:=[(0,.mP),(3,.mP),(4,.mP)],boxes:=[]})]
def nfY:Rows→kM:=(fun r0=>((true,[.sl r0]):kM))
def nrA (a:Rows) (i:Int) (oc:Rows):St:= {n:=23,sl:=[(0,.sl [.i,.i,.i,.i,.i,.i,.i] a),(3,.own 640192),(4,.int .i64 i)],hp:=[(640192,.row 264 [.i,.i,.i,.i,.i,.i,.i] oc false true)],ok:=true,ls:=[],lm:=[]}
theorem nuc:D_ Tryz.prog 272 Wz:=by
 refine qC (A:=nfW) nud Tryz.func272 fun ds (hw:kd ([.sl [.i,.i,.i,.i,.i,.i,.i]]) ds) aP=> ?_
 obtain⟨a,rfl,qA⟩:=pL hw
 obtain⟨N,hN⟩:=nub Vm.kf nfY a qA aP
 have e0:(fun i oc=>LX (LW Tryz.prog nfX nfW N Tryz.f272 Wz [true,true,false,true,false] []) N (nrA a i oc))=(npl npn Vm.kf nfY N a N):=Te _ _ _ N
 refine⟨N,Eq.trans ?_ (hN.trans (by kernel_rfl))⟩
 unfold nbv
 rw[←e0]
 kernel_rfl
def Wt:Sum:= {ps:=[⟨ni.ct,true⟩],rs:=[⟨[.own 264 [.i,.i,.i,.i,.i,.i,.i]],true⟩],fn:=fun ds=>(tD (ni.nc ds 0),ni.enc (n7 (ni.nc ds 0)))}
theorem nkf:D_ Tryz.prog 157 Wt:=by
 refine nD (Γ:=[(272,Wz)]) (Ih nuc JD) Tryz.func157 fun ds (hw:kd (ni.ct++[]) ds) aP=> ?_
 obtain⟨a,ds,rfl,_,hw⟩:=ni.nw (r:=_) hw
 obtain rfl:=nk hw
 exact⟨0,eT (nke Vm.kf (fun r0=>((true,ni.enc r0):kM)) a aP)⟩
def ndq:Sum:= {ps:=[⟨nB.ct,true⟩],rs:=[⟨[.ef .str,.own 3 [.i]],true⟩],fn:=fun ds=>(vf (nB.nc ds 0),nB.enc (n7 (nB.nc ds 0)))}
theorem nrC:D_ Tryz.prog 158 ndq:=by
 refine nD (Γ:=[(52,wO)]) (Ih N9 JD) Tryz.func158 fun ds (hw:kd (nB.ct++[]) ds) aP=> ?_
 obtain⟨a,ds,rfl,_,hw⟩:=nB.nw (r:=_) hw
 obtain rfl:=nk hw
 exact⟨0,eT (nrB Vm.kf (fun r0=>((true,nB.enc r0):kM)) a aP)⟩
def Yk:Sum:= {ps:=[⟨nm.ct,true⟩],rs:=[⟨[.own 260 [.i,.i,.i,.i,.i,.i,.i,.i,.i],.own 264 [.i,.i,.i,.i,.i,.i,.i],.ef .str,.own 3 [.i]],true⟩],fn:=fun ds=>(tX (nm.nc ds 0),nm.enc (n7 (nm.nc ds 0)))}
theorem nmp:D_ Tryz.prog 49 Yk:=by
 refine nD (Γ:=[(156,Ww),(157,Wt),(158,ndq)]) (Ih nt7 (Ih nkf (Ih nrC JD))) Tryz.func49 fun ds (hw:kd (nm.ct++[]) ds) aP=> ?_
 obtain⟨a,ds,rfl,_,hw⟩:=nm.nw (r:=_) hw
 obtain rfl:=nk hw
 exact⟨0,eT (nmo Vm.kf (fun r0=>((true,nm.enc r0):kM)) a aP)⟩
def niK:Sum:= {ps:=[⟨ny.ct,true⟩],rs:=[⟨[.own 9 [.str],.own 222 [.i,.i,.i,.bool],.ef .i,.ef .i,.ef .i,.ef .i,.ef .i,.ef .i,.ef .i,.own 3 [.i],.deep 293 [.i,.i,.sl [.i]] [3],.ef .i,.own 104 [.i,.i,.i,.i,.i,.i,.i,.i,.i,.i,.i,.i,.i,.i,.i,.i,.i,.i,.i,.i,.i,.i,.i,.i,.i,.str,.i,.i,.bool,.i],.deep 57 [.i,.i,.i,.sl [.i]] [3],.own 107 [.i,.i,.i,.i,.bool,.bool],.own 4 [.bool],.ef .i,.ef .bool,.own 3 [.i],.own 260 [.i,.i,.i,.i,.i,.i,.i,.i,.i],.own 264 [.i,.i,.i,.i,.i,.i,.i],.ef .str,.own 3 [.i],.own 236 [.i,.i,.i,.i,.i,.i,.str,.bool],.ef .bool,.own 9 [.str],.own 3 [.i],.own 3 [.i],.ef .i,.ef .i,.ef .i,.ef .i,.ef .i],true⟩],fn:=fun ds=>(tw (ny.nc ds 0),ny.enc (n7 (ny.nc ds 0)))}
theorem nv2:D_ Tryz.prog 9 niK:=by
 refine nD (Γ:=[(41,ndo),(42,QA),(43,na5),(44,QB),(45,Wu),(46,RQ),(47,Ws),(48,ndn),(49,Yk),(50,RP),(51,Nj),(52,wO),(53,Yb)]) (Ih nrt (Ih nmj (Ih noJ (Ih nmm (Ih nt4 (Ih noL (Ih nt1 (Ih nrr (Ih nmp (Ih noF (Ih na4 (Ih N9 (Ih nmg JD))))))))))))) Tryz.func9 fun ds (hw:kd (ny.ct++[]) ds) aP=> ?_
 obtain⟨a,ds,rfl,_,hw⟩:=ny.nw (r:=_) hw
 obtain rfl:=nk hw
 exact⟨0,eT (nv1 Vm.kf (fun r0=>((true,ny.enc r0):kM)) a aP)⟩
def naL:Sum:= {ps:=[⟨nz.ct,true⟩,⟨[.i],false⟩],rs:=[⟨[.ef .i],false⟩],fn:=fun ds=>(true,[.int (uk (nz.nc ds 0) (rI ds 8))])}
theorem noi:D_ Tryz.prog 401 naL:=by
 refine nD JD Tryz.func401 fun ds (hw:kd (nz.ct++[.i]) ds) _=> ?_
 obtain⟨a,ds,rfl,_,hw⟩:=nz.nw (r:=_) hw
 obtain⟨left,rfl,_⟩:=nx hw
 exact⟨0,eT (noh (fun r0=>((true,[.int r0]):kM)) a left)⟩
def ndj:Sum:= {ps:=[⟨nj.ct,true⟩,⟨[.i],false⟩],rs:=[⟨[.ef .i],false⟩],fn:=fun ds=>(true,[.int (uV (nj.nc ds 0) (rI ds 16))])}
theorem nrf:D_ Tryz.prog 336 ndj:=by
 refine nD (Γ:=[(401,naL)]) (Ih noi JD) Tryz.func336 fun ds (hw:kd (nj.ct++[.i]) ds) _=> ?_
 obtain⟨a,ds,rfl,_,hw⟩:=nj.nw (r:=_) hw
 obtain⟨left,rfl,_⟩:=nx hw
 exact⟨0,eT (nre (fun r0=>((true,[.int r0]):kM)) a left)⟩
def nfI:Sum:= {ps:=[⟨nU.ct,true⟩,⟨[.i],false⟩],rs:=[⟨[.ef .i],false⟩],fn:=fun ds=>(true,[.int (wB (nU.nc ds 0) (rI ds 18))])}
theorem ntZ:D_ Tryz.prog 247 nfI:=by
 refine nD (Γ:=[(336,ndj)]) (Ih nrf JD) Tryz.func247 fun ds (hw:kd (nU.ct++[.i]) ds) _=> ?_
 obtain⟨a,ds,rfl,_,hw⟩:=nU.nw (r:=_) hw
 obtain⟨left,rfl,_⟩:=nx hw
 exact⟨0,eT (ntY (fun r0=>((true,[.int r0]):kM)) a left)⟩
def ndm:Sum:= {ps:=[⟨oh.ct,true⟩,⟨[.i],false⟩],rs:=[⟨[.ef .i],false⟩],fn:=fun ds=>(true,[.int (tl (oh.nc ds 0) (rI ds 8))])}
theorem nrn:D_ Tryz.prog 128 ndm:=by
 refine nD JD Tryz.func128 fun ds (hw:kd (oh.ct++[.i]) ds) _=> ?_
 obtain⟨a,ds,rfl,_,hw⟩:=oh.nw (r:=_) hw
 obtain⟨left,rfl,_⟩:=nx hw
 exact⟨0,eT (nrl (fun r0=>((true,[.int r0]):kM)) a left)⟩
def wM:Sum:= {ps:=[⟨[.sl [.i]],false⟩,⟨[.sl [.i]],false⟩],rs:=[⟨[.ef .bool],false⟩],fn:=fun ds=>(same (rR ds 0) (rR ds 1),[.bool (pd (rR ds 0) (rR ds 1))])}
def nit:List (Nat×lE):=[(4, {cl:=[(0,.mP),(1,.mP),(5,.mP)],boxes:=[]})]
def niu:Bool→kM:=(fun r0=>((true,[.bool r0]):kM))
def nty (a b:Rows) (i:Int):St:= {n:=26,sl:=[(0,.sl [.i] a),(1,.sl [.i] b),(5,.int .i64 i)],hp:=[],ok:=true,ls:=[],lm:=[]}
theorem N6:D_ Tryz.prog 70 wM:=by
 refine qC (A:=nit) JD Tryz.func70 fun ds (hw:kd ([.sl [.i],.sl [.i]]) ds) aP=> ?_
 obtain⟨a,ds,rfl,qA,hw⟩:=nW hw
 obtain⟨b,rfl,_⟩:=pL hw
 obtain⟨N,hN⟩:=nvK Vm.kf niu a b qA aP
 exact⟨N,eL (fun l_=>YY Vm.kf niu l_ a b) (nL1 (LW Tryz.prog [] nit N Tryz.f70 wM [true,true,false,true,false] []) (nty a b) _ N) hN⟩
def Y1:Sum:= {ps:=[⟨nJ.ct,true⟩,⟨[.i],false⟩],rs:=[⟨[.ef .i],false⟩],fn:=fun ds=>(true,[.int (rM (nJ.nc ds 0) (rI ds 4))])}
theorem niH:D_ Tryz.prog 122 Y1:=by
 refine nD (Γ:=[(34,yB)]) (Ih N7 JD) Tryz.func122 fun ds (hw:kd (nJ.ct++[.i]) ds) _=> ?_
 obtain⟨a,ds,rfl,_,hw⟩:=nJ.nw (r:=_) hw
 obtain⟨left,rfl,_⟩:=nx hw
 exact⟨0,eT (nvW (fun r0=>((true,[.int r0]):kM)) a left)⟩
def nfH:Sum:= {ps:=[⟨[.sl [.i,.i,.i,.i,.i,.i,.i]],false⟩,⟨[.i],false⟩],rs:=[⟨[.ef .i],false⟩],fn:=fun ds=>(true,[.int (oX (rR ds 0) (rI ds 1))])}
theorem ntX:D_ Tryz.prog 248 nfH:=by
 refine nD JD Tryz.func248 fun ds (hw:kd ([.sl [.i,.i,.i,.i,.i,.i,.i],.i]) ds) _=> ?_
 obtain⟨a,ds,rfl,_,hw⟩:=nW hw
 obtain⟨left,rfl,_⟩:=nx hw
 exact⟨0,eT (yA (fun r0=>((true,[.int r0]):kM)) a left)⟩
def Wl:Sum:= {ps:=[⟨ni.ct,true⟩,⟨[.i],false⟩],rs:=[⟨[.ef .i],false⟩],fn:=fun ds=>(true,[.int (te (ni.nc ds 0) (rI ds 1))])}
theorem nka:D_ Tryz.prog 126 Wl:=by
 refine nD (Γ:=[(248,nfH)]) (Ih ntX JD) Tryz.func126 fun ds (hw:kd (ni.ct++[.i]) ds) _=> ?_
 obtain⟨a,ds,rfl,_,hw⟩:=ni.nw (r:=_) hw
 obtain⟨left,rfl,_⟩:=nx hw
 exact⟨0,eT (nj_ (fun r0=>((true,[.int r0]):kM)) a left)⟩
def RM:Sum:= {ps:=[⟨[.sl [.i,.i,.i,.i,.i,.i,.str,.bool]],false⟩,⟨[.i],false⟩],rs:=[⟨[.ef .i],false⟩],fn:=fun ds=>(true,[.int (sT (rR ds 0) (rI ds 1))])}
def naN:Ctx:=[(128,ndm)]
theorem nom:bN Tryz.prog naN:=Ih nrn JD
def naM:List (Nat×lE):=[(5, {cl:=[(0,.mP),(1,.mP),(5,.mP)],boxes:=[]})]
def naO:Int→kM:=(fun r0=>((true,[.int r0]):kM))
def nmb (a:Rows) (uR i:Int):St:= {n:=27,sl:=[(0,.sl [.i,.i,.i,.i,.i,.i,.str,.bool] a),(1,.int .i64 uR),(5,.int .i64 i)],hp:=[],ok:=true,ls:=[],lm:=[]}
theorem nol:D_ Tryz.prog 32 RM:=by
 refine qC (A:=naM) nom Tryz.func32 fun ds (hw:kd ([.sl [.i,.i,.i,.i,.i,.i,.str,.bool],.i]) ds) _=> ?_
 obtain⟨a,ds,rfl,qA,hw⟩:=nW hw
 obtain⟨left,rfl,_⟩:=nx hw
 obtain⟨N,hN⟩:=nok Vm.kf naO a left qA
 exact⟨N,eL (fun l_=>RN Vm.kf naO l_ a left) (Te (LW Tryz.prog naN naM N Tryz.f32 RM [true,true,true,false,true,false] []) (nmb a) _ N) hN⟩
def nfx:Sum:= {ps:=[⟨[.sl [.bool]],false⟩,⟨[.i],false⟩],rs:=[⟨[.ef .i],false⟩],fn:=fun ds=>(true,[.int (oX (rR ds 0) (rI ds 1))])}
theorem ntN:D_ Tryz.prog 29 nfx:=by
 refine nD JD Tryz.func29 fun ds (hw:kd ([.sl [.bool],.i]) ds) _=> ?_
 obtain⟨a,ds,rfl,_,hw⟩:=nW hw
 obtain⟨left,rfl,_⟩:=nx hw
 exact⟨0,eT (yA (fun r0=>((true,[.int r0]):kM)) a left)⟩
def Rq:Sum:= {ps:=[⟨[.sl [.i,.i,.i,.i,.bool,.bool]],false⟩,⟨[.sl [.i,.i,.i,.i,.bool,.bool]],false⟩],rs:=[⟨[.ef .bool],false⟩],fn:=fun ds=>(same (rR ds 0) (rR ds 1),[.bool (pd (rR ds 0) (rR ds 1))])}
def nab:Ctx:=[(176,nc3)]
theorem nnM:bN Tryz.prog nab:=Ih nqV JD
def naa:List (Nat×lE):=[(4, {cl:=[(0,.mP),(1,.mP),(5,.mP)],boxes:=[]})]
def nac:Bool→kM:=(fun r0=>((true,[.bool r0]):kM))
def nlB (a b:Rows) (i:Int):St:= {n:=27,sl:=[(0,.sl [.i,.i,.i,.i,.bool,.bool] a),(1,.sl [.i,.i,.i,.i,.bool,.bool] b),(5,.int .i64 i)],hp:=[],ok:=true,ls:=[],lm:=[]}
theorem nnL:D_ Tryz.prog 64 Rq:=by
 refine qC (A:=naa) nnM Tryz.func64 fun ds (hw:kd ([.sl [.i,.i,.i,.i,.bool,.bool],.sl [.i,.i,.i,.i,.bool,.bool]]) ds) aP=> ?_
 obtain⟨a,ds,rfl,qA,hw⟩:=nW hw
 obtain⟨b,rfl,_⟩:=pL hw
 obtain⟨N,hN⟩:=nnK Vm.kf nac a b qA aP
 have e0:(fun i=>LX (LW Tryz.prog nab naa N Tryz.f64 Rq [true,true,false,true,false] []) N (nlB a b i))=(npU (fun r=>nA.nc r 0) Vm.kf nac N a b N):=nL1 _ _ _ N
 refine⟨N,Eq.trans ?_ (hN.trans (by kernel_rfl))⟩
 unfold nem
 rw[←e0]
 kernel_rfl
def niI:Sum:= {ps:=[⟨oZ.ct,true⟩,⟨[.i],false⟩],rs:=[⟨[.ef .i],false⟩],fn:=fun ds=>(true,[.int (sB (oZ.nc ds 0) (rI ds 3))])}
theorem nvY:D_ Tryz.prog 246 niI:=by
 refine nD (Γ:=[(34,yB)]) (Ih N7 JD) Tryz.func246 fun ds (hw:kd (oZ.ct++[.i]) ds) _=> ?_
 obtain⟨a,ds,rfl,_,hw⟩:=oZ.nw (r:=_) hw
 obtain⟨left,rfl,_⟩:=nx hw
 exact⟨0,eT (nvX (fun r0=>((true,[.int r0]):kM)) a left)⟩
def Wp:Sum:= {ps:=[⟨[.sl [.i,.i,.sl [.i]]],false⟩,⟨[.i],false⟩],rs:=[⟨[.ef .i],false⟩],fn:=fun ds=>(true,[.int (t9 (rR ds 0) (rI ds 1))])}
def nfE:Ctx:=[(246,niI)]
theorem ntV:bN Tryz.prog nfE:=Ih nvY JD
def nfD:List (Nat×lE):=[(5, {cl:=[(0,.mP),(1,.mP),(5,.mP)],boxes:=[]})]
def nfF:Int→kM:=(fun r0=>((true,[.int r0]):kM))
def nri (a:Rows) (uR i:Int):St:= {n:=27,sl:=[(0,.sl [.i,.i,.sl [.i]] a),(1,.int .i64 uR),(5,.int .i64 i)],hp:=[],ok:=true,ls:=[],lm:=[]}
theorem ntU:D_ Tryz.prog 123 Wp:=by
 refine qC (A:=nfD) ntV Tryz.func123 fun ds (hw:kd ([.sl [.i,.i,.sl [.i]],.i]) ds) _=> ?_
 obtain⟨a,ds,rfl,qA,hw⟩:=nW hw
 obtain⟨left,rfl,_⟩:=nx hw
 obtain⟨N,hN⟩:=ntT Vm.kf nfF a left qA
 exact⟨N,eL (fun l_=>Wq Vm.kf nfF l_ a left) (Te (LW Tryz.prog nfE nfD N Tryz.f123 Wp [true,true,true,false,true,false] []) (nri a) _ N) hN⟩
def Nh:Sum:= {ps:=[⟨[.sl [.str]],false⟩,⟨[.i],false⟩],rs:=[⟨[.ef .i],false⟩],fn:=fun ds=>(true,[.int (rX (rR ds 0) (rI ds 1))])}
def naQ:List (Nat×lE):=[(5, {cl:=[(0,.mP),(1,.mP),(5,.mP)],boxes:=[]})]
def naR:Int→kM:=(fun r0=>((true,[.int r0]):kM))
def nmd (a:Rows) (uR i:Int):St:= {n:=28,sl:=[(0,.sl [.str] a),(1,.int .i64 uR),(5,.int .i64 i)],hp:=[],ok:=true,ls:=[],lm:=[]}
theorem naT:D_ Tryz.prog 33 Nh:=by
 refine qC (A:=naQ) JD Tryz.func33 fun ds (hw:kd ([.sl [.str],.i]) ds) _=> ?_
 obtain⟨a,ds,rfl,qA,hw⟩:=nW hw
 obtain⟨left,rfl,_⟩:=nx hw
 obtain⟨N,hN⟩:=nop Vm.kf naR a left qA
 exact⟨N,eL (fun l_=>RO Vm.kf naR l_ a left) (Te (LW Tryz.prog [] naQ N Tryz.f33 Nh [true,true,true,false,true,false] []) (nmd a) _ N) hN⟩
def ndi:Sum:= {ps:=[⟨na.ct,true⟩,⟨[.i],false⟩],rs:=[⟨[.ef .i],false⟩],fn:=fun ds=>(true,[.int (pc (na.nc ds 0) (rI ds 1))])}
theorem nrd:D_ Tryz.prog 23 ndi:=by
 refine nD (Γ:=[(33,Nh)]) (Ih naT JD) Tryz.func23 fun ds (hw:kd (na.ct++[.i]) ds) _=> ?_
 obtain⟨a,ds,rfl,_,hw⟩:=na.nw (r:=_) hw
 obtain⟨left,rfl,_⟩:=nx hw
 exact⟨0,eT (nrc (fun r0=>((true,[.int r0]):kM)) a left)⟩
def X3:Sum:= {ps:=[⟨[.sl [.i,.i,.i,.bool]],false⟩,⟨[.i],false⟩],rs:=[⟨[.ef .i],false⟩],fn:=fun ds=>(true,[.int (oX (rR ds 0) (rI ds 1))])}
theorem nl4:D_ Tryz.prog 24 X3:=by
 refine nD JD Tryz.func24 fun ds (hw:kd ([.sl [.i,.i,.i,.bool],.i]) ds) _=> ?_
 obtain⟨a,ds,rfl,_,hw⟩:=nW hw
 obtain⟨left,rfl,_⟩:=nx hw
 exact⟨0,eT (yA (fun r0=>((true,[.int r0]):kM)) a left)⟩
def naU:Sum:= {ps:=[⟨nt.ct,true⟩,⟨[.i],false⟩],rs:=[⟨[.ef .i],false⟩],fn:=fun ds=>(true,[.int (pF (nt.nc ds 0) (rI ds 10))])}
theorem nor:D_ Tryz.prog 25 naU:=by
 refine nD (Γ:=[(122,Y1),(123,Wp)]) (Ih niH (Ih ntU JD)) Tryz.func25 fun ds (hw:kd (nt.ct++[.i]) ds) _=> ?_
 obtain⟨a,ds,rfl,_,hw⟩:=nt.nw (r:=_) hw
 obtain⟨left,rfl,_⟩:=nx hw
 exact⟨0,eT (noq (fun r0=>((true,[.int r0]):kM)) a left)⟩
def naK:Sum:= {ps:=[⟨nh.ct,true⟩,⟨[.i],false⟩],rs:=[⟨[.ef .i],false⟩],fn:=fun ds=>(true,[.int (sR (nh.nc ds 0) (rI ds 30))])}
theorem nog:D_ Tryz.prog 124 naK:=by
 refine nD (Γ:=[(247,nfI)]) (Ih ntZ JD) Tryz.func124 fun ds (hw:kd (nh.ct++[.i]) ds) _=> ?_
 obtain⟨a,ds,rfl,_,hw⟩:=nh.nw (r:=_) hw
 obtain⟨left,rfl,_⟩:=nx hw
 exact⟨0,eT (nof (fun r0=>((true,[.int r0]):kM)) a left)⟩
def Qx:Sum:= {ps:=[⟨[.sl [.i,.i,.i,.i,.i,.i,.i,.i,.i,.i,.i,.i,.i,.i,.i,.i,.i,.i,.i,.i,.i,.i,.i,.i,.i,.str,.i,.i,.bool,.i]],false⟩,⟨[.i],false⟩],rs:=[⟨[.ef .i],false⟩],fn:=fun ds=>(true,[.int (qf (rR ds 0) (rI ds 1))])}
def X6:Ctx:=[(124,naK)]
theorem nl7:bN Tryz.prog X6:=Ih nog JD
def X5:List (Nat×lE):=[(5, {cl:=[(0,.mP),(1,.mP),(5,.mP)],boxes:=[]})]
def X7:Int→kM:=(fun r0=>((true,[.int r0]):kM))
def nkb (a:Rows) (uR i:Int):St:= {n:=27,sl:=[(0,.sl [.i,.i,.i,.i,.i,.i,.i,.i,.i,.i,.i,.i,.i,.i,.i,.i,.i,.i,.i,.i,.i,.i,.i,.i,.i,.str,.i,.i,.bool,.i] a),(1,.int .i64 uR),(5,.int .i64 i)],hp:=[],ok:=true,ls:=[],lm:=[]}
theorem nl6:D_ Tryz.prog 26 Qx:=by
 refine qC (A:=X5) nl7 Tryz.func26 fun ds (hw:kd ([.sl [.i,.i,.i,.i,.i,.i,.i,.i,.i,.i,.i,.i,.i,.i,.i,.i,.i,.i,.i,.i,.i,.i,.i,.i,.i,.str,.i,.i,.bool,.i],.i]) ds) _=> ?_
 obtain⟨a,ds,rfl,qA,hw⟩:=nW hw
 obtain⟨left,rfl,_⟩:=nx hw
 obtain⟨N,hN⟩:=nl5 Vm.kf X7 a left qA
 exact⟨N,eL (fun l_=>Qy Vm.kf X7 l_ a left) (Te (LW Tryz.prog X6 X5 N Tryz.f26 Qx [true,true,true,false,true,false] []) (nkb a) _ N) hN⟩
def Wm:Sum:= {ps:=[⟨[.sl [.i,.i,.i,.sl [.i]]],false⟩,⟨[.i],false⟩],rs:=[⟨[.ef .i],false⟩],fn:=fun ds=>(true,[.int (rP (rR ds 0) (rI ds 1))])}
def nfz:Ctx:=[(122,Y1)]
theorem ntR:bN Tryz.prog nfz:=Ih niH JD
def nfy:List (Nat×lE):=[(5, {cl:=[(0,.mP),(1,.mP),(5,.mP)],boxes:=[]})]
def nfA:Int→kM:=(fun r0=>((true,[.int r0]):kM))
def nrg (a:Rows) (uR i:Int):St:= {n:=27,sl:=[(0,.sl [.i,.i,.i,.sl [.i]] a),(1,.int .i64 uR),(5,.int .i64 i)],hp:=[],ok:=true,ls:=[],lm:=[]}
theorem ntQ:D_ Tryz.prog 27 Wm:=by
 refine qC (A:=nfy) ntR Tryz.func27 fun ds (hw:kd ([.sl [.i,.i,.i,.sl [.i]],.i]) ds) _=> ?_
 obtain⟨a,ds,rfl,qA,hw⟩:=nW hw
 obtain⟨left,rfl,_⟩:=nx hw
 obtain⟨N,hN⟩:=ntP Vm.kf nfA a left qA
 exact⟨N,eL (fun l_=>Wn Vm.kf nfA l_ a left) (Te (LW Tryz.prog nfz nfy N Tryz.f27 Wm [true,true,true,false,true,false] []) (nrg a) _ N) hN⟩
def nfC:Sum:= {ps:=[⟨[.sl [.i,.i,.i,.i,.i,.i,.i,.i,.i]],false⟩,⟨[.i],false⟩],rs:=[⟨[.ef .i],false⟩],fn:=fun ds=>(true,[.int (oX (rR ds 0) (rI ds 1))])}
theorem ntS:D_ Tryz.prog 125 nfC:=by
 refine nD JD Tryz.func125 fun ds (hw:kd ([.sl [.i,.i,.i,.i,.i,.i,.i,.i,.i],.i]) ds) _=> ?_
 obtain⟨a,ds,rfl,_,hw⟩:=nW hw
 obtain⟨left,rfl,_⟩:=nx hw
 exact⟨0,eT (yA (fun r0=>((true,[.int r0]):kM)) a left)⟩
def X_:Sum:= {ps:=[⟨nm.ct,true⟩,⟨[.i],false⟩],rs:=[⟨[.ef .i],false⟩],fn:=fun ds=>(true,[.int (rW (nm.nc ds 0) (rI ds 4))])}
theorem nma:D_ Tryz.prog 31 X_:=by
 refine nD (Γ:=[(125,nfC),(126,Wl),(127,ndl)]) (Ih ntS (Ih nka (Ih nrk JD))) Tryz.func31 fun ds (hw:kd (nm.ct++[.i]) ds) _=> ?_
 obtain⟨a,ds,rfl,_,hw⟩:=nm.nw (r:=_) hw
 obtain⟨left,rfl,_⟩:=nx hw
 exact⟨0,eT (nl_ (fun r0=>((true,[.int r0]):kM)) a left)⟩
def niG:Sum:= {ps:=[⟨ny.ct,true⟩,⟨[.i],false⟩],rs:=[⟨[.ef .i],false⟩],fn:=fun ds=>(true,[.int (wA (ny.nc ds 0) (rI ds 33))])}
theorem nvU:D_ Tryz.prog 7 niG:=by
 refine nD (Γ:=[(23,ndi),(24,X3),(25,naU),(26,Qx),(27,Wm),(28,naV),(29,nfx),(30,ndh),(31,X_),(32,RM),(33,Nh),(34,yB)]) (Ih nrd (Ih nl4 (Ih nor (Ih nl6 (Ih ntQ (Ih nos (Ih ntN (Ih nrb (Ih nma (Ih nol (Ih naT (Ih N7 JD)))))))))))) Tryz.func7 fun ds (hw:kd (ny.ct++[.i]) ds) _=> ?_
 obtain⟨a,ds,rfl,_,hw⟩:=ny.nw (r:=_) hw
 obtain⟨left,rfl,_⟩:=nx hw
 exact⟨0,eT (nvT (fun r0=>((true,[.int r0]):kM)) a left)⟩
def YX:Sum:= {ps:=[⟨nG.ct,true⟩,⟨nG.ct,true⟩],rs:=[⟨[.ef .bool],false⟩],fn:=fun ds=>(same (nG.nc ds 0) (nG.nc ds 5),[.bool (pd (nG.nc ds 0) (nG.nc ds 5))])}
theorem nip:D_ Tryz.prog 285 YX:=by
 refine nD JD Tryz.func285 fun ds (hw:kd (nG.ct++(nG.ct++[])) ds) aP=> ?_
 obtain⟨a,ds,rfl,_,hw⟩:=nG.nw (r:=_) hw
 obtain⟨b,ds,rfl,_,hw⟩:=nG.nw (r:=_) hw
 obtain rfl:=nk hw
 exact⟨0,eT (nvH (fun r0=>((true,[.bool r0]):kM)) a b aP)⟩
def ZW:Sum:= {ps:=[⟨oN.ct,true⟩,⟨oN.ct,true⟩],rs:=[⟨[.ef .bool],false⟩],fn:=fun ds=>(same (oN.nc ds 0) (oN.nc ds 4),[.bool (pd (oN.nc ds 0) (oN.nc ds 4))])}
theorem nnz:D_ Tryz.prog 171 ZW:=by
 refine nD JD Tryz.func171 fun ds (hw:kd (oN.ct++(oN.ct++[])) ds) aP=> ?_
 obtain⟨a,ds,rfl,_,hw⟩:=oN.nw (r:=_) hw
 obtain⟨b,ds,rfl,_,hw⟩:=oN.nw (r:=_) hw
 obtain rfl:=nk hw
 exact⟨0,eT (nny (fun r0=>((true,[.bool r0]):kM)) a b aP)⟩
def niA:Sum:= {ps:=[⟨oE.ct,true⟩,⟨oE.ct,true⟩],rs:=[⟨[.ef .bool],false⟩],fn:=fun ds=>(same (oE.nc ds 0) (oE.nc ds 9),[.bool (pd (oE.nc ds 0) (oE.nc ds 9))])}
theorem nvO:D_ Tryz.prog 283 niA:=by
 refine nD JD Tryz.func283 fun ds (hw:kd (oE.ct++(oE.ct++[])) ds) aP=> ?_
 obtain⟨a,ds,rfl,_,hw⟩:=oE.nw (r:=_) hw
 obtain⟨b,ds,rfl,_,hw⟩:=oE.nw (r:=_) hw
 obtain rfl:=nk hw
 exact⟨0,eT (nvN (fun r0=>((true,[.bool r0]):kM)) a b aP)⟩
def VU:Sum:= {ps:=[⟨[.sl [.i,.i,.i,.i,.i,.i,.i,.i,.i]],false⟩,⟨[.sl [.i,.i,.i,.i,.i,.i,.i,.i,.i]],false⟩],rs:=[⟨[.ef .bool],false⟩],fn:=fun ds=>(same (rR ds 0) (rR ds 1),[.bool (pd (rR ds 0) (rR ds 1))])}
def nfd:Ctx:=[(283,niA)]
theorem ntE:bN Tryz.prog nfd:=Ih nvO JD
def nfc:List (Nat×lE):=[(4, {cl:=[(0,.mP),(1,.mP),(5,.mP)],boxes:=[]})]
def nfe:Bool→kM:=(fun r0=>((true,[.bool r0]):kM))
def nqN (a b:Rows) (i:Int):St:= {n:=27,sl:=[(0,.sl [.i,.i,.i,.i,.i,.i,.i,.i,.i] a),(1,.sl [.i,.i,.i,.i,.i,.i,.i,.i,.i] b),(5,.int .i64 i)],hp:=[],ok:=true,ls:=[],lm:=[]}
theorem ntD:D_ Tryz.prog 177 VU:=by
 refine qC (A:=nfc) ntE Tryz.func177 fun ds (hw:kd ([.sl [.i,.i,.i,.i,.i,.i,.i,.i,.i],.sl [.i,.i,.i,.i,.i,.i,.i,.i,.i]]) ds) aP=> ?_
 obtain⟨a,ds,rfl,qA,hw⟩:=nW hw
 obtain⟨b,rfl,_⟩:=pL hw
 obtain⟨N,hN⟩:=ntC Vm.kf nfe a b qA aP
 have e0:(fun i=>LX (LW Tryz.prog nfd nfc N Tryz.f177 VU [true,true,false,true,false] []) N (nqN a b i))=(npU (fun r=>oE.nc r 0) Vm.kf nfe N a b N):=nL1 _ _ _ N
 refine⟨N,Eq.trans ?_ (hN.trans (by kernel_rfl))⟩
 unfold nem
 rw[←e0]
 kernel_rfl
def niE:Sum:= {ps:=[⟨rD.ct,true⟩,⟨rD.ct,true⟩],rs:=[⟨[.ef .bool],false⟩],fn:=fun ds=>(same (rD.nc ds 0) (rD.nc ds 7),[.bool (pd (rD.nc ds 0) (rD.nc ds 7))])}
theorem nvS:D_ Tryz.prog 358 niE:=by
 refine nD (Γ:=[(285,YX)]) (Ih nip JD) Tryz.func358 fun ds (hw:kd (rD.ct++(rD.ct++[])) ds) aP=> ?_
 obtain⟨a,ds,rfl,_,hw⟩:=rD.nw (r:=_) hw
 obtain⟨b,ds,rfl,_,hw⟩:=rD.nw (r:=_) hw
 obtain rfl:=nk hw
 exact⟨0,eT (nvR Vm.kf (fun r0=>((true,[.bool r0]):kM)) a b aP)⟩
def VW:Sum:= {ps:=[⟨[.sl [.i,.i,.i,.i,.i,.i,.i]],false⟩,⟨[.sl [.i,.i,.i,.i,.i,.i,.i]],false⟩],rs:=[⟨[.ef .bool],false⟩],fn:=fun ds=>(same (rR ds 0) (rR ds 1),[.bool (pd (rR ds 0) (rR ds 1))])}
def nfj:Ctx:=[(358,niE)]
theorem ntK:bN Tryz.prog nfj:=Ih nvS JD
def nfi:List (Nat×lE):=[(4, {cl:=[(0,.mP),(1,.mP),(5,.mP)],boxes:=[]})]
def nfk:Bool→kM:=(fun r0=>((true,[.bool r0]):kM))
def nqP (a b:Rows) (i:Int):St:= {n:=27,sl:=[(0,.sl [.i,.i,.i,.i,.i,.i,.i] a),(1,.sl [.i,.i,.i,.i,.i,.i,.i] b),(5,.int .i64 i)],hp:=[],ok:=true,ls:=[],lm:=[]}
theorem ntJ:D_ Tryz.prog 284 VW:=by
 refine qC (A:=nfi) ntK Tryz.func284 fun ds (hw:kd ([.sl [.i,.i,.i,.i,.i,.i,.i],.sl [.i,.i,.i,.i,.i,.i,.i]]) ds) aP=> ?_
 obtain⟨a,ds,rfl,qA,hw⟩:=nW hw
 obtain⟨b,rfl,_⟩:=pL hw
 obtain⟨N,hN⟩:=ntI Vm.kf nfk a b qA aP
 have e0:(fun i=>LX (LW Tryz.prog nfj nfi N Tryz.f284 VW [true,true,false,true,false] []) N (nqP a b i))=(npU (fun r=>rD.nc r 0) Vm.kf nfk N a b N):=nL1 _ _ _ N
 refine⟨N,Eq.trans ?_ (hN.trans (by kernel_rfl))⟩
 unfold nem
 rw[←e0]
 kernel_rfl
def VR:Sum:= {ps:=[⟨ni.ct,true⟩,⟨ni.ct,true⟩],rs:=[⟨[.ef .bool],false⟩],fn:=fun ds=>(same (ni.nc ds 0) (ni.nc ds 1),[.bool (pd (ni.nc ds 0) (ni.nc ds 1))])}
theorem njN:D_ Tryz.prog 178 VR:=by
 refine nD (Γ:=[(284,VW)]) (Ih ntJ JD) Tryz.func178 fun ds (hw:kd (ni.ct++(ni.ct++[])) ds) aP=> ?_
 obtain⟨a,ds,rfl,_,hw⟩:=ni.nw (r:=_) hw
 obtain⟨b,ds,rfl,_,hw⟩:=ni.nw (r:=_) hw
 obtain rfl:=nk hw
 exact⟨0,eT (njM Vm.kf (fun r0=>((true,[.bool r0]):kM)) a b aP)⟩
def ncZ:Sum:= {ps:=[⟨nB.ct,true⟩,⟨nB.ct,true⟩],rs:=[⟨[.ef .bool],false⟩],fn:=fun ds=>(same (nB.nc ds 0) (nB.nc ds 2),[.bool (pd (nB.nc ds 0) (nB.nc ds 2))])}
theorem nqR:D_ Tryz.prog 179 ncZ:=by
 refine nD (Γ:=[(70,wM)]) (Ih N6 JD) Tryz.func179 fun ds (hw:kd (nB.ct++(nB.ct++[])) ds) aP=> ?_
 obtain⟨a,ds,rfl,_,hw⟩:=nB.nw (r:=_) hw
 obtain⟨b,ds,rfl,_,hw⟩:=nB.nw (r:=_) hw
 obtain rfl:=nk hw
 exact⟨0,eT (nqQ Vm.kf (fun r0=>((true,[.bool r0]):kM)) a b aP)⟩
def XV:Sum:= {ps:=[⟨nm.ct,true⟩,⟨nm.ct,true⟩],rs:=[⟨[.ef .bool],false⟩],fn:=fun ds=>(same (nm.nc ds 0) (nm.nc ds 4),[.bool (pd (nm.nc ds 0) (nm.nc ds 4))])}
theorem nly:D_ Tryz.prog 67 XV:=by
 refine nD (Γ:=[(177,VU),(178,VR),(179,ncZ)]) (Ih ntD (Ih njN (Ih nqR JD))) Tryz.func67 fun ds (hw:kd (nm.ct++(nm.ct++[])) ds) aP=> ?_
 obtain⟨a,ds,rfl,_,hw⟩:=nm.nw (r:=_) hw
 obtain⟨b,ds,rfl,_,hw⟩:=nm.nw (r:=_) hw
 obtain rfl:=nk hw
 exact⟨0,eT (nlx Vm.kf (fun r0=>((true,[.bool r0]):kM)) a b aP)⟩
def nc1:Sum:= {ps:=[⟨oh.ct,true⟩,⟨oh.ct,true⟩],rs:=[⟨[.ef .bool],false⟩],fn:=fun ds=>(same (oh.nc ds 0) (oh.nc ds 8),[.bool (pd (oh.nc ds 0) (oh.nc ds 8))])}
theorem nqT:D_ Tryz.prog 180 nc1:=by
 refine nD (Γ:=[(285,YX)]) (Ih nip JD) Tryz.func180 fun ds (hw:kd (oh.ct++(oh.ct++[])) ds) aP=> ?_
 obtain⟨a,ds,rfl,_,hw⟩:=oh.nw (r:=_) hw
 obtain⟨b,ds,rfl,_,hw⟩:=oh.nw (r:=_) hw
 obtain rfl:=nk hw
 exact⟨0,eT (nqS Vm.kf (fun r0=>((true,[.bool r0]):kM)) a b aP)⟩
def Ro:Sum:= {ps:=[⟨[.sl [.i,.i,.i,.i,.i,.i,.str,.bool]],false⟩,⟨[.sl [.i,.i,.i,.i,.i,.i,.str,.bool]],false⟩],rs:=[⟨[.ef .bool],false⟩],fn:=fun ds=>(same (rR ds 0) (rR ds 1),[.bool (pd (rR ds 0) (rR ds 1))])}
def Z3:Ctx:=[(180,nc1)]
theorem nnG:bN Tryz.prog Z3:=Ih nqT JD
def Z2:List (Nat×lE):=[(4, {cl:=[(0,.mP),(1,.mP),(5,.mP)],boxes:=[]})]
def Z4:Bool→kM:=(fun r0=>((true,[.bool r0]):kM))
def nlz (a b:Rows) (i:Int):St:= {n:=27,sl:=[(0,.sl [.i,.i,.i,.i,.i,.i,.str,.bool] a),(1,.sl [.i,.i,.i,.i,.i,.i,.str,.bool] b),(5,.int .i64 i)],hp:=[],ok:=true,ls:=[],lm:=[]}
theorem nnF:D_ Tryz.prog 68 Ro:=by
 refine qC (A:=Z2) nnG Tryz.func68 fun ds (hw:kd ([.sl [.i,.i,.i,.i,.i,.i,.str,.bool],.sl [.i,.i,.i,.i,.i,.i,.str,.bool]]) ds) aP=> ?_
 obtain⟨a,ds,rfl,qA,hw⟩:=nW hw
 obtain⟨b,rfl,_⟩:=pL hw
 obtain⟨N,hN⟩:=nnE Vm.kf Z4 a b qA aP
 have e0:(fun i=>LX (LW Tryz.prog Z3 Z2 N Tryz.f68 Ro [true,true,false,true,false] []) N (nlz a b i))=(npU (fun r=>oh.nc r 0) Vm.kf Z4 N a b N):=nL1 _ _ _ N
 refine⟨N,Eq.trans ?_ (hN.trans (by kernel_rfl))⟩
 unfold nem
 rw[←e0]
 kernel_rfl
def YZ:Sum:= {ps:=[⟨nJ.ct,true⟩,⟨nJ.ct,true⟩],rs:=[⟨[.ef .bool],false⟩],fn:=fun ds=>(same (nJ.nc ds 0) (nJ.nc ds 4),[.bool (pd (nJ.nc ds 0) (nJ.nc ds 4))])}
theorem niw:D_ Tryz.prog 173 YZ:=by
 refine nD (Γ:=[(70,wM)]) (Ih N6 JD) Tryz.func173 fun ds (hw:kd (nJ.ct++(nJ.ct++[])) ds) aP=> ?_
 obtain⟨a,ds,rfl,_,hw⟩:=nJ.nw (r:=_) hw
 obtain⟨b,ds,rfl,_,hw⟩:=nJ.nw (r:=_) hw
 obtain rfl:=nk hw
 exact⟨0,eT (nvL Vm.kf (fun r0=>((true,[.bool r0]):kM)) a b aP)⟩
def Y0:Sum:= {ps:=[⟨n8.ct,true⟩,⟨n8.ct,true⟩],rs:=[⟨[.ef .bool],false⟩],fn:=fun ds=>(same (n8.nc ds 0) (n8.nc ds 4),[.bool (pd (n8.nc ds 0) (n8.nc ds 4))])}
theorem niy:D_ Tryz.prog 172 Y0:=by
 refine nD JD Tryz.func172 fun ds (hw:kd (n8.ct++(n8.ct++[])) ds) aP=> ?_
 obtain⟨a,ds,rfl,_,hw⟩:=n8.nw (r:=_) hw
 obtain⟨b,ds,rfl,_,hw⟩:=n8.nw (r:=_) hw
 obtain rfl:=nk hw
 exact⟨0,eT (nvM (fun r0=>((true,[.bool r0]):kM)) a b aP)⟩
def niC:Sum:= {ps:=[⟨oZ.ct,true⟩,⟨oZ.ct,true⟩],rs:=[⟨[.ef .bool],false⟩],fn:=fun ds=>(same (oZ.nc ds 0) (oZ.nc ds 3),[.bool (pd (oZ.nc ds 0) (oZ.nc ds 3))])}
theorem nvQ:D_ Tryz.prog 280 niC:=by
 refine nD (Γ:=[(70,wM)]) (Ih N6 JD) Tryz.func280 fun ds (hw:kd (oZ.ct++(oZ.ct++[])) ds) aP=> ?_
 obtain⟨a,ds,rfl,_,hw⟩:=oZ.nw (r:=_) hw
 obtain⟨b,ds,rfl,_,hw⟩:=oZ.nw (r:=_) hw
 obtain rfl:=nk hw
 exact⟨0,eT (nvP Vm.kf (fun r0=>((true,[.bool r0]):kM)) a b aP)⟩
def VV:Sum:= {ps:=[⟨[.sl [.i,.i,.sl [.i]]],false⟩,⟨[.sl [.i,.i,.sl [.i]]],false⟩],rs:=[⟨[.ef .bool],false⟩],fn:=fun ds=>(same (rR ds 0) (rR ds 1),[.bool (pd (rR ds 0) (rR ds 1))])}
def nfg:Ctx:=[(280,niC)]
theorem ntH:bN Tryz.prog nfg:=Ih nvQ JD
def nff:List (Nat×lE):=[(4, {cl:=[(0,.mP),(1,.mP),(5,.mP)],boxes:=[]})]
def nfh:Bool→kM:=(fun r0=>((true,[.bool r0]):kM))
def nqO (a b:Rows) (i:Int):St:= {n:=27,sl:=[(0,.sl [.i,.i,.sl [.i]] a),(1,.sl [.i,.i,.sl [.i]] b),(5,.int .i64 i)],hp:=[],ok:=true,ls:=[],lm:=[]}
theorem ntG:D_ Tryz.prog 174 VV:=by
 refine qC (A:=nff) ntH Tryz.func174 fun ds (hw:kd ([.sl [.i,.i,.sl [.i]],.sl [.i,.i,.sl [.i]]]) ds) aP=> ?_
 obtain⟨a,ds,rfl,qA,hw⟩:=nW hw
 obtain⟨b,rfl,_⟩:=pL hw
 obtain⟨N,hN⟩:=ntF Vm.kf nfh a b qA aP
 have e0:(fun i=>LX (LW Tryz.prog nfg nff N Tryz.f174 VV [true,true,false,true,false] []) N (nqO a b i))=(npU (fun r=>oZ.nc r 0) Vm.kf nfh N a b N):=nL1 _ _ _ N
 refine⟨N,Eq.trans ?_ (hN.trans (by kernel_rfl))⟩
 unfold nem
 rw[←e0]
 kernel_rfl
def Z9:Sum:= {ps:=[⟨nt.ct,true⟩,⟨nt.ct,true⟩],rs:=[⟨[.ef .bool],false⟩],fn:=fun ds=>(same (nt.nc ds 0) (nt.nc ds 10),[.bool (pd (nt.nc ds 0) (nt.nc ds 10))])}
theorem nnJ:D_ Tryz.prog 61 Z9:=by
 refine nD (Γ:=[(172,Y0),(173,YZ),(174,VV)]) (Ih niy (Ih niw (Ih ntG JD))) Tryz.func61 fun ds (hw:kd (nt.ct++(nt.ct++[])) ds) aP=> ?_
 obtain⟨a,ds,rfl,_,hw⟩:=nt.nw (r:=_) hw
 obtain⟨b,ds,rfl,_,hw⟩:=nt.nw (r:=_) hw
 obtain rfl:=nk hw
 exact⟨0,eT (nnI Vm.kf (fun r0=>((true,[.bool r0]):kM)) a b aP)⟩
def Qv:Sum:= {ps:=[⟨[.sl [.i,.i,.i,.bool]],false⟩,⟨[.sl [.i,.i,.i,.bool]],false⟩],rs:=[⟨[.ef .bool],false⟩],fn:=fun ds=>(same (rR ds 0) (rR ds 1),[.bool (pd (rR ds 0) (rR ds 1))])}
def XQ:Ctx:=[(171,ZW)]
theorem nlt:bN Tryz.prog XQ:=Ih nnz JD
def XP:List (Nat×lE):=[(4, {cl:=[(0,.mP),(1,.mP),(5,.mP)],boxes:=[]})]
def XR:Bool→kM:=(fun r0=>((true,[.bool r0]):kM))
def njO (a b:Rows) (i:Int):St:= {n:=27,sl:=[(0,.sl [.i,.i,.i,.bool] a),(1,.sl [.i,.i,.i,.bool] b),(5,.int .i64 i)],hp:=[],ok:=true,ls:=[],lm:=[]}
theorem nls:D_ Tryz.prog 60 Qv:=by
 refine qC (A:=XP) nlt Tryz.func60 fun ds (hw:kd ([.sl [.i,.i,.i,.bool],.sl [.i,.i,.i,.bool]]) ds) aP=> ?_
 obtain⟨a,ds,rfl,qA,hw⟩:=nW hw
 obtain⟨b,rfl,_⟩:=pL hw
 obtain⟨N,hN⟩:=nlr Vm.kf XR a b qA aP
 have e0:(fun i=>LX (LW Tryz.prog XQ XP N Tryz.f60 Qv [true,true,false,true,false] []) N (njO a b i))=(npU (fun r=>oN.nc r 0) Vm.kf XR N a b N):=nL1 _ _ _ N
 refine⟨N,Eq.trans ?_ (hN.trans (by kernel_rfl))⟩
 unfold nem
 rw[←e0]
 kernel_rfl
def N4:Sum:= {ps:=[⟨nd.ct,true⟩,⟨nd.ct,true⟩],rs:=[⟨[.ef .bool],false⟩],fn:=fun ds=>(same (nd.nc ds 0) (nd.nc ds 3),[.bool (pd (nd.nc ds 0) (nd.nc ds 3))])}
theorem YW:D_ Tryz.prog 281 N4:=by
 refine nD JD Tryz.func281 fun ds (hw:kd (nd.ct++(nd.ct++[])) ds) aP=> ?_
 obtain⟨a,ds,rfl,_,hw⟩:=nd.nw (r:=_) hw
 obtain⟨b,ds,rfl,_,hw⟩:=nd.nw (r:=_) hw
 obtain rfl:=nk hw
 exact⟨0,eT (YV (fun r0=>((true,[.bool r0]):kM)) a b aP)⟩
def ZY:Sum:= {ps:=[⟨nh.ct,true⟩,⟨nh.ct,true⟩],rs:=[⟨[.ef .bool],false⟩],fn:=fun ds=>(same (nh.nc ds 0) (nh.nc ds 30),[.bool (pd (nh.nc ds 0) (nh.nc ds 30))])}
theorem nnB:D_ Tryz.prog 175 ZY:=by
 refine nD (Γ:=[(172,Y0),(281,N4),(282,nfl)]) (Ih niy (Ih YW (Ih ntM JD))) Tryz.func175 fun ds (hw:kd (nh.ct++(nh.ct++[])) ds) aP=> ?_
 obtain⟨a,ds,rfl,_,hw⟩:=nh.nw (r:=_) hw
 obtain⟨b,ds,rfl,_,hw⟩:=nh.nw (r:=_) hw
 obtain rfl:=nk hw
 exact⟨0,eT (nnA Vm.kf (fun r0=>((true,[.bool r0]):kM)) a b aP)⟩
def Qw:Sum:= {ps:=[⟨[.sl [.i,.i,.i,.i,.i,.i,.i,.i,.i,.i,.i,.i,.i,.i,.i,.i,.i,.i,.i,.i,.i,.i,.i,.i,.i,.str,.i,.i,.bool,.i]],false⟩,⟨[.sl [.i,.i,.i,.i,.i,.i,.i,.i,.i,.i,.i,.i,.i,.i,.i,.i,.i,.i,.i,.i,.i,.i,.i,.i,.i,.str,.i,.i,.bool,.i]],false⟩],rs:=[⟨[.ef .bool],false⟩],fn:=fun ds=>(same (rR ds 0) (rR ds 1),[.bool (pd (rR ds 0) (rR ds 1))])}
def XT:Ctx:=[(175,ZY)]
theorem nlw:bN Tryz.prog XT:=Ih nnB JD
def XS:List (Nat×lE):=[(4, {cl:=[(0,.mP),(1,.mP),(5,.mP)],boxes:=[]})]
def XU:Bool→kM:=(fun r0=>((true,[.bool r0]):kM))
def njP (a b:Rows) (i:Int):St:= {n:=27,sl:=[(0,.sl [.i,.i,.i,.i,.i,.i,.i,.i,.i,.i,.i,.i,.i,.i,.i,.i,.i,.i,.i,.i,.i,.i,.i,.i,.i,.str,.i,.i,.bool,.i] a),(1,.sl [.i,.i,.i,.i,.i,.i,.i,.i,.i,.i,.i,.i,.i,.i,.i,.i,.i,.i,.i,.i,.i,.i,.i,.i,.i,.str,.i,.i,.bool,.i] b),(5,.int .i64 i)],hp:=[],ok:=true,ls:=[],lm:=[]}
theorem nlv:D_ Tryz.prog 62 Qw:=by
 refine qC (A:=XS) nlw Tryz.func62 fun ds (hw:kd ([.sl [.i,.i,.i,.i,.i,.i,.i,.i,.i,.i,.i,.i,.i,.i,.i,.i,.i,.i,.i,.i,.i,.i,.i,.i,.i,.str,.i,.i,.bool,.i],.sl [.i,.i,.i,.i,.i,.i,.i,.i,.i,.i,.i,.i,.i,.i,.i,.i,.i,.i,.i,.i,.i,.i,.i,.i,.i,.str,.i,.i,.bool,.i]]) ds) aP=> ?_
 obtain⟨a,ds,rfl,qA,hw⟩:=nW hw
 obtain⟨b,rfl,_⟩:=pL hw
 obtain⟨N,hN⟩:=nlu Vm.kf XU a b qA aP
 have e0:(fun i=>LX (LW Tryz.prog XT XS N Tryz.f62 Qw [true,true,false,true,false] []) N (njP a b i))=(npU (fun r=>nh.nc r 0) Vm.kf XU N a b N):=nL1 _ _ _ N
 refine⟨N,Eq.trans ?_ (hN.trans (by kernel_rfl))⟩
 unfold nem
 rw[←e0]
 kernel_rfl
def VT:Sum:= {ps:=[⟨[.sl [.i,.i,.i,.sl [.i]]],false⟩,⟨[.sl [.i,.i,.i,.sl [.i]]],false⟩],rs:=[⟨[.ef .bool],false⟩],fn:=fun ds=>(same (rR ds 0) (rR ds 1),[.bool (pd (rR ds 0) (rR ds 1))])}
def nfa:Ctx:=[(173,YZ)]
theorem ntB:bN Tryz.prog nfa:=Ih niw JD
def ne_:List (Nat×lE):=[(4, {cl:=[(0,.mP),(1,.mP),(5,.mP)],boxes:=[]})]
def nfb:Bool→kM:=(fun r0=>((true,[.bool r0]):kM))
def nqM (a b:Rows) (i:Int):St:= {n:=27,sl:=[(0,.sl [.i,.i,.i,.sl [.i]] a),(1,.sl [.i,.i,.i,.sl [.i]] b),(5,.int .i64 i)],hp:=[],ok:=true,ls:=[],lm:=[]}
theorem ntA:D_ Tryz.prog 63 VT:=by
 refine qC (A:=ne_) ntB Tryz.func63 fun ds (hw:kd ([.sl [.i,.i,.i,.sl [.i]],.sl [.i,.i,.i,.sl [.i]]]) ds) aP=> ?_
 obtain⟨a,ds,rfl,qA,hw⟩:=nW hw
 obtain⟨b,rfl,_⟩:=pL hw
 obtain⟨N,hN⟩:=ntz Vm.kf nfb a b qA aP
 have e0:(fun i=>LX (LW Tryz.prog nfa ne_ N Tryz.f63 VT [true,true,false,true,false] []) N (nqM a b i))=(npU (fun r=>nJ.nc r 0) Vm.kf nfb N a b N):=nL1 _ _ _ N
 refine⟨N,Eq.trans ?_ (hN.trans (by kernel_rfl))⟩
 unfold nem
 rw[←e0]
 kernel_rfl
def VP:Sum:= {ps:=[⟨[.sl [.bool]],false⟩,⟨[.sl [.bool]],false⟩],rs:=[⟨[.ef .bool],false⟩],fn:=fun ds=>(same (rR ds 0) (rR ds 1),[.bool (pd (rR ds 0) (rR ds 1))])}
def ne7:List (Nat×lE):=[(4, {cl:=[(0,.mP),(1,.mP),(5,.mP)],boxes:=[]})]
def ne8:Bool→kM:=(fun r0=>((true,[.bool r0]):kM))
def nqF (a b:Rows) (i:Int):St:= {n:=26,sl:=[(0,.sl [.bool] a),(1,.sl [.bool] b),(5,.int .i64 i)],hp:=[],ok:=true,ls:=[],lm:=[]}
theorem ntx:D_ Tryz.prog 65 VP:=by
 refine qC (A:=ne7) JD Tryz.func65 fun ds (hw:kd ([.sl [.bool],.sl [.bool]]) ds) aP=> ?_
 obtain⟨a,ds,rfl,qA,hw⟩:=nW hw
 obtain⟨b,rfl,_⟩:=pL hw
 obtain⟨N,hN⟩:=ntw Vm.kf ne8 a b qA aP
 exact⟨N,eL (fun l_=>VQ Vm.kf ne8 l_ a b) (nL1 (LW Tryz.prog [] ne7 N Tryz.f65 VP [true,true,false,true,false] []) (nqF a b) _ N) hN⟩
def ncT:Sum:= {ps:=[⟨nE.ct,true⟩,⟨nE.ct,true⟩],rs:=[⟨[.ef .bool],false⟩],fn:=fun ds=>(same (nE.nc ds 0) (nE.nc ds 3),[.bool (pd (nE.nc ds 0) (nE.nc ds 3))])}
theorem nqH:D_ Tryz.prog 66 ncT:=by
 refine nD (Γ:=[(70,wM)]) (Ih N6 JD) Tryz.func66 fun ds (hw:kd (nE.ct++(nE.ct++[])) ds) aP=> ?_
 obtain⟨a,ds,rfl,_,hw⟩:=nE.nw (r:=_) hw
 obtain⟨b,ds,rfl,_,hw⟩:=nE.nw (r:=_) hw
 obtain rfl:=nk hw
 exact⟨0,eT (nqG Vm.kf (fun r0=>((true,[.bool r0]):kM)) a b aP)⟩
def XN:Sum:= {ps:=[⟨nV.ct,true⟩,⟨nV.ct,true⟩],rs:=[⟨[.ef .bool],false⟩],fn:=fun ds=>(same (nV.nc ds 0) (nV.nc ds 5),[.bool (pd (nV.nc ds 0) (nV.nc ds 5))])}
theorem nlq:D_ Tryz.prog 71 XN:=by
 refine nD JD Tryz.func71 fun ds (hw:kd (nV.ct++(nV.ct++[])) ds) aP=> ?_
 obtain⟨a,ds,rfl,_,hw⟩:=nV.nw (r:=_) hw
 obtain⟨b,ds,rfl,_,hw⟩:=nV.nw (r:=_) hw
 obtain rfl:=nk hw
 exact⟨0,eT (nlp (fun r0=>((true,[.bool r0]):kM)) a b aP)⟩
def nir:Sum:= {ps:=[⟨ny.ct,true⟩,⟨ny.ct,true⟩],rs:=[⟨[.ef .bool],false⟩],fn:=fun ds=>(same (ny.nc ds 0) (ny.nc ds 33),[.bool (pd (ny.nc ds 0) (ny.nc ds 33))])}
theorem nvJ:D_ Tryz.prog 11 nir:=by
 refine nD (Γ:=[(59,ncV),(60,Qv),(61,Z9),(62,Qw),(63,VT),(64,Rq),(65,VP),(66,ncT),(67,XV),(68,Ro),(69,Na),(70,wM),(71,XN)]) (Ih nqJ (Ih nls (Ih nnJ (Ih nlv (Ih ntA (Ih nnL (Ih ntx (Ih nqH (Ih nly (Ih nnF (Ih Z8 (Ih N6 (Ih nlq JD))))))))))))) Tryz.func11 fun ds (hw:kd (ny.ct++(ny.ct++[])) ds) aP=> ?_
 obtain⟨a,ds,rfl,_,hw⟩:=ny.nw (r:=_) hw
 obtain⟨b,ds,rfl,_,hw⟩:=ny.nw (r:=_) hw
 obtain rfl:=nk hw
 exact⟨0,eT (nvI Vm.kf (fun r0=>((true,[.bool r0]):kM)) a b aP)⟩
def tN:Sum:= {ps:=[⟨[.sl [.i]],false⟩,⟨[.i],false⟩],rs:=[⟨[.ef .i],false⟩],fn:=fun ds=>(PC 1 (rR ds 0) (rI ds 1),[.int (sH (rR ds 0) (rI ds 1)).1]++[.sl (sH (rR ds 0) (rI ds 1)).2]),ms:=[some (.rows [.flat 3]),none]}
def nda:List (Nat×lE):=[(2, {cl:=[(0,.mP),(1,.mP),(5,.mP)],boxes:=[]})]
def ndb:Int→Rows→kM:=(fun r0 r1=>((true,[.int r0]++[.sl r1]):kM))
def nn2 (rV i:Int) (NI:Rows):St:= {n:=1099511627795,sl:=[(0,.own 640000),(1,.int .i64 rV),(5,.int .i64 i)],hp:=[(640000,.row 3 [.i] NI false true)],ok:=true,ls:=[],lm:=[]}
theorem v7:Cm Tryz.prog 83 tN:=by
 refine NR (A:=nda) JD Tryz.func83 fun ds (hw:kd ([.sl [.i],.i]) ds) aP=> ?_
 obtain⟨a,ds,rfl,qA,hw⟩:=nW hw
 obtain⟨k,rfl,_⟩:=nx hw
 obtain⟨N,hN⟩:=nq5 Vm.kf ndb a k qA aP
 exact⟨N,eL (fun l_=>TF Vm.kf ndb l_ a k) (nL3 (Lm Tryz.prog [] nda N Tryz.f83 tN [true,false,true,false] []) (nn2) _ N) hN⟩
def tM:Sum:= {ps:=[⟨[.sl [.i]],false⟩,⟨[.i],false⟩],rs:=[⟨[.ef .i],false⟩],fn:=fun ds=>(QW sn 1 (rR ds 0) (rI ds 1),[.int (rU (rR ds 0) (rI ds 1))])}
def nc6:List (Nat×lE):=[(2, {cl:=[(0,.mP),(1,.mP),(5,.mP)],boxes:=[]})]
def nc7:Int→kM:=(fun r0=>((true,[.int r0]):kM))
def nnP (a:Rows) (rV i:Int):St:= {n:=21,sl:=[(0,.sl [.i] a),(1,.int .i64 rV),(5,.int .i64 i)],hp:=[],ok:=true,ls:=[],lm:=[]}
theorem vZ:D_ Tryz.prog 95 tM:=by
 refine qC (A:=nc6) JD Tryz.func95 fun ds (hw:kd ([.sl [.i],.i]) ds) aP=> ?_
 obtain⟨a,ds,rfl,qA,hw⟩:=nW hw
 obtain⟨k,rfl,_⟩:=nx hw
 obtain⟨N,hN⟩:=nqY Vm.kf nc7 a k qA aP
 exact⟨N,eL (fun l_=>TE Vm.kf nc7 l_ a k) (Te (LW Tryz.prog [] nc6 N Tryz.f95 tM [true,false,true,false] []) (nnP a) _ N) hN⟩
def RA:Sum:= {ps:=[⟨[.sl [.bool]],false⟩,⟨[.i],false⟩],rs:=[⟨[.ef .i],false⟩],fn:=fun ds=>(PC 1 (rR ds 0) (rI ds 1),[.int (RR (rR ds 0) (rI ds 1)).1]++[.sl (RR (rR ds 0) (rI ds 1)).2]),ms:=[some (.rows [.flat 4]),none]}
def nau:List (Nat×lE):=[(2, {cl:=[(0,.mP),(1,.mP),(5,.mP)],boxes:=[]})]
def nav:Int→Rows→kM:=(fun r0 r1=>((true,[.int r0]++[.sl r1]):kM))
def nlN (rV i:Int) (NI:Rows):St:= {n:=1099511627797,sl:=[(0,.own 640000),(1,.int .i64 rV),(5,.int .i64 i)],hp:=[(640000,.row 4 [.bool] NI false true)],ok:=true,ls:=[],lm:=[]}
theorem nn1:Cm Tryz.prog 78 RA:=by
 refine NR (A:=nau) JD Tryz.func78 fun ds (hw:kd ([.sl [.bool],.i]) ds) aP=> ?_
 obtain⟨a,ds,rfl,qA,hw⟩:=nW hw
 obtain⟨k,rfl,_⟩:=nx hw
 obtain⟨N,hN⟩:=nn0 Vm.kf nav a k qA aP
 exact⟨N,eL (fun l_=>RB Vm.kf nav l_ a k) (nL3 (Lm Tryz.prog [] nau N Tryz.f78 RA [true,false,true,false] []) (nlN) _ N) hN⟩
def Rr:Sum:= {ps:=[⟨[.sl [.bool]],false⟩,⟨[.i],false⟩],rs:=[⟨[.ef .i],false⟩],fn:=fun ds=>(QW PJ 1 (rR ds 0) (rI ds 1),[.int (UR (rR ds 0) (rI ds 1))])}
def nad:List (Nat×lE):=[(2, {cl:=[(0,.mP),(1,.mP),(5,.mP)],boxes:=[]})]
def nae:Int→kM:=(fun r0=>((true,[.int r0]):kM))
def nlC (a:Rows) (rV i:Int):St:= {n:=23,sl:=[(0,.sl [.bool] a),(1,.int .i64 rV),(5,.int .i64 i)],hp:=[],ok:=true,ls:=[],lm:=[]}
theorem nnO:D_ Tryz.prog 90 Rr:=by
 refine qC (A:=nad) JD Tryz.func90 fun ds (hw:kd ([.sl [.bool],.i]) ds) aP=> ?_
 obtain⟨a,ds,rfl,qA,hw⟩:=nW hw
 obtain⟨k,rfl,_⟩:=nx hw
 obtain⟨N,hN⟩:=nnN Vm.kf nae a k qA aP
 exact⟨N,eL (fun l_=>Rs Vm.kf nae l_ a k) (Te (LW Tryz.prog [] nad N Tryz.f90 Rr [true,false,true,false] []) (nlC a) _ N) hN⟩
def tO:Sum:= {ps:=[⟨[.i],false⟩],rs:=[⟨[.ef .str],false⟩],fn:=fun ds=>(true,[.str (S3 (rI ds 0))])}
def nde:List (Nat×lE):=[(4, {cl:=[(0,.mP),(3,.mP)],boxes:=[]})]
def ndf:Bytes→kM:=(fun r0=>((true,[.str r0]):kM))
def noc (rV:Int) (oc:Bytes):St:= {n:=20,sl:=[(0,.int .i64 rV),(3,.str oc)],hp:=[],ok:=true,ls:=[],lm:=[]}
theorem v8:D_ Tryz.prog 183 tO:=by
 refine qC (A:=nde) JD Tryz.func183 fun ds (hw:kd ([.i]) ds) _=> ?_
 obtain⟨k,rfl,h_k⟩:=nx hw
 obtain⟨N,hN⟩:=nq_ Vm.kf ndf k h_k
 exact⟨N,eL (fun l_=>TG Vm.kf ndf l_ k) (Te (LW Tryz.prog [] nde N Tryz.f183 tO [true,true,true,false,false] []) (noc) _ N) hN⟩
def xW:Sum:= {ps:=[⟨[.sl [.str]],false⟩,⟨[.i],false⟩],rs:=[⟨[.ef .i],false⟩],fn:=fun ds=>(PC 1 (rR ds 0) (rI ds 1),[.int (uW (rR ds 0) (rI ds 1)).1]++[.sl (uW (rR ds 0) (rI ds 1)).2]),ms:=[some (.rows [.flat 9]),none]}
def Wd:Ctx:=[(183,tO)]
theorem nj3:bN Tryz.prog Wd:=Ih v8 JD
def Wc:List (Nat×lE):=[(2, {cl:=[(0,.mP),(1,.mP),(5,.mP)],boxes:=[]})]
def We:Int→Rows→kM:=(fun r0 r1=>((true,[.int r0]++[.sl r1]):kM))
def nhD (rV i:Int) (NI:Rows):St:= {n:=1099511627796,sl:=[(0,.own 640000),(1,.int .i64 rV),(5,.int .i64 i)],hp:=[(640000,.row 9 [.str] NI false true)],ok:=true,ls:=[],lm:=[]}
theorem Wg:Cm Tryz.prog 82 xW:=by
 refine NR (A:=Wc) nj3 Tryz.func82 fun ds (hw:kd ([.sl [.str],.i]) ds) aP=> ?_
 obtain⟨a,ds,rfl,qA,hw⟩:=nW hw
 obtain⟨k,rfl,_⟩:=nx hw
 obtain⟨N,hN⟩:=nj2 Vm.kf We a k qA aP
 exact⟨N,eL (fun l_=>Pf Vm.kf We l_ a k) (nL3 (Lm Tryz.prog Wd Wc N Tryz.f82 xW [true,false,true,false] []) (nhD) _ N) hN⟩
def xV:Sum:= {ps:=[⟨[.sl [.str]],false⟩,⟨[.i],false⟩],rs:=[⟨[.ef .i],false⟩],fn:=fun ds=>(QW tc 1 (rR ds 0) (rI ds 1),[.int (uS (rR ds 0) (rI ds 1))])}
def V2:Ctx:=[(183,tO)]
theorem njU:bN Tryz.prog V2:=Ih v8 JD
def V1:List (Nat×lE):=[(2, {cl:=[(0,.mP),(1,.mP),(5,.mP)],boxes:=[]})]
def V3:Int→kM:=(fun r0=>((true,[.int r0]):kM))
def nhr (a:Rows) (rV i:Int):St:= {n:=22,sl:=[(0,.sl [.str] a),(1,.int .i64 rV),(5,.int .i64 i)],hp:=[],ok:=true,ls:=[],lm:=[]}
theorem V5:D_ Tryz.prog 94 xV:=by
 refine qC (A:=V1) njU Tryz.func94 fun ds (hw:kd ([.sl [.str],.i]) ds) aP=> ?_
 obtain⟨a,ds,rfl,qA,hw⟩:=nW hw
 obtain⟨k,rfl,_⟩:=nx hw
 obtain⟨N,hN⟩:=njT Vm.kf V3 a k qA aP
 exact⟨N,eL (fun l_=>Pa Vm.kf V3 l_ a k) (Te (LW Tryz.prog V2 V1 N Tryz.f94 xV [true,false,true,false] []) (nhr a) _ N) hN⟩
def Pc:Sum:= {ps:=[⟨[.sl [.i,.i,.i,.i,.i,.i,.str,.bool]],false⟩,⟨[.i],false⟩],rs:=[⟨[.ef .i],false⟩],fn:=fun ds=>(PC 8 (rR ds 0) (rI ds 1),[.int (PA (rR ds 0) (rI ds 1)).1]++[.sl (PA (rR ds 0) (rI ds 1)).2]),ms:=[some (.rows [.flat 236]),none]}
def Wa:Ctx:=[(183,tO)]
theorem nj1:bN Tryz.prog Wa:=Ih v8 JD
def V_:List (Nat×lE):=[(2, {cl:=[(0,.mP),(1,.mP),(5,.mP)],boxes:=[]})]
def Wb:Int→Rows→kM:=(fun r0 r1=>((true,[.int r0]++[.sl r1]):kM))
def nhC (rV i:Int) (NI:Rows):St:= {n:=1099511627853,sl:=[(0,.own 640000),(1,.int .i64 rV),(5,.int .i64 i)],hp:=[(640000,.row 236 [.i,.i,.i,.i,.i,.i,.str,.bool] NI false true)],ok:=true,ls:=[],lm:=[]}
theorem nj0:Cm Tryz.prog 81 Pc:=by
 refine NR (A:=V_) nj1 Tryz.func81 fun ds (hw:kd ([.sl [.i,.i,.i,.i,.i,.i,.str,.bool],.i]) ds) aP=> ?_
 obtain⟨a,ds,rfl,qA,hw⟩:=nW hw
 obtain⟨k,rfl,_⟩:=nx hw
 obtain⟨N,hN⟩:=njZ Vm.kf Wb a k qA aP
 have e0:(fun rV i NI=>LX (Lm Tryz.prog Wa V_ N Tryz.f81 Pc [true,false,true,false] []) N (nhC rV i NI))=(nwe WD Vm.kf Wb N N):=nL3 _ _ _ N
 refine⟨N,Eq.trans ?_ (hN.trans (by kernel_rfl))⟩
 unfold noN
 rw[←e0]
 kernel_rfl
def O_:Sum:= {ps:=[⟨[.sl [.i,.i,.i,.i,.i,.i,.str,.bool]],false⟩,⟨[.i],false⟩],rs:=[⟨[.ef .i],false⟩],fn:=fun ds=>(QW PK 8 (rR ds 0) (rI ds 1),[.int (SL (rR ds 0) (rI ds 1))])}
def VZ:Ctx:=[(183,tO)]
theorem njS:bN Tryz.prog VZ:=Ih v8 JD
def VY:List (Nat×lE):=[(2, {cl:=[(0,.mP),(1,.mP),(5,.mP)],boxes:=[]})]
def V0:Int→kM:=(fun r0=>((true,[.int r0]):kM))
def nhq (a:Rows) (rV i:Int):St:= {n:=93,sl:=[(0,.sl [.i,.i,.i,.i,.i,.i,.str,.bool] a),(1,.int .i64 rV),(5,.int .i64 i)],hp:=[],ok:=true,ls:=[],lm:=[]}
theorem njR:D_ Tryz.prog 93 O_:=by
 refine qC (A:=VY) njS Tryz.func93 fun ds (hw:kd ([.sl [.i,.i,.i,.i,.i,.i,.str,.bool],.i]) ds) aP=> ?_
 obtain⟨a,ds,rfl,qA,hw⟩:=nW hw
 obtain⟨k,rfl,_⟩:=nx hw
 obtain⟨N,hN⟩:=njQ Vm.kf V0 a k qA aP
 have e0:(fun rV i=>LX (LW Tryz.prog VZ VY N Tryz.f93 O_ [true,false,true,false] []) N (nhq a rV i))=(nvg WD Vm.kf V0 N a N):=Te _ _ _ N
 refine⟨N,Eq.trans ?_ (hN.trans (by kernel_rfl))⟩
 unfold nm6
 rw[←e0]
 kernel_rfl
def RI:Sum:= {ps:=[⟨[.sl [.i,.i,.i,.i,.i,.i,.i]],false⟩,⟨[.i],false⟩],rs:=[⟨[.ef .i],false⟩],fn:=fun ds=>(PC 7 (rR ds 0) (rI ds 1),[.int (RS (rR ds 0) (rI ds 1)).1]++[.sl (RS (rR ds 0) (rI ds 1)).2]),ms:=[some (.rows [.flat 264]),none]}
def naH:List (Nat×lE):=[(2, {cl:=[(0,.mP),(1,.mP),(5,.mP)],boxes:=[]})]
def naI:Int→Rows→kM:=(fun r0 r1=>((true,[.int r0]++[.sl r1]):kM))
def nlZ (rV i:Int) (NI:Rows):St:= {n:=1099511627843,sl:=[(0,.own 640000),(1,.int .i64 rV),(5,.int .i64 i)],hp:=[(640000,.row 264 [.i,.i,.i,.i,.i,.i,.i] NI false true)],ok:=true,ls:=[],lm:=[]}
theorem nob:Cm Tryz.prog 286 RI:=by
 refine NR (A:=naH) JD Tryz.func286 fun ds (hw:kd ([.sl [.i,.i,.i,.i,.i,.i,.i],.i]) ds) aP=> ?_
 obtain⟨a,ds,rfl,qA,hw⟩:=nW hw
 obtain⟨k,rfl,_⟩:=nx hw
 obtain⟨N,hN⟩:=noa Vm.kf naI a k qA aP
 have e0:(fun rV i NI=>LX (Lm Tryz.prog [] naH N Tryz.f286 RI [true,false,true,false] []) N (nlZ rV i NI))=(nwe nkk Vm.kf naI N N):=nL3 _ _ _ N
 refine⟨N,Eq.trans ?_ (hN.trans (by kernel_rfl))⟩
 unfold noN
 rw[←e0]
 kernel_rfl
def Rz:Sum:= {ps:=[⟨[.sl [.i,.i,.i,.i,.i,.i,.i]],false⟩,⟨[.i],false⟩],rs:=[⟨[.ef .i],false⟩],fn:=fun ds=>(QW nby 7 (rR ds 0) (rI ds 1),[.int (US (rR ds 0) (rI ds 1))])}
def nar:List (Nat×lE):=[(2, {cl:=[(0,.mP),(1,.mP),(5,.mP)],boxes:=[]})]
def nas:Int→kM:=(fun r0=>((true,[.int r0]):kM))
def nlK (a:Rows) (rV i:Int):St:= {n:=81,sl:=[(0,.sl [.i,.i,.i,.i,.i,.i,.i] a),(1,.int .i64 rV),(5,.int .i64 i)],hp:=[],ok:=true,ls:=[],lm:=[]}
theorem nnZ:D_ Tryz.prog 287 Rz:=by
 refine qC (A:=nar) JD Tryz.func287 fun ds (hw:kd ([.sl [.i,.i,.i,.i,.i,.i,.i],.i]) ds) aP=> ?_
 obtain⟨a,ds,rfl,qA,hw⟩:=nW hw
 obtain⟨k,rfl,_⟩:=nx hw
 obtain⟨N,hN⟩:=nnY Vm.kf nas a k qA aP
 have e0:(fun rV i=>LX (LW Tryz.prog [] nar N Tryz.f287 Rz [true,false,true,false] []) N (nlK a rV i))=(nvg nkk Vm.kf nas N a N):=Te _ _ _ N
 refine⟨N,Eq.trans ?_ (hN.trans (by kernel_rfl))⟩
 unfold nm6
 rw[←e0]
 kernel_rfl
def NN:Sum:= {ps:=[⟨[.sl [.i,.i,.i,.i,.i,.i,.i,.i,.i,.i,.i,.i,.i,.i,.i,.i,.i,.i,.i,.i,.i,.i,.i,.i,.i,.str,.i,.i,.bool,.i]],false⟩,⟨[.i],false⟩],rs:=[⟨[.ef .i],false⟩],fn:=fun ds=>(PC 30 (rR ds 0) (rI ds 1),[.int (Np (rR ds 0) (rI ds 1)).1]++[.sl (Np (rR ds 0) (rI ds 1)).2]),ms:=[some (.rows [.flat 104]),none]}
def Uw:Ctx:=[(183,tO)]
theorem nhx:bN Tryz.prog Uw:=Ih v8 JD
def Uv:List (Nat×lE):=[(2, {cl:=[(0,.mP),(1,.mP),(5,.mP)],boxes:=[]})]
def Ux:Int→Rows→kM:=(fun r0 r1=>((true,[.int r0]++[.sl r1]):kM))
def nfw (rV i:Int) (NI:Rows):St:= {n:=1099511628054,sl:=[(0,.own 640000),(1,.int .i64 rV),(5,.int .i64 i)],hp:=[(640000,.row 104 [.i,.i,.i,.i,.i,.i,.i,.i,.i,.i,.i,.i,.i,.i,.i,.i,.i,.i,.i,.i,.i,.i,.i,.i,.i,.str,.i,.i,.bool,.i] NI false true)],ok:=true,ls:=[],lm:=[]}
theorem nhw:Cm Tryz.prog 75 NN:=by
 refine NR (A:=Uv) nhx Tryz.func75 fun ds (hw:kd ([.sl [.i,.i,.i,.i,.i,.i,.i,.i,.i,.i,.i,.i,.i,.i,.i,.i,.i,.i,.i,.i,.i,.i,.i,.i,.i,.str,.i,.i,.bool,.i],.i]) ds) aP=> ?_
 obtain⟨a,ds,rfl,qA,hw⟩:=nW hw
 obtain⟨k,rfl,_⟩:=nx hw
 obtain⟨N,hN⟩:=nhv Vm.kf Ux a k qA aP
 have e0:(fun rV i NI=>LX (Lm Tryz.prog Uw Uv N Tryz.f75 NN [true,false,true,false] []) N (nfw rV i NI))=(nwe R2 Vm.kf Ux N N):=nL3 _ _ _ N
 refine⟨N,Eq.trans ?_ (hN.trans (by kernel_rfl))⟩
 unfold noN
 rw[←e0]
 kernel_rfl
def NL:Sum:= {ps:=[⟨[.sl [.i,.i,.i,.i,.i,.i,.i,.i,.i,.i,.i,.i,.i,.i,.i,.i,.i,.i,.i,.i,.i,.i,.i,.i,.i,.str,.i,.i,.bool,.i]],false⟩,⟨[.i],false⟩],rs:=[⟨[.ef .i],false⟩],fn:=fun ds=>(QW zK 30 (rR ds 0) (rI ds 1),[.int (PQ (rR ds 0) (rI ds 1))])}
def Un:Ctx:=[(183,tO)]
theorem nhn:bN Tryz.prog Un:=Ih v8 JD
def Um:List (Nat×lE):=[(2, {cl:=[(0,.mP),(1,.mP),(5,.mP)],boxes:=[]})]
def Uo:Int→kM:=(fun r0=>((true,[.int r0]):kM))
def nfq (a:Rows) (rV i:Int):St:= {n:=338,sl:=[(0,.sl [.i,.i,.i,.i,.i,.i,.i,.i,.i,.i,.i,.i,.i,.i,.i,.i,.i,.i,.i,.i,.i,.i,.i,.i,.i,.str,.i,.i,.bool,.i] a),(1,.int .i64 rV),(5,.int .i64 i)],hp:=[],ok:=true,ls:=[],lm:=[]}
theorem nhm:D_ Tryz.prog 87 NL:=by
 refine qC (A:=Um) nhn Tryz.func87 fun ds (hw:kd ([.sl [.i,.i,.i,.i,.i,.i,.i,.i,.i,.i,.i,.i,.i,.i,.i,.i,.i,.i,.i,.i,.i,.i,.i,.i,.i,.str,.i,.i,.bool,.i],.i]) ds) aP=> ?_
 obtain⟨a,ds,rfl,qA,hw⟩:=nW hw
 obtain⟨k,rfl,_⟩:=nx hw
 obtain⟨N,hN⟩:=nhl Vm.kf Uo a k qA aP
 have e0:(fun rV i=>LX (LW Tryz.prog Un Um N Tryz.f87 NL [true,false,true,false] []) N (nfq a rV i))=(nvg R2 Vm.kf Uo N a N):=Te _ _ _ N
 refine⟨N,Eq.trans ?_ (hN.trans (by kernel_rfl))⟩
 unfold nm6
 rw[←e0]
 kernel_rfl
def RD:Sum:= {ps:=[⟨[.sl [.i,.i,.i,.sl [.i]]],false⟩,⟨[.i],false⟩],rs:=[⟨[.ef .i],false⟩],fn:=fun ds=>(y9 sP Th (rR ds 0) (rI ds 1),[.int (Nn (rR ds 0) (rI ds 1)).1]++[.sl (Nn (rR ds 0) (rI ds 1)).2]),ms:=[some (.rows [.deep 57 [3]]),none]}
def nay:Ctx:=[(1125899906842661,J7),(83,tN)]
theorem nn5:bN Tryz.prog nay:=Ih Lv (Ih v7 JD)
def nax:List (Nat×lE):=[(2, {cl:=[(0,.mP),(1,.mP),(5,.mP)],boxes:=[]})]
def naz:Int→Rows→kM:=(fun r0 r1=>((true,[.int r0]++[.sl r1]):kM))
def nlW (rV i:Int) (NI:Rows):St:= {n:=1099511627817,sl:=[(0,.own 640000),(1,.int .i64 rV),(5,.int .i64 i)],hp:=[(640000,.deep 57 [.i,.i,.i,.sl [.i]] [3] NI none)],ok:=true,ls:=[],lm:=[]}
theorem nn4:Cm Tryz.prog 76 RD:=by
 refine NR (A:=nax) nn5 Tryz.func76 fun ds (hw:kd ([.sl [.i,.i,.i,.sl [.i]],.i]) ds) aP=> ?_
 obtain⟨a,ds,rfl,qA,hw⟩:=nW hw
 obtain⟨k,rfl,_⟩:=nx hw
 obtain⟨N,hN⟩:=nn3 Vm.kf naz a k qA aP
 exact⟨N,eL (fun l_=>RE Vm.kf naz l_ a k) (nL3 (Lm Tryz.prog nay nax N Tryz.f76 RD [true,false,true,false] []) (nlW) _ N) hN⟩
def Rt:Sum:= {ps:=[⟨[.sl [.i,.i,.i,.sl [.i]]],false⟩,⟨[.i],false⟩],rs:=[⟨[.ef .i],false⟩],fn:=fun ds=>(ng4 (rR ds 0) (rI ds 1),[.int (Zk (rR ds 0) (rI ds 1))])}
def nah:Ctx:=[(95,tM)]
theorem nnS:bN Tryz.prog nah:=Ih vZ JD
def nag:List (Nat×lE):=[(2, {cl:=[(0,.mP),(1,.mP),(5,.mP)],boxes:=[]})]
def nai:Int→kM:=(fun r0=>((true,[.int r0]):kM))
def nlH (a:Rows) (rV i:Int):St:= {n:=49,sl:=[(0,.sl [.i,.i,.i,.sl [.i]] a),(1,.int .i64 rV),(5,.int .i64 i)],hp:=[],ok:=true,ls:=[],lm:=[]}
theorem nnR:D_ Tryz.prog 88 Rt:=by
 refine qC (A:=nag) nnS Tryz.func88 fun ds (hw:kd ([.sl [.i,.i,.i,.sl [.i]],.i]) ds) aP=> ?_
 obtain⟨a,ds,rfl,qA,hw⟩:=nW hw
 obtain⟨k,rfl,_⟩:=nx hw
 obtain⟨N,hN⟩:=nnQ Vm.kf nai a k qA aP
 exact⟨N,eL (fun l_=>Ru Vm.kf nai l_ a k) (Te (LW Tryz.prog nah nag N Tryz.f88 Rt [true,false,true,false] []) (nlH a) _ N) hN⟩
def RG:Sum:= {ps:=[⟨[.sl [.i,.i,.sl [.i]]],false⟩,⟨[.i],false⟩],rs:=[⟨[.ef .i],false⟩],fn:=fun ds=>(y9 sQ Ti (rR ds 0) (rI ds 1),[.int (Nq (rR ds 0) (rI ds 1)).1]++[.sl (Nq (rR ds 0) (rI ds 1)).2]),ms:=[some (.rows [.deep 293 [3]]),none]}
def naE:Ctx:=[(1125899906842654,J7),(83,tN)]
theorem nn_:bN Tryz.prog naE:=Ih Lv (Ih v7 JD)
def naD:List (Nat×lE):=[(2, {cl:=[(0,.mP),(1,.mP),(5,.mP)],boxes:=[]})]
def naF:Int→Rows→kM:=(fun r0 r1=>((true,[.int r0]++[.sl r1]):kM))
def nlY (rV i:Int) (NI:Rows):St:= {n:=1099511627810,sl:=[(0,.own 640000),(1,.int .i64 rV),(5,.int .i64 i)],hp:=[(640000,.deep 293 [.i,.i,.sl [.i]] [3] NI none)],ok:=true,ls:=[],lm:=[]}
theorem nn9:Cm Tryz.prog 182 RG:=by
 refine NR (A:=naD) nn_ Tryz.func182 fun ds (hw:kd ([.sl [.i,.i,.sl [.i]],.i]) ds) aP=> ?_
 obtain⟨a,ds,rfl,qA,hw⟩:=nW hw
 obtain⟨k,rfl,_⟩:=nx hw
 obtain⟨N,hN⟩:=nn8 Vm.kf naF a k qA aP
 exact⟨N,eL (fun l_=>RH Vm.kf naF l_ a k) (nL3 (Lm Tryz.prog naE naD N Tryz.f182 RG [true,false,true,false] []) (nlY) _ N) hN⟩
def Rw:Sum:= {ps:=[⟨[.sl [.i,.i,.sl [.i]]],false⟩,⟨[.i],false⟩],rs:=[⟨[.ef .i],false⟩],fn:=fun ds=>(ng5 (rR ds 0) (rI ds 1),[.int (Zl (rR ds 0) (rI ds 1))])}
def nao:Ctx:=[(95,tM)]
theorem nnX:bN Tryz.prog nao:=Ih vZ JD
def nam:List (Nat×lE):=[(2, {cl:=[(0,.mP),(1,.mP),(5,.mP)],boxes:=[]})]
def nap:Int→kM:=(fun r0=>((true,[.int r0]):kM))
def nlJ (a:Rows) (rV i:Int):St:= {n:=40,sl:=[(0,.sl [.i,.i,.sl [.i]] a),(1,.int .i64 rV),(5,.int .i64 i)],hp:=[],ok:=true,ls:=[],lm:=[]}
theorem nnW:D_ Tryz.prog 188 Rw:=by
 refine qC (A:=nam) nnX Tryz.func188 fun ds (hw:kd ([.sl [.i,.i,.sl [.i]],.i]) ds) aP=> ?_
 obtain⟨a,ds,rfl,qA,hw⟩:=nW hw
 obtain⟨k,rfl,_⟩:=nx hw
 obtain⟨N,hN⟩:=nnV Vm.kf nap a k qA aP
 exact⟨N,eL (fun l_=>Ry Vm.kf nap l_ a k) (Te (LW Tryz.prog nao nam N Tryz.f188 Rw [true,false,true,false] []) (nlJ a) _ N) hN⟩
def Pg:Sum:= {ps:=[⟨[.sl [.i,.i,.i,.i,.bool,.bool]],false⟩,⟨[.i],false⟩],rs:=[⟨[.ef .i],false⟩],fn:=fun ds=>(PC 6 (rR ds 0) (rI ds 1),[.int (PB (rR ds 0) (rI ds 1)).1]++[.sl (PB (rR ds 0) (rI ds 1)).2]),ms:=[some (.rows [.flat 107]),none]}
def Wj:List (Nat×lE):=[(2, {cl:=[(0,.mP),(1,.mP),(5,.mP)],boxes:=[]})]
def Wk:Int→Rows→kM:=(fun r0 r1=>((true,[.int r0]++[.sl r1]):kM))
def nhE (rV i:Int) (NI:Rows):St:= {n:=1099511627835,sl:=[(0,.own 640000),(1,.int .i64 rV),(5,.int .i64 i)],hp:=[(640000,.row 107 [.i,.i,.i,.i,.bool,.bool] NI false true)],ok:=true,ls:=[],lm:=[]}
theorem nj9:Cm Tryz.prog 77 Pg:=by
 refine NR (A:=Wj) JD Tryz.func77 fun ds (hw:kd ([.sl [.i,.i,.i,.i,.bool,.bool],.i]) ds) aP=> ?_
 obtain⟨a,ds,rfl,qA,hw⟩:=nW hw
 obtain⟨k,rfl,_⟩:=nx hw
 obtain⟨N,hN⟩:=nj8 Vm.kf Wk a k qA aP
 have e0:(fun rV i NI=>LX (Lm Tryz.prog [] Wj N Tryz.f77 Pg [true,false,true,false] []) N (nhE rV i NI))=(nwe WE Vm.kf Wk N N):=nL3 _ _ _ N
 refine⟨N,Eq.trans ?_ (hN.trans (by kernel_rfl))⟩
 unfold noN
 rw[←e0]
 kernel_rfl
def Pb:Sum:= {ps:=[⟨[.sl [.i,.i,.i,.i,.bool,.bool]],false⟩,⟨[.i],false⟩],rs:=[⟨[.ef .i],false⟩],fn:=fun ds=>(QW PL 6 (rR ds 0) (rI ds 1),[.int (SN (rR ds 0) (rI ds 1))])}
def V7:List (Nat×lE):=[(2, {cl:=[(0,.mP),(1,.mP),(5,.mP)],boxes:=[]})]
def V8:Int→kM:=(fun r0=>((true,[.int r0]):kM))
def nhs (a:Rows) (rV i:Int):St:= {n:=71,sl:=[(0,.sl [.i,.i,.i,.i,.bool,.bool] a),(1,.int .i64 rV),(5,.int .i64 i)],hp:=[],ok:=true,ls:=[],lm:=[]}
theorem njY:D_ Tryz.prog 89 Pb:=by
 refine qC (A:=V7) JD Tryz.func89 fun ds (hw:kd ([.sl [.i,.i,.i,.i,.bool,.bool],.i]) ds) aP=> ?_
 obtain⟨a,ds,rfl,qA,hw⟩:=nW hw
 obtain⟨k,rfl,_⟩:=nx hw
 obtain⟨N,hN⟩:=njX Vm.kf V8 a k qA aP
 have e0:(fun rV i=>LX (LW Tryz.prog [] V7 N Tryz.f89 Pb [true,false,true,false] []) N (nhs a rV i))=(nvg WE Vm.kf V8 N a N):=Te _ _ _ N
 refine⟨N,Eq.trans ?_ (hN.trans (by kernel_rfl))⟩
 unfold nm6
 rw[←e0]
 kernel_rfl
def RF:Sum:= {ps:=[⟨[.sl [.i,.i,.i,.i,.i,.i,.i,.i,.i]],false⟩,⟨[.i],false⟩],rs:=[⟨[.ef .i],false⟩],fn:=fun ds=>(PC 9 (rR ds 0) (rI ds 1),[.int (Pz (rR ds 0) (rI ds 1)).1]++[.sl (Pz (rR ds 0) (rI ds 1)).2]),ms:=[some (.rows [.flat 260]),none]}
def naB:List (Nat×lE):=[(2, {cl:=[(0,.mP),(1,.mP),(5,.mP)],boxes:=[]})]
def naC:Int→Rows→kM:=(fun r0 r1=>((true,[.int r0]++[.sl r1]):kM))
def nlX (rV i:Int) (NI:Rows):St:= {n:=1099511627852,sl:=[(0,.own 640000),(1,.int .i64 rV),(5,.int .i64 i)],hp:=[(640000,.row 260 [.i,.i,.i,.i,.i,.i,.i,.i,.i] NI false true)],ok:=true,ls:=[],lm:=[]}
theorem nn7:Cm Tryz.prog 184 RF:=by
 refine NR (A:=naB) JD Tryz.func184 fun ds (hw:kd ([.sl [.i,.i,.i,.i,.i,.i,.i,.i,.i],.i]) ds) aP=> ?_
 obtain⟨a,ds,rfl,qA,hw⟩:=nW hw
 obtain⟨k,rfl,_⟩:=nx hw
 obtain⟨N,hN⟩:=nn6 Vm.kf naC a k qA aP
 have e0:(fun rV i NI=>LX (Lm Tryz.prog [] naB N Tryz.f184 RF [true,false,true,false] []) N (nlX rV i NI))=(nwe nkj Vm.kf naC N N):=nL3 _ _ _ N
 refine⟨N,Eq.trans ?_ (hN.trans (by kernel_rfl))⟩
 unfold noN
 rw[←e0]
 kernel_rfl
def Rv:Sum:= {ps:=[⟨[.sl [.i,.i,.i,.i,.i,.i,.i,.i,.i]],false⟩,⟨[.i],false⟩],rs:=[⟨[.ef .i],false⟩],fn:=fun ds=>(QW nbx 9 (rR ds 0) (rI ds 1),[.int (Rf (rR ds 0) (rI ds 1))])}
def nak:List (Nat×lE):=[(2, {cl:=[(0,.mP),(1,.mP),(5,.mP)],boxes:=[]})]
def nal:Int→kM:=(fun r0=>((true,[.int r0]):kM))
def nlI (a:Rows) (rV i:Int):St:= {n:=94,sl:=[(0,.sl [.i,.i,.i,.i,.i,.i,.i,.i,.i] a),(1,.int .i64 rV),(5,.int .i64 i)],hp:=[],ok:=true,ls:=[],lm:=[]}
theorem nnU:D_ Tryz.prog 189 Rv:=by
 refine qC (A:=nak) JD Tryz.func189 fun ds (hw:kd ([.sl [.i,.i,.i,.i,.i,.i,.i,.i,.i],.i]) ds) aP=> ?_
 obtain⟨a,ds,rfl,qA,hw⟩:=nW hw
 obtain⟨k,rfl,_⟩:=nx hw
 obtain⟨N,hN⟩:=nnT Vm.kf nal a k qA aP
 have e0:(fun rV i=>LX (LW Tryz.prog [] nak N Tryz.f189 Rv [true,false,true,false] []) N (nlI a rV i))=(nvg nkj Vm.kf nal N a N):=Te _ _ _ N
 refine⟨N,Eq.trans ?_ (hN.trans (by kernel_rfl))⟩
 unfold nm6
 rw[←e0]
 kernel_rfl
def NM:Sum:= {ps:=[⟨[.sl [.i,.i,.i,.bool]],false⟩,⟨[.i],false⟩],rs:=[⟨[.ef .i],false⟩],fn:=fun ds=>(PC 4 (rR ds 0) (rI ds 1),[.int (Nm (rR ds 0) (rI ds 1)).1]++[.sl (Nm (rR ds 0) (rI ds 1)).2]),ms:=[some (.rows [.flat 222]),none]}
def Us:List (Nat×lE):=[(2, {cl:=[(0,.mP),(1,.mP),(5,.mP)],boxes:=[]})]
def Ut:Int→Rows→kM:=(fun r0 r1=>((true,[.int r0]++[.sl r1]):kM))
def nfv (rV i:Int) (NI:Rows):St:= {n:=1099511627819,sl:=[(0,.own 640000),(1,.int .i64 rV),(5,.int .i64 i)],hp:=[(640000,.row 222 [.i,.i,.i,.bool] NI false true)],ok:=true,ls:=[],lm:=[]}
theorem nhu:Cm Tryz.prog 73 NM:=by
 refine NR (A:=Us) JD Tryz.func73 fun ds (hw:kd ([.sl [.i,.i,.i,.bool],.i]) ds) aP=> ?_
 obtain⟨a,ds,rfl,qA,hw⟩:=nW hw
 obtain⟨k,rfl,_⟩:=nx hw
 obtain⟨N,hN⟩:=nht Vm.kf Ut a k qA aP
 have e0:(fun rV i NI=>LX (Lm Tryz.prog [] Us N Tryz.f73 NM [true,false,true,false] []) N (nfv rV i NI))=(nwe R1 Vm.kf Ut N N):=nL3 _ _ _ N
 refine⟨N,Eq.trans ?_ (hN.trans (by kernel_rfl))⟩
 unfold noN
 rw[←e0]
 kernel_rfl
def NK:Sum:= {ps:=[⟨[.sl [.i,.i,.i,.bool]],false⟩,⟨[.i],false⟩],rs:=[⟨[.ef .i],false⟩],fn:=fun ds=>(QW zJ 4 (rR ds 0) (rI ds 1),[.int (PO (rR ds 0) (rI ds 1))])}
def Uj:List (Nat×lE):=[(2, {cl:=[(0,.mP),(1,.mP),(5,.mP)],boxes:=[]})]
def Uk:Int→kM:=(fun r0=>((true,[.int r0]):kM))
def nfp (a:Rows) (rV i:Int):St:= {n:=51,sl:=[(0,.sl [.i,.i,.i,.bool] a),(1,.int .i64 rV),(5,.int .i64 i)],hp:=[],ok:=true,ls:=[],lm:=[]}
theorem nhk:D_ Tryz.prog 85 NK:=by
 refine qC (A:=Uj) JD Tryz.func85 fun ds (hw:kd ([.sl [.i,.i,.i,.bool],.i]) ds) aP=> ?_
 obtain⟨a,ds,rfl,qA,hw⟩:=nW hw
 obtain⟨k,rfl,_⟩:=nx hw
 obtain⟨N,hN⟩:=nhj Vm.kf Uk a k qA aP
 have e0:(fun rV i=>LX (LW Tryz.prog [] Uj N Tryz.f85 NK [true,false,true,false] []) N (nfp a rV i))=(nvg R1 Vm.kf Uk N a N):=Te _ _ _ N
 refine⟨N,Eq.trans ?_ (hN.trans (by kernel_rfl))⟩
 unfold nm6
 rw[←e0]
 kernel_rfl
def nH:Sum:= {ps:=[⟨[.i],false⟩,⟨[.i],false⟩,⟨[.i],false⟩],rs:=[⟨[.ef .bool],false⟩],fn:=fun ds=>(true,[.bool (nf (rI ds 0) (rI ds 1) (rI ds 2))])}
theorem oB:D_ Tryz.prog 55 nH:=by
 refine nD JD Tryz.func55 fun ds (hw:kd ([.i,.i,.i]) ds) _=> ?_
 obtain⟨n,ds,rfl,_,hw⟩:=nN hw
 obtain⟨low,ds,rfl,_,hw⟩:=nN hw
 obtain⟨high,rfl,_⟩:=nx hw
 exact⟨0,eT (ne5 (fun r0=>((true,[.bool r0]):kM)) n low high)⟩
theorem oT:D_ Tryz.prog 37 nH:=by
 refine nD JD Tryz.func37 fun ds (hw:kd ([.i,.i,.i]) ds) _=> ?_
 obtain⟨x,ds,rfl,_,hw⟩:=nN hw
 obtain⟨least,ds,rfl,_,hw⟩:=nN hw
 obtain⟨most,rfl,_⟩:=nx hw
 exact⟨0,eT (ne5 (fun r0=>((true,[.bool r0]):kM)) x least most)⟩
def yy:Sum:= {ps:=[⟨[.sl [.i]],false⟩,⟨[.i],false⟩],rs:=[⟨[.ef .bool],false⟩],fn:=fun ds=>(true,[.bool (nm5 (rR ds 0) (rI ds 1))])}
def nh6:List (Nat×lE):=[(2, {cl:=[(1,.mP),(7,.mP),(8,.mP),(9,.mP)],boxes:=[]})]
def nh7:Bool→kM:=(fun r0=>((true,[.bool r0]):kM))
def ntk (n:Int) (l:Rows) (oy oD:Int):St:= {n:=17,sl:=[(1,.int .i64 n),(7,.sl [.i] l),(8,.int .i64 oy),(9,.int .i64 oD)],hp:=[],ok:=true,ls:=[],lm:=[]}
theorem nvw:D_ Tryz.prog 208 yy:=by
 refine qC (A:=nh6) JD Tryz.func208 fun ds (hw:kd ([.sl [.i],.i]) ds) _=> ?_
 obtain⟨l,ds,rfl,h_l,hw⟩:=nW hw
 obtain⟨n,rfl,_⟩:=nx hw
 obtain⟨N,hN⟩:=nvv Vm.kf nh7 l n h_l
 exact⟨N,eL (fun l_=>YM Vm.kf nh7 l_ l n) (funext fun oy=>nL1 (LW Tryz.prog [] nh6 N Tryz.f208 yy [true,false,true,false] []) (ntk n l oy) _ N) hN⟩
def ni1:List (Nat×lE):=[(2, {cl:=[(0,.mP),(1,.mP),(5,.mP)],boxes:=[]})]
def ni2:Bool→kM:=(fun r0=>((true,[.bool r0]):kM))
def nu3 (Z:Rows) (k i:Int):St:= {n:=18,sl:=[(0,.sl [.i] Z),(1,.int .i64 k),(5,.int .i64 i)],hp:=[],ok:=true,ls:=[],lm:=[]}
theorem nwu:D_ Tryz.prog 194 yy:=by
 refine qC (A:=ni1) JD Tryz.func194 fun ds (hw:kd ([.sl [.i],.i]) ds) _=> ?_
 obtain⟨Z,ds,rfl,qh,hw⟩:=nW hw
 obtain⟨k,rfl,_⟩:=nx hw
 obtain⟨N,hN⟩:=nwt Vm.kf ni2 Z k qh
 exact⟨N,eL (fun l_=>Ze Vm.kf ni2 l_ Z k) (nL1 (LW Tryz.prog [] ni1 N Tryz.f194 yy [true,false,true,false] []) (nu3 Z k) _ N) hN⟩
def tE:Sum:= {ps:=[⟨nE.ct,true⟩],rs:=[⟨[.ef .bool],false⟩],fn:=fun ds=>(true,[.bool (vh (nE.nc ds 0))])}
def nb0:Ctx:=[(55,nH)]
theorem np4:bN Tryz.prog nb0:=Ih oB JD
def nbZ:List (Nat×lE):=[(2, {cl:=[(1,.mP),(6,.mP),(7,.mP),(8,.mP)],boxes:=[(64,[])]})]
def nb1:Bool→kM:=(fun r0=>((true,[.bool r0]):kM))
def nm7 (x:Rows) (oy oD yC:Int) (Tg:Bool) (wU:Rows):St:= {n:=40,sl:=[(1,.ptr 64 0),(6,.sl [.i] x),(7,.int .i64 oy),(8,.int .i64 oD)],hp:=[(64,.box 64 [.int .i64 yC,.bool Tg,.sl [.i] wU])],ok:=true,ls:=[],lm:=[]}
theorem nb3:D_ Tryz.prog 116 tE:=by
 refine qC (A:=nbZ) np4 Tryz.func116 fun ds (hw:kd (nE.ct++[]) ds) _=> ?_
 obtain⟨f,ds,rfl,h_f,hw⟩:=nE.nw (r:=_) hw
 obtain rfl:=nk hw
 obtain⟨N,hN⟩:=np3 Vm.kf nb1 f h_f
 exact⟨N,eL (fun l_=>Tl Vm.kf nb1 l_ f) (funext fun x=>funext fun oy=>funext fun yC=>funext fun wU=>nL1 (LW Tryz.prog nb0 nbZ N Tryz.f116 tE [true,false,true,false] []) (fun oD=>nm7 x oy oD yC f.pI wU) _ N) hN⟩
def ndG:Ctx:=[(37,nH)]
theorem nrW:bN Tryz.prog ndG:=Ih oT JD
def ndF:List (Nat×lE):=[(2, {cl:=[(1,.mP),(3,.mP)],boxes:=[(64,[])]})]
def ndH:Bool→kM:=(fun r0=>((true,[.bool r0]):kM))
def noU (k yC:Int) (Tg:Bool) (wU:Rows):St:= {n:=45,sl:=[(1,.ptr 64 0),(3,.int .i64 k)],hp:=[(64,.box 64 [.int .i64 yC,.bool Tg,.sl [.i] wU])],ok:=true,ls:=[],lm:=[]}
theorem ndJ:D_ Tryz.prog 137 tE:=by
 refine qC (A:=ndF) nrW Tryz.func137 fun ds (hw:kd (nE.ct++[]) ds) _=> ?_
 obtain⟨f,ds,rfl,h_f,hw⟩:=nE.nw (r:=_) hw
 obtain rfl:=nk hw
 obtain⟨N,hN⟩:=nrV Vm.kf ndH f h_f
 exact⟨N,eL (fun l_=>TN Vm.kf ndH l_ f) (funext fun yC=>funext fun wU=>nL1 (LW Tryz.prog ndG ndF N Tryz.f137 tE [true,false,true,false] []) (fun k=>noU k yC f.pI wU) _ N) hN⟩
def va:Sum:= {ps:=[⟨nz.ct,true⟩],rs:=[⟨[.ef .bool],false⟩],fn:=fun ds=>(true,[.bool (sk (nz.nc ds 0))])}
theorem ZG:D_ Tryz.prog 300 va:=by
 refine nD (Γ:=[(55,nH)]) (Ih oB JD) Tryz.func300 fun ds (hw:kd (nz.ct++[]) ds) _=> ?_
 obtain⟨g,ds,rfl,_,hw⟩:=nz.nw (r:=_) hw
 obtain rfl:=nk hw
 exact⟨0,eT (nnj (fun r0=>((true,[.bool r0]):kM)) g)⟩
theorem nbm:D_ Tryz.prog 289 va:=by
 refine nD (Γ:=[(37,nH)]) (Ih oT JD) Tryz.func289 fun ds (hw:kd (nz.ct++[]) ds) _=> ?_
 obtain⟨g,ds,rfl,_,hw⟩:=nz.nw (r:=_) hw
 obtain rfl:=nk hw
 exact⟨0,eT (no8 (fun r0=>((true,[.bool r0]):kM)) g)⟩
def Rk:Sum:= {ps:=[⟨[.i],false⟩],rs:=[⟨[.ef .bool],false⟩],fn:=fun ds=>(true,[.bool (NH (rI ds 0))])}
theorem ZR:D_ Tryz.prog 301 Rk:=by
 refine nD JD Tryz.func301 fun ds (hw:kd ([.i]) ds) _=> ?_
 obtain⟨flags,rfl,_⟩:=nx hw
 exact⟨0,eT (nnw (fun r0=>((true,[.bool r0]):kM)) flags)⟩
def qt:Sum:= {ps:=[⟨nj.ct,true⟩],rs:=[⟨[.ef .bool],false⟩],fn:=fun ds=>(true,[.bool (qH (nj.nc ds 0))])}
theorem vr:D_ Tryz.prog 209 qt:=by
 refine nD (Γ:=[(55,nH),(300,va),(301,Rk)]) (Ih oB (Ih ZG (Ih ZR JD))) Tryz.func209 fun ds (hw:kd (nj.ct++[]) ds) _=> ?_
 obtain⟨p,ds,rfl,_,hw⟩:=nj.nw (r:=_) hw
 obtain rfl:=nk hw
 exact⟨0,eT (ns_ (fun r0=>((true,[.bool r0]):kM)) p)⟩
theorem vG:D_ Tryz.prog 195 qt:=by
 refine nD (Γ:=[(37,nH),(289,va)]) (Ih oT (Ih nbm JD)) Tryz.func195 fun ds (hw:kd (nj.ct++[]) ds) _=> ?_
 obtain⟨p,ds,rfl,_,hw⟩:=nj.nw (r:=_) hw
 obtain rfl:=nk hw
 exact⟨0,eT (nuH (fun r0=>((true,[.bool r0]):kM)) p)⟩
def xU:Sum:= {ps:=[⟨[.sl [.i,.i,.i,.bool]],false⟩,⟨[.i],false⟩,⟨[.i],false⟩],rs:=[⟨[.ef .i],false⟩],fn:=fun ds=>(true,[.int (tQ (rR ds 0) (rI ds 1) (rI ds 2))])}
def VG:List (Nat×lE):=[(2, {cl:=[(1,.mP),(2,.mP),(9,.mP),(10,.mP),(11,.mP)],boxes:=[]})]
def VH:Int→kM:=(fun r0=>((true,[.int r0]):kM))
def nhi (O oP:Int) (Z:Rows) (oy oD:Int):St:= {n:=28,sl:=[(1,.int .i64 O),(2,.int .i64 oP),(9,.sl [.i,.i,.i,.bool] Z),(10,.int .i64 oy),(11,.int .i64 oD)],hp:=[],ok:=true,ls:=[],lm:=[]}
theorem VJ:D_ Tryz.prog 234 xU:=by
 refine qC (A:=VG) JD Tryz.func234 fun ds (hw:kd ([.sl [.i,.i,.i,.bool],.i,.i]) ds) _=> ?_
 obtain⟨Z,ds,rfl,qh,hw⟩:=nW hw
 obtain⟨O,ds,rfl,_,hw⟩:=nN hw
 obtain⟨oP,rfl,_⟩:=nx hw
 obtain⟨N,hN⟩:=njF Vm.kf VH Z O oP qh
 exact⟨N,eL (fun l_=>O9 Vm.kf VH l_ Z O oP) (funext fun oy=>nL1 (LW Tryz.prog [] VG N Tryz.f234 xU [true,false,true,false] []) (nhi O oP Z oy) _ N) hN⟩
def sb:Sum:= {ps:=[⟨[.sl [.i,.i,.i,.bool]],false⟩],rs:=[⟨[.ef .bool],false⟩],fn:=fun ds=>(true,[.bool (pf (rR ds 0))])}
def Xp:Ctx:=[(55,nH),(234,xU)]
theorem nk5:bN Tryz.prog Xp:=Ih oB (Ih VJ JD)
def Xo:List (Nat×lE):=[(2, {cl:=[(0,.mP),(5,.mP),(6,.mP),(7,.mP)],boxes:=[]})]
def Xq:Bool→kM:=(fun r0=>((true,[.bool r0]):kM))
def njl (Z x:Rows) (oy oD:Int):St:= {n:=42,sl:=[(0,.sl [.i,.i,.i,.bool] Z),(5,.sl [.i,.i,.i,.bool] x),(6,.int .i64 oy),(7,.int .i64 oD)],hp:=[],ok:=true,ls:=[],lm:=[]}
theorem Xt:D_ Tryz.prog 114 sb:=by
 refine qC (A:=Xo) nk5 Tryz.func114 fun ds (hw:kd ([.sl [.i,.i,.i,.bool]]) ds) _=> ?_
 obtain⟨Z,rfl,qh⟩:=pL hw
 obtain⟨N,hN⟩:=nk4 Vm.kf Xq Z qh
 exact⟨N,eL (fun l_=>Qb Vm.kf Xq l_ Z) (funext fun x=>funext fun oy=>nL1 (LW Tryz.prog Xp Xo N Tryz.f114 sb [true,false,true,false] []) (njl Z x oy) _ N) hN⟩
def QL:Ctx:=[(37,nH)]
theorem nmI:bN Tryz.prog QL:=Ih oT JD
def QK:List (Nat×lE):=[(4, {cl:=[(0,.mP),(3,.mP)],boxes:=[]}),(10, {cl:=[(0,.mP),(3,.mP),(4,.mP),(5,.mP)],boxes:=[(256,[])]})]
def wF:Bool→kM:=(fun r0=>((true,[.bool r0]):kM))
def vA (Z:Rows) (k:Int):St:= {n:=58,sl:=[(0,.sl [.i,.i,.i,.bool] Z),(3,.int .i64 k)],hp:=[],ok:=true,ls:=[],lm:=[]}
def yd (Z:Rows) (k i x oy oD:Int) (x_3:Bool):St:= {n:=58,sl:=[(0,.sl [.i,.i,.i,.bool] Z),(3,.int .i64 k),(4,.ptr 256 0),(5,.int .i64 i)],hp:=[(256,.box 222 [.int .i64 x,.int .i64 oy,.int .i64 oD,.bool x_3])],ok:=true,ls:=[],lm:=[]}
noncomputable def yc (N:Nat) (o0:St→kM):(St→kM)→St→kM:=LW Tryz.prog QL QK N Tryz.f135 sb [true,true,false,true,false,false,true,false,false,true,true,true,false] [o0]
noncomputable def yb (N:Nat):(St→kM)→St→kM:=LW Tryz.prog QL QK N Tryz.f135 sb [true,true,false,true,false] []
theorem nkq (N:Nat) (o0:St→kM) (Z:Rows) (k x oy oD:Int) (x_3:Bool) (ih:St→kM) (i:Int):yc N o0 ih (yd Z k i x oy oD x_3)=vz Vm.kf wF (fun k=>o0 (vA Z k)) Z k x oy (fun i=>ih (yd Z k i x oy oD x_3)) i:=by kernel_rfl
theorem nks (N:Nat) (o0:St→kM) (Z:Rows) (k x oy oD:Int) (x_3:Bool) (m_:Nat):(fun i=>LX (yc N o0) m_ (yd Z k i x oy oD x_3))=rT Vm.kf wF N (fun k=>o0 (vA Z k)) Z k x oy m_:=by
 induction m_ with
 | zero=>rfl
 | succ m_ ih=>
  funext i
  refine (nkq N o0 Z k x oy oD x_3 (LX (yc N o0) m_) i).trans ?_
  rw[ih]
  rfl
theorem nkp (N:Nat) (Z:Rows) (ih:St→kM) (k:Int):yb N ih (vA Z k)=vy Vm.kf wF (fun k x oy i=>LX (yc N ih) N (yd Z k i x oy (rI (nth Z (Int.toNat k)) 2) (rB (nth Z (Int.toNat k)) 3))) Z (fun k=>ih (vA Z k)) k:=by kernel_rfl
theorem nkr (N:Nat) (Z:Rows) (m_:Nat):(fun k=>LX (yb N) m_ (vA Z k))=t3 Vm.kf wF N Z m_:=by
 induction m_ with
 | zero=>rfl
 | succ m_ ih=>
  funext k
  refine (nkp N Z (LX (yb N) m_) k).trans ?_
  have e1:=funext fun k=>funext fun x=>funext fun oy=>nks N (LX (yb N) m_) Z k x oy (rI (nth Z (Int.toNat k)) 2) (rB (nth Z (Int.toNat k)) 3) N
  rw[e1]
  rw[ih]
  rfl
theorem Yo:D_ Tryz.prog 135 sb:=by
 refine qC (A:=QK) nmI Tryz.func135 fun ds (hw:kd ([.sl [.i,.i,.i,.bool]]) ds) _=> ?_
 obtain⟨Z,rfl,qh⟩:=pL hw
 obtain⟨N,hN⟩:=nmH Vm.kf wF Z qh
 refine⟨N,Eq.trans ?_ (hN.trans (by kernel_rfl))⟩
 unfold QM
 rw[←nkr N Z N]
 kernel_rfl
def O8:Sum:= {ps:=[⟨[.sl [.str]],false⟩],rs:=[⟨[.own 9 [.str]],false⟩],fn:=fun ds=>(sm (rR ds 0),[.sl (n7 (rR ds 0))])}
theorem VE:D_ Tryz.prog 167 O8:=by
 refine nD JD Tryz.func167 fun ds (hw:kd ([.sl [.str]]) ds) aP=> ?_
 obtain⟨l,rfl,_⟩:=pL hw
 exact⟨0,eT (njE Vm.kf (fun r0=>((true,[.sl r0]):kM)) l aP)⟩
def sN:Sum:= {ps:=[⟨na.ct,true⟩],rs:=[⟨[.own 9 [.str]],true⟩],fn:=fun ds=>(sJ (na.nc ds 0),na.enc (n7 (na.nc ds 0)))}
theorem tv:D_ Tryz.prog 160 sN:=by
 refine nD (Γ:=[(167,O8)]) (Ih VE JD) Tryz.func160 fun ds (hw:kd (na.ct++[]) ds) aP=> ?_
 obtain⟨m,ds,rfl,_,hw⟩:=na.nw (r:=_) hw
 obtain rfl:=nk hw
 exact⟨0,eT (nle Vm.kf (fun r0=>((true,na.enc r0):kM)) m aP)⟩
def sF:Sum:= {ps:=[⟨na.ct,true⟩],rs:=[⟨[.ef .bool],false⟩],fn:=fun ds=>(true,[.bool (qo (na.nc ds 0))])}
def ncg:List (Nat×lE):=[(2, {cl:=[(1,.mP),(6,.mP),(7,.mP),(8,.mP)],boxes:=[(64,[])]})]
def nch:Bool→kM:=(fun r0=>((true,[.bool r0]):kM))
def nng (x:Rows) (oy oD:Int) (ta:Rows):St:= {n:=20,sl:=[(1,.ptr 64 0),(6,.sl [.str] x),(7,.int .i64 oy),(8,.int .i64 oD)],hp:=[(64,.box 54 [.sl [.str] ta])],ok:=true,ls:=[],lm:=[]}
theorem Tp:D_ Tryz.prog 113 sF:=by
 refine qC (A:=ncg) JD Tryz.func113 fun ds (hw:kd (na.ct++[]) ds) _=> ?_
 obtain⟨m,ds,rfl,U5,hw⟩:=na.nw (r:=_) hw
 obtain rfl:=nk hw
 obtain⟨N,hN⟩:=nqd Vm.kf nch m U5
 exact⟨N,eL (fun l_=>Tq Vm.kf nch l_ m) (funext fun x=>funext fun oy=>funext fun ta=>nL1 (LW Tryz.prog [] ncg N Tryz.f113 sF [true,false,true,false] []) (fun oD=>nng x oy oD ta) _ N) hN⟩
def ndT:List (Nat×lE):=[(2, {cl:=[(1,.mP),(3,.mP)],boxes:=[(64,[])]})]
def ndU:Bool→kM:=(fun r0=>((true,[.bool r0]):kM))
def no5 (k:Int) (ta:Rows):St:= {n:=22,sl:=[(1,.ptr 64 0),(3,.int .i64 k)],hp:=[(64,.box 54 [.sl [.str] ta])],ok:=true,ls:=[],lm:=[]}
theorem TR:D_ Tryz.prog 134 sF:=by
 refine qC (A:=ndT) JD Tryz.func134 fun ds (hw:kd (na.ct++[]) ds) _=> ?_
 obtain⟨m,ds,rfl,U5,hw⟩:=na.nw (r:=_) hw
 obtain rfl:=nk hw
 obtain⟨N,hN⟩:=nr5 Vm.kf ndU m U5
 exact⟨N,eL (fun l_=>TS Vm.kf ndU l_ m) (funext fun ta=>nL1 (LW Tryz.prog [] ndT N Tryz.f134 sF [true,false,true,false] []) (fun k=>no5 k ta) _ N) hN⟩
def tL:Sum:= {ps:=[⟨[.i],false⟩],rs:=[⟨[.ef .bool],false⟩],fn:=fun ds=>(true,[.bool (vw (rI ds 0))])}
theorem TB:D_ Tryz.prog 327 tL:=by
 refine nD JD Tryz.func327 fun ds (hw:kd ([.i]) ds) _=> ?_
 obtain⟨n,rfl,_⟩:=nx hw
 exact⟨0,eT (ncQ (fun r0=>((true,[.bool r0]):kM)) n)⟩
theorem W2:D_ Tryz.prog 337 tL:=by
 refine nD JD Tryz.func337 fun ds (hw:kd ([.i]) ds) _=> ?_
 obtain⟨n,rfl,_⟩:=nx hw
 exact⟨0,eT (ncQ (fun r0=>((true,[.bool r0]):kM)) n)⟩
def z_:Sum:= {ps:=[⟨[.i],false⟩],rs:=[⟨[.ef .bool],false⟩],fn:=fun ds=>(true,[.bool (UW (rI ds 0))])}
theorem nnx:D_ Tryz.prog 331 z_:=by
 refine nD JD Tryz.func331 fun ds (hw:kd ([.i]) ds) _=> ?_
 obtain⟨n,rfl,_⟩:=nx hw
 exact⟨0,eT (ZT (fun r0=>((true,[.bool r0]):kM)) n)⟩
theorem nuN:D_ Tryz.prog 340 z_:=by
 refine nD JD Tryz.func340 fun ds (hw:kd ([.i]) ds) _=> ?_
 obtain⟨n,rfl,_⟩:=nx hw
 exact⟨0,eT (ZT (fun r0=>((true,[.bool r0]):kM)) n)⟩
def Sq:Sum:= {ps:=[⟨[.i],false⟩,⟨[.i],false⟩],rs:=[⟨[.ef .i],false⟩],fn:=fun ds=>(Nr (rI ds 0) (rI ds 1),[.int (Y8 (rI ds 0) (rI ds 1))])}
theorem YN:D_ Tryz.prog 218 Sq:=by
 refine nD JD Tryz.func218 fun ds (hw:kd ([.i,.i]) ds) aP=> ?_
 obtain⟨x,ds,rfl,_,hw⟩:=nN hw
 obtain⟨n,rfl,_⟩:=nx hw
 exact⟨0,eT (nvy Vm.kf (fun r0=>((true,[.int r0]):kM)) x n aP)⟩
def vT:Sum:= {ps:=[⟨n8.ct,true⟩],rs:=[⟨[.ef .i],false⟩],fn:=fun ds=>(true,[.int (zo (n8.nc ds 0))])}
theorem ncq:D_ Tryz.prog 328 vT:=by
 refine nD (Γ:=[(218,Sq),(327,tL)]) (Ih YN (Ih TB JD)) Tryz.func328 fun ds (hw:kd (n8.ct++[]) ds) _=> ?_
 obtain⟨r,ds,rfl,h_r,hw⟩:=n8.nw (r:=_) hw
 obtain rfl:=nk hw
 exact⟨0,eT (nqh Vm.kf (fun r0=>((true,[.int r0]):kM)) r h_r)⟩
theorem ndY:D_ Tryz.prog 338 vT:=by
 refine nD (Γ:=[(337,tL)]) (Ih W2 JD) Tryz.func338 fun ds (hw:kd (n8.ct++[]) ds) _=> ?_
 obtain⟨r,ds,rfl,_,hw⟩:=n8.nw (r:=_) hw
 obtain rfl:=nk hw
 exact⟨0,eT (nr_ (fun r0=>((true,[.int r0]):kM)) r)⟩
def th:Sum:= {ps:=[⟨n8.ct,true⟩],rs:=[⟨[.ef .bool],false⟩],fn:=fun ds=>(true,[.bool (ud (n8.nc ds 0))])}
theorem Sm:D_ Tryz.prog 235 th:=by
 refine nD (Γ:=[(55,nH),(327,tL),(328,vT)]) (Ih oB (Ih TB (Ih ncq JD))) Tryz.func235 fun ds (hw:kd (n8.ct++[]) ds) _=> ?_
 obtain⟨r,ds,rfl,_,hw⟩:=n8.nw (r:=_) hw
 obtain rfl:=nk hw
 exact⟨0,eT (nhS (fun r0=>((true,[.bool r0]):kM)) r)⟩
theorem SH:D_ Tryz.prog 250 th:=by
 refine nD (Γ:=[(37,nH),(337,tL),(338,vT)]) (Ih oT (Ih W2 (Ih ndY JD))) Tryz.func250 fun ds (hw:kd (n8.ct++[]) ds) _=> ?_
 obtain⟨r,ds,rfl,_,hw⟩:=n8.nw (r:=_) hw
 obtain rfl:=nk hw
 exact⟨0,eT (nhS (fun r0=>((true,[.bool r0]):kM)) r)⟩
def xl:Sum:= {ps:=[⟨nd.ct,true⟩],rs:=[⟨[.ef .bool],false⟩],fn:=fun ds=>(true,[.bool (qD (nd.nc ds 0))])}
theorem neS:D_ Tryz.prog 237 xl:=by
 refine nD (Γ:=[(55,nH),(327,tL)]) (Ih oB (Ih TB JD)) Tryz.func237 fun ds (hw:kd (nd.ct++[]) ds) _=> ?_
 obtain⟨q,ds,rfl,_,hw⟩:=nd.nw (r:=_) hw
 obtain rfl:=nk hw
 exact⟨0,eT (neR (fun r0=>((true,[.bool r0]):kM)) q)⟩
theorem ngc:D_ Tryz.prog 254 xl:=by
 refine nD (Γ:=[(37,nH),(337,tL)]) (Ih oT (Ih W2 JD)) Tryz.func254 fun ds (hw:kd (nd.ct++[]) ds) _=> ?_
 obtain⟨q,ds,rfl,_,hw⟩:=nd.nw (r:=_) hw
 obtain rfl:=nk hw
 exact⟨0,eT (neR (fun r0=>((true,[.bool r0]):kM)) q)⟩
def Rj:Sum:= {ps:=[⟨nA.ct,true⟩],rs:=[⟨[.ef .bool],false⟩],fn:=fun ds=>(true,[.bool (due (nA.nc ds 0))])}
theorem nti:D_ Tryz.prog 238 Rj:=by
 refine nD JD Tryz.func238 fun ds (hw:kd (nA.ct++[]) ds) _=> ?_
 obtain⟨v,ds,rfl,_,hw⟩:=nA.nw (r:=_) hw
 obtain rfl:=nk hw
 exact⟨0,eT (ntg (fun r0=>((true,[.bool r0]):kM)) v)⟩
theorem ni4:D_ Tryz.prog 255 Rj:=by
 refine nD JD Tryz.func255 fun ds (hw:kd (nA.ct++[]) ds) _=> ?_
 obtain⟨v,ds,rfl,_,hw⟩:=nA.nw (r:=_) hw
 obtain rfl:=nk hw
 exact⟨0,eT (ntg (fun r0=>((true,[.bool r0]):kM)) v)⟩
def vW:Sum:= {ps:=[⟨nA.ct,true⟩],rs:=[⟨[.ef .bool],false⟩],fn:=fun ds=>(true,[.bool (tU (nA.nc ds 0))])}
theorem ncC:D_ Tryz.prog 119 vW:=by
 refine nD (Γ:=[(55,nH),(238,Rj)]) (Ih oB (Ih nti JD)) Tryz.func119 fun ds (hw:kd (nA.ct++[]) ds) _=> ?_
 obtain⟨v,ds,rfl,_,hw⟩:=nA.nw (r:=_) hw
 obtain rfl:=nk hw
 exact⟨0,eT (ncB (fun r0=>((true,[.bool r0]):kM)) v)⟩
theorem nd_:D_ Tryz.prog 141 vW:=by
 refine nD (Γ:=[(37,nH),(255,Rj)]) (Ih oT (Ih ni4 JD)) Tryz.func141 fun ds (hw:kd (nA.ct++[]) ds) _=> ?_
 obtain⟨v,ds,rfl,_,hw⟩:=nA.nw (r:=_) hw
 obtain rfl:=nk hw
 exact⟨0,eT (ncB (fun r0=>((true,[.bool r0]):kM)) v)⟩
def wj:Sum:= {ps:=[⟨nh.ct,true⟩],rs:=[⟨[.ef .bool],false⟩],fn:=fun ds=>(true,[.bool (yi (nh.nc ds 0))])}
theorem Xz:D_ Tryz.prog 117 wj:=by
 refine nD (Γ:=[(55,nH),(209,qt),(235,th),(237,xl)]) (Ih oB (Ih vr (Ih Sm (Ih neS JD)))) Tryz.func117 fun ds (hw:kd (nh.ct++[]) ds) _=> ?_
 obtain⟨q,ds,rfl,_,hw⟩:=nh.nw (r:=_) hw
 obtain rfl:=nk hw
 exact⟨0,eT (npE (fun r0=>((true,[.bool r0]):kM)) q)⟩
theorem ngj:D_ Tryz.prog 139 wj:=by
 refine nD (Γ:=[(37,nH),(195,qt),(250,th),(254,xl)]) (Ih oT (Ih vG (Ih SH (Ih ngc JD)))) Tryz.func139 fun ds (hw:kd (nh.ct++[]) ds) _=> ?_
 obtain⟨q,ds,rfl,_,hw⟩:=nh.nw (r:=_) hw
 obtain rfl:=nk hw
 exact⟨0,eT (npE (fun r0=>((true,[.bool r0]):kM)) q)⟩
def yx:Sum:= {ps:=[⟨oE.ct,true⟩],rs:=[⟨[.ef .bool],false⟩],fn:=fun ds=>(true,[.bool (uQ (oE.nc ds 0))])}
theorem nhU:D_ Tryz.prog 329 yx:=by
 refine nD (Γ:=[(55,nH)]) (Ih oB JD) Tryz.func329 fun ds (hw:kd (oE.ct++[]) ds) _=> ?_
 obtain⟨r,ds,rfl,_,hw⟩:=oE.nw (r:=_) hw
 obtain rfl:=nk hw
 exact⟨0,eT (nhT (fun r0=>((true,[.bool r0]):kM)) r)⟩
theorem niY:D_ Tryz.prog 339 yx:=by
 refine nD (Γ:=[(37,nH)]) (Ih oT JD) Tryz.func339 fun ds (hw:kd (oE.ct++[]) ds) _=> ?_
 obtain⟨r,ds,rfl,_,hw⟩:=oE.nw (r:=_) hw
 obtain rfl:=nk hw
 exact⟨0,eT (nhT (fun r0=>((true,[.bool r0]):kM)) r)⟩
def uh:Sum:= {ps:=[⟨[.sl [.i,.i,.i,.i,.i,.i,.i,.i,.i]],false⟩],rs:=[⟨[.ef .bool],false⟩],fn:=fun ds=>(true,[.bool (xC (rR ds 0))])}
def neV:Ctx:=[(329,yx)]
theorem ns9:bN Tryz.prog neV:=Ih nhU JD
def neU:List (Nat×lE):=[(2, {cl:=[(0,.mP),(5,.mP),(6,.mP),(7,.mP)],boxes:=[]})]
def neW:Bool→kM:=(fun r0=>((true,[.bool r0]):kM))
def nqi (Z x:Rows) (oy oD:Int):St:= {n:=18,sl:=[(0,.sl [.i,.i,.i,.i,.i,.i,.i,.i,.i] Z),(5,.sl [.i,.i,.i,.i,.i,.i,.i,.i,.i] x),(6,.int .i64 oy),(7,.int .i64 oD)],hp:=[],ok:=true,ls:=[],lm:=[]}
theorem neY:D_ Tryz.prog 239 uh:=by
 refine qC (A:=neU) ns9 Tryz.func239 fun ds (hw:kd ([.sl [.i,.i,.i,.i,.i,.i,.i,.i,.i]]) ds) _=> ?_
 obtain⟨Z,rfl,qh⟩:=pL hw
 obtain⟨N,hN⟩:=ns8 Vm.kf neW Z qh
 exact⟨N,eL (fun l_=>Vj Vm.kf neW l_ Z) (funext fun x=>funext fun oy=>nL1 (LW Tryz.prog neV neU N Tryz.f239 uh [true,false,true,false] []) (nqi Z x oy) _ N) hN⟩
def ngf:Ctx:=[(339,yx)]
theorem nuG:bN Tryz.prog ngf:=Ih niY JD
def nge:List (Nat×lE):=[(2, {cl:=[(0,.mP),(3,.mP)],boxes:=[]})]
def ngg:Bool→kM:=(fun r0=>((true,[.bool r0]):kM))
def nsa (Z:Rows) (k:Int):St:= {n:=19,sl:=[(0,.sl [.i,.i,.i,.i,.i,.i,.i,.i,.i] Z),(3,.int .i64 k)],hp:=[],ok:=true,ls:=[],lm:=[]}
theorem ngi:D_ Tryz.prog 251 uh:=by
 refine qC (A:=nge) nuG Tryz.func251 fun ds (hw:kd ([.sl [.i,.i,.i,.i,.i,.i,.i,.i,.i]]) ds) _=> ?_
 obtain⟨Z,rfl,qh⟩:=pL hw
 obtain⟨N,hN⟩:=nuF Vm.kf ngg Z qh
 exact⟨N,eL (fun l_=>WN Vm.kf ngg l_ Z) (nL1 (LW Tryz.prog ngf nge N Tryz.f251 uh [true,false,true,false] []) (nsa Z) _ N) hN⟩
def vY:Sum:= {ps:=[⟨[.sl [.i]],false⟩],rs:=[⟨[.own 3 [.i]],false⟩],fn:=fun ds=>(sm (rR ds 0),[.sl (n7 (rR ds 0))])}
theorem yn:D_ Tryz.prog 168 vY:=by
 refine nD JD Tryz.func168 fun ds (hw:kd ([.sl [.i]]) ds) aP=> ?_
 obtain⟨l,rfl,_⟩:=pL hw
 exact⟨0,eT (nqx Vm.kf (fun r0=>((true,[.sl r0]):kM)) l aP)⟩
def tK:Sum:= {ps:=[⟨nJ.ct,true⟩],rs:=[⟨[.ef .i,.ef .i,.ef .i,.own 3 [.i]],true⟩],fn:=fun ds=>(QD (nJ.nc ds 0),nJ.enc (n7 (nJ.nc ds 0)))}
theorem Ty:D_ Tryz.prog 163 tK:=by
 refine nD (Γ:=[(168,vY)]) (Ih yn JD) Tryz.func163 fun ds (hw:kd (nJ.ct++[]) ds) aP=> ?_
 obtain⟨p,ds,rfl,_,hw⟩:=nJ.nw (r:=_) hw
 obtain rfl:=nk hw
 exact⟨0,eT (nqy Vm.kf (fun r0=>((true,nJ.enc r0):kM)) p aP)⟩
theorem W3:D_ Tryz.prog 131 tK:=by
 refine nD JD Tryz.func131 fun ds (hw:kd (nJ.ct++[]) ds) aP=> ?_
 obtain⟨p,ds,rfl,_,hw⟩:=nJ.nw (r:=_) hw
 obtain rfl:=nk hw
 exact⟨0,eT (nuX Vm.kf (fun r0=>((true,nJ.enc r0):kM)) p aP)⟩
def tg:Sum:= {ps:=[⟨nJ.ct,true⟩],rs:=[⟨[.ef .bool],false⟩],fn:=fun ds=>(true,[.bool (tR (nJ.nc ds 0))])}
def nhP:Ctx:=[(55,nH)]
theorem nvr:bN Tryz.prog nhP:=Ih oB JD
def nhO:List (Nat×lE):=[(5, {cl:=[(1,.mP),(3,.mP),(26,.mP),(27,.mP),(28,.mP)],boxes:=[(64,[])]})]
def nhQ:Bool→kM:=(fun r0=>((true,[.bool r0]):kM))
def ns7 (x:Rows) (oy oD p_1 p_2 R0:Int) (UC seen:Rows):St:= {n:=48,sl:=[(1,.ptr 64 0),(3,.own 640192),(26,.sl [.i] x),(27,.int .i64 oy),(28,.int .i64 oD)],hp:=[(64,.box 57 [.int .i64 p_1,.int .i64 p_2,.int .i64 R0,.sl [.i] UC]),(640192,.row 4 [.bool] seen false true)],ok:=true,ls:=[],lm:=[]}
theorem YJ:D_ Tryz.prog 118 tg:=by
 refine qC (A:=nhO) nvr Tryz.func118 fun ds (hw:kd (nJ.ct++[]) ds) _=> ?_
 obtain⟨p,ds,rfl,h_p,hw⟩:=nJ.nw (r:=_) hw
 obtain rfl:=nk hw
 obtain⟨N,hN⟩:=nvq Vm.kf nhQ p h_p
 exact⟨N,eL (fun l_=>YK Vm.kf nhQ l_ p) (funext fun x=>funext fun oy=>funext fun R0=>Te (LW Tryz.prog nhP nhO N Tryz.f118 tg [true,true,true,false,true,false] []) (fun oD seen=>ns7 x oy oD p.qk p.nO R0 p.qs seen) _ N) hN⟩
def niV:Ctx:=[(37,nH)]
theorem nwq:bN Tryz.prog niV:=Ih oT JD
def niU:List (Nat×lE):=[(5, {cl:=[(1,.mP),(3,.mP),(4,.mP)],boxes:=[(64,[])]})]
def niW:Bool→kM:=(fun r0=>((true,[.bool r0]):kM))
def nuE (k p_1 p_2 R0:Int) (UC seen:Rows):St:= {n:=58,sl:=[(1,.ptr 64 0),(3,.own 640192),(4,.int .i64 k)],hp:=[(64,.box 57 [.int .i64 p_1,.int .i64 p_2,.int .i64 R0,.sl [.i] UC]),(640192,.row 4 [.bool] seen false true)],ok:=true,ls:=[],lm:=[]}
theorem Zc:D_ Tryz.prog 140 tg:=by
 refine qC (A:=niU) nwq Tryz.func140 fun ds (hw:kd (nJ.ct++[]) ds) _=> ?_
 obtain⟨p,ds,rfl,h_p,hw⟩:=nJ.nw (r:=_) hw
 obtain rfl:=nk hw
 obtain⟨N,hN⟩:=nwp Vm.kf niW p h_p
 exact⟨N,eL (fun l_=>Zd Vm.kf niW l_ p) (funext fun R0=>funext fun UC=>Te (LW Tryz.prog niV niU N Tryz.f140 tg [true,true,true,false,true,false] []) (fun k seen=>nuE k p.qk p.nO R0 UC seen) _ N) hN⟩
def xI:Sum:= {ps:=[⟨nJ.ct,true⟩,⟨[.sl [.i]],false⟩],rs:=[⟨[.ef .i,.ef .i,.ef .i,.own 3 [.i]],true⟩,⟨[.ef .bool],false⟩],fn:=fun ds=>(Zi (nJ.nc ds 0) (rR ds 4),nJ.enc (rZ (nJ.nc ds 0) (rR ds 4)).1++[.bool (rZ (nJ.nc ds 0) (rR ds 4)).2])}
theorem nji:D_ Tryz.prog 236 xI:=by
 refine nD (Γ:=[(118,tg),(163,tK)]) (Ih YJ (Ih Ty JD)) Tryz.func236 fun ds (hw:kd (nJ.ct++[.sl [.i]]) ds) aP=> ?_
 obtain⟨p,ds,rfl,_,hw⟩:=nJ.nw (r:=_) hw
 obtain⟨Z,rfl,_⟩:=pL hw
 exact⟨0,eT (Vd Vm.kf (fun r0 r1=>((true,nJ.enc r0++[.bool r1]):kM)) p Z aP)⟩
theorem nkm:D_ Tryz.prog 147 xI:=by
 refine nD (Γ:=[(131,tK),(140,tg)]) (Ih W3 (Ih Zc JD)) Tryz.func147 fun ds (hw:kd (nJ.ct++[.sl [.i]]) ds) aP=> ?_
 obtain⟨p,ds,rfl,_,hw⟩:=nJ.nw (r:=_) hw
 obtain⟨Z,rfl,_⟩:=pL hw
 exact⟨0,eT (Vd Vm.kf (fun r0 r1=>((true,nJ.enc r0++[.bool r1]):kM)) p Z aP)⟩
def X1:Sum:= {ps:=[⟨na.ct,true⟩,⟨[.i],false⟩],rs:=[⟨[.ef .i],false⟩],fn:=fun ds=>(Oa (na.nc ds 0) (rI ds 1),[.int (x_ (na.nc ds 0) (rI ds 1)).1]++[.sl (x_ (na.nc ds 0) (rI ds 1)).2]),ms:=[some (.rows [.flat 9]),none]}
def nlS:Ctx:=[(82,xW)]
theorem nlV:bN Tryz.prog nlS:=Ih Wg JD
theorem nlU:Cm Tryz.prog 72 X1:=by
 refine NR (A:=[]) nlV Tryz.func72 fun ds (hw:kd (na.ct++[.i]) ds) aP=> ?_
 obtain⟨a,ds,rfl,_,hw⟩:=na.nw (r:=_) hw
 obtain⟨k,rfl,_⟩:=nx hw
 exact⟨0,eT (nlT Vm.kf (fun r0 r1=>((true,[.int r0]++[.sl r1]):kM)) a k aP)⟩
def XY:Sum:= {ps:=[⟨na.ct,true⟩,⟨[.i],false⟩],rs:=[⟨[.ef .i],false⟩],fn:=fun ds=>(NU (na.nc ds 0) (rI ds 1),[.int (O5 (na.nc ds 0) (rI ds 1))])}
theorem nlG:D_ Tryz.prog 84 XY:=by
 refine nD (Γ:=[(94,xV)]) (Ih V5 JD) Tryz.func84 fun ds (hw:kd (na.ct++[.i]) ds) aP=> ?_
 obtain⟨a,ds,rfl,_,hw⟩:=na.nw (r:=_) hw
 obtain⟨k,rfl,_⟩:=nx hw
 exact⟨0,eT (nlF Vm.kf (fun r0=>((true,[.int r0]):kM)) a k aP)⟩
def ndd:Sum:= {ps:=[⟨nJ.ct,true⟩,⟨[.i],false⟩],rs:=[⟨[.ef .i],false⟩],fn:=fun ds=>(S2 (nJ.nc ds 0) (rI ds 4),[.int (QC (nJ.nc ds 0) (rI ds 4)).1]++[.sl (QC (nJ.nc ds 0) (rI ds 4)).2]),ms:=[some (.rows [.flat 3]),none]}
def nq6:Ctx:=[(83,tN)]
theorem nq9:bN Tryz.prog nq6:=Ih v7 JD
theorem nq8:Cm Tryz.prog 181 ndd:=by
 refine NR (A:=[]) nq9 Tryz.func181 fun ds (hw:kd (nJ.ct++[.i]) ds) aP=> ?_
 obtain⟨a,ds,rfl,_,hw⟩:=nJ.nw (r:=_) hw
 obtain⟨k,rfl,_⟩:=nx hw
 exact⟨0,eT (nq7 Vm.kf (fun r0 r1=>((true,[.int r0]++[.sl r1]):kM)) a k aP)⟩
def nc9:Sum:= {ps:=[⟨nJ.ct,true⟩,⟨[.i],false⟩],rs:=[⟨[.ef .i],false⟩],fn:=fun ds=>(SK (nJ.nc ds 0) (rI ds 4),[.int (U7 (nJ.nc ds 0) (rI ds 4))])}
theorem nq0:D_ Tryz.prog 187 nc9:=by
 refine nD (Γ:=[(95,tM)]) (Ih vZ JD) Tryz.func187 fun ds (hw:kd (nJ.ct++[.i]) ds) aP=> ?_
 obtain⟨a,ds,rfl,_,hw⟩:=nJ.nw (r:=_) hw
 obtain⟨k,rfl,_⟩:=nx hw
 exact⟨0,eT (nqZ Vm.kf (fun r0=>((true,[.int r0]):kM)) a k aP)⟩
def X0:Sum:= {ps:=[⟨nE.ct,true⟩,⟨[.i],false⟩],rs:=[⟨[.ef .i],false⟩],fn:=fun ds=>(N_ (nE.nc ds 0) (rI ds 3),[.int (Pj (nE.nc ds 0) (rI ds 3)).1]++[.sl (Pj (nE.nc ds 0) (rI ds 3)).2]),ms:=[some (.rows [.flat 3]),none]}
def nlO:Ctx:=[(83,tN)]
theorem nlR:bN Tryz.prog nlO:=Ih v7 JD
theorem nlQ:Cm Tryz.prog 79 X0:=by
 refine NR (A:=[]) nlR Tryz.func79 fun ds (hw:kd (nE.ct++[.i]) ds) aP=> ?_
 obtain⟨a,ds,rfl,_,hw⟩:=nE.nw (r:=_) hw
 obtain⟨k,rfl,_⟩:=nx hw
 exact⟨0,eT (nlP Vm.kf (fun r0 r1=>((true,[.int r0]++[.sl r1]):kM)) a k aP)⟩
def XX:Sum:= {ps:=[⟨nE.ct,true⟩,⟨[.i],false⟩],rs:=[⟨[.ef .i],false⟩],fn:=fun ds=>(NS (nE.nc ds 0) (rI ds 3),[.int (U6 (nE.nc ds 0) (rI ds 3))])}
theorem nlE:D_ Tryz.prog 91 XX:=by
 refine nD (Γ:=[(95,tM)]) (Ih vZ JD) Tryz.func91 fun ds (hw:kd (nE.ct++[.i]) ds) aP=> ?_
 obtain⟨a,ds,rfl,_,hw⟩:=nE.nw (r:=_) hw
 obtain⟨k,rfl,_⟩:=nx hw
 exact⟨0,eT (nlD Vm.kf (fun r0=>((true,[.int r0]):kM)) a k aP)⟩
def S0:Sum:= {ps:=[⟨ni.ct,true⟩,⟨[.i],false⟩],rs:=[⟨[.ef .i],false⟩],fn:=fun ds=>(xr (ni.nc ds 0) (rI ds 1),[.int (wP (ni.nc ds 0) (rI ds 1)).1]++[.sl (wP (ni.nc ds 0) (rI ds 1)).2]),ms:=[some (.rows [.flat 264]),none]}
def nfr:Ctx:=[(286,RI)]
theorem nfu:bN Tryz.prog nfr:=Ih nob JD
theorem nft:Cm Tryz.prog 185 S0:=by
 refine NR (A:=[]) nfu Tryz.func185 fun ds (hw:kd (ni.ct++[.i]) ds) aP=> ?_
 obtain⟨a,ds,rfl,_,hw⟩:=ni.nw (r:=_) hw
 obtain⟨k,rfl,_⟩:=nx hw
 exact⟨0,eT (nfs Vm.kf (fun r0 r1=>((true,[.int r0]++[.sl r1]):kM)) a k aP)⟩
def SZ:Sum:= {ps:=[⟨ni.ct,true⟩,⟨[.i],false⟩],rs:=[⟨[.ef .i],false⟩],fn:=fun ds=>(xf (ni.nc ds 0) (rI ds 1),[.int (NT (ni.nc ds 0) (rI ds 1))])}
theorem nfo:D_ Tryz.prog 190 SZ:=by
 refine nD (Γ:=[(287,Rz)]) (Ih nnZ JD) Tryz.func190 fun ds (hw:kd (ni.ct++[.i]) ds) aP=> ?_
 obtain⟨a,ds,rfl,_,hw⟩:=ni.nw (r:=_) hw
 obtain⟨k,rfl,_⟩:=nx hw
 exact⟨0,eT (nfn Vm.kf (fun r0=>((true,[.int r0]):kM)) a k aP)⟩
def X2:Sum:= {ps:=[⟨nB.ct,true⟩,⟨[.i],false⟩],rs:=[⟨[.ef .i],false⟩],fn:=fun ds=>(Ob (nB.nc ds 0) (rI ds 2),[.int (Pk (nB.nc ds 0) (rI ds 2)).1]++[.sl (Pk (nB.nc ds 0) (rI ds 2)).2]),ms:=[some (.rows [.flat 3]),none]}
def nl0:Ctx:=[(83,tN)]
theorem nl3:bN Tryz.prog nl0:=Ih v7 JD
theorem nl2:Cm Tryz.prog 186 X2:=by
 refine NR (A:=[]) nl3 Tryz.func186 fun ds (hw:kd (nB.ct++[.i]) ds) aP=> ?_
 obtain⟨a,ds,rfl,_,hw⟩:=nB.nw (r:=_) hw
 obtain⟨k,rfl,_⟩:=nx hw
 exact⟨0,eT (nl1 Vm.kf (fun r0 r1=>((true,[.int r0]++[.sl r1]):kM)) a k aP)⟩
def XZ:Sum:= {ps:=[⟨nB.ct,true⟩,⟨[.i],false⟩],rs:=[⟨[.ef .i],false⟩],fn:=fun ds=>(NV (nB.nc ds 0) (rI ds 2),[.int (U8 (nB.nc ds 0) (rI ds 2))])}
theorem nlM:D_ Tryz.prog 191 XZ:=by
 refine nD (Γ:=[(95,tM)]) (Ih vZ JD) Tryz.func191 fun ds (hw:kd (nB.ct++[.i]) ds) aP=> ?_
 obtain⟨a,ds,rfl,_,hw⟩:=nB.nw (r:=_) hw
 obtain⟨k,rfl,_⟩:=nx hw
 exact⟨0,eT (nlL Vm.kf (fun r0=>((true,[.int r0]):kM)) a k aP)⟩
def Wi:Sum:= {ps:=[⟨nt.ct,true⟩,⟨[.i],false⟩],rs:=[⟨[.ef .i],false⟩],fn:=fun ds=>(zz (nt.nc ds 0) (rI ds 10),[.int (wC (nt.nc ds 0) (rI ds 10)).1]++[.sl (wC (nt.nc ds 0) (rI ds 10)).2.1]++[.sl (wC (nt.nc ds 0) (rI ds 10)).2.2]),ms:=[some (.rows [.flat 3,.deep 293 [3]]),none]}
def nj4:Ctx:=[(181,ndd),(182,RG)]
theorem nj7:bN Tryz.prog nj4:=Ih nq8 (Ih nn9 JD)
theorem nj6:Cm Tryz.prog 74 Wi:=by
 refine NR (A:=[]) nj7 Tryz.func74 fun ds (hw:kd (nt.ct++[.i]) ds) aP=> ?_
 obtain⟨a,ds,rfl,_,hw⟩:=nt.nw (r:=_) hw
 obtain⟨k,rfl,_⟩:=nx hw
 exact⟨0,eT (nj5 Vm.kf (fun r0 r1 r2=>((true,[.int r0]++[.sl r1]++[.sl r2]):kM)) a k aP)⟩
def V6:Sum:= {ps:=[⟨nt.ct,true⟩,⟨[.i],false⟩],rs:=[⟨[.ef .i],false⟩],fn:=fun ds=>(zp (nt.nc ds 0) (rI ds 10),[.int (SM (nt.nc ds 0) (rI ds 10))])}
theorem njW:D_ Tryz.prog 86 V6:=by
 refine nD (Γ:=[(187,nc9),(188,Rw)]) (Ih nq0 (Ih nnW JD)) Tryz.func86 fun ds (hw:kd (nt.ct++[.i]) ds) aP=> ?_
 obtain⟨a,ds,rfl,_,hw⟩:=nt.nw (r:=_) hw
 obtain⟨k,rfl,_⟩:=nx hw
 exact⟨0,eT (njV Vm.kf (fun r0=>((true,[.int r0]):kM)) a k aP)⟩
def Uz:Sum:= {ps:=[⟨nm.ct,true⟩,⟨[.i],false⟩],rs:=[⟨[.ef .i],false⟩],fn:=fun ds=>(yu (nm.nc ds 0) (rI ds 4),[.int (tz (nm.nc ds 0) (rI ds 4)).1]++[.sl (tz (nm.nc ds 0) (rI ds 4)).2.1]++[.sl (tz (nm.nc ds 0) (rI ds 4)).2.2.1]++[.sl (tz (nm.nc ds 0) (rI ds 4)).2.2.2]),ms:=[some (.rows [.flat 260,.flat 264,.flat 3]),none]}
def nhy:Ctx:=[(184,RF),(185,S0),(186,X2)]
theorem nhB:bN Tryz.prog nhy:=Ih nn7 (Ih nft (Ih nl2 JD))
theorem nhA:Cm Tryz.prog 80 Uz:=by
 refine NR (A:=[]) nhB Tryz.func80 fun ds (hw:kd (nm.ct++[.i]) ds) aP=> ?_
 obtain⟨a,ds,rfl,_,hw⟩:=nm.nw (r:=_) hw
 obtain⟨k,rfl,_⟩:=nx hw
 exact⟨0,eT (nhz Vm.kf (fun r0 r1 r2 r3=>((true,[.int r0]++[.sl r1]++[.sl r2]++[.sl r3]):kM)) a k aP)⟩
def Uq:Sum:= {ps:=[⟨nm.ct,true⟩,⟨[.i],false⟩],rs:=[⟨[.ef .i],false⟩],fn:=fun ds=>(yj (nm.nc ds 0) (rI ds 4),[.int (PR (nm.nc ds 0) (rI ds 4))])}
theorem nhp:D_ Tryz.prog 92 Uq:=by
 refine nD (Γ:=[(189,Rv),(190,SZ),(191,XZ)]) (Ih nnU (Ih nfo (Ih nlM JD))) Tryz.func92 fun ds (hw:kd (nm.ct++[.i]) ds) aP=> ?_
 obtain⟨a,ds,rfl,_,hw⟩:=nm.nw (r:=_) hw
 obtain⟨k,rfl,_⟩:=nx hw
 exact⟨0,eT (nho Vm.kf (fun r0=>((true,[.int r0]):kM)) a k aP)⟩
def nc_:Sum:= {ps:=[⟨ny.ct,true⟩,⟨[.i],false⟩],rs:=[⟨[.ef .i],false⟩],fn:=fun ds=>(zy (ny.nc ds 0) (rI ds 33),[.int (pK (ny.nc ds 0) (rI ds 33)).1]++[.sl (pK (ny.nc ds 0) (rI ds 33)).2.1]++[.sl (pK (ny.nc ds 0) (rI ds 33)).2.2.1]++[.sl (pK (ny.nc ds 0) (rI ds 33)).2.2.2.1]++[.sl (pK (ny.nc ds 0) (rI ds 33)).2.2.2.2.1]++[.sl (pK (ny.nc ds 0) (rI ds 33)).2.2.2.2.2.1]++[.sl (pK (ny.nc ds 0) (rI ds 33)).2.2.2.2.2.2.1]++[.sl (pK (ny.nc ds 0) (rI ds 33)).2.2.2.2.2.2.2.1]++[.sl (pK (ny.nc ds 0) (rI ds 33)).2.2.2.2.2.2.2.2.1]++[.sl (pK (ny.nc ds 0) (rI ds 33)).2.2.2.2.2.2.2.2.2.1]++[.sl (pK (ny.nc ds 0) (rI ds 33)).2.2.2.2.2.2.2.2.2.2.1]++[.sl (pK (ny.nc ds 0) (rI ds 33)).2.2.2.2.2.2.2.2.2.2.2.1]++[.sl (pK (ny.nc ds 0) (rI ds 33)).2.2.2.2.2.2.2.2.2.2.2.2.1]++[.sl (pK (ny.nc ds 0) (rI ds 33)).2.2.2.2.2.2.2.2.2.2.2.2.2.1]++[.sl (pK (ny.nc ds 0) (rI ds 33)).2.2.2.2.2.2.2.2.2.2.2.2.2.2.1]++[.sl (pK (ny.nc ds 0) (rI ds 33)).2.2.2.2.2.2.2.2.2.2.2.2.2.2.2.1]++[.sl (pK (ny.nc ds 0) (rI ds 33)).2.2.2.2.2.2.2.2.2.2.2.2.2.2.2.2]),ms:=[some (.rows [.flat 9,.flat 222,.flat 3,.deep 293 [3],.flat 104,.deep 57 [3],.flat 107,.flat 4,.flat 3,.flat 260,.flat 264,.flat 3,.flat 236,.flat 9,.flat 3,.flat 3]),none]}
def nq1:Ctx:=[(72,X1),(73,NM),(74,Wi),(75,NN),(76,RD),(77,Pg),(78,RA),(79,X0),(80,Uz),(81,Pc),(82,xW),(83,tN)]
theorem nq4:bN Tryz.prog nq1:=Ih nlU (Ih nhu (Ih nj6 (Ih nhw (Ih nn4 (Ih nj9 (Ih nn1 (Ih nlQ (Ih nhA (Ih nj0 (Ih Wg (Ih v7 JD)))))))))))
theorem nq3:Cm Tryz.prog 12 nc_:=by
 refine NR (A:=[]) nq4 Tryz.func12 fun ds (hw:kd (ny.ct++[.i]) ds) aP=> ?_
 obtain⟨a,ds,rfl,_,hw⟩:=ny.nw (r:=_) hw
 obtain⟨k,rfl,_⟩:=nx hw
 exact⟨0,eT (nq2 Vm.kf (fun r0 r1 r2 r3 r4 r5 r6 r7 r8 r9 r10 r11 r12 r13 r14 r15 r16=>((true,[.int r0]++[.sl r1]++[.sl r2]++[.sl r3]++[.sl r4]++[.sl r5]++[.sl r6]++[.sl r7]++[.sl r8]++[.sl r9]++[.sl r10]++[.sl r11]++[.sl r12]++[.sl r13]++[.sl r14]++[.sl r15]++[.sl r16]):kM)) a k aP)⟩
def nc5:Sum:= {ps:=[⟨ny.ct,true⟩,⟨[.i],false⟩],rs:=[⟨[.ef .i],false⟩],fn:=fun ds=>(Pv (ny.nc ds 0) (rI ds 33),[.int (Zj (ny.nc ds 0) (rI ds 33))])}
theorem nqX:D_ Tryz.prog 13 nc5:=by
 refine nD (Γ:=[(84,XY),(85,NK),(86,V6),(87,NL),(88,Rt),(89,Pb),(90,Rr),(91,XX),(92,Uq),(93,O_),(94,xV),(95,tM)]) (Ih nlG (Ih nhk (Ih njW (Ih nhm (Ih nnR (Ih njY (Ih nnO (Ih nlE (Ih nhp (Ih njR (Ih V5 (Ih vZ JD)))))))))))) Tryz.func13 fun ds (hw:kd (ny.ct++[.i]) ds) aP=> ?_
 obtain⟨a,ds,rfl,_,hw⟩:=ny.nw (r:=_) hw
 obtain⟨k,rfl,_⟩:=nx hw
 exact⟨0,eT (nqW Vm.kf (fun r0=>((true,[.int r0]):kM)) a k aP)⟩
def Py:Sum:= {ps:=[⟨nt.ct,true⟩],rs:=[⟨[.ef .bool],false⟩],fn:=fun ds=>(T0 (nt.nc ds 0),[.bool (ng_ (nt.nc ds 0))])}
def npG:Ctx:=[(55,nH),(118,tg),(235,th),(236,xI)]
theorem nxR:bN Tryz.prog npG:=Ih oB (Ih YJ (Ih Sm (Ih nji JD)))
def npF:List (Nat×lE):=[(6, {cl:=[(1,.mP),(3,.mP),(4,.mP),(30,.mP),(31,.mP),(32,.mP)],boxes:=[(64,[])]})]
def npH:Bool→kM:=(fun r0=>((true,[.bool r0]):kM))
def nw9 (left:Int) (x:Rows) (oy oD q_1 q_2 q_3 q_4 q_5 q_6 q_7:Int) (q_8 Y9:Rows) (nzZ:Int) (all:Rows):St:= {n:=68,sl:=[(1,.ptr 64 0),(3,.int .i64 left),(4,.own 640256),(30,.sl [.i,.i,.sl [.i]] x),(31,.int .i64 oy),(32,.int .i64 oD)],hp:=[(64,.box 60 [.int .i64 q_1,.int .i64 q_2,.int .i64 q_3,.int .i64 q_4,.int .i64 q_5,.int .i64 q_6,.int .i64 q_7,.sl [.i] q_8,.sl [.i,.i,.sl [.i]] Y9,.int .i64 nzZ]),(640256,.row 3 [.i] all false true)],ok:=true,ls:=[],lm:=[]}
theorem nxQ:D_ Tryz.prog 115 Py:=by
 refine qC (A:=npF) nxR Tryz.func115 fun ds (hw:kd (nt.ct++[]) ds) aP=> ?_
 obtain⟨q,ds,rfl,h_q,hw⟩:=nt.nw (r:=_) hw
 obtain rfl:=nk hw
 obtain⟨N,hN⟩:=nxP Vm.kf npH q h_q aP
 exact⟨N,eL (fun l_=>ne2 Vm.kf npH l_ q) (funext fun x=>funext fun oy=>funext fun q_5=>funext fun q_6=>funext fun q_7=>funext fun q_8=>nL3 (LW Tryz.prog npG npF N Tryz.f115 Py [true,true,true,true,false,true,false] []) (fun left oD all=>nw9 left x oy oD q.Ring.qk q.Ring.nO q.Ring.Head q.Ring.wI q_5 q_6 q_7 q_8 q.nK q.Next all) _ N) hN⟩
def npN:Ctx:=[(37,nH),(140,tg),(147,xI),(250,th)]
theorem nx8:bN Tryz.prog npN:=Ih oT (Ih Zc (Ih nkm (Ih SH JD)))
def npM:List (Nat×lE):=[(6, {cl:=[(1,.mP),(3,.mP),(4,.mP),(5,.mP)],boxes:=[(64,[])]})]
def npO:Bool→kM:=(fun r0=>((true,[.bool r0]):kM))
def nxr (cl k q_1 q_2 q_3 q_4 q_5 q_6 q_7:Int) (q_8 Y9:Rows) (nzZ:Int) (all:Rows):St:= {n:=74,sl:=[(1,.ptr 64 0),(3,.int .i64 cl),(4,.own 640256),(5,.int .i64 k)],hp:=[(64,.box 60 [.int .i64 q_1,.int .i64 q_2,.int .i64 q_3,.int .i64 q_4,.int .i64 q_5,.int .i64 q_6,.int .i64 q_7,.sl [.i] q_8,.sl [.i,.i,.sl [.i]] Y9,.int .i64 nzZ]),(640256,.row 3 [.i] all false true)],ok:=true,ls:=[],lm:=[]}
theorem nx7:D_ Tryz.prog 136 Py:=by
 refine qC (A:=npM) nx8 Tryz.func136 fun ds (hw:kd (nt.ct++[]) ds) aP=> ?_
 obtain⟨q,ds,rfl,h_q,hw⟩:=nt.nw (r:=_) hw
 obtain rfl:=nk hw
 obtain⟨N,hN⟩:=nx6 Vm.kf npO q h_q aP
 exact⟨N,eL (fun l_=>ngr Vm.kf npO l_ q) (funext fun q_2=>funext fun q_5=>funext fun q_6=>funext fun q_7=>funext fun q_8=>funext fun Y9=>nL3 (LW Tryz.prog npN npM N Tryz.f136 Py [true,true,true,true,false,true,false] []) (fun cl k all=>nxr cl k q.Ring.qk q_2 q.Ring.Head q.Ring.wI q_5 q_6 q_7 q_8 Y9 q.Next all) _ N) hN⟩
def vS:Sum:= {ps:=[⟨nG.ct,true⟩],rs:=[⟨[.ef .i],false⟩],fn:=fun ds=>(true,[.int (qw (nG.nc ds 0))])}
def ncb:Ctx:=[(218,Sq)]
theorem nqb:bN Tryz.prog ncb:=Ih YN JD
def nca:List (Nat×lE):=[(3, {cl:=[(3,.mP),(16,.mP),(17,.mP),(18,.mP)],boxes:=[(64,[])]})]
def ncc:Int→kM:=(fun r0=>((true,[.int r0]):kM))
def nnc (n x oy yC Tg wU U3 U4:Int) (oD:Rows):St:= {n:=29,sl:=[(3,.int .i64 n),(16,.own 641024),(17,.int .i64 x),(18,.int .i64 oy)],hp:=[(64,.box 234 [.int .i64 yC,.int .i64 Tg,.int .i64 wU,.int .i64 U3,.int .i64 U4]),(641024,.row 3 [.i] oD false true)],ok:=true,ls:=[],lm:=[]}
theorem nqa:D_ Tryz.prog 398 vS:=by
 refine qC (A:=nca) nqb Tryz.func398 fun ds (hw:kd (nG.ct++[]) ds) _=> ?_
 obtain⟨f,ds,rfl,h_f,hw⟩:=nG.nw (r:=_) hw
 obtain rfl:=nk hw
 obtain⟨N,hN⟩:=np_ Vm.kf ncc f h_f
 exact⟨N,eL (fun l_=>To Vm.kf ncc l_ f) (funext fun x=>funext fun oD=>Te (LW Tryz.prog ncb nca N Tryz.f398 vS [true,true,false,true,false] []) (fun n oy=>nnc n x oy f.Kind f.o_ f.qm f.om f.n9 oD) _ N) hN⟩
def ndQ:List (Nat×lE):=[(4, {cl:=[(3,.mP),(4,.mP),(5,.mP)],boxes:=[(64,[])]})]
def ndR:Int→kM:=(fun r0=>((true,[.int r0]):kM))
def no1 (n k yC Tg wU U3 U4:Int) (Z:Rows):St:= {n:=32,sl:=[(3,.int .i64 n),(4,.own 640256),(5,.int .i64 k)],hp:=[(64,.box 234 [.int .i64 yC,.int .i64 Tg,.int .i64 wU,.int .i64 U3,.int .i64 U4]),(640256,.row 3 [.i] Z false true)],ok:=true,ls:=[],lm:=[]}
theorem nr3:D_ Tryz.prog 361 vS:=by
 refine qC (A:=ndQ) JD Tryz.func361 fun ds (hw:kd (nG.ct++[]) ds) _=> ?_
 obtain⟨f,ds,rfl,h_f,hw⟩:=nG.nw (r:=_) hw
 obtain rfl:=nk hw
 obtain⟨N,hN⟩:=nr2 Vm.kf ndR f h_f
 exact⟨N,eL (fun l_=>TQ Vm.kf ndR l_ f) (funext fun Z=>Te (LW Tryz.prog [] ndQ N Tryz.f361 vS [true,true,true,false,true,false] []) (fun n k=>no1 n k f.Kind f.o_ f.qm f.om f.n9 Z) _ N) hN⟩
def Ss:Sum:= {ps:=[⟨ni.ct,true⟩,⟨nG.ct,true⟩],rs:=[⟨[.ef .i],false⟩],fn:=fun ds=>(true,[.int (R4 (ni.nc ds 0) (nG.nc ds 1))])}
def nik:List (Nat×lE):=[(2, {cl:=[(3,.mP),(8,.mP),(9,.mP),(10,.mP)],boxes:=[(128,[]),(192,[])]})]
def nim:Int→kM:=(fun r0=>((true,[.int r0]):kM))
def ntt (x:Rows) (oy oD:Int) (uZ:Rows) (yC Tg wU U3 U4:Int):St:= {n:=26,sl:=[(3,.ptr 192 0),(8,.sl [.i,.i,.i,.i,.i,.i,.i] x),(9,.int .i64 oy),(10,.int .i64 oD)],hp:=[(128,.box 68 [.sl [.i,.i,.i,.i,.i,.i,.i] uZ]),(192,.box 234 [.int .i64 yC,.int .i64 Tg,.int .i64 wU,.int .i64 U3,.int .i64 U4])],ok:=true,ls:=[],lm:=[]}
theorem nio:D_ Tryz.prog 303 Ss:=by
 refine qC (A:=nik) JD Tryz.func303 fun ds (hw:kd (ni.ct++(nG.ct++[])) ds) _=> ?_
 obtain⟨t,ds,rfl,h_t,hw⟩:=ni.nw (r:=_) hw
 obtain⟨f,ds,rfl,_,hw⟩:=nG.nw (r:=_) hw
 obtain rfl:=nk hw
 obtain⟨N,hN⟩:=nvD Vm.kf nim t f h_t
 exact⟨N,eL (fun l_=>YR Vm.kf nim l_ t f) (funext fun x=>funext fun oy=>funext fun yC=>funext fun Tg=>funext fun wU=>funext fun U3=>funext fun U4=>nL1 (LW Tryz.prog [] nik N Tryz.f303 Ss [true,false,true,false] []) (fun oD=>ntt x oy oD t.nC yC Tg wU U3 U4) _ N) hN⟩
def QR:Sum:= {ps:=[⟨ni.ct,true⟩,⟨nG.ct,true⟩],rs:=[⟨[.ef .i],false⟩],fn:=fun ds=>(nxV (ni.nc ds 0) (nG.nc ds 1),[.int (UO (ni.nc ds 0) (nG.nc ds 1))])}
def ngx:Ctx:=[(361,vS)]
theorem nuR:bN Tryz.prog ngx:=Ih nr3 JD
def ngw:List (Nat×lE):=[(2, {cl:=[(2,.mP),(3,.mP),(5,.mP)],boxes:=[(128,[]),(192,[])]})]
def ngy:Int→kM:=(fun r0=>((true,[.int r0]):kM))
def nsk (k:Int) (uZ:Rows) (yC Tg wU U3 U4:Int):St:= {n:=41,sl:=[(2,.ptr 128 0),(3,.ptr 192 0),(5,.int .i64 k)],hp:=[(128,.box 68 [.sl [.i,.i,.i,.i,.i,.i,.i] uZ]),(192,.box 234 [.int .i64 yC,.int .i64 Tg,.int .i64 wU,.int .i64 U3,.int .i64 U4])],ok:=true,ls:=[],lm:=[]}
theorem ngA:D_ Tryz.prog 291 QR:=by
 refine qC (A:=ngw) nuR Tryz.func291 fun ds (hw:kd (ni.ct++(nG.ct++[])) ds) aP=> ?_
 obtain⟨t,ds,rfl,_,hw⟩:=ni.nw (r:=_) hw
 obtain⟨f,ds,rfl,_,hw⟩:=nG.nw (r:=_) hw
 obtain rfl:=nk hw
 obtain⟨N,hN⟩:=nuQ Vm.kf ngy t f aP
 exact⟨N,eL (fun l_=>WZ Vm.kf ngy l_ t f) (funext fun uZ=>funext fun yC=>funext fun Tg=>funext fun wU=>funext fun U3=>funext fun U4=>nL1 (LW Tryz.prog ngx ngw N Tryz.f291 QR [true,false,true,false] []) (fun k=>nsk k uZ yC Tg wU U3 U4) _ N) hN⟩
def nbC:Sum:= {ps:=[⟨nG.ct,true⟩],rs:=[⟨[.own 3 [.i]],false⟩],fn:=fun ds=>(true,[.sl (Tc (nG.nc ds 0))])}
def nlm:Ctx:=[(398,vS)]
theorem nxd:bN Tryz.prog nlm:=Ih nqa JD
def nll:List (Nat×lE):=[(3, {cl:=[(1,.mP),(3,.mP),(4,.mP)],boxes:=[(64,[])]})]
def nln:Rows→kM:=(fun r0=>((true,[.sl r0]):kM))
def nvE (i yC Tg wU U3 U4:Int) (oc:Rows):St:= {n:=19,sl:=[(1,.ptr 64 0),(3,.own 640192),(4,.int .i64 i)],hp:=[(64,.box 234 [.int .i64 yC,.int .i64 Tg,.int .i64 wU,.int .i64 U3,.int .i64 U4]),(640192,.row 3 [.i] oc false true)],ok:=true,ls:=[],lm:=[]}
theorem nxc:D_ Tryz.prog 330 nbC:=by
 refine qC (A:=nll) nxd Tryz.func330 fun ds (hw:kd (nG.ct++[]) ds) _=> ?_
 obtain⟨f,ds,rfl,_,hw⟩:=nG.nw (r:=_) hw
 obtain rfl:=nk hw
 obtain⟨N,hN⟩:=nxb Vm.kf nln f
 exact⟨N,eL (fun l_=>nbD Vm.kf nln l_ f) (funext fun yC=>funext fun Tg=>funext fun wU=>funext fun U3=>funext fun U4=>Te (LW Tryz.prog nlm nll N Tryz.f330 nbC [true,true,false,true,false] []) (fun i oc=>nvE i yC Tg wU U3 U4 oc) _ N) hN⟩
def sA:Sum:= {ps:=[⟨ni.ct,true⟩],rs:=[⟨[.ef .bool],false⟩],fn:=fun ds=>(true,[.bool (tS (ni.nc ds 0))])}
def zu:Ctx:=[(55,nH),(303,Ss),(330,nbC)]
theorem ntc:bN Tryz.prog zu:=Ih oB (Ih nio (Ih nxc JD))
def zt:List (Nat×lE):=[(4, {cl:=[(1,.mP),(12,.mP),(13,.mP),(14,.mP)],boxes:=[(64,[])]}),(14, {cl:=[(1,.mP),(3,.mP),(12,.mP),(13,.mP),(14,.mP),(49,.mP),(50,.mP),(51,.mP)],boxes:=[(64,[]),(256,[])]})]
def tu:Bool→kM:=(fun r0=>((true,[.bool r0]):kM))
def uD (x:Rows) (oy oD:Int) (uZ:Rows):St:= {n:=67,sl:=[(1,.ptr 64 0),(12,.sl [.i,.i,.i,.i,.i,.i,.i] x),(13,.int .i64 oy),(14,.int .i64 oD)],hp:=[(64,.box 68 [.sl [.i,.i,.i,.i,.i,.i,.i] uZ])],ok:=true,ls:=[],lm:=[]}
def OB (oD:Int) (x:Rows) (oy Xc x_6 x_7:Int) (uZ:Rows) (s uc sU Y_ Za s_5 s_6:Int) (x_8:Rows):St:= {n:=67,sl:=[(1,.ptr 64 0),(3,.int .i64 oD),(12,.sl [.i,.i,.i,.i,.i,.i,.i] x),(13,.int .i64 oy),(14,.int .i64 Xc),(49,.own 643136),(50,.int .i64 x_6),(51,.int .i64 x_7)],hp:=[(64,.box 68 [.sl [.i,.i,.i,.i,.i,.i,.i] uZ]),(256,.box 264 [.int .i64 s,.int .i64 uc,.int .i64 sU,.int .i64 Y_,.int .i64 Za,.int .i64 s_5,.int .i64 s_6]),(643136,.row 3 [.i] x_8 false true)],ok:=true,ls:=[],lm:=[]}
noncomputable def OA (N:Nat) (o0:St→kM):(St→kM)→St→kM:=LW Tryz.prog zu zt N Tryz.f240 sA [true,true,false,true,false,false,true,true,false,false,true,true,true,true,true,false] [o0]
noncomputable def vV (N:Nat):(St→kM)→St→kM:=LW Tryz.prog zu zt N Tryz.f240 sA [true,true,false,true,false] []
theorem nqr (N:Nat) (o0:St→kM) (oD:Int) (x:Rows) (oy Xc x_6:Int) (uZ:Rows) (s uc sU Y_ Za s_5 s_6:Int) (x_8:Rows) (ih:St→kM) (x_7:Int):OA N o0 ih (OB oD x oy Xc x_6 x_7 uZ s uc sU Y_ Za s_5 s_6 x_8)=ym Vm.kf tu (fun oD=>o0 (uD x oy oD uZ)) oD Xc x_6 uZ x_8 (fun x_7=>ih (OB oD x oy Xc x_6 x_7 uZ s uc sU Y_ Za s_5 s_6 x_8)) x_7:=by kernel_rfl
theorem nqt (N:Nat) (o0:St→kM) (oD:Int) (x:Rows) (oy Xc x_6:Int) (uZ:Rows) (s uc sU Y_ Za s_5 s_6:Int) (x_8:Rows) (m_:Nat):(fun x_7=>LX (OA N o0) m_ (OB oD x oy Xc x_6 x_7 uZ s uc sU Y_ Za s_5 s_6 x_8))=uC Vm.kf tu N (fun oD=>o0 (uD x oy oD uZ)) oD Xc x_6 uZ x_8 m_:=by
 induction m_ with
 | zero=>rfl
 | succ m_ ih=>
  funext x_7
  refine (nqr N o0 oD x oy Xc x_6 uZ s uc sU Y_ Za s_5 s_6 x_8 (LX (OA N o0) m_) x_7).trans ?_
  rw[ih]
  rfl
theorem nqq (N:Nat) (x:Rows) (oy:Int) (uZ:Rows) (ih:St→kM) (oD:Int):vV N ih (uD x oy oD uZ)=yl Vm.kf tu (fun oD Xc x_6 x_8 x_7=>LX (OA N ih) N (OB oD x oy Xc x_6 x_7 uZ (rI (nth x (Int.toNat oD)) 0) (rI (nth x (Int.toNat oD)) 1) (rI (nth x (Int.toNat oD)) 2) (rI (nth x (Int.toNat oD)) 3) (rI (nth x (Int.toNat oD)) 4) (rI (nth x (Int.toNat oD)) 5) (rI (nth x (Int.toNat oD)) 6) x_8)) x oy uZ (fun oD=>ih (uD x oy oD uZ)) oD:=by kernel_rfl
theorem nqs (N:Nat) (x:Rows) (oy:Int) (uZ:Rows) (m_:Nat):(fun oD=>LX (vV N) m_ (uD x oy oD uZ))=tJ Vm.kf tu N x oy uZ m_:=by
 induction m_ with
 | zero=>rfl
 | succ m_ ih=>
  funext oD
  refine (nqq N x oy uZ (LX (vV N) m_) oD).trans ?_
  have e1:=funext fun oD=>funext fun Xc=>funext fun x_6=>funext fun x_8=>nqt N (LX (vV N) m_) oD x oy Xc x_6 uZ (rI (nth x (Int.toNat oD)) 0) (rI (nth x (Int.toNat oD)) 1) (rI (nth x (Int.toNat oD)) 2) (rI (nth x (Int.toNat oD)) 3) (rI (nth x (Int.toNat oD)) 4) (rI (nth x (Int.toNat oD)) 5) (rI (nth x (Int.toNat oD)) 6) x_8 N
  rw[e1]
  rw[ih]
  rfl
theorem ntb (N:Nat) (t:ni):HW Tryz.prog zu zt N Tryz.f240 sA (t.enc++([]))=Qi Vm.kf tu N t:=by
 have nxl:HW Tryz.prog zu zt N Tryz.f240 sA (t.enc++([]))=Qj Vm.kf tu (fun x oy uZ oD=>LX (vV N) N (uD x oy oD uZ)) t:=by kernel_rfl
 refine nxl.trans ?_
 unfold Qi
 have e0:(fun x oy uZ oD=>LX (vV N) N (uD x oy oD uZ))=(fun x oy uZ=>tJ Vm.kf tu N x oy uZ N):=by
  funext x oy uZ
  exact nqs N x oy uZ N
 exact congrArg (fun l_=>Qj Vm.kf tu l_ t) e0
theorem ne0:D_ Tryz.prog 240 sA:=by
 refine qC (A:=zt) ntc Tryz.func240 fun ds (hw:kd (ni.ct++[]) ds) _=> ?_
 obtain⟨t,ds,rfl,h_t,hw⟩:=ni.nw (r:=_) hw
 obtain rfl:=nk hw
 obtain⟨N,hN⟩:=nta Vm.kf tu t h_t
 exact⟨N,((ntb N t).trans hN).trans (by kernel_rfl)⟩
def ngm:Ctx:=[(37,nH),(291,QR)]
theorem nuJ:bN Tryz.prog ngm:=Ih oT (Ih ngA JD)
def ngl:List (Nat×lE):=[(4, {cl:=[(1,.mP),(3,.mP)],boxes:=[(64,[])]})]
def ngn:Bool→kM:=(fun r0=>((true,[.bool r0]):kM))
def nsi (k:Int) (uZ:Rows):St:= {n:=49,sl:=[(1,.ptr 64 0),(3,.int .i64 k)],hp:=[(64,.box 68 [.sl [.i,.i,.i,.i,.i,.i,.i] uZ])],ok:=true,ls:=[],lm:=[]}
theorem ngp:D_ Tryz.prog 252 sA:=by
 refine qC (A:=ngl) nuJ Tryz.func252 fun ds (hw:kd (ni.ct++[]) ds) _=> ?_
 obtain⟨t,ds,rfl,h_t,hw⟩:=ni.nw (r:=_) hw
 obtain rfl:=nk hw
 obtain⟨N,hN⟩:=nuI Vm.kf ngn t h_t
 exact⟨N,eL (fun l_=>WS Vm.kf ngn l_ t) (funext fun uZ=>nL1 (LW Tryz.prog ngm ngl N Tryz.f252 sA [true,true,false,true,false] []) (fun k=>nsi k uZ) _ N) hN⟩
def tI:Sum:= {ps:=[⟨nB.ct,true⟩,⟨[.i],false⟩],rs:=[⟨[.ef .bool],false⟩],fn:=fun ds=>(true,[.bool (uK (nB.nc ds 0) (rI ds 2))])}
def nct:Ctx:=[(55,nH),(331,z_)]
theorem nqm:bN Tryz.prog nct:=Ih oB (Ih nnx JD)
def ncs:List (Nat×lE):=[(4, {cl:=[(1,.mP),(24,.mP),(25,.mP),(26,.mP)],boxes:=[(128,[])]})]
def ncu:Bool→kM:=(fun r0=>((true,[.bool r0]):kM))
def nnk (nn:Int) (x:Rows) (oy oD:Int) (uc:Bytes) (sU:Rows):St:= {n:=36,sl:=[(1,.int .i64 nn),(24,.sl [.i] x),(25,.int .i64 oy),(26,.int .i64 oD)],hp:=[(128,.box 69 [.str uc,.sl [.i] sU])],ok:=true,ls:=[],lm:=[]}
theorem ncw:D_ Tryz.prog 241 tI:=by
 refine qC (A:=ncs) nqm Tryz.func241 fun ds (hw:kd (nB.ct++[.i]) ds) _=> ?_
 obtain⟨s,ds,rfl,vN,hw⟩:=nB.nw (r:=_) hw
 obtain⟨nn,rfl,_⟩:=nx hw
 obtain⟨N,hN⟩:=nql Vm.kf ncu s nn vN
 exact⟨N,eL (fun l_=>Tu Vm.kf ncu l_ s nn) (funext fun x=>funext fun oy=>nL1 (LW Tryz.prog nct ncs N Tryz.f241 tI [true,true,false,true,false] []) (fun oD=>nnk nn x oy oD s.Key s.Table) _ N) hN⟩
def nd2:Ctx:=[(37,nH),(340,z_)]
theorem nse:bN Tryz.prog nd2:=Ih oT (Ih nuN JD)
def nd1:List (Nat×lE):=[(4, {cl:=[(1,.mP),(2,.mP),(5,.mP)],boxes:=[(128,[])]})]
def nd3:Bool→kM:=(fun r0=>((true,[.bool r0]):kM))
def no9 (nn k:Int) (uc:Bytes) (sU:Rows):St:= {n:=38,sl:=[(1,.int .i64 nn),(2,.ptr 128 0),(5,.int .i64 k)],hp:=[(128,.box 69 [.str uc,.sl [.i] sU])],ok:=true,ls:=[],lm:=[]}
theorem nd5:D_ Tryz.prog 253 tI:=by
 refine qC (A:=nd1) nse Tryz.func253 fun ds (hw:kd (nB.ct++[.i]) ds) _=> ?_
 obtain⟨s,ds,rfl,vN,hw⟩:=nB.nw (r:=_) hw
 obtain⟨nn,rfl,_⟩:=nx hw
 obtain⟨N,hN⟩:=nsd Vm.kf nd3 s nn vN
 exact⟨N,eL (fun l_=>TW Vm.kf nd3 l_ s nn) (funext fun sU=>nL1 (LW Tryz.prog nd2 nd1 N Tryz.f253 tI [true,true,false,true,false] []) (fun k=>no9 nn k s.Key sU) _ N) hN⟩
def pW:Sum:= {ps:=[⟨nm.ct,true⟩,⟨[.i],false⟩],rs:=[⟨[.ef .bool],false⟩],fn:=fun ds=>(true,[.bool (qZ (nm.nc ds 0) (rI ds 4))])}
def wm:Ctx:=[(239,uh),(240,sA),(241,tI)]
theorem nla:bN Tryz.prog wm:=Ih neY (Ih ne0 (Ih ncw JD))
def wk:List (Nat×lE):=[(4, {cl:=[(1,.mP),(2,.mP),(27,.mP),(28,.mP),(29,.mP)],boxes:=[(128,[])]}),(10, {cl:=[(1,.mP),(45,.mP),(46,.mP),(47,.mP)],boxes:=[(128,[])]})]
def sd:Bool→kM:=(fun r0=>((true,[.bool r0]):kM))
def vq (nn:Int) (x:Rows) (oy oD:Int) (uc sU:Rows) (Y_:Bytes) (Za:Rows):St:= {n:=61,sl:=[(1,.int .i64 nn),(2,.ptr 128 0),(27,.sl [.i,.i,.i,.i,.i,.i,.i,.i,.i] x),(28,.int .i64 oy),(29,.int .i64 oD)],hp:=[(128,.box 71 [.sl [.i,.i,.i,.i,.i,.i,.i,.i,.i] uc,.sl [.i,.i,.i,.i,.i,.i,.i] sU,.str Y_,.sl [.i] Za])],ok:=true,ls:=[],lm:=[]}
def xS (nn:Int) (sU:Rows) (Td Xc:Int) (uc s_6:Rows) (Y_:Bytes) (Za:Rows):St:= {n:=61,sl:=[(1,.int .i64 nn),(45,.sl [.i,.i,.i,.i,.i,.i,.i] sU),(46,.int .i64 Td),(47,.int .i64 Xc)],hp:=[(128,.box 71 [.sl [.i,.i,.i,.i,.i,.i,.i,.i,.i] uc,.sl [.i,.i,.i,.i,.i,.i,.i] s_6,.str Y_,.sl [.i] Za])],ok:=true,ls:=[],lm:=[]}
noncomputable def xR (N:Nat):(St→kM)→St→kM:=LW Tryz.prog wm wk N Tryz.f120 pW [true,true,true,false,true,false] []
noncomputable def vn (N:Nat):(St→kM)→St→kM:=LW Tryz.prog wm wk N Tryz.f120 pW [true,true,false,true,false] []
theorem nju (N:Nat) (nn:Int) (sU:Rows) (Td:Int) (uc s_6:Rows) (Y_:Bytes) (Za:Rows) (ih:St→kM) (Xc:Int):xR N ih (xS nn sU Td Xc uc s_6 Y_ Za)=vp Vm.kf sd nn sU Td (fun Xc=>ih (xS nn sU Td Xc uc s_6 Y_ Za)) Xc:=by kernel_rfl
theorem njw (N:Nat) (nn:Int) (sU:Rows) (Td:Int) (uc s_6:Rows) (Y_:Bytes) (Za:Rows) (m_:Nat):(fun Xc=>LX (xR N) m_ (xS nn sU Td Xc uc s_6 Y_ Za))=sY Vm.kf sd N nn sU Td m_:=by
 induction m_ with
 | zero=>rfl
 | succ m_ ih=>
  funext Xc
  refine (nju N nn sU Td uc s_6 Y_ Za (LX (xR N) m_) Xc).trans ?_
  rw[ih]
  rfl
theorem njt (N:Nat) (nn:Int) (x:Rows) (oy:Int) (uc sU:Rows) (Y_:Bytes) (Za:Rows) (ih:St→kM) (oD:Int):vn N ih (vq nn x oy oD uc sU Y_ Za)=vo Vm.kf sd (fun Td Xc=>LX (xR N) N (xS nn sU Td Xc uc sU Y_ Za)) nn x oy sU (fun oD=>ih (vq nn x oy oD uc sU Y_ Za)) oD:=by kernel_rfl
theorem njv (N:Nat) (nn:Int) (x:Rows) (oy:Int) (uc sU:Rows) (Y_:Bytes) (Za:Rows) (m_:Nat):(fun oD=>LX (vn N) m_ (vq nn x oy oD uc sU Y_ Za))=sX Vm.kf sd N nn x oy sU m_:=by
 induction m_ with
 | zero=>rfl
 | succ m_ ih=>
  funext oD
  refine (njt N nn x oy uc sU Y_ Za (LX (vn N) m_) oD).trans ?_
  have e1:=funext fun Td=>njw N nn sU Td uc sU Y_ Za N
  rw[e1]
  rw[ih]
  rfl
theorem nk_ (N:Nat) (s:nm) (nn:Int):HW Tryz.prog wm wk N Tryz.f120 pW (s.enc++(.int nn::([])))=yJ Vm.kf sd N s nn:=by
 have nxl:HW Tryz.prog wm wk N Tryz.f120 pW (s.enc++(.int nn::([])))=yK Vm.kf sd (fun x oy sU oD=>LX (vn N) N (vq nn x oy oD s.ot sU s.nX.Key s.nX.Table)) s nn:=by kernel_rfl
 refine nxl.trans ?_
 unfold yJ
 have e0:(fun x oy sU oD=>LX (vn N) N (vq nn x oy oD s.ot sU s.nX.Key s.nX.Table))=(fun x oy sU=>sX Vm.kf sd N nn x oy sU N):=by
  funext x oy sU
  exact njv N nn x oy s.ot sU s.nX.Key s.nX.Table N
 exact congrArg (fun l_=>yK Vm.kf sd l_ s nn) e0
theorem XA:D_ Tryz.prog 120 pW:=by
 refine qC (A:=wk) nla Tryz.func120 fun ds (hw:kd (nm.ct++[.i]) ds) _=> ?_
 obtain⟨s,ds,rfl,vN,hw⟩:=nm.nw (r:=_) hw
 obtain⟨nn,rfl,_⟩:=nx hw
 obtain⟨N,hN⟩:=nk9 Vm.kf sd s nn vN
 exact⟨N,((nk_ N s nn).trans hN).trans (by kernel_rfl)⟩
def wH:Ctx:=[(251,uh),(252,sA),(253,tI)]
theorem nmO:bN Tryz.prog wH:=Ih ngi (Ih ngp (Ih nd5 JD))
def wG:List (Nat×lE):=[(4, {cl:=[(1,.mP),(2,.mP),(5,.mP)],boxes:=[(128,[])]}),(9, {cl:=[(1,.mP),(2,.mP),(6,.mP)],boxes:=[(128,[])]})]
def sg:Bool→kM:=(fun r0=>((true,[.bool r0]):kM))
def vF (nn k:Int) (uc sU:Rows) (Y_:Bytes) (Za:Rows):St:= {n:=56,sl:=[(1,.int .i64 nn),(2,.ptr 128 0),(5,.int .i64 k)],hp:=[(128,.box 71 [.sl [.i,.i,.i,.i,.i,.i,.i,.i,.i] uc,.sl [.i,.i,.i,.i,.i,.i,.i] sU,.str Y_,.sl [.i] Za])],ok:=true,ls:=[],lm:=[]}
def yg (nn rV:Int) (uc sU:Rows) (Y_:Bytes) (Za:Rows):St:= {n:=56,sl:=[(1,.int .i64 nn),(2,.ptr 128 0),(6,.int .i64 rV)],hp:=[(128,.box 71 [.sl [.i,.i,.i,.i,.i,.i,.i,.i,.i] uc,.sl [.i,.i,.i,.i,.i,.i,.i] sU,.str Y_,.sl [.i] Za])],ok:=true,ls:=[],lm:=[]}
noncomputable def yf (N:Nat):(St→kM)→St→kM:=LW Tryz.prog wH wG N Tryz.f138 pW [true,true,true,false,true,false] []
noncomputable def vC (N:Nat):(St→kM)→St→kM:=LW Tryz.prog wH wG N Tryz.f138 pW [true,true,false,true,false] []
theorem nkB (N:Nat) (nn:Int) (uc sU:Rows) (Y_:Bytes) (Za:Rows) (ih:St→kM) (rV:Int):yf N ih (yg nn rV uc sU Y_ Za)=vE Vm.kf sg nn sU (fun rV=>ih (yg nn rV uc sU Y_ Za)) rV:=by kernel_rfl
theorem nkD (N:Nat) (nn:Int) (uc sU:Rows) (Y_:Bytes) (Za:Rows) (m_:Nat):(fun rV=>LX (yf N) m_ (yg nn rV uc sU Y_ Za))=s_ Vm.kf sg N nn sU m_:=by
 induction m_ with
 | zero=>rfl
 | succ m_ ih=>
  funext rV
  refine (nkB N nn uc sU Y_ Za (LX (yf N) m_) rV).trans ?_
  rw[ih]
  rfl
theorem nkA (N:Nat) (nn:Int) (uc sU:Rows) (Y_:Bytes) (Za:Rows) (ih:St→kM) (k:Int):vC N ih (vF nn k uc sU Y_ Za)=vD Vm.kf sg (fun rV=>LX (yf N) N (yg nn rV uc sU Y_ Za)) nn uc sU (fun k=>ih (vF nn k uc sU Y_ Za)) k:=by kernel_rfl
theorem nkC (N:Nat) (nn:Int) (uc sU:Rows) (Y_:Bytes) (Za:Rows) (m_:Nat):(fun k=>LX (vC N) m_ (vF nn k uc sU Y_ Za))=sZ Vm.kf sg N nn uc sU m_:=by
 induction m_ with
 | zero=>rfl
 | succ m_ ih=>
  funext k
  refine (nkA N nn uc sU Y_ Za (LX (vC N) m_) k).trans ?_
  have e1:=nkD N nn uc sU Y_ Za N
  rw[e1]
  rw[ih]
  rfl
theorem nmN (N:Nat) (s:nm) (nn:Int):HW Tryz.prog wH wG N Tryz.f138 pW (s.enc++(.int nn::([])))=zb Vm.kf sg N s nn:=by
 have nxl:HW Tryz.prog wH wG N Tryz.f138 pW (s.enc++(.int nn::([])))=zd Vm.kf sg (fun uc sU k=>LX (vC N) N (vF nn k uc sU s.nX.Key s.nX.Table)) s nn:=by kernel_rfl
 refine nxl.trans ?_
 unfold zb
 have e0:(fun uc sU k=>LX (vC N) N (vF nn k uc sU s.nX.Key s.nX.Table))=(fun uc sU=>sZ Vm.kf sg N nn uc sU N):=by
  funext uc sU
  exact nkC N nn uc sU s.nX.Key s.nX.Table N
 exact congrArg (fun l_=>zd Vm.kf sg l_ s nn) e0
theorem Yv:D_ Tryz.prog 138 pW:=by
 refine qC (A:=wG) nmO Tryz.func138 fun ds (hw:kd (nm.ct++[.i]) ds) _=> ?_
 obtain⟨s,ds,rfl,vN,hw⟩:=nm.nw (r:=_) hw
 obtain⟨nn,rfl,_⟩:=nx hw
 obtain⟨N,hN⟩:=nmM Vm.kf sg s nn vN
 exact⟨N,((nmN N s nn).trans hN).trans (by kernel_rfl)⟩
def sE:Sum:= {ps:=[⟨ny.ct,true⟩],rs:=[⟨[.ef .bool],false⟩],fn:=fun ds=>(njb (ny.nc ds 0),[.bool (Tf (ny.nc ds 0))])}
def NZ:Ctx:=[(55,nH),(113,sF),(114,sb),(115,Py),(116,tE),(117,wj),(118,tg),(119,vW),(120,pW)]
theorem nvp:bN Tryz.prog NZ:=Ih oB (Ih Tp (Ih Xt (Ih nxQ (Ih nb3 (Ih Xz (Ih YJ (Ih ncC (Ih XA JD))))))))
def NY:List (Nat×lE):=[(5, {cl:=[(1,.mP),(3,.mP),(61,.mP),(62,.mP)],boxes:=[(64,[])]}),(12, {cl:=[(1,.mP),(3,.mP),(103,.mP),(104,.mP),(105,.mP)],boxes:=[(64,[]),(320,[])]})]
def t7:Bool→kM:=(fun r0=>((true,[.bool r0]):kM))
def zs (n x oy:Int) (h_1 h_2:Rows) (h_3 h_4 h_5 h_6 h_7 h_8 h_9:Int) (xE xF:Rows) (xG:Int) (ry qz pe ra:Rows) (rn:Int) (rp:Bool) (rb pM pN:Rows) (pR:Bytes) (pO re:Rows) (xH:Bool) (rh ri rj:Rows) (rE rF rG rH rJ:Int):St:= {n:=117,sl:=[(1,.ptr 64 0),(3,.int .i64 n),(61,.int .i64 x),(62,.int .i64 oy)],hp:=[(64,.box 75 [.sl [.str] h_1,.sl [.i,.i,.i,.bool] h_2,.int .i64 h_3,.int .i64 h_4,.int .i64 h_5,.int .i64 h_6,.int .i64 h_7,.int .i64 h_8,.int .i64 h_9,.sl [.i] xE,.sl [.i,.i,.sl [.i]] xF,.int .i64 xG,.sl [.i,.i,.i,.i,.i,.i,.i,.i,.i,.i,.i,.i,.i,.i,.i,.i,.i,.i,.i,.i,.i,.i,.i,.i,.i,.str,.i,.i,.bool,.i] ry,.sl [.i,.i,.i,.sl [.i]] qz,.sl [.i,.i,.i,.i,.bool,.bool] pe,.sl [.bool] ra,.int .i64 rn,.bool rp,.sl [.i] rb,.sl [.i,.i,.i,.i,.i,.i,.i,.i,.i] pM,.sl [.i,.i,.i,.i,.i,.i,.i] pN,.str pR,.sl [.i] pO,.sl [.i,.i,.i,.i,.i,.i,.str,.bool] re,.bool xH,.sl [.str] rh,.sl [.i] ri,.sl [.i] rj,.int .i64 rE,.int .i64 rF,.int .i64 rG,.int .i64 rH,.int .i64 rJ])],ok:=true,ls:=[],lm:=[]}
def Qa (n oD x_3:Int) (h_1 h_2:Rows) (h_3 h_4 h_5 h_6 h_7 h_8 h_9:Int) (xE xF:Rows) (xG:Int) (ry qz pe ra:Rows) (rn:Int) (rp:Bool) (rb pM pN:Rows) (pR:Bytes) (pO re:Rows) (xH:Bool) (rh ri rj:Rows) (rE rF rG rH rJ c UK c_2 c_3 c_4:Int) (Td:Rows):St:= {n:=117,sl:=[(1,.ptr 64 0),(3,.int .i64 n),(103,.own 646592),(104,.int .i64 oD),(105,.int .i64 x_3)],hp:=[(64,.box 75 [.sl [.str] h_1,.sl [.i,.i,.i,.bool] h_2,.int .i64 h_3,.int .i64 h_4,.int .i64 h_5,.int .i64 h_6,.int .i64 h_7,.int .i64 h_8,.int .i64 h_9,.sl [.i] xE,.sl [.i,.i,.sl [.i]] xF,.int .i64 xG,.sl [.i,.i,.i,.i,.i,.i,.i,.i,.i,.i,.i,.i,.i,.i,.i,.i,.i,.i,.i,.i,.i,.i,.i,.i,.i,.str,.i,.i,.bool,.i] ry,.sl [.i,.i,.i,.sl [.i]] qz,.sl [.i,.i,.i,.i,.bool,.bool] pe,.sl [.bool] ra,.int .i64 rn,.bool rp,.sl [.i] rb,.sl [.i,.i,.i,.i,.i,.i,.i,.i,.i] pM,.sl [.i,.i,.i,.i,.i,.i,.i] pN,.str pR,.sl [.i] pO,.sl [.i,.i,.i,.i,.i,.i,.str,.bool] re,.bool xH,.sl [.str] rh,.sl [.i] ri,.sl [.i] rj,.int .i64 rE,.int .i64 rF,.int .i64 rG,.int .i64 rH,.int .i64 rJ]),(320,.box 73 [.int .i64 c,.int .i64 UK,.int .i64 c_2,.int .i64 c_3,.int .i64 c_4]),(646592,.row 3 [.i] Td false true)],ok:=true,ls:=[],lm:=[]}
noncomputable def PZ (N:Nat):(St→kM)→St→kM:=LW Tryz.prog NZ NY N Tryz.f20 sE [true,true,true,true,true,false,true,false] []
noncomputable def zq (N:Nat):(St→kM)→St→kM:=LW Tryz.prog NZ NY N Tryz.f20 sE [true,true,true,false,true,false] []
theorem ns1 (N:Nat) (n oD:Int) (h_1 h_2:Rows) (h_3 h_4 h_5 h_6 h_7 h_8 h_9:Int) (xE xF:Rows) (xG:Int) (ry qz pe ra:Rows) (rn:Int) (rp:Bool) (rb pM pN:Rows) (pR:Bytes) (pO re:Rows) (xH:Bool) (rh ri rj:Rows) (rE rF rG rH rJ c UK c_2 c_3 c_4:Int) (Td:Rows) (ih:St→kM) (x_3:Int):PZ N ih (Qa n oD x_3 h_1 h_2 h_3 h_4 h_5 h_6 h_7 h_8 h_9 xE xF xG ry qz pe ra rn rp rb pM pN pR pO re xH rh ri rj rE rF rG rH rJ c UK c_2 c_3 c_4 Td)=P_ Vm.kf t7 n oD pM pN pR pO Td (fun x_3=>ih (Qa n oD x_3 h_1 h_2 h_3 h_4 h_5 h_6 h_7 h_8 h_9 xE xF xG ry qz pe ra rn rp rb pM pN pR pO re xH rh ri rj rE rF rG rH rJ c UK c_2 c_3 c_4 Td)) x_3:=by kernel_rfl
theorem ns3 (N:Nat) (n oD:Int) (h_1 h_2:Rows) (h_3 h_4 h_5 h_6 h_7 h_8 h_9:Int) (xE xF:Rows) (xG:Int) (ry qz pe ra:Rows) (rn:Int) (rp:Bool) (rb pM pN:Rows) (pR:Bytes) (pO re:Rows) (xH:Bool) (rh ri rj:Rows) (rE rF rG rH rJ c UK c_2 c_3 c_4:Int) (Td:Rows) (m_:Nat):(fun x_3=>LX (PZ N) m_ (Qa n oD x_3 h_1 h_2 h_3 h_4 h_5 h_6 h_7 h_8 h_9 xE xF xG ry qz pe ra rn rp rb pM pN pR pO re xH rh ri rj rE rF rG rH rJ c UK c_2 c_3 c_4 Td))=vl Vm.kf t7 N n oD pM pN pR pO Td m_:=by
 induction m_ with
 | zero=>rfl
 | succ m_ ih=>
  funext x_3
  refine (ns1 N n oD h_1 h_2 h_3 h_4 h_5 h_6 h_7 h_8 h_9 xE xF xG ry qz pe ra rn rp rb pM pN pR pO re xH rh ri rj rE rF rG rH rJ c UK c_2 c_3 c_4 Td (LX (PZ N) m_) x_3).trans ?_
  rw[ih]
  rfl
theorem ns0 (N:Nat) (n x:Int) (h_1 h_2:Rows) (h_3 h_4 h_5 h_6 h_7 h_8 h_9:Int) (xE xF:Rows) (xG:Int) (ry qz pe ra:Rows) (rn:Int) (rp:Bool) (rb pM pN:Rows) (pR:Bytes) (pO re:Rows) (xH:Bool) (rh ri rj:Rows) (rE rF rG rH rJ:Int) (ih:St→kM) (oy:Int):zq N ih (zs n x oy h_1 h_2 h_3 h_4 h_5 h_6 h_7 h_8 h_9 xE xF xG ry qz pe ra rn rp rb pM pN pR pO re xH rh ri rj rE rF rG rH rJ)=zr Vm.kf t7 (fun oD Td x_3=>LX (PZ N) N (Qa n oD x_3 h_1 h_2 h_3 h_4 h_5 h_6 h_7 h_8 h_9 xE xF xG ry qz pe ra rn rp rb pM pN pR pO re xH rh ri rj rE rF rG rH rJ rE rF rG rH rJ Td)) n x ry qz pe pM pN pR pO rE rF rG rH rJ (fun oy=>ih (zs n x oy h_1 h_2 h_3 h_4 h_5 h_6 h_7 h_8 h_9 xE xF xG ry qz pe ra rn rp rb pM pN pR pO re xH rh ri rj rE rF rG rH rJ)) oy:=by kernel_rfl
theorem ns2 (N:Nat) (n x:Int) (h_1 h_2:Rows) (h_3 h_4 h_5 h_6 h_7 h_8 h_9:Int) (xE xF:Rows) (xG:Int) (ry qz pe ra:Rows) (rn:Int) (rp:Bool) (rb pM pN:Rows) (pR:Bytes) (pO re:Rows) (xH:Bool) (rh ri rj:Rows) (rE rF rG rH rJ:Int) (m_:Nat):(fun oy=>LX (zq N) m_ (zs n x oy h_1 h_2 h_3 h_4 h_5 h_6 h_7 h_8 h_9 xE xF xG ry qz pe ra rn rp rb pM pN pR pO re xH rh ri rj rE rF rG rH rJ))=tr Vm.kf t7 N n x ry qz pe pM pN pR pO rE rF rG rH rJ m_:=by
 induction m_ with
 | zero=>rfl
 | succ m_ ih=>
  funext oy
  refine (ns0 N n x h_1 h_2 h_3 h_4 h_5 h_6 h_7 h_8 h_9 xE xF xG ry qz pe ra rn rp rb pM pN pR pO re xH rh ri rj rE rF rG rH rJ (LX (zq N) m_) oy).trans ?_
  have e1:=funext fun oD=>funext fun Td=>ns3 N n oD h_1 h_2 h_3 h_4 h_5 h_6 h_7 h_8 h_9 xE xF xG ry qz pe ra rn rp rb pM pN pR pO re xH rh ri rj rE rF rG rH rJ rE rF rG rH rJ Td N
  rw[e1]
  rw[ih]
  rfl
theorem nvo (N:Nat) (h:ny):HW Tryz.prog NZ NY N Tryz.f20 sE (h.enc++([]))=Sk Vm.kf t7 N h:=by
 have nxl:HW Tryz.prog NZ NY N Tryz.f20 sE (h.enc++([]))=Sl Vm.kf t7 (fun n x ry qz pe pM pN pR pO rE rF rG rH rJ oy=>LX (zq N) N (zs n x oy h.ox.nP h.Maps h.Tx.Ring.qk h.Tx.Ring.nO h.Tx.Ring.Head h.Tx.Ring.wI h.Tx.oq.qk h.Tx.oq.nO h.Tx.oq.Count h.Tx.oq.qs h.Tx.nK h.Tx.Next ry qz pe h.oQ h.Filter.Mac h.Filter.pI h.Filter.pV pM pN pR pO h.pJ h.qe h.vM h.oF h.oY rE rF rG rH rJ)) h:=by kernel_rfl
 refine nxl.trans ?_
 unfold Sk
 have e0:(fun n x ry qz pe pM pN pR pO rE rF rG rH rJ oy=>LX (zq N) N (zs n x oy h.ox.nP h.Maps h.Tx.Ring.qk h.Tx.Ring.nO h.Tx.Ring.Head h.Tx.Ring.wI h.Tx.oq.qk h.Tx.oq.nO h.Tx.oq.Count h.Tx.oq.qs h.Tx.nK h.Tx.Next ry qz pe h.oQ h.Filter.Mac h.Filter.pI h.Filter.pV pM pN pR pO h.pJ h.qe h.vM h.oF h.oY rE rF rG rH rJ))=(fun n x ry qz pe pM pN pR pO rE rF rG rH rJ=>tr Vm.kf t7 N n x ry qz pe pM pN pR pO rE rF rG rH rJ N):=by
  funext n x ry qz pe pM pN pR pO rE rF rG rH rJ
  exact ns2 N n x h.ox.nP h.Maps h.Tx.Ring.qk h.Tx.Ring.nO h.Tx.Ring.Head h.Tx.Ring.wI h.Tx.oq.qk h.Tx.oq.nO h.Tx.oq.Count h.Tx.oq.qs h.Tx.nK h.Tx.Next ry qz pe h.oQ h.Filter.Mac h.Filter.pI h.Filter.pV pM pN pR pO h.pJ h.qe h.vM h.oF h.oY rE rF rG rH rJ N
 exact congrArg (fun l_=>Sl Vm.kf t7 l_ h) e0
theorem nvn:D_ Tryz.prog 20 sE:=by
 refine qC (A:=NY) nvp Tryz.func20 fun ds (hw:kd (ny.ct++[]) ds) aP=> ?_
 obtain⟨h,ds,rfl,_,hw⟩:=ny.nw (r:=_) hw
 obtain rfl:=nk hw
 obtain⟨N,hN⟩:=nvm Vm.kf t7 h aP
 exact⟨N,((nvo N h).trans hN).trans (by kernel_rfl)⟩
def Og:Ctx:=[(37,nH),(134,sF),(135,sb),(136,Py),(137,tE),(138,pW),(139,wj),(140,tg),(141,vW)]
theorem nwo:bN Tryz.prog Og:=Ih oT (Ih TR (Ih Yo (Ih nx7 (Ih ndJ (Ih Yv (Ih ngj (Ih Zc (Ih nd_ JD))))))))
def Of:List (Nat×lE):=[(5, {cl:=[(1,.mP),(3,.mP),(4,.mP)],boxes:=[(64,[])]}),(11, {cl:=[(5,.mP),(6,.mP)],boxes:=[(64,[])]})]
def ub:Bool→kM:=(fun r0=>((true,[.bool r0]):kM))
def zE (n k:Int) (h_1 h_2:Rows) (h_3 h_4 h_5 h_6 h_7 h_8 h_9:Int) (xE xF:Rows) (xG:Int) (ry qz pe ra:Rows) (rn:Int) (rp:Bool) (rb pM pN:Rows) (pR:Bytes) (pO re:Rows) (xH:Bool) (rh ri rj:Rows) (rE rF rG rH rJ:Int):St:= {n:=123,sl:=[(1,.ptr 64 0),(3,.int .i64 n),(4,.int .i64 k)],hp:=[(64,.box 75 [.sl [.str] h_1,.sl [.i,.i,.i,.bool] h_2,.int .i64 h_3,.int .i64 h_4,.int .i64 h_5,.int .i64 h_6,.int .i64 h_7,.int .i64 h_8,.int .i64 h_9,.sl [.i] xE,.sl [.i,.i,.sl [.i]] xF,.int .i64 xG,.sl [.i,.i,.i,.i,.i,.i,.i,.i,.i,.i,.i,.i,.i,.i,.i,.i,.i,.i,.i,.i,.i,.i,.i,.i,.i,.str,.i,.i,.bool,.i] ry,.sl [.i,.i,.i,.sl [.i]] qz,.sl [.i,.i,.i,.i,.bool,.bool] pe,.sl [.bool] ra,.int .i64 rn,.bool rp,.sl [.i] rb,.sl [.i,.i,.i,.i,.i,.i,.i,.i,.i] pM,.sl [.i,.i,.i,.i,.i,.i,.i] pN,.str pR,.sl [.i] pO,.sl [.i,.i,.i,.i,.i,.i,.str,.bool] re,.bool xH,.sl [.str] rh,.sl [.i] ri,.sl [.i] rj,.int .i64 rE,.int .i64 rF,.int .i64 rG,.int .i64 rH,.int .i64 rJ])],ok:=true,ls:=[],lm:=[]}
def QJ (rV:Int) (h_1 h_2:Rows) (h_3 h_4 h_5 h_6 h_7 h_8 h_9:Int) (xE xF:Rows) (xG:Int) (ry qz pe ra:Rows) (rn:Int) (rp:Bool) (rb pM pN:Rows) (pR:Bytes) (pO re:Rows) (xH:Bool) (rh ri rj:Rows) (rE rF rG rH rJ:Int) (Z:Rows):St:= {n:=123,sl:=[(5,.own 640320),(6,.int .i64 rV)],hp:=[(64,.box 75 [.sl [.str] h_1,.sl [.i,.i,.i,.bool] h_2,.int .i64 h_3,.int .i64 h_4,.int .i64 h_5,.int .i64 h_6,.int .i64 h_7,.int .i64 h_8,.int .i64 h_9,.sl [.i] xE,.sl [.i,.i,.sl [.i]] xF,.int .i64 xG,.sl [.i,.i,.i,.i,.i,.i,.i,.i,.i,.i,.i,.i,.i,.i,.i,.i,.i,.i,.i,.i,.i,.i,.i,.i,.i,.str,.i,.i,.bool,.i] ry,.sl [.i,.i,.i,.sl [.i]] qz,.sl [.i,.i,.i,.i,.bool,.bool] pe,.sl [.bool] ra,.int .i64 rn,.bool rp,.sl [.i] rb,.sl [.i,.i,.i,.i,.i,.i,.i,.i,.i] pM,.sl [.i,.i,.i,.i,.i,.i,.i] pN,.str pR,.sl [.i] pO,.sl [.i,.i,.i,.i,.i,.i,.str,.bool] re,.bool xH,.sl [.str] rh,.sl [.i] ri,.sl [.i] rj,.int .i64 rE,.int .i64 rF,.int .i64 rG,.int .i64 rH,.int .i64 rJ]),(640320,.row 3 [.i] Z false true)],ok:=true,ls:=[],lm:=[]}
noncomputable def QH (N:Nat):(St→kM)→St→kM:=LW Tryz.prog Og Of N Tryz.f36 sE [true,true,true,true,true,false,true,false] []
noncomputable def zC (N:Nat):(St→kM)→St→kM:=LW Tryz.prog Og Of N Tryz.f36 sE [true,true,true,false,true,false] []
theorem nuy (N:Nat) (h_1 h_2:Rows) (h_3 h_4 h_5 h_6 h_7 h_8 h_9:Int) (xE xF:Rows) (xG:Int) (ry qz pe ra:Rows) (rn:Int) (rp:Bool) (rb pM pN:Rows) (pR:Bytes) (pO re:Rows) (xH:Bool) (rh ri rj:Rows) (rE rF rG rH rJ:Int) (Z:Rows) (ih:St→kM) (rV:Int):QH N ih (QJ rV h_1 h_2 h_3 h_4 h_5 h_6 h_7 h_8 h_9 xE xF xG ry qz pe ra rn rp rb pM pN pR pO re xH rh ri rj rE rF rG rH rJ Z)=QI Vm.kf ub Z (fun rV=>ih (QJ rV h_1 h_2 h_3 h_4 h_5 h_6 h_7 h_8 h_9 xE xF xG ry qz pe ra rn rp rb pM pN pR pO re xH rh ri rj rE rF rG rH rJ Z)) rV:=by kernel_rfl
theorem nuA (N:Nat) (h_1 h_2:Rows) (h_3 h_4 h_5 h_6 h_7 h_8 h_9:Int) (xE xF:Rows) (xG:Int) (ry qz pe ra:Rows) (rn:Int) (rp:Bool) (rb pM pN:Rows) (pR:Bytes) (pO re:Rows) (xH:Bool) (rh ri rj:Rows) (rE rF rG rH rJ:Int) (Z:Rows) (m_:Nat):(fun rV=>LX (QH N) m_ (QJ rV h_1 h_2 h_3 h_4 h_5 h_6 h_7 h_8 h_9 xE xF xG ry qz pe ra rn rp rb pM pN pR pO re xH rh ri rj rE rF rG rH rJ Z))=vx Vm.kf ub N Z m_:=by
 induction m_ with
 | zero=>rfl
 | succ m_ ih=>
  funext rV
  refine (nuy N h_1 h_2 h_3 h_4 h_5 h_6 h_7 h_8 h_9 xE xF xG ry qz pe ra rn rp rb pM pN pR pO re xH rh ri rj rE rF rG rH rJ Z (LX (QH N) m_) rV).trans ?_
  rw[ih]
  rfl
theorem nux (N:Nat) (n:Int) (h_1 h_2:Rows) (h_3 h_4 h_5 h_6 h_7 h_8 h_9:Int) (xE xF:Rows) (xG:Int) (ry qz pe ra:Rows) (rn:Int) (rp:Bool) (rb pM pN:Rows) (pR:Bytes) (pO re:Rows) (xH:Bool) (rh ri rj:Rows) (rE rF rG rH rJ:Int) (ih:St→kM) (k:Int):zC N ih (zE n k h_1 h_2 h_3 h_4 h_5 h_6 h_7 h_8 h_9 xE xF xG ry qz pe ra rn rp rb pM pN pR pO re xH rh ri rj rE rF rG rH rJ)=zD Vm.kf ub (fun Z rV=>LX (QH N) N (QJ rV h_1 h_2 h_3 h_4 h_5 h_6 h_7 h_8 h_9 xE xF xG ry qz pe ra rn rp rb pM pN pR pO re xH rh ri rj rE rF rG rH rJ Z)) n ry qz pe rE rF rG rH rJ (fun k=>ih (zE n k h_1 h_2 h_3 h_4 h_5 h_6 h_7 h_8 h_9 xE xF xG ry qz pe ra rn rp rb pM pN pR pO re xH rh ri rj rE rF rG rH rJ)) k:=by kernel_rfl
theorem nuz (N:Nat) (n:Int) (h_1 h_2:Rows) (h_3 h_4 h_5 h_6 h_7 h_8 h_9:Int) (xE xF:Rows) (xG:Int) (ry qz pe ra:Rows) (rn:Int) (rp:Bool) (rb pM pN:Rows) (pR:Bytes) (pO re:Rows) (xH:Bool) (rh ri rj:Rows) (rE rF rG rH rJ:Int) (m_:Nat):(fun k=>LX (zC N) m_ (zE n k h_1 h_2 h_3 h_4 h_5 h_6 h_7 h_8 h_9 xE xF xG ry qz pe ra rn rp rb pM pN pR pO re xH rh ri rj rE rF rG rH rJ))=tA Vm.kf ub N n ry qz pe rE rF rG rH rJ m_:=by
 induction m_ with
 | zero=>rfl
 | succ m_ ih=>
  funext k
  refine (nux N n h_1 h_2 h_3 h_4 h_5 h_6 h_7 h_8 h_9 xE xF xG ry qz pe ra rn rp rb pM pN pR pO re xH rh ri rj rE rF rG rH rJ (LX (zC N) m_) k).trans ?_
  have e1:=funext fun Z=>nuA N h_1 h_2 h_3 h_4 h_5 h_6 h_7 h_8 h_9 xE xF xG ry qz pe ra rn rp rb pM pN pR pO re xH rh ri rj rE rF rG rH rJ Z N
  rw[e1]
  rw[ih]
  rfl
theorem nwn (N:Nat) (h:ny):HW Tryz.prog Og Of N Tryz.f36 sE (h.enc++([]))=SF Vm.kf ub N h:=by
 have nxl:HW Tryz.prog Og Of N Tryz.f36 sE (h.enc++([]))=SG Vm.kf ub (fun n ry qz pe rE rF rG rH rJ k=>LX (zC N) N (zE n k h.ox.nP h.Maps h.Tx.Ring.qk h.Tx.Ring.nO h.Tx.Ring.Head h.Tx.Ring.wI h.Tx.oq.qk h.Tx.oq.nO h.Tx.oq.Count h.Tx.oq.qs h.Tx.nK h.Tx.Next ry qz pe h.oQ h.Filter.Mac h.Filter.pI h.Filter.pV h.nv.ot h.nv.Table.nC h.nv.nX.Key h.nv.nX.Table h.pJ h.qe h.vM h.oF h.oY rE rF rG rH rJ)) h:=by kernel_rfl
 refine nxl.trans ?_
 unfold SF
 have e0:(fun n ry qz pe rE rF rG rH rJ k=>LX (zC N) N (zE n k h.ox.nP h.Maps h.Tx.Ring.qk h.Tx.Ring.nO h.Tx.Ring.Head h.Tx.Ring.wI h.Tx.oq.qk h.Tx.oq.nO h.Tx.oq.Count h.Tx.oq.qs h.Tx.nK h.Tx.Next ry qz pe h.oQ h.Filter.Mac h.Filter.pI h.Filter.pV h.nv.ot h.nv.Table.nC h.nv.nX.Key h.nv.nX.Table h.pJ h.qe h.vM h.oF h.oY rE rF rG rH rJ))=(fun n ry qz pe rE rF rG rH rJ=>tA Vm.kf ub N n ry qz pe rE rF rG rH rJ N):=by
  funext n ry qz pe rE rF rG rH rJ
  exact nuz N n h.ox.nP h.Maps h.Tx.Ring.qk h.Tx.Ring.nO h.Tx.Ring.Head h.Tx.Ring.wI h.Tx.oq.qk h.Tx.oq.nO h.Tx.oq.Count h.Tx.oq.qs h.Tx.nK h.Tx.Next ry qz pe h.oQ h.Filter.Mac h.Filter.pI h.Filter.pV h.nv.ot h.nv.Table.nC h.nv.nX.Key h.nv.nX.Table h.pJ h.qe h.vM h.oF h.oY rE rF rG rH rJ N
 exact congrArg (fun l_=>SG Vm.kf ub l_ h) e0
theorem nwm:D_ Tryz.prog 36 sE:=by
 refine qC (A:=Of) nwo Tryz.func36 fun ds (hw:kd (ny.ct++[]) ds) aP=> ?_
 obtain⟨h,ds,rfl,_,hw⟩:=ny.nw (r:=_) hw
 obtain rfl:=nk hw
 obtain⟨N,hN⟩:=nwl Vm.kf ub h aP
 exact⟨N,((nwn N h).trans hN).trans (by kernel_rfl)⟩
def WX:Sum:= {ps:=[⟨[.i],false⟩,⟨[.int .u8],false⟩],rs:=[⟨[.ef .str],false⟩],fn:=fun ds=>(Rl (rI ds 0) (rI ds 1),[.str (OD (rI ds 0) (rI ds 1))])}
def ngs:List (Nat×lE):=[(3, {cl:=[(0,.mP),(1,.mP),(5,.mP),(6,.mP)],boxes:=[]})]
def ngt:Bytes→kM:=(fun r0=>((true,[.str r0]):kM))
def nsj (n x i:Int) (oc:Rows):St:= {n:=20,sl:=[(0,.int .i64 n),(1,.int .u8 x),(5,.own 640320),(6,.int .i64 i)],hp:=[(640320,.row 5 [.int .u8] oc false true)],ok:=true,ls:=[],lm:=[]}
theorem nuM:D_ Tryz.prog 317 WX:=by
 refine qC (A:=ngs) JD Tryz.func317 fun ds (hw:kd ([.i,.int .u8]) ds) aP=> ?_
 obtain⟨n,ds,rfl,_,hw⟩:=nN hw
 obtain⟨x,rfl,h_x⟩:=nx hw
 obtain⟨N,hN⟩:=nuL Vm.kf ngt n x h_x aP
 exact⟨N,eL (fun l_=>WY Vm.kf ngt l_ n x) (Te (LW Tryz.prog [] ngs N Tryz.f317 WX [true,true,false,true,false] []) (nsj n x) _ N) hN⟩
def YO:Sum:= {ps:=[⟨[.int .u8],false⟩,⟨[.i],false⟩],rs:=[⟨[.ef .str],false⟩],fn:=fun ds=>(ng8 (rI ds 0) (rI ds 1),[.str (nmw (rI ds 0) (rI ds 1))])}
def nib:List (Nat×lE):=[(3, {cl:=[(0,.mP),(5,.mP),(10,.mP),(11,.mP)],boxes:=[]})]
def nic:Bytes→kM:=(fun r0=>((true,[.str r0]):kM))
def ntr (b x oy:Int) (oc:Rows):St:= {n:=21,sl:=[(0,.int .u8 b),(5,.own 640320),(10,.int .i64 x),(11,.int .i64 oy)],hp:=[(640320,.row 5 [.int .u8] oc false true)],ok:=true,ls:=[],lm:=[]}
theorem nvA:D_ Tryz.prog 440 YO:=by
 refine qC (A:=nib) JD Tryz.func440 fun ds (hw:kd ([.int .u8,.i]) ds) aP=> ?_
 obtain⟨b,ds,rfl,h_b,hw⟩:=nN hw
 obtain⟨n,rfl,_⟩:=nx hw
 obtain⟨N,hN⟩:=nvz Vm.kf nic b n h_b aP
 exact⟨N,eL (fun l_=>YP Vm.kf nic l_ b n) (funext fun x=>Te (LW Tryz.prog [] nib N Tryz.f440 YO [true,true,false,true,false] []) (ntr b x) _ N) hN⟩
def t6:Sum:= {ps:=[⟨[.str],false⟩,⟨[.i],false⟩],rs:=[⟨[.ef .i],false⟩],fn:=fun ds=>(true,[.int (wS (rS ds 0) (rI ds 1))])}
theorem UM:D_ Tryz.prog 335 t6:=by
 refine nD JD Tryz.func335 fun ds (hw:kd ([.str,.i]) ds) _=> ?_
 obtain⟨s,ds,rfl,vN,hw⟩:=rA hw
 obtain⟨at_,rfl,PM⟩:=nx hw
 exact⟨0,eT (nw8 Vm.kf (fun r0=>((true,[.int r0]):kM)) s at_ vN PM)⟩
def NF:Sum:= {ps:=[⟨[.str],false⟩,⟨[.i],false⟩,⟨[.i],false⟩],rs:=[⟨[.ef .bool],false⟩],fn:=fun ds=>(true,[.bool (rz (rS ds 0) (rI ds 1) (rI ds 2))])}
theorem R7:D_ Tryz.prog 309 NF:=by
 refine nD JD Tryz.func309 fun ds (hw:kd ([.str,.i,.i]) ds) _=> ?_
 obtain⟨s,ds,rfl,_,hw⟩:=rA hw
 obtain⟨at_,ds,rfl,_,hw⟩:=nN hw
 obtain⟨n,rfl,_⟩:=nx hw
 exact⟨0,eT (npa (fun r0=>((true,[.bool r0]):kM)) s at_ n)⟩
def Ny:Sum:= {ps:=[⟨[.str],false⟩,⟨[.i],false⟩],rs:=[⟨[.ef .i],false⟩],fn:=fun ds=>(true,[.int (pg (rS ds 0) (rI ds 1))])}
theorem QG:D_ Tryz.prog 342 Ny:=by
 refine nD (Γ:=[(309,NF)]) (Ih R7 JD) Tryz.func342 fun ds (hw:kd ([.str,.i]) ds) _=> ?_
 obtain⟨s,ds,rfl,vN,hw⟩:=rA hw
 obtain⟨at_,rfl,_⟩:=nx hw
 exact⟨0,eT (nxp Vm.kf (fun r0=>((true,[.int r0]):kM)) s at_ vN)⟩
theorem UP:D_ Tryz.prog 341 t6:=by
 refine nD (Γ:=[(309,NF),(342,Ny)]) (Ih R7 (Ih QG JD)) Tryz.func341 fun ds (hw:kd ([.str,.i]) ds) _=> ?_
 obtain⟨s,ds,rfl,vN,hw⟩:=rA hw
 obtain⟨at_,rfl,PM⟩:=nx hw
 exact⟨0,eT (nxq (fun r0=>((true,[.int r0]):kM)) s at_ vN PM)⟩
def qG:Sum:= {ps:=[⟨[.i],false⟩],rs:=[⟨[.ef .str],false⟩],fn:=fun ds=>(true,[.str (ph (rI ds 0))])}
theorem wK:D_ Tryz.prog 392 qG:=by
 refine nD (Γ:=[(55,nH)]) (Ih oB JD) Tryz.func392 fun ds (hw:kd ([.i]) ds) _=> ?_
 obtain⟨v,rfl,_⟩:=nx hw
 exact⟨0,eT (nhY (fun r0=>((true,[.str r0]):kM)) v)⟩
theorem wQ:D_ Tryz.prog 351 qG:=by
 refine nD (Γ:=[(37,nH)]) (Ih oT JD) Tryz.func351 fun ds (hw:kd ([.i]) ds) _=> ?_
 obtain⟨v,rfl,_⟩:=nx hw
 exact⟨0,eT (nhY (fun r0=>((true,[.str r0]):kM)) v)⟩
def wg:Sum:= {ps:=[⟨[.str],false⟩],rs:=[⟨[.ef .i],false⟩],fn:=fun ds=>(true,[.int (nen (rS ds 0))])}
def nbA:List (Nat×lE):=[(3, {cl:=[(0,.mP),(3,.mP),(4,.mP)],boxes:=[]}),(7, {cl:=[(0,.mP),(3,.mP),(4,.mP),(5,.mP)],boxes:=[]})]
def PV:Int→kM:=(fun r0=>((true,[.int r0]):kM))
def NX (s:Bytes) (c i:Int):St:= {n:=34,sl:=[(0,.str s),(3,.int .u32 c),(4,.int .i64 i)],hp:=[],ok:=true,ls:=[],lm:=[]}
def Si (s:Bytes) (UK i k:Int):St:= {n:=34,sl:=[(0,.str s),(3,.int .u32 UK),(4,.int .i64 i),(5,.int .i64 k)],hp:=[],ok:=true,ls:=[],lm:=[]}
noncomputable def Sg (N:Nat) (o0:St→kM):(St→kM)→St→kM:=LW Tryz.prog [] nbA N Tryz.f365 wg [true,true,false,true,false,false,true,false,false,true,true,false] [o0]
noncomputable def Sf (N:Nat):(St→kM)→St→kM:=LW Tryz.prog [] nbA N Tryz.f365 wg [true,true,false,true,false] []
theorem nvi (N:Nat) (o0:St→kM) (s:Bytes) (i:Int) (ih:St→kM) (UK k:Int):Sg N o0 ih (Si s UK i k)=Sh Vm.kf PV (fun c i=>o0 (NX s c i)) i (fun UK k=>ih (Si s UK i k)) UK k:=by kernel_rfl
theorem nvk (N:Nat) (o0:St→kM) (s:Bytes) (i:Int) (m_:Nat):(fun UK k=>LX (Sg N o0) m_ (Si s UK i k))=t5 Vm.kf PV N (fun c i=>o0 (NX s c i)) i m_:=by
 induction m_ with
 | zero=>rfl
 | succ m_ ih=>
  funext UK k
  refine (nvi N o0 s i (LX (Sg N o0) m_) UK k).trans ?_
  rw[ih]
  rfl
theorem nvh (N:Nat) (s:Bytes) (ih:St→kM) (c i:Int):Sf N ih (NX s c i)=NW Vm.kf PV (fun i UK k=>LX (Sg N ih) N (Si s UK i k)) s (fun c i=>ih (NX s c i)) c i:=by kernel_rfl
theorem nvj (N:Nat) (s:Bytes) (m_:Nat):(fun c i=>LX (Sf N) m_ (NX s c i))=uT Vm.kf PV N s m_:=by
 induction m_ with
 | zero=>rfl
 | succ m_ ih=>
  funext c i
  refine (nvh N s (LX (Sf N) m_) c i).trans ?_
  have e1:=funext fun i=>nvk N (LX (Sf N) m_) s i N
  rw[e1]
  rw[ih]
  rfl
theorem nw6:D_ Tryz.prog 365 wg:=by
 refine qC (A:=nbA) JD Tryz.func365 fun ds (hw:kd ([.str]) ds) _=> ?_
 obtain⟨s,rfl,vN⟩:=oC hw
 obtain⟨N,hN⟩:=nw5 Vm.kf PV s vN
 refine⟨N,Eq.trans ?_ (hN.trans (by kernel_rfl))⟩
 unfold nbB
 rw[←nvj N s N]
 kernel_rfl
def nbI:List (Nat×lE):=[(3, {cl:=[(0,.mP),(3,.mP),(4,.mP)],boxes:=[]}),(7, {cl:=[(0,.mP),(3,.mP),(4,.mP),(5,.mP)],boxes:=[]})]
def QF:Int→kM:=(fun r0=>((true,[.int r0]):kM))
def Oe (s:Bytes) (c i:Int):St:= {n:=32,sl:=[(0,.str s),(3,.int .i64 c),(4,.int .i64 i)],hp:=[],ok:=true,ls:=[],lm:=[]}
def SE (s:Bytes) (UK i k:Int):St:= {n:=32,sl:=[(0,.str s),(3,.int .i64 UK),(4,.int .i64 i),(5,.int .i64 k)],hp:=[],ok:=true,ls:=[],lm:=[]}
noncomputable def SC (N:Nat) (o0:St→kM):(St→kM)→St→kM:=LW Tryz.prog [] nbI N Tryz.f359 wg [true,true,false,true,false,false,true,false,false,true,true,false] [o0]
noncomputable def SB (N:Nat):(St→kM)→St→kM:=LW Tryz.prog [] nbI N Tryz.f359 wg [true,true,false,true,false] []
theorem nwh (N:Nat) (o0:St→kM) (s:Bytes) (i:Int) (ih:St→kM) (UK k:Int):SC N o0 ih (SE s UK i k)=SD Vm.kf QF (fun c i=>o0 (Oe s c i)) i (fun UK k=>ih (SE s UK i k)) UK k:=by kernel_rfl
theorem nwj (N:Nat) (o0:St→kM) (s:Bytes) (i:Int) (m_:Nat):(fun UK k=>LX (SC N o0) m_ (SE s UK i k))=ua Vm.kf QF N (fun c i=>o0 (Oe s c i)) i m_:=by
 induction m_ with
 | zero=>rfl
 | succ m_ ih=>
  funext UK k
  refine (nwh N o0 s i (LX (SC N o0) m_) UK k).trans ?_
  rw[ih]
  rfl
theorem nwg (N:Nat) (s:Bytes) (ih:St→kM) (c i:Int):SB N ih (Oe s c i)=Od Vm.kf QF (fun i UK k=>LX (SC N ih) N (SE s UK i k)) s (fun c i=>ih (Oe s c i)) c i:=by kernel_rfl
theorem nwi (N:Nat) (s:Bytes) (m_:Nat):(fun c i=>LX (SB N) m_ (Oe s c i))=uX Vm.kf QF N s m_:=by
 induction m_ with
 | zero=>rfl
 | succ m_ ih=>
  funext c i
  refine (nwg N s (LX (SB N) m_) c i).trans ?_
  have e1:=funext fun i=>nwj N (LX (SB N) m_) s i N
  rw[e1]
  rw[ih]
  rfl
theorem nxo:D_ Tryz.prog 359 wg:=by
 refine qC (A:=nbI) JD Tryz.func359 fun ds (hw:kd ([.str]) ds) _=> ?_
 obtain⟨s,rfl,vN⟩:=oC hw
 obtain⟨N,hN⟩:=nxn Vm.kf QF s vN
 refine⟨N,Eq.trans ?_ (hN.trans (by kernel_rfl))⟩
 unfold nbJ
 rw[←nwi N s N]
 kernel_rfl
def qi:Sum:= {ps:=[⟨[.i],false⟩],rs:=[⟨[.ef .str],false⟩],fn:=fun ds=>(true,[.str (nT (rI ds 0))])}
theorem t8:D_ Tryz.prog 355 qi:=by
 refine nD (Γ:=[(55,nH)]) (Ih oB JD) Tryz.func355 fun ds (hw:kd ([.i]) ds) _=> ?_
 obtain⟨v,rfl,_⟩:=nx hw
 exact⟨0,eT (nhX (fun r0=>((true,[.str r0]):kM)) v)⟩
theorem uY:D_ Tryz.prog 264 qi:=by
 refine nD (Γ:=[(37,nH)]) (Ih oT JD) Tryz.func264 fun ds (hw:kd ([.i]) ds) _=> ?_
 obtain⟨v,rfl,_⟩:=nx hw
 exact⟨0,eT (nhX (fun r0=>((true,[.str r0]):kM)) v)⟩
def PU:Sum:= {ps:=[⟨[.i],false⟩,⟨[.i],false⟩],rs:=[⟨[.ef .i],false⟩],fn:=fun ds=>(true,[.int (nkN (rI ds 0) (rI ds 1))])}
theorem nsU:D_ Tryz.prog 444 PU:=by
 refine nD (Γ:=[(55,nH)]) (Ih oB JD) Tryz.func444 fun ds (hw:kd ([.i,.i]) ds) _=> ?_
 obtain⟨a,ds,rfl,_,hw⟩:=nN hw
 obtain⟨b,rfl,_⟩:=nx hw
 exact⟨0,eT (nez (fun r0=>((true,[.int r0]):kM)) a b)⟩
theorem nur:D_ Tryz.prog 443 PU:=by
 refine nD (Γ:=[(37,nH)]) (Ih oT JD) Tryz.func443 fun ds (hw:kd ([.i,.i]) ds) _=> ?_
 obtain⟨a,ds,rfl,_,hw⟩:=nN hw
 obtain⟨b,rfl,_⟩:=nx hw
 exact⟨0,eT (nez (fun r0=>((true,[.int r0]):kM)) a b)⟩
def vU:Sum:= {ps:=[⟨[.str],false⟩],rs:=[⟨[.ef .i],false⟩],fn:=fun ds=>(ss (rS ds 0),[.int (Zh (rS ds 0))])}
def ncy:Ctx:=[(444,PU)]
theorem nqp:bN Tryz.prog ncy:=Ih nsU JD
def ncx:List (Nat×lE):=[(3, {cl:=[(0,.mP),(3,.mP),(4,.mP)],boxes:=[]})]
def ncz:Int→kM:=(fun r0=>((true,[.int r0]):kM))
def nnl (s:Bytes) (sum i:Int):St:= {n:=33,sl:=[(0,.str s),(3,.int .i64 sum),(4,.int .i64 i)],hp:=[],ok:=true,ls:=[],lm:=[]}
theorem nqo:D_ Tryz.prog 436 vU:=by
 refine qC (A:=ncx) nqp Tryz.func436 fun ds (hw:kd ([.str]) ds) aP=> ?_
 obtain⟨s,rfl,vN⟩:=oC hw
 obtain⟨N,hN⟩:=nqn Vm.kf ncz s vN aP
 exact⟨N,eL (fun l_=>Tv Vm.kf ncz l_ s) (Te (LW Tryz.prog ncy ncx N Tryz.f436 vU [true,true,false,true,false] []) (nnl s) _ N) hN⟩
def nd7:Ctx:=[(443,PU)]
theorem nsh:bN Tryz.prog nd7:=Ih nur JD
def nd6:List (Nat×lE):=[(3, {cl:=[(0,.mP),(3,.mP),(4,.mP)],boxes:=[]})]
def nd8:Int→kM:=(fun r0=>((true,[.int r0]):kM))
def no_ (s:Bytes) (sum i:Int):St:= {n:=33,sl:=[(0,.str s),(3,.int .i64 sum),(4,.int .i64 i)],hp:=[],ok:=true,ls:=[],lm:=[]}
theorem nsg:D_ Tryz.prog 432 vU:=by
 refine qC (A:=nd6) nsh Tryz.func432 fun ds (hw:kd ([.str]) ds) aP=> ?_
 obtain⟨s,rfl,vN⟩:=oC hw
 obtain⟨N,hN⟩:=nsf Vm.kf nd8 s vN aP
 exact⟨N,eL (fun l_=>TX Vm.kf nd8 l_ s) (Te (LW Tryz.prog nd7 nd6 N Tryz.f432 vU [true,true,false,true,false] []) (no_ s) _ N) hN⟩
def vP:Sum:= {ps:=[⟨[.str],false⟩],rs:=[⟨[.ef .i],false⟩],fn:=fun ds=>(ss (rS ds 0),[.int (PE (rS ds 0))])}
theorem nbU:D_ Tryz.prog 415 vP:=by
 refine nD (Γ:=[(436,vU)]) (Ih nqo JD) Tryz.func415 fun ds (hw:kd ([.str]) ds) aP=> ?_
 obtain⟨s,rfl,_⟩:=oC hw
 exact⟨0,eT (nbT Vm.kf (fun r0=>((true,[.int r0]):kM)) s aP)⟩
theorem ndx:D_ Tryz.prog 404 vP:=by
 refine nD (Γ:=[(432,vU)]) (Ih nsg JD) Tryz.func404 fun ds (hw:kd ([.str]) ds) aP=> ?_
 obtain⟨s,rfl,_⟩:=oC hw
 exact⟨0,eT (nbT Vm.kf (fun r0=>((true,[.int r0]):kM)) s aP)⟩
def uB:Sum:= {ps:=[⟨[.str],false⟩,⟨[.i],false⟩,⟨[.str],false⟩],rs:=[⟨[.ef .str],false⟩],fn:=fun ds=>(rK (rS ds 0) (rI ds 1) (rS ds 2),[.str (vj (rS ds 0) (rI ds 1) (rS ds 2))])}
theorem ncl:D_ Tryz.prog 388 uB:=by
 refine nD JD Tryz.func388 fun ds (hw:kd ([.str,.i,.str]) ds) aP=> ?_
 obtain⟨s,ds,rfl,_,hw⟩:=rA hw
 obtain⟨at_,ds,rfl,_,hw⟩:=nN hw
 obtain⟨part,rfl,_⟩:=oC hw
 exact⟨0,eT (nqg Vm.kf (fun r0=>((true,[.str r0]):kM)) s at_ part aP)⟩
theorem TV:D_ Tryz.prog 223 uB:=by
 refine nD (Γ:=[(309,NF)]) (Ih R7 JD) Tryz.func223 fun ds (hw:kd ([.str,.i,.str]) ds) aP=> ?_
 obtain⟨s,ds,rfl,_,hw⟩:=rA hw
 obtain⟨at_,ds,rfl,_,hw⟩:=nN hw
 obtain⟨part,rfl,_⟩:=oC hw
 exact⟨0,eT (nr8 Vm.kf (fun r0=>((true,[.str r0]):kM)) s at_ part aP)⟩
def wX:Sum:= {ps:=[⟨[.i],false⟩,⟨[.i],false⟩,⟨[.i],false⟩,⟨[.i],false⟩],rs:=[⟨[.ef .str],false⟩,⟨[.ef .bool],false⟩],fn:=fun ds=>(true,[.str (rq (rI ds 0) (rI ds 1) (rI ds 2) (rI ds 3)).1]++[.bool (rq (rI ds 0) (rI ds 1) (rI ds 2) (rI ds 3)).2])}
theorem nhc:D_ Tryz.prog 414 wX:=by
 refine nD (Γ:=[(55,nH),(355,qi),(392,qG)]) (Ih oB (Ih t8 (Ih wK JD))) Tryz.func414 fun ds (hw:kd ([.i,.i,.i,.i]) ds) _=> ?_
 obtain⟨src,ds,rfl,_,hw⟩:=nN hw
 obtain⟨dst,ds,rfl,_,hw⟩:=nN hw
 obtain⟨kind,ds,rfl,_,hw⟩:=nN hw
 obtain⟨length,rfl,_⟩:=nx hw
 exact⟨0,eT (Ub Vm.kf (fun r0 r1=>((true,[.str r0]++[.bool r1]):kM)) src dst kind length)⟩
theorem nhI:D_ Tryz.prog 403 wX:=by
 refine nD (Γ:=[(37,nH),(264,qi),(351,qG)]) (Ih oT (Ih uY (Ih wQ JD))) Tryz.func403 fun ds (hw:kd ([.i,.i,.i,.i]) ds) _=> ?_
 obtain⟨src,ds,rfl,_,hw⟩:=nN hw
 obtain⟨dst,ds,rfl,_,hw⟩:=nN hw
 obtain⟨kind,ds,rfl,_,hw⟩:=nN hw
 obtain⟨length,rfl,_⟩:=nx hw
 exact⟨0,eT (Ub Vm.kf (fun r0 r1=>((true,[.str r0]++[.bool r1]):kM)) src dst kind length)⟩
def ncR:Sum:= {ps:=[⟨[.i],false⟩],rs:=[⟨[.ef .i],false⟩],fn:=fun ds=>(true,[.int (Oh (rI ds 0))])}
theorem nqE:D_ Tryz.prog 416 ncR:=by
 refine nD JD Tryz.func416 fun ds (hw:kd ([.i]) ds) _=> ?_
 obtain⟨kind,rfl,_⟩:=nx hw
 exact⟨0,eT (nqD (fun r0=>((true,[.int r0]):kM)) kind)⟩
def Vw:Sum:= {ps:=[⟨nz.ct,true⟩],rs:=[⟨[.ef .str],false⟩],fn:=fun ds=>(nwY (nz.nc ds 0),[.str (pb (nz.nc ds 0))])}
theorem njB:D_ Tryz.prog 413 Vw:=by
 refine nD (Γ:=[(355,qi),(392,qG)]) (Ih t8 (Ih wK JD)) Tryz.func413 fun ds (hw:kd (nz.ct++[]) ds) aP=> ?_
 obtain⟨g,ds,rfl,_,hw⟩:=nz.nw (r:=_) hw
 obtain rfl:=nk hw
 exact⟨0,eT (njA Vm.kf (fun r0=>((true,[.str r0]):kM)) g aP)⟩
def tB:Sum:= {ps:=[⟨[.i],false⟩,⟨[.i],false⟩,⟨nz.ct,true⟩],rs:=[⟨[.ef .str],false⟩,⟨[.ef .bool],false⟩],fn:=fun ds=>(true,[.str (rN (rI ds 0) (rI ds 1) (nz.nc ds 2)).1]++[.bool (rN (rI ds 0) (rI ds 1) (nz.nc ds 2)).2])}
theorem T3:D_ Tryz.prog 368 tB:=by
 refine nD (Γ:=[(300,va),(355,qi),(388,uB),(413,Vw),(414,wX),(415,vP),(416,ncR)]) (Ih ZG (Ih t8 (Ih ncl (Ih njB (Ih nhc (Ih nbU (Ih nqE JD))))))) Tryz.func368 fun ds (hw:kd (.i::(.i::(nz.ct++[]))) ds) _=> ?_
 obtain⟨src,ds,rfl,_,hw⟩:=nN hw
 obtain⟨dst,ds,rfl,_,hw⟩:=nN hw
 obtain⟨g,ds,rfl,_,hw⟩:=nz.nw (r:=_) hw
 obtain rfl:=nk hw
 exact⟨0,eT (nha Vm.kf (fun r0 r1=>((true,[.str r0]++[.bool r1]):kM)) src dst g)⟩
theorem UD:D_ Tryz.prog 347 tB:=by
 refine nD (Γ:=[(223,uB),(264,qi),(289,va),(351,qG),(403,wX),(404,vP)]) (Ih TV (Ih uY (Ih nbm (Ih wQ (Ih nhI (Ih ndx JD)))))) Tryz.func347 fun ds (hw:kd (.i::(.i::(nz.ct++[]))) ds) _=> ?_
 obtain⟨src,ds,rfl,_,hw⟩:=nN hw
 obtain⟨dst,ds,rfl,_,hw⟩:=nN hw
 obtain⟨g,ds,rfl,_,hw⟩:=nz.nw (r:=_) hw
 obtain rfl:=nk hw
 exact⟨0,eT (nhG Vm.kf (fun r0 r1=>((true,[.str r0]++[.bool r1]):kM)) src dst g)⟩
def Xm:Sum:= {ps:=[⟨wT.ct,true⟩],rs:=[⟨[.ef .bool],false⟩],fn:=fun ds=>(true,[.bool (nwS (wT.nc ds 0))])}
theorem nxN:D_ Tryz.prog 435 Xm:=by
 refine nD (Γ:=[(55,nH)]) (Ih oB JD) Tryz.func435 fun ds (hw:kd (wT.ct++[]) ds) _=> ?_
 obtain⟨d,ds,rfl,_,hw⟩:=wT.nw (r:=_) hw
 obtain rfl:=nk hw
 exact⟨0,eT (npB (fun r0=>((true,[.bool r0]):kM)) d)⟩
theorem nx4:D_ Tryz.prog 431 Xm:=by
 refine nD (Γ:=[(37,nH)]) (Ih oT JD) Tryz.func431 fun ds (hw:kd (wT.ct++[]) ds) _=> ?_
 obtain⟨d,ds,rfl,_,hw⟩:=wT.nw (r:=_) hw
 obtain rfl:=nk hw
 exact⟨0,eT (npB (fun r0=>((true,[.bool r0]):kM)) d)⟩
def Ou:Sum:= {ps:=[⟨wT.ct,true⟩],rs:=[⟨[.ef .str],false⟩,⟨[.ef .bool],false⟩],fn:=fun ds=>(true,[.str (vi (wT.nc ds 0)).1]++[.bool (vi (wT.nc ds 0)).2])}
theorem nqc:D_ Tryz.prog 412 Ou:=by
 refine nD (Γ:=[(355,qi),(388,uB),(392,qG),(415,vP),(435,Xm)]) (Ih t8 (Ih ncl (Ih wK (Ih nbU (Ih nxN JD))))) Tryz.func412 fun ds (hw:kd (wT.ct++[]) ds) _=> ?_
 obtain⟨d,ds,rfl,_,hw⟩:=wT.nw (r:=_) hw
 obtain rfl:=nk hw
 exact⟨0,eT (nce Vm.kf (fun r0 r1=>((true,[.str r0]++[.bool r1]):kM)) d)⟩
theorem nr4:D_ Tryz.prog 402 Ou:=by
 refine nD (Γ:=[(223,uB),(264,qi),(351,qG),(404,vP),(431,Xm)]) (Ih TV (Ih uY (Ih wQ (Ih ndx (Ih nx4 JD))))) Tryz.func402 fun ds (hw:kd (wT.ct++[]) ds) _=> ?_
 obtain⟨d,ds,rfl,_,hw⟩:=wT.nw (r:=_) hw
 obtain rfl:=nk hw
 exact⟨0,eT (nce Vm.kf (fun r0 r1=>((true,[.str r0]++[.bool r1]):kM)) d)⟩
def xi:Sum:= {ps:=[⟨wT.ct,true⟩],rs:=[⟨[.ef .str],false⟩,⟨[.ef .bool],false⟩],fn:=fun ds=>(true,[.str (Oi (wT.nc ds 0)).1]++[.bool (Oi (wT.nc ds 0)).2])}
theorem neC:D_ Tryz.prog 367 xi:=by
 refine nD (Γ:=[(412,Ou)]) (Ih nqc JD) Tryz.func367 fun ds (hw:kd (wT.ct++[]) ds) _=> ?_
 obtain⟨d,ds,rfl,_,hw⟩:=wT.nw (r:=_) hw
 obtain rfl:=nk hw
 exact⟨0,eT (neB Vm.kf (fun r0 r1=>((true,[.str r0]++[.bool r1]):kM)) d)⟩
theorem nf3:D_ Tryz.prog 346 xi:=by
 refine nD (Γ:=[(402,Ou)]) (Ih nr4 JD) Tryz.func346 fun ds (hw:kd (wT.ct++[]) ds) _=> ?_
 obtain⟨d,ds,rfl,_,hw⟩:=wT.nw (r:=_) hw
 obtain rfl:=nk hw
 exact⟨0,eT (neB Vm.kf (fun r0 r1=>((true,[.str r0]++[.bool r1]):kM)) d)⟩
def Qc:Sum:= {ps:=[⟨[.str],false⟩],rs:=[⟨[.ef .str],false⟩],fn:=fun ds=>(true,[.str (Sc (rS ds 0))])}
theorem ns5:D_ Tryz.prog 420 Qc:=by
 refine nD (Γ:=[(440,YO)]) (Ih nvA JD) Tryz.func420 fun ds (hw:kd ([.str]) ds) _=> ?_
 obtain⟨s,rfl,vN⟩:=oC hw
 exact⟨0,eT (ns4 Vm.kf (fun r0=>((true,[.str r0]):kM)) s vN)⟩
theorem nuC:D_ Tryz.prog 377 Qc:=by
 refine nD (Γ:=[(317,WX)]) (Ih nuM JD) Tryz.func377 fun ds (hw:kd ([.str]) ds) _=> ?_
 obtain⟨s,rfl,vN⟩:=oC hw
 exact⟨0,eT (nuB Vm.kf (fun r0=>((true,[.str r0]):kM)) s vN)⟩
def zL:Sum:= {ps:=[⟨rl.ct,true⟩],rs:=[⟨[.ef .bool],false⟩],fn:=fun ds=>(true,[.bool (PF (rl.nc ds 0))])}
theorem nkZ:D_ Tryz.prog 366 zL:=by
 refine nD (Γ:=[(55,nH)]) (Ih oB JD) Tryz.func366 fun ds (hw:kd (rl.ct++[]) ds) _=> ?_
 obtain⟨e,ds,rfl,_,hw⟩:=rl.nw (r:=_) hw
 obtain rfl:=nk hw
 exact⟨0,eT (nkY (fun r0=>((true,[.bool r0]):kM)) e)⟩
theorem nmC:D_ Tryz.prog 345 zL:=by
 refine nD (Γ:=[(37,nH)]) (Ih oT JD) Tryz.func345 fun ds (hw:kd (rl.ct++[]) ds) _=> ?_
 obtain⟨e,ds,rfl,_,hw⟩:=rl.nw (r:=_) hw
 obtain rfl:=nk hw
 exact⟨0,eT (nkY (fun r0=>((true,[.bool r0]):kM)) e)⟩
def OC:Sum:= {ps:=[⟨[.i],false⟩],rs:=[⟨[.ef .str],false⟩],fn:=fun ds=>(true,[.str (rY (rI ds 0))])}
theorem nqC:D_ Tryz.prog 439 OC:=by
 refine nD (Γ:=[(355,qi),(392,qG)]) (Ih t8 (Ih wK JD)) Tryz.func439 fun ds (hw:kd ([.i]) ds) _=> ?_
 obtain⟨a,rfl,_⟩:=nx hw
 exact⟨0,eT (ncO Vm.kf (fun r0=>((true,[.str r0]):kM)) a)⟩
theorem nmP:D_ Tryz.prog 424 OC:=by
 refine nD (Γ:=[(264,qi),(351,qG)]) (Ih uY (Ih wQ JD)) Tryz.func424 fun ds (hw:kd ([.i]) ds) _=> ?_
 obtain⟨x,rfl,_⟩:=nx hw
 exact⟨0,eT (ncO Vm.kf (fun r0=>((true,[.str r0]):kM)) x)⟩
def Om:Sum:= {ps:=[⟨rl.ct,true⟩],rs:=[⟨[.ef .str],false⟩,⟨[.ef .bool],false⟩],fn:=fun ds=>(true,[.str (zk (rl.nc ds 0)).1]++[.bool (zk (rl.nc ds 0)).2])}
theorem npY:D_ Tryz.prog 419 Om:=by
 refine nD (Γ:=[(355,qi),(366,zL),(439,OC)]) (Ih t8 (Ih nkZ (Ih nqC JD))) Tryz.func419 fun ds (hw:kd (rl.ct++[]) ds) _=> ?_
 obtain⟨e,ds,rfl,_,hw⟩:=rl.nw (r:=_) hw
 obtain rfl:=nk hw
 exact⟨0,eT (npX Vm.kf (fun r0 r1=>((true,[.str r0]++[.bool r1]):kM)) e)⟩
theorem nrP:D_ Tryz.prog 376 Om:=by
 refine nD (Γ:=[(264,qi),(345,zL),(424,OC)]) (Ih uY (Ih nmC (Ih nmP JD))) Tryz.func376 fun ds (hw:kd (rl.ct++[]) ds) _=> ?_
 obtain⟨e,ds,rfl,_,hw⟩:=rl.nw (r:=_) hw
 obtain rfl:=nk hw
 exact⟨0,eT (nrO Vm.kf (fun r0 r1=>((true,[.str r0]++[.bool r1]):kM)) e)⟩
def we:Sum:= {ps:=[⟨nj.ct,true⟩],rs:=[⟨[.ef .str],false⟩,⟨[.ef .bool],false⟩],fn:=fun ds=>(true,[.str (oH (nj.nc ds 0)).1]++[.bool (oH (nj.nc ds 0)).2])}
theorem Xe:D_ Tryz.prog 373 we:=by
 refine nD (Γ:=[(209,qt),(367,xi),(368,tB),(419,Om),(420,Qc)]) (Ih vr (Ih neC (Ih T3 (Ih npY (Ih ns5 JD))))) Tryz.func373 fun ds (hw:kd (nj.ct++[]) ds) _=> ?_
 obtain⟨p,ds,rfl,_,hw⟩:=nj.nw (r:=_) hw
 obtain rfl:=nk hw
 exact⟨0,eT (Xd (fun r0 r1=>((true,[.str r0]++[.bool r1]):kM)) p)⟩
theorem nmy:D_ Tryz.prog 308 we:=by
 refine nD (Γ:=[(195,qt),(346,xi),(347,tB),(376,Om),(377,Qc)]) (Ih vG (Ih nf3 (Ih UD (Ih nrP (Ih nuC JD))))) Tryz.func308 fun ds (hw:kd (nj.ct++[]) ds) _=> ?_
 obtain⟨p,ds,rfl,_,hw⟩:=nj.nw (r:=_) hw
 obtain rfl:=nk hw
 exact⟨0,eT (Xd (fun r0 r1=>((true,[.str r0]++[.bool r1]):kM)) p)⟩
def tG:Sum:= {ps:=[⟨nj.ct,true⟩],rs:=[⟨[.ef .bool],false⟩],fn:=fun ds=>(true,[.bool (uJ (nj.nc ds 0))])}
theorem Ts:D_ Tryz.prog 207 tG:=by
 refine nD (Γ:=[(209,qt)]) (Ih vr JD) Tryz.func207 fun ds (hw:kd (nj.ct++[]) ds) _=> ?_
 obtain⟨p,ds,rfl,_,hw⟩:=nj.nw (r:=_) hw
 obtain rfl:=nk hw
 exact⟨0,eT (ncj (fun r0=>((true,[.bool r0]):kM)) p)⟩
theorem TU:D_ Tryz.prog 193 tG:=by
 refine nD (Γ:=[(195,qt)]) (Ih vG JD) Tryz.func193 fun ds (hw:kd (nj.ct++[]) ds) _=> ?_
 obtain⟨p,ds,rfl,_,hw⟩:=nj.nw (r:=_) hw
 obtain rfl:=nk hw
 exact⟨0,eT (ncj (fun r0=>((true,[.bool r0]):kM)) p)⟩
def nlh:Sum:= {ps:=[⟨[.sl [.i,.i,.i,.bool]],false⟩,⟨[.i],false⟩,⟨[.i],false⟩,⟨[.bool],false⟩],rs:=[⟨[.ef .i],false⟩],fn:=fun ds=>(true,[.int (place (rR ds 0) (rI ds 1) (rI ds 2) (rB ds 3))])}
theorem nxa:D_ Tryz.prog 399 nlh:=by
 refine nD (Γ:=[(234,xU)]) (Ih VJ JD) Tryz.func399 fun ds (hw:kd ([.sl [.i,.i,.i,.bool],.i,.i,.bool]) ds) _=> ?_
 obtain⟨Z,ds,rfl,qh,hw⟩:=nW hw
 obtain⟨O,ds,rfl,_,hw⟩:=nN hw
 obtain⟨address,ds,rfl,_,hw⟩:=nN hw
 obtain⟨write,rfl,_⟩:=zB hw
 exact⟨0,eT (nw_ Vm.kf (fun r0=>((true,[.int r0]):kM)) Z O address write qh)⟩
def uU:Sum:= {ps:=[⟨na.ct,true⟩,⟨[.i],false⟩,⟨[.i],false⟩],rs:=[⟨[.ef .bool],false⟩],fn:=fun ds=>(true,[.bool (within (na.nc ds 0) (rI ds 1) (rI ds 2))])}
theorem YT:D_ Tryz.prog 400 uU:=by
 refine nD (Γ:=[(113,sF)]) (Ih Tp JD) Tryz.func400 fun ds hw _=> ?_
 replace hw:kd (na.ct++[.i,.i]) ds:=hw
 obtain⟨m,ds,rfl,_,hw⟩:=na.nw (r:=_) hw
 obtain⟨at_,ds,rfl,_,hw⟩:=nN hw
 obtain⟨n,rfl,_⟩:=nx hw
 exact⟨0,eT (nvF (fun r0=>((true,[.bool r0]):kM)) m at_ n)⟩
theorem R9:D_ Tryz.prog 344 uU:=by
 refine nD (Γ:=[(134,sF)]) (Ih TR JD) Tryz.func344 fun ds hw _=> ?_
 replace hw:kd (na.ct++[.i,.i]) ds:=hw
 obtain⟨m,ds,rfl,U5,hw⟩:=na.nw (r:=_) hw
 obtain⟨at_,ds,rfl,PM,hw⟩:=nN hw
 obtain⟨n,rfl,h_n⟩:=nx hw
 exact⟨0,eT (npb (fun r0=>((true,[.bool r0]):kM)) m at_ n U5 PM h_n)⟩
def O6:Sum:= {ps:=[⟨na.ct,true⟩,⟨[.i],false⟩,⟨[.str],false⟩],rs:=[⟨[.own 9 [.str]],true⟩,⟨[.ef .bool],false⟩],fn:=fun ds=>(sO (na.nc ds 0) (rI ds 1) (rS ds 2),na.enc (qE (na.nc ds 0) (rI ds 1) (rS ds 2)).1++[.bool (qE (na.nc ds 0) (rI ds 1) (rS ds 2)).2])}
def Vt:Ctx:=[(1125899906842657,J7),(160,sN),(400,uU)]
theorem njz:bN Tryz.prog Vt:=Ih Lv (Ih tv (Ih YT JD))
def Vs:List (Nat×lE):=[(4, {cl:=[(1,.mP),(2,.mP),(6,.mP),(8,.mP)],boxes:=[(192,[]),(384,[]),(512,[])]})]
def Vu:na→Bool→kM:=(fun r0 r1=>((true,na.enc r0++[.bool r1]):kM))
def nhd (sj:Int) (uc:Bytes) (ta pH:Rows):St:= {n:=50,sl:=[(1,.int .i64 sj),(2,.str uc),(6,.ptr 384 0),(8,.ptr 512 0)],hp:=[(192,.box 54 [.sl [.str] ta]),(384,.box 54 [.nil]),(512,.box 54 [.own 1411072]),(1411072,.row 9 [.str] pH false true)],ok:=true,ls:=[],lm:=[]}
theorem njy:D_ Tryz.prog 441 O6:=by
 refine qC (A:=Vs) njz Tryz.func441 fun ds hw aP=> ?_
 replace hw:kd (na.ct++[.i,.str]) ds:=hw
 obtain⟨m,ds,rfl,U5,hw⟩:=na.nw (r:=_) hw
 obtain⟨at_,ds,rfl,_,hw⟩:=nN hw
 obtain⟨s,rfl,_⟩:=oC hw
 obtain⟨N,hN⟩:=njx Vm.kf Vu m at_ s U5 aP
 exact⟨N,eL (fun l_=>O7 Vm.kf Vu l_ m at_ s) (nL3 (LW Tryz.prog Vt Vs N Tryz.f441 O6 [true,true,true,false,false] []) (fun sj uc pH=>nhd sj uc m.nP pH) _ N) hN⟩
def Sr:Sum:= {ps:=[⟨[.sl [.i,.i,.i,.bool]],false⟩,⟨na.ct,true⟩,⟨[.i],false⟩,⟨[.i],false⟩,⟨[.i],false⟩,⟨[.bool],false⟩],rs:=[⟨[.own 378 [.i,.i]],false⟩,⟨[.ef .bool],false⟩],fn:=fun ds=>(true,[.sl (sC (rR ds 0) (na.nc ds 1) (rI ds 2) (rI ds 3) (rI ds 4) (rB ds 5)).1]++[.bool (sC (rR ds 0) (na.nc ds 1) (rI ds 2) (rI ds 3) (rI ds 4) (rB ds 5)).2])}
def nig:Ctx:=[(55,nH),(113,sF),(114,sb),(399,nlh),(400,uU)]
theorem nvC:bN Tryz.prog nig:=Ih oB (Ih Tp (Ih Xt (Ih nxa (Ih YT JD))))
def nif:List (Nat×lE):=[(8, {cl:=[(0,.mP),(2,.mP),(3,.mP),(4,.mP),(5,.mP),(7,.mP),(14,.mP)],boxes:=[(448,[])]})]
def nih:Rows→Bool→kM:=(fun r0 r1=>((true,[.sl r0]++[.bool r1]):kM))
def nts (Z:Rows) (O sj n_1:Int) (write:Bool) (ta oc:Rows):St:= {n:=75,sl:=[(0,.sl [.i,.i,.i,.bool] Z),(2,.int .i64 O),(3,.int .i64 sj),(4,.int .i64 n_1),(5,.bool write),(7,.ptr 448 0),(14,.own 640896)],hp:=[(448,.box 54 [.sl [.str] ta]),(640896,.row 378 [.i,.i] oc false true)],ok:=true,ls:=[],lm:=[]}
theorem nij:D_ Tryz.prog 332 Sr:=by
 refine qC (A:=nif) nvC Tryz.func332 fun ds hw _=> ?_
 replace hw:kd ((.sl [.i,.i,.i,.bool])::(na.ct++[.i,.i,.i,.bool])) ds:=hw
 obtain⟨Z,ds,rfl,_,hw⟩:=nW hw
 obtain⟨m,ds,rfl,_,hw⟩:=na.nw (r:=_) hw
 obtain⟨O,ds,rfl,_,hw⟩:=nN hw
 obtain⟨at_,ds,rfl,PM,hw⟩:=nN hw
 obtain⟨n,ds,rfl,_,hw⟩:=nN hw
 obtain⟨write,rfl,_⟩:=zB hw
 obtain⟨N,hN⟩:=nvB Vm.kf nih Z m O at_ n write PM
 exact⟨N,eL (fun l_=>YQ Vm.kf nih l_ Z m O at_ n write) (funext fun ta=>nL3 (LW Tryz.prog nig nif N Tryz.f332 Sr [true,true,true,true,true,false,false] []) (fun sj n_1 oc=>nts Z O sj n_1 write ta oc) _ N) hN⟩
def njG:Sum:= {ps:=[⟨[.sl [.i,.i,.i,.bool]],false⟩,⟨na.ct,true⟩,⟨[.i],false⟩,⟨[.i],false⟩,⟨[.str],false⟩,⟨[.bool],false⟩],rs:=[⟨[.own 9 [.str]],true⟩,⟨[.ef .bool],false⟩],fn:=fun ds=>(nxj (rR ds 0) (na.nc ds 1) (rI ds 2) (rI ds 3) (rS ds 4) (rB ds 5),na.enc (put (rR ds 0) (na.nc ds 1) (rI ds 2) (rI ds 3) (rS ds 4) (rB ds 5)).1++[.bool (put (rR ds 0) (na.nc ds 1) (rI ds 2) (rI ds 3) (rS ds 4) (rB ds 5)).2])}
def nto:Ctx:=[(160,sN),(332,Sr),(441,O6)]
theorem nyo:bN Tryz.prog nto:=Ih tv (Ih nij (Ih njy JD))
def ntn:List (Nat×lE):=[(6, {cl:=[(4,.mP),(12,.mP),(14,.mP),(35,.mP),(36,.mP),(37,.mP)],boxes:=[(448,[]),(768,[]),(896,[])]})]
def ntp:na→Bool→kM:=(fun r0 r1=>((true,na.enc r0++[.bool r1]):kM))
def nxS (uc:Bytes) (x oy:Int) (ta oD pH:Rows):St:= {n:=58,sl:=[(4,.str uc),(12,.ptr 768 0),(14,.ptr 896 0),(35,.own 642240),(36,.int .i64 x),(37,.int .i64 oy)],hp:=[(448,.box 54 [.sl [.str] ta]),(768,.box 54 [.nil]),(896,.box 54 [.own 1509376]),(642240,.row 378 [.i,.i] oD false true),(1509376,.row 9 [.str] pH false true)],ok:=true,ls:=[],lm:=[]}
theorem nyn:D_ Tryz.prog 421 njG:=by
 refine qC (A:=ntn) nyo Tryz.func421 fun ds hw aP=> ?_
 replace hw:kd ((.sl [.i,.i,.i,.bool])::(na.ct++[.i,.i,.str,.bool])) ds:=hw
 obtain⟨Z,ds,rfl,_,hw⟩:=nW hw
 obtain⟨m,ds,rfl,U5,hw⟩:=na.nw (r:=_) hw
 obtain⟨O,ds,rfl,_,hw⟩:=nN hw
 obtain⟨at_,ds,rfl,_,hw⟩:=nN hw
 obtain⟨s,ds,rfl,vN,hw⟩:=rA hw
 obtain⟨write,rfl,_⟩:=zB hw
 obtain⟨N,hN⟩:=nym Vm.kf ntp Z m O at_ s write U5 vN aP
 exact⟨N,eL (fun l_=>njH Vm.kf ntp l_ Z m O at_ s write) (funext fun x=>funext fun oD=>nL3 (LW Tryz.prog nto ntn N Tryz.f421 njG [true,true,true,true,false,true,false] []) (fun uc oy pH=>nxS uc x oy m.nP oD pH) _ N) hN⟩
def Oq:Sum:= {ps:=[⟨[.sl [.i,.i,.i,.bool]],false⟩,⟨na.ct,true⟩,⟨[.i],false⟩,⟨[.i],false⟩,⟨[.str],false⟩],rs:=[⟨[.own 9 [.str]],true⟩,⟨[.ef .bool],false⟩],fn:=fun ds=>(sM (rR ds 0) (na.nc ds 1) (rI ds 2) (rI ds 3) (rS ds 4),na.enc (rk (rR ds 0) (na.nc ds 1) (rI ds 2) (rI ds 3) (rS ds 4)).1++[.bool (rk (rR ds 0) (na.nc ds 1) (rI ds 2) (rI ds 3) (rS ds 4)).2])}
theorem Tk:D_ Tryz.prog 374 Oq:=by
 refine nD (Γ:=[(421,njG)]) (Ih nyn JD) Tryz.func374 fun ds hw aP=> ?_
 replace hw:kd ((.sl [.i,.i,.i,.bool])::(na.ct++[.i,.i,.str])) ds:=hw
 obtain⟨Z,ds,rfl,_,hw⟩:=nW hw
 obtain⟨m,ds,rfl,_,hw⟩:=na.nw (r:=_) hw
 obtain⟨O,ds,rfl,_,hw⟩:=nN hw
 obtain⟨at_,ds,rfl,_,hw⟩:=nN hw
 obtain⟨s,rfl,_⟩:=oC hw
 exact⟨0,eT (np2 Vm.kf (fun r0 r1=>((true,na.enc r0++[.bool r1]):kM)) Z m O at_ s aP)⟩
def W0:Sum:= {ps:=[⟨[.sl [.i,.i,.i,.bool]],false⟩,⟨[.i],false⟩,⟨[.i],false⟩,⟨[.bool],false⟩],rs:=[⟨[.ef .i],false⟩],fn:=fun ds=>(true,[.int (w7 (rR ds 0) (rI ds 1) (rI ds 2) (rB ds 3))])}
def ngD:List (Nat×lE):=[(2, {cl:=[(0,.mP),(1,.mP),(2,.mP),(3,.mP),(9,.mP)],boxes:=[]})]
def ngE:Int→kM:=(fun r0=>((true,[.int r0]):kM))
def nsl (Z:Rows) (O oP:Int) (write:Bool) (k:Int):St:= {n:=48,sl:=[(0,.sl [.i,.i,.i,.bool] Z),(1,.int .i64 O),(2,.int .i64 oP),(3,.bool write),(9,.int .i64 k)],hp:=[],ok:=true,ls:=[],lm:=[]}
theorem nuW:D_ Tryz.prog 343 W0:=by
 refine qC (A:=ngD) JD Tryz.func343 fun ds (hw:kd ([.sl [.i,.i,.i,.bool],.i,.i,.bool]) ds) _=> ?_
 obtain⟨Z,ds,rfl,qh,hw⟩:=nW hw
 obtain⟨O,ds,rfl,_,hw⟩:=nN hw
 obtain⟨oP,ds,rfl,_,hw⟩:=nN hw
 obtain⟨write,rfl,_⟩:=zB hw
 obtain⟨N,hN⟩:=nuV Vm.kf ngE Z O oP write qh
 exact⟨N,eL (fun l_=>W1 Vm.kf ngE l_ Z O oP write) (nL1 (LW Tryz.prog [] ngD N Tryz.f343 W0 [true,false,true,false] []) (nsl Z O oP write) _ N) hN⟩
def O1:Sum:= {ps:=[⟨[.sl [.i,.i,.i,.bool]],false⟩,⟨na.ct,true⟩,⟨[.i],false⟩,⟨[.i],false⟩,⟨[.i],false⟩,⟨[.bool],false⟩],rs:=[⟨[.own 3 [.i]],false⟩,⟨[.own 3 [.i]],false⟩,⟨[.ef .bool],false⟩],fn:=fun ds=>(true,[.sl (zx (rR ds 0) (na.nc ds 1) (rI ds 2) (rI ds 3) (rI ds 4) (rB ds 5)).1]++[.sl (zx (rR ds 0) (na.nc ds 1) (rI ds 2) (rI ds 3) (rI ds 4) (rB ds 5)).2.1]++[.bool (zx (rR ds 0) (na.nc ds 1) (rI ds 2) (rI ds 3) (rI ds 4) (rB ds 5)).2.2])}
def neb:Ctx:=[(37,nH),(134,sF),(135,sb),(343,W0),(344,uU)]
theorem nsn:bN Tryz.prog neb:=Ih oT (Ih TR (Ih Yo (Ih nuW (Ih R9 JD))))
def nea:List (Nat×lE):=[(5, {cl:=[(0,.mP),(2,.mP),(3,.mP),(4,.mP),(5,.mP),(7,.mP),(15,.mP),(16,.mP)],boxes:=[(448,[])]})]
def nec:Rows→Rows→Bool→kM:=(fun r0 r1 r2=>((true,[.sl r0]++[.sl r1]++[.bool r2]):kM))
def npc (Z:Rows) (O sj n_1:Int) (write:Bool) (ta starts pX:Rows):St:= {n:=83,sl:=[(0,.sl [.i,.i,.i,.bool] Z),(2,.int .i64 O),(3,.int .i64 sj),(4,.int .i64 n_1),(5,.bool write),(7,.ptr 448 0),(15,.own 640960),(16,.own 641024)],hp:=[(448,.box 54 [.sl [.str] ta]),(640960,.row 3 [.i] starts false true),(641024,.row 3 [.i] pX false true)],ok:=true,ls:=[],lm:=[]}
theorem nee:D_ Tryz.prog 258 O1:=by
 refine qC (A:=nea) nsn Tryz.func258 fun ds hw _=> ?_
 replace hw:kd ((.sl [.i,.i,.i,.bool])::(na.ct++[.i,.i,.i,.bool])) ds:=hw
 obtain⟨Z,ds,rfl,_,hw⟩:=nW hw
 obtain⟨m,ds,rfl,U5,hw⟩:=na.nw (r:=_) hw
 obtain⟨O,ds,rfl,_,hw⟩:=nN hw
 obtain⟨at_,ds,rfl,PM,hw⟩:=nN hw
 obtain⟨n,ds,rfl,_,hw⟩:=nN hw
 obtain⟨write,rfl,_⟩:=zB hw
 obtain⟨N,hN⟩:=nsm Vm.kf nec Z m O at_ n write U5 PM
 exact⟨N,eL (fun l_=>TZ Vm.kf nec l_ Z m O at_ n write) (funext fun ta=>nL4 (LW Tryz.prog neb nea N Tryz.f258 O1 [true,true,true,true,false,false] []) (fun sj n_1 starts pX=>npc Z O sj n_1 write ta starts pX) _ N) hN⟩
def uw:Sum:= {ps:=[⟨na.ct,true⟩,⟨[.i],false⟩,⟨[.i],false⟩],rs:=[⟨[.ef .str],false⟩,⟨[.ef .bool],false⟩],fn:=fun ds=>(true,[.str (ru (na.nc ds 0) (rI ds 1) (rI ds 2)).1]++[.bool (ru (na.nc ds 0) (rI ds 1) (rI ds 2)).2])}
def Xv:Ctx:=[(400,uU)]
theorem nk8:bN Tryz.prog Xv:=Ih YT JD
def Xu:List (Nat×lE):=[(4, {cl:=[(1,.mP),(2,.mP),(3,.mP),(8,.mP)],boxes:=[(192,[])]})]
def Xw:Bytes→Bool→kM:=(fun r0 r1=>((true,[.str r0]++[.bool r1]):kM))
def njm (sj n:Int) (ta oc:Rows):St:= {n:=50,sl:=[(1,.int .i64 sj),(2,.int .i64 n),(3,.ptr 192 0),(8,.own 640512)],hp:=[(192,.box 54 [.sl [.str] ta]),(640512,.row 5 [.int .u8] oc false true)],ok:=true,ls:=[],lm:=[]}
theorem nk7:D_ Tryz.prog 333 uw:=by
 refine qC (A:=Xu) nk8 Tryz.func333 fun ds hw _=> ?_
 replace hw:kd (na.ct++[.i,.i]) ds:=hw
 obtain⟨m,ds,rfl,U5,hw⟩:=na.nw (r:=_) hw
 obtain⟨at_,ds,rfl,_,hw⟩:=nN hw
 obtain⟨n,rfl,_⟩:=nx hw
 obtain⟨N,hN⟩:=nk6 Vm.kf Xw m at_ n U5
 exact⟨N,eL (fun l_=>Qh Vm.kf Xw l_ m at_ n) (funext fun ta=>Te (LW Tryz.prog Xv Xu N Tryz.f333 uw [true,true,true,false,false] []) (fun sj oc=>njm sj n ta oc) _ N) hN⟩
def Yr:Ctx:=[(344,uU)]
theorem nmL:bN Tryz.prog Yr:=Ih R9 JD
def Yq:List (Nat×lE):=[(4, {cl:=[(1,.mP),(2,.mP),(3,.mP),(8,.mP)],boxes:=[(192,[])]})]
def Ys:Bytes→Bool→kM:=(fun r0 r1=>((true,[.str r0]++[.bool r1]):kM))
def nkt (sj n_1:Int) (oc:Bytes) (ta:Rows):St:= {n:=44,sl:=[(1,.int .i64 sj),(2,.int .i64 n_1),(3,.ptr 192 0),(8,.str oc)],hp:=[(192,.box 54 [.sl [.str] ta])],ok:=true,ls:=[],lm:=[]}
theorem nmK:D_ Tryz.prog 259 uw:=by
 refine qC (A:=Yq) nmL Tryz.func259 fun ds hw _=> ?_
 replace hw:kd (na.ct++[.i,.i]) ds:=hw
 obtain⟨m,ds,rfl,U5,hw⟩:=na.nw (r:=_) hw
 obtain⟨at_,ds,rfl,_,hw⟩:=nN hw
 obtain⟨n,rfl,_⟩:=nx hw
 obtain⟨N,hN⟩:=nmJ Vm.kf Ys m at_ n U5
 exact⟨N,eL (fun l_=>QP Vm.kf Ys l_ m at_ n) (funext fun ta=>nL3 (LW Tryz.prog Yr Yq N Tryz.f259 uw [true,true,true,false,false] []) (fun sj n_1 oc=>nkt sj n_1 oc ta) _ N) hN⟩
def xk:Sum:= {ps:=[⟨[.sl [.i,.i,.i,.bool]],false⟩,⟨na.ct,true⟩,⟨[.i],false⟩,⟨[.i],false⟩,⟨[.i],false⟩],rs:=[⟨[.ef .str],false⟩,⟨[.ef .bool],false⟩],fn:=fun ds=>(true,[.str (yE (rR ds 0) (na.nc ds 1) (rI ds 2) (rI ds 3) (rI ds 4)).1]++[.bool (yE (rR ds 0) (na.nc ds 1) (rI ds 2) (rI ds 3) (rI ds 4)).2])}
def neH:Ctx:=[(332,Sr),(333,uw)]
theorem nsY:bN Tryz.prog neH:=Ih nij (Ih nk7 JD)
def neG:List (Nat×lE):=[(6, {cl:=[(6,.mP),(14,.mP),(30,.mP),(31,.mP),(32,.mP)],boxes:=[(384,[])]})]
def neI:Bytes→Bool→kM:=(fun r0 r1=>((true,[.str r0]++[.bool r1]):kM))
def np1 (oc:Bytes) (x oy:Int) (ta oD:Rows):St:= {n:=50,sl:=[(6,.ptr 384 0),(14,.str oc),(30,.own 641920),(31,.int .i64 x),(32,.int .i64 oy)],hp:=[(384,.box 54 [.sl [.str] ta]),(641920,.row 378 [.i,.i] oD false true)],ok:=true,ls:=[],lm:=[]}
theorem nsX:D_ Tryz.prog 242 xk:=by
 refine qC (A:=neG) nsY Tryz.func242 fun ds hw _=> ?_
 replace hw:kd ((.sl [.i,.i,.i,.bool])::(na.ct++[.i,.i,.i])) ds:=hw
 obtain⟨Z,ds,rfl,_,hw⟩:=nW hw
 obtain⟨m,ds,rfl,U5,hw⟩:=na.nw (r:=_) hw
 obtain⟨O,ds,rfl,_,hw⟩:=nN hw
 obtain⟨at_,ds,rfl,_,hw⟩:=nN hw
 obtain⟨n,rfl,_⟩:=nx hw
 obtain⟨N,hN⟩:=nsW Vm.kf neI Z m O at_ n U5
 exact⟨N,eL (fun l_=>U9 Vm.kf neI l_ Z m O at_ n) (funext fun x=>funext fun ta=>funext fun oD=>Te (LW Tryz.prog neH neG N Tryz.f242 xk [true,true,true,true,false,true,false] []) (fun oc oy=>np1 oc x oy ta oD) _ N) hN⟩
def nf7:Ctx:=[(258,O1),(259,uw)]
theorem nuv:bN Tryz.prog nf7:=Ih nee (Ih nmK JD)
def nf6:List (Nat×lE):=[(6, {cl:=[(6,.mP),(12,.mP),(13,.mP),(15,.mP),(16,.mP)],boxes:=[(384,[])]})]
def nf8:Bytes→Bool→kM:=(fun r0 r1=>((true,[.str r0]++[.bool r1]):kM))
def nrS (oc:Bytes) (k:Int) (ta starts pX:Rows):St:= {n:=54,sl:=[(6,.ptr 384 0),(12,.own 640768),(13,.own 640832),(15,.str oc),(16,.int .i64 k)],hp:=[(384,.box 54 [.sl [.str] ta]),(640768,.row 3 [.i] starts false true),(640832,.row 3 [.i] pX false true)],ok:=true,ls:=[],lm:=[]}
theorem nuu:D_ Tryz.prog 144 xk:=by
 refine qC (A:=nf6) nuv Tryz.func144 fun ds hw _=> ?_
 replace hw:kd ((.sl [.i,.i,.i,.bool])::(na.ct++[.i,.i,.i])) ds:=hw
 obtain⟨Z,ds,rfl,_,hw⟩:=nW hw
 obtain⟨m,ds,rfl,U5,hw⟩:=na.nw (r:=_) hw
 obtain⟨O,ds,rfl,_,hw⟩:=nN hw
 obtain⟨at_,ds,rfl,_,hw⟩:=nN hw
 obtain⟨n,rfl,_⟩:=nx hw
 obtain⟨N,hN⟩:=nut Vm.kf nf8 Z m O at_ n U5
 exact⟨N,eL (fun l_=>WG Vm.kf nf8 l_ Z m O at_ n) (funext fun ta=>funext fun starts=>funext fun pX=>Te (LW Tryz.prog nf7 nf6 N Tryz.f144 xk [true,true,true,true,false,true,false] []) (fun oc k=>nrS oc k ta starts pX) _ N) hN⟩
def uq:Sum:= {ps:=[⟨na.ct,true⟩],rs:=[⟨[.own 9 [.str]],true⟩],fn:=fun ds=>(sJ (na.nc ds 0),na.enc (n7 (na.nc ds 0)))}
theorem vH:D_ Tryz.prog 129 uq:=by
 refine nD JD Tryz.func129 fun ds (hw:kd (na.ct++[]) ds) aP=> ?_
 obtain⟨m,ds,rfl,_,hw⟩:=na.nw (r:=_) hw
 obtain rfl:=nk hw
 exact⟨0,eT (nuU Vm.kf (fun r0=>((true,na.enc r0):kM)) m aP)⟩
def Pp:Sum:= {ps:=[⟨na.ct,true⟩,⟨[.i],false⟩,⟨[.str],false⟩],rs:=[⟨[.own 9 [.str]],true⟩,⟨[.ef .bool],false⟩],fn:=fun ds=>(sO (na.nc ds 0) (rI ds 1) (rS ds 2),na.enc (qE (na.nc ds 0) (rI ds 1) (rS ds 2)).1++[.bool (qE (na.nc ds 0) (rI ds 1) (rS ds 2)).2])}
def WU:Ctx:=[(129,uq),(223,uB),(344,uU)]
theorem nkG:bN Tryz.prog WU:=Ih vH (Ih TV (Ih R9 JD))
def WT:List (Nat×lE):=[(4, {cl:=[(1,.mP),(2,.mP),(6,.mP),(8,.mP)],boxes:=[(192,[]),(384,[]),(512,[])]})]
def WV:na→Bool→kM:=(fun r0 r1=>((true,na.enc r0++[.bool r1]):kM))
def nhJ (sj:Int) (uc:Bytes) (ta pH:Rows):St:= {n:=53,sl:=[(1,.int .i64 sj),(2,.str uc),(6,.ptr 384 0),(8,.ptr 512 0)],hp:=[(192,.box 54 [.sl [.str] ta]),(384,.box 54 [.nil]),(512,.box 54 [.own 1411072]),(1411072,.row 9 [.str] pH false true)],ok:=true,ls:=[],lm:=[]}
theorem nkF:D_ Tryz.prog 405 Pp:=by
 refine qC (A:=WT) nkG Tryz.func405 fun ds hw aP=> ?_
 replace hw:kd (na.ct++[.i,.str]) ds:=hw
 obtain⟨m,ds,rfl,U5,hw⟩:=na.nw (r:=_) hw
 obtain⟨at_,ds,rfl,_,hw⟩:=nN hw
 obtain⟨s,rfl,_⟩:=oC hw
 obtain⟨N,hN⟩:=nkE Vm.kf WV m at_ s U5 aP
 exact⟨N,eL (fun l_=>Pq Vm.kf WV l_ m at_ s) (nL3 (LW Tryz.prog WU WT N Tryz.f405 Pp [true,true,true,false,false] []) (fun sj uc pH=>nhJ sj uc m.nP pH) _ N) hN⟩
def OT:Sum:= {ps:=[⟨[.sl [.i,.i,.i,.bool]],false⟩,⟨na.ct,true⟩,⟨[.i],false⟩,⟨[.i],false⟩,⟨[.str],false⟩],rs:=[⟨[.own 9 [.str]],true⟩,⟨[.ef .bool],false⟩],fn:=fun ds=>(sM (rR ds 0) (na.nc ds 1) (rI ds 2) (rI ds 3) (rS ds 4),na.enc (rk (rR ds 0) (na.nc ds 1) (rI ds 2) (rI ds 3) (rS ds 4)).1++[.bool (rk (rR ds 0) (na.nc ds 1) (rI ds 2) (rI ds 3) (rS ds 4)).2])}
def ndB:Ctx:=[(129,uq),(258,O1),(405,Pp)]
theorem nrU:bN Tryz.prog ndB:=Ih vH (Ih nee (Ih nkF JD))
def ndA:List (Nat×lE):=[(6, {cl:=[(4,.mP),(10,.mP),(12,.mP),(13,.mP),(15,.mP),(16,.mP)],boxes:=[(384,[]),(640,[]),(960,[])]})]
def ndC:na→Bool→kM:=(fun r0 r1=>((true,na.enc r0++[.bool r1]):kM))
def noS (uc:Bytes) (k:Int) (ta starts pX pH:Rows):St:= {n:=61,sl:=[(4,.str uc),(10,.ptr 640 0),(12,.own 640768),(13,.own 640832),(15,.ptr 960 0),(16,.int .i64 k)],hp:=[(384,.box 54 [.sl [.str] ta]),(640,.box 54 [.nil]),(960,.box 54 [.own 1525760]),(640768,.row 3 [.i] starts false true),(640832,.row 3 [.i] pX false true),(1525760,.row 9 [.str] pH false true)],ok:=true,ls:=[],lm:=[]}
theorem ndE:D_ Tryz.prog 348 OT:=by
 refine qC (A:=ndA) nrU Tryz.func348 fun ds hw aP=> ?_
 replace hw:kd ((.sl [.i,.i,.i,.bool])::(na.ct++[.i,.i,.str])) ds:=hw
 obtain⟨Z,ds,rfl,_,hw⟩:=nW hw
 obtain⟨m,ds,rfl,U5,hw⟩:=na.nw (r:=_) hw
 obtain⟨O,ds,rfl,_,hw⟩:=nN hw
 obtain⟨at_,ds,rfl,_,hw⟩:=nN hw
 obtain⟨s,rfl,vN⟩:=oC hw
 obtain⟨N,hN⟩:=nrT Vm.kf ndC Z m O at_ s U5 vN aP
 exact⟨N,eL (fun l_=>TM Vm.kf ndC l_ Z m O at_ s) (funext fun starts=>funext fun pX=>nL3 (LW Tryz.prog ndB ndA N Tryz.f348 OT [true,true,true,true,false,true,false] []) (fun uc k pH=>noS uc k m.nP starts pX pH) _ N) hN⟩
def QT:Sum:= {ps:=[⟨nE.ct,true⟩],rs:=[⟨[.ef .i,.ef .bool,.own 3 [.i]],true⟩],fn:=fun ds=>(nkU (nE.nc ds 0),nE.enc (n7 (nE.nc ds 0)))}
theorem nu2:D_ Tryz.prog 132 QT:=by
 refine nD JD Tryz.func132 fun ds (hw:kd (nE.ct++[]) ds) aP=> ?_
 obtain⟨f,ds,rfl,_,hw⟩:=nE.nw (r:=_) hw
 obtain rfl:=nk hw
 exact⟨0,eT (nu1 Vm.kf (fun r0=>((true,nE.enc r0):kM)) f aP)⟩
theorem nld:D_ Tryz.prog 164 QT:=by
 refine nD (Γ:=[(168,vY)]) (Ih yn JD) Tryz.func164 fun ds (hw:kd (nE.ct++[]) ds) aP=> ?_
 obtain⟨f,ds,rfl,_,hw⟩:=nE.nw (r:=_) hw
 obtain rfl:=nk hw
 exact⟨0,eT (nlc Vm.kf (fun r0=>((true,nE.enc r0):kM)) f aP)⟩
def QQ:Sum:= {ps:=[⟨ni.ct,true⟩],rs:=[⟨[.own 264 [.i,.i,.i,.i,.i,.i,.i]],true⟩],fn:=fun ds=>(nmV (ni.nc ds 0),ni.enc (n7 (ni.nc ds 0)))}
theorem nuP:D_ Tryz.prog 249 QQ:=by
 refine nD JD Tryz.func249 fun ds (hw:kd (ni.ct++[]) ds) aP=> ?_
 obtain⟨t,ds,rfl,_,hw⟩:=ni.nw (r:=_) hw
 obtain rfl:=nk hw
 exact⟨0,eT (nuO Vm.kf (fun r0=>((true,ni.enc r0):kM)) t aP)⟩
theorem nns:D_ Tryz.prog 275 QQ:=by
 refine nD JD Tryz.func275 fun ds (hw:kd (ni.ct++[]) ds) aP=> ?_
 obtain⟨t,ds,rfl,_,hw⟩:=ni.nw (r:=_) hw
 obtain rfl:=nk hw
 exact⟨0,eT (nnr Vm.kf (fun r0=>((true,ni.enc r0):kM)) t aP)⟩
def XF:Sum:= {ps:=[⟨nB.ct,true⟩],rs:=[⟨[.ef .str,.own 3 [.i]],true⟩],fn:=fun ds=>(nx9 (nB.nc ds 0),nB.enc (n7 (nB.nc ds 0)))}
theorem nlg:D_ Tryz.prog 276 XF:=by
 refine nD (Γ:=[(168,vY)]) (Ih yn JD) Tryz.func276 fun ds (hw:kd (nB.ct++[]) ds) aP=> ?_
 obtain⟨s,ds,rfl,_,hw⟩:=nB.nw (r:=_) hw
 obtain rfl:=nk hw
 exact⟨0,eT (nlf Vm.kf (fun r0=>((true,nB.enc r0):kM)) s aP)⟩
def QS:Sum:= {ps:=[⟨nm.ct,true⟩],rs:=[⟨[.own 260 [.i,.i,.i,.i,.i,.i,.i,.i,.i],.own 264 [.i,.i,.i,.i,.i,.i,.i],.ef .str,.own 3 [.i]],true⟩],fn:=fun ds=>(nbu (nm.nc ds 0),nm.enc (n7 (nm.nc ds 0)))}
theorem nuT:D_ Tryz.prog 133 QS:=by
 refine nD (Γ:=[(249,QQ)]) (Ih nuP JD) Tryz.func133 fun ds (hw:kd (nm.ct++[]) ds) aP=> ?_
 obtain⟨s,ds,rfl,_,hw⟩:=nm.nw (r:=_) hw
 obtain rfl:=nk hw
 exact⟨0,eT (nuS Vm.kf (fun r0=>((true,nm.enc r0):kM)) s aP)⟩
theorem nhh:D_ Tryz.prog 165 QS:=by
 refine nD (Γ:=[(275,QQ),(276,XF)]) (Ih nns (Ih nlg JD)) Tryz.func165 fun ds (hw:kd (nm.ct++[]) ds) aP=> ?_
 obtain⟨s,ds,rfl,_,hw⟩:=nm.nw (r:=_) hw
 obtain rfl:=nk hw
 exact⟨0,eT (nhg Vm.kf (fun r0=>((true,nm.enc r0):kM)) s aP)⟩
def Ue:Sum:= {ps:=[⟨[.sl [.i,.i,.i,.bool]],false⟩],rs:=[⟨[.own 222 [.i,.i,.i,.bool]],false⟩],fn:=fun ds=>(sm (rR ds 0),[.sl (n7 (rR ds 0))])}
theorem nhf:D_ Tryz.prog 161 Ue:=by
 refine nD JD Tryz.func161 fun ds (hw:kd ([.sl [.i,.i,.i,.bool]]) ds) aP=> ?_
 obtain⟨Z,rfl,_⟩:=pL hw
 exact⟨0,eT (nhe Vm.kf (fun r0=>((true,[.sl r0]):kM)) Z aP)⟩
def VC:Sum:= {ps:=[⟨[.sl [.i,.i,.i,.i,.i,.i,.str,.bool]],false⟩],rs:=[⟨[.own 236 [.i,.i,.i,.i,.i,.i,.str,.bool]],false⟩],fn:=fun ds=>(sm (rR ds 0),[.sl (n7 (rR ds 0))])}
theorem njD:D_ Tryz.prog 166 VC:=by
 refine nD JD Tryz.func166 fun ds (hw:kd ([.sl [.i,.i,.i,.i,.i,.i,.str,.bool]]) ds) aP=> ?_
 obtain⟨Z,rfl,_⟩:=pL hw
 exact⟨0,eT (njC Vm.kf (fun r0=>((true,[.sl r0]):kM)) Z aP)⟩
def Tz:Sum:= {ps:=[⟨[.sl [.i,.i,.sl [.i]]],false⟩],rs:=[⟨[.deep 293 [.i,.i,.sl [.i]] [3]],false⟩],fn:=fun ds=>(QE (rR ds 0),[.sl (n7 (rR ds 0))])}
def ncL:Ctx:=[(1125899906842630,J7),(1125899906842646,J7),(1125899906842647,J7),(168,vY)]
theorem nqB:bN Tryz.prog ncL:=Ih Lv (Ih Lv (Ih Lv (Ih yn JD)))
def ncK:List (Nat×lE):=[(3, {cl:=[(3,.mP),(7,.mP),(8,.mP),(9,.mP)],boxes:=[]})]
def ncM:Rows→kM:=(fun r0=>((true,[.sl r0]):kM))
def nnq (Z:Rows) (oy oD:Int) (oc:Rows):St:= {n:=26,sl:=[(3,.own 640192),(7,.sl [.i,.i,.sl [.i]] Z),(8,.int .i64 oy),(9,.int .i64 oD)],hp:=[(640192,.deep 293 [.i,.i,.sl [.i]] [3] oc none)],ok:=true,ls:=[],lm:=[]}
theorem nqA:D_ Tryz.prog 274 Tz:=by
 refine qC (A:=ncK) nqB Tryz.func274 fun ds (hw:kd ([.sl [.i,.i,.sl [.i]]]) ds) aP=> ?_
 obtain⟨Z,rfl,qh⟩:=pL hw
 obtain⟨N,hN⟩:=nqz Vm.kf ncM Z qh aP
 exact⟨N,eL (fun l_=>TA Vm.kf ncM l_ Z) (funext fun oy=>Te (LW Tryz.prog ncL ncK N Tryz.f274 Tz [true,true,false,true,false] []) (nnq Z oy) _ N) hN⟩
def zF:Sum:= {ps:=[⟨nt.ct,true⟩],rs:=[⟨[.ef .i,.ef .i,.ef .i,.ef .i,.ef .i,.ef .i,.ef .i,.own 3 [.i],.deep 293 [.i,.i,.sl [.i]] [3],.ef .i],true⟩],fn:=fun ds=>(nu9 (nt.nc ds 0),nt.enc (n7 (nt.nc ds 0)))}
def ngI:Ctx:=[(1125899906842661,J7),(1125899906842662,J7),(131,tK)]
theorem nu0:bN Tryz.prog ngI:=Ih Lv (Ih Lv (Ih W3 JD))
def ngH:List (Nat×lE):=[(3, {cl:=[(1,.mP),(2,.mP),(3,.mP),(4,.mP)],boxes:=[(64,[]),(128,[]),(192,[(8,.deep 293 [3])])]})]
def ngJ:nt→kM:=(fun r0=>((true,nt.enc r0):kM))
def nso (k q_1 q_2 q_3 q_4 q_5 q_6 q_7:Int) (q_8 Y9:Rows) (nzZ b2 nzu nzC nzD nzE nzF nzG nzH oc qR qS qT qU qV qW qX:Int) (Ns nf0:Rows):St:= {n:=41,sl:=[(1,.ptr 64 0),(2,.ptr 128 0),(3,.ptr 192 0),(4,.int .i64 k)],hp:=[(64,.box 60 [.int .i64 q_1,.int .i64 q_2,.int .i64 q_3,.int .i64 q_4,.int .i64 q_5,.int .i64 q_6,.int .i64 q_7,.sl [.i] q_8,.sl [.i,.i,.sl [.i]] Y9,.int .i64 nzZ]),(128,.box 60 [.int .i64 b2,.int .i64 nzu,.int .i64 nzC,.int .i64 nzD,.int .i64 nzE,.int .i64 nzF,.int .i64 nzG,.nil,.nil,.int .i64 nzH]),(192,.box 60 [.int .i64 oc,.int .i64 qR,.int .i64 qS,.int .i64 qT,.int .i64 qU,.int .i64 qV,.int .i64 qW,.own 1329159,.own 1329160,.int .i64 qX]),(1329159,.row 3 [.i] Ns false true),(1329160,.deep 293 [.i,.i,.sl [.i]] [3] nf0 none)],ok:=true,ls:=[],lm:=[]}
theorem nuZ:D_ Tryz.prog 130 zF:=by
 refine qC (A:=ngH) nu0 Tryz.func130 fun ds (hw:kd (nt.ct++[]) ds) aP=> ?_
 obtain⟨q,ds,rfl,h_q,hw⟩:=nt.nw (r:=_) hw
 obtain rfl:=nk hw
 obtain⟨N,hN⟩:=nuY Vm.kf ngJ q h_q aP
 exact⟨N,eL (fun l_=>W4 Vm.kf ngJ l_ q) (funext fun Y9=>funext fun oc=>funext fun qR=>funext fun qS=>funext fun qT=>funext fun qU=>funext fun qV=>funext fun qW=>funext fun qX=>funext fun Ns=>Te (LW Tryz.prog ngI ngH N Tryz.f130 zF [true,true,false,true,false] []) (fun k nf0=>nso k q.Ring.qk q.Ring.nO q.Ring.Head q.Ring.wI q.oq.qk q.oq.nO q.oq.Count q.oq.qs Y9 q.Next 0 0 0 0 0 0 0 0 oc qR qS qT qU qV qW qX Ns nf0) _ N) hN⟩
theorem nvu:D_ Tryz.prog 162 zF:=by
 refine nD (Γ:=[(163,tK),(274,Tz)]) (Ih Ty (Ih nqA JD)) Tryz.func162 fun ds (hw:kd (nt.ct++[]) ds) aP=> ?_
 obtain⟨q,ds,rfl,_,hw⟩:=nt.nw (r:=_) hw
 obtain rfl:=nk hw
 exact⟨0,eT (nvt Vm.kf (fun r0=>((true,nt.enc r0):kM)) q aP)⟩
def vX:Sum:= {ps:=[⟨ny.ct,true⟩],rs:=[⟨[.own 9 [.str],.own 222 [.i,.i,.i,.bool],.ef .i,.ef .i,.ef .i,.ef .i,.ef .i,.ef .i,.ef .i,.own 3 [.i],.deep 293 [.i,.i,.sl [.i]] [3],.ef .i,.own 104 [.i,.i,.i,.i,.i,.i,.i,.i,.i,.i,.i,.i,.i,.i,.i,.i,.i,.i,.i,.i,.i,.i,.i,.i,.i,.str,.i,.i,.bool,.i],.deep 57 [.i,.i,.i,.sl [.i]] [3],.own 107 [.i,.i,.i,.i,.bool,.bool],.own 4 [.bool],.ef .i,.ef .bool,.own 3 [.i],.own 260 [.i,.i,.i,.i,.i,.i,.i,.i,.i],.own 264 [.i,.i,.i,.i,.i,.i,.i],.ef .str,.own 3 [.i],.own 236 [.i,.i,.i,.i,.i,.i,.str,.bool],.ef .bool,.own 9 [.str],.own 3 [.i],.own 3 [.i],.ef .i,.ef .i,.ef .i,.ef .i,.ef .i],true⟩],fn:=fun ds=>(xh (ny.nc ds 0),ny.enc (n7 (ny.nc ds 0)))}
def ncF:Ctx:=[(1125899906842648,J7),(1125899906842661,J7),(1125899906842662,J7),(160,sN),(161,Ue),(162,zF),(163,tK),(164,QT),(165,QS),(166,VC),(167,O8),(168,vY)]
theorem nqw:bN Tryz.prog ncF:=Ih Lv (Ih Lv (Ih Lv (Ih tv (Ih nhf (Ih nvu (Ih Ty (Ih nld (Ih nhh (Ih njD (Ih VE (Ih yn JD)))))))))))
def ncE:List (Nat×lE):=[(8, {cl:=[(1,.mP),(2,.mP),(3,.mP),(27,.mP),(28,.mP),(29,.mP)],boxes:=[(64,[]),(128,[]),(192,[])]})]
def ncG:ny→kM:=(fun r0=>((true,ny.enc r0):kM))
def nnp (x:Rows) (oy oD:Int) (h_1 h_2:Rows) (h_3 h_4 h_5 h_6 h_7 h_8 h_9:Int) (xE xF:Rows) (xG:Int) (ry qz pe ra:Rows) (rn:Int) (rp:Bool) (rb pM pN:Rows) (pR:Bytes) (pO re:Rows) (xH:Bool) (rh ri rj:Rows) (rE rF rG rH rJ b2 nzu nzC nzD nzE nzF nzG nzH nAF:Int) (nAG:Bool) (nzv:Bytes) (nzw:Bool) (nzx nzy nzz nzA nzB oc qR qS qT qU qV qW qX:Int) (nf0 nzY:Rows) (nyu:Int) (nyv:Bool) (nyw nyx nyy:Rows) (nyz:Bytes) (nyA nyB:Rows) (qI:Bool) (nyC nyD nyE:Rows) (qJ qK qL qM qN:Int) (pH pS pT oV oW vv:Rows):St:= {n:=76,sl:=[(1,.ptr 64 0),(2,.ptr 128 0),(3,.ptr 192 0),(27,.sl [.i,.i,.i,.sl [.i]] x),(28,.int .i64 oy),(29,.int .i64 oD)],hp:=[(64,.box 75 [.sl [.str] h_1,.sl [.i,.i,.i,.bool] h_2,.int .i64 h_3,.int .i64 h_4,.int .i64 h_5,.int .i64 h_6,.int .i64 h_7,.int .i64 h_8,.int .i64 h_9,.sl [.i] xE,.sl [.i,.i,.sl [.i]] xF,.int .i64 xG,.sl [.i,.i,.i,.i,.i,.i,.i,.i,.i,.i,.i,.i,.i,.i,.i,.i,.i,.i,.i,.i,.i,.i,.i,.i,.i,.str,.i,.i,.bool,.i] ry,.sl [.i,.i,.i,.sl [.i]] qz,.sl [.i,.i,.i,.i,.bool,.bool] pe,.sl [.bool] ra,.int .i64 rn,.bool rp,.sl [.i] rb,.sl [.i,.i,.i,.i,.i,.i,.i,.i,.i] pM,.sl [.i,.i,.i,.i,.i,.i,.i] pN,.str pR,.sl [.i] pO,.sl [.i,.i,.i,.i,.i,.i,.str,.bool] re,.bool xH,.sl [.str] rh,.sl [.i] ri,.sl [.i] rj,.int .i64 rE,.int .i64 rF,.int .i64 rG,.int .i64 rH,.int .i64 rJ]),(128,.box 75 [.nil,.nil,.int .i64 b2,.int .i64 nzu,.int .i64 nzC,.int .i64 nzD,.int .i64 nzE,.int .i64 nzF,.int .i64 nzG,.nil,.nil,.int .i64 nzH,.nil,.nil,.nil,.nil,.int .i64 nAF,.bool nAG,.nil,.nil,.nil,.str nzv,.nil,.nil,.bool nzw,.nil,.nil,.nil,.int .i64 nzx,.int .i64 nzy,.int .i64 nzz,.int .i64 nzA,.int .i64 nzB]),(192,.box 75 [.own 1329152,.own 1329153,.int .i64 oc,.int .i64 qR,.int .i64 qS,.int .i64 qT,.int .i64 qU,.int .i64 qV,.int .i64 qW,.own 1329161,.own 1329162,.int .i64 qX,.own 1329164,.own 1329165,.sl [.i,.i,.i,.i,.bool,.bool] nf0,.sl [.bool] nzY,.int .i64 nyu,.bool nyv,.sl [.i] nyw,.sl [.i,.i,.i,.i,.i,.i,.i,.i,.i] nyx,.sl [.i,.i,.i,.i,.i,.i,.i] nyy,.str nyz,.sl [.i] nyA,.sl [.i,.i,.i,.i,.i,.i,.str,.bool] nyB,.bool qI,.sl [.str] nyC,.sl [.i] nyD,.sl [.i] nyE,.int .i64 qJ,.int .i64 qK,.int .i64 qL,.int .i64 qM,.int .i64 qN]),(1329152,.row 9 [.str] pH false true),(1329153,.row 222 [.i,.i,.i,.bool] pS false true),(1329161,.row 3 [.i] pT false true),(1329162,.deep 293 [.i,.i,.sl [.i]] [3] oV none),(1329164,.row 104 [.i,.i,.i,.i,.i,.i,.i,.i,.i,.i,.i,.i,.i,.i,.i,.i,.i,.i,.i,.i,.i,.i,.i,.i,.i,.str,.i,.i,.bool,.i] oW false true),(1329165,.deep 57 [.i,.i,.i,.sl [.i]] [3] vv none)],ok:=true,ls:=[],lm:=[]}
theorem nqv:D_ Tryz.prog 54 vX:=by
 refine qC (A:=ncE) nqw Tryz.func54 fun ds (hw:kd (ny.ct++[]) ds) aP=> ?_
 obtain⟨h,ds,rfl,h_h,hw⟩:=ny.nw (r:=_) hw
 obtain rfl:=nk hw
 obtain⟨N,hN⟩:=nqu Vm.kf ncG h h_h aP
 exact⟨N,eL (fun l_=>Tw Vm.kf ncG l_ h) (funext fun x=>funext fun oy=>funext fun pe=>funext fun ra=>funext fun rn=>funext fun rp=>funext fun rb=>funext fun pM=>funext fun pN=>funext fun pR=>funext fun pO=>funext fun re=>funext fun rh=>funext fun ri=>funext fun rj=>funext fun oc=>funext fun qR=>funext fun qS=>funext fun qT=>funext fun qU=>funext fun qV=>funext fun qW=>funext fun qX=>funext fun qI=>funext fun qJ=>funext fun qK=>funext fun qL=>funext fun qM=>funext fun qN=>funext fun pH=>funext fun pS=>funext fun pT=>funext fun oV=>funext fun oW=>Te (LW Tryz.prog ncF ncE N Tryz.f54 vX [true,true,true,true,true,true,true,false,true,false] []) (fun oD vv=>nnp x oy oD h.ox.nP h.Maps h.Tx.Ring.qk h.Tx.Ring.nO h.Tx.Ring.Head h.Tx.Ring.wI h.Tx.oq.qk h.Tx.oq.nO h.Tx.oq.Count h.Tx.oq.qs h.Tx.nK h.Tx.Next h.Rx h.og pe ra rn rp rb pM pN pR pO re h.qe rh ri rj h.Counters.Frames h.Counters.Bad h.Counters.qj h.Counters.qQ h.Counters.uf 0 0 0 0 0 0 0 0 0 false [] false 0 0 0 0 0 oc qR qS qT qU qV qW qX h.nS h.oQ h.Filter.Mac h.Filter.pI h.Filter.pV h.nv.ot h.nv.Table.nC h.nv.nX.Key h.nv.nX.Table h.pJ qI h.vM h.oF h.oY qJ qK qL qM qN pH pS pT oV oW vv) _ N) hN⟩
def ngN:Ctx:=[(1125899906842648,J7),(1125899906842665,J7),(1125899906842666,J7),(129,uq),(130,zF),(131,tK),(132,QT),(133,QS)]
theorem nu6:bN Tryz.prog ngN:=Ih Lv (Ih Lv (Ih Lv (Ih vH (Ih nuZ (Ih W3 (Ih nu2 (Ih nuT JD)))))))
def ngM:List (Nat×lE):=[(8, {cl:=[(1,.mP),(2,.mP),(3,.mP),(4,.mP)],boxes:=[(64,[]),(128,[]),(192,[])]})]
def ngO:ny→kM:=(fun r0=>((true,ny.enc r0):kM))
def nsv (k:Int) (h_1 h_2:Rows) (h_3 h_4 h_5 h_6 h_7 h_8 h_9:Int) (xE xF:Rows) (xG:Int) (ry qz pe ra:Rows) (rn:Int) (rp:Bool) (rb pM pN:Rows) (pR:Bytes) (pO re:Rows) (xH:Bool) (rh ri rj:Rows) (rE rF rG rH rJ b2 nzu nzC nzD nzE nzF nzG nzH nAF:Int) (nAG:Bool) (nzv:Bytes) (nzw:Bool) (nzx nzy nzz nzA nzB oc qR qS qT qU qV qW qX:Int) (nf0 nzY:Rows) (nyu:Int) (nyv:Bool) (nyw nyx nyy:Rows) (nyz:Bytes) (nyA nyB:Rows) (qI:Bool) (nyC nyD nyE:Rows) (qJ qK qL qM qN:Int) (pH pS pT oV oW vv:Rows):St:= {n:=83,sl:=[(1,.ptr 64 0),(2,.ptr 128 0),(3,.ptr 192 0),(4,.int .i64 k)],hp:=[(64,.box 75 [.sl [.str] h_1,.sl [.i,.i,.i,.bool] h_2,.int .i64 h_3,.int .i64 h_4,.int .i64 h_5,.int .i64 h_6,.int .i64 h_7,.int .i64 h_8,.int .i64 h_9,.sl [.i] xE,.sl [.i,.i,.sl [.i]] xF,.int .i64 xG,.sl [.i,.i,.i,.i,.i,.i,.i,.i,.i,.i,.i,.i,.i,.i,.i,.i,.i,.i,.i,.i,.i,.i,.i,.i,.i,.str,.i,.i,.bool,.i] ry,.sl [.i,.i,.i,.sl [.i]] qz,.sl [.i,.i,.i,.i,.bool,.bool] pe,.sl [.bool] ra,.int .i64 rn,.bool rp,.sl [.i] rb,.sl [.i,.i,.i,.i,.i,.i,.i,.i,.i] pM,.sl [.i,.i,.i,.i,.i,.i,.i] pN,.str pR,.sl [.i] pO,.sl [.i,.i,.i,.i,.i,.i,.str,.bool] re,.bool xH,.sl [.str] rh,.sl [.i] ri,.sl [.i] rj,.int .i64 rE,.int .i64 rF,.int .i64 rG,.int .i64 rH,.int .i64 rJ]),(128,.box 75 [.nil,.nil,.int .i64 b2,.int .i64 nzu,.int .i64 nzC,.int .i64 nzD,.int .i64 nzE,.int .i64 nzF,.int .i64 nzG,.nil,.nil,.int .i64 nzH,.nil,.nil,.nil,.nil,.int .i64 nAF,.bool nAG,.nil,.nil,.nil,.str nzv,.nil,.nil,.bool nzw,.nil,.nil,.nil,.int .i64 nzx,.int .i64 nzy,.int .i64 nzz,.int .i64 nzA,.int .i64 nzB]),(192,.box 75 [.own 1329152,.own 1329153,.int .i64 oc,.int .i64 qR,.int .i64 qS,.int .i64 qT,.int .i64 qU,.int .i64 qV,.int .i64 qW,.own 1329161,.own 1329162,.int .i64 qX,.own 1329164,.own 1329165,.sl [.i,.i,.i,.i,.bool,.bool] nf0,.sl [.bool] nzY,.int .i64 nyu,.bool nyv,.sl [.i] nyw,.sl [.i,.i,.i,.i,.i,.i,.i,.i,.i] nyx,.sl [.i,.i,.i,.i,.i,.i,.i] nyy,.str nyz,.sl [.i] nyA,.sl [.i,.i,.i,.i,.i,.i,.str,.bool] nyB,.bool qI,.sl [.str] nyC,.sl [.i] nyD,.sl [.i] nyE,.int .i64 qJ,.int .i64 qK,.int .i64 qL,.int .i64 qM,.int .i64 qN]),(1329152,.row 9 [.str] pH false true),(1329153,.row 222 [.i,.i,.i,.bool] pS false true),(1329161,.row 3 [.i] pT false true),(1329162,.deep 293 [.i,.i,.sl [.i]] [3] oV none),(1329164,.row 104 [.i,.i,.i,.i,.i,.i,.i,.i,.i,.i,.i,.i,.i,.i,.i,.i,.i,.i,.i,.i,.i,.i,.i,.i,.i,.str,.i,.i,.bool,.i] oW false true),(1329165,.deep 57 [.i,.i,.i,.sl [.i]] [3] vv none)],ok:=true,ls:=[],lm:=[]}
theorem nu5:D_ Tryz.prog 35 vX:=by
 refine qC (A:=ngM) nu6 Tryz.func35 fun ds (hw:kd (ny.ct++[]) ds) aP=> ?_
 obtain⟨h,ds,rfl,h_h,hw⟩:=ny.nw (r:=_) hw
 obtain rfl:=nk hw
 obtain⟨N,hN⟩:=nu4 Vm.kf ngO h h_h aP
 exact⟨N,eL (fun l_=>W5 Vm.kf ngO l_ h) (funext fun qz=>funext fun pe=>funext fun ra=>funext fun rn=>funext fun rp=>funext fun rb=>funext fun pM=>funext fun pN=>funext fun pR=>funext fun pO=>funext fun re=>funext fun rh=>funext fun ri=>funext fun rj=>funext fun oc=>funext fun qR=>funext fun qS=>funext fun qT=>funext fun qU=>funext fun qV=>funext fun qW=>funext fun qX=>funext fun qI=>funext fun qJ=>funext fun qK=>funext fun qL=>funext fun qM=>funext fun qN=>funext fun pH=>funext fun pS=>funext fun pT=>funext fun oV=>funext fun oW=>Te (LW Tryz.prog ngN ngM N Tryz.f35 vX [true,true,true,true,true,true,true,false,true,false] []) (fun k vv=>nsv k h.ox.nP h.Maps h.Tx.Ring.qk h.Tx.Ring.nO h.Tx.Ring.Head h.Tx.Ring.wI h.Tx.oq.qk h.Tx.oq.nO h.Tx.oq.Count h.Tx.oq.qs h.Tx.nK h.Tx.Next h.Rx qz pe ra rn rp rb pM pN pR pO re h.qe rh ri rj h.Counters.Frames h.Counters.Bad h.Counters.qj h.Counters.qQ h.Counters.uf 0 0 0 0 0 0 0 0 0 false [] false 0 0 0 0 0 oc qR qS qT qU qV qW qX h.nS h.oQ h.Filter.Mac h.Filter.pI h.Filter.pV h.nv.ot h.nv.Table.nC h.nv.nX.Key h.nv.nX.Table h.pJ qI h.vM h.oF h.oY qJ qK qL qM qN pH pS pT oV oW vv) _ N) hN⟩
def Ql:Sum:= {ps:=[⟨nA.ct,true⟩],rs:=[⟨[.ef .i,.ef .i,.ef .i,.ef .i,.ef .bool,.ef .bool],true⟩],fn:=fun ds=>(true,nA.enc (nm4 (nA.nc ds 0)))}
theorem ntf:D_ Tryz.prog 170 Ql:=by
 refine nD (Γ:=[(238,Rj)]) (Ih nti JD) Tryz.func170 fun ds (hw:kd (nA.ct++[]) ds) _=> ?_
 obtain⟨v,ds,rfl,_,hw⟩:=nA.nw (r:=_) hw
 obtain rfl:=nk hw
 exact⟨0,eT (nte (fun r0=>((true,nA.enc r0):kM)) v)⟩
theorem nsu:D_ Tryz.prog 149 Ql:=by
 refine nD (Γ:=[(255,Rj)]) (Ih ni4 JD) Tryz.func149 fun ds (hw:kd (nA.ct++[]) ds) _=> ?_
 obtain⟨v,ds,rfl,_,hw⟩:=nA.nw (r:=_) hw
 obtain rfl:=nk hw
 exact⟨0,eT (nst (fun r0=>((true,nA.enc r0):kM)) v)⟩
def PY:Sum:= {ps:=[⟨[.str],false⟩,⟨[.i],false⟩],rs:=[⟨[.ef .i],false⟩],fn:=fun ds=>(true,[.int (pg (rS ds 0) (rI ds 1))])}
theorem UL:D_ Tryz.prog 334 PY:=by
 refine nD JD Tryz.func334 fun ds (hw:kd ([.str,.i]) ds) _=> ?_
 obtain⟨s,ds,rfl,vN,hw⟩:=rA hw
 obtain⟨at_,rfl,_⟩:=nx hw
 exact⟨0,eT (nw7 Vm.kf (fun r0=>((true,[.int r0]):kM)) s at_ vN)⟩
def Sj:Sum:= {ps:=[⟨qO.ct,true⟩],rs:=[⟨[.ef .bool],false⟩],fn:=fun ds=>(true,[.bool (nwR (qO.nc ds 0))])}
theorem nvl:D_ Tryz.prog 391 Sj:=by
 refine nD (Γ:=[(55,nH)]) (Ih oB JD) Tryz.func391 fun ds (hw:kd (qO.ct++[]) ds) _=> ?_
 obtain⟨x,ds,rfl,_,hw⟩:=qO.nw (r:=_) hw
 obtain rfl:=nk hw
 exact⟨0,eT (nhK (fun r0=>((true,[.bool r0]):kM)) x)⟩
theorem nwk:D_ Tryz.prog 350 Sj:=by
 refine nD (Γ:=[(37,nH)]) (Ih oT JD) Tryz.func350 fun ds (hw:kd (qO.ct++[]) ds) _=> ?_
 obtain⟨x,ds,rfl,_,hw⟩:=qO.nw (r:=_) hw
 obtain rfl:=nk hw
 exact⟨0,eT (nhK (fun r0=>((true,[.bool r0]):kM)) x)⟩
def xO:Sum:= {ps:=[⟨n8.ct,true⟩,⟨[.i],false⟩],rs:=[⟨[.ef .i],false⟩],fn:=fun ds=>(true,[.int (ue (n8.nc ds 0) (rI ds 4))])}
theorem njq:D_ Tryz.prog 371 xO:=by
 refine nD (Γ:=[(235,th)]) (Ih Sm JD) Tryz.func371 fun ds (hw:kd (n8.ct++[.i]) ds) _=> ?_
 obtain⟨r,ds,rfl,_,hw⟩:=n8.nw (r:=_) hw
 obtain⟨count,rfl,_⟩:=nx hw
 exact⟨0,eT (njp Vm.kf (fun r0=>((true,[.int r0]):kM)) r count)⟩
theorem nkx:D_ Tryz.prog 349 xO:=by
 refine nD (Γ:=[(250,th)]) (Ih SH JD) Tryz.func349 fun ds (hw:kd (n8.ct++[.i]) ds) _=> ?_
 obtain⟨r,ds,rfl,_,hw⟩:=n8.nw (r:=_) hw
 obtain⟨count,rfl,_⟩:=nx hw
 exact⟨0,eT (nkw Vm.kf (fun r0=>((true,[.int r0]):kM)) r count)⟩
def yF:Sum:= {ps:=[⟨qO.ct,true⟩],rs:=[⟨[.ef .str],false⟩],fn:=fun ds=>(true,[.str (UX (qO.nc ds 0))])}
theorem nkX:D_ Tryz.prog 324 yF:=by
 refine nD (Γ:=[(355,qi),(391,Sj),(392,qG)]) (Ih t8 (Ih nvl (Ih wK JD))) Tryz.func324 fun ds (hw:kd (qO.ct++[]) ds) _=> ?_
 obtain⟨x,ds,rfl,_,hw⟩:=qO.nw (r:=_) hw
 obtain rfl:=nk hw
 exact⟨0,eT (Xk Vm.kf (fun r0=>((true,[.str r0]):kM)) x)⟩
theorem nmB:D_ Tryz.prog 267 yF:=by
 refine nD (Γ:=[(264,qi),(350,Sj),(351,qG)]) (Ih uY (Ih nwk (Ih wQ JD))) Tryz.func267 fun ds (hw:kd (qO.ct++[]) ds) _=> ?_
 obtain⟨x,ds,rfl,_,hw⟩:=qO.nw (r:=_) hw
 obtain rfl:=nk hw
 exact⟨0,eT (Xk Vm.kf (fun r0=>((true,[.str r0]):kM)) x)⟩
def wh:Sum:= {ps:=[⟨[.str],false⟩],rs:=[⟨[.ef .i,.ef .i,.ef .i,.ef .i,.ef .i,.ef .i],true⟩,⟨[.ef .bool],false⟩],fn:=fun ds=>(true,qO.enc (oM (rS ds 0)).1++[.bool (oM (rS ds 0)).2])}
theorem Xh:D_ Tryz.prog 372 wh:=by
 refine nD (Γ:=[(324,yF),(334,PY),(335,t6)]) (Ih nkX (Ih UL (Ih UM JD))) Tryz.func372 fun ds (hw:kd ([.str]) ds) _=> ?_
 obtain⟨s,rfl,_⟩:=oC hw
 exact⟨0,eT (Xg Vm.kf (fun r0 r1=>((true,qO.enc r0++[.bool r1]):kM)) s)⟩
theorem nmA:D_ Tryz.prog 363 wh:=by
 refine nD (Γ:=[(267,yF),(341,t6),(342,Ny)]) (Ih nmB (Ih UP (Ih QG JD))) Tryz.func363 fun ds (hw:kd ([.str]) ds) _=> ?_
 obtain⟨s,rfl,_⟩:=oC hw
 exact⟨0,eT (Xg Vm.kf (fun r0 r1=>((true,qO.enc r0++[.bool r1]):kM)) s)⟩
def yk:Sum:= {ps:=[⟨[.sl [.i,.i,.i,.bool]],false⟩,⟨na.ct,true⟩,⟨[.i],false⟩,⟨n8.ct,true⟩],rs:=[⟨[.ef .str],false⟩,⟨[.ef .i,.ef .i,.ef .i,.ef .i],true⟩,⟨[.ef .bool],false⟩],fn:=fun ds=>(true,[.str (qp (rR ds 0) (na.nc ds 1) (rI ds 2) (n8.nc ds 3)).1]++n8.enc (qp (rR ds 0) (na.nc ds 1) (rI ds 2) (n8.nc ds 3)).2.1++[.bool (qp (rR ds 0) (na.nc ds 1) (rI ds 2) (n8.nc ds 3)).2.2])}
theorem nco:D_ Tryz.prog 306 yk:=by
 refine nD (Γ:=[(235,th),(242,xk),(328,vT),(371,xO)]) (Ih Sm (Ih nsX (Ih ncq (Ih njq JD)))) Tryz.func306 fun ds hw _=> ?_
 replace hw:kd ((.sl [.i,.i,.i,.bool])::(na.ct++(.i::(n8.ct++[])))) ds:=hw
 obtain⟨Z,ds,rfl,_,hw⟩:=nW hw
 obtain⟨m,ds,rfl,_,hw⟩:=na.nw (r:=_) hw
 obtain⟨O,ds,rfl,_,hw⟩:=nN hw
 obtain⟨r,ds,rfl,_,hw⟩:=n8.nw (r:=_) hw
 obtain rfl:=nk hw
 exact⟨0,eT (ncn Vm.kf (fun r0 r1 r2=>((true,[.str r0]++n8.enc r1++[.bool r2]):kM)) Z m O r)⟩
theorem nr9:D_ Tryz.prog 294 yk:=by
 refine nD (Γ:=[(144,xk),(250,th),(338,vT),(349,xO)]) (Ih nuu (Ih SH (Ih ndY (Ih nkx JD)))) Tryz.func294 fun ds hw _=> ?_
 replace hw:kd ((.sl [.i,.i,.i,.bool])::(na.ct++(.i::(n8.ct++[])))) ds:=hw
 obtain⟨Z,ds,rfl,_,hw⟩:=nW hw
 obtain⟨m,ds,rfl,_,hw⟩:=na.nw (r:=_) hw
 obtain⟨O,ds,rfl,_,hw⟩:=nN hw
 obtain⟨r,ds,rfl,_,hw⟩:=n8.nw (r:=_) hw
 obtain rfl:=nk hw
 exact⟨0,eT (ncn Vm.kf (fun r0 r1 r2=>((true,[.str r0]++n8.enc r1++[.bool r2]):kM)) Z m O r)⟩
def Ow:Sum:= {ps:=[⟨[.str],false⟩],rs:=[⟨[.ef .i,.ef .i,.ef .i,.ef .i,.ef .str],true⟩,⟨[.ef .bool],false⟩],fn:=fun ds=>(true,rl.enc (su (rS ds 0)).1++[.bool (su (rS ds 0)).2])}
theorem nqf:D_ Tryz.prog 297 Ow:=by
 refine nD (Γ:=[(334,PY),(335,t6),(366,zL)]) (Ih UL (Ih UM (Ih nkZ JD))) Tryz.func297 fun ds (hw:kd ([.str]) ds) _=> ?_
 obtain⟨s,rfl,vN⟩:=oC hw
 exact⟨0,eT (nqe Vm.kf (fun r0 r1=>((true,rl.enc r0++[.bool r1]):kM)) s vN)⟩
theorem nr7:D_ Tryz.prog 260 Ow:=by
 refine nD (Γ:=[(341,t6),(342,Ny),(345,zL)]) (Ih UP (Ih QG (Ih nmC JD))) Tryz.func260 fun ds (hw:kd ([.str]) ds) _=> ?_
 obtain⟨s,rfl,vN⟩:=oC hw
 exact⟨0,eT (nr6 Vm.kf (fun r0 r1=>((true,rl.enc r0++[.bool r1]):kM)) s vN)⟩
def Qd:Sum:= {ps:=[⟨[.str],false⟩],rs:=[⟨[.ef .i,.ef .i,.ef .i,.ef .i,.ef .i,.ef .i,.ef .str],true⟩,⟨[.ef .bool],false⟩],fn:=fun ds=>(true,wT.enc (xB (rS ds 0)).1++[.bool (xB (rS ds 0)).2])}
theorem ns6:D_ Tryz.prog 298 Qd:=by
 refine nD (Γ:=[(334,PY),(335,t6),(367,xi)]) (Ih UL (Ih UM (Ih neC JD))) Tryz.func298 fun ds (hw:kd ([.str]) ds) _=> ?_
 obtain⟨s,rfl,vN⟩:=oC hw
 exact⟨0,eT (neO Vm.kf (fun r0 r1=>((true,wT.enc r0++[.bool r1]):kM)) s vN)⟩
theorem nuD:D_ Tryz.prog 261 Qd:=by
 refine nD (Γ:=[(341,t6),(342,Ny),(346,xi)]) (Ih UP (Ih QG (Ih nf3 JD))) Tryz.func261 fun ds (hw:kd ([.str]) ds) _=> ?_
 obtain⟨s,rfl,vN⟩:=oC hw
 exact⟨0,eT (neO Vm.kf (fun r0 r1=>((true,wT.enc r0++[.bool r1]):kM)) s vN)⟩
def wW:Sum:= {ps:=[⟨[.i],false⟩,⟨[.i],false⟩,⟨[.i],false⟩,⟨[.str],false⟩],rs:=[⟨[.ef .i,.ef .i,.ef .i,.ef .i,.ef .i,.ef .i,.ef .i,.ef .str],true⟩,⟨[.ef .bool],false⟩],fn:=fun ds=>(true,nz.enc (zI (rI ds 0) (rI ds 1) (rI ds 2) (rS ds 3)).1++[.bool (zI (rI ds 0) (rI ds 1) (rI ds 2) (rS ds 3)).2])}
theorem nhb:D_ Tryz.prog 299 wW:=by
 refine nD (Γ:=[(334,PY),(335,t6),(368,tB)]) (Ih UL (Ih UM (Ih T3 JD))) Tryz.func299 fun ds (hw:kd ([.i,.i,.i,.str]) ds) _=> ?_
 obtain⟨src,ds,rfl,_,hw⟩:=nN hw
 obtain⟨dst,ds,rfl,_,hw⟩:=nN hw
 obtain⟨kind,ds,rfl,_,hw⟩:=nN hw
 obtain⟨s,rfl,vN⟩:=oC hw
 exact⟨0,eT (T_ Vm.kf (fun r0 r1=>((true,nz.enc r0++[.bool r1]):kM)) src dst kind s vN)⟩
theorem nhH:D_ Tryz.prog 262 wW:=by
 refine nD (Γ:=[(341,t6),(342,Ny),(347,tB)]) (Ih UP (Ih QG (Ih UD JD))) Tryz.func262 fun ds (hw:kd ([.i,.i,.i,.str]) ds) _=> ?_
 obtain⟨src,ds,rfl,_,hw⟩:=nN hw
 obtain⟨dst,ds,rfl,_,hw⟩:=nN hw
 obtain⟨kind,ds,rfl,_,hw⟩:=nN hw
 obtain⟨s,rfl,vN⟩:=oC hw
 exact⟨0,eT (T_ Vm.kf (fun r0 r1=>((true,nz.enc r0++[.bool r1]):kM)) src dst kind s vN)⟩
def zU:Sum:= {ps:=[⟨[.str],false⟩],rs:=[⟨[.ef .i,.ef .i,.ef .i,.ef .i,.ef .i,.ef .i,.ef .i,.ef .i,.ef .i,.ef .i,.ef .i,.ef .i,.ef .i,.ef .i,.ef .i,.ef .str],true⟩,⟨[.ef .i],false⟩],fn:=fun ds=>(true,nj.enc (vO (rS ds 0)).1++[.int (vO (rS ds 0)).2])}
theorem nni:D_ Tryz.prog 206 zU:=by
 refine nD (Γ:=[(209,qt),(297,Ow),(298,Qd),(299,wW)]) (Ih vr (Ih nqf (Ih ns6 (Ih nhb JD)))) Tryz.func206 fun ds (hw:kd ([.str]) ds) _=> ?_
 obtain⟨s,rfl,_⟩:=oC hw
 exact⟨0,eT (ZE (fun r0 r1=>((true,nj.enc r0++[.int r1]):kM)) s)⟩
theorem no7:D_ Tryz.prog 145 zU:=by
 refine nD (Γ:=[(195,qt),(260,Ow),(261,Qd),(262,wW)]) (Ih vG (Ih nr7 (Ih nuD (Ih nhH JD)))) Tryz.func145 fun ds (hw:kd ([.str]) ds) _=> ?_
 obtain⟨s,rfl,_⟩:=oC hw
 exact⟨0,eT (ZE (fun r0 r1=>((true,nj.enc r0++[.int r1]):kM)) s)⟩
def Qk:Sum:= {ps:=[⟨[.str],false⟩],rs:=[⟨[.ef .str],false⟩],fn:=fun ds=>(ss (rS ds 0),[.str (nkR (rS ds 0))])}
theorem ntd:D_ Tryz.prog 296 Qk:=by
 refine nD (Γ:=[(365,wg)]) (Ih nw6 JD) Tryz.func296 fun ds (hw:kd ([.str]) ds) aP=> ?_
 obtain⟨s,rfl,_⟩:=oC hw
 exact⟨0,eT (ne3 Vm.kf (fun r0=>((true,[.str r0]):kM)) s aP)⟩
theorem nuK:D_ Tryz.prog 288 Qk:=by
 refine nD (Γ:=[(359,wg)]) (Ih nxo JD) Tryz.func288 fun ds (hw:kd ([.str]) ds) aP=> ?_
 obtain⟨s,rfl,_⟩:=oC hw
 exact⟨0,eT (ne3 Vm.kf (fun r0=>((true,[.str r0]):kM)) s aP)⟩
def tC:Sum:= {ps:=[⟨nI.ct,true⟩],rs:=[⟨[.ef .bool],false⟩],fn:=fun ds=>(true,[.bool (uP (nI.nc ds 0))])}
theorem T6:D_ Tryz.prog 422 tC:=by
 refine nD (Γ:=[(55,nH)]) (Ih oB JD) Tryz.func422 fun ds (hw:kd (nI.ct++[]) ds) _=> ?_
 obtain⟨x,ds,rfl,_,hw⟩:=nI.nw (r:=_) hw
 obtain rfl:=nk hw
 exact⟨0,eT (T5 (fun r0=>((true,[.bool r0]):kM)) x)⟩
theorem UF:D_ Tryz.prog 410 tC:=by
 refine nD (Γ:=[(37,nH)]) (Ih oT JD) Tryz.func410 fun ds (hw:kd (nI.ct++[]) ds) _=> ?_
 obtain⟨x,ds,rfl,_,hw⟩:=nI.nw (r:=_) hw
 obtain rfl:=nk hw
 exact⟨0,eT (T5 (fun r0=>((true,[.bool r0]):kM)) x)⟩
def uu:Sum:= {ps:=[⟨nI.ct,true⟩,⟨[.i],false⟩],rs:=[⟨[.ef .str],false⟩],fn:=fun ds=>(true,[.str (qy (nI.nc ds 0) (rI ds 5))])}
theorem Zm:D_ Tryz.prog 423 uu:=by
 refine nD (Γ:=[(55,nH),(355,qi),(392,qG),(422,tC)]) (Ih oB (Ih t8 (Ih wK (Ih T6 JD)))) Tryz.func423 fun ds (hw:kd (nI.ct++[.i]) ds) _=> ?_
 obtain⟨x,ds,rfl,_,hw⟩:=nI.nw (r:=_) hw
 obtain⟨phase,rfl,_⟩:=nx hw
 exact⟨0,eT (Pw Vm.kf (fun r0=>((true,[.str r0]):kM)) x phase)⟩
theorem na_:D_ Tryz.prog 411 uu:=by
 refine nD (Γ:=[(37,nH),(264,qi),(351,qG),(410,tC)]) (Ih oT (Ih uY (Ih wQ (Ih UF JD)))) Tryz.func411 fun ds (hw:kd (nI.ct++[.i]) ds) _=> ?_
 obtain⟨x,ds,rfl,_,hw⟩:=nI.nw (r:=_) hw
 obtain⟨phase,rfl,_⟩:=nx hw
 exact⟨0,eT (Pw Vm.kf (fun r0=>((true,[.str r0]):kM)) x phase)⟩
def wJ:Sum:= {ps:=[⟨nj.ct,true⟩],rs:=[⟨[.ef .i,.ef .i,.ef .i,.ef .i,.ef .i],true⟩],fn:=fun ds=>(true,nG.enc (zl (nj.nc ds 0)))}
theorem YI:D_ Tryz.prog 212 wJ:=by
 refine nD JD Tryz.func212 fun ds (hw:kd (nj.ct++[]) ds) _=> ?_
 obtain⟨p,ds,rfl,_,hw⟩:=nj.nw (r:=_) hw
 obtain rfl:=nk hw
 exact⟨0,eT (nhM (fun r0=>((true,nG.enc r0):kM)) p)⟩
theorem niT:D_ Tryz.prog 198 wJ:=by
 refine nD JD Tryz.func198 fun ds (hw:kd (nj.ct++[]) ds) _=> ?_
 obtain⟨p,ds,rfl,_,hw⟩:=nj.nw (r:=_) hw
 obtain rfl:=nk hw
 exact⟨0,eT (nhM (fun r0=>((true,nG.enc r0):kM)) p)⟩
def zQ:Sum:= {ps:=[⟨nG.ct,true⟩],rs:=[⟨[.ef .str],false⟩],fn:=fun ds=>(true,[.str (nm2 (nG.nc ds 0))])}
theorem nnb:D_ Tryz.prog 418 zQ:=by
 refine nD (Γ:=[(355,qi),(392,qG)]) (Ih t8 (Ih wK JD)) Tryz.func418 fun ds (hw:kd (nG.ct++[]) ds) _=> ?_
 obtain⟨f,ds,rfl,_,hw⟩:=nG.nw (r:=_) hw
 obtain rfl:=nk hw
 exact⟨0,eT (Zt Vm.kf (fun r0=>((true,[.str r0]):kM)) f)⟩
theorem no0:D_ Tryz.prog 409 zQ:=by
 refine nD (Γ:=[(264,qi),(351,qG)]) (Ih uY (Ih wQ JD)) Tryz.func409 fun ds (hw:kd (nG.ct++[]) ds) _=> ?_
 obtain⟨f,ds,rfl,_,hw⟩:=nG.nw (r:=_) hw
 obtain rfl:=nk hw
 exact⟨0,eT (Zt Vm.kf (fun r0=>((true,[.str r0]):kM)) f)⟩
def Ol:Sum:= {ps:=[⟨nA.ct,true⟩],rs:=[⟨[.ef .i,.ef .i,.ef .i,.ef .i,.ef .bool,.ef .bool],true⟩],fn:=fun ds=>(true,nA.enc (zj (nA.nc ds 0)))}
theorem npW:D_ Tryz.prog 219 Ol:=by
 refine nD (Γ:=[(119,vW),(170,Ql)]) (Ih ncC (Ih ntf JD)) Tryz.func219 fun ds (hw:kd (nA.ct++[]) ds) _=> ?_
 obtain⟨v,ds,rfl,_,hw⟩:=nA.nw (r:=_) hw
 obtain rfl:=nk hw
 exact⟨0,eT (npV (fun r0=>((true,nA.enc r0):kM)) v)⟩
theorem nrN:D_ Tryz.prog 204 Ol:=by
 refine nD (Γ:=[(141,vW),(149,Ql)]) (Ih nd_ (Ih nsu JD)) Tryz.func204 fun ds (hw:kd (nA.ct++[]) ds) _=> ?_
 obtain⟨v,ds,rfl,_,hw⟩:=nA.nw (r:=_) hw
 obtain rfl:=nk hw
 exact⟨0,eT (nrM (fun r0=>((true,nA.enc r0):kM)) v)⟩
def yz:Sum:= {ps:=[⟨[.str],false⟩,⟨[.i],false⟩],rs:=[⟨[.ef .i],false⟩],fn:=fun ds=>(XL (rS ds 0) (rI ds 1),[.int (nbE (rS ds 0) (rI ds 1))])}
theorem nh9:D_ Tryz.prog 437 yz:=by
 refine nD JD Tryz.func437 fun ds (hw:kd ([.str,.i]) ds) aP=> ?_
 obtain⟨s,ds,rfl,vN,hw⟩:=rA hw
 obtain⟨i,rfl,h_i⟩:=nx hw
 exact⟨0,eT (nvx Vm.kf (fun r0=>((true,[.int r0]):kM)) s i vN h_i aP)⟩
theorem niZ:D_ Tryz.prog 433 yz:=by
 refine nD JD Tryz.func433 fun ds (hw:kd ([.str,.i]) ds) aP=> ?_
 obtain⟨s,ds,rfl,vN,hw⟩:=rA hw
 obtain⟨i,rfl,h_i⟩:=nx hw
 exact⟨0,eT (nws Vm.kf (fun r0=>((true,[.int r0]):kM)) s i vN h_i aP)⟩
def u_:Sum:= {ps:=[⟨[.str],false⟩,⟨[.i],false⟩],rs:=[⟨[.ef .i],false⟩],fn:=fun ds=>(true,[.int (Rb (rS ds 0) (rI ds 1))])}
def Zy:Ctx:=[(55,nH),(437,yz)]
theorem nnf:bN Tryz.prog Zy:=Ih oB (Ih nh9 JD)
def Zx:List (Nat×lE):=[(5, {cl:=[(0,.mP),(1,.mP),(5,.mP),(6,.mP)],boxes:=[]})]
def Zz:Int→kM:=(fun r0=>((true,[.int r0]):kM))
def nk3 (key:Bytes) (bit n i:Int):St:= {n:=29,sl:=[(0,.str key),(1,.int .i64 bit),(5,.int .i64 n),(6,.int .i64 i)],hp:=[],ok:=true,ls:=[],lm:=[]}
theorem nne:D_ Tryz.prog 438 u_:=by
 refine qC (A:=Zx) nnf Tryz.func438 fun ds (hw:kd ([.str,.i]) ds) _=> ?_
 obtain⟨key,ds,rfl,_,hw⟩:=rA hw
 obtain⟨bit,rfl,_⟩:=nx hw
 obtain⟨N,hN⟩:=nnd Vm.kf Zz key bit
 exact⟨N,eL (fun l_=>Rh Vm.kf Zz l_ key bit) (Te (LW Tryz.prog Zy Zx N Tryz.f438 u_ [true,true,true,false,true,false] []) (nk3 key bit) _ N) hN⟩
def nbi:Ctx:=[(37,nH),(433,yz)]
theorem no4:bN Tryz.prog nbi:=Ih oT (Ih niZ JD)
def nbh:List (Nat×lE):=[(5, {cl:=[(0,.mP),(1,.mP),(5,.mP),(6,.mP)],boxes:=[]})]
def nbj:Int→kM:=(fun r0=>((true,[.int r0]):kM))
def nmG (key:Bytes) (bit x k:Int):St:= {n:=28,sl:=[(0,.str key),(1,.int .i64 bit),(5,.int .i64 x),(6,.int .i64 k)],hp:=[],ok:=true,ls:=[],lm:=[]}
theorem no3:D_ Tryz.prog 434 u_:=by
 refine qC (A:=nbh) no4 Tryz.func434 fun ds (hw:kd ([.str,.i]) ds) _=> ?_
 obtain⟨key,ds,rfl,_,hw⟩:=rA hw
 obtain⟨bit,rfl,_⟩:=nx hw
 obtain⟨N,hN⟩:=no2 Vm.kf nbj key bit
 exact⟨N,eL (fun l_=>R6 Vm.kf nbj l_ key bit) (Te (LW Tryz.prog nbi nbh N Tryz.f434 u_ [true,true,true,false,true,false] []) (nmG key bit) _ N) hN⟩
def u4:Sum:= {ps:=[⟨[.str],false⟩,⟨[.str],false⟩],rs:=[⟨[.ef .i],false⟩],fn:=fun ds=>(true,[.int (ng0 (rS ds 0) (rS ds 1))])}
def Zp:Ctx:=[(437,yz),(438,u_)]
theorem nna:bN Tryz.prog Zp:=Ih nh9 (Ih nne JD)
def Zo:List (Nat×lE):=[(5, {cl:=[(0,.mP),(1,.mP),(5,.mP),(6,.mP)],boxes:=[]})]
def Zq:Int→kM:=(fun r0=>((true,[.int r0]):kM))
def nk2 (key input:Bytes) (h i:Int):St:= {n:=32,sl:=[(0,.str key),(1,.str input),(5,.int .i64 h),(6,.int .i64 i)],hp:=[],ok:=true,ls:=[],lm:=[]}
theorem nm_:D_ Tryz.prog 417 u4:=by
 refine qC (A:=Zo) nna Tryz.func417 fun ds (hw:kd ([.str,.str]) ds) _=> ?_
 obtain⟨key,ds,rfl,_,hw⟩:=rA hw
 obtain⟨input,rfl,nkV⟩:=oC hw
 obtain⟨N,hN⟩:=Zr Vm.kf Zq key input nkV
 exact⟨N,eL (fun l_=>zP Vm.kf Zq l_ key input) (Te (LW Tryz.prog Zp Zo N Tryz.f417 u4 [true,true,true,false,true,false] []) (nk2 key input) _ N) hN⟩
def nbd:Ctx:=[(433,yz),(434,u_)]
theorem noZ:bN Tryz.prog nbd:=Ih niZ (Ih no3 JD)
def nbc:List (Nat×lE):=[(5, {cl:=[(0,.mP),(1,.mP),(5,.mP),(6,.mP)],boxes:=[]})]
def nbe:Int→kM:=(fun r0=>((true,[.int r0]):kM))
def nmF (key input:Bytes) (x i:Int):St:= {n:=32,sl:=[(0,.str key),(1,.str input),(5,.int .i64 x),(6,.int .i64 i)],hp:=[],ok:=true,ls:=[],lm:=[]}
theorem noY:D_ Tryz.prog 408 u4:=by
 refine qC (A:=nbc) noZ Tryz.func408 fun ds (hw:kd ([.str,.str]) ds) _=> ?_
 obtain⟨key,ds,rfl,_,hw⟩:=rA hw
 obtain⟨input,rfl,nkV⟩:=oC hw
 obtain⟨N,hN⟩:=Zr Vm.kf nbe key input nkV
 exact⟨N,eL (fun l_=>zP Vm.kf nbe l_ key input) (Te (LW Tryz.prog nbd nbc N Tryz.f408 u4 [true,true,true,false,true,false] []) (nmF key input) _ N) hN⟩
def uA:Sum:= {ps:=[⟨[.str],false⟩,⟨nG.ct,true⟩],rs:=[⟨[.ef .i],false⟩],fn:=fun ds=>(true,[.int (zm (rS ds 0) (nG.nc ds 1))])}
theorem Tn:D_ Tryz.prog 370 uA:=by
 refine nD (Γ:=[(417,u4),(418,zQ)]) (Ih nm_ (Ih nnb JD)) Tryz.func370 fun ds (hw:kd (.str::(nG.ct++[])) ds) _=> ?_
 obtain⟨key,ds,rfl,_,hw⟩:=rA hw
 obtain⟨f,ds,rfl,_,hw⟩:=nG.nw (r:=_) hw
 obtain rfl:=nk hw
 exact⟨0,eT (nb9 (fun r0=>((true,[.int r0]):kM)) key f)⟩
theorem ndP:D_ Tryz.prog 362 uA:=by
 refine nD (Γ:=[(408,u4),(409,zQ)]) (Ih noY (Ih no0 JD)) Tryz.func362 fun ds (hw:kd (.str::(nG.ct++[])) ds) _=> ?_
 obtain⟨key,ds,rfl,_,hw⟩:=rA hw
 obtain⟨f,ds,rfl,_,hw⟩:=nG.nw (r:=_) hw
 obtain rfl:=nk hw
 exact⟨0,eT (nb9 (fun r0=>((true,[.int r0]):kM)) key f)⟩
def ne6:Sum:= {ps:=[⟨nd.ct,true⟩],rs:=[⟨[.ef .i],false⟩],fn:=fun ds=>(true,[.int (ya (nd.nc ds 0))])}
theorem ntm:D_ Tryz.prog 245 ne6:=by
 refine nD JD Tryz.func245 fun ds (hw:kd (nd.ct++[]) ds) _=> ?_
 obtain⟨q,ds,rfl,_,hw⟩:=nd.nw (r:=_) hw
 obtain rfl:=nk hw
 exact⟨0,eT (ntl (fun r0=>((true,[.int r0]):kM)) q)⟩
def nef:Sum:= {ps:=[⟨nd.ct,true⟩],rs:=[⟨[.ef .i],false⟩],fn:=fun ds=>(qD (nd.nc ds 0),[.int (ya (nd.nc ds 0))])}
theorem nsq:D_ Tryz.prog 257 nef:=by
 refine nD JD Tryz.func257 fun ds (hw:kd (nd.ct++[]) ds) aP=> ?_
 obtain⟨q,ds,rfl,_,hw⟩:=nd.nw (r:=_) hw
 obtain rfl:=nk hw
 exact⟨0,eT (nsp Vm.kf (fun r0=>((true,[.int r0]):kM)) q aP)⟩
def VL:Sum:= {ps:=[⟨nd.ct,true⟩],rs:=[⟨[.ef .i],false⟩],fn:=fun ds=>(qD (nd.nc ds 0),[.int (SA (nd.nc ds 0))])}
theorem njJ:D_ Tryz.prog 243 VL:=by
 refine nD JD Tryz.func243 fun ds (hw:kd (nd.ct++[]) ds) aP=> ?_
 obtain⟨q,ds,rfl,_,hw⟩:=nd.nw (r:=_) hw
 obtain rfl:=nk hw
 exact⟨0,eT (njI Vm.kf (fun r0=>((true,[.int r0]):kM)) q aP)⟩
def ug:Sum:= {ps:=[⟨[.sl [.i,.i,.i,.bool]],false⟩,⟨na.ct,true⟩,⟨[.i],false⟩,⟨nd.ct,true⟩,⟨nI.ct,true⟩],rs:=[⟨[.own 9 [.str]],true⟩,⟨[.ef .i,.ef .i,.ef .i],true⟩,⟨[.ef .bool],false⟩],fn:=fun ds=>(Nt (rR ds 0) (na.nc ds 1) (rI ds 2) (nd.nc ds 3) (nI.nc ds 6),na.enc (qg (rR ds 0) (na.nc ds 1) (rI ds 2) (nd.nc ds 3) (nI.nc ds 6)).1++nd.enc (qg (rR ds 0) (na.nc ds 1) (rI ds 2) (nd.nc ds 3) (nI.nc ds 6)).2.1++[.bool (qg (rR ds 0) (na.nc ds 1) (rI ds 2) (nd.nc ds 3) (nI.nc ds 6)).2.2])}
theorem SQ:D_ Tryz.prog 375 ug:=by
 refine nD (Γ:=[(160,sN),(237,xl),(243,VL),(245,ne6),(374,Oq),(422,tC),(423,uu)]) (Ih tv (Ih neS (Ih njJ (Ih ntm (Ih Tk (Ih T6 (Ih Zm JD))))))) Tryz.func375 fun ds hw aP=> ?_
 replace hw:kd ((.sl [.i,.i,.i,.bool])::(na.ct++(.i::(nd.ct++(nI.ct++[]))))) ds:=hw
 obtain⟨Z,ds,rfl,_,hw⟩:=nW hw
 obtain⟨m,ds,rfl,_,hw⟩:=na.nw (r:=_) hw
 obtain⟨O,ds,rfl,_,hw⟩:=nN hw
 obtain⟨q,ds,rfl,_,hw⟩:=nd.nw (r:=_) hw
 obtain⟨x,ds,rfl,_,hw⟩:=nI.nw (r:=_) hw
 obtain rfl:=nk hw
 exact⟨0,eT (neQ Vm.kf (fun r0 r1 r2=>((true,na.enc r0++nd.enc r1++[.bool r2]):kM)) Z m O q x aP)⟩
theorem ngb:D_ Tryz.prog 364 ug:=by
 refine nD (Γ:=[(129,uq),(254,xl),(257,nef),(348,OT),(410,tC),(411,uu)]) (Ih vH (Ih ngc (Ih nsq (Ih ndE (Ih UF (Ih na_ JD)))))) Tryz.func364 fun ds hw aP=> ?_
 replace hw:kd ((.sl [.i,.i,.i,.bool])::(na.ct++(.i::(nd.ct++(nI.ct++[]))))) ds:=hw
 obtain⟨Z,ds,rfl,_,hw⟩:=nW hw
 obtain⟨m,ds,rfl,_,hw⟩:=na.nw (r:=_) hw
 obtain⟨O,ds,rfl,_,hw⟩:=nN hw
 obtain⟨q,ds,rfl,_,hw⟩:=nd.nw (r:=_) hw
 obtain⟨x,ds,rfl,_,hw⟩:=nI.nw (r:=_) hw
 obtain rfl:=nk hw
 exact⟨0,eT (nga Vm.kf (fun r0 r1 r2=>((true,na.enc r0++nd.enc r1++[.bool r2]):kM)) Z m O q x aP)⟩
def nei:Sum:= {ps:=[⟨[.sl [.i,.i,.i,.bool]],false⟩,⟨na.ct,true⟩,⟨[.i],false⟩,⟨nh.ct,true⟩,⟨[.str],false⟩,⟨[.str],false⟩],rs:=[⟨[.own 9 [.str]],true⟩,⟨[.ef .i,.ef .i,.ef .i],true⟩,⟨[.ef .bool],false⟩],fn:=fun ds=>(YE (rR ds 0) (na.nc ds 1) (rI ds 2) (nh.nc ds 3) (rS ds 33) (rS ds 34),na.enc (se (rR ds 0) (na.nc ds 1) (rI ds 2) (nh.nc ds 3) (rS ds 33) (rS ds 34)).1++nd.enc (se (rR ds 0) (na.nc ds 1) (rI ds 2) (nh.nc ds 3) (rS ds 33) (rS ds 34)).2.1++[.bool (se (rR ds 0) (na.nc ds 1) (rI ds 2) (nh.nc ds 3) (rS ds 33) (rS ds 34)).2.2])}
theorem nss:D_ Tryz.prog 295 nei:=by
 refine nD (Γ:=[(129,uq),(198,wJ),(308,we),(348,OT),(362,uA),(363,wh),(364,ug)]) (Ih vH (Ih niT (Ih nmy (Ih ndE (Ih ndP (Ih nmA (Ih ngb JD))))))) Tryz.func295 fun ds hw aP=> ?_
 replace hw:kd ((.sl [.i,.i,.i,.bool])::(na.ct++(.i::(nh.ct++[.str,.str])))) ds:=hw
 obtain⟨Z,ds,rfl,_,hw⟩:=nW hw
 obtain⟨m,ds,rfl,_,hw⟩:=na.nw (r:=_) hw
 obtain⟨O,ds,rfl,_,hw⟩:=nN hw
 obtain⟨q,ds,rfl,_,hw⟩:=nh.nw (r:=_) hw
 obtain⟨entry,ds,rfl,_,hw⟩:=rA hw
 obtain⟨key,rfl,_⟩:=oC hw
 exact⟨0,eT (nsr Vm.kf (fun r0 r1 r2=>((true,na.enc r0++nd.enc r1++[.bool r2]):kM)) Z m O q entry key aP)⟩
def ZP:Sum:= {ps:=[⟨[.sl [.i,.i,.i,.bool]],false⟩,⟨na.ct,true⟩,⟨[.i],false⟩,⟨nh.ct,true⟩,⟨[.str],false⟩,⟨[.str],false⟩],rs:=[⟨[.ef (.sl [.str])],true⟩,⟨[.ef .i,.ef .i,.ef .i],true⟩,⟨[.ef .bool],false⟩],fn:=fun ds=>(YE (rR ds 0) (na.nc ds 1) (rI ds 2) (nh.nc ds 3) (rS ds 33) (rS ds 34),na.enc (qF (rR ds 0) (na.nc ds 1) (rI ds 2) (nh.nc ds 3) (rS ds 33) (rS ds 34)).1++nd.enc (qF (rR ds 0) (na.nc ds 1) (rI ds 2) (nh.nc ds 3) (rS ds 33) (rS ds 34)).2.1++[.bool (qF (rR ds 0) (na.nc ds 1) (rI ds 2) (nh.nc ds 3) (rS ds 33) (rS ds 34)).2.2])}
theorem nnv:D_ Tryz.prog 307 ZP:=by
 refine nD (Γ:=[(212,wJ),(370,uA),(372,wh),(373,we),(374,Oq),(375,ug)]) (Ih YI (Ih Tn (Ih Xh (Ih Xe (Ih Tk (Ih SQ JD)))))) Tryz.func307 fun ds hw aP=> ?_
 replace hw:kd ((.sl [.i,.i,.i,.bool])::(na.ct++(.i::(nh.ct++[.str,.str])))) ds:=hw
 obtain⟨Z,ds,rfl,_,hw⟩:=nW hw
 obtain⟨m,ds,rfl,_,hw⟩:=na.nw (r:=_) hw
 obtain⟨O,ds,rfl,_,hw⟩:=nN hw
 obtain⟨q,ds,rfl,_,hw⟩:=nh.nw (r:=_) hw
 obtain⟨key,ds,rfl,_,hw⟩:=rA hw
 obtain⟨entry,rfl,_⟩:=oC hw
 exact⟨0,eT (nnu Vm.kf (fun r0 r1 r2=>((true,na.enc r0++nd.enc r1++[.bool r2]):kM)) Z m O q key entry aP)⟩
def VN:Sum:= {ps:=[⟨[.sl [.i,.i,.i,.bool]],false⟩,⟨na.ct,true⟩,⟨[.i],false⟩,⟨nh.ct,true⟩,⟨[.str],false⟩,⟨[.str],false⟩],rs:=[⟨[.own 9 [.str]],true⟩,⟨[.ef .i,.ef .i,.ef .i],true⟩,⟨[.ef .bool],false⟩],fn:=fun ds=>(npg (rR ds 0) (na.nc ds 1) (rI ds 2) (nh.nc ds 3) (rS ds 33) (rS ds 34),na.enc (qF (rR ds 0) (na.nc ds 1) (rI ds 2) (nh.nc ds 3) (rS ds 33) (rS ds 34)).1++nd.enc (qF (rR ds 0) (na.nc ds 1) (rI ds 2) (nh.nc ds 3) (rS ds 33) (rS ds 34)).2.1++[.bool (qF (rR ds 0) (na.nc ds 1) (rI ds 2) (nh.nc ds 3) (rS ds 33) (rS ds 34)).2.2])}
theorem njL:D_ Tryz.prog 307 VN:=by
 refine nD (Γ:=[(212,wJ),(370,uA),(372,wh),(373,we),(374,Oq),(375,ug)]) (Ih YI (Ih Tn (Ih Xh (Ih Xe (Ih Tk (Ih SQ JD)))))) Tryz.func307 fun ds hw aP=> ?_
 replace hw:kd ((.sl [.i,.i,.i,.bool])::(na.ct++(.i::(nh.ct++[.str,.str])))) ds:=hw
 obtain⟨Z,ds,rfl,_,hw⟩:=nW hw
 obtain⟨m,ds,rfl,_,hw⟩:=na.nw (r:=_) hw
 obtain⟨O,ds,rfl,_,hw⟩:=nN hw
 obtain⟨q,ds,rfl,_,hw⟩:=nh.nw (r:=_) hw
 obtain⟨key,ds,rfl,_,hw⟩:=rA hw
 obtain⟨entry,rfl,_⟩:=oC hw
 exact⟨0,eT (njK Vm.kf (fun r0 r1 r2=>((true,na.enc r0++nd.enc r1++[.bool r2]):kM)) Z m O q key entry aP)⟩
def njh:Sum:= {ps:=[⟨[.sl [.i,.i,.i,.bool]],false⟩,⟨na.ct,true⟩,⟨[.i],false⟩,⟨nh.ct,true⟩,⟨[.str],false⟩],rs:=[⟨[.own 9 [.str]],true⟩,⟨[.ef .i,.ef .i,.ef .i,.ef .i,.ef .i,.ef .i,.ef .i,.ef .i,.ef .i,.ef .i,.ef .i,.ef .i,.ef .i,.ef .i,.ef .i,.ef .i,.ef .i,.ef .i,.ef .i,.ef .i,.ef .i,.ef .i,.ef .i,.ef .i,.ef .i,.ef .str,.ef .i,.ef .i,.ef .bool,.ef .i],true⟩],fn:=fun ds=>(nwZ (rR ds 0) (na.nc ds 1) (rI ds 2) (nh.nc ds 3) (rS ds 33),na.enc (qn (rR ds 0) (na.nc ds 1) (rI ds 2) (nh.nc ds 3) (rS ds 33)).1++nh.enc (qn (rR ds 0) (na.nc ds 1) (rI ds 2) (nh.nc ds 3) (rS ds 33)).2)}
theorem njg:D_ Tryz.prog 216 njh:=by
 refine nD (Γ:=[(117,wj),(160,sN),(306,yk),(307,VN)]) (Ih Xz (Ih tv (Ih nco (Ih njL JD)))) Tryz.func216 fun ds hw aP=> ?_
 replace hw:kd ((.sl [.i,.i,.i,.bool])::(na.ct++(.i::(nh.ct++[.str])))) ds:=hw
 obtain⟨Z,ds,rfl,_,hw⟩:=nW hw
 obtain⟨m,ds,rfl,_,hw⟩:=na.nw (r:=_) hw
 obtain⟨O,ds,rfl,_,hw⟩:=nN hw
 obtain⟨q,ds,rfl,_,hw⟩:=nh.nw (r:=_) hw
 obtain⟨key,rfl,_⟩:=oC hw
 exact⟨0,eT (njf Vm.kf (fun r0 r1=>((true,na.enc r0++nh.enc r1):kM)) Z m O q key aP)⟩
def nje:Sum:= {ps:=[⟨[.sl [.i,.i,.i,.bool]],false⟩,⟨na.ct,true⟩,⟨[.i],false⟩,⟨nh.ct,true⟩,⟨[.str],false⟩],rs:=[⟨[.own 9 [.str]],true⟩,⟨[.ef .i,.ef .i,.ef .i,.ef .i,.ef .i,.ef .i,.ef .i,.ef .i,.ef .i,.ef .i,.ef .i,.ef .i,.ef .i,.ef .i,.ef .i,.ef .i,.ef .i,.ef .i,.ef .i,.ef .i,.ef .i,.ef .i,.ef .i,.ef .i,.ef .i,.ef .str,.ef .i,.ef .i,.ef .bool,.ef .i],true⟩],fn:=fun ds=>(nw0 (rR ds 0) (na.nc ds 1) (rI ds 2) (nh.nc ds 3) (rS ds 33),na.enc (qn (rR ds 0) (na.nc ds 1) (rI ds 2) (nh.nc ds 3) (rS ds 33)).1++nh.enc (qn (rR ds 0) (na.nc ds 1) (rI ds 2) (nh.nc ds 3) (rS ds 33)).2)}
theorem njd:D_ Tryz.prog 216 nje:=by
 refine nD (Γ:=[(117,wj),(160,sN),(306,yk),(307,ZP)]) (Ih Xz (Ih tv (Ih nco (Ih nnv JD)))) Tryz.func216 fun ds hw aP=> ?_
 replace hw:kd ((.sl [.i,.i,.i,.bool])::(na.ct++(.i::(nh.ct++[.str])))) ds:=hw
 obtain⟨Z,ds,rfl,_,hw⟩:=nW hw
 obtain⟨m,ds,rfl,_,hw⟩:=na.nw (r:=_) hw
 obtain⟨O,ds,rfl,_,hw⟩:=nN hw
 obtain⟨q,ds,rfl,_,hw⟩:=nh.nw (r:=_) hw
 obtain⟨key,rfl,_⟩:=oC hw
 exact⟨0,eT (njc Vm.kf (fun r0 r1=>((true,na.enc r0++nh.enc r1):kM)) Z m O q key aP)⟩
def Zn:Sum:= {ps:=[⟨[.sl [.i,.i,.i,.bool]],false⟩,⟨na.ct,true⟩,⟨[.i],false⟩,⟨nh.ct,true⟩,⟨[.str],false⟩],rs:=[⟨[.own 9 [.str]],true⟩,⟨[.ef .i,.ef .i,.ef .i,.ef .i,.ef .i,.ef .i,.ef .i,.ef .i,.ef .i,.ef .i,.ef .i,.ef .i,.ef .i,.ef .i,.ef .i,.ef .i,.ef .i,.ef .i,.ef .i,.ef .i,.ef .i,.ef .i,.ef .i,.ef .i,.ef .i,.ef .str,.ef .i,.ef .i,.ef .bool,.ef .i],true⟩],fn:=fun ds=>(net (rR ds 0) (na.nc ds 1) (rI ds 2) (nh.nc ds 3) (rS ds 33),na.enc (qn (rR ds 0) (na.nc ds 1) (rI ds 2) (nh.nc ds 3) (rS ds 33)).1++nh.enc (qn (rR ds 0) (na.nc ds 1) (rI ds 2) (nh.nc ds 3) (rS ds 33)).2)}
theorem nm9:D_ Tryz.prog 216 Zn:=nzR njg njd rfl rfl rfl rfl (fun _=>rfl) (fun _=>rfl) (fun ds h=>by
 show (nwZ (rR ds 0) (na.nc ds 1) (rI ds 2) (nh.nc ds 3) (rS ds 33))=true∨(nw0 (rR ds 0) (na.nc ds 1) (rI ds 2) (nh.nc ds 3) (rS ds 33))=true
 exact nzX h)
def nba:Sum:= {ps:=[⟨[.sl [.i,.i,.i,.bool]],false⟩,⟨na.ct,true⟩,⟨[.i],false⟩,⟨nh.ct,true⟩,⟨[.str],false⟩],rs:=[⟨[.own 9 [.str]],true⟩,⟨[.ef .i,.ef .i,.ef .i,.ef .i,.ef .i,.ef .i,.ef .i,.ef .i,.ef .i,.ef .i,.ef .i,.ef .i,.ef .i,.ef .i,.ef .i,.ef .i,.ef .i,.ef .i,.ef .i,.ef .i,.ef .i,.ef .i,.ef .i,.ef .i,.ef .i,.ef .str,.ef .i,.ef .i,.ef .bool,.ef .i],true⟩],fn:=fun ds=>(net (rR ds 0) (na.nc ds 1) (rI ds 2) (nh.nc ds 3) (rS ds 33),na.enc (qn (rR ds 0) (na.nc ds 1) (rI ds 2) (nh.nc ds 3) (rS ds 33)).1++nh.enc (qn (rR ds 0) (na.nc ds 1) (rI ds 2) (nh.nc ds 3) (rS ds 33)).2)}
theorem noX:D_ Tryz.prog 202 nba:=by
 refine nD (Γ:=[(129,uq),(139,wj),(294,yk),(295,nei)]) (Ih vH (Ih ngj (Ih nr9 (Ih nss JD)))) Tryz.func202 fun ds hw aP=> ?_
 replace hw:kd ((.sl [.i,.i,.i,.bool])::(na.ct++(.i::(nh.ct++[.str])))) ds:=hw
 obtain⟨Z,ds,rfl,_,hw⟩:=nW hw
 obtain⟨m,ds,rfl,_,hw⟩:=na.nw (r:=_) hw
 obtain⟨O,ds,rfl,_,hw⟩:=nN hw
 obtain⟨q,ds,rfl,_,hw⟩:=nh.nw (r:=_) hw
 obtain⟨key,rfl,_⟩:=oC hw
 exact⟨0,eT (noW Vm.kf (fun r0 r1=>((true,na.enc r0++nh.enc r1):kM)) Z m O q key aP)⟩
def vb:Sum:= {ps:=[⟨ny.ct,true⟩,⟨[.i],false⟩,⟨[.i],false⟩],rs:=[],fn:=fun ds=>(Gx (ny.nc ds 0) (rI ds 33) (rI ds 34),ny.enc (xd (ny.nc ds 0) (rI ds 33) (rI ds 34))),ms:=[some (.cP 75 [.flat 9,.flat 222,.flat 3,.deep 293 [3],.flat 104,.deep 57 [3],.flat 107,.flat 4,.flat 3,.flat 260,.flat 264,.flat 3,.flat 236,.flat 9,.flat 3,.flat 3]),none,none]}
def ZI:Ctx:=[(218,Sq),(219,Ol)]
theorem nno:bN Tryz.prog ZI:=Ih YN (Ih npW JD)
def ZH:List (Nat×lE):=[(2, {cl:=[(0,.mP),(1,.mP),(7,.mP)],boxes:=[(320000062,[]),(384,[])]})]
def ZJ:ny→kM:=(fun r0=>((true,ny.enc r0):kM))
def nlb (k n rv pZ p6 p7 p8 p9 p_ qb qc:Int) (qd:Bool) (pj:Bytes) (pk:Bool) (pn po pq pr pw d d_1 d_2:Int) (pY oR oS oI oJ oK oO oL px py pz pA pB pC pD pE:Rows):St:= {n:=1099511627818,sl:=[(0,.ptr 320000062 0),(1,.int .i64 k),(7,.int .i64 n)],hp:=[(320000062,.box 75 [.own 81921295872,.own 81921295873,.int .i64 rv,.int .i64 pZ,.int .i64 p6,.int .i64 p7,.int .i64 p8,.int .i64 p9,.int .i64 p_,.own 81921295881,.own 81921295882,.int .i64 qb,.own 81921295884,.own 81921295885,.own 81921295886,.own 81921295887,.int .i64 qc,.bool qd,.own 81921295890,.own 81921295891,.own 81921295892,.str pj,.own 81921295894,.own 81921295895,.bool pk,.own 81921295897,.own 81921295898,.own 81921295899,.int .i64 pn,.int .i64 po,.int .i64 pq,.int .i64 pr,.int .i64 pw]),(384,.box 100 [.int .i64 d,.int .i64 d_1,.int .i64 d_2]),(81921295872,.row 9 [.str] pY false true),(81921295873,.row 222 [.i,.i,.i,.bool] oR false true),(81921295881,.row 3 [.i] oS false true),(81921295882,.deep 293 [.i,.i,.sl [.i]] [3] oI none),(81921295884,.row 104 [.i,.i,.i,.i,.i,.i,.i,.i,.i,.i,.i,.i,.i,.i,.i,.i,.i,.i,.i,.i,.i,.i,.i,.i,.i,.str,.i,.i,.bool,.i] oJ false true),(81921295885,.deep 57 [.i,.i,.i,.sl [.i]] [3] oK none),(81921295886,.row 107 [.i,.i,.i,.i,.bool,.bool] oO false true),(81921295887,.row 4 [.bool] oL false true),(81921295890,.row 3 [.i] px false true),(81921295891,.row 260 [.i,.i,.i,.i,.i,.i,.i,.i,.i] py false true),(81921295892,.row 264 [.i,.i,.i,.i,.i,.i,.i] pz false true),(81921295894,.row 3 [.i] pA false true),(81921295895,.row 236 [.i,.i,.i,.i,.i,.i,.str,.bool] pB false true),(81921295897,.row 9 [.str] pC false true),(81921295898,.row 3 [.i] pD false true),(81921295899,.row 3 [.i] pE false true)],ok:=true,ls:=[],lm:=[]}
theorem nnn:Cm Tryz.prog 105 vb:=by
 refine NR (A:=ZH) nno Tryz.func105 fun ds hw aP=> ?_
 replace hw:kd (ny.ct++[.i,.i]) ds:=hw
 obtain⟨h,ds,rfl,h_h,hw⟩:=ny.nw (r:=_) hw
 obtain⟨k,ds,rfl,_,hw⟩:=nN hw
 obtain⟨before,rfl,_⟩:=nx hw
 obtain⟨N,hN⟩:=nnm Vm.kf ZJ h k before h_h aP
 exact⟨N,eL (fun l_=>Ri Vm.kf ZJ l_ h k before) (funext fun rv=>funext fun pZ=>funext fun p6=>funext fun p7=>funext fun p8=>funext fun p9=>funext fun p_=>funext fun qb=>funext fun qc=>funext fun qd=>funext fun pj=>funext fun pk=>funext fun pn=>funext fun po=>funext fun pq=>funext fun pr=>funext fun pw=>funext fun pY=>funext fun oR=>funext fun oS=>funext fun oI=>funext fun oJ=>funext fun oK=>funext fun oL=>funext fun px=>funext fun py=>funext fun pz=>funext fun pA=>funext fun pB=>funext fun pC=>funext fun pD=>funext fun pE=>Te (Lm Tryz.prog ZI ZH N Tryz.f105 vb [true,true,false] []) (fun n oO=>nlb k n rv pZ p6 p7 p8 p9 p_ qb qc qd pj pk pn po pq pr pw (rI (nth h.Rx (Int.toNat k)) 4) (rI (nth h.Rx (Int.toNat k)) 5) (rI (nth h.Rx (Int.toNat k)) 6) pY oR oS oI oJ oK oO oL px py pz pA pB pC pD pE) _ N) hN⟩
def nbr:Ctx:=[(204,Ol)]
theorem npf:bN Tryz.prog nbr:=Ih nrN JD
def nbq:List (Nat×lE):=[(2, {cl:=[(0,.mP),(1,.mP),(6,.mP),(7,.mP)],boxes:=[(320000062,[])]})]
def nbs:ny→kM:=(fun r0=>((true,ny.enc r0):kM))
def nmS (k n i rv pZ p6 p7 p8 p9 p_ qb qc:Int) (qd:Bool) (pj:Bytes) (pk:Bool) (pn po pq pr pw:Int) (pY oR oS oI oJ oK oO oL px py pz pA pB pC pD pE:Rows):St:= {n:=1099511627826,sl:=[(0,.ptr 320000062 0),(1,.int .i64 k),(6,.int .i64 n),(7,.int .i64 i)],hp:=[(320000062,.box 75 [.own 81921295872,.own 81921295873,.int .i64 rv,.int .i64 pZ,.int .i64 p6,.int .i64 p7,.int .i64 p8,.int .i64 p9,.int .i64 p_,.own 81921295881,.own 81921295882,.int .i64 qb,.own 81921295884,.own 81921295885,.own 81921295886,.own 81921295887,.int .i64 qc,.bool qd,.own 81921295890,.own 81921295891,.own 81921295892,.str pj,.own 81921295894,.own 81921295895,.bool pk,.own 81921295897,.own 81921295898,.own 81921295899,.int .i64 pn,.int .i64 po,.int .i64 pq,.int .i64 pr,.int .i64 pw]),(81921295872,.row 9 [.str] pY false true),(81921295873,.row 222 [.i,.i,.i,.bool] oR false true),(81921295881,.row 3 [.i] oS false true),(81921295882,.deep 293 [.i,.i,.sl [.i]] [3] oI none),(81921295884,.row 104 [.i,.i,.i,.i,.i,.i,.i,.i,.i,.i,.i,.i,.i,.i,.i,.i,.i,.i,.i,.i,.i,.i,.i,.i,.i,.str,.i,.i,.bool,.i] oJ false true),(81921295885,.deep 57 [.i,.i,.i,.sl [.i]] [3] oK none),(81921295886,.row 107 [.i,.i,.i,.i,.bool,.bool] oO false true),(81921295887,.row 4 [.bool] oL false true),(81921295890,.row 3 [.i] px false true),(81921295891,.row 260 [.i,.i,.i,.i,.i,.i,.i,.i,.i] py false true),(81921295892,.row 264 [.i,.i,.i,.i,.i,.i,.i] pz false true),(81921295894,.row 3 [.i] pA false true),(81921295895,.row 236 [.i,.i,.i,.i,.i,.i,.str,.bool] pB false true),(81921295897,.row 9 [.str] pC false true),(81921295898,.row 3 [.i] pD false true),(81921295899,.row 3 [.i] pE false true)],ok:=true,ls:=[],lm:=[]}
theorem npe:Cm Tryz.prog 100 vb:=by
 refine NR (A:=nbq) npf Tryz.func100 fun ds hw aP=> ?_
 replace hw:kd (ny.ct++[.i,.i]) ds:=hw
 obtain⟨h,ds,rfl,h_h,hw⟩:=ny.nw (r:=_) hw
 obtain⟨k,ds,rfl,_,hw⟩:=nN hw
 obtain⟨before,rfl,_⟩:=nx hw
 obtain⟨N,hN⟩:=npd Vm.kf nbs h k before h_h aP
 exact⟨N,eL (fun l_=>R_ Vm.kf nbs l_ h k before) (funext fun n=>funext fun rv=>funext fun pZ=>funext fun p6=>funext fun p7=>funext fun p8=>funext fun p9=>funext fun p_=>funext fun qb=>funext fun qc=>funext fun qd=>funext fun pj=>funext fun pk=>funext fun pn=>funext fun po=>funext fun pq=>funext fun pr=>funext fun pw=>funext fun pY=>funext fun oR=>funext fun oS=>funext fun oI=>funext fun oJ=>funext fun oK=>funext fun oL=>funext fun px=>funext fun py=>funext fun pz=>funext fun pA=>funext fun pB=>funext fun pC=>funext fun pD=>funext fun pE=>Te (Lm Tryz.prog nbr nbq N Tryz.f100 vb [true,true,false] []) (fun i oO=>nmS k n i rv pZ p6 p7 p8 p9 p_ qb qc qd pj pk pn po pq pr pw pY oR oS oI oJ oK oO oL px py pz pA pB pC pD pE) _ N) hN⟩
def On:Sum:= {ps:=[⟨[.str],false⟩],rs:=[⟨[.ef .str],false⟩,⟨[.ef .bool],false⟩],fn:=fun ds=>(ner (rS ds 0),[.str (tT (rS ds 0)).1]++[.bool (tT (rS ds 0)).2])}
theorem np0:D_ Tryz.prog 205 On:=by
 refine nD (Γ:=[(296,Qk)]) (Ih ntd JD) Tryz.func205 fun ds (hw:kd ([.str]) ds) aP=> ?_
 obtain⟨s,rfl,_⟩:=oC hw
 exact⟨0,eT (npZ Vm.kf (fun r0 r1=>((true,[.str r0]++[.bool r1]):kM)) s aP)⟩
theorem nrR:D_ Tryz.prog 192 On:=by
 refine nD (Γ:=[(288,Qk)]) (Ih nuK JD) Tryz.func192 fun ds (hw:kd ([.str]) ds) aP=> ?_
 obtain⟨s,rfl,_⟩:=oC hw
 exact⟨0,eT (nrQ Vm.kf (fun r0 r1=>((true,[.str r0]++[.bool r1]):kM)) s aP)⟩
def PT:Sum:= {ps:=[⟨nE.ct,true⟩,⟨nj.ct,true⟩],rs:=[⟨[.ef .bool],false⟩],fn:=fun ds=>(true,[.bool (ngV (nE.nc ds 0) (nj.nc ds 3))])}
theorem nsT:D_ Tryz.prog 102 PT:=by
 refine nD (Γ:=[(116,tE),(208,yy)]) (Ih nb3 (Ih nvw JD)) Tryz.func102 fun ds (hw:kd (nE.ct++(nj.ct++[])) ds) _=> ?_
 obtain⟨f,ds,rfl,_,hw⟩:=nE.nw (r:=_) hw
 obtain⟨p,ds,rfl,_,hw⟩:=nj.nw (r:=_) hw
 obtain rfl:=nk hw
 exact⟨0,eT (nex (fun r0=>((true,[.bool r0]):kM)) f p)⟩
theorem nuq:D_ Tryz.prog 97 PT:=by
 refine nD (Γ:=[(137,tE),(194,yy)]) (Ih ndJ (Ih nwu JD)) Tryz.func97 fun ds (hw:kd (nE.ct++(nj.ct++[])) ds) _=> ?_
 obtain⟨f,ds,rfl,_,hw⟩:=nE.nw (r:=_) hw
 obtain⟨p,ds,rfl,_,hw⟩:=nj.nw (r:=_) hw
 obtain rfl:=nk hw
 exact⟨0,eT (nex (fun r0=>((true,[.bool r0]):kM)) f p)⟩
def XJ:Sum:= {ps:=[⟨[.i],false⟩,⟨[.i],false⟩,⟨[.i],false⟩],rs:=[⟨[.ef .bool],false⟩],fn:=fun ds=>(nyX (rI ds 0) (rI ds 1) (rI ds 2),[.bool (nuo (rI ds 0) (rI ds 1) (rI ds 2))])}
theorem nlk:D_ Tryz.prog 369 XJ:=by
 refine nD JD Tryz.func369 fun ds (hw:kd ([.i,.i,.i]) ds) aP=> ?_
 obtain⟨a,ds,rfl,_,hw⟩:=nN hw
 obtain⟨b,ds,rfl,_,hw⟩:=nN hw
 obtain⟨bits,rfl,_⟩:=nx hw
 exact⟨0,eT (nlj Vm.kf (fun r0=>((true,[.bool r0]):kM)) a b bits aP)⟩
def Yz:Sum:= {ps:=[⟨oE.ct,true⟩,⟨nj.ct,true⟩],rs:=[⟨[.ef .bool],false⟩],fn:=fun ds=>(nyS (oE.nc ds 0) (nj.nc ds 9),[.bool (Rm (oE.nc ds 0) (nj.nc ds 9))])}
theorem nmR:D_ Tryz.prog 360 Yz:=by
 refine nD (Γ:=[(37,nH)]) (Ih oT JD) Tryz.func360 fun ds (hw:kd (oE.ct++(nj.ct++[])) ds) aP=> ?_
 obtain⟨r,ds,rfl,_,hw⟩:=oE.nw (r:=_) hw
 obtain⟨p,ds,rfl,_,hw⟩:=nj.nw (r:=_) hw
 obtain rfl:=nk hw
 exact⟨0,eT (nmQ Vm.kf (fun r0=>((true,[.bool r0]):kM)) r p aP)⟩
def Oz:Sum:= {ps:=[⟨nj.ct,true⟩,⟨nj.ct,true⟩],rs:=[⟨[.ef .bool],false⟩],fn:=fun ds=>(true,[.bool (NQ (nj.nc ds 0) (nj.nc ds 16))])}
theorem nqk:D_ Tryz.prog 305 Oz:=by
 refine nD JD Tryz.func305 fun ds (hw:kd (nj.ct++(nj.ct++[])) ds) _=> ?_
 obtain⟨a,ds,rfl,_,hw⟩:=nj.nw (r:=_) hw
 obtain⟨b,ds,rfl,_,hw⟩:=nj.nw (r:=_) hw
 obtain rfl:=nk hw
 exact⟨0,eT (nqj (fun r0=>((true,[.bool r0]):kM)) a b)⟩
theorem nsc:D_ Tryz.prog 293 Oz:=by
 refine nD JD Tryz.func293 fun ds (hw:kd (nj.ct++(nj.ct++[])) ds) _=> ?_
 obtain⟨a,ds,rfl,_,hw⟩:=nj.nw (r:=_) hw
 obtain⟨b,ds,rfl,_,hw⟩:=nj.nw (r:=_) hw
 obtain rfl:=nk hw
 exact⟨0,eT (nsb (fun r0=>((true,[.bool r0]):kM)) a b)⟩
def Sn:Sum:= {ps:=[⟨nj.ct,true⟩],rs:=[⟨[.ef .i,.ef .i,.ef .i,.ef .i,.ef .i,.ef .i,.ef .i,.ef .i,.ef .i,.ef .i,.ef .i,.ef .i,.ef .i,.ef .i,.ef .i,.ef .str,.ef .i,.ef .i],true⟩],fn:=fun ds=>(true,nU.enc (nwU (nj.nc ds 0)))}
theorem nvs:D_ Tryz.prog 217 Sn:=by
 refine nD JD Tryz.func217 fun ds (hw:kd (nj.ct++[]) ds) _=> ?_
 obtain⟨p,ds,rfl,_,hw⟩:=nj.nw (r:=_) hw
 obtain rfl:=nk hw
 exact⟨0,eT (nhV (fun r0=>((true,nU.enc r0):kM)) p)⟩
theorem nwr:D_ Tryz.prog 203 Sn:=by
 refine nD JD Tryz.func203 fun ds (hw:kd (nj.ct++[]) ds) _=> ?_
 obtain⟨p,ds,rfl,_,hw⟩:=nj.nw (r:=_) hw
 obtain rfl:=nk hw
 exact⟨0,eT (nhV (fun r0=>((true,nU.enc r0):kM)) p)⟩
def PW:Sum:= {ps:=[⟨nB.ct,true⟩,⟨nG.ct,true⟩],rs:=[⟨[.ef .i],false⟩],fn:=fun ds=>(true,[.int (zH (nB.nc ds 0) (nG.nc ds 2))])}
theorem nsZ:D_ Tryz.prog 304 PW:=by
 refine nD (Γ:=[(370,uA)]) (Ih Tn JD) Tryz.func304 fun ds (hw:kd (nB.ct++(nG.ct++[])) ds) _=> ?_
 obtain⟨s,ds,rfl,_,hw⟩:=nB.nw (r:=_) hw
 obtain⟨f,ds,rfl,_,hw⟩:=nG.nw (r:=_) hw
 obtain rfl:=nk hw
 exact⟨0,eT (neK Vm.kf (fun r0=>((true,[.int r0]):kM)) s f)⟩
theorem nuw:D_ Tryz.prog 292 PW:=by
 refine nD (Γ:=[(362,uA)]) (Ih ndP JD) Tryz.func292 fun ds (hw:kd (nB.ct++(nG.ct++[])) ds) _=> ?_
 obtain⟨s,ds,rfl,_,hw⟩:=nB.nw (r:=_) hw
 obtain⟨f,ds,rfl,_,hw⟩:=nG.nw (r:=_) hw
 obtain rfl:=nk hw
 exact⟨0,eT (neK Vm.kf (fun r0=>((true,[.int r0]):kM)) s f)⟩
def zT:Sum:= {ps:=[⟨[.str],false⟩],rs:=[⟨[.ef .i,.ef .i,.ef .i,.ef .i,.ef .i,.ef .i,.ef .i,.ef .i,.ef .i,.ef .i,.ef .i,.ef .i,.ef .i,.ef .i,.ef .i,.ef .str],true⟩,⟨[.ef .i],false⟩],fn:=fun ds=>(ner (rS ds 0),nj.enc (qu (rS ds 0)).1++[.int (qu (rS ds 0)).2])}
theorem nnh:D_ Tryz.prog 101 zT:=by
 refine nD (Γ:=[(205,On),(206,zU),(207,tG)]) (Ih np0 (Ih nni (Ih Ts JD))) Tryz.func101 fun ds (hw:kd ([.str]) ds) aP=> ?_
 obtain⟨s,rfl,_⟩:=oC hw
 exact⟨0,eT (ZC Vm.kf (fun r0 r1=>((true,nj.enc r0++[.int r1]):kM)) s aP)⟩
theorem no6:D_ Tryz.prog 96 zT:=by
 refine nD (Γ:=[(145,zU),(192,On),(193,tG)]) (Ih no7 (Ih nrR (Ih TU JD))) Tryz.func96 fun ds (hw:kd ([.str]) ds) aP=> ?_
 obtain⟨s,rfl,_⟩:=oC hw
 exact⟨0,eT (ZC Vm.kf (fun r0 r1=>((true,nj.enc r0++[.int r1]):kM)) s aP)⟩
def xN:Sum:= {ps:=[⟨oE.ct,true⟩,⟨nj.ct,true⟩],rs:=[⟨[.ef .bool],false⟩],fn:=fun ds=>(true,[.bool (wc (oE.nc ds 0) (nj.nc ds 9))])}
theorem njo:D_ Tryz.prog 302 xN:=by
 refine nD (Γ:=[(55,nH),(209,qt),(329,yx),(369,XJ)]) (Ih oB (Ih vr (Ih nhU (Ih nlk JD)))) Tryz.func302 fun ds (hw:kd (oE.ct++(nj.ct++[])) ds) _=> ?_
 obtain⟨r,ds,rfl,_,hw⟩:=oE.nw (r:=_) hw
 obtain⟨p,ds,rfl,_,hw⟩:=nj.nw (r:=_) hw
 obtain rfl:=nk hw
 exact⟨0,eT (njn Vm.kf (fun r0=>((true,[.bool r0]):kM)) r p)⟩
theorem nkv:D_ Tryz.prog 290 xN:=by
 refine nD (Γ:=[(195,qt),(339,yx),(360,Yz)]) (Ih vG (Ih niY (Ih nmR JD))) Tryz.func290 fun ds (hw:kd (oE.ct++(nj.ct++[])) ds) _=> ?_
 obtain⟨r,ds,rfl,_,hw⟩:=oE.nw (r:=_) hw
 obtain⟨p,ds,rfl,_,hw⟩:=nj.nw (r:=_) hw
 obtain rfl:=nk hw
 exact⟨0,eT (nku Vm.kf (fun r0=>((true,[.bool r0]):kM)) r p)⟩
def vR:Sum:= {ps:=[⟨[.sl [.i,.i,.i,.i,.i,.i,.i,.i,.i]],false⟩,⟨nj.ct,true⟩],rs:=[⟨[.ef .i],false⟩],fn:=fun ds=>(true,[.int (uI (rR ds 0) (nj.nc ds 1))])}
def nb6:Ctx:=[(239,uh),(302,xN)]
theorem np9:bN Tryz.prog nb6:=Ih neY (Ih njo JD)
def nb5:List (Nat×lE):=[(5, {cl:=[(0,.mP),(3,.mP),(5,.mP),(11,.mP),(12,.mP),(13,.mP)],boxes:=[(192,[])]})]
def nb7:Int→kM:=(fun r0=>((true,[.int r0]):kM))
def nm8 (Z:Rows) (YG:Int) (x:Rows) (oy oD p_1 p_2 R0 UC p_5 p_6 p_7 p_8 p_9 RT RU RV RW RX RY:Int) (RZ:Bytes):St:= {n:=38,sl:=[(0,.sl [.i,.i,.i,.i,.i,.i,.i,.i,.i] Z),(3,.ptr 192 0),(5,.int .i64 YG),(11,.sl [.i,.i,.i,.i,.i,.i,.i,.i,.i] x),(12,.int .i64 oy),(13,.int .i64 oD)],hp:=[(192,.box 93 [.int .i64 p_1,.int .i64 p_2,.int .i64 R0,.int .i64 UC,.int .i64 p_5,.int .i64 p_6,.int .i64 p_7,.int .i64 p_8,.int .i64 p_9,.int .i64 RT,.int .i64 RU,.int .i64 RV,.int .i64 RW,.int .i64 RX,.int .i64 RY,.str RZ])],ok:=true,ls:=[],lm:=[]}
theorem np8:D_ Tryz.prog 210 vR:=by
 refine qC (A:=nb5) np9 Tryz.func210 fun ds (hw:kd ((.sl [.i,.i,.i,.i,.i,.i,.i,.i,.i])::(nj.ct++[])) ds) _=> ?_
 obtain⟨Z,ds,rfl,qh,hw⟩:=nW hw
 obtain⟨p,ds,rfl,_,hw⟩:=nj.nw (r:=_) hw
 obtain rfl:=nk hw
 obtain⟨N,hN⟩:=np7 Vm.kf nb7 Z p qh
 exact⟨N,eL (fun l_=>Tm Vm.kf nb7 l_ Z p) (funext fun x=>funext fun oy=>funext fun p_1=>funext fun p_2=>funext fun R0=>funext fun UC=>funext fun p_5=>funext fun p_6=>funext fun p_7=>funext fun p_8=>funext fun p_9=>funext fun RT=>funext fun RU=>funext fun RV=>funext fun RW=>funext fun RX=>funext fun RY=>funext fun RZ=>Te (LW Tryz.prog nb6 nb5 N Tryz.f210 vR [true,true,true,false,true,false] []) (fun YG oD=>nm8 Z YG x oy oD p_1 p_2 R0 UC p_5 p_6 p_7 p_8 p_9 RT RU RV RW RX RY RZ) _ N) hN⟩
def ndM:Ctx:=[(251,uh),(290,xN)]
theorem nr1:bN Tryz.prog ndM:=Ih ngi (Ih nkv JD)
def ndL:List (Nat×lE):=[(3, {cl:=[(0,.mP),(3,.mP),(5,.mP),(6,.mP)],boxes:=[(192,[])]})]
def ndN:Int→kM:=(fun r0=>((true,[.int r0]):kM))
def noV (Z:Rows) (YG k p_1 p_2 R0 UC p_5 p_6 p_7 p_8 p_9 RT RU RV RW RX RY:Int) (RZ:Bytes):St:= {n:=42,sl:=[(0,.sl [.i,.i,.i,.i,.i,.i,.i,.i,.i] Z),(3,.ptr 192 0),(5,.int .i64 YG),(6,.int .i64 k)],hp:=[(192,.box 93 [.int .i64 p_1,.int .i64 p_2,.int .i64 R0,.int .i64 UC,.int .i64 p_5,.int .i64 p_6,.int .i64 p_7,.int .i64 p_8,.int .i64 p_9,.int .i64 RT,.int .i64 RU,.int .i64 RV,.int .i64 RW,.int .i64 RX,.int .i64 RY,.str RZ])],ok:=true,ls:=[],lm:=[]}
theorem nr0:D_ Tryz.prog 196 vR:=by
 refine qC (A:=ndL) nr1 Tryz.func196 fun ds (hw:kd ((.sl [.i,.i,.i,.i,.i,.i,.i,.i,.i])::(nj.ct++[])) ds) _=> ?_
 obtain⟨Z,ds,rfl,qh,hw⟩:=nW hw
 obtain⟨p,ds,rfl,_,hw⟩:=nj.nw (r:=_) hw
 obtain rfl:=nk hw
 obtain⟨N,hN⟩:=nrZ Vm.kf ndN Z p qh
 exact⟨N,eL (fun l_=>TP Vm.kf ndN l_ Z p) (funext fun p_1=>funext fun p_2=>funext fun R0=>funext fun UC=>funext fun p_5=>funext fun p_6=>funext fun p_7=>funext fun p_8=>funext fun p_9=>funext fun RT=>funext fun RU=>funext fun RV=>funext fun RW=>funext fun RX=>funext fun RY=>funext fun RZ=>Te (LW Tryz.prog ndM ndL N Tryz.f196 vR [true,true,false,true,false] []) (fun YG k=>noV Z YG k p_1 p_2 R0 UC p_5 p_6 p_7 p_8 p_9 RT RU RV RW RX RY RZ) _ N) hN⟩
def Ot:Sum:= {ps:=[⟨ni.ct,true⟩,⟨nG.ct,true⟩],rs:=[⟨[.ef .i],false⟩],fn:=fun ds=>(true,[.int (xc (ni.nc ds 0) (nG.nc ds 1))])}
theorem np6:D_ Tryz.prog 211 Ot:=by
 refine nD (Γ:=[(240,sA),(303,Ss)]) (Ih ne0 (Ih nio JD)) Tryz.func211 fun ds (hw:kd (ni.ct++(nG.ct++[])) ds) _=> ?_
 obtain⟨t,ds,rfl,_,hw⟩:=ni.nw (r:=_) hw
 obtain⟨f,ds,rfl,_,hw⟩:=nG.nw (r:=_) hw
 obtain rfl:=nk hw
 exact⟨0,eT (np5 (fun r0=>((true,[.int r0]):kM)) t f)⟩
theorem nrY:D_ Tryz.prog 197 Ot:=by
 refine nD (Γ:=[(252,sA),(291,QR)]) (Ih ngp (Ih ngA JD)) Tryz.func197 fun ds (hw:kd (ni.ct++(nG.ct++[])) ds) _=> ?_
 obtain⟨t,ds,rfl,_,hw⟩:=ni.nw (r:=_) hw
 obtain⟨f,ds,rfl,_,hw⟩:=nG.nw (r:=_) hw
 obtain rfl:=nk hw
 exact⟨0,eT (nrX Vm.kf (fun r0=>((true,[.int r0]):kM)) t f)⟩
def xP:Sum:= {ps:=[⟨nB.ct,true⟩,⟨[.i],false⟩,⟨nG.ct,true⟩],rs:=[⟨[.ef .i],false⟩],fn:=fun ds=>(true,[.int (Pt (nB.nc ds 0) (rI ds 2) (nG.nc ds 3))])}
theorem njr:D_ Tryz.prog 213 xP:=by
 refine nD (Γ:=[(241,tI),(304,PW)]) (Ih ncw (Ih nsZ JD)) Tryz.func213 fun ds hw _=> ?_
 replace hw:kd (nB.ct++(.i::(nG.ct++[]))) ds:=hw
 obtain⟨s,ds,rfl,_,hw⟩:=nB.nw (r:=_) hw
 obtain⟨nn,ds,rfl,_,hw⟩:=nN hw
 obtain⟨f,ds,rfl,_,hw⟩:=nG.nw (r:=_) hw
 obtain rfl:=nk hw
 exact⟨0,eT (Vn Vm.kf (fun r0=>((true,[.int r0]):kM)) s nn f)⟩
theorem nky:D_ Tryz.prog 199 xP:=by
 refine nD (Γ:=[(253,tI),(292,PW)]) (Ih nd5 (Ih nuw JD)) Tryz.func199 fun ds hw _=> ?_
 replace hw:kd (nB.ct++(.i::(nG.ct++[]))) ds:=hw
 obtain⟨s,ds,rfl,_,hw⟩:=nB.nw (r:=_) hw
 obtain⟨nn,ds,rfl,_,hw⟩:=nN hw
 obtain⟨f,ds,rfl,_,hw⟩:=nG.nw (r:=_) hw
 obtain rfl:=nk hw
 exact⟨0,eT (Vn Vm.kf (fun r0=>((true,[.int r0]):kM)) s nn f)⟩
def xQ:Sum:= {ps:=[⟨nm.ct,true⟩,⟨[.i],false⟩,⟨nj.ct,true⟩],rs:=[⟨[.ef .i],false⟩],fn:=fun ds=>(true,[.int (tb (nm.nc ds 0) (rI ds 4) (nj.nc ds 5))])}
theorem njs:D_ Tryz.prog 103 xQ:=by
 refine nD (Γ:=[(120,pW),(209,qt),(210,vR),(211,Ot),(212,wJ),(213,xP)]) (Ih XA (Ih vr (Ih np8 (Ih np6 (Ih YI (Ih njr JD)))))) Tryz.func103 fun ds hw _=> ?_
 replace hw:kd (nm.ct++(.i::(nj.ct++[]))) ds:=hw
 obtain⟨s,ds,rfl,_,hw⟩:=nm.nw (r:=_) hw
 obtain⟨nn,ds,rfl,_,hw⟩:=nN hw
 obtain⟨p,ds,rfl,_,hw⟩:=nj.nw (r:=_) hw
 obtain rfl:=nk hw
 exact⟨0,eT (Vp Vm.kf (fun r0=>((true,[.int r0]):kM)) s nn p)⟩
theorem nkz:D_ Tryz.prog 98 xQ:=by
 refine nD (Γ:=[(138,pW),(195,qt),(196,vR),(197,Ot),(198,wJ),(199,xP)]) (Ih Yv (Ih vG (Ih nr0 (Ih nrY (Ih niT (Ih nky JD)))))) Tryz.func98 fun ds hw _=> ?_
 replace hw:kd (nm.ct++(.i::(nj.ct++[]))) ds:=hw
 obtain⟨s,ds,rfl,_,hw⟩:=nm.nw (r:=_) hw
 obtain⟨nn,ds,rfl,_,hw⟩:=nN hw
 obtain⟨p,ds,rfl,_,hw⟩:=nj.nw (r:=_) hw
 obtain rfl:=nk hw
 exact⟨0,eT (Vp Vm.kf (fun r0=>((true,[.int r0]):kM)) s nn p)⟩
def xj:Sum:= {ps:=[⟨nU.ct,true⟩,⟨nj.ct,true⟩],rs:=[⟨[.ef .bool],false⟩],fn:=fun ds=>(true,[.bool (Oj (nU.nc ds 0) (nj.nc ds 18))])}
theorem neE:D_ Tryz.prog 214 xj:=by
 refine nD (Γ:=[(55,nH),(207,tG),(209,qt),(301,Rk),(305,Oz)]) (Ih oB (Ih Ts (Ih vr (Ih ZR (Ih nqk JD))))) Tryz.func214 fun ds (hw:kd (nU.ct++(nj.ct++[])) ds) _=> ?_
 obtain⟨s,ds,rfl,_,hw⟩:=nU.nw (r:=_) hw
 obtain⟨p,ds,rfl,_,hw⟩:=nj.nw (r:=_) hw
 obtain rfl:=nk hw
 exact⟨0,eT (nsV Vm.kf (fun r0=>((true,[.bool r0]):kM)) s p)⟩
theorem nf4:D_ Tryz.prog 200 xj:=by
 refine nD (Γ:=[(37,nH),(193,tG),(195,qt),(293,Oz)]) (Ih oT (Ih TU (Ih vG (Ih nsc JD)))) Tryz.func200 fun ds (hw:kd (nU.ct++(nj.ct++[])) ds) _=> ?_
 obtain⟨s,ds,rfl,_,hw⟩:=nU.nw (r:=_) hw
 obtain⟨p,ds,rfl,_,hw⟩:=nj.nw (r:=_) hw
 obtain rfl:=nk hw
 exact⟨0,eT (nus (fun r0=>((true,[.bool r0]):kM)) s p)⟩
def Xn:Sum:= {ps:=[⟨nU.ct,true⟩,⟨nj.ct,true⟩],rs:=[⟨[.ef .i,.ef .i,.ef .i,.ef .i,.ef .i,.ef .i,.ef .i,.ef .i,.ef .i,.ef .i,.ef .i,.ef .i,.ef .i,.ef .i,.ef .i,.ef .str,.ef .i,.ef .i],true⟩],fn:=fun ds=>(true,nU.enc (nzq (nU.nc ds 0) (nj.nc ds 18)))}
theorem nxO:D_ Tryz.prog 215 Xn:=by
 refine nD (Γ:=[(214,xj)]) (Ih neE JD) Tryz.func215 fun ds (hw:kd (nU.ct++(nj.ct++[])) ds) _=> ?_
 obtain⟨s,ds,rfl,_,hw⟩:=nU.nw (r:=_) hw
 obtain⟨p,ds,rfl,_,hw⟩:=nj.nw (r:=_) hw
 obtain rfl:=nk hw
 exact⟨0,eT (npC Vm.kf (fun r0=>((true,nU.enc r0):kM)) s p)⟩
theorem nx5:D_ Tryz.prog 201 Xn:=by
 refine nD (Γ:=[(200,xj)]) (Ih nf4 JD) Tryz.func201 fun ds (hw:kd (nU.ct++(nj.ct++[])) ds) _=> ?_
 obtain⟨s,ds,rfl,_,hw⟩:=nU.nw (r:=_) hw
 obtain⟨p,ds,rfl,_,hw⟩:=nj.nw (r:=_) hw
 obtain rfl:=nk hw
 exact⟨0,eT (npC Vm.kf (fun r0=>((true,nU.enc r0):kM)) s p)⟩
def wi:Sum:= {ps:=[⟨[.sl [.i,.i,.i,.bool]],false⟩,⟨na.ct,true⟩,⟨[.i],false⟩,⟨nh.ct,true⟩,⟨[.str],false⟩,⟨nj.ct,true⟩,⟨[.bool],false⟩],rs:=[⟨[.own 9 [.str]],true⟩,⟨[.ef .i,.ef .i,.ef .i,.ef .i,.ef .i,.ef .i,.ef .i,.ef .i,.ef .i,.ef .i,.ef .i,.ef .i,.ef .i,.ef .i,.ef .i,.ef .i,.ef .i,.ef .i,.ef .i,.ef .i,.ef .i,.ef .i,.ef .i,.ef .i,.ef .i,.ef .str,.ef .i,.ef .i,.ef .bool,.ef .i],true⟩],fn:=fun ds=>(nwI (rR ds 0) (na.nc ds 1) (rI ds 2) (nh.nc ds 3) (rS ds 33) (nj.nc ds 34) (rB ds 50),na.enc (sD (rR ds 0) (na.nc ds 1) (rI ds 2) (nh.nc ds 3) (rS ds 33) (nj.nc ds 34) (rB ds 50)).1++nh.enc (sD (rR ds 0) (na.nc ds 1) (rI ds 2) (nh.nc ds 3) (rS ds 33) (nj.nc ds 34) (rB ds 50)).2)}
theorem neT:D_ Tryz.prog 104 wi:=by
 refine nD (Γ:=[(117,wj),(160,sN),(207,tG),(214,xj),(215,Xn),(216,Zn),(217,Sn)]) (Ih Xz (Ih tv (Ih Ts (Ih neE (Ih nxO (Ih nm9 (Ih nvs JD))))))) Tryz.func104 fun ds hw aP=> ?_
 replace hw:kd ((.sl [.i,.i,.i,.bool])::(na.ct++(.i::(nh.ct++(.str::(nj.ct++[.bool])))))) ds:=hw
 obtain⟨Z,ds,rfl,_,hw⟩:=nW hw
 obtain⟨m,ds,rfl,_,hw⟩:=na.nw (r:=_) hw
 obtain⟨O,ds,rfl,_,hw⟩:=nN hw
 obtain⟨q,ds,rfl,_,hw⟩:=nh.nw (r:=_) hw
 obtain⟨key,ds,rfl,_,hw⟩:=rA hw
 obtain⟨p,ds,rfl,_,hw⟩:=nj.nw (r:=_) hw
 obtain⟨vk,rfl,_⟩:=zB hw
 exact⟨0,eT (SU Vm.kf (fun r0 r1=>((true,na.enc r0++nh.enc r1):kM)) Z m O q key p vk aP)⟩
theorem ngd:D_ Tryz.prog 99 wi:=by
 refine nD (Γ:=[(129,uq),(139,wj),(193,tG),(200,xj),(201,Xn),(202,nba),(203,Sn)]) (Ih vH (Ih ngj (Ih TU (Ih nf4 (Ih nx5 (Ih noX (Ih nwr JD))))))) Tryz.func99 fun ds hw aP=> ?_
 replace hw:kd ((.sl [.i,.i,.i,.bool])::(na.ct++(.i::(nh.ct++(.str::(nj.ct++[.bool])))))) ds:=hw
 obtain⟨Z,ds,rfl,_,hw⟩:=nW hw
 obtain⟨m,ds,rfl,_,hw⟩:=na.nw (r:=_) hw
 obtain⟨O,ds,rfl,_,hw⟩:=nN hw
 obtain⟨q,ds,rfl,_,hw⟩:=nh.nw (r:=_) hw
 obtain⟨key,ds,rfl,_,hw⟩:=rA hw
 obtain⟨p,ds,rfl,_,hw⟩:=nj.nw (r:=_) hw
 obtain⟨vk,rfl,_⟩:=zB hw
 exact⟨0,eT (SU Vm.kf (fun r0 r1=>((true,na.enc r0++nh.enc r1):kM)) Z m O q key p vk aP)⟩
def xJ:Sum:= {ps:=[⟨ny.ct,true⟩,⟨[.str],false⟩],rs:=[⟨[.own 9 [.str],.own 222 [.i,.i,.i,.bool],.ef .i,.ef .i,.ef .i,.ef .i,.ef .i,.ef .i,.ef .i,.own 3 [.i],.deep 293 [.i,.i,.sl [.i]] [3],.ef .i,.own 104 [.i,.i,.i,.i,.i,.i,.i,.i,.i,.i,.i,.i,.i,.i,.i,.i,.i,.i,.i,.i,.i,.i,.i,.i,.i,.str,.i,.i,.bool,.i],.deep 57 [.i,.i,.i,.sl [.i]] [3],.own 107 [.i,.i,.i,.i,.bool,.bool],.own 4 [.bool],.ef .i,.ef .bool,.own 3 [.i],.own 260 [.i,.i,.i,.i,.i,.i,.i,.i,.i],.own 264 [.i,.i,.i,.i,.i,.i,.i],.ef .str,.own 3 [.i],.own 236 [.i,.i,.i,.i,.i,.i,.str,.bool],.ef .bool,.own 9 [.str],.own 3 [.i],.own 3 [.i],.ef .i,.ef .i,.ef .i,.ef .i,.ef .i],true⟩],fn:=fun ds=>(tn (ny.nc ds 0) (rS ds 33),ny.enc (pU (ny.nc ds 0) (rS ds 33)))}
theorem njk:D_ Tryz.prog 15 xJ:=by
 refine nD (Γ:=[(20,sE),(54,vX),(101,zT),(102,PT),(103,xQ),(104,wi),(105,vb)]) (Ih nvn (Ih nqv (Ih nnh (Ih nsT (Ih njs (Ih neT (Ih nnn JD))))))) Tryz.func15 fun ds (hw:kd (ny.ct++[.str]) ds) aP=> ?_
 obtain⟨h,ds,rfl,h_h,hw⟩:=ny.nw (r:=_) hw
 obtain⟨frame,rfl,_⟩:=oC hw
 exact⟨0,eT (njj Vm.kf (fun r0=>((true,ny.enc r0):kM)) h frame h_h aP)⟩
theorem nko:D_ Tryz.prog 14 xJ:=by
 refine nD (Γ:=[(35,vX),(36,sE),(96,zT),(97,PT),(98,xQ),(99,wi),(100,vb)]) (Ih nu5 (Ih nwm (Ih no6 (Ih nuq (Ih nkz (Ih ngd (Ih npe JD))))))) Tryz.func14 fun ds (hw:kd (ny.ct++[.str]) ds) aP=> ?_
 obtain⟨h,ds,rfl,h_h,hw⟩:=ny.nw (r:=_) hw
 obtain⟨frame,rfl,_⟩:=oC hw
 exact⟨0,eT (nkn Vm.kf (fun r0=>((true,ny.enc r0):kM)) h frame h_h aP)⟩
def Xb:Sum:= {ps:=[⟨ny.ct,true⟩,⟨[.str],false⟩],rs:=[⟨[.ef .bool],false⟩],fn:=fun ds=>(W9 (ny.ct++(.str::([]))) ds,[.bool true])}
theorem Xa:D_ Tryz.prog 4 Xb:=by
 refine nD (Γ:=[(7,niG),(9,niK),(11,nir),(12,nc_),(13,nc5),(14,xJ),(15,xJ)]) (Ih nvU (Ih nv2 (Ih nvJ (Ih nq3 (Ih nqX (Ih nko (Ih njk JD))))))) Tryz.func4 fun ds (hw:kd (ny.ct++[.str]) ds) aP=> ?_
 obtain⟨aH,ds,rfl,nAk,hw⟩:=ny.nw (r:=_) hw
 obtain⟨tq,rfl,nxK⟩:=oC hw
 exact⟨0,eT (W_ Vm.kf (fun r0=>((true,[.bool r0]):kM)) aH tq nAk nxK aP)⟩
end
end Go.Proofs.YtnlkklmcfafgeaaGreat.Pl
