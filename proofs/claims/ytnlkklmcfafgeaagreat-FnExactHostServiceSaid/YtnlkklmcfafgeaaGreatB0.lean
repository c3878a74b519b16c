/- Contracts. Conditions: as each says. -/
import Derived.Test.YtnlkklmcfafgeaaGreatP0
import Derived.Test.YtnlkklmcfafgeaaGreatRows
import Derived.Test.YtnlkklmcfafgeaaGreatP1
set_option linter.unusedVariables false
set_option linter.unusedSimpArgs false
set_option maxRecDepth 100000
namespace Go.Proofs.YtnlkklmcfafgeaaGreat.Pl
open Vm
noncomputable section
def xJ:Sum:= {ps:=[⟨[.sl [.i]],false⟩,⟨[.i],false⟩],rs:=[⟨[.d_ .i],false⟩],fn:=fun ds=>(true,[.int (oI (rR ds 0) (rI ds 1))])}
theorem Nc:Ee Tryz.prog 34 xJ:=by
 refine nQ JH Tryz.func34 fun ds (hw:kc ([.sl [.i],.i]) ds) _=> ?_
 obtain⟨a,ds,rfl,_,hw⟩:=oq hw
 obtain⟨left,rfl,_⟩:=nz hw
 exact⟨0,eT (xI (fun r0=>((true,[.int r0]):kL)) a left)⟩
def nbB:Sum:= {ps:=[⟨nF.ct,true⟩,⟨[.i],false⟩],rs:=[⟨[.d_ .i],false⟩],fn:=fun ds=>(true,[.int (qR (nF.nd ds 0) (rI ds 3))])}
theorem nnN:Ee Tryz.prog 30 nbB:=by
 refine nQ (Γ:=[(34,xJ)]) (Il Nc JH) Tryz.func30 fun ds (hw:kc (nF.ct++[.i]) ds) _=> ?_
 obtain⟨a,ds,rfl,_,hw⟩:=nF.nB (r:=_) hw
 obtain⟨left,rfl,_⟩:=nz hw
 exact⟨0,eT (nnM (fun r0=>((true,[.int r0]):kL)) a left)⟩
def W_:Sum:= {ps:=[⟨ot.ct,true⟩],rs:=[⟨[.d_ .i,.d_ .i,.d_ .i,.d_ .i,.d_ .i],true⟩],fn:=fun ds=>(true,ot.enc (oD (ot.nd ds 0)))}
theorem njz:Ee Tryz.prog 53 W_:=by
 refine nQ JH Tryz.func53 fun ds (hw:kc (ot.ct++[]) ds) _=> ?_
 obtain⟨a,ds,rfl,_,hw⟩:=ot.nB (r:=_) hw
 obtain rfl:=nw hw
 exact⟨0,eT (njy (fun r0=>((true,ot.enc r0):kL)) a)⟩
def Yx:Sum:= {ps:=[⟨nA.ct,true⟩,⟨nA.ct,true⟩],rs:=[⟨[.d_ .bool],false⟩],fn:=fun ds=>(same (nA.nd ds 0) (nA.nd ds 8),[.bool (pF (nA.nd ds 0) (nA.nd ds 8))])}
theorem nkE:Ee Tryz.prog 407 Yx:=by
 refine nQ JH Tryz.func407 fun ds (hw:kc (nA.ct++(nA.ct++[])) ds) aJ=> ?_
 obtain⟨a,ds,rfl,_,hw⟩:=nA.nB (r:=_) hw
 obtain⟨b,ds,rfl,_,hw⟩:=nA.nB (r:=_) hw
 obtain rfl:=nw hw
 exact⟨0,eT (nkD (fun r0=>((true,[.bool r0]):kL)) a b aJ)⟩
def nbg:Sum:= {ps:=[⟨nC.ct,true⟩,⟨nC.ct,true⟩],rs:=[⟨[.d_ .bool],false⟩],fn:=fun ds=>(same (nC.nd ds 0) (nC.nd ds 16),[.bool (pF (nC.nd ds 0) (nC.nd ds 16))])}
theorem nnm:Ee Tryz.prog 357 nbg:=by
 refine nQ (Γ:=[(407,Yx)]) (Il nkE JH) Tryz.func357 fun ds (hw:kc (nC.ct++(nC.ct++[])) ds) aJ=> ?_
 obtain⟨a,ds,rfl,_,hw⟩:=nC.nB (r:=_) hw
 obtain⟨b,ds,rfl,_,hw⟩:=nC.nB (r:=_) hw
 obtain rfl:=nw hw
 exact⟨0,eT (nnl Vm.ke (fun r0=>((true,[.bool r0]):kL)) a b aJ)⟩
def ndk:Sum:= {ps:=[⟨pr.ct,true⟩,⟨pr.ct,true⟩],rs:=[⟨[.d_ .bool],false⟩],fn:=fun ds=>(same (pr.nd ds 0) (pr.nd ds 18),[.bool (pF (pr.nd ds 0) (pr.nd ds 18))])}
theorem nqa:Ee Tryz.prog 282 ndk:=by
 refine nQ (Γ:=[(357,nbg)]) (Il nnm JH) Tryz.func282 fun ds (hw:kc (pr.ct++(pr.ct++[])) ds) aJ=> ?_
 obtain⟨a,ds,rfl,_,hw⟩:=pr.nB (r:=_) hw
 obtain⟨b,ds,rfl,_,hw⟩:=pr.nB (r:=_) hw
 obtain rfl:=nw hw
 exact⟨0,eT (np_ Vm.ke (fun r0=>((true,[.bool r0]):kL)) a b aJ)⟩
def v_:Sum:= {ps:=[⟨[.sl [.i]],false⟩],rs:=[⟨[.own 3 [.i]],false⟩],fn:=fun ds=>(sm (rR ds 0),[.sl (oD (rR ds 0))])}
def ngm:List (Nat×lC):=[(3, {cb:=[(0,.mL),(3,.mL),(4,.mL)],boxes:=[]})]
def ngn:Rows→kL:=(fun r0=>((true,[.sl r0]):kL))
def nqq (a:Rows) (i:Int) (oh:Rows):St:= {n:=22,sl:=[(0,.sl [.i] a),(3,.own 640192),(4,.int .i64 i)],hp:=[(640192,.row 3 [.i] oh false true)],ok:=true,ls:=[],lm:=[]}
theorem Ng:Ee Tryz.prog 52 v_:=by
 refine qD (A:=ngm) JH Tryz.func52 fun ds (hw:kc ([.sl [.i]]) ds) aJ=> ?_
 obtain⟨a,rfl,qs⟩:=pS hw
 obtain⟨N,hN⟩:=nsm Vm.ke ngn a qs aJ
 have e0:(fun i oh=>LY (LX Tryz.prog [] ngm N Tryz.f52 v_ [true,true,false,true,false] []) N (nqq a i oh))=(nl4 nry Vm.ke ngn N a N):=X2 _ _ _ N
 refine⟨N,Eq.trans ?_ (hN.trans (by kernel_rfl))⟩
 unfold ZU
 rw[←e0]
 kernel_rfl
def nbI:Sum:= {ps:=[⟨nF.ct,true⟩],rs:=[⟨[.d_ .i,.d_ .bool,.own 3 [.i]],true⟩],fn:=fun ds=>(uT (nF.nd ds 0),nF.enc (oD (nF.nd ds 0)))}
theorem nn1:Ee Tryz.prog 48 nbI:=by
 refine nQ (Γ:=[(52,v_)]) (Il Ng JH) Tryz.func48 fun ds (hw:kc (nF.ct++[]) ds) aJ=> ?_
 obtain⟨a,ds,rfl,_,hw⟩:=nF.nB (r:=_) hw
 obtain rfl:=nw hw
 exact⟨0,eT (nn0 Vm.ke (fun r0=>((true,nF.enc r0):kL)) a aJ)⟩
def XX:Sum:= {ps:=[⟨nE.ct,true⟩],rs:=[⟨[.d_ .i,.d_ .i,.d_ .i,.d_ .i],true⟩],fn:=fun ds=>(true,nE.enc (oD (nE.nd ds 0)))}
theorem ngp:Ee Tryz.prog 151 XX:=by
 refine nQ JH Tryz.func151 fun ds (hw:kc (nE.ct++[]) ds) _=> ?_
 obtain⟨a,ds,rfl,_,hw⟩:=nE.nB (r:=_) hw
 obtain rfl:=nw hw
 exact⟨0,eT (nso (fun r0=>((true,nE.enc r0):kL)) a)⟩
def Nf:Sum:= {ps:=[⟨nf.ct,true⟩],rs:=[⟨[.d_ .i,.d_ .i,.d_ .i],true⟩],fn:=fun ds=>(true,nf.enc (oD (nf.nd ds 0)))}
theorem XT:Ee Tryz.prog 269 Nf:=by
 refine nQ JH Tryz.func269 fun ds (hw:kc (nf.ct++[]) ds) _=> ?_
 obtain⟨a,ds,rfl,_,hw⟩:=nf.nB (r:=_) hw
 obtain rfl:=nw hw
 exact⟨0,eT (XS (fun r0=>((true,nf.enc r0):kL)) a)⟩
def Zu:Sum:= {ps:=[⟨nA.ct,true⟩],rs:=[⟨[.d_ .i,.d_ .i,.d_ .i,.d_ .i,.d_ .i,.d_ .i,.d_ .i,.d_ .str],true⟩],fn:=fun ds=>(true,nA.enc (oD (nA.nd ds 0)))}
theorem nly:Ee Tryz.prog 406 Zu:=by
 refine nQ JH Tryz.func406 fun ds (hw:kc (nA.ct++[]) ds) _=> ?_
 obtain⟨a,ds,rfl,_,hw⟩:=nA.nB (r:=_) hw
 obtain rfl:=nw hw
 exact⟨0,eT (nlx (fun r0=>((true,nA.enc r0):kL)) a)⟩
def nbK:Sum:= {ps:=[⟨nC.ct,true⟩],rs:=[⟨[.d_ .i,.d_ .i,.d_ .i,.d_ .i,.d_ .i,.d_ .i,.d_ .i,.d_ .i,.d_ .i,.d_ .i,.d_ .i,.d_ .i,.d_ .i,.d_ .i,.d_ .i,.d_ .str],true⟩],fn:=fun ds=>(true,nC.enc (oD (nC.nd ds 0)))}
theorem nn5:Ee Tryz.prog 352 nbK:=by
 refine nQ (Γ:=[(406,Zu)]) (Il nly JH) Tryz.func352 fun ds (hw:kc (nC.ct++[]) ds) _=> ?_
 obtain⟨a,ds,rfl,_,hw⟩:=nC.nB (r:=_) hw
 obtain rfl:=nw hw
 exact⟨0,eT (nn4 (fun r0=>((true,nC.enc r0):kL)) a)⟩
def ndY:Sum:= {ps:=[⟨pr.ct,true⟩],rs:=[⟨[.d_ .i,.d_ .i,.d_ .i,.d_ .i,.d_ .i,.d_ .i,.d_ .i,.d_ .i,.d_ .i,.d_ .i,.d_ .i,.d_ .i,.d_ .i,.d_ .i,.d_ .i,.d_ .str,.d_ .i,.d_ .i],true⟩],fn:=fun ds=>(true,pr.enc (oD (pr.nd ds 0)))}
theorem nqE:Ee Tryz.prog 270 ndY:=by
 refine nQ (Γ:=[(352,nbK)]) (Il nn5 JH) Tryz.func270 fun ds (hw:kc (pr.ct++[]) ds) _=> ?_
 obtain⟨a,ds,rfl,_,hw⟩:=pr.nB (r:=_) hw
 obtain rfl:=nw hw
 exact⟨0,eT (nqD (fun r0=>((true,pr.enc r0):kL)) a)⟩
def Zt:Sum:= {ps:=[⟨nr.ct,true⟩],rs:=[⟨[.d_ .i,.d_ .i,.d_ .i,.d_ .i,.d_ .i,.d_ .i,.d_ .i,.d_ .i,.d_ .i,.d_ .i,.d_ .i,.d_ .i,.d_ .i,.d_ .i,.d_ .i,.d_ .i,.d_ .i,.d_ .i,.d_ .i,.d_ .i,.d_ .i,.d_ .i,.d_ .i,.d_ .i,.d_ .i,.d_ .str,.d_ .i,.d_ .i,.d_ .bool,.d_ .i],true⟩],fn:=fun ds=>(true,nr.enc (oD (nr.nd ds 0)))}
theorem nlv:Ee Tryz.prog 154 Zt:=by
 refine nQ (Γ:=[(151,XX),(269,Nf),(270,ndY)]) (Il ngp (Il XT (Il nqE JH))) Tryz.func154 fun ds (hw:kc (nr.ct++[]) ds) _=> ?_
 obtain⟨a,ds,rfl,_,hw⟩:=nr.nB (r:=_) hw
 obtain rfl:=nw hw
 exact⟨0,eT (nlu (fun r0=>((true,nr.enc r0):kL)) a)⟩
def Pn:Sum:= {ps:=[⟨[.sl [.i,.i,.i,.i,.i,.i,.i,.i,.i,.i,.i,.i,.i,.i,.i,.i,.i,.i,.i,.i,.i,.i,.i,.i,.i,.str,.i,.i,.bool,.i]],false⟩],rs:=[⟨[.own 104 [.i,.i,.i,.i,.i,.i,.i,.i,.i,.i,.i,.i,.i,.i,.i,.i,.i,.i,.i,.i,.i,.i,.i,.i,.i,.str,.i,.i,.bool,.i]],false⟩],fn:=fun ds=>(sm (rR ds 0),[.sl (oD (rR ds 0))])}
def Xf:Ctx:=[(154,Zt)]
theorem njG:bH Tryz.prog Xf:=Il nlv JH
def Xe:List (Nat×lC):=[(3, {cb:=[(0,.mL),(3,.mL),(4,.mL)],boxes:=[]})]
def Xg:Rows→kL:=(fun r0=>((true,[.sl r0]):kL))
def nhx (a:Rows) (i:Int) (oh:Rows):St:= {n:=23,sl:=[(0,.sl [.i,.i,.i,.i,.i,.i,.i,.i,.i,.i,.i,.i,.i,.i,.i,.i,.i,.i,.i,.i,.i,.i,.i,.i,.i,.str,.i,.i,.bool,.i] a),(3,.own 640192),(4,.int .i64 i)],hp:=[(640192,.row 104 [.i,.i,.i,.i,.i,.i,.i,.i,.i,.i,.i,.i,.i,.i,.i,.i,.i,.i,.i,.i,.i,.i,.i,.i,.i,.str,.i,.i,.bool,.i] oh false true)],ok:=true,ls:=[],lm:=[]}
theorem njF:Ee Tryz.prog 44 Pn:=by
 refine qD (A:=Xe) njG Tryz.func44 fun ds (hw:kc ([.sl [.i,.i,.i,.i,.i,.i,.i,.i,.i,.i,.i,.i,.i,.i,.i,.i,.i,.i,.i,.i,.i,.i,.i,.i,.i,.str,.i,.i,.bool,.i]]) ds) aJ=> ?_
 obtain⟨a,rfl,qs⟩:=pS hw
 obtain⟨N,hN⟩:=njE Vm.ke Xg a qs aJ
 have e0:(fun i oh=>LY (LX Tryz.prog Xf Xe N Tryz.f44 Pn [true,true,false,true,false] []) N (nhx a i oh))=(nl4 nab Vm.ke Xg N a N):=X2 _ _ _ N
 refine⟨N,Eq.trans ?_ (hN.trans (by kernel_rfl))⟩
 unfold ZU
 rw[←e0]
 kernel_rfl
def zg:Sum:= {ps:=[⟨[.sl [.str]],false⟩,⟨[.sl [.str]],false⟩],rs:=[⟨[.d_ .bool],false⟩],fn:=fun ds=>(same (rR ds 0) (rR ds 1),[.bool (pF (rR ds 0) (rR ds 1))])}
def YC:List (Nat×lC):=[(4, {cb:=[(0,.mL),(1,.mL),(5,.mL)],boxes:=[]})]
def YD:Bool→kL:=(fun r0=>((true,[.bool r0]):kL))
def niV (a b:Rows) (i:Int):St:= {n:=26,sl:=[(0,.sl [.str] a),(1,.sl [.str] b),(5,.int .i64 i)],hp:=[],ok:=true,ls:=[],lm:=[]}
theorem YF:Ee Tryz.prog 69 zg:=by
 refine qD (A:=YC) JH Tryz.func69 fun ds (hw:kc ([.sl [.str],.sl [.str]]) ds) aJ=> ?_
 obtain⟨a,ds,rfl,qs,hw⟩:=oq hw
 obtain⟨b,rfl,_⟩:=pS hw
 obtain⟨N,hN⟩:=nkI Vm.ke YD a b qs aJ
 exact⟨N,eL (fun l_=>Qh Vm.ke YD l_ a b) (nL1 (LX Tryz.prog [] YC N Tryz.f69 zg [true,true,false,true,false] []) (niV a b) _ N) hN⟩
def nbe:Sum:= {ps:=[⟨nc.ct,true⟩,⟨nc.ct,true⟩],rs:=[⟨[.d_ .bool],false⟩],fn:=fun ds=>(same (nc.nd ds 0) (nc.nd ds 1),[.bool (pF (nc.nd ds 0) (nc.nd ds 1))])}
theorem nnk:Ee Tryz.prog 59 nbe:=by
 refine nQ (Γ:=[(69,zg)]) (Il YF JH) Tryz.func59 fun ds (hw:kc (nc.ct++(nc.ct++[])) ds) aJ=> ?_
 obtain⟨a,ds,rfl,_,hw⟩:=nc.nB (r:=_) hw
 obtain⟨b,ds,rfl,_,hw⟩:=nc.nB (r:=_) hw
 obtain rfl:=nw hw
 exact⟨0,eT (nnj Vm.ke (fun r0=>((true,[.bool r0]):kL)) a b aJ)⟩
def Zs:Sum:= {ps:=[⟨pb.ct,true⟩],rs:=[⟨[.d_ .i,.d_ .i,.d_ .i,.d_ .bool],true⟩],fn:=fun ds=>(true,pb.enc (oD (pb.nd ds 0)))}
theorem nls:Ee Tryz.prog 150 Zs:=by
 refine nQ JH Tryz.func150 fun ds (hw:kc (pb.ct++[]) ds) _=> ?_
 obtain⟨a,ds,rfl,_,hw⟩:=pb.nB (r:=_) hw
 obtain rfl:=nw hw
 exact⟨0,eT (nlr (fun r0=>((true,pb.enc r0):kL)) a)⟩
def nbm:Sum:= {ps:=[⟨nx.ct,true⟩,⟨nx.ct,true⟩],rs:=[⟨[.d_ .bool],false⟩],fn:=fun ds=>(same (nx.nd ds 0) (nx.nd ds 6),[.bool (pF (nx.nd ds 0) (nx.nd ds 6))])}
theorem nnw:Ee Tryz.prog 176 nbm:=by
 refine nQ JH Tryz.func176 fun ds (hw:kc (nx.ct++(nx.ct++[])) ds) aJ=> ?_
 obtain⟨a,ds,rfl,_,hw⟩:=nx.nB (r:=_) hw
 obtain⟨b,ds,rfl,_,hw⟩:=nx.nB (r:=_) hw
 obtain rfl:=nw hw
 exact⟨0,eT (nnv (fun r0=>((true,[.bool r0]):kL)) a b aJ)⟩
def XV:Sum:= {ps:=[⟨nO.ct,true⟩],rs:=[⟨[.d_ .i,.d_ .i,.d_ .i,.d_ .i,.d_ .i],true⟩],fn:=fun ds=>(true,nO.enc (oD (nO.nd ds 0)))}
theorem ngk:Ee Tryz.prog 273 XV:=by
 refine nQ JH Tryz.func273 fun ds (hw:kc (nO.ct++[]) ds) _=> ?_
 obtain⟨a,ds,rfl,_,hw⟩:=nO.nB (r:=_) hw
 obtain rfl:=nw hw
 exact⟨0,eT (nsi (fun r0=>((true,nO.enc r0):kL)) a)⟩
def nbM:Sum:= {ps:=[⟨nJ.ct,true⟩],rs:=[⟨[.d_ .i,.d_ .i,.d_ .i,.d_ .i,.d_ .i,.d_ .i,.d_ .str,.d_ .bool],true⟩],fn:=fun ds=>(true,nJ.enc (oD (nJ.nd ds 0)))}
theorem nod:Ee Tryz.prog 159 nbM:=by
 refine nQ (Γ:=[(273,XV)]) (Il ngk JH) Tryz.func159 fun ds (hw:kc (nJ.ct++[]) ds) _=> ?_
 obtain⟨a,ds,rfl,_,hw⟩:=nJ.nB (r:=_) hw
 obtain rfl:=nw hw
 exact⟨0,eT (noc (fun r0=>((true,nJ.enc r0):kL)) a)⟩
def QF:Sum:= {ps:=[⟨[.sl [.i,.i,.i,.i,.i,.i,.str,.bool]],false⟩],rs:=[⟨[.own 236 [.i,.i,.i,.i,.i,.i,.str,.bool]],false⟩],fn:=fun ds=>(sm (rR ds 0),[.sl (oD (rR ds 0))])}
def Zw:Ctx:=[(159,nbM)]
theorem nlC:bH Tryz.prog Zw:=Il nod JH
def Zv:List (Nat×lC):=[(3, {cb:=[(0,.mL),(3,.mL),(4,.mL)],boxes:=[]})]
def Zx:Rows→kL:=(fun r0=>((true,[.sl r0]):kL))
def njJ (a:Rows) (i:Int) (oh:Rows):St:= {n:=23,sl:=[(0,.sl [.i,.i,.i,.i,.i,.i,.str,.bool] a),(3,.own 640192),(4,.int .i64 i)],hp:=[(640192,.row 236 [.i,.i,.i,.i,.i,.i,.str,.bool] oh false true)],ok:=true,ls:=[],lm:=[]}
theorem nlB:Ee Tryz.prog 50 QF:=by
 refine qD (A:=Zv) nlC Tryz.func50 fun ds (hw:kc ([.sl [.i,.i,.i,.i,.i,.i,.str,.bool]]) ds) aJ=> ?_
 obtain⟨a,rfl,qs⟩:=pS hw
 obtain⟨N,hN⟩:=nlA Vm.ke Zx a qs aJ
 have e0:(fun i oh=>LY (LX Tryz.prog Zw Zv N Tryz.f50 QF [true,true,false,true,false] []) N (njJ a i oh))=(nl4 neI Vm.ke Zx N a N):=X2 _ _ _ N
 refine⟨N,Eq.trans ?_ (hN.trans (by kernel_rfl))⟩
 unfold ZU
 rw[←e0]
 kernel_rfl
def nbG:Sum:= {ps:=[⟨nI.ct,true⟩,⟨[.i],false⟩],rs:=[⟨[.d_ .i],false⟩],fn:=fun ds=>(true,[.int (v9 (nI.nd ds 0) (rI ds 2))])}
theorem nnV:Ee Tryz.prog 127 nbG:=by
 refine nQ (Γ:=[(34,xJ)]) (Il Nc JH) Tryz.func127 fun ds (hw:kc (nI.ct++[.i]) ds) _=> ?_
 obtain⟨a,ds,rfl,_,hw⟩:=nI.nB (r:=_) hw
 obtain⟨left,rfl,_⟩:=nz hw
 exact⟨0,eT (nnU (fun r0=>((true,[.int r0]):kL)) a left)⟩
def ngr:Sum:= {ps:=[⟨py.ct,true⟩],rs:=[⟨[.d_ .i,.d_ .i,.own 3 [.i]],true⟩],fn:=fun ds=>(ua (py.nd ds 0),py.enc (oD (py.nd ds 0)))}
theorem nsu:Ee Tryz.prog 268 ngr:=by
 refine nQ (Γ:=[(52,v_)]) (Il Ng JH) Tryz.func268 fun ds (hw:kc (py.ct++[]) ds) aJ=> ?_
 obtain⟨a,ds,rfl,_,hw⟩:=py.nB (r:=_) hw
 obtain rfl:=nw hw
 exact⟨0,eT (nst Vm.ke (fun r0=>((true,py.enc r0):kL)) a aJ)⟩
def Vw:Sum:= {ps:=[⟨[.sl [.i,.i,.sl [.i]]],false⟩],rs:=[⟨[.deep 293 [.i,.i,.sl [.i]] [3]],false⟩],fn:=fun ds=>(tl (rR ds 0),[.sl (oD (rR ds 0))])}
def ndS:Ctx:=[(1125899906842631,J9),(268,ngr)]
theorem nqz:bH Tryz.prog ndS:=Il Lw (Il nsu JH)
def ndR:List (Nat×lC):=[(3, {cb:=[(0,.mL),(3,.mL),(4,.mL)],boxes:=[]})]
def ndT:Rows→kL:=(fun r0=>((true,[.sl r0]):kL))
def nn9 (a:Rows) (i:Int) (oh:Rows):St:= {n:=23,sl:=[(0,.sl [.i,.i,.sl [.i]] a),(3,.own 640192),(4,.int .i64 i)],hp:=[(640192,.deep 293 [.i,.i,.sl [.i]] [3] oh none)],ok:=true,ls:=[],lm:=[]}
theorem nqy:Ee Tryz.prog 153 Vw:=by
 refine qD (A:=ndR) nqz Tryz.func153 fun ds (hw:kc ([.sl [.i,.i,.sl [.i]]]) ds) aJ=> ?_
 obtain⟨a,rfl,qs⟩:=pS hw
 obtain⟨N,hN⟩:=nqx Vm.ke ndT a qs aJ
 exact⟨N,eL (fun l_=>Vx Vm.ke ndT l_ a) (X2 (LX Tryz.prog ndS ndR N Tryz.f153 Vw [true,true,false,true,false] []) (nn9 a) _ N) hN⟩
def Zr:Sum:= {ps:=[⟨[.sl [.i,.i,.i,.i,.bool,.bool]],false⟩,⟨[.i],false⟩],rs:=[⟨[.d_ .i],false⟩],fn:=fun ds=>(true,[.int (oI (rR ds 0) (rI ds 1))])}
theorem nlq:Ee Tryz.prog 28 Zr:=by
 refine nQ JH Tryz.func28 fun ds (hw:kc ([.sl [.i,.i,.i,.i,.bool,.bool],.i]) ds) _=> ?_
 obtain⟨a,ds,rfl,_,hw⟩:=oq hw
 obtain⟨left,rfl,_⟩:=nz hw
 exact⟨0,eT (xI (fun r0=>((true,[.int r0]):kL)) a left)⟩
def zo:Sum:= {ps:=[⟨[.sl [.str]],false⟩],rs:=[⟨[.own 9 [.str]],false⟩],fn:=fun ds=>(sm (rR ds 0),[.sl (oD (rR ds 0))])}
def Zy:List (Nat×lC):=[(3, {cb:=[(0,.mL),(3,.mL),(4,.mL)],boxes:=[]})]
def Zz:Rows→kL:=(fun r0=>((true,[.sl r0]):kL))
def njK (a:Rows) (i:Int) (oh:Rows):St:= {n:=22,sl:=[(0,.sl [.str] a),(3,.own 640192),(4,.int .i64 i)],hp:=[(640192,.row 9 [.str] oh false true)],ok:=true,ls:=[],lm:=[]}
theorem ZA:Ee Tryz.prog 51 zo:=by
 refine qD (A:=Zy) JH Tryz.func51 fun ds (hw:kc ([.sl [.str]]) ds) aJ=> ?_
 obtain⟨a,rfl,qs⟩:=pS hw
 obtain⟨N,hN⟩:=nlD Vm.ke Zz a qs aJ
 have e0:(fun i oh=>LY (LX Tryz.prog [] Zy N Tryz.f51 zo [true,true,false,true,false] []) N (njK a i oh))=(nl4 neJ Vm.ke Zz N a N):=X2 _ _ _ N
 refine⟨N,Eq.trans ?_ (hN.trans (by kernel_rfl))⟩
 unfold ZU
 rw[←e0]
 kernel_rfl
def nbJ:Sum:= {ps:=[⟨nc.ct,true⟩],rs:=[⟨[.own 9 [.str]],true⟩],fn:=fun ds=>(uU (nc.nd ds 0),nc.enc (oD (nc.nd ds 0)))}
theorem nn3:Ee Tryz.prog 41 nbJ:=by
 refine nQ (Γ:=[(51,zo)]) (Il ZA JH) Tryz.func41 fun ds (hw:kc (nc.ct++[]) ds) aJ=> ?_
 obtain⟨a,ds,rfl,_,hw⟩:=nc.nB (r:=_) hw
 obtain rfl:=nw hw
 exact⟨0,eT (nn2 Vm.ke (fun r0=>((true,nc.enc r0):kL)) a aJ)⟩
def Pm:Sum:= {ps:=[⟨[.sl [.i,.i,.i,.bool]],false⟩],rs:=[⟨[.own 222 [.i,.i,.i,.bool]],false⟩],fn:=fun ds=>(sm (rR ds 0),[.sl (oD (rR ds 0))])}
def Xb:Ctx:=[(150,Zs)]
theorem njD:bH Tryz.prog Xb:=Il nls JH
def Xa:List (Nat×lC):=[(3, {cb:=[(0,.mL),(3,.mL),(4,.mL)],boxes:=[]})]
def Xc:Rows→kL:=(fun r0=>((true,[.sl r0]):kL))
def nhw (a:Rows) (i:Int) (oh:Rows):St:= {n:=23,sl:=[(0,.sl [.i,.i,.i,.bool] a),(3,.own 640192),(4,.int .i64 i)],hp:=[(640192,.row 222 [.i,.i,.i,.bool] oh false true)],ok:=true,ls:=[],lm:=[]}
theorem njC:Ee Tryz.prog 42 Pm:=by
 refine qD (A:=Xa) njD Tryz.func42 fun ds (hw:kc ([.sl [.i,.i,.i,.bool]]) ds) aJ=> ?_
 obtain⟨a,rfl,qs⟩:=pS hw
 obtain⟨N,hN⟩:=njB Vm.ke Xc a qs aJ
 have e0:(fun i oh=>LY (LX Tryz.prog Xb Xa N Tryz.f42 Pm [true,true,false,true,false] []) N (nhw a i oh))=(nl4 naa Vm.ke Xc N a N):=X2 _ _ _ N
 refine⟨N,Eq.trans ?_ (hN.trans (by kernel_rfl))⟩
 unfold ZU
 rw[←e0]
 kernel_rfl
def XW:Sum:= {ps:=[⟨nj.ct,true⟩],rs:=[⟨[.d_ .i,.d_ .i,.d_ .i,.own 3 [.i]],true⟩],fn:=fun ds=>(sY (nj.nd ds 0),nj.enc (oD (nj.nd ds 0)))}
theorem ngo:Ee Tryz.prog 152 XW:=by
 refine nQ (Γ:=[(52,v_)]) (Il Ng JH) Tryz.func152 fun ds (hw:kc (nj.ct++[]) ds) aJ=> ?_
 obtain⟨a,ds,rfl,_,hw⟩:=nj.nB (r:=_) hw
 obtain rfl:=nw hw
 exact⟨0,eT (nsn Vm.ke (fun r0=>((true,nj.enc r0):kL)) a aJ)⟩
def ZB:Sum:= {ps:=[⟨nv.ct,true⟩],rs:=[⟨[.d_ .i,.d_ .i,.d_ .i,.d_ .i,.d_ .i,.d_ .i,.d_ .i,.own 3 [.i],.deep 293 [.i,.i,.sl [.i]] [3],.d_ .i],true⟩],fn:=fun ds=>(uh (nv.nd ds 0),nv.enc (oD (nv.nd ds 0)))}
theorem nlF:Ee Tryz.prog 43 ZB:=by
 refine nQ (Γ:=[(151,XX),(152,XW),(153,Vw)]) (Il ngp (Il ngo (Il nqy JH))) Tryz.func43 fun ds (hw:kc (nv.ct++[]) ds) aJ=> ?_
 obtain⟨a,ds,rfl,_,hw⟩:=nv.nB (r:=_) hw
 obtain rfl:=nw hw
 exact⟨0,eT (nlE Vm.ke (fun r0=>((true,nv.enc r0):kL)) a aJ)⟩
def Vt:Sum:= {ps:=[⟨[.sl [.i,.i,.i,.sl [.i]]],false⟩],rs:=[⟨[.deep 57 [.i,.i,.i,.sl [.i]] [3]],false⟩],fn:=fun ds=>(uq (rR ds 0),[.sl (oD (rR ds 0))])}
def ndL:Ctx:=[(1125899906842631,J9),(152,XW)]
theorem nqt:bH Tryz.prog ndL:=Il Lw (Il ngo JH)
def ndK:List (Nat×lC):=[(3, {cb:=[(0,.mL),(3,.mL),(4,.mL)],boxes:=[]})]
def ndM:Rows→kL:=(fun r0=>((true,[.sl r0]):kL))
def nn7 (a:Rows) (i:Int) (oh:Rows):St:= {n:=23,sl:=[(0,.sl [.i,.i,.i,.sl [.i]] a),(3,.own 640192),(4,.int .i64 i)],hp:=[(640192,.deep 57 [.i,.i,.i,.sl [.i]] [3] oh none)],ok:=true,ls:=[],lm:=[]}
theorem nqs:Ee Tryz.prog 45 Vt:=by
 refine qD (A:=ndK) nqt Tryz.func45 fun ds (hw:kc ([.sl [.i,.i,.i,.sl [.i]]]) ds) aJ=> ?_
 obtain⟨a,rfl,qs⟩:=pS hw
 obtain⟨N,hN⟩:=nqr Vm.ke ndM a qs aJ
 exact⟨N,eL (fun l_=>Vu Vm.ke ndM l_ a) (X2 (LX Tryz.prog ndL ndK N Tryz.f45 Vt [true,true,false,true,false] []) (nn7 a) _ N) hN⟩
def nbN:Sum:= {ps:=[⟨nx.ct,true⟩],rs:=[⟨[.d_ .i,.d_ .i,.d_ .i,.d_ .i,.d_ .bool,.d_ .bool],true⟩],fn:=fun ds=>(true,nx.enc (oD (nx.nd ds 0)))}
theorem nog:Ee Tryz.prog 155 nbN:=by
 refine nQ JH Tryz.func155 fun ds (hw:kc (nx.ct++[]) ds) _=> ?_
 obtain⟨a,ds,rfl,_,hw⟩:=nx.nB (r:=_) hw
 obtain rfl:=nw hw
 exact⟨0,eT (nof (fun r0=>((true,nx.enc r0):kL)) a)⟩
def QG:Sum:= {ps:=[⟨[.sl [.i,.i,.i,.i,.bool,.bool]],false⟩],rs:=[⟨[.own 107 [.i,.i,.i,.i,.bool,.bool]],false⟩],fn:=fun ds=>(sm (rR ds 0),[.sl (oD (rR ds 0))])}
def ZD:Ctx:=[(155,nbN)]
theorem nlI:bH Tryz.prog ZD:=Il nog JH
def ZC:List (Nat×lC):=[(3, {cb:=[(0,.mL),(3,.mL),(4,.mL)],boxes:=[]})]
def ZE:Rows→kL:=(fun r0=>((true,[.sl r0]):kL))
def njL (a:Rows) (i:Int) (oh:Rows):St:= {n:=23,sl:=[(0,.sl [.i,.i,.i,.i,.bool,.bool] a),(3,.own 640192),(4,.int .i64 i)],hp:=[(640192,.row 107 [.i,.i,.i,.i,.bool,.bool] oh false true)],ok:=true,ls:=[],lm:=[]}
theorem nlH:Ee Tryz.prog 46 QG:=by
 refine qD (A:=ZC) nlI Tryz.func46 fun ds (hw:kc ([.sl [.i,.i,.i,.i,.bool,.bool]]) ds) aJ=> ?_
 obtain⟨a,rfl,qs⟩:=pS hw
 obtain⟨N,hN⟩:=nlG Vm.ke ZE a qs aJ
 have e0:(fun i oh=>LY (LX Tryz.prog ZD ZC N Tryz.f46 QG [true,true,false,true,false] []) N (njL a i oh))=(nl4 neK Vm.ke ZE N a N):=X2 _ _ _ N
 refine⟨N,Eq.trans ?_ (hN.trans (by kernel_rfl))⟩
 unfold ZU
 rw[←e0]
 kernel_rfl
def Vr:Sum:= {ps:=[⟨[.sl [.bool]],false⟩],rs:=[⟨[.own 4 [.bool]],false⟩],fn:=fun ds=>(sm (rR ds 0),[.sl (oD (rR ds 0))])}
def ndI:List (Nat×lC):=[(3, {cb:=[(0,.mL),(3,.mL),(4,.mL)],boxes:=[]})]
def ndJ:Rows→kL:=(fun r0=>((true,[.sl r0]):kL))
def nnZ (a:Rows) (i:Int) (oh:Rows):St:= {n:=22,sl:=[(0,.sl [.bool] a),(3,.own 640192),(4,.int .i64 i)],hp:=[(640192,.row 4 [.bool] oh false true)],ok:=true,ls:=[],lm:=[]}
theorem nqp:Ee Tryz.prog 47 Vr:=by
 refine qD (A:=ndI) JH Tryz.func47 fun ds (hw:kc ([.sl [.bool]]) ds) aJ=> ?_
 obtain⟨a,rfl,qs⟩:=pS hw
 obtain⟨N,hN⟩:=nqo Vm.ke ndJ a qs aJ
 have e0:(fun i oh=>LY (LX Tryz.prog [] ndI N Tryz.f47 Vr [true,true,false,true,false] []) N (nnZ a i oh))=(nl4 nl3 Vm.ke ndJ N a N):=X2 _ _ _ N
 refine⟨N,Eq.trans ?_ (hN.trans (by kernel_rfl))⟩
 unfold ZU
 rw[←e0]
 kernel_rfl
def ngq:Sum:= {ps:=[⟨pN.ct,true⟩],rs:=[⟨[.d_ .i,.d_ .i,.d_ .i,.d_ .i,.d_ .i,.d_ .i,.d_ .i,.d_ .i,.d_ .i],true⟩],fn:=fun ds=>(true,pN.enc (oD (pN.nd ds 0)))}
theorem nsr:Ee Tryz.prog 271 ngq:=by
 refine nQ JH Tryz.func271 fun ds (hw:kc (pN.ct++[]) ds) _=> ?_
 obtain⟨a,ds,rfl,_,hw⟩:=pN.nB (r:=_) hw
 obtain rfl:=nw hw
 exact⟨0,eT (nsq (fun r0=>((true,pN.enc r0):kL)) a)⟩
def Vv:Sum:= {ps:=[⟨[.sl [.i,.i,.i,.i,.i,.i,.i,.i,.i]],false⟩],rs:=[⟨[.own 260 [.i,.i,.i,.i,.i,.i,.i,.i,.i]],false⟩],fn:=fun ds=>(sm (rR ds 0),[.sl (oD (rR ds 0))])}
def ndP:Ctx:=[(271,ngq)]
theorem nqw:bH Tryz.prog ndP:=Il nsr JH
def ndO:List (Nat×lC):=[(3, {cb:=[(0,.mL),(3,.mL),(4,.mL)],boxes:=[]})]
def ndQ:Rows→kL:=(fun r0=>((true,[.sl r0]):kL))
def nn8 (a:Rows) (i:Int) (oh:Rows):St:= {n:=23,sl:=[(0,.sl [.i,.i,.i,.i,.i,.i,.i,.i,.i] a),(3,.own 640192),(4,.int .i64 i)],hp:=[(640192,.row 260 [.i,.i,.i,.i,.i,.i,.i,.i,.i] oh false true)],ok:=true,ls:=[],lm:=[]}
theorem nqv:Ee Tryz.prog 156 Vv:=by
 refine qD (A:=ndO) nqw Tryz.func156 fun ds (hw:kc ([.sl [.i,.i,.i,.i,.i,.i,.i,.i,.i]]) ds) aJ=> ?_
 obtain⟨a,rfl,qs⟩:=pS hw
 obtain⟨N,hN⟩:=nqu Vm.ke ndQ a qs aJ
 have e0:(fun i oh=>LY (LX Tryz.prog ndP ndO N Tryz.f156 Vv [true,true,false,true,false] []) N (nn8 a i oh))=(nl4 nl5 Vm.ke ndQ N a N):=X2 _ _ _ N
 refine⟨N,Eq.trans ?_ (hN.trans (by kernel_rfl))⟩
 unfold ZU
 rw[←e0]
 kernel_rfl
def ngs:Sum:= {ps:=[⟨qZ.ct,true⟩],rs:=[⟨[.d_ .i,.d_ .i,.d_ .i,.d_ .i,.d_ .i,.d_ .i,.d_ .i],true⟩],fn:=fun ds=>(true,qZ.enc (oD (qZ.nd ds 0)))}
theorem nsw:Ee Tryz.prog 353 ngs:=by
 refine nQ (Γ:=[(273,XV)]) (Il ngk JH) Tryz.func353 fun ds (hw:kc (qZ.ct++[]) ds) _=> ?_
 obtain⟨a,ds,rfl,_,hw⟩:=qZ.nB (r:=_) hw
 obtain rfl:=nw hw
 exact⟨0,eT (nsv (fun r0=>((true,qZ.enc r0):kL)) a)⟩
def Vy:Sum:= {ps:=[⟨[.sl [.i,.i,.i,.i,.i,.i,.i]],false⟩],rs:=[⟨[.own 264 [.i,.i,.i,.i,.i,.i,.i]],false⟩],fn:=fun ds=>(sm (rR ds 0),[.sl (oD (rR ds 0))])}
def ndW:Ctx:=[(353,ngs)]
theorem nqC:bH Tryz.prog ndW:=Il nsw JH
def ndV:List (Nat×lC):=[(3, {cb:=[(0,.mL),(3,.mL),(4,.mL)],boxes:=[]})]
def ndX:Rows→kL:=(fun r0=>((true,[.sl r0]):kL))
def nn_ (a:Rows) (i:Int) (oh:Rows):St:= {n:=23,sl:=[(0,.sl [.i,.i,.i,.i,.i,.i,.i] a),(3,.own 640192),(4,.int .i64 i)],hp:=[(640192,.row 264 [.i,.i,.i,.i,.i,.i,.i] oh false true)],ok:=true,ls:=[],lm:=[]}
theorem nqB:Ee Tryz.prog 272 Vy:=by
 refine qD (A:=ndV) nqC Tryz.func272 fun ds (hw:kc ([.sl [.i,.i,.i,.i,.i,.i,.i]]) ds) aJ=> ?_
 obtain⟨a,rfl,qs⟩:=pS hw
 obtain⟨N,hN⟩:=nqA Vm.ke ndX a qs aJ
 have e0:(fun i oh=>LY (LX Tryz.prog ndW ndV N Tryz.f272 Vy [true,true,false,true,false] []) N (nn_ a i oh))=(nl4 nl6 Vm.ke ndX N a N):=X2 _ _ _ N
 refine⟨N,Eq.trans ?_ (hN.trans (by kernel_rfl))⟩
 unfold ZU
 rw[←e0]
 kernel_rfl
def Vs:Sum:= {ps:=[⟨ni.ct,true⟩],rs:=[⟨[.own 264 [.i,.i,.i,.i,.i,.i,.i]],true⟩],fn:=fun ds=>(ta (ni.nd ds 0),ni.enc (oD (ni.nd ds 0)))}
theorem nhv:Ee Tryz.prog 157 Vs:=by
 refine nQ (Γ:=[(272,Vy)]) (Il nqB JH) Tryz.func157 fun ds (hw:kc (ni.ct++[]) ds) aJ=> ?_
 obtain⟨a,ds,rfl,_,hw⟩:=ni.nB (r:=_) hw
 obtain rfl:=nw hw
 exact⟨0,eT (nhu Vm.ke (fun r0=>((true,ni.enc r0):kL)) a aJ)⟩
def nbL:Sum:= {ps:=[⟨nI.ct,true⟩],rs:=[⟨[.d_ .str,.own 3 [.i]],true⟩],fn:=fun ds=>(uV (nI.nd ds 0),nI.enc (oD (nI.nd ds 0)))}
theorem nob:Ee Tryz.prog 158 nbL:=by
 refine nQ (Γ:=[(52,v_)]) (Il Ng JH) Tryz.func158 fun ds (hw:kc (nI.ct++[]) ds) aJ=> ?_
 obtain⟨a,ds,rfl,_,hw⟩:=nI.nB (r:=_) hw
 obtain rfl:=nw hw
 exact⟨0,eT (noa Vm.ke (fun r0=>((true,nI.enc r0):kL)) a aJ)⟩
def Xi:Sum:= {ps:=[⟨nm.ct,true⟩],rs:=[⟨[.own 260 [.i,.i,.i,.i,.i,.i,.i,.i,.i],.own 264 [.i,.i,.i,.i,.i,.i,.i],.d_ .str,.own 3 [.i]],true⟩],fn:=fun ds=>(tG (nm.nd ds 0),nm.enc (oD (nm.nd ds 0)))}
theorem njI:Ee Tryz.prog 49 Xi:=by
 refine nQ (Γ:=[(156,Vv),(157,Vs),(158,nbL)]) (Il nqv (Il nhv (Il nob JH))) Tryz.func49 fun ds (hw:kc (nm.ct++[]) ds) aJ=> ?_
 obtain⟨a,ds,rfl,_,hw⟩:=nm.nB (r:=_) hw
 obtain rfl:=nw hw
 exact⟨0,eT (njH Vm.ke (fun r0=>((true,nm.enc r0):kL)) a aJ)⟩
def ngl:Sum:= {ps:=[⟨nt.ct,true⟩],rs:=[⟨[.own 9 [.str],.own 222 [.i,.i,.i,.bool],.d_ .i,.d_ .i,.d_ .i,.d_ .i,.d_ .i,.d_ .i,.d_ .i,.own 3 [.i],.deep 293 [.i,.i,.sl [.i]] [3],.d_ .i,.own 104 [.i,.i,.i,.i,.i,.i,.i,.i,.i,.i,.i,.i,.i,.i,.i,.i,.i,.i,.i,.i,.i,.i,.i,.i,.i,.str,.i,.i,.bool,.i],.deep 57 [.i,.i,.i,.sl [.i]] [3],.own 107 [.i,.i,.i,.i,.bool,.bool],.own 4 [.bool],.d_ .i,.d_ .bool,.own 3 [.i],.own 260 [.i,.i,.i,.i,.i,.i,.i,.i,.i],.own 264 [.i,.i,.i,.i,.i,.i,.i],.d_ .str,.own 3 [.i],.own 236 [.i,.i,.i,.i,.i,.i,.str,.bool],.d_ .bool,.own 9 [.str],.own 3 [.i],.own 3 [.i],.d_ .i,.d_ .i,.d_ .i,.d_ .i,.d_ .i],true⟩],fn:=fun ds=>(sX (nt.nd ds 0),nt.enc (oD (nt.nd ds 0)))}
theorem nsl:Ee Tryz.prog 9 ngl:=by
 refine nQ (Γ:=[(41,nbJ),(42,Pm),(43,ZB),(44,Pn),(45,Vt),(46,QG),(47,Vr),(48,nbI),(49,Xi),(50,QF),(51,zo),(52,v_),(53,W_)]) (Il nn3 (Il njC (Il nlF (Il njF (Il nqs (Il nlH (Il nqp (Il nn1 (Il njI (Il nlB (Il ZA (Il Ng (Il njz JH))))))))))))) Tryz.func9 fun ds (hw:kc (nt.ct++[]) ds) aJ=> ?_
 obtain⟨a,ds,rfl,_,hw⟩:=nt.nB (r:=_) hw
 obtain rfl:=nw hw
 exact⟨0,eT (nsk Vm.ke (fun r0=>((true,nt.enc r0):kL)) a aJ)⟩
def Zg:Sum:= {ps:=[⟨nA.ct,true⟩,⟨[.i],false⟩],rs:=[⟨[.d_ .i],false⟩],fn:=fun ds=>(true,[.int (t_ (nA.nd ds 0) (rI ds 8))])}
theorem nli:Ee Tryz.prog 401 Zg:=by
 refine nQ JH Tryz.func401 fun ds (hw:kc (nA.ct++[.i]) ds) _=> ?_
 obtain⟨a,ds,rfl,_,hw⟩:=nA.nB (r:=_) hw
 obtain⟨left,rfl,_⟩:=nz hw
 exact⟨0,eT (nlh (fun r0=>((true,[.int r0]):kL)) a left)⟩
def nbD:Sum:= {ps:=[⟨nC.ct,true⟩,⟨[.i],false⟩],rs:=[⟨[.d_ .i],false⟩],fn:=fun ds=>(true,[.int (uN (nC.nd ds 0) (rI ds 16))])}
theorem nnR:Ee Tryz.prog 336 nbD:=by
 refine nQ (Γ:=[(401,Zg)]) (Il nli JH) Tryz.func336 fun ds (hw:kc (nC.ct++[.i]) ds) _=> ?_
 obtain⟨a,ds,rfl,_,hw⟩:=nC.nB (r:=_) hw
 obtain⟨left,rfl,_⟩:=nz hw
 exact⟨0,eT (nnQ (fun r0=>((true,[.int r0]):kL)) a left)⟩
def ndH:Sum:= {ps:=[⟨pr.ct,true⟩,⟨[.i],false⟩],rs:=[⟨[.d_ .i],false⟩],fn:=fun ds=>(true,[.int (vU (pr.nd ds 0) (rI ds 18))])}
theorem nqn:Ee Tryz.prog 247 ndH:=by
 refine nQ (Γ:=[(336,nbD)]) (Il nnR JH) Tryz.func247 fun ds (hw:kc (pr.ct++[.i]) ds) _=> ?_
 obtain⟨a,ds,rfl,_,hw⟩:=pr.nB (r:=_) hw
 obtain⟨left,rfl,_⟩:=nz hw
 exact⟨0,eT (nqm (fun r0=>((true,[.int r0]):kL)) a left)⟩
def nbH:Sum:= {ps:=[⟨nJ.ct,true⟩,⟨[.i],false⟩],rs:=[⟨[.d_ .i],false⟩],fn:=fun ds=>(true,[.int (rZ (nJ.nd ds 0) (rI ds 8))])}
theorem nnX:Ee Tryz.prog 128 nbH:=by
 refine nQ JH Tryz.func128 fun ds (hw:kc (nJ.ct++[.i]) ds) _=> ?_
 obtain⟨a,ds,rfl,_,hw⟩:=nJ.nB (r:=_) hw
 obtain⟨left,rfl,_⟩:=nz hw
 exact⟨0,eT (nnW (fun r0=>((true,[.int r0]):kL)) a left)⟩
def v8:Sum:= {ps:=[⟨[.sl [.i]],false⟩,⟨[.sl [.i]],false⟩],rs:=[⟨[.d_ .bool],false⟩],fn:=fun ds=>(same (rR ds 0) (rR ds 1),[.bool (pF (rR ds 0) (rR ds 1))])}
def nf5:List (Nat×lC):=[(4, {cb:=[(0,.mL),(1,.mL),(5,.mL)],boxes:=[]})]
def nf6:Bool→kL:=(fun r0=>((true,[.bool r0]):kL))
def npX (a b:Rows) (i:Int):St:= {n:=26,sl:=[(0,.sl [.i] a),(1,.sl [.i] b),(5,.int .i64 i)],hp:=[],ok:=true,ls:=[],lm:=[]}
theorem Na:Ee Tryz.prog 70 v8:=by
 refine qD (A:=nf5) JH Tryz.func70 fun ds (hw:kc ([.sl [.i],.sl [.i]]) ds) aJ=> ?_
 obtain⟨a,ds,rfl,qs,hw⟩:=oq hw
 obtain⟨b,rfl,_⟩:=pS hw
 obtain⟨N,hN⟩:=nr4 Vm.ke nf6 a b qs aJ
 exact⟨N,eL (fun l_=>XO Vm.ke nf6 l_ a b) (nL1 (LX Tryz.prog [] nf5 N Tryz.f70 v8 [true,true,false,true,false] []) (npX a b) _ N) hN⟩
def XR:Sum:= {ps:=[⟨nj.ct,true⟩,⟨[.i],false⟩],rs:=[⟨[.d_ .i],false⟩],fn:=fun ds=>(true,[.int (qN (nj.nd ds 0) (rI ds 4))])}
theorem ngi:Ee Tryz.prog 122 XR:=by
 refine nQ (Γ:=[(34,xJ)]) (Il Nc JH) Tryz.func122 fun ds (hw:kc (nj.ct++[.i]) ds) _=> ?_
 obtain⟨a,ds,rfl,_,hw⟩:=nj.nB (r:=_) hw
 obtain⟨left,rfl,_⟩:=nz hw
 exact⟨0,eT (nsf (fun r0=>((true,[.int r0]):kL)) a left)⟩
def ndG:Sum:= {ps:=[⟨[.sl [.i,.i,.i,.i,.i,.i,.i]],false⟩,⟨[.i],false⟩],rs:=[⟨[.d_ .i],false⟩],fn:=fun ds=>(true,[.int (oI (rR ds 0) (rI ds 1))])}
theorem nql:Ee Tryz.prog 248 ndG:=by
 refine nQ JH Tryz.func248 fun ds (hw:kc ([.sl [.i,.i,.i,.i,.i,.i,.i],.i]) ds) _=> ?_
 obtain⟨a,ds,rfl,_,hw⟩:=oq hw
 obtain⟨left,rfl,_⟩:=nz hw
 exact⟨0,eT (xI (fun r0=>((true,[.int r0]):kL)) a left)⟩
def Vi:Sum:= {ps:=[⟨ni.ct,true⟩,⟨[.i],false⟩],rs:=[⟨[.d_ .i],false⟩],fn:=fun ds=>(true,[.int (sM (ni.nd ds 0) (rI ds 1))])}
theorem nhs:Ee Tryz.prog 126 Vi:=by
 refine nQ (Γ:=[(248,ndG)]) (Il nql JH) Tryz.func126 fun ds (hw:kc (ni.ct++[.i]) ds) _=> ?_
 obtain⟨a,ds,rfl,_,hw⟩:=ni.nB (r:=_) hw
 obtain⟨left,rfl,_⟩:=nz hw
 exact⟨0,eT (nhr (fun r0=>((true,[.int r0]):kL)) a left)⟩
def QC:Sum:= {ps:=[⟨[.sl [.i,.i,.i,.i,.i,.i,.str,.bool]],false⟩,⟨[.i],false⟩],rs:=[⟨[.d_ .i],false⟩],fn:=fun ds=>(true,[.int (rk (rR ds 0) (rI ds 1))])}
def Zi:Ctx:=[(128,nbH)]
theorem nlm:bH Tryz.prog Zi:=Il nnX JH
def Zh:List (Nat×lC):=[(5, {cb:=[(0,.mL),(1,.mL),(5,.mL)],boxes:=[]})]
def Zj:Int→kL:=(fun r0=>((true,[.int r0]):kL))
def njw (a:Rows) (uK i:Int):St:= {n:=27,sl:=[(0,.sl [.i,.i,.i,.i,.i,.i,.str,.bool] a),(1,.int .i64 uK),(5,.int .i64 i)],hp:=[],ok:=true,ls:=[],lm:=[]}
theorem nll:Ee Tryz.prog 32 QC:=by
 refine qD (A:=Zh) nlm Tryz.func32 fun ds (hw:kc ([.sl [.i,.i,.i,.i,.i,.i,.str,.bool],.i]) ds) _=> ?_
 obtain⟨a,ds,rfl,qs,hw⟩:=oq hw
 obtain⟨left,rfl,_⟩:=nz hw
 obtain⟨N,hN⟩:=nlk Vm.ke Zj a left qs
 exact⟨N,eL (fun l_=>QD Vm.ke Zj l_ a left) (X2 (LX Tryz.prog Zi Zh N Tryz.f32 QC [true,true,true,false,true,false] []) (njw a) _ N) hN⟩
def ndw:Sum:= {ps:=[⟨[.sl [.bool]],false⟩,⟨[.i],false⟩],rs:=[⟨[.d_ .i],false⟩],fn:=fun ds=>(true,[.int (oI (rR ds 0) (rI ds 1))])}
theorem nqb:Ee Tryz.prog 29 ndw:=by
 refine nQ JH Tryz.func29 fun ds (hw:kc ([.sl [.bool],.i]) ds) _=> ?_
 obtain⟨a,ds,rfl,_,hw⟩:=oq hw
 obtain⟨left,rfl,_⟩:=nz hw
 exact⟨0,eT (xI (fun r0=>((true,[.int r0]):kL)) a left)⟩
def Qi:Sum:= {ps:=[⟨[.sl [.i,.i,.i,.i,.bool,.bool]],false⟩,⟨[.sl [.i,.i,.i,.i,.bool,.bool]],false⟩],rs:=[⟨[.d_ .bool],false⟩],fn:=fun ds=>(same (rR ds 0) (rR ds 1),[.bool (pF (rR ds 0) (rR ds 1))])}
def YJ:Ctx:=[(176,nbm)]
theorem nkN:bH Tryz.prog YJ:=Il nnw JH
def YI:List (Nat×lC):=[(4, {cb:=[(0,.mL),(1,.mL),(5,.mL)],boxes:=[]})]
def YK:Bool→kL:=(fun r0=>((true,[.bool r0]):kL))
def niW (a b:Rows) (i:Int):St:= {n:=27,sl:=[(0,.sl [.i,.i,.i,.i,.bool,.bool] a),(1,.sl [.i,.i,.i,.i,.bool,.bool] b),(5,.int .i64 i)],hp:=[],ok:=true,ls:=[],lm:=[]}
theorem nkM:Ee Tryz.prog 64 Qi:=by
 refine qD (A:=YI) nkN Tryz.func64 fun ds (hw:kc ([.sl [.i,.i,.i,.i,.bool,.bool],.sl [.i,.i,.i,.i,.bool,.bool]]) ds) aJ=> ?_
 obtain⟨a,ds,rfl,qs,hw⟩:=oq hw
 obtain⟨b,rfl,_⟩:=pS hw
 obtain⟨N,hN⟩:=nkL Vm.ke YK a b qs aJ
 have e0:(fun i=>LY (LX Tryz.prog YJ YI N Tryz.f64 Qi [true,true,false,true,false] []) N (niW a b i))=(nmy (fun r=>nx.nd r 0) Vm.ke YK N a b N):=nL1 _ _ _ N
 refine⟨N,Eq.trans ?_ (hN.trans (by kernel_rfl))⟩
 unfold ncr
 rw[←e0]
 kernel_rfl
def ngj:Sum:= {ps:=[⟨py.ct,true⟩,⟨[.i],false⟩],rs:=[⟨[.d_ .i],false⟩],fn:=fun ds=>(true,[.int (rV (py.nd ds 0) (rI ds 3))])}
theorem nsh:Ee Tryz.prog 246 ngj:=by
 refine nQ (Γ:=[(34,xJ)]) (Il Nc JH) Tryz.func246 fun ds (hw:kc (py.ct++[.i]) ds) _=> ?_
 obtain⟨a,ds,rfl,_,hw⟩:=py.nB (r:=_) hw
 obtain⟨left,rfl,_⟩:=nz hw
 exact⟨0,eT (nsg (fun r0=>((true,[.int r0]):kL)) a left)⟩
def Vn:Sum:= {ps:=[⟨[.sl [.i,.i,.sl [.i]]],false⟩,⟨[.i],false⟩],rs:=[⟨[.d_ .i],false⟩],fn:=fun ds=>(true,[.int (tO (rR ds 0) (rI ds 1))])}
def ndD:Ctx:=[(246,ngj)]
theorem nqj:bH Tryz.prog ndD:=Il nsh JH
def ndC:List (Nat×lC):=[(5, {cb:=[(0,.mL),(1,.mL),(5,.mL)],boxes:=[]})]
def ndE:Int→kL:=(fun r0=>((true,[.int r0]):kL))
def nnT (a:Rows) (uK i:Int):St:= {n:=27,sl:=[(0,.sl [.i,.i,.sl [.i]] a),(1,.int .i64 uK),(5,.int .i64 i)],hp:=[],ok:=true,ls:=[],lm:=[]}
theorem nqi:Ee Tryz.prog 123 Vn:=by
 refine qD (A:=ndC) nqj Tryz.func123 fun ds (hw:kc ([.sl [.i,.i,.sl [.i]],.i]) ds) _=> ?_
 obtain⟨a,ds,rfl,qs,hw⟩:=oq hw
 obtain⟨left,rfl,_⟩:=nz hw
 obtain⟨N,hN⟩:=nqh Vm.ke ndE a left qs
 exact⟨N,eL (fun l_=>Vo Vm.ke ndE l_ a left) (X2 (LX Tryz.prog ndD ndC N Tryz.f123 Vn [true,true,true,false,true,false] []) (nnT a) _ N) hN⟩
def zm:Sum:= {ps:=[⟨[.sl [.str]],false⟩,⟨[.i],false⟩],rs:=[⟨[.d_ .i],false⟩],fn:=fun ds=>(true,[.int (rl (rR ds 0) (rI ds 1))])}
def Zm:List (Nat×lC):=[(5, {cb:=[(0,.mL),(1,.mL),(5,.mL)],boxes:=[]})]
def Zn:Int→kL:=(fun r0=>((true,[.int r0]):kL))
def njx (a:Rows) (uK i:Int):St:= {n:=28,sl:=[(0,.sl [.str] a),(1,.int .i64 uK),(5,.int .i64 i)],hp:=[],ok:=true,ls:=[],lm:=[]}
theorem Zp:Ee Tryz.prog 33 zm:=by
 refine qD (A:=Zm) JH Tryz.func33 fun ds (hw:kc ([.sl [.str],.i]) ds) _=> ?_
 obtain⟨a,ds,rfl,qs,hw⟩:=oq hw
 obtain⟨left,rfl,_⟩:=nz hw
 obtain⟨N,hN⟩:=nln Vm.ke Zn a left qs
 exact⟨N,eL (fun l_=>QE Vm.ke Zn l_ a left) (X2 (LX Tryz.prog [] Zm N Tryz.f33 zm [true,true,true,false,true,false] []) (njx a) _ N) hN⟩
def nbC:Sum:= {ps:=[⟨nc.ct,true⟩,⟨[.i],false⟩],rs:=[⟨[.d_ .i],false⟩],fn:=fun ds=>(true,[.int (oF (nc.nd ds 0) (rI ds 1))])}
theorem nnP:Ee Tryz.prog 23 nbC:=by
 refine nQ (Γ:=[(33,zm)]) (Il Zp JH) Tryz.func23 fun ds (hw:kc (nc.ct++[.i]) ds) _=> ?_
 obtain⟨a,ds,rfl,_,hw⟩:=nc.nB (r:=_) hw
 obtain⟨left,rfl,_⟩:=nz hw
 exact⟨0,eT (nnO (fun r0=>((true,[.int r0]):kL)) a left)⟩
def WZ:Sum:= {ps:=[⟨[.sl [.i,.i,.i,.bool]],false⟩,⟨[.i],false⟩],rs:=[⟨[.d_ .i],false⟩],fn:=fun ds=>(true,[.int (oI (rR ds 0) (rI ds 1))])}
theorem njo:Ee Tryz.prog 24 WZ:=by
 refine nQ JH Tryz.func24 fun ds (hw:kc ([.sl [.i,.i,.i,.bool],.i]) ds) _=> ?_
 obtain⟨a,ds,rfl,_,hw⟩:=oq hw
 obtain⟨left,rfl,_⟩:=nz hw
 exact⟨0,eT (xI (fun r0=>((true,[.int r0]):kL)) a left)⟩
def Zq:Sum:= {ps:=[⟨nv.ct,true⟩,⟨[.i],false⟩],rs:=[⟨[.d_ .i],false⟩],fn:=fun ds=>(true,[.int (oL (nv.nd ds 0) (rI ds 10))])}
theorem nlp:Ee Tryz.prog 25 Zq:=by
 refine nQ (Γ:=[(122,XR),(123,Vn)]) (Il ngi (Il nqi JH)) Tryz.func25 fun ds (hw:kc (nv.ct++[.i]) ds) _=> ?_
 obtain⟨a,ds,rfl,_,hw⟩:=nv.nB (r:=_) hw
 obtain⟨left,rfl,_⟩:=nz hw
 exact⟨0,eT (nlo (fun r0=>((true,[.int r0]):kL)) a left)⟩
def Zf:Sum:= {ps:=[⟨nr.ct,true⟩,⟨[.i],false⟩],rs:=[⟨[.d_ .i],false⟩],fn:=fun ds=>(true,[.int (sA (nr.nd ds 0) (rI ds 30))])}
theorem nlg:Ee Tryz.prog 124 Zf:=by
 refine nQ (Γ:=[(247,ndH)]) (Il nqn JH) Tryz.func124 fun ds (hw:kc (nr.ct++[.i]) ds) _=> ?_
 obtain⟨a,ds,rfl,_,hw⟩:=nr.nB (r:=_) hw
 obtain⟨left,rfl,_⟩:=nz hw
 exact⟨0,eT (nlf (fun r0=>((true,[.int r0]):kL)) a left)⟩
def Ph:Sum:= {ps:=[⟨[.sl [.i,.i,.i,.i,.i,.i,.i,.i,.i,.i,.i,.i,.i,.i,.i,.i,.i,.i,.i,.i,.i,.i,.i,.i,.i,.str,.i,.i,.bool,.i]],false⟩,⟨[.i],false⟩],rs:=[⟨[.d_ .i],false⟩],fn:=fun ds=>(true,[.int (oW (rR ds 0) (rI ds 1))])}
def W2:Ctx:=[(124,Zf)]
theorem njr:bH Tryz.prog W2:=Il nlg JH
def W1:List (Nat×lC):=[(5, {cb:=[(0,.mL),(1,.mL),(5,.mL)],boxes:=[]})]
def W3:Int→kL:=(fun r0=>((true,[.int r0]):kL))
def nht (a:Rows) (uK i:Int):St:= {n:=27,sl:=[(0,.sl [.i,.i,.i,.i,.i,.i,.i,.i,.i,.i,.i,.i,.i,.i,.i,.i,.i,.i,.i,.i,.i,.i,.i,.i,.i,.str,.i,.i,.bool,.i] a),(1,.int .i64 uK),(5,.int .i64 i)],hp:=[],ok:=true,ls:=[],lm:=[]}
theorem njq:Ee Tryz.prog 26 Ph:=by
 refine qD (A:=W1) njr Tryz.func26 fun ds (hw:kc ([.sl [.i,.i,.i,.i,.i,.i,.i,.i,.i,.i,.i,.i,.i,.i,.i,.i,.i,.i,.i,.i,.i,.i,.i,.i,.i,.str,.i,.i,.bool,.i],.i]) ds) _=> ?_
 obtain⟨a,ds,rfl,qs,hw⟩:=oq hw
 obtain⟨left,rfl,_⟩:=nz hw
 obtain⟨N,hN⟩:=njp Vm.ke W3 a left qs
 exact⟨N,eL (fun l_=>Pj Vm.ke W3 l_ a left) (X2 (LX Tryz.prog W2 W1 N Tryz.f26 Ph [true,true,true,false,true,false] []) (nht a) _ N) hN⟩
def Vj:Sum:= {ps:=[⟨[.sl [.i,.i,.i,.sl [.i]]],false⟩,⟨[.i],false⟩],rs:=[⟨[.d_ .i],false⟩],fn:=fun ds=>(true,[.int (pW (rR ds 0) (rI ds 1))])}
def ndy:Ctx:=[(122,XR)]
theorem nqf:bH Tryz.prog ndy:=Il ngi JH
def ndx:List (Nat×lC):=[(5, {cb:=[(0,.mL),(1,.mL),(5,.mL)],boxes:=[]})]
def ndz:Int→kL:=(fun r0=>((true,[.int r0]):kL))
def nnS (a:Rows) (uK i:Int):St:= {n:=27,sl:=[(0,.sl [.i,.i,.i,.sl [.i]] a),(1,.int .i64 uK),(5,.int .i64 i)],hp:=[],ok:=true,ls:=[],lm:=[]}
theorem nqe:Ee Tryz.prog 27 Vj:=by
 refine qD (A:=ndx) nqf Tryz.func27 fun ds (hw:kc ([.sl [.i,.i,.i,.sl [.i]],.i]) ds) _=> ?_
 obtain⟨a,ds,rfl,qs,hw⟩:=oq hw
 obtain⟨left,rfl,_⟩:=nz hw
 obtain⟨N,hN⟩:=nqd Vm.ke ndz a left qs
 exact⟨N,eL (fun l_=>Vk Vm.ke ndz l_ a left) (X2 (LX Tryz.prog ndy ndx N Tryz.f27 Vj [true,true,true,false,true,false] []) (nnS a) _ N) hN⟩
def ndB:Sum:= {ps:=[⟨[.sl [.i,.i,.i,.i,.i,.i,.i,.i,.i]],false⟩,⟨[.i],false⟩],rs:=[⟨[.d_ .i],false⟩],fn:=fun ds=>(true,[.int (oI (rR ds 0) (rI ds 1))])}
theorem nqg:Ee Tryz.prog 125 ndB:=by
 refine nQ JH Tryz.func125 fun ds (hw:kc ([.sl [.i,.i,.i,.i,.i,.i,.i,.i,.i],.i]) ds) _=> ?_
 obtain⟨a,ds,rfl,_,hw⟩:=oq hw
 obtain⟨left,rfl,_⟩:=nz hw
 exact⟨0,eT (xI (fun r0=>((true,[.int r0]):kL)) a left)⟩
def W6:Sum:= {ps:=[⟨nm.ct,true⟩,⟨[.i],false⟩],rs:=[⟨[.d_ .i],false⟩],fn:=fun ds=>(true,[.int (qM (nm.nd ds 0) (rI ds 4))])}
theorem njv:Ee Tryz.prog 31 W6:=by
 refine nQ (Γ:=[(125,ndB),(126,Vi),(127,nbG)]) (Il nqg (Il nhs (Il nnV JH))) Tryz.func31 fun ds (hw:kc (nm.ct++[.i]) ds) _=> ?_
 obtain⟨a,ds,rfl,_,hw⟩:=nm.nB (r:=_) hw
 obtain⟨left,rfl,_⟩:=nz hw
 exact⟨0,eT (nju (fun r0=>((true,[.int r0]):kL)) a left)⟩
def ngh:Sum:= {ps:=[⟨nt.ct,true⟩,⟨[.i],false⟩],rs:=[⟨[.d_ .i],false⟩],fn:=fun ds=>(true,[.int (tZ (nt.nd ds 0) (rI ds 33))])}
theorem nsd:Ee Tryz.prog 7 ngh:=by
 refine nQ (Γ:=[(23,nbC),(24,WZ),(25,Zq),(26,Ph),(27,Vj),(28,Zr),(29,ndw),(30,nbB),(31,W6),(32,QC),(33,zm),(34,xJ)]) (Il nnP (Il njo (Il nlp (Il njq (Il nqe (Il nlq (Il nqb (Il nnN (Il njv (Il nll (Il Zp (Il Nc JH)))))))))))) Tryz.func7 fun ds (hw:kc (nt.ct++[.i]) ds) _=> ?_
 obtain⟨a,ds,rfl,_,hw⟩:=nt.nB (r:=_) hw
 obtain⟨left,rfl,_⟩:=nz hw
 exact⟨0,eT (nsc (fun r0=>((true,[.int r0]):kL)) a left)⟩
def XN:Sum:= {ps:=[⟨nO.ct,true⟩,⟨nO.ct,true⟩],rs:=[⟨[.d_ .bool],false⟩],fn:=fun ds=>(same (nO.nd ds 0) (nO.nd ds 5),[.bool (pF (nO.nd ds 0) (nO.nd ds 5))])}
theorem nf1:Ee Tryz.prog 285 XN:=by
 refine nQ JH Tryz.func285 fun ds (hw:kc (nO.ct++(nO.ct++[])) ds) aJ=> ?_
 obtain⟨a,ds,rfl,_,hw⟩:=nO.nB (r:=_) hw
 obtain⟨b,ds,rfl,_,hw⟩:=nO.nB (r:=_) hw
 obtain rfl:=nw hw
 exact⟨0,eT (nr1 (fun r0=>((true,[.bool r0]):kL)) a b aJ)⟩
def Yt:Sum:= {ps:=[⟨pb.ct,true⟩,⟨pb.ct,true⟩],rs:=[⟨[.d_ .bool],false⟩],fn:=fun ds=>(same (pb.nd ds 0) (pb.nd ds 4),[.bool (pF (pb.nd ds 0) (pb.nd ds 4))])}
theorem nkA:Ee Tryz.prog 171 Yt:=by
 refine nQ JH Tryz.func171 fun ds (hw:kc (pb.ct++(pb.ct++[])) ds) aJ=> ?_
 obtain⟨a,ds,rfl,_,hw⟩:=pb.nB (r:=_) hw
 obtain⟨b,ds,rfl,_,hw⟩:=pb.nB (r:=_) hw
 obtain rfl:=nw hw
 exact⟨0,eT (nkz (fun r0=>((true,[.bool r0]):kL)) a b aJ)⟩
def ngb:Sum:= {ps:=[⟨pN.ct,true⟩,⟨pN.ct,true⟩],rs:=[⟨[.d_ .bool],false⟩],fn:=fun ds=>(same (pN.nd ds 0) (pN.nd ds 9),[.bool (pF (pN.nd ds 0) (pN.nd ds 9))])}
theorem nr8:Ee Tryz.prog 283 ngb:=by
 refine nQ JH Tryz.func283 fun ds (hw:kc (pN.ct++(pN.ct++[])) ds) aJ=> ?_
 obtain⟨a,ds,rfl,_,hw⟩:=pN.nB (r:=_) hw
 obtain⟨b,ds,rfl,_,hw⟩:=pN.nB (r:=_) hw
 obtain rfl:=nw hw
 exact⟨0,eT (nr7 (fun r0=>((true,[.bool r0]):kL)) a b aJ)⟩
def UQ:Sum:= {ps:=[⟨[.sl [.i,.i,.i,.i,.i,.i,.i,.i,.i]],false⟩,⟨[.sl [.i,.i,.i,.i,.i,.i,.i,.i,.i]],false⟩],rs:=[⟨[.d_ .bool],false⟩],fn:=fun ds=>(same (rR ds 0) (rR ds 1),[.bool (pF (rR ds 0) (rR ds 1))])}
def ndc:Ctx:=[(283,ngb)]
theorem np3:bH Tryz.prog ndc:=Il nr8 JH
def ndb:List (Nat×lC):=[(4, {cb:=[(0,.mL),(1,.mL),(5,.mL)],boxes:=[]})]
def ndd:Bool→kL:=(fun r0=>((true,[.bool r0]):kL))
def nno (a b:Rows) (i:Int):St:= {n:=27,sl:=[(0,.sl [.i,.i,.i,.i,.i,.i,.i,.i,.i] a),(1,.sl [.i,.i,.i,.i,.i,.i,.i,.i,.i] b),(5,.int .i64 i)],hp:=[],ok:=true,ls:=[],lm:=[]}
theorem np2:Ee Tryz.prog 177 UQ:=by
 refine qD (A:=ndb) np3 Tryz.func177 fun ds (hw:kc ([.sl [.i,.i,.i,.i,.i,.i,.i,.i,.i],.sl [.i,.i,.i,.i,.i,.i,.i,.i,.i]]) ds) aJ=> ?_
 obtain⟨a,ds,rfl,qs,hw⟩:=oq hw
 obtain⟨b,rfl,_⟩:=pS hw
 obtain⟨N,hN⟩:=np1 Vm.ke ndd a b qs aJ
 have e0:(fun i=>LY (LX Tryz.prog ndc ndb N Tryz.f177 UQ [true,true,false,true,false] []) N (nno a b i))=(nmy (fun r=>pN.nd r 0) Vm.ke ndd N a b N):=nL1 _ _ _ N
 refine⟨N,Eq.trans ?_ (hN.trans (by kernel_rfl))⟩
 unfold ncr
 rw[←e0]
 kernel_rfl
def ngf:Sum:= {ps:=[⟨qZ.ct,true⟩,⟨qZ.ct,true⟩],rs:=[⟨[.d_ .bool],false⟩],fn:=fun ds=>(same (qZ.nd ds 0) (qZ.nd ds 7),[.bool (pF (qZ.nd ds 0) (qZ.nd ds 7))])}
theorem nsb:Ee Tryz.prog 358 ngf:=by
 refine nQ (Γ:=[(285,XN)]) (Il nf1 JH) Tryz.func358 fun ds (hw:kc (qZ.ct++(qZ.ct++[])) ds) aJ=> ?_
 obtain⟨a,ds,rfl,_,hw⟩:=qZ.nB (r:=_) hw
 obtain⟨b,ds,rfl,_,hw⟩:=qZ.nB (r:=_) hw
 obtain rfl:=nw hw
 exact⟨0,eT (nsa Vm.ke (fun r0=>((true,[.bool r0]):kL)) a b aJ)⟩
def US:Sum:= {ps:=[⟨[.sl [.i,.i,.i,.i,.i,.i,.i]],false⟩,⟨[.sl [.i,.i,.i,.i,.i,.i,.i]],false⟩],rs:=[⟨[.d_ .bool],false⟩],fn:=fun ds=>(same (rR ds 0) (rR ds 1),[.bool (pF (rR ds 0) (rR ds 1))])}
def ndi:Ctx:=[(358,ngf)]
theorem np9:bH Tryz.prog ndi:=Il nsb JH
def ndh:List (Nat×lC):=[(4, {cb:=[(0,.mL),(1,.mL),(5,.mL)],boxes:=[]})]
def ndj:Bool→kL:=(fun r0=>((true,[.bool r0]):kL))
def nnq (a b:Rows) (i:Int):St:= {n:=27,sl:=[(0,.sl [.i,.i,.i,.i,.i,.i,.i] a),(1,.sl [.i,.i,.i,.i,.i,.i,.i] b),(5,.int .i64 i)],hp:=[],ok:=true,ls:=[],lm:=[]}
theorem np8:Ee Tryz.prog 284 US:=by
 refine qD (A:=ndh) np9 Tryz.func284 fun ds (hw:kc ([.sl [.i,.i,.i,.i,.i,.i,.i],.sl [.i,.i,.i,.i,.i,.i,.i]]) ds) aJ=> ?_
 obtain⟨a,ds,rfl,qs,hw⟩:=oq hw
 obtain⟨b,rfl,_⟩:=pS hw
 obtain⟨N,hN⟩:=np7 Vm.ke ndj a b qs aJ
 have e0:(fun i=>LY (LX Tryz.prog ndi ndh N Tryz.f284 US [true,true,false,true,false] []) N (nnq a b i))=(nmy (fun r=>qZ.nd r 0) Vm.ke ndj N a b N):=nL1 _ _ _ N
 refine⟨N,Eq.trans ?_ (hN.trans (by kernel_rfl))⟩
 unfold ncr
 rw[←e0]
 kernel_rfl
def UN:Sum:= {ps:=[⟨ni.ct,true⟩,⟨ni.ct,true⟩],rs:=[⟨[.d_ .bool],false⟩],fn:=fun ds=>(same (ni.nd ds 0) (ni.nd ds 1),[.bool (pF (ni.nd ds 0) (ni.nd ds 1))])}
theorem ng5:Ee Tryz.prog 178 UN:=by
 refine nQ (Γ:=[(284,US)]) (Il np8 JH) Tryz.func178 fun ds (hw:kc (ni.ct++(ni.ct++[])) ds) aJ=> ?_
 obtain⟨a,ds,rfl,_,hw⟩:=ni.nB (r:=_) hw
 obtain⟨b,ds,rfl,_,hw⟩:=ni.nB (r:=_) hw
 obtain rfl:=nw hw
 exact⟨0,eT (ng4 Vm.ke (fun r0=>((true,[.bool r0]):kL)) a b aJ)⟩
def nbi:Sum:= {ps:=[⟨nI.ct,true⟩,⟨nI.ct,true⟩],rs:=[⟨[.d_ .bool],false⟩],fn:=fun ds=>(same (nI.nd ds 0) (nI.nd ds 2),[.bool (pF (nI.nd ds 0) (nI.nd ds 2))])}
theorem nns:Ee Tryz.prog 179 nbi:=by
 refine nQ (Γ:=[(70,v8)]) (Il Na JH) Tryz.func179 fun ds (hw:kc (nI.ct++(nI.ct++[])) ds) aJ=> ?_
 obtain⟨a,ds,rfl,_,hw⟩:=nI.nB (r:=_) hw
 obtain⟨b,ds,rfl,_,hw⟩:=nI.nB (r:=_) hw
 obtain rfl:=nw hw
 exact⟨0,eT (nnr Vm.ke (fun r0=>((true,[.bool r0]):kL)) a b aJ)⟩
def WR:Sum:= {ps:=[⟨nm.ct,true⟩,⟨nm.ct,true⟩],rs:=[⟨[.d_ .bool],false⟩],fn:=fun ds=>(same (nm.nd ds 0) (nm.nd ds 4),[.bool (pF (nm.nd ds 0) (nm.nd ds 4))])}
theorem niT:Ee Tryz.prog 67 WR:=by
 refine nQ (Γ:=[(177,UQ),(178,UN),(179,nbi)]) (Il np2 (Il ng5 (Il nns JH))) Tryz.func67 fun ds (hw:kc (nm.ct++(nm.ct++[])) ds) aJ=> ?_
 obtain⟨a,ds,rfl,_,hw⟩:=nm.nB (r:=_) hw
 obtain⟨b,ds,rfl,_,hw⟩:=nm.nB (r:=_) hw
 obtain rfl:=nw hw
 exact⟨0,eT (niS Vm.ke (fun r0=>((true,[.bool r0]):kL)) a b aJ)⟩
def nbk:Sum:= {ps:=[⟨nJ.ct,true⟩,⟨nJ.ct,true⟩],rs:=[⟨[.d_ .bool],false⟩],fn:=fun ds=>(same (nJ.nd ds 0) (nJ.nd ds 8),[.bool (pF (nJ.nd ds 0) (nJ.nd ds 8))])}
theorem nnu:Ee Tryz.prog 180 nbk:=by
 refine nQ (Γ:=[(285,XN)]) (Il nf1 JH) Tryz.func180 fun ds (hw:kc (nJ.ct++(nJ.ct++[])) ds) aJ=> ?_
 obtain⟨a,ds,rfl,_,hw⟩:=nJ.nB (r:=_) hw
 obtain⟨b,ds,rfl,_,hw⟩:=nJ.nB (r:=_) hw
 obtain rfl:=nw hw
 exact⟨0,eT (nnt Vm.ke (fun r0=>((true,[.bool r0]):kL)) a b aJ)⟩
def Qg:Sum:= {ps:=[⟨[.sl [.i,.i,.i,.i,.i,.i,.str,.bool]],false⟩,⟨[.sl [.i,.i,.i,.i,.i,.i,.str,.bool]],false⟩],rs:=[⟨[.d_ .bool],false⟩],fn:=fun ds=>(same (rR ds 0) (rR ds 1),[.bool (pF (rR ds 0) (rR ds 1))])}
def YA:Ctx:=[(180,nbk)]
theorem nkH:bH Tryz.prog YA:=Il nnu JH
def Yz:List (Nat×lC):=[(4, {cb:=[(0,.mL),(1,.mL),(5,.mL)],boxes:=[]})]
def YB:Bool→kL:=(fun r0=>((true,[.bool r0]):kL))
def niU (a b:Rows) (i:Int):St:= {n:=27,sl:=[(0,.sl [.i,.i,.i,.i,.i,.i,.str,.bool] a),(1,.sl [.i,.i,.i,.i,.i,.i,.str,.bool] b),(5,.int .i64 i)],hp:=[],ok:=true,ls:=[],lm:=[]}
theorem nkG:Ee Tryz.prog 68 Qg:=by
 refine qD (A:=Yz) nkH Tryz.func68 fun ds (hw:kc ([.sl [.i,.i,.i,.i,.i,.i,.str,.bool],.sl [.i,.i,.i,.i,.i,.i,.str,.bool]]) ds) aJ=> ?_
 obtain⟨a,ds,rfl,qs,hw⟩:=oq hw
 obtain⟨b,rfl,_⟩:=pS hw
 obtain⟨N,hN⟩:=nkF Vm.ke YB a b qs aJ
 have e0:(fun i=>LY (LX Tryz.prog YA Yz N Tryz.f68 Qg [true,true,false,true,false] []) N (niU a b i))=(nmy (fun r=>nJ.nd r 0) Vm.ke YB N a b N):=nL1 _ _ _ N
 refine⟨N,Eq.trans ?_ (hN.trans (by kernel_rfl))⟩
 unfold ncr
 rw[←e0]
 kernel_rfl
def XP:Sum:= {ps:=[⟨nj.ct,true⟩,⟨nj.ct,true⟩],rs:=[⟨[.d_ .bool],false⟩],fn:=fun ds=>(same (nj.nd ds 0) (nj.nd ds 4),[.bool (pF (nj.nd ds 0) (nj.nd ds 4))])}
theorem nf8:Ee Tryz.prog 173 XP:=by
 refine nQ (Γ:=[(70,v8)]) (Il Na JH) Tryz.func173 fun ds (hw:kc (nj.ct++(nj.ct++[])) ds) aJ=> ?_
 obtain⟨a,ds,rfl,_,hw⟩:=nj.nB (r:=_) hw
 obtain⟨b,ds,rfl,_,hw⟩:=nj.nB (r:=_) hw
 obtain rfl:=nw hw
 exact⟨0,eT (nr5 Vm.ke (fun r0=>((true,[.bool r0]):kL)) a b aJ)⟩
def XQ:Sum:= {ps:=[⟨nE.ct,true⟩,⟨nE.ct,true⟩],rs:=[⟨[.d_ .bool],false⟩],fn:=fun ds=>(same (nE.nd ds 0) (nE.nd ds 4),[.bool (pF (nE.nd ds 0) (nE.nd ds 4))])}
theorem nf_:Ee Tryz.prog 172 XQ:=by
 refine nQ JH Tryz.func172 fun ds (hw:kc (nE.ct++(nE.ct++[])) ds) aJ=> ?_
 obtain⟨a,ds,rfl,_,hw⟩:=nE.nB (r:=_) hw
 obtain⟨b,ds,rfl,_,hw⟩:=nE.nB (r:=_) hw
 obtain rfl:=nw hw
 exact⟨0,eT (nr6 (fun r0=>((true,[.bool r0]):kL)) a b aJ)⟩
def ngd:Sum:= {ps:=[⟨py.ct,true⟩,⟨py.ct,true⟩],rs:=[⟨[.d_ .bool],false⟩],fn:=fun ds=>(same (py.nd ds 0) (py.nd ds 3),[.bool (pF (py.nd ds 0) (py.nd ds 3))])}
theorem nr_:Ee Tryz.prog 280 ngd:=by
 refine nQ (Γ:=[(70,v8)]) (Il Na JH) Tryz.func280 fun ds (hw:kc (py.ct++(py.ct++[])) ds) aJ=> ?_
 obtain⟨a,ds,rfl,_,hw⟩:=py.nB (r:=_) hw
 obtain⟨b,ds,rfl,_,hw⟩:=py.nB (r:=_) hw
 obtain rfl:=nw hw
 exact⟨0,eT (nr9 Vm.ke (fun r0=>((true,[.bool r0]):kL)) a b aJ)⟩
def UR:Sum:= {ps:=[⟨[.sl [.i,.i,.sl [.i]]],false⟩,⟨[.sl [.i,.i,.sl [.i]]],false⟩],rs:=[⟨[.d_ .bool],false⟩],fn:=fun ds=>(same (rR ds 0) (rR ds 1),[.bool (pF (rR ds 0) (rR ds 1))])}
def ndf:Ctx:=[(280,ngd)]
theorem np6:bH Tryz.prog ndf:=Il nr_ JH
def nde:List (Nat×lC):=[(4, {cb:=[(0,.mL),(1,.mL),(5,.mL)],boxes:=[]})]
def ndg:Bool→kL:=(fun r0=>((true,[.bool r0]):kL))
def nnp (a b:Rows) (i:Int):St:= {n:=27,sl:=[(0,.sl [.i,.i,.sl [.i]] a),(1,.sl [.i,.i,.sl [.i]] b),(5,.int .i64 i)],hp:=[],ok:=true,ls:=[],lm:=[]}
theorem np5:Ee Tryz.prog 174 UR:=by
 refine qD (A:=nde) np6 Tryz.func174 fun ds (hw:kc ([.sl [.i,.i,.sl [.i]],.sl [.i,.i,.sl [.i]]]) ds) aJ=> ?_
 obtain⟨a,ds,rfl,qs,hw⟩:=oq hw
 obtain⟨b,rfl,_⟩:=pS hw
 obtain⟨N,hN⟩:=np4 Vm.ke ndg a b qs aJ
 have e0:(fun i=>LY (LX Tryz.prog ndf nde N Tryz.f174 UR [true,true,false,true,false] []) N (nnp a b i))=(nmy (fun r=>py.nd r 0) Vm.ke ndg N a b N):=nL1 _ _ _ N
 refine⟨N,Eq.trans ?_ (hN.trans (by kernel_rfl))⟩
 unfold ncr
 rw[←e0]
 kernel_rfl
def YG:Sum:= {ps:=[⟨nv.ct,true⟩,⟨nv.ct,true⟩],rs:=[⟨[.d_ .bool],false⟩],fn:=fun ds=>(same (nv.nd ds 0) (nv.nd ds 10),[.bool (pF (nv.nd ds 0) (nv.nd ds 10))])}
theorem nkK:Ee Tryz.prog 61 YG:=by
 refine nQ (Γ:=[(172,XQ),(173,XP),(174,UR)]) (Il nf_ (Il nf8 (Il np5 JH))) Tryz.func61 fun ds (hw:kc (nv.ct++(nv.ct++[])) ds) aJ=> ?_
 obtain⟨a,ds,rfl,_,hw⟩:=nv.nB (r:=_) hw
 obtain⟨b,ds,rfl,_,hw⟩:=nv.nB (r:=_) hw
 obtain rfl:=nw hw
 exact⟨0,eT (nkJ Vm.ke (fun r0=>((true,[.bool r0]):kL)) a b aJ)⟩
def Pc:Sum:= {ps:=[⟨[.sl [.i,.i,.i,.bool]],false⟩,⟨[.sl [.i,.i,.i,.bool]],false⟩],rs:=[⟨[.d_ .bool],false⟩],fn:=fun ds=>(same (rR ds 0) (rR ds 1),[.bool (pF (rR ds 0) (rR ds 1))])}
def WL:Ctx:=[(171,Yt)]
theorem niO:bH Tryz.prog WL:=Il nkA JH
def WK:List (Nat×lC):=[(4, {cb:=[(0,.mL),(1,.mL),(5,.mL)],boxes:=[]})]
def WM:Bool→kL:=(fun r0=>((true,[.bool r0]):kL))
def ng6 (a b:Rows) (i:Int):St:= {n:=27,sl:=[(0,.sl [.i,.i,.i,.bool] a),(1,.sl [.i,.i,.i,.bool] b),(5,.int .i64 i)],hp:=[],ok:=true,ls:=[],lm:=[]}
theorem niN:Ee Tryz.prog 60 Pc:=by
 refine qD (A:=WK) niO Tryz.func60 fun ds (hw:kc ([.sl [.i,.i,.i,.bool],.sl [.i,.i,.i,.bool]]) ds) aJ=> ?_
 obtain⟨a,ds,rfl,qs,hw⟩:=oq hw
 obtain⟨b,rfl,_⟩:=pS hw
 obtain⟨N,hN⟩:=niM Vm.ke WM a b qs aJ
 have e0:(fun i=>LY (LX Tryz.prog WL WK N Tryz.f60 Pc [true,true,false,true,false] []) N (ng6 a b i))=(nmy (fun r=>pb.nd r 0) Vm.ke WM N a b N):=nL1 _ _ _ N
 refine⟨N,Eq.trans ?_ (hN.trans (by kernel_rfl))⟩
 unfold ncr
 rw[←e0]
 kernel_rfl
def zZ:Sum:= {ps:=[⟨nf.ct,true⟩,⟨nf.ct,true⟩],rs:=[⟨[.d_ .bool],false⟩],fn:=fun ds=>(same (nf.nd ds 0) (nf.nd ds 3),[.bool (pF (nf.nd ds 0) (nf.nd ds 3))])}
theorem XM:Ee Tryz.prog 281 zZ:=by
 refine nQ JH Tryz.func281 fun ds (hw:kc (nf.ct++(nf.ct++[])) ds) aJ=> ?_
 obtain⟨a,ds,rfl,_,hw⟩:=nf.nB (r:=_) hw
 obtain⟨b,ds,rfl,_,hw⟩:=nf.nB (r:=_) hw
 obtain rfl:=nw hw
 exact⟨0,eT (XL (fun r0=>((true,[.bool r0]):kL)) a b aJ)⟩
def Yv:Sum:= {ps:=[⟨nr.ct,true⟩,⟨nr.ct,true⟩],rs:=[⟨[.d_ .bool],false⟩],fn:=fun ds=>(same (nr.nd ds 0) (nr.nd ds 30),[.bool (pF (nr.nd ds 0) (nr.nd ds 30))])}
theorem nkC:Ee Tryz.prog 175 Yv:=by
 refine nQ (Γ:=[(172,XQ),(281,zZ),(282,ndk)]) (Il nf_ (Il XM (Il nqa JH))) Tryz.func175 fun ds (hw:kc (nr.ct++(nr.ct++[])) ds) aJ=> ?_
 obtain⟨a,ds,rfl,_,hw⟩:=nr.nB (r:=_) hw
 obtain⟨b,ds,rfl,_,hw⟩:=nr.nB (r:=_) hw
 obtain rfl:=nw hw
 exact⟨0,eT (nkB Vm.ke (fun r0=>((true,[.bool r0]):kL)) a b aJ)⟩
def Pf:Sum:= {ps:=[⟨[.sl [.i,.i,.i,.i,.i,.i,.i,.i,.i,.i,.i,.i,.i,.i,.i,.i,.i,.i,.i,.i,.i,.i,.i,.i,.i,.str,.i,.i,.bool,.i]],false⟩,⟨[.sl [.i,.i,.i,.i,.i,.i,.i,.i,.i,.i,.i,.i,.i,.i,.i,.i,.i,.i,.i,.i,.i,.i,.i,.i,.i,.str,.i,.i,.bool,.i]],false⟩],rs:=[⟨[.d_ .bool],false⟩],fn:=fun ds=>(same (rR ds 0) (rR ds 1),[.bool (pF (rR ds 0) (rR ds 1))])}
def WO:Ctx:=[(175,Yv)]
theorem niR:bH Tryz.prog WO:=Il nkC JH
def WN:List (Nat×lC):=[(4, {cb:=[(0,.mL),(1,.mL),(5,.mL)],boxes:=[]})]
def WQ:Bool→kL:=(fun r0=>((true,[.bool r0]):kL))
def ng7 (a b:Rows) (i:Int):St:= {n:=27,sl:=[(0,.sl [.i,.i,.i,.i,.i,.i,.i,.i,.i,.i,.i,.i,.i,.i,.i,.i,.i,.i,.i,.i,.i,.i,.i,.i,.i,.str,.i,.i,.bool,.i] a),(1,.sl [.i,.i,.i,.i,.i,.i,.i,.i,.i,.i,.i,.i,.i,.i,.i,.i,.i,.i,.i,.i,.i,.i,.i,.i,.i,.str,.i,.i,.bool,.i] b),(5,.int .i64 i)],hp:=[],ok:=true,ls:=[],lm:=[]}
theorem niQ:Ee Tryz.prog 62 Pf:=by
 refine qD (A:=WN) niR Tryz.func62 fun ds (hw:kc ([.sl [.i,.i,.i,.i,.i,.i,.i,.i,.i,.i,.i,.i,.i,.i,.i,.i,.i,.i,.i,.i,.i,.i,.i,.i,.i,.str,.i,.i,.bool,.i],.sl [.i,.i,.i,.i,.i,.i,.i,.i,.i,.i,.i,.i,.i,.i,.i,.i,.i,.i,.i,.i,.i,.i,.i,.i,.i,.str,.i,.i,.bool,.i]]) ds) aJ=> ?_
 obtain⟨a,ds,rfl,qs,hw⟩:=oq hw
 obtain⟨b,rfl,_⟩:=pS hw
 obtain⟨N,hN⟩:=niP Vm.ke WQ a b qs aJ
 have e0:(fun i=>LY (LX Tryz.prog WO WN N Tryz.f62 Pf [true,true,false,true,false] []) N (ng7 a b i))=(nmy (fun r=>nr.nd r 0) Vm.ke WQ N a b N):=nL1 _ _ _ N
 refine⟨N,Eq.trans ?_ (hN.trans (by kernel_rfl))⟩
 unfold ncr
 rw[←e0]
 kernel_rfl
def UP:Sum:= {ps:=[⟨[.sl [.i,.i,.i,.sl [.i]]],false⟩,⟨[.sl [.i,.i,.i,.sl [.i]]],false⟩],rs:=[⟨[.d_ .bool],false⟩],fn:=fun ds=>(same (rR ds 0) (rR ds 1),[.bool (pF (rR ds 0) (rR ds 1))])}
def nc_:Ctx:=[(173,XP)]
theorem np0:bH Tryz.prog nc_:=Il nf8 JH
def nc9:List (Nat×lC):=[(4, {cb:=[(0,.mL),(1,.mL),(5,.mL)],boxes:=[]})]
def nda:Bool→kL:=(fun r0=>((true,[.bool r0]):kL))
def nnn (a b:Rows) (i:Int):St:= {n:=27,sl:=[(0,.sl [.i,.i,.i,.sl [.i]] a),(1,.sl [.i,.i,.i,.sl [.i]] b),(5,.int .i64 i)],hp:=[],ok:=true,ls:=[],lm:=[]}
theorem npZ:Ee Tryz.prog 63 UP:=by
 refine qD (A:=nc9) np0 Tryz.func63 fun ds (hw:kc ([.sl [.i,.i,.i,.sl [.i]],.sl [.i,.i,.i,.sl [.i]]]) ds) aJ=> ?_
 obtain⟨a,ds,rfl,qs,hw⟩:=oq hw
 obtain⟨b,rfl,_⟩:=pS hw
 obtain⟨N,hN⟩:=npY Vm.ke nda a b qs aJ
 have e0:(fun i=>LY (LX Tryz.prog nc_ nc9 N Tryz.f63 UP [true,true,false,true,false] []) N (nnn a b i))=(nmy (fun r=>nj.nd r 0) Vm.ke nda N a b N):=nL1 _ _ _ N
 refine⟨N,Eq.trans ?_ (hN.trans (by kernel_rfl))⟩
 unfold ncr
 rw[←e0]
 kernel_rfl
def UL:Sum:= {ps:=[⟨[.sl [.bool]],false⟩,⟨[.sl [.bool]],false⟩],rs:=[⟨[.d_ .bool],false⟩],fn:=fun ds=>(same (rR ds 0) (rR ds 1),[.bool (pF (rR ds 0) (rR ds 1))])}
def nc6:List (Nat×lC):=[(4, {cb:=[(0,.mL),(1,.mL),(5,.mL)],boxes:=[]})]
def nc7:Bool→kL:=(fun r0=>((true,[.bool r0]):kL))
def nng (a b:Rows) (i:Int):St:= {n:=26,sl:=[(0,.sl [.bool] a),(1,.sl [.bool] b),(5,.int .i64 i)],hp:=[],ok:=true,ls:=[],lm:=[]}
theorem npW:Ee Tryz.prog 65 UL:=by
 refine qD (A:=nc6) JH Tryz.func65 fun ds (hw:kc ([.sl [.bool],.sl [.bool]]) ds) aJ=> ?_
 obtain⟨a,ds,rfl,qs,hw⟩:=oq hw
 obtain⟨b,rfl,_⟩:=pS hw
 obtain⟨N,hN⟩:=npV Vm.ke nc7 a b qs aJ
 exact⟨N,eL (fun l_=>UM Vm.ke nc7 l_ a b) (nL1 (LX Tryz.prog [] nc6 N Tryz.f65 UL [true,true,false,true,false] []) (nng a b) _ N) hN⟩
def nbc:Sum:= {ps:=[⟨nF.ct,true⟩,⟨nF.ct,true⟩],rs:=[⟨[.d_ .bool],false⟩],fn:=fun ds=>(same (nF.nd ds 0) (nF.nd ds 3),[.bool (pF (nF.nd ds 0) (nF.nd ds 3))])}
theorem nni:Ee Tryz.prog 66 nbc:=by
 refine nQ (Γ:=[(70,v8)]) (Il Na JH) Tryz.func66 fun ds (hw:kc (nF.ct++(nF.ct++[])) ds) aJ=> ?_
 obtain⟨a,ds,rfl,_,hw⟩:=nF.nB (r:=_) hw
 obtain⟨b,ds,rfl,_,hw⟩:=nF.nB (r:=_) hw
 obtain rfl:=nw hw
 exact⟨0,eT (nnh Vm.ke (fun r0=>((true,[.bool r0]):kL)) a b aJ)⟩
def WI:Sum:= {ps:=[⟨ot.ct,true⟩,⟨ot.ct,true⟩],rs:=[⟨[.d_ .bool],false⟩],fn:=fun ds=>(same (ot.nd ds 0) (ot.nd ds 5),[.bool (pF (ot.nd ds 0) (ot.nd ds 5))])}
theorem niL:Ee Tryz.prog 71 WI:=by
 refine nQ JH Tryz.func71 fun ds (hw:kc (ot.ct++(ot.ct++[])) ds) aJ=> ?_
 obtain⟨a,ds,rfl,_,hw⟩:=ot.nB (r:=_) hw
 obtain⟨b,ds,rfl,_,hw⟩:=ot.nB (r:=_) hw
 obtain rfl:=nw hw
 exact⟨0,eT (niK (fun r0=>((true,[.bool r0]):kL)) a b aJ)⟩
def nf3:Sum:= {ps:=[⟨nt.ct,true⟩,⟨nt.ct,true⟩],rs:=[⟨[.d_ .bool],false⟩],fn:=fun ds=>(same (nt.nd ds 0) (nt.nd ds 33),[.bool (pF (nt.nd ds 0) (nt.nd ds 33))])}
theorem nr3:Ee Tryz.prog 11 nf3:=by
 refine nQ (Γ:=[(59,nbe),(60,Pc),(61,YG),(62,Pf),(63,UP),(64,Qi),(65,UL),(66,nbc),(67,WR),(68,Qg),(69,zg),(70,v8),(71,WI)]) (Il nnk (Il niN (Il nkK (Il niQ (Il npZ (Il nkM (Il npW (Il nni (Il niT (Il nkG (Il YF (Il Na (Il niL JH))))))))))))) Tryz.func11 fun ds (hw:kc (nt.ct++(nt.ct++[])) ds) aJ=> ?_
 obtain⟨a,ds,rfl,_,hw⟩:=nt.nB (r:=_) hw
 obtain⟨b,ds,rfl,_,hw⟩:=nt.nB (r:=_) hw
 obtain rfl:=nw hw
 exact⟨0,eT (nr2 Vm.ke (fun r0=>((true,[.bool r0]):kL)) a b aJ)⟩
def tg:Sum:= {ps:=[⟨[.sl [.i]],false⟩,⟨[.i],false⟩],rs:=[⟨[.d_ .i],false⟩],fn:=fun ds=>(Oz 1 (rR ds 0) (rI ds 1),[.int (se (rR ds 0) (rI ds 1)).1]++[.sl (se (rR ds 0) (rI ds 1)).2]),ms:=[some (.rows [.flat 3]),none]}
def nbu:List (Nat×lC):=[(2, {cb:=[(0,.mL),(1,.mL),(5,.mL)],boxes:=[]})]
def nbv:Int→Rows→kL:=(fun r0 r1=>((true,[.int r0]++[.sl r1]):kL))
def nk3 (rj i:Int) (zK:Rows):St:= {n:=1099511627795,sl:=[(0,.own 640000),(1,.int .i64 rj),(5,.int .i64 i)],hp:=[(640000,.row 3 [.i] zK false true)],ok:=true,ls:=[],lm:=[]}
theorem vF:Cq Tryz.prog 83 tg:=by
 refine Oo (A:=nbu) JH Tryz.func83 fun ds (hw:kc ([.sl [.i],.i]) ds) aJ=> ?_
 obtain⟨a,ds,rfl,qs,hw⟩:=oq hw
 obtain⟨k,rfl,_⟩:=nz hw
 obtain⟨N,hN⟩:=nnG Vm.ke nbv a k qs aJ
 exact⟨N,eL (fun l_=>SA Vm.ke nbv l_ a k) (nL3 (Lp Tryz.prog [] nbu N Tryz.f83 tg [true,false,true,false] []) (nk3) _ N) hN⟩
def tf:Sum:= {ps:=[⟨[.sl [.i]],false⟩,⟨[.i],false⟩],rs:=[⟨[.d_ .i],false⟩],fn:=fun ds=>(PK rO 1 (rR ds 0) (rI ds 1),[.int (ri (rR ds 0) (rI ds 1))])}
def nbp:List (Nat×lC):=[(2, {cb:=[(0,.mL),(1,.mL),(5,.mL)],boxes:=[]})]
def nbq:Int→kL:=(fun r0=>((true,[.int r0]):kL))
def nkQ (a:Rows) (rj i:Int):St:= {n:=21,sl:=[(0,.sl [.i] a),(1,.int .i64 rj),(5,.int .i64 i)],hp:=[],ok:=true,ls:=[],lm:=[]}
theorem vE:Ee Tryz.prog 95 tf:=by
 refine qD (A:=nbp) JH Tryz.func95 fun ds (hw:kc ([.sl [.i],.i]) ds) aJ=> ?_
 obtain⟨a,ds,rfl,qs,hw⟩:=oq hw
 obtain⟨k,rfl,_⟩:=nz hw
 obtain⟨N,hN⟩:=nnz Vm.ke nbq a k qs aJ
 exact⟨N,eL (fun l_=>Sz Vm.ke nbq l_ a k) (X2 (LX Tryz.prog [] nbp N Tryz.f95 tf [true,false,true,false] []) (nkQ a) _ N) hN⟩
def Qr:Sum:= {ps:=[⟨[.sl [.bool]],false⟩,⟨[.i],false⟩],rs:=[⟨[.d_ .i],false⟩],fn:=fun ds=>(Oz 1 (rR ds 0) (rI ds 1),[.int (QH (rR ds 0) (rI ds 1)).1]++[.sl (QH (rR ds 0) (rI ds 1)).2]),ms:=[some (.rows [.flat 4]),none]}
def Y0:List (Nat×lC):=[(2, {cb:=[(0,.mL),(1,.mL),(5,.mL)],boxes:=[]})]
def Y1:Int→Rows→kL:=(fun r0 r1=>((true,[.int r0]++[.sl r1]):kL))
def ni8 (rj i:Int) (zK:Rows):St:= {n:=1099511627797,sl:=[(0,.own 640000),(1,.int .i64 rj),(5,.int .i64 i)],hp:=[(640000,.row 4 [.bool] zK false true)],ok:=true,ls:=[],lm:=[]}
theorem nk2:Cq Tryz.prog 78 Qr:=by
 refine Oo (A:=Y0) JH Tryz.func78 fun ds (hw:kc ([.sl [.bool],.i]) ds) aJ=> ?_
 obtain⟨a,ds,rfl,qs,hw⟩:=oq hw
 obtain⟨k,rfl,_⟩:=nz hw
 obtain⟨N,hN⟩:=nk1 Vm.ke Y1 a k qs aJ
 exact⟨N,eL (fun l_=>Qs Vm.ke Y1 l_ a k) (nL3 (Lp Tryz.prog [] Y0 N Tryz.f78 Qr [true,false,true,false] []) (ni8) _ N) hN⟩
def Qj:Sum:= {ps:=[⟨[.sl [.bool]],false⟩,⟨[.i],false⟩],rs:=[⟨[.d_ .i],false⟩],fn:=fun ds=>(PK OG 1 (rR ds 0) (rI ds 1),[.int (TS (rR ds 0) (rI ds 1))])}
def YL:List (Nat×lC):=[(2, {cb:=[(0,.mL),(1,.mL),(5,.mL)],boxes:=[]})]
def YM:Int→kL:=(fun r0=>((true,[.int r0]):kL))
def niX (a:Rows) (rj i:Int):St:= {n:=23,sl:=[(0,.sl [.bool] a),(1,.int .i64 rj),(5,.int .i64 i)],hp:=[],ok:=true,ls:=[],lm:=[]}
theorem nkP:Ee Tryz.prog 90 Qj:=by
 refine qD (A:=YL) JH Tryz.func90 fun ds (hw:kc ([.sl [.bool],.i]) ds) aJ=> ?_
 obtain⟨a,ds,rfl,qs,hw⟩:=oq hw
 obtain⟨k,rfl,_⟩:=nz hw
 obtain⟨N,hN⟩:=nkO Vm.ke YM a k qs aJ
 exact⟨N,eL (fun l_=>Qk Vm.ke YM l_ a k) (X2 (LX Tryz.prog [] YL N Tryz.f90 Qj [true,false,true,false] []) (niX a) _ N) hN⟩
def th:Sum:= {ps:=[⟨[.i],false⟩],rs:=[⟨[.d_ .str],false⟩],fn:=fun ds=>(true,[.str (R6 (rI ds 0))])}
def nby:List (Nat×lC):=[(4, {cb:=[(0,.mL),(3,.mL)],boxes:=[]})]
def nbz:Bytes→kL:=(fun r0=>((true,[.str r0]):kL))
def nld (rj:Int) (oh:Bytes):St:= {n:=20,sl:=[(0,.int .i64 rj),(3,.str oh)],hp:=[],ok:=true,ls:=[],lm:=[]}
theorem vG:Ee Tryz.prog 183 th:=by
 refine qD (A:=nby) JH Tryz.func183 fun ds (hw:kc ([.i]) ds) _=> ?_
 obtain⟨k,rfl,h_k⟩:=nz hw
 obtain⟨N,hN⟩:=nnL Vm.ke nbz k h_k
 exact⟨N,eL (fun l_=>SB Vm.ke nbz l_ k) (X2 (LX Tryz.prog [] nby N Tryz.f183 th [true,true,true,false,false] []) (nld) _ N) hN⟩
def xe:Sum:= {ps:=[⟨[.sl [.str]],false⟩,⟨[.i],false⟩],rs:=[⟨[.d_ .i],false⟩],fn:=fun ds=>(Oz 1 (rR ds 0) (rI ds 1),[.int (uO (rR ds 0) (rI ds 1)).1]++[.sl (uO (rR ds 0) (rI ds 1)).2]),ms:=[some (.rows [.flat 9]),none]}
def Va:Ctx:=[(183,th)]
theorem nhk:bH Tryz.prog Va:=Il vG JH
def U_:List (Nat×lC):=[(2, {cb:=[(0,.mL),(1,.mL),(5,.mL)],boxes:=[]})]
def Vb:Int→Rows→kL:=(fun r0 r1=>((true,[.int r0]++[.sl r1]):kL))
def nft (rj i:Int) (zK:Rows):St:= {n:=1099511627796,sl:=[(0,.own 640000),(1,.int .i64 rj),(5,.int .i64 i)],hp:=[(640000,.row 9 [.str] zK false true)],ok:=true,ls:=[],lm:=[]}
theorem Vd:Cq Tryz.prog 82 xe:=by
 refine Oo (A:=U_) nhk Tryz.func82 fun ds (hw:kc ([.sl [.str],.i]) ds) aJ=> ?_
 obtain⟨a,ds,rfl,qs,hw⟩:=oq hw
 obtain⟨k,rfl,_⟩:=nz hw
 obtain⟨N,hN⟩:=nhj Vm.ke Vb a k qs aJ
 exact⟨N,eL (fun l_=>Od Vm.ke Vb l_ a k) (nL3 (Lp Tryz.prog Va U_ N Tryz.f82 xe [true,false,true,false] []) (nft) _ N) hN⟩
def xd:Sum:= {ps:=[⟨[.sl [.str]],false⟩,⟨[.i],false⟩],rs:=[⟨[.d_ .i],false⟩],fn:=fun ds=>(PK sK 1 (rR ds 0) (rI ds 1),[.int (uL (rR ds 0) (rI ds 1))])}
def UZ:Ctx:=[(183,th)]
theorem nhb:bH Tryz.prog UZ:=Il vG JH
def UY:List (Nat×lC):=[(2, {cb:=[(0,.mL),(1,.mL),(5,.mL)],boxes:=[]})]
def U0:Int→kL:=(fun r0=>((true,[.int r0]):kL))
def nfh (a:Rows) (rj i:Int):St:= {n:=22,sl:=[(0,.sl [.str] a),(1,.int .i64 rj),(5,.int .i64 i)],hp:=[],ok:=true,ls:=[],lm:=[]}
theorem U2:Ee Tryz.prog 94 xd:=by
 refine qD (A:=UY) nhb Tryz.func94 fun ds (hw:kc ([.sl [.str],.i]) ds) aJ=> ?_
 obtain⟨a,ds,rfl,qs,hw⟩:=oq hw
 obtain⟨k,rfl,_⟩:=nz hw
 obtain⟨N,hN⟩:=nha Vm.ke U0 a k qs aJ
 exact⟨N,eL (fun l_=>Oa Vm.ke U0 l_ a k) (X2 (LX Tryz.prog UZ UY N Tryz.f94 xd [true,false,true,false] []) (nfh a) _ N) hN⟩
def Oc:Sum:= {ps:=[⟨[.sl [.i,.i,.i,.i,.i,.i,.str,.bool]],false⟩,⟨[.i],false⟩],rs:=[⟨[.d_ .i],false⟩],fn:=fun ds=>(Oz 8 (rR ds 0) (rI ds 1),[.int (Ox (rR ds 0) (rI ds 1)).1]++[.sl (Ox (rR ds 0) (rI ds 1)).2]),ms:=[some (.rows [.flat 236]),none]}
def U8:Ctx:=[(183,th)]
theorem nhi:bH Tryz.prog U8:=Il vG JH
def U7:List (Nat×lC):=[(2, {cb:=[(0,.mL),(1,.mL),(5,.mL)],boxes:=[]})]
def U9:Int→Rows→kL:=(fun r0 r1=>((true,[.int r0]++[.sl r1]):kL))
def nfs (rj i:Int) (zK:Rows):St:= {n:=1099511627853,sl:=[(0,.own 640000),(1,.int .i64 rj),(5,.int .i64 i)],hp:=[(640000,.row 236 [.i,.i,.i,.i,.i,.i,.str,.bool] zK false true)],ok:=true,ls:=[],lm:=[]}
theorem nhh:Cq Tryz.prog 81 Oc:=by
 refine Oo (A:=U7) nhi Tryz.func81 fun ds (hw:kc ([.sl [.i,.i,.i,.i,.i,.i,.str,.bool],.i]) ds) aJ=> ?_
 obtain⟨a,ds,rfl,qs,hw⟩:=oq hw
 obtain⟨k,rfl,_⟩:=nz hw
 obtain⟨N,hN⟩:=nhg Vm.ke U9 a k qs aJ
 have e0:(fun rj i zK=>LY (Lp Tryz.prog U8 U7 N Tryz.f81 Oc [true,false,true,false] []) N (nfs rj i zK))=(nsy VA Vm.ke U9 N N):=nL3 _ _ _ N
 refine⟨N,Eq.trans ?_ (hN.trans (by kernel_rfl))⟩
 unfold nlJ
 rw[←e0]
 kernel_rfl
def N_:Sum:= {ps:=[⟨[.sl [.i,.i,.i,.i,.i,.i,.str,.bool]],false⟩,⟨[.i],false⟩],rs:=[⟨[.d_ .i],false⟩],fn:=fun ds=>(PK OH 8 (rR ds 0) (rI ds 1),[.int (RP (rR ds 0) (rI ds 1))])}
def UW:Ctx:=[(183,th)]
theorem ng_:bH Tryz.prog UW:=Il vG JH
def UU:List (Nat×lC):=[(2, {cb:=[(0,.mL),(1,.mL),(5,.mL)],boxes:=[]})]
def UX:Int→kL:=(fun r0=>((true,[.int r0]):kL))
def nfg (a:Rows) (rj i:Int):St:= {n:=93,sl:=[(0,.sl [.i,.i,.i,.i,.i,.i,.str,.bool] a),(1,.int .i64 rj),(5,.int .i64 i)],hp:=[],ok:=true,ls:=[],lm:=[]}
theorem ng9:Ee Tryz.prog 93 N_:=by
 refine qD (A:=UU) ng_ Tryz.func93 fun ds (hw:kc ([.sl [.i,.i,.i,.i,.i,.i,.str,.bool],.i]) ds) aJ=> ?_
 obtain⟨a,ds,rfl,qs,hw⟩:=oq hw
 obtain⟨k,rfl,_⟩:=nz hw
 obtain⟨N,hN⟩:=ng8 Vm.ke UX a k qs aJ
 have e0:(fun rj i=>LY (LX Tryz.prog UW UU N Tryz.f93 N_ [true,false,true,false] []) N (nfg a rj i))=(nrH VA Vm.ke UX N a N):=X2 _ _ _ N
 refine⟨N,Eq.trans ?_ (hN.trans (by kernel_rfl))⟩
 unfold nkf
 rw[←e0]
 kernel_rfl
def Qy:Sum:= {ps:=[⟨[.sl [.i,.i,.i,.i,.i,.i,.i]],false⟩,⟨[.i],false⟩],rs:=[⟨[.d_ .i],false⟩],fn:=fun ds=>(Oz 7 (rR ds 0) (rI ds 1),[.int (QI (rR ds 0) (rI ds 1)).1]++[.sl (QI (rR ds 0) (rI ds 1)).2]),ms:=[some (.rows [.flat 264]),none]}
def Zc:List (Nat×lC):=[(2, {cb:=[(0,.mL),(1,.mL),(5,.mL)],boxes:=[]})]
def Zd:Int→Rows→kL:=(fun r0 r1=>((true,[.int r0]++[.sl r1]):kL))
def njj (rj i:Int) (zK:Rows):St:= {n:=1099511627843,sl:=[(0,.own 640000),(1,.int .i64 rj),(5,.int .i64 i)],hp:=[(640000,.row 264 [.i,.i,.i,.i,.i,.i,.i] zK false true)],ok:=true,ls:=[],lm:=[]}
theorem nlc:Cq Tryz.prog 286 Qy:=by
 refine Oo (A:=Zc) JH Tryz.func286 fun ds (hw:kc ([.sl [.i,.i,.i,.i,.i,.i,.i],.i]) ds) aJ=> ?_
 obtain⟨a,ds,rfl,qs,hw⟩:=oq hw
 obtain⟨k,rfl,_⟩:=nz hw
 obtain⟨N,hN⟩:=nlb Vm.ke Zd a k qs aJ
 have e0:(fun rj i zK=>LY (Lp Tryz.prog [] Zc N Tryz.f286 Qy [true,false,true,false] []) N (njj rj i zK))=(nsy nhA Vm.ke Zd N N):=nL3 _ _ _ N
 refine⟨N,Eq.trans ?_ (hN.trans (by kernel_rfl))⟩
 unfold nlJ
 rw[←e0]
 kernel_rfl
def Qq:Sum:= {ps:=[⟨[.sl [.i,.i,.i,.i,.i,.i,.i]],false⟩,⟨[.i],false⟩],rs:=[⟨[.d_ .i],false⟩],fn:=fun ds=>(PK Z0 7 (rR ds 0) (rI ds 1),[.int (TU (rR ds 0) (rI ds 1))])}
def YY:List (Nat×lC):=[(2, {cb:=[(0,.mL),(1,.mL),(5,.mL)],boxes:=[]})]
def YZ:Int→kL:=(fun r0=>((true,[.int r0]):kL))
def ni5 (a:Rows) (rj i:Int):St:= {n:=81,sl:=[(0,.sl [.i,.i,.i,.i,.i,.i,.i] a),(1,.int .i64 rj),(5,.int .i64 i)],hp:=[],ok:=true,ls:=[],lm:=[]}
theorem nk0:Ee Tryz.prog 287 Qq:=by
 refine qD (A:=YY) JH Tryz.func287 fun ds (hw:kc ([.sl [.i,.i,.i,.i,.i,.i,.i],.i]) ds) aJ=> ?_
 obtain⟨a,ds,rfl,qs,hw⟩:=oq hw
 obtain⟨k,rfl,_⟩:=nz hw
 obtain⟨N,hN⟩:=nkZ Vm.ke YZ a k qs aJ
 have e0:(fun rj i=>LY (LX Tryz.prog [] YY N Tryz.f287 Qq [true,false,true,false] []) N (ni5 a rj i))=(nrH nhA Vm.ke YZ N a N):=X2 _ _ _ N
 refine⟨N,Eq.trans ?_ (hN.trans (by kernel_rfl))⟩
 unfold nkf
 rw[←e0]
 kernel_rfl
def zP:Sum:= {ps:=[⟨[.sl [.i,.i,.i,.i,.i,.i,.i,.i,.i,.i,.i,.i,.i,.i,.i,.i,.i,.i,.i,.i,.i,.i,.i,.i,.i,.str,.i,.i,.bool,.i]],false⟩,⟨[.i],false⟩],rs:=[⟨[.d_ .i],false⟩],fn:=fun ds=>(Oz 30 (rR ds 0) (rI ds 1),[.int (zs (rR ds 0) (rI ds 1)).1]++[.sl (zs (rR ds 0) (rI ds 1)).2]),ms:=[some (.rows [.flat 104]),none]}
def Tl:Ctx:=[(183,th)]
theorem nfn:bH Tryz.prog Tl:=Il vG JH
def Tk:List (Nat×lC):=[(2, {cb:=[(0,.mL),(1,.mL),(5,.mL)],boxes:=[]})]
def Tm:Int→Rows→kL:=(fun r0 r1=>((true,[.int r0]++[.sl r1]):kL))
def ndv (rj i:Int) (zK:Rows):St:= {n:=1099511628054,sl:=[(0,.own 640000),(1,.int .i64 rj),(5,.int .i64 i)],hp:=[(640000,.row 104 [.i,.i,.i,.i,.i,.i,.i,.i,.i,.i,.i,.i,.i,.i,.i,.i,.i,.i,.i,.i,.i,.i,.i,.i,.i,.str,.i,.i,.bool,.i] zK false true)],ok:=true,ls:=[],lm:=[]}
theorem nfm:Cq Tryz.prog 75 zP:=by
 refine Oo (A:=Tk) nfn Tryz.func75 fun ds (hw:kc ([.sl [.i,.i,.i,.i,.i,.i,.i,.i,.i,.i,.i,.i,.i,.i,.i,.i,.i,.i,.i,.i,.i,.i,.i,.i,.i,.str,.i,.i,.bool,.i],.i]) ds) aJ=> ?_
 obtain⟨a,ds,rfl,qs,hw⟩:=oq hw
 obtain⟨k,rfl,_⟩:=nz hw
 obtain⟨N,hN⟩:=nfl Vm.ke Tm a k qs aJ
 have e0:(fun rj i zK=>LY (Lp Tryz.prog Tl Tk N Tryz.f75 zP [true,false,true,false] []) N (ndv rj i zK))=(nsy QM Vm.ke Tm N N):=nL3 _ _ _ N
 refine⟨N,Eq.trans ?_ (hN.trans (by kernel_rfl))⟩
 unfold nlJ
 rw[←e0]
 kernel_rfl
def zN:Sum:= {ps:=[⟨[.sl [.i,.i,.i,.i,.i,.i,.i,.i,.i,.i,.i,.i,.i,.i,.i,.i,.i,.i,.i,.i,.i,.i,.i,.i,.i,.str,.i,.i,.bool,.i]],false⟩,⟨[.i],false⟩],rs:=[⟨[.d_ .i],false⟩],fn:=fun ds=>(PK yX 30 (rR ds 0) (rI ds 1),[.int (OO (rR ds 0) (rI ds 1))])}
def Tc:Ctx:=[(183,th)]
theorem nfd:bH Tryz.prog Tc:=Il vG JH
def Tb:List (Nat×lC):=[(2, {cb:=[(0,.mL),(1,.mL),(5,.mL)],boxes:=[]})]
def Td:Int→kL:=(fun r0=>((true,[.int r0]):kL))
def ndp (a:Rows) (rj i:Int):St:= {n:=338,sl:=[(0,.sl [.i,.i,.i,.i,.i,.i,.i,.i,.i,.i,.i,.i,.i,.i,.i,.i,.i,.i,.i,.i,.i,.i,.i,.i,.i,.str,.i,.i,.bool,.i] a),(1,.int .i64 rj),(5,.int .i64 i)],hp:=[],ok:=true,ls:=[],lm:=[]}
theorem nfc:Ee Tryz.prog 87 zN:=by
 refine qD (A:=Tb) nfd Tryz.func87 fun ds (hw:kc ([.sl [.i,.i,.i,.i,.i,.i,.i,.i,.i,.i,.i,.i,.i,.i,.i,.i,.i,.i,.i,.i,.i,.i,.i,.i,.i,.str,.i,.i,.bool,.i],.i]) ds) aJ=> ?_
 obtain⟨a,ds,rfl,qs,hw⟩:=oq hw
 obtain⟨k,rfl,_⟩:=nz hw
 obtain⟨N,hN⟩:=nfb Vm.ke Td a k qs aJ
 have e0:(fun rj i=>LY (LX Tryz.prog Tc Tb N Tryz.f87 zN [true,false,true,false] []) N (ndp a rj i))=(nrH QM Vm.ke Td N a N):=X2 _ _ _ N
 refine⟨N,Eq.trans ?_ (hN.trans (by kernel_rfl))⟩
 unfold nkf
 rw[←e0]
 kernel_rfl
def Qt:Sum:= {ps:=[⟨[.sl [.i,.i,.i,.sl [.i]]],false⟩,⟨[.i],false⟩],rs:=[⟨[.d_ .i],false⟩],fn:=fun ds=>(ym su Si (rR ds 0) (rI ds 1),[.int (zr (rR ds 0) (rI ds 1)).1]++[.sl (zr (rR ds 0) (rI ds 1)).2]),ms:=[some (.rows [.deep 57 [3]]),none]}
def Y4:Ctx:=[(1125899906842661,J9),(83,tg)]
theorem nk6:bH Tryz.prog Y4:=Il Lw (Il vF JH)
def Y3:List (Nat×lC):=[(2, {cb:=[(0,.mL),(1,.mL),(5,.mL)],boxes:=[]})]
def Y5:Int→Rows→kL:=(fun r0 r1=>((true,[.int r0]++[.sl r1]):kL))
def njg (rj i:Int) (zK:Rows):St:= {n:=1099511627817,sl:=[(0,.own 640000),(1,.int .i64 rj),(5,.int .i64 i)],hp:=[(640000,.deep 57 [.i,.i,.i,.sl [.i]] [3] zK none)],ok:=true,ls:=[],lm:=[]}
theorem nk5:Cq Tryz.prog 76 Qt:=by
 refine Oo (A:=Y3) nk6 Tryz.func76 fun ds (hw:kc ([.sl [.i,.i,.i,.sl [.i]],.i]) ds) aJ=> ?_
 obtain⟨a,ds,rfl,qs,hw⟩:=oq hw
 obtain⟨k,rfl,_⟩:=nz hw
 obtain⟨N,hN⟩:=nk4 Vm.ke Y5 a k qs aJ
 exact⟨N,eL (fun l_=>Qu Vm.ke Y5 l_ a k) (nL3 (Lp Tryz.prog Y4 Y3 N Tryz.f76 Qt [true,false,true,false] []) (njg) _ N) hN⟩
def Ql:Sum:= {ps:=[⟨[.sl [.i,.i,.i,.sl [.i]]],false⟩,⟨[.i],false⟩],rs:=[⟨[.d_ .i],false⟩],fn:=fun ds=>(neS (rR ds 0) (rI ds 1),[.int (X9 (rR ds 0) (rI ds 1))])}
def YP:Ctx:=[(95,tf)]
theorem nkT:bH Tryz.prog YP:=Il vE JH
def YO:List (Nat×lC):=[(2, {cb:=[(0,.mL),(1,.mL),(5,.mL)],boxes:=[]})]
def YQ:Int→kL:=(fun r0=>((true,[.int r0]):kL))
def ni2 (a:Rows) (rj i:Int):St:= {n:=49,sl:=[(0,.sl [.i,.i,.i,.sl [.i]] a),(1,.int .i64 rj),(5,.int .i64 i)],hp:=[],ok:=true,ls:=[],lm:=[]}
theorem nkS:Ee Tryz.prog 88 Ql:=by
 refine qD (A:=YO) nkT Tryz.func88 fun ds (hw:kc ([.sl [.i,.i,.i,.sl [.i]],.i]) ds) aJ=> ?_
 obtain⟨a,ds,rfl,qs,hw⟩:=oq hw
 obtain⟨k,rfl,_⟩:=nz hw
 obtain⟨N,hN⟩:=nkR Vm.ke YQ a k qs aJ
 exact⟨N,eL (fun l_=>Qm Vm.ke YQ l_ a k) (X2 (LX Tryz.prog YP YO N Tryz.f88 Ql [true,false,true,false] []) (ni2 a) _ N) hN⟩
def Qw:Sum:= {ps:=[⟨[.sl [.i,.i,.sl [.i]]],false⟩,⟨[.i],false⟩],rs:=[⟨[.d_ .i],false⟩],fn:=fun ds=>(ym sw Sj (rR ds 0) (rI ds 1),[.int (zt (rR ds 0) (rI ds 1)).1]++[.sl (zt (rR ds 0) (rI ds 1)).2]),ms:=[some (.rows [.deep 293 [3]]),none]}
def Y_:Ctx:=[(1125899906842654,J9),(83,tg)]
theorem nla:bH Tryz.prog Y_:=Il Lw (Il vF JH)
def Y9:List (Nat×lC):=[(2, {cb:=[(0,.mL),(1,.mL),(5,.mL)],boxes:=[]})]
def Za:Int→Rows→kL:=(fun r0 r1=>((true,[.int r0]++[.sl r1]):kL))
def nji (rj i:Int) (zK:Rows):St:= {n:=1099511627810,sl:=[(0,.own 640000),(1,.int .i64 rj),(5,.int .i64 i)],hp:=[(640000,.deep 293 [.i,.i,.sl [.i]] [3] zK none)],ok:=true,ls:=[],lm:=[]}
theorem nk_:Cq Tryz.prog 182 Qw:=by
 refine Oo (A:=Y9) nla Tryz.func182 fun ds (hw:kc ([.sl [.i,.i,.sl [.i]],.i]) ds) aJ=> ?_
 obtain⟨a,ds,rfl,qs,hw⟩:=oq hw
 obtain⟨k,rfl,_⟩:=nz hw
 obtain⟨N,hN⟩:=nk9 Vm.ke Za a k qs aJ
 exact⟨N,eL (fun l_=>Qx Vm.ke Za l_ a k) (nL3 (Lp Tryz.prog Y_ Y9 N Tryz.f182 Qw [true,false,true,false] []) (nji) _ N) hN⟩
def Qo:Sum:= {ps:=[⟨[.sl [.i,.i,.sl [.i]]],false⟩,⟨[.i],false⟩],rs:=[⟨[.d_ .i],false⟩],fn:=fun ds=>(neT (rR ds 0) (rI ds 1),[.int (X_ (rR ds 0) (rI ds 1))])}
def YV:Ctx:=[(95,tf)]
theorem nkY:bH Tryz.prog YV:=Il vE JH
def YU:List (Nat×lC):=[(2, {cb:=[(0,.mL),(1,.mL),(5,.mL)],boxes:=[]})]
def YW:Int→kL:=(fun r0=>((true,[.int r0]):kL))
def ni4 (a:Rows) (rj i:Int):St:= {n:=40,sl:=[(0,.sl [.i,.i,.sl [.i]] a),(1,.int .i64 rj),(5,.int .i64 i)],hp:=[],ok:=true,ls:=[],lm:=[]}
theorem nkX:Ee Tryz.prog 188 Qo:=by
 refine qD (A:=YU) nkY Tryz.func188 fun ds (hw:kc ([.sl [.i,.i,.sl [.i]],.i]) ds) aJ=> ?_
 obtain⟨a,ds,rfl,qs,hw⟩:=oq hw
 obtain⟨k,rfl,_⟩:=nz hw
 obtain⟨N,hN⟩:=nkW Vm.ke YW a k qs aJ
 exact⟨N,eL (fun l_=>Qp Vm.ke YW l_ a k) (X2 (LX Tryz.prog YV YU N Tryz.f188 Qo [true,false,true,false] []) (ni4 a) _ N) hN⟩
def Oe:Sum:= {ps:=[⟨[.sl [.i,.i,.i,.i,.bool,.bool]],false⟩,⟨[.i],false⟩],rs:=[⟨[.d_ .i],false⟩],fn:=fun ds=>(Oz 6 (rR ds 0) (rI ds 1),[.int (Oy (rR ds 0) (rI ds 1)).1]++[.sl (Oy (rR ds 0) (rI ds 1)).2]),ms:=[some (.rows [.flat 107]),none]}
def Vg:List (Nat×lC):=[(2, {cb:=[(0,.mL),(1,.mL),(5,.mL)],boxes:=[]})]
def Vh:Int→Rows→kL:=(fun r0 r1=>((true,[.int r0]++[.sl r1]):kL))
def nfu (rj i:Int) (zK:Rows):St:= {n:=1099511627835,sl:=[(0,.own 640000),(1,.int .i64 rj),(5,.int .i64 i)],hp:=[(640000,.row 107 [.i,.i,.i,.i,.bool,.bool] zK false true)],ok:=true,ls:=[],lm:=[]}
theorem nhq:Cq Tryz.prog 77 Oe:=by
 refine Oo (A:=Vg) JH Tryz.func77 fun ds (hw:kc ([.sl [.i,.i,.i,.i,.bool,.bool],.i]) ds) aJ=> ?_
 obtain⟨a,ds,rfl,qs,hw⟩:=oq hw
 obtain⟨k,rfl,_⟩:=nz hw
 obtain⟨N,hN⟩:=nhp Vm.ke Vh a k qs aJ
 have e0:(fun rj i zK=>LY (Lp Tryz.prog [] Vg N Tryz.f77 Oe [true,false,true,false] []) N (nfu rj i zK))=(nsy VB Vm.ke Vh N N):=nL3 _ _ _ N
 refine⟨N,Eq.trans ?_ (hN.trans (by kernel_rfl))⟩
 unfold nlJ
 rw[←e0]
 kernel_rfl
def Ob:Sum:= {ps:=[⟨[.sl [.i,.i,.i,.i,.bool,.bool]],false⟩,⟨[.i],false⟩],rs:=[⟨[.d_ .i],false⟩],fn:=fun ds=>(PK OI 6 (rR ds 0) (rI ds 1),[.int (RR (rR ds 0) (rI ds 1))])}
def U4:List (Nat×lC):=[(2, {cb:=[(0,.mL),(1,.mL),(5,.mL)],boxes:=[]})]
def U5:Int→kL:=(fun r0=>((true,[.int r0]):kL))
def nfi (a:Rows) (rj i:Int):St:= {n:=71,sl:=[(0,.sl [.i,.i,.i,.i,.bool,.bool] a),(1,.int .i64 rj),(5,.int .i64 i)],hp:=[],ok:=true,ls:=[],lm:=[]}
theorem nhf:Ee Tryz.prog 89 Ob:=by
 refine qD (A:=U4) JH Tryz.func89 fun ds (hw:kc ([.sl [.i,.i,.i,.i,.bool,.bool],.i]) ds) aJ=> ?_
 obtain⟨a,ds,rfl,qs,hw⟩:=oq hw
 obtain⟨k,rfl,_⟩:=nz hw
 obtain⟨N,hN⟩:=nhe Vm.ke U5 a k qs aJ
 have e0:(fun rj i=>LY (LX Tryz.prog [] U4 N Tryz.f89 Ob [true,false,true,false] []) N (nfi a rj i))=(nrH VB Vm.ke U5 N a N):=X2 _ _ _ N
 refine⟨N,Eq.trans ?_ (hN.trans (by kernel_rfl))⟩
 unfold nkf
 rw[←e0]
 kernel_rfl
def Qv:Sum:= {ps:=[⟨[.sl [.i,.i,.i,.i,.i,.i,.i,.i,.i]],false⟩,⟨[.i],false⟩],rs:=[⟨[.d_ .i],false⟩],fn:=fun ds=>(Oz 9 (rR ds 0) (rI ds 1),[.int (Ow (rR ds 0) (rI ds 1)).1]++[.sl (Ow (rR ds 0) (rI ds 1)).2]),ms:=[some (.rows [.flat 260]),none]}
def Y7:List (Nat×lC):=[(2, {cb:=[(0,.mL),(1,.mL),(5,.mL)],boxes:=[]})]
def Y8:Int→Rows→kL:=(fun r0 r1=>((true,[.int r0]++[.sl r1]):kL))
def njh (rj i:Int) (zK:Rows):St:= {n:=1099511627852,sl:=[(0,.own 640000),(1,.int .i64 rj),(5,.int .i64 i)],hp:=[(640000,.row 260 [.i,.i,.i,.i,.i,.i,.i,.i,.i] zK false true)],ok:=true,ls:=[],lm:=[]}
theorem nk8:Cq Tryz.prog 184 Qv:=by
 refine Oo (A:=Y7) JH Tryz.func184 fun ds (hw:kc ([.sl [.i,.i,.i,.i,.i,.i,.i,.i,.i],.i]) ds) aJ=> ?_
 obtain⟨a,ds,rfl,qs,hw⟩:=oq hw
 obtain⟨k,rfl,_⟩:=nz hw
 obtain⟨N,hN⟩:=nk7 Vm.ke Y8 a k qs aJ
 have e0:(fun rj i zK=>LY (Lp Tryz.prog [] Y7 N Tryz.f184 Qv [true,false,true,false] []) N (njh rj i zK))=(nsy nhz Vm.ke Y8 N N):=nL3 _ _ _ N
 refine⟨N,Eq.trans ?_ (hN.trans (by kernel_rfl))⟩
 unfold nlJ
 rw[←e0]
 kernel_rfl
def Qn:Sum:= {ps:=[⟨[.sl [.i,.i,.i,.i,.i,.i,.i,.i,.i]],false⟩,⟨[.i],false⟩],rs:=[⟨[.d_ .i],false⟩],fn:=fun ds=>(PK ZZ 9 (rR ds 0) (rI ds 1),[.int (Qc (rR ds 0) (rI ds 1))])}
def YS:List (Nat×lC):=[(2, {cb:=[(0,.mL),(1,.mL),(5,.mL)],boxes:=[]})]
def YT:Int→kL:=(fun r0=>((true,[.int r0]):kL))
def ni3 (a:Rows) (rj i:Int):St:= {n:=94,sl:=[(0,.sl [.i,.i,.i,.i,.i,.i,.i,.i,.i] a),(1,.int .i64 rj),(5,.int .i64 i)],hp:=[],ok:=true,ls:=[],lm:=[]}
theorem nkV:Ee Tryz.prog 189 Qn:=by
 refine qD (A:=YS) JH Tryz.func189 fun ds (hw:kc ([.sl [.i,.i,.i,.i,.i,.i,.i,.i,.i],.i]) ds) aJ=> ?_
 obtain⟨a,ds,rfl,qs,hw⟩:=oq hw
 obtain⟨k,rfl,_⟩:=nz hw
 obtain⟨N,hN⟩:=nkU Vm.ke YT a k qs aJ
 have e0:(fun rj i=>LY (LX Tryz.prog [] YS N Tryz.f189 Qn [true,false,true,false] []) N (ni3 a rj i))=(nrH nhz Vm.ke YT N a N):=X2 _ _ _ N
 refine⟨N,Eq.trans ?_ (hN.trans (by kernel_rfl))⟩
 unfold nkf
 rw[←e0]
 kernel_rfl
def zO:Sum:= {ps:=[⟨[.sl [.i,.i,.i,.bool]],false⟩,⟨[.i],false⟩],rs:=[⟨[.d_ .i],false⟩],fn:=fun ds=>(Oz 4 (rR ds 0) (rI ds 1),[.int (zq (rR ds 0) (rI ds 1)).1]++[.sl (zq (rR ds 0) (rI ds 1)).2]),ms:=[some (.rows [.flat 222]),none]}
def Th:List (Nat×lC):=[(2, {cb:=[(0,.mL),(1,.mL),(5,.mL)],boxes:=[]})]
def Ti:Int→Rows→kL:=(fun r0 r1=>((true,[.int r0]++[.sl r1]):kL))
def ndu (rj i:Int) (zK:Rows):St:= {n:=1099511627819,sl:=[(0,.own 640000),(1,.int .i64 rj),(5,.int .i64 i)],hp:=[(640000,.row 222 [.i,.i,.i,.bool] zK false true)],ok:=true,ls:=[],lm:=[]}
theorem nfk:Cq Tryz.prog 73 zO:=by
 refine Oo (A:=Th) JH Tryz.func73 fun ds (hw:kc ([.sl [.i,.i,.i,.bool],.i]) ds) aJ=> ?_
 obtain⟨a,ds,rfl,qs,hw⟩:=oq hw
 obtain⟨k,rfl,_⟩:=nz hw
 obtain⟨N,hN⟩:=nfj Vm.ke Ti a k qs aJ
 have e0:(fun rj i zK=>LY (Lp Tryz.prog [] Th N Tryz.f73 zO [true,false,true,false] []) N (ndu rj i zK))=(nsy QL Vm.ke Ti N N):=nL3 _ _ _ N
 refine⟨N,Eq.trans ?_ (hN.trans (by kernel_rfl))⟩
 unfold nlJ
 rw[←e0]
 kernel_rfl
def zM:Sum:= {ps:=[⟨[.sl [.i,.i,.i,.bool]],false⟩,⟨[.i],false⟩],rs:=[⟨[.d_ .i],false⟩],fn:=fun ds=>(PK yW 4 (rR ds 0) (rI ds 1),[.int (ON (rR ds 0) (rI ds 1))])}
def S9:List (Nat×lC):=[(2, {cb:=[(0,.mL),(1,.mL),(5,.mL)],boxes:=[]})]
def S_:Int→kL:=(fun r0=>((true,[.int r0]):kL))
def ndo (a:Rows) (rj i:Int):St:= {n:=51,sl:=[(0,.sl [.i,.i,.i,.bool] a),(1,.int .i64 rj),(5,.int .i64 i)],hp:=[],ok:=true,ls:=[],lm:=[]}
theorem nfa:Ee Tryz.prog 85 zM:=by
 refine qD (A:=S9) JH Tryz.func85 fun ds (hw:kc ([.sl [.i,.i,.i,.bool],.i]) ds) aJ=> ?_
 obtain⟨a,ds,rfl,qs,hw⟩:=oq hw
 obtain⟨k,rfl,_⟩:=nz hw
 obtain⟨N,hN⟩:=ne_ Vm.ke S_ a k qs aJ
 have e0:(fun rj i=>LY (LX Tryz.prog [] S9 N Tryz.f85 zM [true,false,true,false] []) N (ndo a rj i))=(nrH QL Vm.ke S_ N a N):=X2 _ _ _ N
 refine⟨N,Eq.trans ?_ (hN.trans (by kernel_rfl))⟩
 unfold nkf
 rw[←e0]
 kernel_rfl
def nK:Sum:= {ps:=[⟨[.i],false⟩,⟨[.i],false⟩,⟨[.i],false⟩],rs:=[⟨[.d_ .bool],false⟩],fn:=fun ds=>(true,[.bool (nh (rI ds 0) (rI ds 1) (rI ds 2))])}
theorem oV:Ee Tryz.prog 55 nK:=by
 refine nQ JH Tryz.func55 fun ds (hw:kc ([.i,.i,.i]) ds) _=> ?_
 obtain⟨n,ds,rfl,_,hw⟩:=oc hw
 obtain⟨low,ds,rfl,_,hw⟩:=oc hw
 obtain⟨high,rfl,_⟩:=nz hw
 exact⟨0,eT (nc4 (fun r0=>((true,[.bool r0]):kL)) n low high)⟩
theorem pG:Ee Tryz.prog 37 nK:=by
 refine nQ JH Tryz.func37 fun ds (hw:kc ([.i,.i,.i]) ds) _=> ?_
 obtain⟨x,ds,rfl,_,hw⟩:=oc hw
 obtain⟨least,ds,rfl,_,hw⟩:=oc hw
 obtain⟨most,rfl,_⟩:=nz hw
 exact⟨0,eT (nc4 (fun r0=>((true,[.bool r0]):kL)) x least most)⟩
def vw:Sum:= {ps:=[⟨nF.ct,true⟩],rs:=[⟨[.d_ .bool],false⟩],fn:=fun ds=>(true,[.bool (vI (nF.nd ds 0))])}
def naw:Ctx:=[(55,nK)]
theorem nmH:bH Tryz.prog naw:=Il oV JH
def nav:List (Nat×lC):=[(2, {cb:=[(1,.mL),(6,.mL),(7,.mL),(8,.mL)],boxes:=[(64,[])]})]
def nax:Bool→kL:=(fun r0=>((true,[.bool r0]):kL))
def nkh (x:Rows) (oy oN ui:Int) (wW:Bool) (tw:Rows):St:= {n:=40,sl:=[(1,.ptr 64 0),(6,.sl [.i] x),(7,.int .i64 oy),(8,.int .i64 oN)],hp:=[(64,.box 64 [.int .i64 ui,.bool wW,.sl [.i] tw])],ok:=true,ls:=[],lm:=[]}
theorem nmG:Ee Tryz.prog 116 vw:=by
 refine qD (A:=nav) nmH Tryz.func116 fun ds (hw:kc (nF.ct++[]) ds) _=> ?_
 obtain⟨f,ds,rfl,h_f,hw⟩:=nF.nB (r:=_) hw
 obtain rfl:=nw hw
 obtain⟨N,hN⟩:=nmF Vm.ke nax f h_f
 exact⟨N,eL (fun l_=>Sl Vm.ke nax l_ f) (funext fun x=>funext fun oy=>funext fun ui=>funext fun tw=>nL1 (LX Tryz.prog naw nav N Tryz.f116 vw [true,false,true,false] []) (fun oN=>nkh x oy oN ui f.oH tw) _ N) hN⟩
def nbY:Ctx:=[(37,nK)]
theorem nox:bH Tryz.prog nbY:=Il pG JH
def nbX:List (Nat×lC):=[(2, {cb:=[(1,.mL),(3,.mL)],boxes:=[(64,[])]})]
def nbZ:Bool→kL:=(fun r0=>((true,[.bool r0]):kL))
def nlQ (k ui:Int) (wW:Bool) (tw:Rows):St:= {n:=45,sl:=[(1,.ptr 64 0),(3,.int .i64 k)],hp:=[(64,.box 64 [.int .i64 ui,.bool wW,.sl [.i] tw])],ok:=true,ls:=[],lm:=[]}
theorem nov:Ee Tryz.prog 137 vw:=by
 refine qD (A:=nbX) nox Tryz.func137 fun ds (hw:kc (nF.ct++[]) ds) _=> ?_
 obtain⟨f,ds,rfl,h_f,hw⟩:=nF.nB (r:=_) hw
 obtain rfl:=nw hw
 obtain⟨N,hN⟩:=nou Vm.ke nbZ f h_f
 exact⟨N,eL (fun l_=>SK Vm.ke nbZ l_ f) (funext fun ui=>funext fun tw=>nL1 (LX Tryz.prog nbY nbX N Tryz.f137 vw [true,false,true,false] []) (fun k=>nlQ k ui f.oH tw) _ N) hN⟩
def uR:Sum:= {ps:=[⟨nA.ct,true⟩],rs:=[⟨[.d_ .bool],false⟩],fn:=fun ds=>(true,[.bool (sn (nA.nd ds 0))])}
theorem Yl:Ee Tryz.prog 300 uR:=by
 refine nQ (Γ:=[(55,nK)]) (Il oV JH) Tryz.func300 fun ds (hw:kc (nA.ct++[]) ds) _=> ?_
 obtain⟨g,ds,rfl,_,hw⟩:=nA.nB (r:=_) hw
 obtain rfl:=nw hw
 exact⟨0,eT (nko (fun r0=>((true,[.bool r0]):kL)) g)⟩
theorem ZP:Ee Tryz.prog 289 uR:=by
 refine nQ (Γ:=[(37,nK)]) (Il pG JH) Tryz.func289 fun ds (hw:kc (nA.ct++[]) ds) _=> ?_
 obtain⟨g,ds,rfl,_,hw⟩:=nA.nB (r:=_) hw
 obtain rfl:=nw hw
 exact⟨0,eT (nlX (fun r0=>((true,[.bool r0]):kL)) g)⟩
def Yo:Sum:= {ps:=[⟨[.i],false⟩],rs:=[⟨[.d_ .bool],false⟩],fn:=fun ds=>(true,[.bool (TY (rI ds 0))])}
theorem nkx:Ee Tryz.prog 301 Yo:=by
 refine nQ JH Tryz.func301 fun ds (hw:kc ([.i]) ds) _=> ?_
 obtain⟨flags,rfl,_⟩:=nz hw
 exact⟨0,eT (nkw (fun r0=>((true,[.bool r0]):kL)) flags)⟩
def tW:Sum:= {ps:=[⟨nC.ct,true⟩],rs:=[⟨[.d_ .bool],false⟩],fn:=fun ds=>(true,[.bool (yU (nC.nd ds 0))])}
theorem Uq:Ee Tryz.prog 209 tW:=by
 refine nQ (Γ:=[(55,nK),(300,uR),(301,Yo)]) (Il oV (Il Yl (Il nkx JH))) Tryz.func209 fun ds (hw:kc (nC.ct++[]) ds) _=> ?_
 obtain⟨p,ds,rfl,_,hw⟩:=nC.nB (r:=_) hw
 obtain rfl:=nw hw
 exact⟨0,eT (npC (fun r0=>((true,[.bool r0]):kL)) p)⟩
theorem VU:Ee Tryz.prog 195 tW:=by
 refine nQ (Γ:=[(37,nK),(289,uR)]) (Il pG (Il ZP JH)) Tryz.func195 fun ds (hw:kc (nC.ct++[]) ds) _=> ?_
 obtain⟨p,ds,rfl,_,hw⟩:=nC.nB (r:=_) hw
 obtain rfl:=nw hw
 exact⟨0,eT (nq8 (fun r0=>((true,[.bool r0]):kL)) p)⟩
def xc:Sum:= {ps:=[⟨[.sl [.i,.i,.i,.bool]],false⟩,⟨[.i],false⟩,⟨[.i],false⟩],rs:=[⟨[.d_ .i],false⟩],fn:=fun ds=>(true,[.int (tq (rR ds 0) (rI ds 1) (rI ds 2))])}
def UE:List (Nat×lC):=[(2, {cb:=[(1,.mL),(2,.mL),(9,.mL),(10,.mL),(11,.mL)],boxes:=[]})]
def UF:Int→kL:=(fun r0=>((true,[.int r0]):kL))
def ne9 (domain pc:Int) (na:Rows) (oy oN:Int):St:= {n:=28,sl:=[(1,.int .i64 domain),(2,.int .i64 pc),(9,.sl [.i,.i,.i,.bool] na),(10,.int .i64 oy),(11,.int .i64 oN)],hp:=[],ok:=true,ls:=[],lm:=[]}
theorem UH:Ee Tryz.prog 234 xc:=by
 refine qD (A:=UE) JH Tryz.func234 fun ds (hw:kc ([.sl [.i,.i,.i,.bool],.i,.i]) ds) _=> ?_
 obtain⟨na,ds,rfl,pP,hw⟩:=oq hw
 obtain⟨domain,ds,rfl,_,hw⟩:=oc hw
 obtain⟨pc,rfl,_⟩:=nz hw
 obtain⟨N,hN⟩:=ngZ Vm.ke UF na domain pc pP
 exact⟨N,eL (fun l_=>N9 Vm.ke UF l_ na domain pc) (funext fun oy=>nL1 (LX Tryz.prog [] UE N Tryz.f234 xc [true,false,true,false] []) (ne9 domain pc na oy) _ N) hN⟩
def rv:Sum:= {ps:=[⟨[.sl [.i,.i,.i,.bool]],false⟩],rs:=[⟨[.d_ .bool],false⟩],fn:=fun ds=>(true,[.bool (pD (rR ds 0))])}
def Wp:Ctx:=[(55,nK),(234,xc)]
theorem niq:bH Tryz.prog Wp:=Il oV (Il UH JH)
def Wo:List (Nat×lC):=[(2, {cb:=[(0,.mL),(5,.mL),(6,.mL),(7,.mL)],boxes:=[]})]
def Wq:Bool→kL:=(fun r0=>((true,[.bool r0]):kL))
def ngI (na x:Rows) (oy oN:Int):St:= {n:=42,sl:=[(0,.sl [.i,.i,.i,.bool] na),(5,.sl [.i,.i,.i,.bool] x),(6,.int .i64 oy),(7,.int .i64 oN)],hp:=[],ok:=true,ls:=[],lm:=[]}
theorem Ws:Ee Tryz.prog 114 rv:=by
 refine qD (A:=Wo) niq Tryz.func114 fun ds (hw:kc ([.sl [.i,.i,.i,.bool]]) ds) _=> ?_
 obtain⟨na,rfl,pP⟩:=pS hw
 obtain⟨N,hN⟩:=nip Vm.ke Wq na pP
 exact⟨N,eL (fun l_=>OX Vm.ke Wq l_ na) (funext fun x=>funext fun oy=>nL1 (LX Tryz.prog Wp Wo N Tryz.f114 rv [true,false,true,false] []) (ngI na x oy) _ N) hN⟩
def PB:Ctx:=[(37,nK)]
theorem njV:bH Tryz.prog PB:=Il pG JH
def PA:List (Nat×lC):=[(4, {cb:=[(0,.mL),(3,.mL)],boxes:=[]}),(10, {cb:=[(0,.mL),(3,.mL),(4,.mL),(5,.mL)],boxes:=[(256,[])]})]
def vX:Bool→kL:=(fun r0=>((true,[.bool r0]):kL))
def vg (na:Rows) (k:Int):St:= {n:=58,sl:=[(0,.sl [.i,.i,.i,.bool] na),(3,.int .i64 k)],hp:=[],ok:=true,ls:=[],lm:=[]}
def xo (na:Rows) (k i x oy oN:Int) (x_3:Bool):St:= {n:=58,sl:=[(0,.sl [.i,.i,.i,.bool] na),(3,.int .i64 k),(4,.ptr 256 0),(5,.int .i64 i)],hp:=[(256,.box 222 [.int .i64 x,.int .i64 oy,.int .i64 oN,.bool x_3])],ok:=true,ls:=[],lm:=[]}
noncomputable def xn (N:Nat) (o0:St→kL):(St→kL)→St→kL:=LX Tryz.prog PB PA N Tryz.f135 rv [true,true,false,true,false,false,true,false,false,true,true,true,false] [o0]
noncomputable def xm (N:Nat):(St→kL)→St→kL:=LX Tryz.prog PB PA N Tryz.f135 rv [true,true,false,true,false] []
theorem nhI (N:Nat) (o0:St→kL) (na:Rows) (k x oy oN:Int) (x_3:Bool) (ih:St→kL) (i:Int):xn N o0 ih (xo na k i x oy oN x_3)=vf Vm.ke vX (fun k=>o0 (vg na k)) na k x oy (fun i=>ih (xo na k i x oy oN x_3)) i:=by kernel_rfl
theorem nhK (N:Nat) (o0:St→kL) (na:Rows) (k x oy oN:Int) (x_3:Bool) (m_:Nat):(fun i=>LY (xn N o0) m_ (xo na k i x oy oN x_3))=re Vm.ke vX N (fun k=>o0 (vg na k)) na k x oy m_:=by
 induction m_ with
 | zero=>rfl
 | succ m_ ih=>
  funext i
  refine (nhI N o0 na k x oy oN x_3 (LY (xn N o0) m_) i).trans ?_
  rw[ih]
  rfl
theorem nhH (N:Nat) (na:Rows) (ih:St→kL) (k:Int):xm N ih (vg na k)=ve Vm.ke vX (fun k x oy i=>LY (xn N ih) N (xo na k i x oy (rI (nth na (Int.toNat k)) 2) (rB (nth na (Int.toNat k)) 3))) na (fun k=>ih (vg na k)) k:=by kernel_rfl
theorem nhJ (N:Nat) (na:Rows) (m_:Nat):(fun k=>LY (xm N) m_ (vg na k))=tJ Vm.ke vX N na m_:=by
 induction m_ with
 | zero=>rfl
 | succ m_ ih=>
  funext k
  refine (nhH N na (LY (xm N) m_) k).trans ?_
  have e1:=funext fun k=>funext fun x=>funext fun oy=>nhK N (LY (xm N) m_) na k x oy (rI (nth na (Int.toNat k)) 2) (rB (nth na (Int.toNat k)) 3) N
  rw[e1]
  rw[ih]
  rfl
theorem Xp:Ee Tryz.prog 135 rv:=by
 refine qD (A:=PA) njV Tryz.func135 fun ds (hw:kc ([.sl [.i,.i,.i,.bool]]) ds) _=> ?_
 obtain⟨na,rfl,pP⟩:=pS hw
 obtain⟨N,hN⟩:=njU Vm.ke vX na pP
 refine⟨N,Eq.trans ?_ (hN.trans (by kernel_rfl))⟩
 unfold PC
 rw[←nhJ N na N]
 kernel_rfl
def N8:Sum:= {ps:=[⟨[.sl [.str]],false⟩],rs:=[⟨[.own 9 [.str]],false⟩],fn:=fun ds=>(sm (rR ds 0),[.sl (oD (rR ds 0))])}
theorem UC:Ee Tryz.prog 167 N8:=by
 refine nQ JH Tryz.func167 fun ds (hw:kc ([.sl [.str]]) ds) aJ=> ?_
 obtain⟨l,rfl,_⟩:=pS hw
 exact⟨0,eT (ngY Vm.ke (fun r0=>((true,[.sl r0]):kL)) l aJ)⟩
def sW:Sum:= {ps:=[⟨nc.ct,true⟩],rs:=[⟨[.own 9 [.str]],true⟩],fn:=fun ds=>(vW (nc.nd ds 0),nc.enc (oD (nc.nd ds 0)))}
theorem ug:Ee Tryz.prog 160 sW:=by
 refine nQ (Γ:=[(167,N8)]) (Il UC JH) Tryz.func160 fun ds (hw:kc (nc.ct++[]) ds) aJ=> ?_
 obtain⟨m,ds,rfl,_,hw⟩:=nc.nB (r:=_) hw
 obtain rfl:=nw hw
 exact⟨0,eT (niB Vm.ke (fun r0=>((true,nc.enc r0):kL)) m aJ)⟩
def rX:Sum:= {ps:=[⟨nc.ct,true⟩],rs:=[⟨[.d_ .bool],false⟩],fn:=fun ds=>(true,[.bool (qb (nc.nd ds 0))])}
def naF:List (Nat×lC):=[(2, {cb:=[(1,.mL),(6,.mL),(7,.mL),(8,.mL)],boxes:=[(64,[])]})]
def naG:Bool→kL:=(fun r0=>((true,[.bool r0]):kL))
def nkj (x:Rows) (oy oN:Int) (rz:Rows):St:= {n:=20,sl:=[(1,.ptr 64 0),(6,.sl [.str] x),(7,.int .i64 oy),(8,.int .i64 oN)],hp:=[(64,.box 54 [.sl [.str] rz])],ok:=true,ls:=[],lm:=[]}
theorem Sn:Ee Tryz.prog 113 rX:=by
 refine qD (A:=naF) JH Tryz.func113 fun ds (hw:kc (nc.ct++[]) ds) _=> ?_
 obtain⟨m,ds,rfl,T6,hw⟩:=nc.nB (r:=_) hw
 obtain rfl:=nw hw
 obtain⟨N,hN⟩:=nmM Vm.ke naG m T6
 exact⟨N,eL (fun l_=>So Vm.ke naG l_ m) (funext fun x=>funext fun oy=>funext fun rz=>nL1 (LX Tryz.prog [] naF N Tryz.f113 rX [true,false,true,false] []) (fun oN=>nkj x oy oN rz) _ N) hN⟩
def nb4:List (Nat×lC):=[(2, {cb:=[(1,.mL),(3,.mL)],boxes:=[(64,[])]})]
def nb5:Bool→kL:=(fun r0=>((true,[.bool r0]):kL))
def nlS (k:Int) (rz:Rows):St:= {n:=22,sl:=[(1,.ptr 64 0),(3,.int .i64 k)],hp:=[(64,.box 54 [.sl [.str] rz])],ok:=true,ls:=[],lm:=[]}
theorem SM:Ee Tryz.prog 134 rX:=by
 refine qD (A:=nb4) JH Tryz.func134 fun ds (hw:kc (nc.ct++[]) ds) _=> ?_
 obtain⟨m,ds,rfl,T6,hw⟩:=nc.nB (r:=_) hw
 obtain rfl:=nw hw
 obtain⟨N,hN⟩:=noB Vm.ke nb5 m T6
 exact⟨N,eL (fun l_=>SN Vm.ke nb5 l_ m) (funext fun rz=>nL1 (LX Tryz.prog [] nb4 N Tryz.f134 rX [true,false,true,false] []) (fun k=>nlS k rz) _ N) hN⟩
def te:Sum:= {ps:=[⟨[.i],false⟩],rs:=[⟨[.d_ .bool],false⟩],fn:=fun ds=>(true,[.bool (uc (rI ds 0))])}
theorem Sw:Ee Tryz.prog 327 te:=by
 refine nQ JH Tryz.func327 fun ds (hw:kc ([.i]) ds) _=> ?_
 obtain⟨n,rfl,_⟩:=nz hw
 exact⟨0,eT (na_ (fun r0=>((true,[.bool r0]):kL)) n)⟩
theorem V4:Ee Tryz.prog 337 te:=by
 refine nQ JH Tryz.func337 fun ds (hw:kc ([.i]) ds) _=> ?_
 obtain⟨n,rfl,_⟩:=nz hw
 exact⟨0,eT (na_ (fun r0=>((true,[.bool r0]):kL)) n)⟩
def zf:Sum:= {ps:=[⟨[.i],false⟩],rs:=[⟨[.d_ .bool],false⟩],fn:=fun ds=>(true,[.bool (ZT (rI ds 0))])}
theorem nky:Ee Tryz.prog 331 zf:=by
 refine nQ JH Tryz.func331 fun ds (hw:kc ([.i]) ds) _=> ?_
 obtain⟨n,rfl,_⟩:=nz hw
 exact⟨0,eT (Yq (fun r0=>((true,[.bool r0]):kL)) n)⟩
theorem nrb:Ee Tryz.prog 340 zf:=by
 refine nQ JH Tryz.func340 fun ds (hw:kc ([.i]) ds) _=> ?_
 obtain⟨n,rfl,_⟩:=nz hw
 exact⟨0,eT (Yq (fun r0=>((true,[.bool r0]):kL)) n)⟩
def RE:Sum:= {ps:=[⟨[.i],false⟩,⟨[.i],false⟩],rs:=[⟨[.d_ .i],false⟩],fn:=fun ds=>(xK (rI ds 0) (rI ds 1),[.int (SG (rI ds 0) (rI ds 1))])}
theorem XE:Ee Tryz.prog 218 RE:=by
 refine nQ JH Tryz.func218 fun ds (hw:kc ([.i,.i]) ds) aJ=> ?_
 obtain⟨x,ds,rfl,_,hw⟩:=oc hw
 obtain⟨n,rfl,_⟩:=nz hw
 exact⟨0,eT (nrU Vm.ke (fun r0=>((true,[.int r0]):kL)) x n aJ)⟩
def vy:Sum:= {ps:=[⟨nE.ct,true⟩],rs:=[⟨[.d_ .i],false⟩],fn:=fun ds=>(true,[.int (yw (nE.nd ds 0))])}
theorem naM:Ee Tryz.prog 328 vy:=by
 refine nQ (Γ:=[(218,RE),(327,te)]) (Il XE (Il Sw JH)) Tryz.func328 fun ds (hw:kc (nE.ct++[]) ds) _=> ?_
 obtain⟨r,ds,rfl,h_r,hw⟩:=nE.nB (r:=_) hw
 obtain rfl:=nw hw
 exact⟨0,eT (nmR Vm.ke (fun r0=>((true,[.int r0]):kL)) r h_r)⟩
theorem nb_:Ee Tryz.prog 338 vy:=by
 refine nQ (Γ:=[(337,te)]) (Il V4 JH) Tryz.func338 fun ds (hw:kc (nE.ct++[]) ds) _=> ?_
 obtain⟨r,ds,rfl,_,hw⟩:=nE.nB (r:=_) hw
 obtain rfl:=nw hw
 exact⟨0,eT (noF (fun r0=>((true,[.int r0]):kL)) r)⟩
def rY:Sum:= {ps:=[⟨nE.ct,true⟩],rs:=[⟨[.d_ .bool],false⟩],fn:=fun ds=>(true,[.bool (sR (nE.nd ds 0))])}
theorem zX:Ee Tryz.prog 235 rY:=by
 refine nQ (Γ:=[(55,nK),(327,te),(328,vy)]) (Il oV (Il Sw (Il naM JH))) Tryz.func235 fun ds (hw:kc (nE.ct++[]) ds) _=> ?_
 obtain⟨r,ds,rfl,_,hw⟩:=nE.nB (r:=_) hw
 obtain rfl:=nw hw
 exact⟨0,eT (nfL (fun r0=>((true,[.bool r0]):kL)) r)⟩
theorem Nn:Ee Tryz.prog 250 rY:=by
 refine nQ (Γ:=[(37,nK),(337,te),(338,vy)]) (Il pG (Il V4 (Il nb_ JH))) Tryz.func250 fun ds (hw:kc (nE.ct++[]) ds) _=> ?_
 obtain⟨r,ds,rfl,_,hw⟩:=nE.nB (r:=_) hw
 obtain rfl:=nw hw
 exact⟨0,eT (nfL (fun r0=>((true,[.bool r0]):kL)) r)⟩
def wG:Sum:= {ps:=[⟨nf.ct,true⟩],rs:=[⟨[.d_ .bool],false⟩],fn:=fun ds=>(true,[.bool (vK (nf.nd ds 0))])}
theorem ncV:Ee Tryz.prog 237 wG:=by
 refine nQ (Γ:=[(55,nK),(327,te)]) (Il oV (Il Sw JH)) Tryz.func237 fun ds (hw:kc (nf.ct++[]) ds) _=> ?_
 obtain⟨q,ds,rfl,_,hw⟩:=nf.nB (r:=_) hw
 obtain rfl:=nw hw
 exact⟨0,eT (ncU (fun r0=>((true,[.bool r0]):kL)) q)⟩
theorem nd6:Ee Tryz.prog 254 wG:=by
 refine nQ (Γ:=[(37,nK),(337,te)]) (Il pG (Il V4 JH)) Tryz.func254 fun ds (hw:kc (nf.ct++[]) ds) _=> ?_
 obtain⟨q,ds,rfl,_,hw⟩:=nf.nB (r:=_) hw
 obtain rfl:=nw hw
 exact⟨0,eT (ncU (fun r0=>((true,[.bool r0]):kL)) q)⟩
def Qf:Sum:= {ps:=[⟨nx.ct,true⟩],rs:=[⟨[.d_ .bool],false⟩],fn:=fun ds=>(true,[.bool (due (nx.nd ds 0))])}
theorem npK:Ee Tryz.prog 238 Qf:=by
 refine nQ JH Tryz.func238 fun ds (hw:kc (nx.ct++[]) ds) _=> ?_
 obtain⟨v,ds,rfl,_,hw⟩:=nx.nB (r:=_) hw
 obtain rfl:=nw hw
 exact⟨0,eT (npJ (fun r0=>((true,[.bool r0]):kL)) v)⟩
theorem ngz:Ee Tryz.prog 255 Qf:=by
 refine nQ JH Tryz.func255 fun ds (hw:kc (nx.ct++[]) ds) _=> ?_
 obtain⟨v,ds,rfl,_,hw⟩:=nx.nB (r:=_) hw
 obtain rfl:=nw hw
 exact⟨0,eT (npJ (fun r0=>((true,[.bool r0]):kL)) v)⟩
def tc:Sum:= {ps:=[⟨nx.ct,true⟩],rs:=[⟨[.d_ .bool],false⟩],fn:=fun ds=>(true,[.bool (tA (nx.nd ds 0))])}
theorem Sr:Ee Tryz.prog 119 tc:=by
 refine nQ (Γ:=[(55,nK),(238,Qf)]) (Il oV (Il npK JH)) Tryz.func119 fun ds (hw:kc (nx.ct++[]) ds) _=> ?_
 obtain⟨v,ds,rfl,_,hw⟩:=nx.nB (r:=_) hw
 obtain rfl:=nw hw
 exact⟨0,eT (naW (fun r0=>((true,[.bool r0]):kL)) v)⟩
theorem SS:Ee Tryz.prog 141 tc:=by
 refine nQ (Γ:=[(37,nK),(255,Qf)]) (Il pG (Il ngz JH)) Tryz.func141 fun ds (hw:kc (nx.ct++[]) ds) _=> ?_
 obtain⟨v,ds,rfl,_,hw⟩:=nx.nB (r:=_) hw
 obtain rfl:=nw hw
 exact⟨0,eT (naW (fun r0=>((true,[.bool r0]):kL)) v)⟩
def Ou:Sum:= {ps:=[⟨nr.ct,true⟩],rs:=[⟨[.d_ .bool],false⟩],fn:=fun ds=>(true,[.bool (X6 (nr.nd ds 0))])}
theorem nmf:Ee Tryz.prog 117 Ou:=by
 refine nQ (Γ:=[(55,nK),(209,tW),(235,rY),(237,wG)]) (Il oV (Il Uq (Il zX (Il ncV JH)))) Tryz.func117 fun ds (hw:kc (nr.ct++[]) ds) _=> ?_
 obtain⟨q,ds,rfl,_,hw⟩:=nr.nB (r:=_) hw
 obtain rfl:=nw hw
 exact⟨0,eT (nme (fun r0=>((true,[.bool r0]):kL)) q)⟩
theorem nmq:Ee Tryz.prog 139 Ou:=by
 refine nQ (Γ:=[(37,nK),(195,tW),(250,rY),(254,wG)]) (Il pG (Il VU (Il Nn (Il nd6 JH)))) Tryz.func139 fun ds (hw:kc (nr.ct++[]) ds) _=> ?_
 obtain⟨q,ds,rfl,_,hw⟩:=nr.nB (r:=_) hw
 obtain rfl:=nw hw
 exact⟨0,eT (nme (fun r0=>((true,[.bool r0]):kL)) q)⟩
def Ry:Sum:= {ps:=[⟨pN.ct,true⟩],rs:=[⟨[.d_ .bool],false⟩],fn:=fun ds=>(true,[.bool (Qa (pN.nd ds 0))])}
theorem nrQ:Ee Tryz.prog 329 Ry:=by
 refine nQ (Γ:=[(55,nK)]) (Il oV JH) Tryz.func329 fun ds (hw:kc (pN.ct++[]) ds) _=> ?_
 obtain⟨r,ds,rfl,_,hw⟩:=pN.nB (r:=_) hw
 obtain rfl:=nw hw
 exact⟨0,eT (nfM (fun r0=>((true,[.bool r0]):kL)) r)⟩
theorem nsI:Ee Tryz.prog 339 Ry:=by
 refine nQ (Γ:=[(37,nK)]) (Il pG JH) Tryz.func339 fun ds (hw:kc (pN.ct++[]) ds) _=> ?_
 obtain⟨r,ds,rfl,_,hw⟩:=pN.nB (r:=_) hw
 obtain rfl:=nw hw
 exact⟨0,eT (nfM (fun r0=>((true,[.bool r0]):kL)) r)⟩
def wH:Sum:= {ps:=[⟨[.sl [.i,.i,.i,.i,.i,.i,.i,.i,.i]],false⟩],rs:=[⟨[.d_ .bool],false⟩],fn:=fun ds=>(true,[.bool (TB (rR ds 0))])}
def ncY:Ctx:=[(329,Ry)]
theorem npB:bH Tryz.prog ncY:=Il nrQ JH
def ncX:List (Nat×lC):=[(2, {cb:=[(0,.mL),(5,.mL),(6,.mL),(7,.mL)],boxes:=[]})]
def ncZ:Bool→kL:=(fun r0=>((true,[.bool r0]):kL))
def nmS (na x:Rows) (oy oN:Int):St:= {n:=18,sl:=[(0,.sl [.i,.i,.i,.i,.i,.i,.i,.i,.i] na),(5,.sl [.i,.i,.i,.i,.i,.i,.i,.i,.i] x),(6,.int .i64 oy),(7,.int .i64 oN)],hp:=[],ok:=true,ls:=[],lm:=[]}
theorem npA:Ee Tryz.prog 239 wH:=by
 refine qD (A:=ncX) npB Tryz.func239 fun ds (hw:kc ([.sl [.i,.i,.i,.i,.i,.i,.i,.i,.i]]) ds) _=> ?_
 obtain⟨na,rfl,pP⟩:=pS hw
 obtain⟨N,hN⟩:=npz Vm.ke ncZ na pP
 exact⟨N,eL (fun l_=>Uj Vm.ke ncZ l_ na) (funext fun x=>funext fun oy=>nL1 (LX Tryz.prog ncY ncX N Tryz.f239 wH [true,false,true,false] []) (nmS na x oy) _ N) hN⟩
def nd9:Ctx:=[(339,Ry)]
theorem nq7:bH Tryz.prog nd9:=Il nsI JH
def nd8:List (Nat×lC):=[(2, {cb:=[(0,.mL),(3,.mL)],boxes:=[]})]
def nd_:Bool→kL:=(fun r0=>((true,[.bool r0]):kL))
def noG (na:Rows) (k:Int):St:= {n:=19,sl:=[(0,.sl [.i,.i,.i,.i,.i,.i,.i,.i,.i] na),(3,.int .i64 k)],hp:=[],ok:=true,ls:=[],lm:=[]}
theorem nq6:Ee Tryz.prog 251 wH:=by
 refine qD (A:=nd8) nq7 Tryz.func251 fun ds (hw:kc ([.sl [.i,.i,.i,.i,.i,.i,.i,.i,.i]]) ds) _=> ?_
 obtain⟨na,rfl,pP⟩:=pS hw
 obtain⟨N,hN⟩:=nq5 Vm.ke nd_ na pP
 exact⟨N,eL (fun l_=>VN Vm.ke nd_ l_ na) (nL1 (LX Tryz.prog nd9 nd8 N Tryz.f251 wH [true,false,true,false] []) (noG na) _ N) hN⟩
def uo:Sum:= {ps:=[⟨[.sl [.i]],false⟩],rs:=[⟨[.own 3 [.i]],false⟩],fn:=fun ds=>(sm (rR ds 0),[.sl (oD (rR ds 0))])}
theorem vD:Ee Tryz.prog 168 uo:=by
 refine nQ JH Tryz.func168 fun ds (hw:kc ([.sl [.i]]) ds) aJ=> ?_
 obtain⟨l,rfl,_⟩:=pS hw
 exact⟨0,eT (nm6 Vm.ke (fun r0=>((true,[.sl r0]):kL)) l aJ)⟩
def qV:Sum:= {ps:=[⟨nj.ct,true⟩],rs:=[⟨[.d_ .i,.d_ .i,.d_ .i,.own 3 [.i]],true⟩],fn:=fun ds=>(we (nj.nd ds 0),nj.enc (oD (nj.nd ds 0)))}
theorem xz:Ee Tryz.prog 163 qV:=by
 refine nQ (Γ:=[(168,uo)]) (Il vD JH) Tryz.func163 fun ds (hw:kc (nj.ct++[]) ds) aJ=> ?_
 obtain⟨p,ds,rfl,_,hw⟩:=nj.nB (r:=_) hw
 obtain rfl:=nw hw
 exact⟨0,eT (nm7 Vm.ke (fun r0=>((true,nj.enc r0):kL)) p aJ)⟩
theorem yP:Ee Tryz.prog 131 qV:=by
 refine nQ JH Tryz.func131 fun ds (hw:kc (nj.ct++[]) ds) aJ=> ?_
 obtain⟨p,ds,rfl,_,hw⟩:=nj.nB (r:=_) hw
 obtain rfl:=nw hw
 exact⟨0,eT (nrn Vm.ke (fun r0=>((true,nj.enc r0):kL)) p aJ)⟩
def qB:Sum:= {ps:=[⟨nj.ct,true⟩],rs:=[⟨[.d_ .bool],false⟩],fn:=fun ds=>(true,[.bool (qP (nj.nd ds 0))])}
def nfI:Ctx:=[(55,nK)]
theorem nrP:bH Tryz.prog nfI:=Il oV JH
def nfH:List (Nat×lC):=[(5, {cb:=[(1,.mL),(3,.mL),(26,.mL),(27,.mL),(28,.mL)],boxes:=[(64,[])]})]
def nfJ:Bool→kL:=(fun r0=>((true,[.bool r0]):kL))
def npw (x:Rows) (oy oN p_1 p_2 Pq:Int) (PL seen:Rows):St:= {n:=48,sl:=[(1,.ptr 64 0),(3,.own 640192),(26,.sl [.i] x),(27,.int .i64 oy),(28,.int .i64 oN)],hp:=[(64,.box 57 [.int .i64 p_1,.int .i64 p_2,.int .i64 Pq,.sl [.i] PL]),(640192,.row 4 [.bool] seen false true)],ok:=true,ls:=[],lm:=[]}
theorem xG:Ee Tryz.prog 118 qB:=by
 refine qD (A:=nfH) nrP Tryz.func118 fun ds (hw:kc (nj.ct++[]) ds) _=> ?_
 obtain⟨p,ds,rfl,h_p,hw⟩:=nj.nB (r:=_) hw
 obtain rfl:=nw hw
 obtain⟨N,hN⟩:=nrO Vm.ke nfJ p h_p
 exact⟨N,eL (fun l_=>XC Vm.ke nfJ l_ p) (funext fun x=>funext fun oy=>funext fun Pq=>X2 (LX Tryz.prog nfI nfH N Tryz.f118 qB [true,true,true,false,true,false] []) (fun oN seen=>npw x oy oN p.oA p.nG Pq p.oe seen) _ N) hN⟩
def ngw:Ctx:=[(37,nK)]
theorem nsH:bH Tryz.prog ngw:=Il pG JH
def ngv:List (Nat×lC):=[(5, {cb:=[(1,.mL),(3,.mL),(4,.mL)],boxes:=[(64,[])]})]
def ngx:Bool→kL:=(fun r0=>((true,[.bool r0]):kL))
def nq2 (k p_1 p_2 Pq:Int) (PL seen:Rows):St:= {n:=58,sl:=[(1,.ptr 64 0),(3,.own 640192),(4,.int .i64 k)],hp:=[(64,.box 57 [.int .i64 p_1,.int .i64 p_2,.int .i64 Pq,.sl [.i] PL]),(640192,.row 4 [.bool] seen false true)],ok:=true,ls:=[],lm:=[]}
theorem xM:Ee Tryz.prog 140 qB:=by
 refine qD (A:=ngv) nsH Tryz.func140 fun ds (hw:kc (nj.ct++[]) ds) _=> ?_
 obtain⟨p,ds,rfl,h_p,hw⟩:=nj.nB (r:=_) hw
 obtain rfl:=nw hw
 obtain⟨N,hN⟩:=nsG Vm.ke ngx p h_p
 exact⟨N,eL (fun l_=>X0 Vm.ke ngx l_ p) (funext fun Pq=>funext fun PL=>X2 (LX Tryz.prog ngw ngv N Tryz.f140 qB [true,true,true,false,true,false] []) (fun k seen=>nq2 k p.oA p.nG Pq PL seen) _ N) hN⟩
def tB:Sum:= {ps:=[⟨nj.ct,true⟩,⟨[.sl [.i]],false⟩],rs:=[⟨[.d_ .i,.d_ .i,.d_ .i,.own 3 [.i]],true⟩,⟨[.d_ .bool],false⟩],fn:=fun ds=>(OK (nj.nd ds 0) (rR ds 4),nj.enc (om (nj.nd ds 0) (rR ds 4)).1++[.bool (om (nj.nd ds 0) (rR ds 4)).2])}
theorem Ue:Ee Tryz.prog 236 tB:=by
 refine nQ (Γ:=[(118,qB),(163,qV)]) (Il xG (Il xz JH)) Tryz.func236 fun ds (hw:kc (nj.ct++[.sl [.i]]) ds) aJ=> ?_
 obtain⟨p,ds,rfl,_,hw⟩:=nj.nB (r:=_) hw
 obtain⟨na,rfl,_⟩:=pS hw
 exact⟨0,eT (Ud Vm.ke (fun r0 r1=>((true,nj.enc r0++[.bool r1]):kL)) p na aJ)⟩
theorem VG:Ee Tryz.prog 147 tB:=by
 refine nQ (Γ:=[(131,qV),(140,qB)]) (Il yP (Il xM JH)) Tryz.func147 fun ds (hw:kc (nj.ct++[.sl [.i]]) ds) aJ=> ?_
 obtain⟨p,ds,rfl,_,hw⟩:=nj.nB (r:=_) hw
 obtain⟨na,rfl,_⟩:=pS hw
 exact⟨0,eT (Ud Vm.ke (fun r0 r1=>((true,nj.enc r0++[.bool r1]):kL)) p na aJ)⟩
def WX:Sum:= {ps:=[⟨nc.ct,true⟩,⟨[.i],false⟩],rs:=[⟨[.d_ .i],false⟩],fn:=fun ds=>(Ni (nc.nd ds 0) (rI ds 1),[.int (xk (nc.nd ds 0) (rI ds 1)).1]++[.sl (xk (nc.nd ds 0) (rI ds 1)).2]),ms:=[some (.rows [.flat 9]),none]}
def njc:Ctx:=[(82,xe)]
theorem njf:bH Tryz.prog njc:=Il Vd JH
theorem nje:Cq Tryz.prog 72 WX:=by
 refine Oo (A:=[]) njf Tryz.func72 fun ds (hw:kc (nc.ct++[.i]) ds) aJ=> ?_
 obtain⟨a,ds,rfl,_,hw⟩:=nc.nB (r:=_) hw
 obtain⟨k,rfl,_⟩:=nz hw
 exact⟨0,eT (njd Vm.ke (fun r0 r1=>((true,[.int r0]++[.sl r1]):kL)) a k aJ)⟩
def WU:Sum:= {ps:=[⟨nc.ct,true⟩,⟨[.i],false⟩],rs:=[⟨[.d_ .i],false⟩],fn:=fun ds=>(zT (nc.nd ds 0) (rI ds 1),[.int (N3 (nc.nd ds 0) (rI ds 1))])}
theorem ni1:Ee Tryz.prog 84 WU:=by
 refine nQ (Γ:=[(94,xd)]) (Il U2 JH) Tryz.func84 fun ds (hw:kc (nc.ct++[.i]) ds) aJ=> ?_
 obtain⟨a,ds,rfl,_,hw⟩:=nc.nB (r:=_) hw
 obtain⟨k,rfl,_⟩:=nz hw
 exact⟨0,eT (ni0 Vm.ke (fun r0=>((true,[.int r0]):kL)) a k aJ)⟩
def nbx:Sum:= {ps:=[⟨nj.ct,true⟩,⟨[.i],false⟩],rs:=[⟨[.d_ .i],false⟩],fn:=fun ds=>(R5 (nj.nd ds 0) (rI ds 4),[.int (Pp (nj.nd ds 0) (rI ds 4)).1]++[.sl (Pp (nj.nd ds 0) (rI ds 4)).2]),ms:=[some (.rows [.flat 3]),none]}
def nnH:Ctx:=[(83,tg)]
theorem nnK:bH Tryz.prog nnH:=Il vF JH
theorem nnJ:Cq Tryz.prog 181 nbx:=by
 refine Oo (A:=[]) nnK Tryz.func181 fun ds (hw:kc (nj.ct++[.i]) ds) aJ=> ?_
 obtain⟨a,ds,rfl,_,hw⟩:=nj.nB (r:=_) hw
 obtain⟨k,rfl,_⟩:=nz hw
 exact⟨0,eT (nnI Vm.ke (fun r0 r1=>((true,[.int r0]++[.sl r1]):kL)) a k aJ)⟩
def nbs:Sum:= {ps:=[⟨nj.ct,true⟩,⟨[.i],false⟩],rs:=[⟨[.d_ .i],false⟩],fn:=fun ds=>(RO (nj.nd ds 0) (rI ds 4),[.int (T8 (nj.nd ds 0) (rI ds 4))])}
theorem nnB:Ee Tryz.prog 187 nbs:=by
 refine nQ (Γ:=[(95,tf)]) (Il vE JH) Tryz.func187 fun ds (hw:kc (nj.ct++[.i]) ds) aJ=> ?_
 obtain⟨a,ds,rfl,_,hw⟩:=nj.nB (r:=_) hw
 obtain⟨k,rfl,_⟩:=nz hw
 exact⟨0,eT (nnA Vm.ke (fun r0=>((true,[.int r0]):kL)) a k aJ)⟩
def WW:Sum:= {ps:=[⟨nF.ct,true⟩,⟨[.i],false⟩],rs:=[⟨[.d_ .i],false⟩],fn:=fun ds=>(Nh (nF.nd ds 0) (rI ds 3),[.int (Og (nF.nd ds 0) (rI ds 3)).1]++[.sl (Og (nF.nd ds 0) (rI ds 3)).2]),ms:=[some (.rows [.flat 3]),none]}
def ni9:Ctx:=[(83,tg)]
theorem njb:bH Tryz.prog ni9:=Il vF JH
theorem nja:Cq Tryz.prog 79 WW:=by
 refine Oo (A:=[]) njb Tryz.func79 fun ds (hw:kc (nF.ct++[.i]) ds) aJ=> ?_
 obtain⟨a,ds,rfl,_,hw⟩:=nF.nB (r:=_) hw
 obtain⟨k,rfl,_⟩:=nz hw
 exact⟨0,eT (ni_ Vm.ke (fun r0 r1=>((true,[.int r0]++[.sl r1]):kL)) a k aJ)⟩
def WT:Sum:= {ps:=[⟨nF.ct,true⟩,⟨[.i],false⟩],rs:=[⟨[.d_ .i],false⟩],fn:=fun ds=>(zR (nF.nd ds 0) (rI ds 3),[.int (T7 (nF.nd ds 0) (rI ds 3))])}
theorem niZ:Ee Tryz.prog 91 WT:=by
 refine nQ (Γ:=[(95,tf)]) (Il vE JH) Tryz.func91 fun ds (hw:kc (nF.ct++[.i]) ds) aJ=> ?_
 obtain⟨a,ds,rfl,_,hw⟩:=nF.nB (r:=_) hw
 obtain⟨k,rfl,_⟩:=nz hw
 exact⟨0,eT (niY Vm.ke (fun r0=>((true,[.int r0]):kL)) a k aJ)⟩
def R3:Sum:= {ps:=[⟨ni.ct,true⟩,⟨[.i],false⟩],rs:=[⟨[.d_ .i],false⟩],fn:=fun ds=>(wL (ni.nd ds 0) (rI ds 1),[.int (wc (ni.nd ds 0) (rI ds 1)).1]++[.sl (wc (ni.nd ds 0) (rI ds 1)).2]),ms:=[some (.rows [.flat 264]),none]}
def ndq:Ctx:=[(286,Qy)]
theorem ndt:bH Tryz.prog ndq:=Il nlc JH
theorem nds:Cq Tryz.prog 185 R3:=by
 refine Oo (A:=[]) ndt Tryz.func185 fun ds (hw:kc (ni.ct++[.i]) ds) aJ=> ?_
 obtain⟨a,ds,rfl,_,hw⟩:=ni.nB (r:=_) hw
 obtain⟨k,rfl,_⟩:=nz hw
 exact⟨0,eT (ndr Vm.ke (fun r0 r1=>((true,[.int r0]++[.sl r1]):kL)) a k aJ)⟩
def R2:Sum:= {ps:=[⟨ni.ct,true⟩,⟨[.i],false⟩],rs:=[⟨[.d_ .i],false⟩],fn:=fun ds=>(wE (ni.nd ds 0) (rI ds 1),[.int (zS (ni.nd ds 0) (rI ds 1))])}
theorem ndn:Ee Tryz.prog 190 R2:=by
 refine nQ (Γ:=[(287,Qq)]) (Il nk0 JH) Tryz.func190 fun ds (hw:kc (ni.ct++[.i]) ds) aJ=> ?_
 obtain⟨a,ds,rfl,_,hw⟩:=ni.nB (r:=_) hw
 obtain⟨k,rfl,_⟩:=nz hw
 exact⟨0,eT (ndm Vm.ke (fun r0=>((true,[.int r0]):kL)) a k aJ)⟩
def WY:Sum:= {ps:=[⟨nI.ct,true⟩,⟨[.i],false⟩],rs:=[⟨[.d_ .i],false⟩],fn:=fun ds=>(Nj (nI.nd ds 0) (rI ds 2),[.int (Oh (nI.nd ds 0) (rI ds 2)).1]++[.sl (Oh (nI.nd ds 0) (rI ds 2)).2]),ms:=[some (.rows [.flat 3]),none]}
def njk:Ctx:=[(83,tg)]
theorem njn:bH Tryz.prog njk:=Il vF JH
theorem njm:Cq Tryz.prog 186 WY:=by
 refine Oo (A:=[]) njn Tryz.func186 fun ds (hw:kc (nI.ct++[.i]) ds) aJ=> ?_
 obtain⟨a,ds,rfl,_,hw⟩:=nI.nB (r:=_) hw
 obtain⟨k,rfl,_⟩:=nz hw
 exact⟨0,eT (njl Vm.ke (fun r0 r1=>((true,[.int r0]++[.sl r1]):kL)) a k aJ)⟩
def WV:Sum:= {ps:=[⟨nI.ct,true⟩,⟨[.i],false⟩],rs:=[⟨[.d_ .i],false⟩],fn:=fun ds=>(zU (nI.nd ds 0) (rI ds 2),[.int (T9 (nI.nd ds 0) (rI ds 2))])}
theorem ni7:Ee Tryz.prog 191 WV:=by
 refine nQ (Γ:=[(95,tf)]) (Il vE JH) Tryz.func191 fun ds (hw:kc (nI.ct++[.i]) ds) aJ=> ?_
 obtain⟨a,ds,rfl,_,hw⟩:=nI.nB (r:=_) hw
 obtain⟨k,rfl,_⟩:=nz hw
 exact⟨0,eT (ni6 Vm.ke (fun r0=>((true,[.int r0]):kL)) a k aJ)⟩
def Vf:Sum:= {ps:=[⟨nv.ct,true⟩,⟨[.i],false⟩],rs:=[⟨[.d_ .i],false⟩],fn:=fun ds=>(yI (nv.nd ds 0) (rI ds 10),[.int (vV (nv.nd ds 0) (rI ds 10)).1]++[.sl (vV (nv.nd ds 0) (rI ds 10)).2.1]++[.sl (vV (nv.nd ds 0) (rI ds 10)).2.2]),ms:=[some (.rows [.flat 3,.deep 293 [3]]),none]}
def nhl:Ctx:=[(181,nbx),(182,Qw)]
theorem nho:bH Tryz.prog nhl:=Il nnJ (Il nk_ JH)
theorem nhn:Cq Tryz.prog 74 Vf:=by
 refine Oo (A:=[]) nho Tryz.func74 fun ds (hw:kc (nv.ct++[.i]) ds) aJ=> ?_
 obtain⟨a,ds,rfl,_,hw⟩:=nv.nB (r:=_) hw
 obtain⟨k,rfl,_⟩:=nz hw
 exact⟨0,eT (nhm Vm.ke (fun r0 r1 r2=>((true,[.int r0]++[.sl r1]++[.sl r2]):kL)) a k aJ)⟩
def U3:Sum:= {ps:=[⟨nv.ct,true⟩,⟨[.i],false⟩],rs:=[⟨[.d_ .i],false⟩],fn:=fun ds=>(yy (nv.nd ds 0) (rI ds 10),[.int (RQ (nv.nd ds 0) (rI ds 10))])}
theorem nhd:Ee Tryz.prog 86 U3:=by
 refine nQ (Γ:=[(187,nbs),(188,Qo)]) (Il nnB (Il nkX JH)) Tryz.func86 fun ds (hw:kc (nv.ct++[.i]) ds) aJ=> ?_
 obtain⟨a,ds,rfl,_,hw⟩:=nv.nB (r:=_) hw
 obtain⟨k,rfl,_⟩:=nz hw
 exact⟨0,eT (nhc Vm.ke (fun r0=>((true,[.int r0]):kL)) a k aJ)⟩
def To:Sum:= {ps:=[⟨nm.ct,true⟩,⟨[.i],false⟩],rs:=[⟨[.d_ .i],false⟩],fn:=fun ds=>(xE (nm.nd ds 0) (rI ds 4),[.int (sZ (nm.nd ds 0) (rI ds 4)).1]++[.sl (sZ (nm.nd ds 0) (rI ds 4)).2.1]++[.sl (sZ (nm.nd ds 0) (rI ds 4)).2.2.1]++[.sl (sZ (nm.nd ds 0) (rI ds 4)).2.2.2]),ms:=[some (.rows [.flat 260,.flat 264,.flat 3]),none]}
def nfo:Ctx:=[(184,Qv),(185,R3),(186,WY)]
theorem nfr:bH Tryz.prog nfo:=Il nk8 (Il nds (Il njm JH))
theorem nfq:Cq Tryz.prog 80 To:=by
 refine Oo (A:=[]) nfr Tryz.func80 fun ds (hw:kc (nm.ct++[.i]) ds) aJ=> ?_
 obtain⟨a,ds,rfl,_,hw⟩:=nm.nB (r:=_) hw
 obtain⟨k,rfl,_⟩:=nz hw
 exact⟨0,eT (nfp Vm.ke (fun r0 r1 r2 r3=>((true,[.int r0]++[.sl r1]++[.sl r2]++[.sl r3]):kL)) a k aJ)⟩
def Tf:Sum:= {ps:=[⟨nm.ct,true⟩,⟨[.i],false⟩],rs:=[⟨[.d_ .i],false⟩],fn:=fun ds=>(xu (nm.nd ds 0) (rI ds 4),[.int (OP (nm.nd ds 0) (rI ds 4))])}
theorem nff:Ee Tryz.prog 92 Tf:=by
 refine nQ (Γ:=[(189,Qn),(190,R2),(191,WV)]) (Il nkV (Il ndn (Il ni7 JH))) Tryz.func92 fun ds (hw:kc (nm.ct++[.i]) ds) aJ=> ?_
 obtain⟨a,ds,rfl,_,hw⟩:=nm.nB (r:=_) hw
 obtain⟨k,rfl,_⟩:=nz hw
 exact⟨0,eT (nfe Vm.ke (fun r0=>((true,[.int r0]):kL)) a k aJ)⟩
def nbt:Sum:= {ps:=[⟨nt.ct,true⟩,⟨[.i],false⟩],rs:=[⟨[.d_ .i],false⟩],fn:=fun ds=>(yH (nt.nd ds 0) (rI ds 33),[.int (pQ (nt.nd ds 0) (rI ds 33)).1]++[.sl (pQ (nt.nd ds 0) (rI ds 33)).2.1]++[.sl (pQ (nt.nd ds 0) (rI ds 33)).2.2.1]++[.sl (pQ (nt.nd ds 0) (rI ds 33)).2.2.2.1]++[.sl (pQ (nt.nd ds 0) (rI ds 33)).2.2.2.2.1]++[.sl (pQ (nt.nd ds 0) (rI ds 33)).2.2.2.2.2.1]++[.sl (pQ (nt.nd ds 0) (rI ds 33)).2.2.2.2.2.2.1]++[.sl (pQ (nt.nd ds 0) (rI ds 33)).2.2.2.2.2.2.2.1]++[.sl (pQ (nt.nd ds 0) (rI ds 33)).2.2.2.2.2.2.2.2.1]++[.sl (pQ (nt.nd ds 0) (rI ds 33)).2.2.2.2.2.2.2.2.2.1]++[.sl (pQ (nt.nd ds 0) (rI ds 33)).2.2.2.2.2.2.2.2.2.2.1]++[.sl (pQ (nt.nd ds 0) (rI ds 33)).2.2.2.2.2.2.2.2.2.2.2.1]++[.sl (pQ (nt.nd ds 0) (rI ds 33)).2.2.2.2.2.2.2.2.2.2.2.2.1]++[.sl (pQ (nt.nd ds 0) (rI ds 33)).2.2.2.2.2.2.2.2.2.2.2.2.2.1]++[.sl (pQ (nt.nd ds 0) (rI ds 33)).2.2.2.2.2.2.2.2.2.2.2.2.2.2.1]++[.sl (pQ (nt.nd ds 0) (rI ds 33)).2.2.2.2.2.2.2.2.2.2.2.2.2.2.2.1]++[.sl (pQ (nt.nd ds 0) (rI ds 33)).2.2.2.2.2.2.2.2.2.2.2.2.2.2.2.2]),ms:=[some (.rows [.flat 9,.flat 222,.flat 3,.deep 293 [3],.flat 104,.deep 57 [3],.flat 107,.flat 4,.flat 3,.flat 260,.flat 264,.flat 3,.flat 236,.flat 9,.flat 3,.flat 3]),none]}
def nnC:Ctx:=[(72,WX),(73,zO),(74,Vf),(75,zP),(76,Qt),(77,Oe),(78,Qr),(79,WW),(80,To),(81,Oc),(82,xe),(83,tg)]
theorem nnF:bH Tryz.prog nnC:=Il nje (Il nfk (Il nhn (Il nfm (Il nk5 (Il nhq (Il nk2 (Il nja (Il nfq (Il nhh (Il Vd (Il vF JH)))))))))))
theorem nnE:Cq Tryz.prog 12 nbt:=by
 refine Oo (A:=[]) nnF Tryz.func12 fun ds (hw:kc (nt.ct++[.i]) ds) aJ=> ?_
 obtain⟨a,ds,rfl,_,hw⟩:=nt.nB (r:=_) hw
 obtain⟨k,rfl,_⟩:=nz hw
 exact⟨0,eT (nnD Vm.ke (fun r0 r1 r2 r3 r4 r5 r6 r7 r8 r9 r10 r11 r12 r13 r14 r15 r16=>((true,[.int r0]++[.sl r1]++[.sl r2]++[.sl r3]++[.sl r4]++[.sl r5]++[.sl r6]++[.sl r7]++[.sl r8]++[.sl r9]++[.sl r10]++[.sl r11]++[.sl r12]++[.sl r13]++[.sl r14]++[.sl r15]++[.sl r16]):kL)) a k aJ)⟩
def nbo:Sum:= {ps:=[⟨nt.ct,true⟩,⟨[.i],false⟩],rs:=[⟨[.d_ .i],false⟩],fn:=fun ds=>(Oq (nt.nd ds 0) (rI ds 33),[.int (X8 (nt.nd ds 0) (rI ds 33))])}
theorem nny:Ee Tryz.prog 13 nbo:=by
 refine nQ (Γ:=[(84,WU),(85,zM),(86,U3),(87,zN),(88,Ql),(89,Ob),(90,Qj),(91,WT),(92,Tf),(93,N_),(94,xd),(95,tf)]) (Il ni1 (Il nfa (Il nhd (Il nfc (Il nkS (Il nhf (Il nkP (Il niZ (Il nff (Il ng9 (Il U2 (Il vE JH)))))))))))) Tryz.func13 fun ds (hw:kc (nt.ct++[.i]) ds) aJ=> ?_
 obtain⟨a,ds,rfl,_,hw⟩:=nt.nB (r:=_) hw
 obtain⟨k,rfl,_⟩:=nz hw
 exact⟨0,eT (nnx Vm.ke (fun r0=>((true,[.int r0]):kL)) a k aJ)⟩
def Ov:Sum:= {ps:=[⟨nv.ct,true⟩],rs:=[⟨[.d_ .bool],false⟩],fn:=fun ds=>(SX (nv.nd ds 0),[.bool (neW (nv.nd ds 0))])}
def nmi:Ctx:=[(55,nK),(118,qB),(235,rY),(236,tB)]
theorem nua:bH Tryz.prog nmi:=Il oV (Il xG (Il zX (Il Ue JH)))
def nmh:List (Nat×lC):=[(6, {cb:=[(1,.mL),(3,.mL),(4,.mL),(30,.mL),(31,.mL),(32,.mL)],boxes:=[(64,[])]})]
def nmj:Bool→kL:=(fun r0=>((true,[.bool r0]):kL))
def ntu (left:Int) (x:Rows) (oy oN q_1 TX q_3 q_4 Ps Pt Pu:Int) (Wf PM:Rows) (Z9:Int) (all:Rows):St:= {n:=68,sl:=[(1,.ptr 64 0),(3,.int .i64 left),(4,.own 640256),(30,.sl [.i,.i,.sl [.i]] x),(31,.int .i64 oy),(32,.int .i64 oN)],hp:=[(64,.box 60 [.int .i64 q_1,.int .i64 TX,.int .i64 q_3,.int .i64 q_4,.int .i64 Ps,.int .i64 Pt,.int .i64 Pu,.sl [.i] Wf,.sl [.i,.i,.sl [.i]] PM,.int .i64 Z9]),(640256,.row 3 [.i] all false true)],ok:=true,ls:=[],lm:=[]}
theorem nt_:Ee Tryz.prog 115 Ov:=by
 refine qD (A:=nmh) nua Tryz.func115 fun ds (hw:kc (nv.ct++[]) ds) aJ=> ?_
 obtain⟨q,ds,rfl,h_q,hw⟩:=nv.nB (r:=_) hw
 obtain rfl:=nw hw
 obtain⟨N,hN⟩:=nt9 Vm.ke nmj q h_q aJ
 exact⟨N,eL (fun l_=>nc3 Vm.ke nmj l_ q) (funext fun x=>funext fun oy=>funext fun Ps=>funext fun Pt=>funext fun Pu=>funext fun Wf=>nL3 (LX Tryz.prog nmi nmh N Tryz.f115 Ov [true,true,true,true,false,true,false] []) (fun left oN all=>ntu left x oy oN q.Ring.oA q.Ring.nG q.Ring.Head q.Ring.qQ Ps Pt Pu Wf q.nD q.Next all) _ N) hN⟩
def nms:Ctx:=[(37,nK),(140,qB),(147,tB),(250,rY)]
theorem nup:bH Tryz.prog nms:=Il pG (Il xM (Il VG (Il Nn JH)))
def nmr:List (Nat×lC):=[(6, {cb:=[(1,.mL),(3,.mL),(4,.mL),(5,.mL)],boxes:=[(64,[])]})]
def nmt:Bool→kL:=(fun r0=>((true,[.bool r0]):kL))
def ntM (cb k q_1 TX q_3 q_4 Ps Pt Pu:Int) (Wf PM:Rows) (Z9:Int) (all:Rows):St:= {n:=74,sl:=[(1,.ptr 64 0),(3,.int .i64 cb),(4,.own 640256),(5,.int .i64 k)],hp:=[(64,.box 60 [.int .i64 q_1,.int .i64 TX,.int .i64 q_3,.int .i64 q_4,.int .i64 Ps,.int .i64 Pt,.int .i64 Pu,.sl [.i] Wf,.sl [.i,.i,.sl [.i]] PM,.int .i64 Z9]),(640256,.row 3 [.i] all false true)],ok:=true,ls:=[],lm:=[]}
theorem nuo:Ee Tryz.prog 136 Ov:=by
 refine qD (A:=nmr) nup Tryz.func136 fun ds (hw:kc (nv.ct++[]) ds) aJ=> ?_
 obtain⟨q,ds,rfl,h_q,hw⟩:=nv.nB (r:=_) hw
 obtain rfl:=nw hw
 obtain⟨N,hN⟩:=nun Vm.ke nmt q h_q aJ
 exact⟨N,eL (fun l_=>nej Vm.ke nmt l_ q) (funext fun TX=>funext fun Ps=>funext fun Pt=>funext fun Pu=>funext fun Wf=>funext fun PM=>nL3 (LX Tryz.prog nms nmr N Tryz.f136 Ov [true,true,true,true,false,true,false] []) (fun cb k all=>ntM cb k q.Ring.oA TX q.Ring.Head q.Ring.qQ Ps Pt Pu Wf PM q.Next all) _ N) hN⟩
def vx:Sum:= {ps:=[⟨nO.ct,true⟩],rs:=[⟨[.d_ .i],false⟩],fn:=fun ds=>(true,[.int (qS (nO.nd ds 0))])}
def naA:Ctx:=[(218,RE)]
theorem nmK:bH Tryz.prog naA:=Il XE JH
def naz:List (Nat×lC):=[(3, {cb:=[(3,.mL),(16,.mL),(17,.mL),(18,.mL)],boxes:=[(64,[])]})]
def naB:Int→kL:=(fun r0=>((true,[.int r0]):kL))
def nki (n x oy ui wW tw xO xP:Int) (oN:Rows):St:= {n:=29,sl:=[(3,.int .i64 n),(16,.own 641024),(17,.int .i64 x),(18,.int .i64 oy)],hp:=[(64,.box 234 [.int .i64 ui,.int .i64 wW,.int .i64 tw,.int .i64 xO,.int .i64 xP]),(641024,.row 3 [.i] oN false true)],ok:=true,ls:=[],lm:=[]}
theorem nmJ:Ee Tryz.prog 398 vx:=by
 refine qD (A:=naz) nmK Tryz.func398 fun ds (hw:kc (nO.ct++[]) ds) _=> ?_
 obtain⟨f,ds,rfl,h_f,hw⟩:=nO.nB (r:=_) hw
 obtain rfl:=nw hw
 obtain⟨N,hN⟩:=nmI Vm.ke naB f h_f
 exact⟨N,eL (fun l_=>Sm Vm.ke naB l_ f) (funext fun x=>funext fun oN=>X2 (LX Tryz.prog naA naz N Tryz.f398 vx [true,true,false,true,false] []) (fun n oy=>nki n x oy f.Kind f.pZ f.qh f.ox f.ov oN) _ N) hN⟩
def nb1:List (Nat×lC):=[(4, {cb:=[(3,.mL),(4,.mL),(5,.mL)],boxes:=[(64,[])]})]
def nb2:Int→kL:=(fun r0=>((true,[.int r0]):kL))
def nlR (n k ui wW tw xO xP:Int) (na:Rows):St:= {n:=32,sl:=[(3,.int .i64 n),(4,.own 640256),(5,.int .i64 k)],hp:=[(64,.box 234 [.int .i64 ui,.int .i64 wW,.int .i64 tw,.int .i64 xO,.int .i64 xP]),(640256,.row 3 [.i] na false true)],ok:=true,ls:=[],lm:=[]}
theorem noz:Ee Tryz.prog 361 vx:=by
 refine qD (A:=nb1) JH Tryz.func361 fun ds (hw:kc (nO.ct++[]) ds) _=> ?_
 obtain⟨f,ds,rfl,h_f,hw⟩:=nO.nB (r:=_) hw
 obtain rfl:=nw hw
 obtain⟨N,hN⟩:=noy Vm.ke nb2 f h_f
 exact⟨N,eL (fun l_=>SL Vm.ke nb2 l_ f) (funext fun na=>X2 (LX Tryz.prog [] nb1 N Tryz.f361 vx [true,true,true,false,true,false] []) (fun n k=>nlR n k f.Kind f.pZ f.qh f.ox f.ov na) _ N) hN⟩
def XG:Sum:= {ps:=[⟨ni.ct,true⟩,⟨nO.ct,true⟩],rs:=[⟨[.d_ .i],false⟩],fn:=fun ds=>(true,[.int (nhD (ni.nd ds 0) (nO.nd ds 1))])}
def nfY:List (Nat×lC):=[(2, {cb:=[(3,.mL),(8,.mL),(9,.mL),(10,.mL)],boxes:=[(128,[]),(192,[])]})]
def nfZ:Int→kL:=(fun r0=>((true,[.int r0]):kL))
def npT (x:Rows) (oy oN:Int) (uP:Rows) (ui wW tw xO xP:Int):St:= {n:=26,sl:=[(3,.ptr 192 0),(8,.sl [.i,.i,.i,.i,.i,.i,.i] x),(9,.int .i64 oy),(10,.int .i64 oN)],hp:=[(128,.box 68 [.sl [.i,.i,.i,.i,.i,.i,.i] uP]),(192,.box 234 [.int .i64 ui,.int .i64 wW,.int .i64 tw,.int .i64 xO,.int .i64 xP])],ok:=true,ls:=[],lm:=[]}
theorem nrY:Ee Tryz.prog 303 XG:=by
 refine qD (A:=nfY) JH Tryz.func303 fun ds (hw:kc (ni.ct++(nO.ct++[])) ds) _=> ?_
 obtain⟨t,ds,rfl,h_t,hw⟩:=ni.nB (r:=_) hw
 obtain⟨f,ds,rfl,_,hw⟩:=nO.nB (r:=_) hw
 obtain rfl:=nw hw
 obtain⟨N,hN⟩:=nrX Vm.ke nfZ t f h_t
 exact⟨N,eL (fun l_=>XH Vm.ke nfZ l_ t f) (funext fun x=>funext fun oy=>funext fun ui=>funext fun wW=>funext fun tw=>funext fun xO=>funext fun xP=>nL1 (LX Tryz.prog [] nfY N Tryz.f303 XG [true,false,true,false] []) (fun oN=>npT x oy oN t.nH ui wW tw xO xP) _ N) hN⟩
def V0:Sum:= {ps:=[⟨ni.ct,true⟩,⟨nO.ct,true⟩],rs:=[⟨[.d_ .i],false⟩],fn:=fun ds=>(nvm (ni.nd ds 0) (nO.nd ds 1),[.int (Z7 (ni.nd ds 0) (nO.nd ds 1))])}
def nem:Ctx:=[(361,vx)]
theorem nrg:bH Tryz.prog nem:=Il noz JH
def nel:List (Nat×lC):=[(2, {cb:=[(2,.mL),(3,.mL),(5,.mL)],boxes:=[(128,[]),(192,[])]})]
def nen:Int→kL:=(fun r0=>((true,[.int r0]):kL))
def noO (k:Int) (uP:Rows) (ui wW tw xO xP:Int):St:= {n:=41,sl:=[(2,.ptr 128 0),(3,.ptr 192 0),(5,.int .i64 k)],hp:=[(128,.box 68 [.sl [.i,.i,.i,.i,.i,.i,.i] uP]),(192,.box 234 [.int .i64 ui,.int .i64 wW,.int .i64 tw,.int .i64 xO,.int .i64 xP])],ok:=true,ls:=[],lm:=[]}
theorem nrf:Ee Tryz.prog 291 V0:=by
 refine qD (A:=nel) nrg Tryz.func291 fun ds (hw:kc (ni.ct++(nO.ct++[])) ds) aJ=> ?_
 obtain⟨t,ds,rfl,_,hw⟩:=ni.nB (r:=_) hw
 obtain⟨f,ds,rfl,_,hw⟩:=nO.nB (r:=_) hw
 obtain rfl:=nw hw
 obtain⟨N,hN⟩:=nre Vm.ke nen t f aJ
 exact⟨N,eL (fun l_=>V1 Vm.ke nen l_ t f) (funext fun uP=>funext fun ui=>funext fun wW=>funext fun tw=>funext fun xO=>funext fun xP=>nL1 (LX Tryz.prog nem nel N Tryz.f291 V0 [true,false,true,false] []) (fun k=>noO k uP ui wW tw xO xP) _ N) hN⟩
def Z4:Sum:= {ps:=[⟨nO.ct,true⟩],rs:=[⟨[.own 3 [.i]],false⟩],fn:=fun ds=>(true,[.sl (Ty (nO.nd ds 0))])}
def niH:Ctx:=[(398,vx)]
theorem ntz:bH Tryz.prog niH:=Il nmJ JH
def niG:List (Nat×lC):=[(3, {cb:=[(1,.mL),(3,.mL),(4,.mL)],boxes:=[(64,[])]})]
def niI:Rows→kL:=(fun r0=>((true,[.sl r0]):kL))
def nrZ (i ui wW tw xO xP:Int) (oh:Rows):St:= {n:=19,sl:=[(1,.ptr 64 0),(3,.own 640192),(4,.int .i64 i)],hp:=[(64,.box 234 [.int .i64 ui,.int .i64 wW,.int .i64 tw,.int .i64 xO,.int .i64 xP]),(640192,.row 3 [.i] oh false true)],ok:=true,ls:=[],lm:=[]}
theorem nty:Ee Tryz.prog 330 Z4:=by
 refine qD (A:=niG) ntz Tryz.func330 fun ds (hw:kc (nO.ct++[]) ds) _=> ?_
 obtain⟨f,ds,rfl,_,hw⟩:=nO.nB (r:=_) hw
 obtain rfl:=nw hw
 obtain⟨N,hN⟩:=ntx Vm.ke niI f
 exact⟨N,eL (fun l_=>Z5 Vm.ke niI l_ f) (funext fun ui=>funext fun wW=>funext fun tw=>funext fun xO=>funext fun xP=>X2 (LX Tryz.prog niH niG N Tryz.f330 Z4 [true,true,false,true,false] []) (fun i oh=>nrZ i ui wW tw xO xP oh) _ N) hN⟩
def sV:Sum:= {ps:=[⟨ni.ct,true⟩],rs:=[⟨[.d_ .bool],false⟩],fn:=fun ds=>(true,[.bool (yV (ni.nd ds 0))])}
def yD:Ctx:=[(55,nK),(303,XG),(330,Z4)]
theorem npG:bH Tryz.prog yD:=Il oV (Il nrY (Il nty JH))
def yC:List (Nat×lC):=[(4, {cb:=[(1,.mL),(12,.mL),(13,.mL),(14,.mL)],boxes:=[(64,[])]}),(14, {cb:=[(1,.mL),(3,.mL),(12,.mL),(13,.mL),(14,.mL),(49,.mL),(50,.mL),(51,.mL)],boxes:=[(64,[]),(256,[])]})]
def sU:Bool→kL:=(fun r0=>((true,[.bool r0]):kL))
def um (x:Rows) (oy oN:Int) (uP:Rows):St:= {n:=67,sl:=[(1,.ptr 64 0),(12,.sl [.i,.i,.i,.i,.i,.i,.i] x),(13,.int .i64 oy),(14,.int .i64 oN)],hp:=[(64,.box 68 [.sl [.i,.i,.i,.i,.i,.i,.i] uP])],ok:=true,ls:=[],lm:=[]}
def Nx (oN:Int) (x:Rows) (oy Wg x_6 x_7:Int) (uP:Rows) (s tR sB XY XZ s_5 s_6:Int) (x_8:Rows):St:= {n:=67,sl:=[(1,.ptr 64 0),(3,.int .i64 oN),(12,.sl [.i,.i,.i,.i,.i,.i,.i] x),(13,.int .i64 oy),(14,.int .i64 Wg),(49,.own 643136),(50,.int .i64 x_6),(51,.int .i64 x_7)],hp:=[(64,.box 68 [.sl [.i,.i,.i,.i,.i,.i,.i] uP]),(256,.box 264 [.int .i64 s,.int .i64 tR,.int .i64 sB,.int .i64 XY,.int .i64 XZ,.int .i64 s_5,.int .i64 s_6]),(643136,.row 3 [.i] x_8 false true)],ok:=true,ls:=[],lm:=[]}
noncomputable def Nw (N:Nat) (o0:St→kL):(St→kL)→St→kL:=LX Tryz.prog yD yC N Tryz.f240 sV [true,true,false,true,false,false,true,true,false,false,true,true,true,true,true,false] [o0]
noncomputable def vB (N:Nat):(St→kL)→St→kL:=LX Tryz.prog yD yC N Tryz.f240 sV [true,true,false,true,false] []
theorem nm0 (N:Nat) (o0:St→kL) (oN:Int) (x:Rows) (oy Wg x_6:Int) (uP:Rows) (s tR sB XY XZ s_5 s_6:Int) (x_8:Rows) (ih:St→kL) (x_7:Int):Nw N o0 ih (Nx oN x oy Wg x_6 x_7 uP s tR sB XY XZ s_5 s_6 x_8)=xy Vm.ke sU (fun oN=>o0 (um x oy oN uP)) oN Wg x_6 uP x_8 (fun x_7=>ih (Nx oN x oy Wg x_6 x_7 uP s tR sB XY XZ s_5 s_6 x_8)) x_7:=by kernel_rfl
theorem nm2 (N:Nat) (o0:St→kL) (oN:Int) (x:Rows) (oy Wg x_6:Int) (uP:Rows) (s tR sB XY XZ s_5 s_6:Int) (x_8:Rows) (m_:Nat):(fun x_7=>LY (Nw N o0) m_ (Nx oN x oy Wg x_6 x_7 uP s tR sB XY XZ s_5 s_6 x_8))=uk Vm.ke sU N (fun oN=>o0 (um x oy oN uP)) oN Wg x_6 uP x_8 m_:=by
 induction m_ with
 | zero=>rfl
 | succ m_ ih=>
  funext x_7
  refine (nm0 N o0 oN x oy Wg x_6 uP s tR sB XY XZ s_5 s_6 x_8 (LY (Nw N o0) m_) x_7).trans ?_
  rw[ih]
  rfl
theorem nmZ (N:Nat) (x:Rows) (oy:Int) (uP:Rows) (ih:St→kL) (oN:Int):vB N ih (um x oy oN uP)=xx Vm.ke sU (fun oN Wg x_6 x_8 x_7=>LY (Nw N ih) N (Nx oN x oy Wg x_6 x_7 uP (rI (nth x (Int.toNat oN)) 0) (rI (nth x (Int.toNat oN)) 1) (rI (nth x (Int.toNat oN)) 2) (rI (nth x (Int.toNat oN)) 3) (rI (nth x (Int.toNat oN)) 4) (rI (nth x (Int.toNat oN)) 5) (rI (nth x (Int.toNat oN)) 6) x_8)) x oy uP (fun oN=>ih (um x oy oN uP)) oN:=by kernel_rfl
theorem nm1 (N:Nat) (x:Rows) (oy:Int) (uP:Rows) (m_:Nat):(fun oN=>LY (vB N) m_ (um x oy oN uP))=tb Vm.ke sU N x oy uP m_:=by
 induction m_ with
 | zero=>rfl
 | succ m_ ih=>
  funext oN
  refine (nmZ N x oy uP (LY (vB N) m_) oN).trans ?_
  have e1:=funext fun oN=>funext fun Wg=>funext fun x_6=>funext fun x_8=>nm2 N (LY (vB N) m_) oN x oy Wg x_6 uP (rI (nth x (Int.toNat oN)) 0) (rI (nth x (Int.toNat oN)) 1) (rI (nth x (Int.toNat oN)) 2) (rI (nth x (Int.toNat oN)) 3) (rI (nth x (Int.toNat oN)) 4) (rI (nth x (Int.toNat oN)) 5) (rI (nth x (Int.toNat oN)) 6) x_8 N
  rw[e1]
  rw[ih]
  rfl
theorem npF (N:Nat) (t:ni):H0 Tryz.prog yD yC N Tryz.f240 sV (t.enc++([]))=O4 Vm.ke sU N t:=by
 have nqQ:H0 Tryz.prog yD yC N Tryz.f240 sV (t.enc++([]))=O5 Vm.ke sU (fun x oy uP oN=>LY (vB N) N (um x oy oN uP)) t:=by kernel_rfl
 refine nqQ.trans ?_
 unfold O4
 have e0:(fun x oy uP oN=>LY (vB N) N (um x oy oN uP))=(fun x oy uP=>tb Vm.ke sU N x oy uP N):=by
  funext x oy uP
  exact nm1 N x oy uP N
 exact congrArg (fun l_=>O5 Vm.ke sU l_ t) e0
theorem npE:Ee Tryz.prog 240 sV:=by
 refine qD (A:=yC) npG Tryz.func240 fun ds (hw:kc (ni.ct++[]) ds) _=> ?_
 obtain⟨t,ds,rfl,h_t,hw⟩:=ni.nB (r:=_) hw
 obtain rfl:=nw hw
 obtain⟨N,hN⟩:=npD Vm.ke sU t h_t
 exact⟨N,((npF N t).trans hN).trans (by kernel_rfl)⟩
def ned:Ctx:=[(37,nK),(291,V0)]
theorem nra:bH Tryz.prog ned:=Il pG (Il nrf JH)
def nec:List (Nat×lC):=[(4, {cb:=[(1,.mL),(3,.mL)],boxes:=[(64,[])]})]
def nee:Bool→kL:=(fun r0=>((true,[.bool r0]):kL))
def noN (k:Int) (uP:Rows):St:= {n:=49,sl:=[(1,.ptr 64 0),(3,.int .i64 k)],hp:=[(64,.box 68 [.sl [.i,.i,.i,.i,.i,.i,.i] uP])],ok:=true,ls:=[],lm:=[]}
theorem nq_:Ee Tryz.prog 252 sV:=by
 refine qD (A:=nec) nra Tryz.func252 fun ds (hw:kc (ni.ct++[]) ds) _=> ?_
 obtain⟨t,ds,rfl,h_t,hw⟩:=ni.nB (r:=_) hw
 obtain rfl:=nw hw
 obtain⟨N,hN⟩:=nq9 Vm.ke nee t h_t
 exact⟨N,eL (fun l_=>VV Vm.ke nee l_ t) (funext fun uP=>nL1 (LX Tryz.prog ned nec N Tryz.f252 sV [true,true,false,true,false] []) (fun k=>noN k uP) _ N) hN⟩
def vz:Sum:= {ps:=[⟨nI.ct,true⟩,⟨[.i],false⟩],rs:=[⟨[.d_ .bool],false⟩],fn:=fun ds=>(true,[.bool (yx (nI.nd ds 0) (rI ds 2))])}
def naP:Ctx:=[(55,nK),(331,zf)]
theorem nmV:bH Tryz.prog naP:=Il oV (Il nky JH)
def naO:List (Nat×lC):=[(4, {cb:=[(1,.mL),(24,.mL),(25,.mL),(26,.mL)],boxes:=[(128,[])]})]
def naQ:Bool→kL:=(fun r0=>((true,[.bool r0]):kL))
def nkp (ny:Int) (x:Rows) (oy oN:Int) (tR:Bytes) (sB:Rows):St:= {n:=36,sl:=[(1,.int .i64 ny),(24,.sl [.i] x),(25,.int .i64 oy),(26,.int .i64 oN)],hp:=[(128,.box 69 [.str tR,.sl [.i] sB])],ok:=true,ls:=[],lm:=[]}
theorem nmU:Ee Tryz.prog 241 vz:=by
 refine qD (A:=naO) nmV Tryz.func241 fun ds (hw:kc (nI.ct++[.i]) ds) _=> ?_
 obtain⟨s,ds,rfl,yZ,hw⟩:=nI.nB (r:=_) hw
 obtain⟨ny,rfl,_⟩:=nz hw
 obtain⟨N,hN⟩:=nmT Vm.ke naQ s ny yZ
 exact⟨N,eL (fun l_=>Sp Vm.ke naQ l_ s ny) (funext fun x=>funext fun oy=>nL1 (LX Tryz.prog naP naO N Tryz.f241 vz [true,true,false,true,false] []) (fun oN=>nkp ny x oy oN s.Key s.Table) _ N) hN⟩
def ncc:Ctx:=[(37,nK),(340,zf)]
theorem noJ:bH Tryz.prog ncc:=Il pG (Il nrb JH)
def ncb:List (Nat×lC):=[(4, {cb:=[(1,.mL),(2,.mL),(5,.mL)],boxes:=[(128,[])]})]
def ncd:Bool→kL:=(fun r0=>((true,[.bool r0]):kL))
def nlY (ny k:Int) (tR:Bytes) (sB:Rows):St:= {n:=38,sl:=[(1,.int .i64 ny),(2,.ptr 128 0),(5,.int .i64 k)],hp:=[(128,.box 69 [.str tR,.sl [.i] sB])],ok:=true,ls:=[],lm:=[]}
theorem noI:Ee Tryz.prog 253 vz:=by
 refine qD (A:=ncb) noJ Tryz.func253 fun ds (hw:kc (nI.ct++[.i]) ds) _=> ?_
 obtain⟨s,ds,rfl,yZ,hw⟩:=nI.nB (r:=_) hw
 obtain⟨ny,rfl,_⟩:=nz hw
 obtain⟨N,hN⟩:=noH Vm.ke ncd s ny yZ
 exact⟨N,eL (fun l_=>SQ Vm.ke ncd l_ s ny) (funext fun sB=>nL1 (LX Tryz.prog ncc ncb N Tryz.f253 vz [true,true,false,true,false] []) (fun k=>nlY ny k s.Key sB) _ N) hN⟩
def qu:Sum:= {ps:=[⟨nm.ct,true⟩,⟨[.i],false⟩],rs:=[⟨[.d_ .bool],false⟩],fn:=fun ds=>(true,[.bool (rT (nm.nd ds 0) (rI ds 4))])}
def vM:Ctx:=[(239,wH),(240,sV),(241,vz)]
theorem niy:bH Tryz.prog vM:=Il npA (Il npE (Il nmU JH))
def vL:List (Nat×lC):=[(4, {cb:=[(1,.mL),(2,.mL),(27,.mL),(28,.mL),(29,.mL)],boxes:=[(128,[])]}),(10, {cb:=[(1,.mL),(45,.mL),(46,.mL),(47,.mL)],boxes:=[(128,[])]})]
def ry:Bool→kL:=(fun r0=>((true,[.bool r0]):kL))
def va (ny:Int) (x:Rows) (oy oN:Int) (tR sB:Rows) (XY:Bytes) (XZ:Rows):St:= {n:=61,sl:=[(1,.int .i64 ny),(2,.ptr 128 0),(27,.sl [.i,.i,.i,.i,.i,.i,.i,.i,.i] x),(28,.int .i64 oy),(29,.int .i64 oN)],hp:=[(128,.box 71 [.sl [.i,.i,.i,.i,.i,.i,.i,.i,.i] tR,.sl [.i,.i,.i,.i,.i,.i,.i] sB,.str XY,.sl [.i] XZ])],ok:=true,ls:=[],lm:=[]}
def w_ (ny:Int) (sB:Rows) (Sh Wg:Int) (tR s_6:Rows) (XY:Bytes) (XZ:Rows):St:= {n:=61,sl:=[(1,.int .i64 ny),(45,.sl [.i,.i,.i,.i,.i,.i,.i] sB),(46,.int .i64 Sh),(47,.int .i64 Wg)],hp:=[(128,.box 71 [.sl [.i,.i,.i,.i,.i,.i,.i,.i,.i] tR,.sl [.i,.i,.i,.i,.i,.i,.i] s_6,.str XY,.sl [.i] XZ])],ok:=true,ls:=[],lm:=[]}
noncomputable def w9 (N:Nat):(St→kL)→St→kL:=LX Tryz.prog vM vL N Tryz.f120 qu [true,true,true,false,true,false] []
noncomputable def u0 (N:Nat):(St→kL)→St→kL:=LX Tryz.prog vM vL N Tryz.f120 qu [true,true,false,true,false] []
theorem ngN (N:Nat) (ny:Int) (sB:Rows) (Sh:Int) (tR s_6:Rows) (XY:Bytes) (XZ:Rows) (ih:St→kL) (Wg:Int):w9 N ih (w_ ny sB Sh Wg tR s_6 XY XZ)=u_ Vm.ke ry ny sB Sh (fun Wg=>ih (w_ ny sB Sh Wg tR s_6 XY XZ)) Wg:=by kernel_rfl
theorem ngP (N:Nat) (ny:Int) (sB:Rows) (Sh:Int) (tR s_6:Rows) (XY:Bytes) (XZ:Rows) (m_:Nat):(fun Wg=>LY (w9 N) m_ (w_ ny sB Sh Wg tR s_6 XY XZ))=sG Vm.ke ry N ny sB Sh m_:=by
 induction m_ with
 | zero=>rfl
 | succ m_ ih=>
  funext Wg
  refine (ngN N ny sB Sh tR s_6 XY XZ (LY (w9 N) m_) Wg).trans ?_
  rw[ih]
  rfl
theorem ngM (N:Nat) (ny:Int) (x:Rows) (oy:Int) (tR sB:Rows) (XY:Bytes) (XZ:Rows) (ih:St→kL) (oN:Int):u0 N ih (va ny x oy oN tR sB XY XZ)=u4 Vm.ke ry (fun Sh Wg=>LY (w9 N) N (w_ ny sB Sh Wg tR sB XY XZ)) ny x oy sB (fun oN=>ih (va ny x oy oN tR sB XY XZ)) oN:=by kernel_rfl
theorem ngO (N:Nat) (ny:Int) (x:Rows) (oy:Int) (tR sB:Rows) (XY:Bytes) (XZ:Rows) (m_:Nat):(fun oN=>LY (u0 N) m_ (va ny x oy oN tR sB XY XZ))=sF Vm.ke ry N ny x oy sB m_:=by
 induction m_ with
 | zero=>rfl
 | succ m_ ih=>
  funext oN
  refine (ngM N ny x oy tR sB XY XZ (LY (u0 N) m_) oN).trans ?_
  have e1:=funext fun Sh=>ngP N ny sB Sh tR sB XY XZ N
  rw[e1]
  rw[ih]
  rfl
theorem nix (N:Nat) (s:nm) (ny:Int):H0 Tryz.prog vM vL N Tryz.f120 qu (s.enc++(.int ny::([])))=xU Vm.ke ry N s ny:=by
 have nqQ:H0 Tryz.prog vM vL N Tryz.f120 qu (s.enc++(.int ny::([])))=xV Vm.ke ry (fun x oy sB oN=>LY (u0 N) N (va ny x oy oN s.oM sB s.oa.Key s.oa.Table)) s ny:=by kernel_rfl
 refine nqQ.trans ?_
 unfold xU
 have e0:(fun x oy sB oN=>LY (u0 N) N (va ny x oy oN s.oM sB s.oa.Key s.oa.Table))=(fun x oy sB=>sF Vm.ke ry N ny x oy sB N):=by
  funext x oy sB
  exact ngO N ny x oy s.oM sB s.oa.Key s.oa.Table N
 exact congrArg (fun l_=>xV Vm.ke ry l_ s ny) e0
theorem niw:Ee Tryz.prog 120 qu:=by
 refine qD (A:=vL) niy Tryz.func120 fun ds (hw:kc (nm.ct++[.i]) ds) _=> ?_
 obtain⟨s,ds,rfl,yZ,hw⟩:=nm.nB (r:=_) hw
 obtain⟨ny,rfl,_⟩:=nz hw
 obtain⟨N,hN⟩:=niv Vm.ke ry s ny yZ
 exact⟨N,((nix N s ny).trans hN).trans (by kernel_rfl)⟩
def vZ:Ctx:=[(251,wH),(252,sV),(253,vz)]
theorem nj3:bH Tryz.prog vZ:=Il nq6 (Il nq_ (Il noI JH))
def vY:List (Nat×lC):=[(4, {cb:=[(1,.mL),(2,.mL),(5,.mL)],boxes:=[(128,[])]}),(9, {cb:=[(1,.mL),(2,.mL),(6,.mL)],boxes:=[(128,[])]})]
def rC:Bool→kL:=(fun r0=>((true,[.bool r0]):kL))
def vl (ny k:Int) (tR sB:Rows) (XY:Bytes) (XZ:Rows):St:= {n:=56,sl:=[(1,.int .i64 ny),(2,.ptr 128 0),(5,.int .i64 k)],hp:=[(128,.box 71 [.sl [.i,.i,.i,.i,.i,.i,.i,.i,.i] tR,.sl [.i,.i,.i,.i,.i,.i,.i] sB,.str XY,.sl [.i] XZ])],ok:=true,ls:=[],lm:=[]}
def xr (ny rj:Int) (tR sB:Rows) (XY:Bytes) (XZ:Rows):St:= {n:=56,sl:=[(1,.int .i64 ny),(2,.ptr 128 0),(6,.int .i64 rj)],hp:=[(128,.box 71 [.sl [.i,.i,.i,.i,.i,.i,.i,.i,.i] tR,.sl [.i,.i,.i,.i,.i,.i,.i] sB,.str XY,.sl [.i] XZ])],ok:=true,ls:=[],lm:=[]}
noncomputable def xq (N:Nat):(St→kL)→St→kL:=LX Tryz.prog vZ vY N Tryz.f138 qu [true,true,true,false,true,false] []
noncomputable def vi (N:Nat):(St→kL)→St→kL:=LX Tryz.prog vZ vY N Tryz.f138 qu [true,true,false,true,false] []
theorem nhP (N:Nat) (ny:Int) (tR sB:Rows) (XY:Bytes) (XZ:Rows) (ih:St→kL) (rj:Int):xq N ih (xr ny rj tR sB XY XZ)=vk Vm.ke rC ny sB (fun rj=>ih (xr ny rj tR sB XY XZ)) rj:=by kernel_rfl
theorem nhR (N:Nat) (ny:Int) (tR sB:Rows) (XY:Bytes) (XZ:Rows) (m_:Nat):(fun rj=>LY (xq N) m_ (xr ny rj tR sB XY XZ))=sJ Vm.ke rC N ny sB m_:=by
 induction m_ with
 | zero=>rfl
 | succ m_ ih=>
  funext rj
  refine (nhP N ny tR sB XY XZ (LY (xq N) m_) rj).trans ?_
  rw[ih]
  rfl
theorem nhO (N:Nat) (ny:Int) (tR sB:Rows) (XY:Bytes) (XZ:Rows) (ih:St→kL) (k:Int):vi N ih (vl ny k tR sB XY XZ)=vj Vm.ke rC (fun rj=>LY (xq N) N (xr ny rj tR sB XY XZ)) ny tR sB (fun k=>ih (vl ny k tR sB XY XZ)) k:=by kernel_rfl
theorem nhQ (N:Nat) (ny:Int) (tR sB:Rows) (XY:Bytes) (XZ:Rows) (m_:Nat):(fun k=>LY (vi N) m_ (vl ny k tR sB XY XZ))=sH Vm.ke rC N ny tR sB m_:=by
 induction m_ with
 | zero=>rfl
 | succ m_ ih=>
  funext k
  refine (nhO N ny tR sB XY XZ (LY (vi N) m_) k).trans ?_
  have e1:=nhR N ny tR sB XY XZ N
  rw[e1]
  rw[ih]
  rfl
theorem nj2 (N:Nat) (s:nm) (ny:Int):H0 Tryz.prog vZ vY N Tryz.f138 qu (s.enc++(.int ny::([])))=yp Vm.ke rC N s ny:=by
 have nqQ:H0 Tryz.prog vZ vY N Tryz.f138 qu (s.enc++(.int ny::([])))=yq Vm.ke rC (fun tR sB k=>LY (vi N) N (vl ny k tR sB s.oa.Key s.oa.Table)) s ny:=by kernel_rfl
 refine nqQ.trans ?_
 unfold yp
 have e0:(fun tR sB k=>LY (vi N) N (vl ny k tR sB s.oa.Key s.oa.Table))=(fun tR sB=>sH Vm.ke rC N ny tR sB N):=by
  funext tR sB
  exact nhQ N ny tR sB s.oa.Key s.oa.Table N
 exact congrArg (fun l_=>yq Vm.ke rC l_ s ny) e0
theorem nj1:Ee Tryz.prog 138 qu:=by
 refine qD (A:=vY) nj3 Tryz.func138 fun ds (hw:kc (nm.ct++[.i]) ds) _=> ?_
 obtain⟨s,ds,rfl,yZ,hw⟩:=nm.nB (r:=_) hw
 obtain⟨ny,rfl,_⟩:=nz hw
 obtain⟨N,hN⟩:=nj0 Vm.ke rC s ny yZ
 exact⟨N,((nj2 N s ny).trans hN).trans (by kernel_rfl)⟩
def rW:Sum:= {ps:=[⟨nt.ct,true⟩],rs:=[⟨[.d_ .bool],false⟩],fn:=fun ds=>(Z1 (nt.nd ds 0),[.bool (OC (nt.nd ds 0))])}
def zW:Ctx:=[(55,nK),(113,rX),(114,rv),(115,Ov),(116,vw),(117,Ou),(118,qB),(119,tc),(120,qu)]
theorem nrN:bH Tryz.prog zW:=Il oV (Il Sn (Il Ws (Il nt_ (Il nmG (Il nmf (Il xG (Il Sr (Il niw JH))))))))
def zV:List (Nat×lC):=[(5, {cb:=[(1,.mL),(3,.mL),(61,.mL),(62,.mL)],boxes:=[(64,[])]}),(12, {cb:=[(1,.mL),(3,.mL),(103,.mL),(104,.mL),(105,.mL)],boxes:=[(64,[]),(320,[])]})]
def tN:Bool→kL:=(fun r0=>((true,[.bool r0]):kL))
def yB (n x oy:Int) (TC h_2:Rows) (TD TE TF TG TH TI TJ:Int) (uG uH:Rows) (uI:Int) (qd qc pe ql:Rows) (qw:Int) (qx:Bool) (qm pI pJ:Rows) (pM:Bytes) (pK qn:Rows) (uJ:Bool) (qo qp qq:Rows) (qE qF qG qH qI:Int):St:= {n:=117,sl:=[(1,.ptr 64 0),(3,.int .i64 n),(61,.int .i64 x),(62,.int .i64 oy)],hp:=[(64,.box 75 [.sl [.str] TC,.sl [.i,.i,.i,.bool] h_2,.int .i64 TD,.int .i64 TE,.int .i64 TF,.int .i64 TG,.int .i64 TH,.int .i64 TI,.int .i64 TJ,.sl [.i] uG,.sl [.i,.i,.sl [.i]] uH,.int .i64 uI,.sl [.i,.i,.i,.i,.i,.i,.i,.i,.i,.i,.i,.i,.i,.i,.i,.i,.i,.i,.i,.i,.i,.i,.i,.i,.i,.str,.i,.i,.bool,.i] qd,.sl [.i,.i,.i,.sl [.i]] qc,.sl [.i,.i,.i,.i,.bool,.bool] pe,.sl [.bool] ql,.int .i64 qw,.bool qx,.sl [.i] qm,.sl [.i,.i,.i,.i,.i,.i,.i,.i,.i] pI,.sl [.i,.i,.i,.i,.i,.i,.i] pJ,.str pM,.sl [.i] pK,.sl [.i,.i,.i,.i,.i,.i,.str,.bool] qn,.bool uJ,.sl [.str] qo,.sl [.i] qp,.sl [.i] qq,.int .i64 qE,.int .i64 qF,.int .i64 qG,.int .i64 qH,.int .i64 qI])],ok:=true,ls:=[],lm:=[]}
def OW (n oN x_3:Int) (TC h_2:Rows) (TD TE TF TG TH TI TJ:Int) (uG uH:Rows) (uI:Int) (qd qc pe ql:Rows) (qw:Int) (qx:Bool) (qm pI pJ:Rows) (pM:Bytes) (pK qn:Rows) (uJ:Bool) (qo qp qq:Rows) (qE qF qG qH qI c c_1 c_2 c_3 c_4:Int) (Sh:Rows):St:= {n:=117,sl:=[(1,.ptr 64 0),(3,.int .i64 n),(103,.own 646592),(104,.int .i64 oN),(105,.int .i64 x_3)],hp:=[(64,.box 75 [.sl [.str] TC,.sl [.i,.i,.i,.bool] h_2,.int .i64 TD,.int .i64 TE,.int .i64 TF,.int .i64 TG,.int .i64 TH,.int .i64 TI,.int .i64 TJ,.sl [.i] uG,.sl [.i,.i,.sl [.i]] uH,.int .i64 uI,.sl [.i,.i,.i,.i,.i,.i,.i,.i,.i,.i,.i,.i,.i,.i,.i,.i,.i,.i,.i,.i,.i,.i,.i,.i,.i,.str,.i,.i,.bool,.i] qd,.sl [.i,.i,.i,.sl [.i]] qc,.sl [.i,.i,.i,.i,.bool,.bool] pe,.sl [.bool] ql,.int .i64 qw,.bool qx,.sl [.i] qm,.sl [.i,.i,.i,.i,.i,.i,.i,.i,.i] pI,.sl [.i,.i,.i,.i,.i,.i,.i] pJ,.str pM,.sl [.i] pK,.sl [.i,.i,.i,.i,.i,.i,.str,.bool] qn,.bool uJ,.sl [.str] qo,.sl [.i] qp,.sl [.i] qq,.int .i64 qE,.int .i64 qF,.int .i64 qG,.int .i64 qH,.int .i64 qI]),(320,.box 73 [.int .i64 c,.int .i64 c_1,.int .i64 c_2,.int .i64 c_3,.int .i64 c_4]),(646592,.row 3 [.i] Sh false true)],ok:=true,ls:=[],lm:=[]}
noncomputable def OU (N:Nat):(St→kL)→St→kL:=LX Tryz.prog zW zV N Tryz.f20 rW [true,true,true,true,true,false,true,false] []
noncomputable def yz (N:Nat):(St→kL)→St→kL:=LX Tryz.prog zW zV N Tryz.f20 rW [true,true,true,false,true,false] []
theorem nps (N:Nat) (n oN:Int) (TC h_2:Rows) (TD TE TF TG TH TI TJ:Int) (uG uH:Rows) (uI:Int) (qd qc pe ql:Rows) (qw:Int) (qx:Bool) (qm pI pJ:Rows) (pM:Bytes) (pK qn:Rows) (uJ:Bool) (qo qp qq:Rows) (qE qF qG qH qI c c_1 c_2 c_3 c_4:Int) (Sh:Rows) (ih:St→kL) (x_3:Int):OU N ih (OW n oN x_3 TC h_2 TD TE TF TG TH TI TJ uG uH uI qd qc pe ql qw qx qm pI pJ pM pK qn uJ qo qp qq qE qF qG qH qI c c_1 c_2 c_3 c_4 Sh)=OV Vm.ke tN n oN pI pJ pM pK Sh (fun x_3=>ih (OW n oN x_3 TC h_2 TD TE TF TG TH TI TJ uG uH uI qd qc pe ql qw qx qm pI pJ pM pK qn uJ qo qp qq qE qF qG qH qI c c_1 c_2 c_3 c_4 Sh)) x_3:=by kernel_rfl
theorem npu (N:Nat) (n oN:Int) (TC h_2:Rows) (TD TE TF TG TH TI TJ:Int) (uG uH:Rows) (uI:Int) (qd qc pe ql:Rows) (qw:Int) (qx:Bool) (qm pI pJ:Rows) (pM:Bytes) (pK qn:Rows) (uJ:Bool) (qo qp qq:Rows) (qE qF qG qH qI c c_1 c_2 c_3 c_4:Int) (Sh:Rows) (m_:Nat):(fun x_3=>LY (OU N) m_ (OW n oN x_3 TC h_2 TD TE TF TG TH TI TJ uG uH uI qd qc pe ql qw qx qm pI pJ pM pK qn uJ qo qp qq qE qF qG qH qI c c_1 c_2 c_3 c_4 Sh))=uY Vm.ke tN N n oN pI pJ pM pK Sh m_:=by
 induction m_ with
 | zero=>rfl
 | succ m_ ih=>
  funext x_3
  refine (nps N n oN TC h_2 TD TE TF TG TH TI TJ uG uH uI qd qc pe ql qw qx qm pI pJ pM pK qn uJ qo qp qq qE qF qG qH qI c c_1 c_2 c_3 c_4 Sh (LY (OU N) m_) x_3).trans ?_
  rw[ih]
  rfl
theorem npr (N:Nat) (n x:Int) (TC h_2:Rows) (TD TE TF TG TH TI TJ:Int) (uG uH:Rows) (uI:Int) (qd qc pe ql:Rows) (qw:Int) (qx:Bool) (qm pI pJ:Rows) (pM:Bytes) (pK qn:Rows) (uJ:Bool) (qo qp qq:Rows) (qE qF qG qH qI:Int) (ih:St→kL) (oy:Int):yz N ih (yB n x oy TC h_2 TD TE TF TG TH TI TJ uG uH uI qd qc pe ql qw qx qm pI pJ pM pK qn uJ qo qp qq qE qF qG qH qI)=yA Vm.ke tN (fun oN Sh x_3=>LY (OU N) N (OW n oN x_3 TC h_2 TD TE TF TG TH TI TJ uG uH uI qd qc pe ql qw qx qm pI pJ pM pK qn uJ qo qp qq qE qF qG qH qI qE qF qG qH qI Sh)) n x qd qc pe pI pJ pM pK qE qF qG qH qI (fun oy=>ih (yB n x oy TC h_2 TD TE TF TG TH TI TJ uG uH uI qd qc pe ql qw qx qm pI pJ pM pK qn uJ qo qp qq qE qF qG qH qI)) oy:=by kernel_rfl
theorem npt (N:Nat) (n x:Int) (TC h_2:Rows) (TD TE TF TG TH TI TJ:Int) (uG uH:Rows) (uI:Int) (qd qc pe ql:Rows) (qw:Int) (qx:Bool) (qm pI pJ:Rows) (pM:Bytes) (pK qn:Rows) (uJ:Bool) (qo qp qq:Rows) (qE qF qG qH qI:Int) (m_:Nat):(fun oy=>LY (yz N) m_ (yB n x oy TC h_2 TD TE TF TG TH TI TJ uG uH uI qd qc pe ql qw qx qm pI pJ pM pK qn uJ qo qp qq qE qF qG qH qI))=sT Vm.ke tN N n x qd qc pe pI pJ pM pK qE qF qG qH qI m_:=by
 induction m_ with
 | zero=>rfl
 | succ m_ ih=>
  funext oy
  refine (npr N n x TC h_2 TD TE TF TG TH TI TJ uG uH uI qd qc pe ql qw qx qm pI pJ pM pK qn uJ qo qp qq qE qF qG qH qI (LY (yz N) m_) oy).trans ?_
  have e1:=funext fun oN=>funext fun Sh=>npu N n oN TC h_2 TD TE TF TG TH TI TJ uG uH uI qd qc pe ql qw qx qm pI pJ pM pK qn uJ qo qp qq qE qF qG qH qI qE qF qG qH qI Sh N
  rw[e1]
  rw[ih]
  rfl
theorem nrM (N:Nat) (h:nt):H0 Tryz.prog zW zV N Tryz.f20 rW (h.enc++([]))=Ru Vm.ke tN N h:=by
 have nqQ:H0 Tryz.prog zW zV N Tryz.f20 rW (h.enc++([]))=Rv Vm.ke tN (fun n x qd qc pe pI pJ pM pK qE qF qG qH qI oy=>LY (yz N) N (yB n x oy h.n_.nL h.Maps h.Tx.Ring.oA h.Tx.Ring.nG h.Tx.Ring.Head h.Tx.Ring.qQ h.Tx.n9.oA h.Tx.n9.nG h.Tx.n9.Count h.Tx.n9.oe h.Tx.nD h.Tx.Next qd qc pe h.nT h.Filter.Wj h.Filter.oH h.Filter.pE pI pJ pM pK h.oE h.p9 h.tU h.oG h.oU qE qF qG qH qI)) h:=by kernel_rfl
 refine nqQ.trans ?_
 unfold Ru
 have e0:(fun n x qd qc pe pI pJ pM pK qE qF qG qH qI oy=>LY (yz N) N (yB n x oy h.n_.nL h.Maps h.Tx.Ring.oA h.Tx.Ring.nG h.Tx.Ring.Head h.Tx.Ring.qQ h.Tx.n9.oA h.Tx.n9.nG h.Tx.n9.Count h.Tx.n9.oe h.Tx.nD h.Tx.Next qd qc pe h.nT h.Filter.Wj h.Filter.oH h.Filter.pE pI pJ pM pK h.oE h.p9 h.tU h.oG h.oU qE qF qG qH qI))=(fun n x qd qc pe pI pJ pM pK qE qF qG qH qI=>sT Vm.ke tN N n x qd qc pe pI pJ pM pK qE qF qG qH qI N):=by
  funext n x qd qc pe pI pJ pM pK qE qF qG qH qI
  exact npt N n x h.n_.nL h.Maps h.Tx.Ring.oA h.Tx.Ring.nG h.Tx.Ring.Head h.Tx.Ring.qQ h.Tx.n9.oA h.Tx.n9.nG h.Tx.n9.Count h.Tx.n9.oe h.Tx.nD h.Tx.Next qd qc pe h.nT h.Filter.Wj h.Filter.oH h.Filter.pE pI pJ pM pK h.oE h.p9 h.tU h.oG h.oU qE qF qG qH qI N
 exact congrArg (fun l_=>Rv Vm.ke tN l_ h) e0
theorem nrL:Ee Tryz.prog 20 rW:=by
 refine qD (A:=zV) nrN Tryz.func20 fun ds (hw:kc (nt.ct++[]) ds) aJ=> ?_
 obtain⟨h,ds,rfl,_,hw⟩:=nt.nB (r:=_) hw
 obtain rfl:=nw hw
 obtain⟨N,hN⟩:=nrK Vm.ke tN h aJ
 exact⟨N,((nrM N h).trans hN).trans (by kernel_rfl)⟩
def Nm:Ctx:=[(37,nK),(134,rX),(135,rv),(136,Ov),(137,vw),(138,qu),(139,Ou),(140,qB),(141,tc)]
theorem nsF:bH Tryz.prog Nm:=Il pG (Il SM (Il Xp (Il nuo (Il nov (Il nj1 (Il nmq (Il xM (Il SS JH))))))))
def Nl:List (Nat×lC):=[(5, {cb:=[(1,.mL),(3,.mL),(4,.mL)],boxes:=[(64,[])]}),(11, {cb:=[(5,.mL),(6,.mL)],boxes:=[(64,[])]})]
def tQ:Bool→kL:=(fun r0=>((true,[.bool r0]):kL))
def yO (n k:Int) (TC h_2:Rows) (TD TE TF TG TH TI TJ:Int) (uG uH:Rows) (uI:Int) (qd qc pe ql:Rows) (qw:Int) (qx:Bool) (qm pI pJ:Rows) (pM:Bytes) (pK qn:Rows) (uJ:Bool) (qo qp qq:Rows) (qE qF qG qH qI:Int):St:= {n:=123,sl:=[(1,.ptr 64 0),(3,.int .i64 n),(4,.int .i64 k)],hp:=[(64,.box 75 [.sl [.str] TC,.sl [.i,.i,.i,.bool] h_2,.int .i64 TD,.int .i64 TE,.int .i64 TF,.int .i64 TG,.int .i64 TH,.int .i64 TI,.int .i64 TJ,.sl [.i] uG,.sl [.i,.i,.sl [.i]] uH,.int .i64 uI,.sl [.i,.i,.i,.i,.i,.i,.i,.i,.i,.i,.i,.i,.i,.i,.i,.i,.i,.i,.i,.i,.i,.i,.i,.i,.i,.str,.i,.i,.bool,.i] qd,.sl [.i,.i,.i,.sl [.i]] qc,.sl [.i,.i,.i,.i,.bool,.bool] pe,.sl [.bool] ql,.int .i64 qw,.bool qx,.sl [.i] qm,.sl [.i,.i,.i,.i,.i,.i,.i,.i,.i] pI,.sl [.i,.i,.i,.i,.i,.i,.i] pJ,.str pM,.sl [.i] pK,.sl [.i,.i,.i,.i,.i,.i,.str,.bool] qn,.bool uJ,.sl [.str] qo,.sl [.i] qp,.sl [.i] qq,.int .i64 qE,.int .i64 qF,.int .i64 qG,.int .i64 qH,.int .i64 qI])],ok:=true,ls:=[],lm:=[]}
def Pz (rj:Int) (TC h_2:Rows) (TD TE TF TG TH TI TJ:Int) (uG uH:Rows) (uI:Int) (qd qc pe ql:Rows) (qw:Int) (qx:Bool) (qm pI pJ:Rows) (pM:Bytes) (pK qn:Rows) (uJ:Bool) (qo qp qq:Rows) (qE qF qG qH qI:Int) (na:Rows):St:= {n:=123,sl:=[(5,.own 640320),(6,.int .i64 rj)],hp:=[(64,.box 75 [.sl [.str] TC,.sl [.i,.i,.i,.bool] h_2,.int .i64 TD,.int .i64 TE,.int .i64 TF,.int .i64 TG,.int .i64 TH,.int .i64 TI,.int .i64 TJ,.sl [.i] uG,.sl [.i,.i,.sl [.i]] uH,.int .i64 uI,.sl [.i,.i,.i,.i,.i,.i,.i,.i,.i,.i,.i,.i,.i,.i,.i,.i,.i,.i,.i,.i,.i,.i,.i,.i,.i,.str,.i,.i,.bool,.i] qd,.sl [.i,.i,.i,.sl [.i]] qc,.sl [.i,.i,.i,.i,.bool,.bool] pe,.sl [.bool] ql,.int .i64 qw,.bool qx,.sl [.i] qm,.sl [.i,.i,.i,.i,.i,.i,.i,.i,.i] pI,.sl [.i,.i,.i,.i,.i,.i,.i] pJ,.str pM,.sl [.i] pK,.sl [.i,.i,.i,.i,.i,.i,.str,.bool] qn,.bool uJ,.sl [.str] qo,.sl [.i] qp,.sl [.i] qq,.int .i64 qE,.int .i64 qF,.int .i64 qG,.int .i64 qH,.int .i64 qI]),(640320,.row 3 [.i] na false true)],ok:=true,ls:=[],lm:=[]}
noncomputable def Px (N:Nat):(St→kL)→St→kL:=LX Tryz.prog Nm Nl N Tryz.f36 rW [true,true,true,true,true,false,true,false] []
noncomputable def yM (N:Nat):(St→kL)→St→kL:=LX Tryz.prog Nm Nl N Tryz.f36 rW [true,true,true,false,true,false] []
theorem nqY (N:Nat) (TC h_2:Rows) (TD TE TF TG TH TI TJ:Int) (uG uH:Rows) (uI:Int) (qd qc pe ql:Rows) (qw:Int) (qx:Bool) (qm pI pJ:Rows) (pM:Bytes) (pK qn:Rows) (uJ:Bool) (qo qp qq:Rows) (qE qF qG qH qI:Int) (na:Rows) (ih:St→kL) (rj:Int):Px N ih (Pz rj TC h_2 TD TE TF TG TH TI TJ uG uH uI qd qc pe ql qw qx qm pI pJ pM pK qn uJ qo qp qq qE qF qG qH qI na)=Py Vm.ke tQ na (fun rj=>ih (Pz rj TC h_2 TD TE TF TG TH TI TJ uG uH uI qd qc pe ql qw qx qm pI pJ pM pK qn uJ qo qp qq qE qF qG qH qI na)) rj:=by kernel_rfl
theorem nq0 (N:Nat) (TC h_2:Rows) (TD TE TF TG TH TI TJ:Int) (uG uH:Rows) (uI:Int) (qd qc pe ql:Rows) (qw:Int) (qx:Bool) (qm pI pJ:Rows) (pM:Bytes) (pK qn:Rows) (uJ:Bool) (qo qp qq:Rows) (qE qF qG qH qI:Int) (na:Rows) (m_:Nat):(fun rj=>LY (Px N) m_ (Pz rj TC h_2 TD TE TF TG TH TI TJ uG uH uI qd qc pe ql qw qx qm pI pJ pM pK qn uJ qo qp qq qE qF qG qH qI na))=vd Vm.ke tQ N na m_:=by
 induction m_ with
 | zero=>rfl
 | succ m_ ih=>
  funext rj
  refine (nqY N TC h_2 TD TE TF TG TH TI TJ uG uH uI qd qc pe ql qw qx qm pI pJ pM pK qn uJ qo qp qq qE qF qG qH qI na (LY (Px N) m_) rj).trans ?_
  rw[ih]
  rfl
theorem nqX (N:Nat) (n:Int) (TC h_2:Rows) (TD TE TF TG TH TI TJ:Int) (uG uH:Rows) (uI:Int) (qd qc pe ql:Rows) (qw:Int) (qx:Bool) (qm pI pJ:Rows) (pM:Bytes) (pK qn:Rows) (uJ:Bool) (qo qp qq:Rows) (qE qF qG qH qI:Int) (ih:St→kL) (k:Int):yM N ih (yO n k TC h_2 TD TE TF TG TH TI TJ uG uH uI qd qc pe ql qw qx qm pI pJ pM pK qn uJ qo qp qq qE qF qG qH qI)=yN Vm.ke tQ (fun na rj=>LY (Px N) N (Pz rj TC h_2 TD TE TF TG TH TI TJ uG uH uI qd qc pe ql qw qx qm pI pJ pM pK qn uJ qo qp qq qE qF qG qH qI na)) n qd qc pe qE qF qG qH qI (fun k=>ih (yO n k TC h_2 TD TE TF TG TH TI TJ uG uH uI qd qc pe ql qw qx qm pI pJ pM pK qn uJ qo qp qq qE qF qG qH qI)) k:=by kernel_rfl
theorem nqZ (N:Nat) (n:Int) (TC h_2:Rows) (TD TE TF TG TH TI TJ:Int) (uG uH:Rows) (uI:Int) (qd qc pe ql:Rows) (qw:Int) (qx:Bool) (qm pI pJ:Rows) (pM:Bytes) (pK qn:Rows) (uJ:Bool) (qo qp qq:Rows) (qE qF qG qH qI:Int) (m_:Nat):(fun k=>LY (yM N) m_ (yO n k TC h_2 TD TE TF TG TH TI TJ uG uH uI qd qc pe ql qw qx qm pI pJ pM pK qn uJ qo qp qq qE qF qG qH qI))=s_ Vm.ke tQ N n qd qc pe qE qF qG qH qI m_:=by
 induction m_ with
 | zero=>rfl
 | succ m_ ih=>
  funext k
  refine (nqX N n TC h_2 TD TE TF TG TH TI TJ uG uH uI qd qc pe ql qw qx qm pI pJ pM pK qn uJ qo qp qq qE qF qG qH qI (LY (yM N) m_) k).trans ?_
  have e1:=funext fun na=>nq0 N TC h_2 TD TE TF TG TH TI TJ uG uH uI qd qc pe ql qw qx qm pI pJ pM pK qn uJ qo qp qq qE qF qG qH qI na N
  rw[e1]
  rw[ih]
  rfl
theorem nsE (N:Nat) (h:nt):H0 Tryz.prog Nm Nl N Tryz.f36 rW (h.enc++([]))=RL Vm.ke tQ N h:=by
 have nqQ:H0 Tryz.prog Nm Nl N Tryz.f36 rW (h.enc++([]))=RM Vm.ke tQ (fun n qd qc pe qE qF qG qH qI k=>LY (yM N) N (yO n k h.n_.nL h.Maps h.Tx.Ring.oA h.Tx.Ring.nG h.Tx.Ring.Head h.Tx.Ring.qQ h.Tx.n9.oA h.Tx.n9.nG h.Tx.n9.Count h.Tx.n9.oe h.Tx.nD h.Tx.Next qd qc pe h.nT h.Filter.Wj h.Filter.oH h.Filter.pE h.nk.oM h.nk.Table.nH h.nk.oa.Key h.nk.oa.Table h.oE h.p9 h.tU h.oG h.oU qE qF qG qH qI)) h:=by kernel_rfl
 refine nqQ.trans ?_
 unfold RL
 have e0:(fun n qd qc pe qE qF qG qH qI k=>LY (yM N) N (yO n k h.n_.nL h.Maps h.Tx.Ring.oA h.Tx.Ring.nG h.Tx.Ring.Head h.Tx.Ring.qQ h.Tx.n9.oA h.Tx.n9.nG h.Tx.n9.Count h.Tx.n9.oe h.Tx.nD h.Tx.Next qd qc pe h.nT h.Filter.Wj h.Filter.oH h.Filter.pE h.nk.oM h.nk.Table.nH h.nk.oa.Key h.nk.oa.Table h.oE h.p9 h.tU h.oG h.oU qE qF qG qH qI))=(fun n qd qc pe qE qF qG qH qI=>s_ Vm.ke tQ N n qd qc pe qE qF qG qH qI N):=by
  funext n qd qc pe qE qF qG qH qI
  exact nqZ N n h.n_.nL h.Maps h.Tx.Ring.oA h.Tx.Ring.nG h.Tx.Ring.Head h.Tx.Ring.qQ h.Tx.n9.oA h.Tx.n9.nG h.Tx.n9.Count h.Tx.n9.oe h.Tx.nD h.Tx.Next qd qc pe h.nT h.Filter.Wj h.Filter.oH h.Filter.pE h.nk.oM h.nk.Table.nH h.nk.oa.Key h.nk.oa.Table h.oE h.p9 h.tU h.oG h.oU qE qF qG qH qI N
 exact congrArg (fun l_=>RM Vm.ke tQ l_ h) e0
theorem nsD:Ee Tryz.prog 36 rW:=by
 refine qD (A:=Nl) nsF Tryz.func36 fun ds (hw:kc (nt.ct++[]) ds) aJ=> ?_
 obtain⟨h,ds,rfl,_,hw⟩:=nt.nB (r:=_) hw
 obtain rfl:=nw hw
 obtain⟨N,hN⟩:=nsC Vm.ke tQ h aJ
 exact⟨N,((nsE N h).trans hN).trans (by kernel_rfl)⟩
def tM:Sum:= {ps:=[⟨[.str],false⟩,⟨[.i],false⟩],rs:=[⟨[.d_ .i],false⟩],fn:=fun ds=>(true,[.int (tT (rS ds 0) (rI ds 1))])}
theorem TM:Ee Tryz.prog 335 tM:=by
 refine nQ JH Tryz.func335 fun ds (hw:kc ([.str,.i]) ds) _=> ?_
 obtain⟨s,ds,rfl,yZ,hw⟩:=xL hw
 obtain⟨at_,rfl,OL⟩:=nz hw
 exact⟨0,eT (ntt Vm.ke (fun r0=>((true,[.int r0]):kL)) s at_ yZ OL)⟩
def zI:Sum:= {ps:=[⟨[.str],false⟩,⟨[.i],false⟩,⟨[.i],false⟩],rs:=[⟨[.d_ .bool],false⟩],fn:=fun ds=>(true,[.bool (qX (rS ds 0) (rI ds 1) (rI ds 2))])}
theorem Rj:Ee Tryz.prog 309 zI:=by
 refine nQ JH Tryz.func309 fun ds (hw:kc ([.str,.i,.i]) ds) _=> ?_
 obtain⟨s,ds,rfl,_,hw⟩:=xL hw
 obtain⟨at_,ds,rfl,_,hw⟩:=oc hw
 obtain⟨n,rfl,_⟩:=nz hw
 exact⟨0,eT (nl0 (fun r0=>((true,[.bool r0]):kL)) s at_ n)⟩
def zC:Sum:= {ps:=[⟨[.str],false⟩,⟨[.i],false⟩],rs:=[⟨[.d_ .i],false⟩],fn:=fun ds=>(true,[.int (px (rS ds 0) (rI ds 1))])}
theorem Pw:Ee Tryz.prog 342 zC:=by
 refine nQ (Γ:=[(309,zI)]) (Il Rj JH) Tryz.func342 fun ds (hw:kc ([.str,.i]) ds) _=> ?_
 obtain⟨s,ds,rfl,yZ,hw⟩:=xL hw
 obtain⟨at_,rfl,_⟩:=nz hw
 exact⟨0,eT (ntK Vm.ke (fun r0=>((true,[.int r0]):kL)) s at_ yZ)⟩
theorem TP:Ee Tryz.prog 341 tM:=by
 refine nQ (Γ:=[(309,zI),(342,zC)]) (Il Rj (Il Pw JH)) Tryz.func341 fun ds (hw:kc ([.str,.i]) ds) _=> ?_
 obtain⟨s,ds,rfl,yZ,hw⟩:=xL hw
 obtain⟨at_,rfl,OL⟩:=nz hw
 exact⟨0,eT (ntL (fun r0=>((true,[.int r0]):kL)) s at_ yZ OL)⟩
def sP:Sum:= {ps:=[⟨[.i],false⟩],rs:=[⟨[.d_ .str],false⟩],fn:=fun ds=>(true,[.str (qv (rI ds 0))])}
theorem RB:Ee Tryz.prog 392 sP:=by
 refine nQ (Γ:=[(55,nK)]) (Il oV JH) Tryz.func392 fun ds (hw:kc ([.i]) ds) _=> ?_
 obtain⟨v,rfl,_⟩:=nz hw
 exact⟨0,eT (nfQ (fun r0=>((true,[.str r0]):kL)) v)⟩
theorem RN:Ee Tryz.prog 351 sP:=by
 refine nQ (Γ:=[(37,nK)]) (Il pG JH) Tryz.func351 fun ds (hw:kc ([.i]) ds) _=> ?_
 obtain⟨v,rfl,_⟩:=nz hw
 exact⟨0,eT (nfQ (fun r0=>((true,[.str r0]):kL)) v)⟩
def rn:Sum:= {ps:=[⟨[.i],false⟩],rs:=[⟨[.d_ .str],false⟩],fn:=fun ds=>(true,[.str (oK (rI ds 0))])}
theorem xH:Ee Tryz.prog 355 rn:=by
 refine nQ (Γ:=[(55,nK)]) (Il oV JH) Tryz.func355 fun ds (hw:kc ([.i]) ds) _=> ?_
 obtain⟨v,rfl,_⟩:=nz hw
 exact⟨0,eT (nfP (fun r0=>((true,[.str r0]):kL)) v)⟩
theorem Np:Ee Tryz.prog 264 rn:=by
 refine nQ (Γ:=[(37,nK)]) (Il pG JH) Tryz.func264 fun ds (hw:kc ([.i]) ds) _=> ?_
 obtain⟨v,rfl,_⟩:=nz hw
 exact⟨0,eT (nfP (fun r0=>((true,[.str r0]):kL)) v)⟩
def OQ:Sum:= {ps:=[⟨[.i],false⟩,⟨[.i],false⟩],rs:=[⟨[.d_ .i],false⟩],fn:=fun ds=>(true,[.int (nh8 (rI ds 0) (rI ds 1))])}
theorem npl:Ee Tryz.prog 444 OQ:=by
 refine nQ (Γ:=[(55,nK)]) (Il oV JH) Tryz.func444 fun ds (hw:kc ([.i,.i]) ds) _=> ?_
 obtain⟨a,ds,rfl,_,hw⟩:=oc hw
 obtain⟨b,rfl,_⟩:=nz hw
 exact⟨0,eT (ncH (fun r0=>((true,[.int r0]):kL)) a b)⟩
theorem nqR:Ee Tryz.prog 443 OQ:=by
 refine nQ (Γ:=[(37,nK)]) (Il pG JH) Tryz.func443 fun ds (hw:kc ([.i,.i]) ds) _=> ?_
 obtain⟨a,ds,rfl,_,hw⟩:=oc hw
 obtain⟨b,rfl,_⟩:=nz hw
 exact⟨0,eT (ncH (fun r0=>((true,[.int r0]):kL)) a b)⟩
def vA:Sum:= {ps:=[⟨[.str],false⟩],rs:=[⟨[.d_ .i],false⟩],fn:=fun ds=>(ss (rS ds 0),[.int (X7 (rS ds 0))])}
def naT:Ctx:=[(444,OQ)]
theorem nmY:bH Tryz.prog naT:=Il npl JH
def naS:List (Nat×lC):=[(3, {cb:=[(0,.mL),(3,.mL),(4,.mL)],boxes:=[]})]
def naU:Int→kL:=(fun r0=>((true,[.int r0]):kL))
def nkq (s:Bytes) (sum i:Int):St:= {n:=33,sl:=[(0,.str s),(3,.int .i64 sum),(4,.int .i64 i)],hp:=[],ok:=true,ls:=[],lm:=[]}
theorem nmX:Ee Tryz.prog 436 vA:=by
 refine qD (A:=naS) nmY Tryz.func436 fun ds (hw:kc ([.str]) ds) aJ=> ?_
 obtain⟨s,rfl,yZ⟩:=qJ hw
 obtain⟨N,hN⟩:=nmW Vm.ke naU s yZ aJ
 exact⟨N,eL (fun l_=>Sq Vm.ke naU l_ s) (X2 (LX Tryz.prog naT naS N Tryz.f436 vA [true,true,false,true,false] []) (nkq s) _ N) hN⟩
def ncg:Ctx:=[(443,OQ)]
theorem noM:bH Tryz.prog ncg:=Il nqR JH
def ncf:List (Nat×lC):=[(3, {cb:=[(0,.mL),(3,.mL),(4,.mL)],boxes:=[]})]
def nch:Int→kL:=(fun r0=>((true,[.int r0]):kL))
def nlZ (s:Bytes) (sum i:Int):St:= {n:=33,sl:=[(0,.str s),(3,.int .i64 sum),(4,.int .i64 i)],hp:=[],ok:=true,ls:=[],lm:=[]}
theorem noL:Ee Tryz.prog 432 vA:=by
 refine qD (A:=ncf) noM Tryz.func432 fun ds (hw:kc ([.str]) ds) aJ=> ?_
 obtain⟨s,rfl,yZ⟩:=qJ hw
 obtain⟨N,hN⟩:=noK Vm.ke nch s yZ aJ
 exact⟨N,eL (fun l_=>SR Vm.ke nch l_ s) (X2 (LX Tryz.prog ncg ncf N Tryz.f432 vA [true,true,false,true,false] []) (nlZ s) _ N) hN⟩
def vt:Sum:= {ps:=[⟨[.str],false⟩],rs:=[⟨[.d_ .i],false⟩],fn:=fun ds=>(ss (rS ds 0),[.int (OB (rS ds 0))])}
theorem nal:Ee Tryz.prog 415 vt:=by
 refine nQ (Γ:=[(436,vA)]) (Il nmX JH) Tryz.func415 fun ds (hw:kc ([.str]) ds) aJ=> ?_
 obtain⟨s,rfl,_⟩:=qJ hw
 exact⟨0,eT (nak Vm.ke (fun r0=>((true,[.int r0]):kL)) s aJ)⟩
theorem nbO:Ee Tryz.prog 404 vt:=by
 refine nQ (Γ:=[(432,vA)]) (Il noL JH) Tryz.func404 fun ds (hw:kc ([.str]) ds) aJ=> ?_
 obtain⟨s,rfl,_⟩:=qJ hw
 exact⟨0,eT (nak Vm.ke (fun r0=>((true,[.int r0]):kL)) s aJ)⟩
def uj:Sum:= {ps:=[⟨[.str],false⟩,⟨[.i],false⟩,⟨[.str],false⟩],rs:=[⟨[.d_ .str],false⟩],fn:=fun ds=>(q_ (rS ds 0) (rI ds 1) (rS ds 2),[.str (uW (rS ds 0) (rI ds 1) (rS ds 2))])}
theorem naJ:Ee Tryz.prog 388 uj:=by
 refine nQ JH Tryz.func388 fun ds (hw:kc ([.str,.i,.str]) ds) aJ=> ?_
 obtain⟨s,ds,rfl,_,hw⟩:=xL hw
 obtain⟨at_,ds,rfl,_,hw⟩:=oc hw
 obtain⟨part,rfl,_⟩:=qJ hw
 exact⟨0,eT (nmP Vm.ke (fun r0=>((true,[.str r0]):kL)) s at_ part aJ)⟩
theorem SP:Ee Tryz.prog 223 uj:=by
 refine nQ (Γ:=[(309,zI)]) (Il Rj JH) Tryz.func223 fun ds (hw:kc ([.str,.i,.str]) ds) aJ=> ?_
 obtain⟨s,ds,rfl,_,hw⟩:=xL hw
 obtain⟨at_,ds,rfl,_,hw⟩:=oc hw
 obtain⟨part,rfl,_⟩:=qJ hw
 exact⟨0,eT (noE Vm.ke (fun r0=>((true,[.str r0]):kL)) s at_ part aJ)⟩
def wj:Sum:= {ps:=[⟨[.i],false⟩,⟨[.i],false⟩,⟨[.i],false⟩,⟨[.i],false⟩],rs:=[⟨[.d_ .str],false⟩,⟨[.d_ .bool],false⟩],fn:=fun ds=>(true,[.str (qT (rI ds 0) (rI ds 1) (rI ds 2) (rI ds 3)).1]++[.bool (qT (rI ds 0) (rI ds 1) (rI ds 2) (rI ds 3)).2])}
theorem ne2:Ee Tryz.prog 414 wj:=by
 refine nQ (Γ:=[(55,nK),(355,rn),(392,sP)]) (Il oV (Il xH (Il RB JH))) Tryz.func414 fun ds (hw:kc ([.i,.i,.i,.i]) ds) _=> ?_
 obtain⟨src,ds,rfl,_,hw⟩:=oc hw
 obtain⟨dst,ds,rfl,_,hw⟩:=oc hw
 obtain⟨kind,ds,rfl,_,hw⟩:=oc hw
 obtain⟨length,rfl,_⟩:=nz hw
 exact⟨0,eT (S2 Vm.ke (fun r0 r1=>((true,[.str r0]++[.bool r1]):kL)) src dst kind length)⟩
theorem nfA:Ee Tryz.prog 403 wj:=by
 refine nQ (Γ:=[(37,nK),(264,rn),(351,sP)]) (Il pG (Il Np (Il RN JH))) Tryz.func403 fun ds (hw:kc ([.i,.i,.i,.i]) ds) _=> ?_
 obtain⟨src,ds,rfl,_,hw⟩:=oc hw
 obtain⟨dst,ds,rfl,_,hw⟩:=oc hw
 obtain⟨kind,ds,rfl,_,hw⟩:=oc hw
 obtain⟨length,rfl,_⟩:=nz hw
 exact⟨0,eT (S2 Vm.ke (fun r0 r1=>((true,[.str r0]++[.bool r1]):kL)) src dst kind length)⟩
def nba:Sum:= {ps:=[⟨[.i],false⟩],rs:=[⟨[.d_ .i],false⟩],fn:=fun ds=>(true,[.int (Nq (rI ds 0))])}
theorem nnf:Ee Tryz.prog 416 nba:=by
 refine nQ JH Tryz.func416 fun ds (hw:kc ([.i]) ds) _=> ?_
 obtain⟨kind,rfl,_⟩:=nz hw
 exact⟨0,eT (nne (fun r0=>((true,[.int r0]):kL)) kind)⟩
def Uv:Sum:= {ps:=[⟨nA.ct,true⟩],rs:=[⟨[.d_ .str],false⟩],fn:=fun ds=>(ntm (nA.nd ds 0),[.str (pz (nA.nd ds 0))])}
theorem ngW:Ee Tryz.prog 413 Uv:=by
 refine nQ (Γ:=[(355,rn),(392,sP)]) (Il xH (Il RB JH)) Tryz.func413 fun ds (hw:kc (nA.ct++[]) ds) aJ=> ?_
 obtain⟨g,ds,rfl,_,hw⟩:=nA.nB (r:=_) hw
 obtain rfl:=nw hw
 exact⟨0,eT (ngV Vm.ke (fun r0=>((true,[.str r0]):kL)) g aJ)⟩
def wh:Sum:= {ps:=[⟨[.i],false⟩,⟨[.i],false⟩,⟨nA.ct,true⟩],rs:=[⟨[.d_ .str],false⟩,⟨[.d_ .bool],false⟩],fn:=fun ds=>(true,[.str (sC (rI ds 0) (rI ds 1) (nA.nd ds 2)).1]++[.bool (sC (rI ds 0) (rI ds 1) (nA.nd ds 2)).2])}
theorem neY:Ee Tryz.prog 368 wh:=by
 refine nQ (Γ:=[(300,uR),(355,rn),(388,uj),(413,Uv),(414,wj),(415,vt),(416,nba)]) (Il Yl (Il xH (Il naJ (Il ngW (Il ne2 (Il nal (Il nnf JH))))))) Tryz.func368 fun ds (hw:kc (.i::(.i::(nA.ct++[]))) ds) _=> ?_
 obtain⟨src,ds,rfl,_,hw⟩:=oc hw
 obtain⟨dst,ds,rfl,_,hw⟩:=oc hw
 obtain⟨g,ds,rfl,_,hw⟩:=nA.nB (r:=_) hw
 obtain rfl:=nw hw
 exact⟨0,eT (neX Vm.ke (fun r0 r1=>((true,[.str r0]++[.bool r1]):kL)) src dst g)⟩
theorem nfx:Ee Tryz.prog 347 wh:=by
 refine nQ (Γ:=[(223,uj),(264,rn),(289,uR),(351,sP),(403,wj),(404,vt)]) (Il SP (Il Np (Il ZP (Il RN (Il nfA (Il nbO JH)))))) Tryz.func347 fun ds (hw:kc (.i::(.i::(nA.ct++[]))) ds) _=> ?_
 obtain⟨src,ds,rfl,_,hw⟩:=oc hw
 obtain⟨dst,ds,rfl,_,hw⟩:=oc hw
 obtain⟨g,ds,rfl,_,hw⟩:=nA.nB (r:=_) hw
 obtain rfl:=nw hw
 exact⟨0,eT (nfw Vm.ke (fun r0 r1=>((true,[.str r0]++[.bool r1]):kL)) src dst g)⟩
def Wn:Sum:= {ps:=[⟨wS.ct,true⟩],rs:=[⟨[.d_ .bool],false⟩],fn:=fun ds=>(true,[.bool (ns9 (wS.nd ds 0))])}
theorem nt8:Ee Tryz.prog 435 Wn:=by
 refine nQ (Γ:=[(55,nK)]) (Il oV JH) Tryz.func435 fun ds (hw:kc (wS.ct++[]) ds) _=> ?_
 obtain⟨d,ds,rfl,_,hw⟩:=wS.nB (r:=_) hw
 obtain rfl:=nw hw
 exact⟨0,eT (nmd (fun r0=>((true,[.bool r0]):kL)) d)⟩
theorem nul:Ee Tryz.prog 431 Wn:=by
 refine nQ (Γ:=[(37,nK)]) (Il pG JH) Tryz.func431 fun ds (hw:kc (wS.ct++[]) ds) _=> ?_
 obtain⟨d,ds,rfl,_,hw⟩:=wS.nB (r:=_) hw
 obtain rfl:=nw hw
 exact⟨0,eT (nmd (fun r0=>((true,[.bool r0]):kL)) d)⟩
def Ns:Sum:= {ps:=[⟨wS.ct,true⟩],rs:=[⟨[.d_ .str],false⟩,⟨[.d_ .bool],false⟩],fn:=fun ds=>(true,[.str (vJ (wS.nd ds 0)).1]++[.bool (vJ (wS.nd ds 0)).2])}
theorem nmL:Ee Tryz.prog 412 Ns:=by
 refine nQ (Γ:=[(355,rn),(388,uj),(392,sP),(415,vt),(435,Wn)]) (Il xH (Il naJ (Il RB (Il nal (Il nt8 JH))))) Tryz.func412 fun ds (hw:kc (wS.ct++[]) ds) _=> ?_
 obtain⟨d,ds,rfl,_,hw⟩:=wS.nB (r:=_) hw
 obtain rfl:=nw hw
 exact⟨0,eT (naD Vm.ke (fun r0 r1=>((true,[.str r0]++[.bool r1]):kL)) d)⟩
theorem noA:Ee Tryz.prog 402 Ns:=by
 refine nQ (Γ:=[(223,uj),(264,rn),(351,sP),(404,vt),(431,Wn)]) (Il SP (Il Np (Il RN (Il nbO (Il nul JH))))) Tryz.func402 fun ds (hw:kc (wS.ct++[]) ds) _=> ?_
 obtain⟨d,ds,rfl,_,hw⟩:=wS.nB (r:=_) hw
 obtain rfl:=nw hw
 exact⟨0,eT (naD Vm.ke (fun r0 r1=>((true,[.str r0]++[.bool r1]):kL)) d)⟩
def OR:Sum:= {ps:=[⟨wS.ct,true⟩],rs:=[⟨[.d_ .str],false⟩,⟨[.d_ .bool],false⟩],fn:=fun ds=>(true,[.str (Wh (wS.nd ds 0)).1]++[.bool (Wh (wS.nd ds 0)).2])}
theorem npm:Ee Tryz.prog 367 OR:=by
 refine nQ (Γ:=[(412,Ns)]) (Il nmL JH) Tryz.func367 fun ds (hw:kc (wS.ct++[]) ds) _=> ?_
 obtain⟨d,ds,rfl,_,hw⟩:=wS.nB (r:=_) hw
 obtain rfl:=nw hw
 exact⟨0,eT (ncJ Vm.ke (fun r0 r1=>((true,[.str r0]++[.bool r1]):kL)) d)⟩
theorem nqS:Ee Tryz.prog 346 OR:=by
 refine nQ (Γ:=[(402,Ns)]) (Il noA JH) Tryz.func346 fun ds (hw:kc (wS.ct++[]) ds) _=> ?_
 obtain⟨d,ds,rfl,_,hw⟩:=wS.nB (r:=_) hw
 obtain rfl:=nw hw
 exact⟨0,eT (ncJ Vm.ke (fun r0 r1=>((true,[.str r0]++[.bool r1]):kL)) d)⟩
def TK:Sum:= {ps:=[⟨sf.ct,true⟩],rs:=[⟨[.d_ .bool],false⟩],fn:=fun ds=>(true,[.bool (nah (sf.nd ds 0))])}
theorem ntr:Ee Tryz.prog 366 TK:=by
 refine nQ (Γ:=[(55,nK)]) (Il oV JH) Tryz.func366 fun ds (hw:kc (sf.ct++[]) ds) _=> ?_
 obtain⟨e,ds,rfl,_,hw⟩:=sf.nB (r:=_) hw
 obtain rfl:=nw hw
 exact⟨0,eT (nim (fun r0=>((true,[.bool r0]):kL)) e)⟩
theorem ntJ:Ee Tryz.prog 345 TK:=by
 refine nQ (Γ:=[(37,nK)]) (Il pG JH) Tryz.func345 fun ds (hw:kc (sf.ct++[]) ds) _=> ?_
 obtain⟨e,ds,rfl,_,hw⟩:=sf.nB (r:=_) hw
 obtain rfl:=nw hw
 exact⟨0,eT (nim (fun r0=>((true,[.bool r0]):kL)) e)⟩
def niE:Sum:= {ps:=[⟨[.sl [.i,.i,.i,.bool]],false⟩,⟨[.i],false⟩,⟨[.i],false⟩,⟨[.bool],false⟩],rs:=[⟨[.d_ .i],false⟩],fn:=fun ds=>(true,[.int (place (rR ds 0) (rI ds 1) (rI ds 2) (rB ds 3))])}
theorem ntw:Ee Tryz.prog 399 niE:=by
 refine nQ (Γ:=[(234,xc)]) (Il UH JH) Tryz.func399 fun ds (hw:kc ([.sl [.i,.i,.i,.bool],.i,.i,.bool]) ds) _=> ?_
 obtain⟨na,ds,rfl,pP,hw⟩:=oq hw
 obtain⟨domain,ds,rfl,_,hw⟩:=oc hw
 obtain⟨address,ds,rfl,_,hw⟩:=oc hw
 obtain⟨write,rfl,_⟩:=R8 hw
 exact⟨0,eT (ntv Vm.ke (fun r0=>((true,[.int r0]):kL)) na domain address write pP)⟩
def uM:Sum:= {ps:=[⟨nc.ct,true⟩,⟨[.i],false⟩,⟨[.i],false⟩],rs:=[⟨[.d_ .bool],false⟩],fn:=fun ds=>(true,[.bool (within (nc.nd ds 0) (rI ds 1) (rI ds 2))])}
theorem XJ:Ee Tryz.prog 400 uM:=by
 refine nQ (Γ:=[(113,rX)]) (Il Sn JH) Tryz.func400 fun ds hw _=> ?_
 replace hw:kc (nc.ct++[.i,.i]) ds:=hw
 obtain⟨m,ds,rfl,_,hw⟩:=nc.nB (r:=_) hw
 obtain⟨at_,ds,rfl,_,hw⟩:=oc hw
 obtain⟨n,rfl,_⟩:=nz hw
 exact⟨0,eT (nr0 (fun r0=>((true,[.bool r0]):kL)) m at_ n)⟩
theorem Rl:Ee Tryz.prog 344 uM:=by
 refine nQ (Γ:=[(134,rX)]) (Il SM JH) Tryz.func344 fun ds hw _=> ?_
 replace hw:kc (nc.ct++[.i,.i]) ds:=hw
 obtain⟨m,ds,rfl,T6,hw⟩:=nc.nB (r:=_) hw
 obtain⟨at_,ds,rfl,OL,hw⟩:=oc hw
 obtain⟨n,rfl,h_n⟩:=nz hw
 exact⟨0,eT (nl1 (fun r0=>((true,[.bool r0]):kL)) m at_ n T6 OL h_n)⟩
def N5:Sum:= {ps:=[⟨nc.ct,true⟩,⟨[.i],false⟩,⟨[.str],false⟩],rs:=[⟨[.own 9 [.str]],true⟩,⟨[.d_ .bool],false⟩],fn:=fun ds=>(sr (nc.nd ds 0) (rI ds 1) (rS ds 2),nc.enc (qA (nc.nd ds 0) (rI ds 1) (rS ds 2)).1++[.bool (qA (nc.nd ds 0) (rI ds 1) (rS ds 2)).2])}
def Us:Ctx:=[(1125899906842657,J9),(160,sW),(400,uM)]
theorem ngU:bH Tryz.prog Us:=Il Lw (Il ug (Il XJ JH))
def Ur:List (Nat×lC):=[(4, {cb:=[(1,.mL),(2,.mL),(6,.mL),(8,.mL)],boxes:=[(192,[]),(384,[]),(512,[])]})]
def Ut:nc→Bool→kL:=(fun r0 r1=>((true,nc.enc r0++[.bool r1]):kL))
def ne4 (rD:Int) (tR:Bytes) (rz og:Rows):St:= {n:=50,sl:=[(1,.int .i64 rD),(2,.str tR),(6,.ptr 384 0),(8,.ptr 512 0)],hp:=[(192,.box 54 [.sl [.str] rz]),(384,.box 54 [.nil]),(512,.box 54 [.own 1411072]),(1411072,.row 9 [.str] og false true)],ok:=true,ls:=[],lm:=[]}
theorem ngT:Ee Tryz.prog 441 N5:=by
 refine qD (A:=Ur) ngU Tryz.func441 fun ds hw aJ=> ?_
 replace hw:kc (nc.ct++[.i,.str]) ds:=hw
 obtain⟨m,ds,rfl,T6,hw⟩:=nc.nB (r:=_) hw
 obtain⟨at_,ds,rfl,_,hw⟩:=oc hw
 obtain⟨s,rfl,_⟩:=qJ hw
 obtain⟨N,hN⟩:=ngS Vm.ke Ut m at_ s T6 aJ
 exact⟨N,eL (fun l_=>N6 Vm.ke Ut l_ m at_ s) (nL3 (LX Tryz.prog Us Ur N Tryz.f441 N5 [true,true,true,false,false] []) (fun rD tR og=>ne4 rD tR m.nL og) _ N) hN⟩
def RF:Sum:= {ps:=[⟨[.sl [.i,.i,.i,.bool]],false⟩,⟨nc.ct,true⟩,⟨[.i],false⟩,⟨[.i],false⟩,⟨[.i],false⟩,⟨[.bool],false⟩],rs:=[⟨[.own 378 [.i,.i]],false⟩,⟨[.d_ .bool],false⟩],fn:=fun ds=>(true,[.sl (rN (rR ds 0) (nc.nd ds 1) (rI ds 2) (rI ds 3) (rI ds 4) (rB ds 5)).1]++[.bool (rN (rR ds 0) (nc.nd ds 1) (rI ds 2) (rI ds 3) (rI ds 4) (rB ds 5)).2])}
def nfU:Ctx:=[(55,nK),(113,rX),(114,rv),(399,niE),(400,uM)]
theorem nrW:bH Tryz.prog nfU:=Il oV (Il Sn (Il Ws (Il ntw (Il XJ JH))))
def nfT:List (Nat×lC):=[(8, {cb:=[(0,.mL),(2,.mL),(3,.mL),(4,.mL),(5,.mL),(7,.mL),(14,.mL)],boxes:=[(448,[])]})]
def nfV:Rows→Bool→kL:=(fun r0 r1=>((true,[.sl r0]++[.bool r1]):kL))
def npS (na:Rows) (domain rD n_1:Int) (write:Bool) (rz oh:Rows):St:= {n:=75,sl:=[(0,.sl [.i,.i,.i,.bool] na),(2,.int .i64 domain),(3,.int .i64 rD),(4,.int .i64 n_1),(5,.bool write),(7,.ptr 448 0),(14,.own 640896)],hp:=[(448,.box 54 [.sl [.str] rz]),(640896,.row 378 [.i,.i] oh false true)],ok:=true,ls:=[],lm:=[]}
theorem nfX:Ee Tryz.prog 332 RF:=by
 refine qD (A:=nfT) nrW Tryz.func332 fun ds hw _=> ?_
 replace hw:kc ((.sl [.i,.i,.i,.bool])::(nc.ct++[.i,.i,.i,.bool])) ds:=hw
 obtain⟨na,ds,rfl,_,hw⟩:=oq hw
 obtain⟨m,ds,rfl,_,hw⟩:=nc.nB (r:=_) hw
 obtain⟨domain,ds,rfl,_,hw⟩:=oc hw
 obtain⟨at_,ds,rfl,OL,hw⟩:=oc hw
 obtain⟨n,ds,rfl,_,hw⟩:=oc hw
 obtain⟨write,rfl,_⟩:=R8 hw
 obtain⟨N,hN⟩:=nrV Vm.ke nfV na m domain at_ n write OL
 exact⟨N,eL (fun l_=>XF Vm.ke nfV l_ na m domain at_ n write) (funext fun rz=>nL3 (LX Tryz.prog nfU nfT N Tryz.f332 RF [true,true,true,true,true,false,false] []) (fun rD n_1 oh=>npS na domain rD n_1 write rz oh) _ N) hN⟩
def ng0:Sum:= {ps:=[⟨[.sl [.i,.i,.i,.bool]],false⟩,⟨nc.ct,true⟩,⟨[.i],false⟩,⟨[.i],false⟩,⟨[.str],false⟩,⟨[.bool],false⟩],rs:=[⟨[.own 9 [.str]],true⟩,⟨[.d_ .bool],false⟩],fn:=fun ds=>(ntG (rR ds 0) (nc.nd ds 1) (rI ds 2) (rI ds 3) (rS ds 4) (rB ds 5),nc.enc (put (rR ds 0) (nc.nd ds 1) (rI ds 2) (rI ds 3) (rS ds 4) (rB ds 5)).1++[.bool (put (rR ds 0) (nc.nd ds 1) (rI ds 2) (rI ds 3) (rS ds 4) (rB ds 5)).2])}
def npP:Ctx:=[(160,sW),(332,RF),(441,N5)]
theorem nu1:bH Tryz.prog npP:=Il ug (Il nfX (Il ngT JH))
def npO:List (Nat×lC):=[(6, {cb:=[(4,.mL),(12,.mL),(14,.mL),(35,.mL),(36,.mL),(37,.mL)],boxes:=[(448,[]),(768,[]),(896,[])]})]
def npQ:nc→Bool→kL:=(fun r0 r1=>((true,nc.enc r0++[.bool r1]):kL))
def nub (tR:Bytes) (x oy:Int) (rz oN og:Rows):St:= {n:=58,sl:=[(4,.str tR),(12,.ptr 768 0),(14,.ptr 896 0),(35,.own 642240),(36,.int .i64 x),(37,.int .i64 oy)],hp:=[(448,.box 54 [.sl [.str] rz]),(768,.box 54 [.nil]),(896,.box 54 [.own 1509376]),(642240,.row 378 [.i,.i] oN false true),(1509376,.row 9 [.str] og false true)],ok:=true,ls:=[],lm:=[]}
theorem nu0:Ee Tryz.prog 421 ng0:=by
 refine qD (A:=npO) nu1 Tryz.func421 fun ds hw aJ=> ?_
 replace hw:kc ((.sl [.i,.i,.i,.bool])::(nc.ct++[.i,.i,.str,.bool])) ds:=hw
 obtain⟨na,ds,rfl,_,hw⟩:=oq hw
 obtain⟨m,ds,rfl,T6,hw⟩:=nc.nB (r:=_) hw
 obtain⟨domain,ds,rfl,_,hw⟩:=oc hw
 obtain⟨at_,ds,rfl,_,hw⟩:=oc hw
 obtain⟨s,ds,rfl,yZ,hw⟩:=xL hw
 obtain⟨write,rfl,_⟩:=R8 hw
 obtain⟨N,hN⟩:=nuZ Vm.ke npQ na m domain at_ s write T6 yZ aJ
 exact⟨N,eL (fun l_=>ng1 Vm.ke npQ l_ na m domain at_ s write) (funext fun x=>funext fun oN=>nL3 (LX Tryz.prog npP npO N Tryz.f421 ng0 [true,true,true,true,false,true,false] []) (fun tR oy og=>nub tR x oy m.nL oN og) _ N) hN⟩
def nao:Sum:= {ps:=[⟨[.sl [.i,.i,.i,.bool]],false⟩,⟨nc.ct,true⟩,⟨[.i],false⟩,⟨[.i],false⟩,⟨[.str],false⟩],rs:=[⟨[.own 9 [.str]],true⟩,⟨[.d_ .bool],false⟩],fn:=fun ds=>(wU (rR ds 0) (nc.nd ds 1) (rI ds 2) (rI ds 3) (rS ds 4),nc.enc (tS (rR ds 0) (nc.nd ds 1) (rI ds 2) (rI ds 3) (rS ds 4)).1++[.bool (tS (rR ds 0) (nc.nd ds 1) (rI ds 2) (rI ds 3) (rS ds 4)).2])}
theorem nmB:Ee Tryz.prog 374 nao:=by
 refine nQ (Γ:=[(421,ng0)]) (Il nu0 JH) Tryz.func374 fun ds hw aJ=> ?_
 replace hw:kc ((.sl [.i,.i,.i,.bool])::(nc.ct++[.i,.i,.str])) ds:=hw
 obtain⟨na,ds,rfl,_,hw⟩:=oq hw
 obtain⟨m,ds,rfl,_,hw⟩:=nc.nB (r:=_) hw
 obtain⟨domain,ds,rfl,_,hw⟩:=oc hw
 obtain⟨at_,ds,rfl,_,hw⟩:=oc hw
 obtain⟨s,rfl,_⟩:=qJ hw
 exact⟨0,eT (nmA Vm.ke (fun r0 r1=>((true,nc.enc r0++[.bool r1]):kL)) na m domain at_ s aJ)⟩
def V2:Sum:= {ps:=[⟨[.sl [.i,.i,.i,.bool]],false⟩,⟨[.i],false⟩,⟨[.i],false⟩,⟨[.bool],false⟩],rs:=[⟨[.d_ .i],false⟩],fn:=fun ds=>(true,[.int (wv (rR ds 0) (rI ds 1) (rI ds 2) (rB ds 3))])}
def nes:List (Nat×lC):=[(2, {cb:=[(0,.mL),(1,.mL),(2,.mL),(3,.mL),(9,.mL)],boxes:=[]})]
def net:Int→kL:=(fun r0=>((true,[.int r0]):kL))
def noP (na:Rows) (domain pc:Int) (write:Bool) (k:Int):St:= {n:=48,sl:=[(0,.sl [.i,.i,.i,.bool] na),(1,.int .i64 domain),(2,.int .i64 pc),(3,.bool write),(9,.int .i64 k)],hp:=[],ok:=true,ls:=[],lm:=[]}
theorem nrl:Ee Tryz.prog 343 V2:=by
 refine qD (A:=nes) JH Tryz.func343 fun ds (hw:kc ([.sl [.i,.i,.i,.bool],.i,.i,.bool]) ds) _=> ?_
 obtain⟨na,ds,rfl,pP,hw⟩:=oq hw
 obtain⟨domain,ds,rfl,_,hw⟩:=oc hw
 obtain⟨pc,ds,rfl,_,hw⟩:=oc hw
 obtain⟨write,rfl,_⟩:=R8 hw
 obtain⟨N,hN⟩:=nrk Vm.ke net na domain pc write pP
 exact⟨N,eL (fun l_=>V3 Vm.ke net l_ na domain pc write) (nL1 (LX Tryz.prog [] nes N Tryz.f343 V2 [true,false,true,false] []) (noP na domain pc write) _ N) hN⟩
def NU:Sum:= {ps:=[⟨[.sl [.i,.i,.i,.bool]],false⟩,⟨nc.ct,true⟩,⟨[.i],false⟩,⟨[.i],false⟩,⟨[.i],false⟩,⟨[.bool],false⟩],rs:=[⟨[.own 3 [.i]],false⟩,⟨[.own 3 [.i]],false⟩,⟨[.d_ .bool],false⟩],fn:=fun ds=>(true,[.sl (yF (rR ds 0) (nc.nd ds 1) (rI ds 2) (rI ds 3) (rI ds 4) (rB ds 5)).1]++[.sl (yF (rR ds 0) (nc.nd ds 1) (rI ds 2) (rI ds 3) (rI ds 4) (rB ds 5)).2.1]++[.bool (yF (rR ds 0) (nc.nd ds 1) (rI ds 2) (rI ds 3) (rI ds 4) (rB ds 5)).2.2])}
def nck:Ctx:=[(37,nK),(134,rX),(135,rv),(343,V2),(344,uM)]
theorem noR:bH Tryz.prog nck:=Il pG (Il SM (Il Xp (Il nrl (Il Rl JH))))
def ncj:List (Nat×lC):=[(5, {cb:=[(0,.mL),(2,.mL),(3,.mL),(4,.mL),(5,.mL),(7,.mL),(15,.mL),(16,.mL)],boxes:=[(448,[])]})]
def ncl:Rows→Rows→Bool→kL:=(fun r0 r1 r2=>((true,[.sl r0]++[.sl r1]++[.bool r2]):kL))
def nl2 (na:Rows) (domain rD n_1:Int) (write:Bool) (rz starts p8:Rows):St:= {n:=83,sl:=[(0,.sl [.i,.i,.i,.bool] na),(2,.int .i64 domain),(3,.int .i64 rD),(4,.int .i64 n_1),(5,.bool write),(7,.ptr 448 0),(15,.own 640960),(16,.own 641024)],hp:=[(448,.box 54 [.sl [.str] rz]),(640960,.row 3 [.i] starts false true),(641024,.row 3 [.i] p8 false true)],ok:=true,ls:=[],lm:=[]}
theorem ncn:Ee Tryz.prog 258 NU:=by
 refine qD (A:=ncj) noR Tryz.func258 fun ds hw _=> ?_
 replace hw:kc ((.sl [.i,.i,.i,.bool])::(nc.ct++[.i,.i,.i,.bool])) ds:=hw
 obtain⟨na,ds,rfl,_,hw⟩:=oq hw
 obtain⟨m,ds,rfl,T6,hw⟩:=nc.nB (r:=_) hw
 obtain⟨domain,ds,rfl,_,hw⟩:=oc hw
 obtain⟨at_,ds,rfl,OL,hw⟩:=oc hw
 obtain⟨n,ds,rfl,_,hw⟩:=oc hw
 obtain⟨write,rfl,_⟩:=R8 hw
 obtain⟨N,hN⟩:=noQ Vm.ke ncl na m domain at_ n write T6 OL
 exact⟨N,eL (fun l_=>SW Vm.ke ncl l_ na m domain at_ n write) (funext fun rz=>nL4 (LX Tryz.prog nck ncj N Tryz.f258 NU [true,true,true,true,false,false] []) (fun rD n_1 starts p8=>nl2 na domain rD n_1 write rz starts p8) _ N) hN⟩
def uf:Sum:= {ps:=[⟨nc.ct,true⟩,⟨[.i],false⟩,⟨[.i],false⟩],rs:=[⟨[.d_ .str],false⟩,⟨[.d_ .bool],false⟩],fn:=fun ds=>(true,[.str (qW (nc.nd ds 0) (rI ds 1) (rI ds 2)).1]++[.bool (qW (nc.nd ds 0) (rI ds 1) (rI ds 2)).2])}
def Wu:Ctx:=[(400,uM)]
theorem niu:bH Tryz.prog Wu:=Il XJ JH
def Wt:List (Nat×lC):=[(4, {cb:=[(1,.mL),(2,.mL),(3,.mL),(8,.mL)],boxes:=[(192,[])]})]
def Wv:Bytes→Bool→kL:=(fun r0 r1=>((true,[.str r0]++[.bool r1]):kL))
def ngJ (rD n:Int) (rz oh:Rows):St:= {n:=50,sl:=[(1,.int .i64 rD),(2,.int .i64 n),(3,.ptr 192 0),(8,.own 640512)],hp:=[(192,.box 54 [.sl [.str] rz]),(640512,.row 5 [.int .u8] oh false true)],ok:=true,ls:=[],lm:=[]}
theorem nit:Ee Tryz.prog 333 uf:=by
 refine qD (A:=Wt) niu Tryz.func333 fun ds hw _=> ?_
 replace hw:kc (nc.ct++[.i,.i]) ds:=hw
 obtain⟨m,ds,rfl,T6,hw⟩:=nc.nB (r:=_) hw
 obtain⟨at_,ds,rfl,_,hw⟩:=oc hw
 obtain⟨n,rfl,_⟩:=nz hw
 obtain⟨N,hN⟩:=nis Vm.ke Wv m at_ n T6
 exact⟨N,eL (fun l_=>O1 Vm.ke Wv l_ m at_ n) (funext fun rz=>X2 (LX Tryz.prog Wu Wt N Tryz.f333 uf [true,true,true,false,false] []) (fun rD oh=>ngJ rD n rz oh) _ N) hN⟩
def Xt:Ctx:=[(344,uM)]
theorem njZ:bH Tryz.prog Xt:=Il Rl JH
def Xr:List (Nat×lC):=[(4, {cb:=[(1,.mL),(2,.mL),(3,.mL),(8,.mL)],boxes:=[(192,[])]})]
def Xu:Bytes→Bool→kL:=(fun r0 r1=>((true,[.str r0]++[.bool r1]):kL))
def nhL (rD n_1:Int) (oh:Bytes) (rz:Rows):St:= {n:=44,sl:=[(1,.int .i64 rD),(2,.int .i64 n_1),(3,.ptr 192 0),(8,.str oh)],hp:=[(192,.box 54 [.sl [.str] rz])],ok:=true,ls:=[],lm:=[]}
theorem njY:Ee Tryz.prog 259 uf:=by
 refine qD (A:=Xr) njZ Tryz.func259 fun ds hw _=> ?_
 replace hw:kc (nc.ct++[.i,.i]) ds:=hw
 obtain⟨m,ds,rfl,T6,hw⟩:=nc.nB (r:=_) hw
 obtain⟨at_,ds,rfl,_,hw⟩:=oc hw
 obtain⟨n,rfl,_⟩:=nz hw
 obtain⟨N,hN⟩:=njX Vm.ke Xu m at_ n T6
 exact⟨N,eL (fun l_=>PF Vm.ke Xu l_ m at_ n) (funext fun rz=>nL3 (LX Tryz.prog Xt Xr N Tryz.f259 uf [true,true,true,false,false] []) (fun rD n_1 oh=>nhL rD n_1 oh rz) _ N) hN⟩
def tV:Sum:= {ps:=[⟨[.sl [.i,.i,.i,.bool]],false⟩,⟨nc.ct,true⟩,⟨[.i],false⟩,⟨[.i],false⟩,⟨[.i],false⟩],rs:=[⟨[.d_ .str],false⟩,⟨[.d_ .bool],false⟩],fn:=fun ds=>(true,[.str (tv (rR ds 0) (nc.nd ds 1) (rI ds 2) (rI ds 3) (rI ds 4)).1]++[.bool (tv (rR ds 0) (nc.nd ds 1) (rI ds 2) (rI ds 3) (rI ds 4)).2])}
def ncN:Ctx:=[(332,RF),(333,uf)]
theorem npq:bH Tryz.prog ncN:=Il nfX (Il nit JH)
def ncM:List (Nat×lC):=[(6, {cb:=[(6,.mL),(14,.mL),(30,.mL),(31,.mL),(32,.mL)],boxes:=[(384,[])]})]
def ncO:Bytes→Bool→kL:=(fun r0 r1=>((true,[.str r0]++[.bool r1]):kL))
def nmz (oh:Bytes) (x oy:Int) (rz oN:Rows):St:= {n:=50,sl:=[(6,.ptr 384 0),(14,.str oh),(30,.own 641920),(31,.int .i64 x),(32,.int .i64 oy)],hp:=[(384,.box 54 [.sl [.str] rz]),(641920,.row 378 [.i,.i] oN false true)],ok:=true,ls:=[],lm:=[]}
theorem ncQ:Ee Tryz.prog 242 tV:=by
 refine qD (A:=ncM) npq Tryz.func242 fun ds hw _=> ?_
 replace hw:kc ((.sl [.i,.i,.i,.bool])::(nc.ct++[.i,.i,.i])) ds:=hw
 obtain⟨na,ds,rfl,_,hw⟩:=oq hw
 obtain⟨m,ds,rfl,T6,hw⟩:=nc.nB (r:=_) hw
 obtain⟨domain,ds,rfl,_,hw⟩:=oc hw
 obtain⟨at_,ds,rfl,_,hw⟩:=oc hw
 obtain⟨n,rfl,_⟩:=nz hw
 obtain⟨N,hN⟩:=npp Vm.ke ncO na m domain at_ n T6
 exact⟨N,eL (fun l_=>Ua Vm.ke ncO l_ na m domain at_ n) (funext fun x=>funext fun rz=>funext fun oN=>X2 (LX Tryz.prog ncN ncM N Tryz.f242 tV [true,true,true,true,false,true,false] []) (fun oh oy=>nmz oh x oy rz oN) _ N) hN⟩
def nd2:Ctx:=[(258,NU),(259,uf)]
theorem nqW:bH Tryz.prog nd2:=Il ncn (Il njY JH)
def nd1:List (Nat×lC):=[(6, {cb:=[(6,.mL),(12,.mL),(13,.mL),(15,.mL),(16,.mL)],boxes:=[(384,[])]})]
def nd3:Bytes→Bool→kL:=(fun r0 r1=>((true,[.str r0]++[.bool r1]):kL))
def nol (oh:Bytes) (k:Int) (rz starts p8:Rows):St:= {n:=54,sl:=[(6,.ptr 384 0),(12,.own 640768),(13,.own 640832),(15,.str oh),(16,.int .i64 k)],hp:=[(384,.box 54 [.sl [.str] rz]),(640768,.row 3 [.i] starts false true),(640832,.row 3 [.i] p8 false true)],ok:=true,ls:=[],lm:=[]}
theorem nd5:Ee Tryz.prog 144 tV:=by
 refine qD (A:=nd1) nqW Tryz.func144 fun ds hw _=> ?_
 replace hw:kc ((.sl [.i,.i,.i,.bool])::(nc.ct++[.i,.i,.i])) ds:=hw
 obtain⟨na,ds,rfl,_,hw⟩:=oq hw
 obtain⟨m,ds,rfl,T6,hw⟩:=nc.nB (r:=_) hw
 obtain⟨domain,ds,rfl,_,hw⟩:=oc hw
 obtain⟨at_,ds,rfl,_,hw⟩:=oc hw
 obtain⟨n,rfl,_⟩:=nz hw
 obtain⟨N,hN⟩:=nqV Vm.ke nd3 na m domain at_ n T6
 exact⟨N,eL (fun l_=>VC Vm.ke nd3 l_ na m domain at_ n) (funext fun rz=>funext fun starts=>funext fun p8=>X2 (LX Tryz.prog nd2 nd1 N Tryz.f144 tV [true,true,true,true,false,true,false] []) (fun oh k=>nol oh k rz starts p8) _ N) hN⟩
def vm:Sum:= {ps:=[⟨nc.ct,true⟩],rs:=[⟨[.own 9 [.str]],true⟩],fn:=fun ds=>(vW (nc.nd ds 0),nc.enc (oD (nc.nd ds 0)))}
theorem wP:Ee Tryz.prog 129 vm:=by
 refine nQ JH Tryz.func129 fun ds (hw:kc (nc.ct++[]) ds) aJ=> ?_
 obtain⟨m,ds,rfl,_,hw⟩:=nc.nB (r:=_) hw
 obtain rfl:=nw hw
 exact⟨0,eT (nrj Vm.ke (fun r0=>((true,nc.enc r0):kL)) m aJ)⟩
def Ol:Sum:= {ps:=[⟨nc.ct,true⟩,⟨[.i],false⟩,⟨[.str],false⟩],rs:=[⟨[.own 9 [.str]],true⟩,⟨[.d_ .bool],false⟩],fn:=fun ds=>(sr (nc.nd ds 0) (rI ds 1) (rS ds 2),nc.enc (qA (nc.nd ds 0) (rI ds 1) (rS ds 2)).1++[.bool (qA (nc.nd ds 0) (rI ds 1) (rS ds 2)).2])}
def VX:Ctx:=[(129,vm),(223,uj),(344,uM)]
theorem nhW:bH Tryz.prog VX:=Il wP (Il SP (Il Rl JH))
def VW:List (Nat×lC):=[(4, {cb:=[(1,.mL),(2,.mL),(6,.mL),(8,.mL)],boxes:=[(192,[]),(384,[]),(512,[])]})]
def VY:nc→Bool→kL:=(fun r0 r1=>((true,nc.enc r0++[.bool r1]):kL))
def nfC (rD:Int) (tR:Bytes) (rz og:Rows):St:= {n:=53,sl:=[(1,.int .i64 rD),(2,.str tR),(6,.ptr 384 0),(8,.ptr 512 0)],hp:=[(192,.box 54 [.sl [.str] rz]),(384,.box 54 [.nil]),(512,.box 54 [.own 1411072]),(1411072,.row 9 [.str] og false true)],ok:=true,ls:=[],lm:=[]}
theorem nhV:Ee Tryz.prog 405 Ol:=by
 refine qD (A:=VW) nhW Tryz.func405 fun ds hw aJ=> ?_
 replace hw:kc (nc.ct++[.i,.str]) ds:=hw
 obtain⟨m,ds,rfl,T6,hw⟩:=nc.nB (r:=_) hw
 obtain⟨at_,ds,rfl,_,hw⟩:=oc hw
 obtain⟨s,rfl,_⟩:=qJ hw
 obtain⟨N,hN⟩:=nhU Vm.ke VY m at_ s T6 aJ
 exact⟨N,eL (fun l_=>Om Vm.ke VY l_ m at_ s) (nL3 (LX Tryz.prog VX VW N Tryz.f405 Ol [true,true,true,false,false] []) (fun rD tR og=>nfC rD tR m.nL og) _ N) hN⟩
def SH:Sum:= {ps:=[⟨[.sl [.i,.i,.i,.bool]],false⟩,⟨nc.ct,true⟩,⟨[.i],false⟩,⟨[.i],false⟩,⟨[.str],false⟩],rs:=[⟨[.own 9 [.str]],true⟩,⟨[.d_ .bool],false⟩],fn:=fun ds=>(wU (rR ds 0) (nc.nd ds 1) (rI ds 2) (rI ds 3) (rS ds 4),nc.enc (tS (rR ds 0) (nc.nd ds 1) (rI ds 2) (rI ds 3) (rS ds 4)).1++[.bool (tS (rR ds 0) (nc.nd ds 1) (rI ds 2) (rI ds 3) (rS ds 4)).2])}
def nbQ:Ctx:=[(129,vm),(258,NU),(405,Ol)]
theorem nop:bH Tryz.prog nbQ:=Il wP (Il ncn (Il nhV JH))
def nbP:List (Nat×lC):=[(6, {cb:=[(4,.mL),(10,.mL),(12,.mL),(13,.mL),(15,.mL),(16,.mL)],boxes:=[(384,[]),(640,[]),(960,[])]})]
def nbR:nc→Bool→kL:=(fun r0 r1=>((true,nc.enc r0++[.bool r1]):kL))
def nlO (tR:Bytes) (k:Int) (rz starts p8 og:Rows):St:= {n:=61,sl:=[(4,.str tR),(10,.ptr 640 0),(12,.own 640768),(13,.own 640832),(15,.ptr 960 0),(16,.int .i64 k)],hp:=[(384,.box 54 [.sl [.str] rz]),(640,.box 54 [.nil]),(960,.box 54 [.own 1525760]),(640768,.row 3 [.i] starts false true),(640832,.row 3 [.i] p8 false true),(1525760,.row 9 [.str] og false true)],ok:=true,ls:=[],lm:=[]}
theorem noo:Ee Tryz.prog 348 SH:=by
 refine qD (A:=nbP) nop Tryz.func348 fun ds hw aJ=> ?_
 replace hw:kc ((.sl [.i,.i,.i,.bool])::(nc.ct++[.i,.i,.str])) ds:=hw
 obtain⟨na,ds,rfl,_,hw⟩:=oq hw
 obtain⟨m,ds,rfl,T6,hw⟩:=nc.nB (r:=_) hw
 obtain⟨domain,ds,rfl,_,hw⟩:=oc hw
 obtain⟨at_,ds,rfl,_,hw⟩:=oc hw
 obtain⟨s,rfl,yZ⟩:=qJ hw
 obtain⟨N,hN⟩:=nom Vm.ke nbR na m domain at_ s T6 yZ aJ
 exact⟨N,eL (fun l_=>SI Vm.ke nbR l_ na m domain at_ s) (funext fun starts=>funext fun p8=>nL3 (LX Tryz.prog nbQ nbP N Tryz.f348 SH [true,true,true,true,false,true,false] []) (fun tR k og=>nlO tR k m.nL starts p8 og) _ N) hN⟩
def PI:Sum:= {ps:=[⟨nF.ct,true⟩],rs:=[⟨[.d_ .i,.d_ .bool,.own 3 [.i]],true⟩],fn:=fun ds=>(nii (nF.nd ds 0),nF.enc (oD (nF.nd ds 0)))}
theorem nrs:Ee Tryz.prog 132 PI:=by
 refine nQ JH Tryz.func132 fun ds (hw:kc (nF.ct++[]) ds) aJ=> ?_
 obtain⟨f,ds,rfl,_,hw⟩:=nF.nB (r:=_) hw
 obtain rfl:=nw hw
 exact⟨0,eT (nrr Vm.ke (fun r0=>((true,nF.enc r0):kL)) f aJ)⟩
theorem niA:Ee Tryz.prog 164 PI:=by
 refine nQ (Γ:=[(168,uo)]) (Il vD JH) Tryz.func164 fun ds (hw:kc (nF.ct++[]) ds) aJ=> ?_
 obtain⟨f,ds,rfl,_,hw⟩:=nF.nB (r:=_) hw
 obtain rfl:=nw hw
 exact⟨0,eT (niz Vm.ke (fun r0=>((true,nF.enc r0):kL)) f aJ)⟩
def PG:Sum:= {ps:=[⟨ni.ct,true⟩],rs:=[⟨[.own 264 [.i,.i,.i,.i,.i,.i,.i]],true⟩],fn:=fun ds=>(nj5 (ni.nd ds 0),ni.enc (oD (ni.nd ds 0)))}
theorem nrd:Ee Tryz.prog 249 PG:=by
 refine nQ JH Tryz.func249 fun ds (hw:kc (ni.ct++[]) ds) aJ=> ?_
 obtain⟨t,ds,rfl,_,hw⟩:=ni.nB (r:=_) hw
 obtain rfl:=nw hw
 exact⟨0,eT (nrc Vm.ke (fun r0=>((true,ni.enc r0):kL)) t aJ)⟩
theorem nku:Ee Tryz.prog 275 PG:=by
 refine nQ JH Tryz.func275 fun ds (hw:kc (ni.ct++[]) ds) aJ=> ?_
 obtain⟨t,ds,rfl,_,hw⟩:=ni.nB (r:=_) hw
 obtain rfl:=nw hw
 exact⟨0,eT (nkt Vm.ke (fun r0=>((true,ni.enc r0):kL)) t aJ)⟩
def WC:Sum:= {ps:=[⟨nI.ct,true⟩],rs:=[⟨[.d_ .str,.own 3 [.i]],true⟩],fn:=fun ds=>(nuq (nI.nd ds 0),nI.enc (oD (nI.nd ds 0)))}
theorem niD:Ee Tryz.prog 276 WC:=by
 refine nQ (Γ:=[(168,uo)]) (Il vD JH) Tryz.func276 fun ds (hw:kc (nI.ct++[]) ds) aJ=> ?_
 obtain⟨s,ds,rfl,_,hw⟩:=nI.nB (r:=_) hw
 obtain rfl:=nw hw
 exact⟨0,eT (niC Vm.ke (fun r0=>((true,nI.enc r0):kL)) s aJ)⟩
def PH:Sum:= {ps:=[⟨nm.ct,true⟩],rs:=[⟨[.own 260 [.i,.i,.i,.i,.i,.i,.i,.i,.i],.own 264 [.i,.i,.i,.i,.i,.i,.i],.d_ .str,.own 3 [.i]],true⟩],fn:=fun ds=>(ZS (nm.nd ds 0),nm.enc (oD (nm.nd ds 0)))}
theorem nri:Ee Tryz.prog 133 PH:=by
 refine nQ (Γ:=[(249,PG)]) (Il nrd JH) Tryz.func133 fun ds (hw:kc (nm.ct++[]) ds) aJ=> ?_
 obtain⟨s,ds,rfl,_,hw⟩:=nm.nB (r:=_) hw
 obtain rfl:=nw hw
 exact⟨0,eT (nrh Vm.ke (fun r0=>((true,nm.enc r0):kL)) s aJ)⟩
theorem ne8:Ee Tryz.prog 165 PH:=by
 refine nQ (Γ:=[(275,PG),(276,WC)]) (Il nku (Il niD JH)) Tryz.func165 fun ds (hw:kc (nm.ct++[]) ds) aJ=> ?_
 obtain⟨s,ds,rfl,_,hw⟩:=nm.nB (r:=_) hw
 obtain rfl:=nw hw
 exact⟨0,eT (ne7 Vm.ke (fun r0=>((true,nm.enc r0):kL)) s aJ)⟩
def S4:Sum:= {ps:=[⟨[.sl [.i,.i,.i,.bool]],false⟩],rs:=[⟨[.own 222 [.i,.i,.i,.bool]],false⟩],fn:=fun ds=>(sm (rR ds 0),[.sl (oD (rR ds 0))])}
theorem ne6:Ee Tryz.prog 161 S4:=by
 refine nQ JH Tryz.func161 fun ds (hw:kc ([.sl [.i,.i,.i,.bool]]) ds) aJ=> ?_
 obtain⟨na,rfl,_⟩:=pS hw
 exact⟨0,eT (ne5 Vm.ke (fun r0=>((true,[.sl r0]):kL)) na aJ)⟩
def xb:Sum:= {ps:=[⟨[.sl [.i,.i,.i,.i,.i,.i,.str,.bool]],false⟩],rs:=[⟨[.own 236 [.i,.i,.i,.i,.i,.i,.str,.bool]],false⟩],fn:=fun ds=>(sm (rR ds 0),[.sl (oD (rR ds 0))])}
theorem N7:Ee Tryz.prog 166 xb:=by
 refine nQ JH Tryz.func166 fun ds (hw:kc ([.sl [.i,.i,.i,.i,.i,.i,.str,.bool]]) ds) aJ=> ?_
 obtain⟨na,rfl,_⟩:=pS hw
 exact⟨0,eT (ngX Vm.ke (fun r0=>((true,[.sl r0]):kL)) na aJ)⟩
def Su:Sum:= {ps:=[⟨[.sl [.i,.i,.sl [.i]]],false⟩],rs:=[⟨[.deep 293 [.i,.i,.sl [.i]] [3]],false⟩],fn:=fun ds=>(Pv (rR ds 0),[.sl (oD (rR ds 0))])}
def na5:Ctx:=[(1125899906842630,J9),(1125899906842646,J9),(1125899906842647,J9),(168,uo)]
theorem nm_:bH Tryz.prog na5:=Il Lw (Il Lw (Il Lw (Il vD JH)))
def na4:List (Nat×lC):=[(3, {cb:=[(3,.mL),(7,.mL),(8,.mL),(9,.mL)],boxes:=[]})]
def na6:Rows→kL:=(fun r0=>((true,[.sl r0]):kL))
def nks (na:Rows) (oy oN:Int) (oh:Rows):St:= {n:=26,sl:=[(3,.own 640192),(7,.sl [.i,.i,.sl [.i]] na),(8,.int .i64 oy),(9,.int .i64 oN)],hp:=[(640192,.deep 293 [.i,.i,.sl [.i]] [3] oh none)],ok:=true,ls:=[],lm:=[]}
theorem nm9:Ee Tryz.prog 274 Su:=by
 refine qD (A:=na4) nm_ Tryz.func274 fun ds (hw:kc ([.sl [.i,.i,.sl [.i]]]) ds) aJ=> ?_
 obtain⟨na,rfl,pP⟩:=pS hw
 obtain⟨N,hN⟩:=nm8 Vm.ke na6 na pP aJ
 exact⟨N,eL (fun l_=>Sv Vm.ke na6 l_ na) (funext fun oy=>X2 (LX Tryz.prog na5 na4 N Tryz.f274 Su [true,true,false,true,false] []) (nks na oy) _ N) hN⟩
def yQ:Sum:= {ps:=[⟨nv.ct,true⟩],rs:=[⟨[.d_ .i,.d_ .i,.d_ .i,.d_ .i,.d_ .i,.d_ .i,.d_ .i,.own 3 [.i],.deep 293 [.i,.i,.sl [.i]] [3],.d_ .i],true⟩],fn:=fun ds=>(nrz (nv.nd ds 0),nv.enc (oD (nv.nd ds 0)))}
def ney:Ctx:=[(1125899906842661,J9),(1125899906842662,J9),(131,qV)]
theorem nrq:bH Tryz.prog ney:=Il Lw (Il Lw (Il yP JH))
def nex:List (Nat×lC):=[(3, {cb:=[(1,.mL),(2,.mL),(3,.mL),(4,.mL)],boxes:=[(64,[]),(128,[]),(192,[(8,.deep 293 [3])])]})]
def nez:nv→kL:=(fun r0=>((true,nv.enc r0):kL))
def noS (k q_1 TX q_3 q_4 Ps Pt Pu:Int) (Wf PM:Rows) (Z9 b2 nwa nwi nwj nwk nwl nwm nwn oh pg ph pj pk pn po pq:Int) (zu r_:Rows):St:= {n:=41,sl:=[(1,.ptr 64 0),(2,.ptr 128 0),(3,.ptr 192 0),(4,.int .i64 k)],hp:=[(64,.box 60 [.int .i64 q_1,.int .i64 TX,.int .i64 q_3,.int .i64 q_4,.int .i64 Ps,.int .i64 Pt,.int .i64 Pu,.sl [.i] Wf,.sl [.i,.i,.sl [.i]] PM,.int .i64 Z9]),(128,.box 60 [.int .i64 b2,.int .i64 nwa,.int .i64 nwi,.int .i64 nwj,.int .i64 nwk,.int .i64 nwl,.int .i64 nwm,.nil,.nil,.int .i64 nwn]),(192,.box 60 [.int .i64 oh,.int .i64 pg,.int .i64 ph,.int .i64 pj,.int .i64 pk,.int .i64 pn,.int .i64 po,.own 1329159,.own 1329160,.int .i64 pq]),(1329159,.row 3 [.i] zu false true),(1329160,.deep 293 [.i,.i,.sl [.i]] [3] r_ none)],ok:=true,ls:=[],lm:=[]}
theorem nrp:Ee Tryz.prog 130 yQ:=by
 refine qD (A:=nex) nrq Tryz.func130 fun ds (hw:kc (nv.ct++[]) ds) aJ=> ?_
 obtain⟨q,ds,rfl,h_q,hw⟩:=nv.nB (r:=_) hw
 obtain rfl:=nw hw
 obtain⟨N,hN⟩:=nro Vm.ke nez q h_q aJ
 exact⟨N,eL (fun l_=>V5 Vm.ke nez l_ q) (funext fun PM=>funext fun oh=>funext fun pg=>funext fun ph=>funext fun pj=>funext fun pk=>funext fun pn=>funext fun po=>funext fun pq=>funext fun zu=>X2 (LX Tryz.prog ney nex N Tryz.f130 yQ [true,true,false,true,false] []) (fun k r_=>noS k q.Ring.oA q.Ring.nG q.Ring.Head q.Ring.qQ q.n9.oA q.n9.nG q.n9.Count q.n9.oe PM q.Next 0 0 0 0 0 0 0 0 oh pg ph pj pk pn po pq zu r_) _ N) hN⟩
theorem nrT:Ee Tryz.prog 162 yQ:=by
 refine nQ (Γ:=[(163,qV),(274,Su)]) (Il xz (Il nm9 JH)) Tryz.func162 fun ds (hw:kc (nv.ct++[]) ds) aJ=> ?_
 obtain⟨q,ds,rfl,_,hw⟩:=nv.nB (r:=_) hw
 obtain rfl:=nw hw
 exact⟨0,eT (nrS Vm.ke (fun r0=>((true,nv.enc r0):kL)) q aJ)⟩
def vC:Sum:= {ps:=[⟨nt.ct,true⟩],rs:=[⟨[.own 9 [.str],.own 222 [.i,.i,.i,.bool],.d_ .i,.d_ .i,.d_ .i,.d_ .i,.d_ .i,.d_ .i,.d_ .i,.own 3 [.i],.deep 293 [.i,.i,.sl [.i]] [3],.d_ .i,.own 104 [.i,.i,.i,.i,.i,.i,.i,.i,.i,.i,.i,.i,.i,.i,.i,.i,.i,.i,.i,.i,.i,.i,.i,.i,.i,.str,.i,.i,.bool,.i],.deep 57 [.i,.i,.i,.sl [.i]] [3],.own 107 [.i,.i,.i,.i,.bool,.bool],.own 4 [.bool],.d_ .i,.d_ .bool,.own 3 [.i],.own 260 [.i,.i,.i,.i,.i,.i,.i,.i,.i],.own 264 [.i,.i,.i,.i,.i,.i,.i],.d_ .str,.own 3 [.i],.own 236 [.i,.i,.i,.i,.i,.i,.str,.bool],.d_ .bool,.own 9 [.str],.own 3 [.i],.own 3 [.i],.d_ .i,.d_ .i,.d_ .i,.d_ .i,.d_ .i],true⟩],fn:=fun ds=>(vq (nt.nd ds 0),nt.enc (oD (nt.nd ds 0)))}
def naZ:Ctx:=[(1125899906842648,J9),(1125899906842661,J9),(1125899906842662,J9),(160,sW),(161,S4),(162,yQ),(163,qV),(164,PI),(165,PH),(166,xb),(167,N8),(168,uo)]
theorem nm5:bH Tryz.prog naZ:=Il Lw (Il Lw (Il Lw (Il ug (Il ne6 (Il nrT (Il xz (Il niA (Il ne8 (Il N7 (Il UC (Il vD JH)))))))))))
def naY:List (Nat×lC):=[(8, {cb:=[(1,.mL),(2,.mL),(3,.mL),(27,.mL),(28,.mL),(29,.mL)],boxes:=[(64,[]),(128,[]),(192,[])]})]
def na0:nt→kL:=(fun r0=>((true,nt.enc r0):kL))
def nkr (x:Rows) (oy oN:Int) (TC h_2:Rows) (TD TE TF TG TH TI TJ:Int) (uG uH:Rows) (uI:Int) (qd qc pe ql:Rows) (qw:Int) (qx:Bool) (qm pI pJ:Rows) (pM:Bytes) (pK qn:Rows) (uJ:Bool) (qo qp qq:Rows) (qE qF qG qH qI b2 nwa nwi nwj nwk nwl nwm nwn nxe:Int) (nxf:Bool) (nwb:Bytes) (nwc:Bool) (nwd nwe nwf nwg nwh oh pg ph pj pk pn po pq:Int) (r_ tn:Rows) (rE:Int) (rm:Bool) (rF rG rH:Rows) (rJ:Bytes) (rK nu6:Rows) (oQ:Bool) (rL rM nu7:Rows) (oT oY qK oR oS:Int) (og ou oz n7 nZ oX:Rows):St:= {n:=76,sl:=[(1,.ptr 64 0),(2,.ptr 128 0),(3,.ptr 192 0),(27,.sl [.i,.i,.i,.sl [.i]] x),(28,.int .i64 oy),(29,.int .i64 oN)],hp:=[(64,.box 75 [.sl [.str] TC,.sl [.i,.i,.i,.bool] h_2,.int .i64 TD,.int .i64 TE,.int .i64 TF,.int .i64 TG,.int .i64 TH,.int .i64 TI,.int .i64 TJ,.sl [.i] uG,.sl [.i,.i,.sl [.i]] uH,.int .i64 uI,.sl [.i,.i,.i,.i,.i,.i,.i,.i,.i,.i,.i,.i,.i,.i,.i,.i,.i,.i,.i,.i,.i,.i,.i,.i,.i,.str,.i,.i,.bool,.i] qd,.sl [.i,.i,.i,.sl [.i]] qc,.sl [.i,.i,.i,.i,.bool,.bool] pe,.sl [.bool] ql,.int .i64 qw,.bool qx,.sl [.i] qm,.sl [.i,.i,.i,.i,.i,.i,.i,.i,.i] pI,.sl [.i,.i,.i,.i,.i,.i,.i] pJ,.str pM,.sl [.i] pK,.sl [.i,.i,.i,.i,.i,.i,.str,.bool] qn,.bool uJ,.sl [.str] qo,.sl [.i] qp,.sl [.i] qq,.int .i64 qE,.int .i64 qF,.int .i64 qG,.int .i64 qH,.int .i64 qI]),(128,.box 75 [.nil,.nil,.int .i64 b2,.int .i64 nwa,.int .i64 nwi,.int .i64 nwj,.int .i64 nwk,.int .i64 nwl,.int .i64 nwm,.nil,.nil,.int .i64 nwn,.nil,.nil,.nil,.nil,.int .i64 nxe,.bool nxf,.nil,.nil,.nil,.str nwb,.nil,.nil,.bool nwc,.nil,.nil,.nil,.int .i64 nwd,.int .i64 nwe,.int .i64 nwf,.int .i64 nwg,.int .i64 nwh]),(192,.box 75 [.own 1329152,.own 1329153,.int .i64 oh,.int .i64 pg,.int .i64 ph,.int .i64 pj,.int .i64 pk,.int .i64 pn,.int .i64 po,.own 1329161,.own 1329162,.int .i64 pq,.own 1329164,.own 1329165,.sl [.i,.i,.i,.i,.bool,.bool] r_,.sl [.bool] tn,.int .i64 rE,.bool rm,.sl [.i] rF,.sl [.i,.i,.i,.i,.i,.i,.i,.i,.i] rG,.sl [.i,.i,.i,.i,.i,.i,.i] rH,.str rJ,.sl [.i] rK,.sl [.i,.i,.i,.i,.i,.i,.str,.bool] nu6,.bool oQ,.sl [.str] rL,.sl [.i] rM,.sl [.i] nu7,.int .i64 oT,.int .i64 oY,.int .i64 qK,.int .i64 oR,.int .i64 oS]),(1329152,.row 9 [.str] og false true),(1329153,.row 222 [.i,.i,.i,.bool] ou false true),(1329161,.row 3 [.i] oz false true),(1329162,.deep 293 [.i,.i,.sl [.i]] [3] n7 none),(1329164,.row 104 [.i,.i,.i,.i,.i,.i,.i,.i,.i,.i,.i,.i,.i,.i,.i,.i,.i,.i,.i,.i,.i,.i,.i,.i,.i,.str,.i,.i,.bool,.i] nZ false true),(1329165,.deep 57 [.i,.i,.i,.sl [.i]] [3] oX none)],ok:=true,ls:=[],lm:=[]}
theorem nm4:Ee Tryz.prog 54 vC:=by
 refine qD (A:=naY) nm5 Tryz.func54 fun ds (hw:kc (nt.ct++[]) ds) aJ=> ?_
 obtain⟨h,ds,rfl,h_h,hw⟩:=nt.nB (r:=_) hw
 obtain rfl:=nw hw
 obtain⟨N,hN⟩:=nm3 Vm.ke na0 h h_h aJ
 exact⟨N,eL (fun l_=>Ss Vm.ke na0 l_ h) (funext fun x=>funext fun oy=>funext fun pe=>funext fun ql=>funext fun qw=>funext fun qx=>funext fun qm=>funext fun pI=>funext fun pJ=>funext fun pM=>funext fun pK=>funext fun qn=>funext fun qo=>funext fun qp=>funext fun qq=>funext fun oh=>funext fun pg=>funext fun ph=>funext fun pj=>funext fun pk=>funext fun pn=>funext fun po=>funext fun pq=>funext fun oQ=>funext fun oT=>funext fun oY=>funext fun qK=>funext fun oR=>funext fun oS=>funext fun og=>funext fun ou=>funext fun oz=>funext fun n7=>funext fun nZ=>X2 (LX Tryz.prog naZ naY N Tryz.f54 vC [true,true,true,true,true,true,true,false,true,false] []) (fun oN oX=>nkr x oy oN h.n_.nL h.Maps h.Tx.Ring.oA h.Tx.Ring.nG h.Tx.Ring.Head h.Tx.Ring.qQ h.Tx.n9.oA h.Tx.n9.nG h.Tx.n9.Count h.Tx.n9.oe h.Tx.nD h.Tx.Next h.Rx h.nR pe ql qw qx qm pI pJ pM pK qn h.p9 qo qp qq h.Counters.Frames h.Counters.Bad h.Counters.pX h.Counters.qz h.Counters.tz 0 0 0 0 0 0 0 0 0 false [] false 0 0 0 0 0 oh pg ph pj pk pn po pq h.nN h.nT h.Filter.Wj h.Filter.oH h.Filter.pE h.nk.oM h.nk.Table.nH h.nk.oa.Key h.nk.oa.Table h.oE oQ h.tU h.oG h.oU oT oY qK oR oS og ou oz n7 nZ oX) _ N) hN⟩
def neD:Ctx:=[(1125899906842648,J9),(1125899906842665,J9),(1125899906842666,J9),(129,vm),(130,yQ),(131,qV),(132,PI),(133,PH)]
theorem nrv:bH Tryz.prog neD:=Il Lw (Il Lw (Il Lw (Il wP (Il nrp (Il yP (Il nrs (Il nri JH)))))))
def neC:List (Nat×lC):=[(8, {cb:=[(1,.mL),(2,.mL),(3,.mL),(4,.mL)],boxes:=[(64,[]),(128,[]),(192,[])]})]
def neE:nt→kL:=(fun r0=>((true,nt.enc r0):kL))
def noY (k:Int) (TC h_2:Rows) (TD TE TF TG TH TI TJ:Int) (uG uH:Rows) (uI:Int) (qd qc pe ql:Rows) (qw:Int) (qx:Bool) (qm pI pJ:Rows) (pM:Bytes) (pK qn:Rows) (uJ:Bool) (qo qp qq:Rows) (qE qF qG qH qI b2 nwa nwi nwj nwk nwl nwm nwn nxe:Int) (nxf:Bool) (nwb:Bytes) (nwc:Bool) (nwd nwe nwf nwg nwh oh pg ph pj pk pn po pq:Int) (r_ tn:Rows) (rE:Int) (rm:Bool) (rF rG rH:Rows) (rJ:Bytes) (rK nu6:Rows) (oQ:Bool) (rL rM nu7:Rows) (oT oY qK oR oS:Int) (og ou oz n7 nZ oX:Rows):St:= {n:=83,sl:=[(1,.ptr 64 0),(2,.ptr 128 0),(3,.ptr 192 0),(4,.int .i64 k)],hp:=[(64,.box 75 [.sl [.str] TC,.sl [.i,.i,.i,.bool] h_2,.int .i64 TD,.int .i64 TE,.int .i64 TF,.int .i64 TG,.int .i64 TH,.int .i64 TI,.int .i64 TJ,.sl [.i] uG,.sl [.i,.i,.sl [.i]] uH,.int .i64 uI,.sl [.i,.i,.i,.i,.i,.i,.i,.i,.i,.i,.i,.i,.i,.i,.i,.i,.i,.i,.i,.i,.i,.i,.i,.i,.i,.str,.i,.i,.bool,.i] qd,.sl [.i,.i,.i,.sl [.i]] qc,.sl [.i,.i,.i,.i,.bool,.bool] pe,.sl [.bool] ql,.int .i64 qw,.bool qx,.sl [.i] qm,.sl [.i,.i,.i,.i,.i,.i,.i,.i,.i] pI,.sl [.i,.i,.i,.i,.i,.i,.i] pJ,.str pM,.sl [.i] pK,.sl [.i,.i,.i,.i,.i,.i,.str,.bool] qn,.bool uJ,.sl [.str] qo,.sl [.i] qp,.sl [.i] qq,.int .i64 qE,.int .i64 qF,.int .i64 qG,.int .i64 qH,.int .i64 qI]),(128,.box 75 [.nil,.nil,.int .i64 b2,.int .i64 nwa,.int .i64 nwi,.int .i64 nwj,.int .i64 nwk,.int .i64 nwl,.int .i64 nwm,.nil,.nil,.int .i64 nwn,.nil,.nil,.nil,.nil,.int .i64 nxe,.bool nxf,.nil,.nil,.nil,.str nwb,.nil,.nil,.bool nwc,.nil,.nil,.nil,.int .i64 nwd,.int .i64 nwe,.int .i64 nwf,.int .i64 nwg,.int .i64 nwh]),(192,.box 75 [.own 1329152,.own 1329153,.int .i64 oh,.int .i64 pg,.int .i64 ph,.int .i64 pj,.int .i64 pk,.int .i64 pn,.int .i64 po,.own 1329161,.own 1329162,.int .i64 pq,.own 1329164,.own 1329165,.sl [.i,.i,.i,.i,.bool,.bool] r_,.sl [.bool] tn,.int .i64 rE,.bool rm,.sl [.i] rF,.sl [.i,.i,.i,.i,.i,.i,.i,.i,.i] rG,.sl [.i,.i,.i,.i,.i,.i,.i] rH,.str rJ,.sl [.i] rK,.sl [.i,.i,.i,.i,.i,.i,.str,.bool] nu6,.bool oQ,.sl [.str] rL,.sl [.i] rM,.sl [.i] nu7,.int .i64 oT,.int .i64 oY,.int .i64 qK,.int .i64 oR,.int .i64 oS]),(1329152,.row 9 [.str] og false true),(1329153,.row 222 [.i,.i,.i,.bool] ou false true),(1329161,.row 3 [.i] oz false true),(1329162,.deep 293 [.i,.i,.sl [.i]] [3] n7 none),(1329164,.row 104 [.i,.i,.i,.i,.i,.i,.i,.i,.i,.i,.i,.i,.i,.i,.i,.i,.i,.i,.i,.i,.i,.i,.i,.i,.i,.str,.i,.i,.bool,.i] nZ false true),(1329165,.deep 57 [.i,.i,.i,.sl [.i]] [3] oX none)],ok:=true,ls:=[],lm:=[]}
theorem nru:Ee Tryz.prog 35 vC:=by
 refine qD (A:=neC) nrv Tryz.func35 fun ds (hw:kc (nt.ct++[]) ds) aJ=> ?_
 obtain⟨h,ds,rfl,h_h,hw⟩:=nt.nB (r:=_) hw
 obtain rfl:=nw hw
 obtain⟨N,hN⟩:=nrt Vm.ke neE h h_h aJ
 exact⟨N,eL (fun l_=>V6 Vm.ke neE l_ h) (funext fun qc=>funext fun pe=>funext fun ql=>funext fun qw=>funext fun qx=>funext fun qm=>funext fun pI=>funext fun pJ=>funext fun pM=>funext fun pK=>funext fun qn=>funext fun qo=>funext fun qp=>funext fun qq=>funext fun oh=>funext fun pg=>funext fun ph=>funext fun pj=>funext fun pk=>funext fun pn=>funext fun po=>funext fun pq=>funext fun oQ=>funext fun oT=>funext fun oY=>funext fun qK=>funext fun oR=>funext fun oS=>funext fun og=>funext fun ou=>funext fun oz=>funext fun n7=>funext fun nZ=>X2 (LX Tryz.prog neD neC N Tryz.f35 vC [true,true,true,true,true,true,true,false,true,false] []) (fun k oX=>noY k h.n_.nL h.Maps h.Tx.Ring.oA h.Tx.Ring.nG h.Tx.Ring.Head h.Tx.Ring.qQ h.Tx.n9.oA h.Tx.n9.nG h.Tx.n9.Count h.Tx.n9.oe h.Tx.nD h.Tx.Next h.Rx qc pe ql qw qx qm pI pJ pM pK qn h.p9 qo qp qq h.Counters.Frames h.Counters.Bad h.Counters.pX h.Counters.qz h.Counters.tz 0 0 0 0 0 0 0 0 0 false [] false 0 0 0 0 0 oh pg ph pj pk pn po pq h.nN h.nT h.Filter.Wj h.Filter.oH h.Filter.pE h.nk.oM h.nk.Table.nH h.nk.oa.Key h.nk.oa.Table h.oE oQ h.tU h.oG h.oU oT oY qK oR oS og ou oz n7 nZ oX) _ N) hN⟩
def O6:Sum:= {ps:=[⟨nx.ct,true⟩],rs:=[⟨[.d_ .i,.d_ .i,.d_ .i,.d_ .i,.d_ .bool,.d_ .bool],true⟩],fn:=fun ds=>(true,nx.enc (npe (nx.nd ds 0)))}
theorem npI:Ee Tryz.prog 170 O6:=by
 refine nQ (Γ:=[(238,Qf)]) (Il npK JH) Tryz.func170 fun ds (hw:kc (nx.ct++[]) ds) _=> ?_
 obtain⟨v,ds,rfl,_,hw⟩:=nx.nB (r:=_) hw
 obtain rfl:=nw hw
 exact⟨0,eT (npH (fun r0=>((true,nx.enc r0):kL)) v)⟩
theorem noX:Ee Tryz.prog 149 O6:=by
 refine nQ (Γ:=[(255,Qf)]) (Il ngz JH) Tryz.func149 fun ds (hw:kc (nx.ct++[]) ds) _=> ?_
 obtain⟨v,ds,rfl,_,hw⟩:=nx.nB (r:=_) hw
 obtain rfl:=nw hw
 exact⟨0,eT (noW (fun r0=>((true,nx.enc r0):kL)) v)⟩
def OT:Sum:= {ps:=[⟨[.str],false⟩,⟨[.i],false⟩],rs:=[⟨[.d_ .i],false⟩],fn:=fun ds=>(true,[.int (px (rS ds 0) (rI ds 1))])}
theorem TL:Ee Tryz.prog 334 OT:=by
 refine nQ JH Tryz.func334 fun ds (hw:kc ([.str,.i]) ds) _=> ?_
 obtain⟨s,ds,rfl,yZ,hw⟩:=xL hw
 obtain⟨at_,rfl,_⟩:=nz hw
 exact⟨0,eT (nts Vm.ke (fun r0=>((true,[.int r0]):kL)) s at_ yZ)⟩
def xv:Sum:= {ps:=[⟨nE.ct,true⟩],rs:=[⟨[.d_ .i],false⟩],fn:=fun ds=>(true,[.int (tx (nE.nd ds 0))])}
theorem nmQ:Ee Tryz.prog 319 xv:=by
 refine nQ (Γ:=[(235,rY),(328,vy)]) (Il zX (Il naM JH)) Tryz.func319 fun ds (hw:kc (nE.ct++[]) ds) _=> ?_
 obtain⟨r,ds,rfl,_,hw⟩:=nE.nB (r:=_) hw
 obtain rfl:=nw hw
 exact⟨0,eT (naL (fun r0=>((true,[.int r0]):kL)) r)⟩
theorem nb9:Ee Tryz.prog 265 xv:=by
 refine nQ (Γ:=[(250,rY),(338,vy)]) (Il Nn (Il nb_ JH)) Tryz.func265 fun ds (hw:kc (nE.ct++[]) ds) _=> ?_
 obtain⟨r,ds,rfl,_,hw⟩:=nE.nB (r:=_) hw
 obtain rfl:=nw hw
 exact⟨0,eT (naL (fun r0=>((true,[.int r0]):kL)) r)⟩
def sL:Sum:= {ps:=[⟨nj.ct,true⟩,⟨[.i],false⟩],rs:=[⟨[.d_ .i],false⟩],fn:=fun ds=>(true,[.int (pL (nj.nd ds 0) (rI ds 4))])}
theorem RU:Ee Tryz.prog 277 sL:=by
 refine nQ (Γ:=[(55,nK),(118,qB)]) (Il oV (Il xG JH)) Tryz.func277 fun ds (hw:kc (nj.ct++[.i]) ds) _=> ?_
 obtain⟨p,ds,rfl,_,hw⟩:=nj.nB (r:=_) hw
 obtain⟨k,rfl,_⟩:=nz hw
 exact⟨0,eT (RT (fun r0=>((true,[.int r0]):kL)) p k)⟩
theorem R9:Ee Tryz.prog 143 sL:=by
 refine nQ (Γ:=[(37,nK),(140,qB)]) (Il pG (Il xM JH)) Tryz.func143 fun ds (hw:kc (nj.ct++[.i]) ds) _=> ?_
 obtain⟨p,ds,rfl,_,hw⟩:=nj.nB (r:=_) hw
 obtain⟨k,rfl,_⟩:=nz hw
 exact⟨0,eT (RT (fun r0=>((true,[.int r0]):kL)) p k)⟩
def Rs:Sum:= {ps:=[⟨rq.ct,true⟩],rs:=[⟨[.d_ .bool],false⟩],fn:=fun ds=>(true,[.bool (ns6 (rq.nd ds 0))])}
theorem nrI:Ee Tryz.prog 391 Rs:=by
 refine nQ (Γ:=[(55,nK)]) (Il oV JH) Tryz.func391 fun ds (hw:kc (rq.ct++[]) ds) _=> ?_
 obtain⟨x,ds,rfl,_,hw⟩:=rq.nB (r:=_) hw
 obtain rfl:=nw hw
 exact⟨0,eT (nfD (fun r0=>((true,[.bool r0]):kL)) x)⟩
theorem nsA:Ee Tryz.prog 350 Rs:=by
 refine nQ (Γ:=[(37,nK)]) (Il pG JH) Tryz.func350 fun ds (hw:kc (rq.ct++[]) ds) _=> ?_
 obtain⟨x,ds,rfl,_,hw⟩:=rq.nB (r:=_) hw
 obtain rfl:=nw hw
 exact⟨0,eT (nfD (fun r0=>((true,[.bool r0]):kL)) x)⟩
def w8:Sum:= {ps:=[⟨nE.ct,true⟩,⟨[.i],false⟩],rs:=[⟨[.d_ .i],false⟩],fn:=fun ds=>(true,[.int (sj (nE.nd ds 0) (rI ds 4))])}
theorem ngL:Ee Tryz.prog 371 w8:=by
 refine nQ (Γ:=[(235,rY)]) (Il zX JH) Tryz.func371 fun ds (hw:kc (nE.ct++[.i]) ds) _=> ?_
 obtain⟨r,ds,rfl,_,hw⟩:=nE.nB (r:=_) hw
 obtain⟨count,rfl,_⟩:=nz hw
 exact⟨0,eT (ngK Vm.ke (fun r0=>((true,[.int r0]):kL)) r count)⟩
theorem nhN:Ee Tryz.prog 349 w8:=by
 refine nQ (Γ:=[(250,rY)]) (Il Nn JH) Tryz.func349 fun ds (hw:kc (nE.ct++[.i]) ds) _=> ?_
 obtain⟨r,ds,rfl,_,hw⟩:=nE.nB (r:=_) hw
 obtain⟨count,rfl,_⟩:=nz hw
 exact⟨0,eT (nhM Vm.ke (fun r0=>((true,[.int r0]):kL)) r count)⟩
def xR:Sum:= {ps:=[⟨rq.ct,true⟩],rs:=[⟨[.d_ .str],false⟩],fn:=fun ds=>(true,[.str (sD (rq.nd ds 0))])}
theorem nik:Ee Tryz.prog 324 xR:=by
 refine nQ (Γ:=[(355,rn),(391,Rs),(392,sP)]) (Il xH (Il nrI (Il RB JH))) Tryz.func324 fun ds (hw:kc (rq.ct++[]) ds) _=> ?_
 obtain⟨x,ds,rfl,_,hw⟩:=rq.nB (r:=_) hw
 obtain rfl:=nw hw
 exact⟨0,eT (Wl Vm.ke (fun r0=>((true,[.str r0]):kL)) x)⟩
theorem njR:Ee Tryz.prog 267 xR:=by
 refine nQ (Γ:=[(264,rn),(350,Rs),(351,sP)]) (Il Np (Il nsA (Il RN JH))) Tryz.func267 fun ds (hw:kc (rq.ct++[]) ds) _=> ?_
 obtain⟨x,ds,rfl,_,hw⟩:=rq.nB (r:=_) hw
 obtain rfl:=nw hw
 exact⟨0,eT (Wl Vm.ke (fun r0=>((true,[.str r0]):kL)) x)⟩
def O2:Sum:= {ps:=[⟨[.sl [.i,.i,.i,.bool]],false⟩,⟨nc.ct,true⟩,⟨[.i],false⟩,⟨nE.ct,true⟩,⟨[.str],false⟩],rs:=[⟨[.own 9 [.str]],true⟩,⟨[.d_ .i,.d_ .i,.d_ .i,.d_ .i],true⟩,⟨[.d_ .bool],false⟩],fn:=fun ds=>(NZ (rR ds 0) (nc.nd ds 1) (rI ds 2) (nE.nd ds 3) (rS ds 7),nc.enc (sa (rR ds 0) (nc.nd ds 1) (rI ds 2) (nE.nd ds 3) (rS ds 7)).1++nE.enc (sa (rR ds 0) (nc.nd ds 1) (rI ds 2) (nE.nd ds 3) (rS ds 7)).2.1++[.bool (sa (rR ds 0) (nc.nd ds 1) (rI ds 2) (nE.nd ds 3) (rS ds 7)).2.2])}
theorem npy:Ee Tryz.prog 356 O2:=by
 refine nQ (Γ:=[(160,sW),(319,xv),(371,w8),(374,nao)]) (Il ug (Il nmQ (Il ngL (Il nmB JH)))) Tryz.func356 fun ds hw aJ=> ?_
 replace hw:kc ((.sl [.i,.i,.i,.bool])::(nc.ct++(.i::(nE.ct++[.str])))) ds:=hw
 obtain⟨na,ds,rfl,_,hw⟩:=oq hw
 obtain⟨m,ds,rfl,_,hw⟩:=nc.nB (r:=_) hw
 obtain⟨domain,ds,rfl,_,hw⟩:=oc hw
 obtain⟨r,ds,rfl,_,hw⟩:=nE.nB (r:=_) hw
 obtain⟨entry,rfl,_⟩:=qJ hw
 exact⟨0,eT (npx Vm.ke (fun r0 r1 r2=>((true,nc.enc r0++nE.enc r1++[.bool r2]):kL)) na m domain r entry aJ)⟩
theorem nq4:Ee Tryz.prog 266 O2:=by
 refine nQ (Γ:=[(129,vm),(265,xv),(348,SH),(349,w8)]) (Il wP (Il nb9 (Il noo (Il nhN JH)))) Tryz.func266 fun ds hw aJ=> ?_
 replace hw:kc ((.sl [.i,.i,.i,.bool])::(nc.ct++(.i::(nE.ct++[.str])))) ds:=hw
 obtain⟨na,ds,rfl,_,hw⟩:=oq hw
 obtain⟨m,ds,rfl,_,hw⟩:=nc.nB (r:=_) hw
 obtain⟨domain,ds,rfl,_,hw⟩:=oc hw
 obtain⟨r,ds,rfl,_,hw⟩:=nE.nB (r:=_) hw
 obtain⟨entry,rfl,_⟩:=qJ hw
 exact⟨0,eT (nq3 Vm.ke (fun r0 r1 r2=>((true,nc.enc r0++nE.enc r1++[.bool r2]):kL)) na m domain r entry aJ)⟩
def Nt:Sum:= {ps:=[⟨[.str],false⟩],rs:=[⟨[.d_ .i,.d_ .i,.d_ .i,.d_ .i,.d_ .str],true⟩,⟨[.d_ .bool],false⟩],fn:=fun ds=>(true,sf.enc (rQ (rS ds 0)).1++[.bool (rQ (rS ds 0)).2])}
theorem nmO:Ee Tryz.prog 297 Nt:=by
 refine nQ (Γ:=[(334,OT),(335,tM),(366,TK)]) (Il TL (Il TM (Il ntr JH))) Tryz.func297 fun ds (hw:kc ([.str]) ds) _=> ?_
 obtain⟨s,rfl,yZ⟩:=qJ hw
 exact⟨0,eT (nmN Vm.ke (fun r0 r1=>((true,sf.enc r0++[.bool r1]):kL)) s yZ)⟩
theorem noD:Ee Tryz.prog 260 Nt:=by
 refine nQ (Γ:=[(341,tM),(342,zC),(345,TK)]) (Il TP (Il Pw (Il ntJ JH))) Tryz.func260 fun ds (hw:kc ([.str]) ds) _=> ?_
 obtain⟨s,rfl,yZ⟩:=qJ hw
 exact⟨0,eT (noC Vm.ke (fun r0 r1=>((true,sf.enc r0++[.bool r1]):kL)) s yZ)⟩
def OY:Sum:= {ps:=[⟨[.str],false⟩],rs:=[⟨[.d_ .i,.d_ .i,.d_ .i,.d_ .i,.d_ .i,.d_ .i,.d_ .str],true⟩,⟨[.d_ .bool],false⟩],fn:=fun ds=>(true,wS.enc (wV (rS ds 0)).1++[.bool (wV (rS ds 0)).2])}
theorem npv:Ee Tryz.prog 298 OY:=by
 refine nQ (Γ:=[(334,OT),(335,tM),(367,OR)]) (Il TL (Il TM (Il npm JH))) Tryz.func298 fun ds (hw:kc ([.str]) ds) _=> ?_
 obtain⟨s,rfl,yZ⟩:=qJ hw
 exact⟨0,eT (ncS Vm.ke (fun r0 r1=>((true,wS.enc r0++[.bool r1]):kL)) s yZ)⟩
theorem nq1:Ee Tryz.prog 261 OY:=by
 refine nQ (Γ:=[(341,tM),(342,zC),(346,OR)]) (Il TP (Il Pw (Il nqS JH))) Tryz.func261 fun ds (hw:kc ([.str]) ds) _=> ?_
 obtain⟨s,rfl,yZ⟩:=qJ hw
 exact⟨0,eT (ncS Vm.ke (fun r0 r1=>((true,wS.enc r0++[.bool r1]):kL)) s yZ)⟩
def wi:Sum:= {ps:=[⟨[.i],false⟩,⟨[.i],false⟩,⟨[.i],false⟩,⟨[.str],false⟩],rs:=[⟨[.d_ .i,.d_ .i,.d_ .i,.d_ .i,.d_ .i,.d_ .i,.d_ .i,.d_ .str],true⟩,⟨[.d_ .bool],false⟩],fn:=fun ds=>(true,nA.enc (yT (rI ds 0) (rI ds 1) (rI ds 2) (rS ds 3)).1++[.bool (yT (rI ds 0) (rI ds 1) (rI ds 2) (rS ds 3)).2])}
theorem ne1:Ee Tryz.prog 299 wi:=by
 refine nQ (Γ:=[(334,OT),(335,tM),(368,wh)]) (Il TL (Il TM (Il neY JH))) Tryz.func299 fun ds (hw:kc ([.i,.i,.i,.str]) ds) _=> ?_
 obtain⟨src,ds,rfl,_,hw⟩:=oc hw
 obtain⟨dst,ds,rfl,_,hw⟩:=oc hw
 obtain⟨kind,ds,rfl,_,hw⟩:=oc hw
 obtain⟨s,rfl,yZ⟩:=qJ hw
 exact⟨0,eT (SZ Vm.ke (fun r0 r1=>((true,nA.enc r0++[.bool r1]):kL)) src dst kind s yZ)⟩
theorem nfz:Ee Tryz.prog 262 wi:=by
 refine nQ (Γ:=[(341,tM),(342,zC),(347,wh)]) (Il TP (Il Pw (Il nfx JH))) Tryz.func262 fun ds (hw:kc ([.i,.i,.i,.str]) ds) _=> ?_
 obtain⟨src,ds,rfl,_,hw⟩:=oc hw
 obtain⟨dst,ds,rfl,_,hw⟩:=oc hw
 obtain⟨kind,ds,rfl,_,hw⟩:=oc hw
 obtain⟨s,rfl,yZ⟩:=qJ hw
 exact⟨0,eT (SZ Vm.ke (fun r0 r1=>((true,nA.enc r0++[.bool r1]):kL)) src dst kind s yZ)⟩
def y9:Sum:= {ps:=[⟨[.str],false⟩],rs:=[⟨[.d_ .i,.d_ .i,.d_ .i,.d_ .i,.d_ .i,.d_ .i,.d_ .i,.d_ .i,.d_ .i,.d_ .i,.d_ .i,.d_ .i,.d_ .i,.d_ .i,.d_ .i,.d_ .str],true⟩,⟨[.d_ .i],false⟩],fn:=fun ds=>(true,nC.enc (ud (rS ds 0)).1++[.int (ud (rS ds 0)).2])}
theorem nkn:Ee Tryz.prog 206 y9:=by
 refine nQ (Γ:=[(209,tW),(297,Nt),(298,OY),(299,wi)]) (Il Uq (Il nmO (Il npv (Il ne1 JH)))) Tryz.func206 fun ds (hw:kc ([.str]) ds) _=> ?_
 obtain⟨s,rfl,_⟩:=qJ hw
 exact⟨0,eT (Yj (fun r0 r1=>((true,nC.enc r0++[.int r1]):kL)) s)⟩
theorem nlW:Ee Tryz.prog 145 y9:=by
 refine nQ (Γ:=[(195,tW),(260,Nt),(261,OY),(262,wi)]) (Il VU (Il noD (Il nq1 (Il nfz JH)))) Tryz.func145 fun ds (hw:kc ([.str]) ds) _=> ?_
 obtain⟨s,rfl,_⟩:=qJ hw
 exact⟨0,eT (Yj (fun r0 r1=>((true,nC.enc r0++[.int r1]):kL)) s)⟩
def vv:Sum:= {ps:=[⟨[.sl [.i,.i,.i,.bool]],false⟩,⟨nc.ct,true⟩,⟨[.i],false⟩,⟨nE.ct,true⟩,⟨nj.ct,true⟩],rs:=[⟨[.own 9 [.str]],true⟩,⟨[.d_ .i,.d_ .i,.d_ .i,.d_ .i],true⟩,⟨[.d_ .i,.d_ .i,.d_ .i,.own 3 [.i]],true⟩,⟨[.d_ .i],false⟩],fn:=fun ds=>(T5 (rR ds 0) (nc.nd ds 1) (rI ds 2) (nE.nd ds 3) (nj.nd ds 7),nc.enc (sd (rR ds 0) (nc.nd ds 1) (rI ds 2) (nE.nd ds 3) (nj.nd ds 7)).1++nE.enc (sd (rR ds 0) (nc.nd ds 1) (rI ds 2) (nE.nd ds 3) (nj.nd ds 7)).2.1++nj.enc (sd (rR ds 0) (nc.nd ds 1) (rI ds 2) (nE.nd ds 3) (nj.nd ds 7)).2.2.1++[.int (sd (rR ds 0) (nc.nd ds 1) (rI ds 2) (nE.nd ds 3) (nj.nd ds 7)).2.2.2])}
def nar:Ctx:=[(118,qB),(160,sW),(163,qV),(168,uo),(235,rY),(277,sL),(324,xR),(356,O2)]
theorem nmE:bH Tryz.prog nar:=Il xG (Il ug (Il xz (Il vD (Il zX (Il RU (Il nik (Il npy JH)))))))
def naq:List (Nat×lC):=[(6, {cb:=[(0,.mL),(2,.mL),(8,.mL),(9,.mL),(10,.mL),(11,.mL),(12,.mL),(14,.mL),(15,.mL),(16,.mL),(39,.mL),(40,.mL),(41,.mL)],boxes:=[(384,[]),(512,[]),(576,[]),(640,[]),(704,[]),(768,[]),(896,[]),(960,[])]})]
def nas:nc→nE→nj→Int→kL:=(fun r0 r1 r2 r3=>((true,nc.enc r0++nE.enc r1++nj.enc r2++[.int r3]):kL))
def nkg (na:Rows) (domain n:Int) (x:Rows) (oy oN:Int) (rz:Rows) (r_1 r_2 r_3 r_4 p_1 p_2 Pq:Int) (PL:Rows) (b11 nvV nvW nvX b12 nvY nvZ sk pB pC:Int) (og p_:Rows):St:= {n:=80,sl:=[(0,.sl [.i,.i,.i,.bool] na),(2,.int .i64 domain),(8,.ptr 512 0),(9,.ptr 576 0),(10,.ptr 640 0),(11,.ptr 704 0),(12,.ptr 768 0),(14,.ptr 896 0),(15,.ptr 960 0),(16,.int .i64 n),(39,.sl [.i] x),(40,.int .i64 oy),(41,.int .i64 oN)],hp:=[(384,.box 54 [.sl [.str] rz]),(512,.box 56 [.int .i64 r_1,.int .i64 r_2,.int .i64 r_3,.int .i64 r_4]),(576,.box 57 [.int .i64 p_1,.int .i64 p_2,.int .i64 Pq,.sl [.i] PL]),(640,.box 54 [.nil]),(704,.box 56 [.int .i64 b11,.int .i64 nvV,.int .i64 nvW,.int .i64 nvX]),(768,.box 57 [.int .i64 b12,.int .i64 nvY,.int .i64 nvZ,.nil]),(896,.box 54 [.own 1509376]),(960,.box 57 [.int .i64 sk,.int .i64 pB,.int .i64 pC,.own 1525763]),(1509376,.row 9 [.str] og false true),(1525763,.row 3 [.i] p_ false true)],ok:=true,ls:=[],lm:=[]}
theorem nmD:Ee Tryz.prog 279 vv:=by
 refine qD (A:=naq) nmE Tryz.func279 fun ds hw aJ=> ?_
 replace hw:kc ((.sl [.i,.i,.i,.bool])::(nc.ct++(.i::(nE.ct++(nj.ct++[]))))) ds:=hw
 obtain⟨na,ds,rfl,_,hw⟩:=oq hw
 obtain⟨m,ds,rfl,_,hw⟩:=nc.nB (r:=_) hw
 obtain⟨domain,ds,rfl,_,hw⟩:=oc hw
 obtain⟨r,ds,rfl,_,hw⟩:=nE.nB (r:=_) hw
 obtain⟨p,ds,rfl,_,hw⟩:=nj.nB (r:=_) hw
 obtain rfl:=nw hw
 obtain⟨N,hN⟩:=nmC Vm.ke nas na m domain r p aJ
 exact⟨N,eL (fun l_=>Sk Vm.ke nas l_ na m domain r p) (funext fun x=>funext fun oy=>funext fun p_1=>funext fun p_2=>funext fun Pq=>funext fun PL=>funext fun sk=>funext fun pB=>funext fun pC=>nL7 (LX Tryz.prog nar naq N Tryz.f279 vv [true,true,true,true,false,true,false] []) (fun n oN r_1 r_2 r_3 r_4 og=>nkg na domain n x oy oN m.nL r_1 r_2 r_3 r_4 p_1 p_2 Pq PL 0 0 0 0 0 0 0 sk pB pC og ((oD p).oe)) _ N) hN⟩
def nbU:Ctx:=[(129,vm),(131,qV),(140,qB),(143,sL),(250,rY),(265,xv),(266,O2),(267,xR)]
theorem nos:bH Tryz.prog nbU:=Il wP (Il yP (Il xM (Il R9 (Il Nn (Il nb9 (Il nq4 (Il njR JH)))))))
def nbT:List (Nat×lC):=[(6, {cb:=[(0,.mL),(2,.mL),(8,.mL),(9,.mL),(10,.mL),(11,.mL),(12,.mL),(14,.mL),(15,.mL),(16,.mL)],boxes:=[(384,[]),(512,[]),(576,[]),(640,[]),(704,[]),(768,[]),(896,[]),(960,[])]})]
def nbV:nc→nE→nj→Int→kL:=(fun r0 r1 r2 r3=>((true,nc.enc r0++nE.enc r1++nj.enc r2++[.int r3]):kL))
def nlP (na:Rows) (domain n:Int) (rz:Rows) (r_1 r_2 r_3 r_4 p_1 p_2 Pq:Int) (PL:Rows) (b11 nvV nvW nvX b12 nvY nvZ sk pB pC:Int) (og p_:Rows):St:= {n:=82,sl:=[(0,.sl [.i,.i,.i,.bool] na),(2,.int .i64 domain),(8,.ptr 512 0),(9,.ptr 576 0),(10,.ptr 640 0),(11,.ptr 704 0),(12,.ptr 768 0),(14,.ptr 896 0),(15,.ptr 960 0),(16,.int .i64 n)],hp:=[(384,.box 54 [.sl [.str] rz]),(512,.box 56 [.int .i64 r_1,.int .i64 r_2,.int .i64 r_3,.int .i64 r_4]),(576,.box 57 [.int .i64 p_1,.int .i64 p_2,.int .i64 Pq,.sl [.i] PL]),(640,.box 54 [.nil]),(704,.box 56 [.int .i64 b11,.int .i64 nvV,.int .i64 nvW,.int .i64 nvX]),(768,.box 57 [.int .i64 b12,.int .i64 nvY,.int .i64 nvZ,.nil]),(896,.box 54 [.own 1509376]),(960,.box 57 [.int .i64 sk,.int .i64 pB,.int .i64 pC,.own 1525763]),(1509376,.row 9 [.str] og false true),(1525763,.row 3 [.i] p_ false true)],ok:=true,ls:=[],lm:=[]}
theorem nor:Ee Tryz.prog 148 vv:=by
 refine qD (A:=nbT) nos Tryz.func148 fun ds hw aJ=> ?_
 replace hw:kc ((.sl [.i,.i,.i,.bool])::(nc.ct++(.i::(nE.ct++(nj.ct++[]))))) ds:=hw
 obtain⟨na,ds,rfl,_,hw⟩:=oq hw
 obtain⟨m,ds,rfl,_,hw⟩:=nc.nB (r:=_) hw
 obtain⟨domain,ds,rfl,_,hw⟩:=oc hw
 obtain⟨r,ds,rfl,_,hw⟩:=nE.nB (r:=_) hw
 obtain⟨p,ds,rfl,_,hw⟩:=nj.nB (r:=_) hw
 obtain rfl:=nw hw
 obtain⟨N,hN⟩:=noq Vm.ke nbV na m domain r p aJ
 exact⟨N,eL (fun l_=>SJ Vm.ke nbV l_ na m domain r p) (funext fun p_1=>funext fun p_2=>funext fun Pq=>funext fun PL=>funext fun sk=>funext fun pB=>funext fun pC=>nL7 (LX Tryz.prog nbU nbT N Tryz.f148 vv [true,true,true,true,true,false,false] []) (fun n r_1 r_2 r_3 r_4 og p_=>nlP na domain n m.nL r_1 r_2 r_3 r_4 p_1 p_2 Pq PL 0 0 0 0 0 0 0 sk pB pC og p_) _ N) hN⟩
def Rt:Sum:= {ps:=[⟨nC.ct,true⟩],rs:=[⟨[.d_ .i,.d_ .i,.d_ .i,.d_ .i,.d_ .i],true⟩],fn:=fun ds=>(true,nO.enc (n8 (nC.nd ds 0)))}
theorem nrJ:Ee Tryz.prog 212 Rt:=by
 refine nQ JH Tryz.func212 fun ds (hw:kc (nC.ct++[]) ds) _=> ?_
 obtain⟨p,ds,rfl,_,hw⟩:=nC.nB (r:=_) hw
 obtain rfl:=nw hw
 exact⟨0,eT (nfF (fun r0=>((true,nO.enc r0):kL)) p)⟩
theorem nsB:Ee Tryz.prog 198 Rt:=by
 refine nQ JH Tryz.func198 fun ds (hw:kc (nC.ct++[]) ds) _=> ?_
 obtain⟨p,ds,rfl,_,hw⟩:=nC.nB (r:=_) hw
 obtain rfl:=nw hw
 exact⟨0,eT (nfF (fun r0=>((true,nO.enc r0):kL)) p)⟩
def nc5:Sum:= {ps:=[⟨nf.ct,true⟩],rs:=[⟨[.d_ .i],false⟩],fn:=fun ds=>(true,[.int (Xk (nf.nd ds 0))])}
theorem npN:Ee Tryz.prog 245 nc5:=by
 refine nQ JH Tryz.func245 fun ds (hw:kc (nf.ct++[]) ds) _=> ?_
 obtain⟨q,ds,rfl,_,hw⟩:=nf.nB (r:=_) hw
 obtain rfl:=nw hw
 exact⟨0,eT (npM (fun r0=>((true,[.int r0]):kL)) q)⟩
def nco:Sum:= {ps:=[⟨nf.ct,true⟩],rs:=[⟨[.d_ .i],false⟩],fn:=fun ds=>(vK (nf.nd ds 0),[.int (Xk (nf.nd ds 0))])}
theorem noV:Ee Tryz.prog 257 nco:=by
 refine nQ JH Tryz.func257 fun ds (hw:kc (nf.ct++[]) ds) aJ=> ?_
 obtain⟨q,ds,rfl,_,hw⟩:=nf.nB (r:=_) hw
 obtain rfl:=nw hw
 exact⟨0,eT (noU Vm.ke (fun r0=>((true,[.int r0]):kL)) q aJ)⟩
def UJ:Sum:= {ps:=[⟨nf.ct,true⟩],rs:=[⟨[.d_ .i],false⟩],fn:=fun ds=>(vK (nf.nd ds 0),[.int (njQ (nf.nd ds 0))])}
theorem ng3:Ee Tryz.prog 243 UJ:=by
 refine nQ JH Tryz.func243 fun ds (hw:kc (nf.ct++[]) ds) aJ=> ?_
 obtain⟨q,ds,rfl,_,hw⟩:=nf.nB (r:=_) hw
 obtain rfl:=nw hw
 exact⟨0,eT (ng2 Vm.ke (fun r0=>((true,[.int r0]):kL)) q aJ)⟩
def vN:Sum:= {ps:=[⟨nx.ct,true⟩],rs:=[⟨[.d_ .i,.d_ .i,.d_ .i,.d_ .i,.d_ .bool,.d_ .bool],true⟩,⟨[.d_ .bool],false⟩],fn:=fun ds=>(true,nx.enc (sq (nx.nd ds 0)).1++[.bool (sq (nx.nd ds 0)).2])}
theorem nc1:Ee Tryz.prog 56 vN:=by
 refine nQ (Γ:=[(119,tc)]) (Il Sr JH) Tryz.func56 fun ds (hw:kc (nx.ct++[]) ds) _=> ?_
 obtain⟨v,ds,rfl,_,hw⟩:=nx.nB (r:=_) hw
 obtain rfl:=nw hw
 exact⟨0,eT (R0 (fun r0 r1=>((true,nx.enc r0++[.bool r1]):kL)) v)⟩
theorem neh:Ee Tryz.prog 38 vN:=by
 refine nQ (Γ:=[(141,tc)]) (Il SS JH) Tryz.func38 fun ds (hw:kc (nx.ct++[]) ds) _=> ?_
 obtain⟨v,ds,rfl,_,hw⟩:=nx.nB (r:=_) hw
 obtain rfl:=nw hw
 exact⟨0,eT (R0 (fun r0 r1=>((true,nx.enc r0++[.bool r1]):kL)) v)⟩
def Rz:Sum:= {ps:=[⟨nx.ct,true⟩],rs:=[⟨[.d_ .i,.d_ .i,.d_ .i,.d_ .i,.d_ .bool,.d_ .bool],true⟩],fn:=fun ds=>(true,nx.enc (nkd (nx.nd ds 0)))}
theorem nrR:Ee Tryz.prog 58 Rz:=by
 refine nQ (Γ:=[(119,tc),(170,O6)]) (Il Sr (Il npI JH)) Tryz.func58 fun ds (hw:kc (nx.ct++[]) ds) _=> ?_
 obtain⟨v,ds,rfl,_,hw⟩:=nx.nB (r:=_) hw
 obtain rfl:=nw hw
 exact⟨0,eT (nfN (fun r0=>((true,nx.enc r0):kL)) v)⟩
theorem nsJ:Ee Tryz.prog 40 Rz:=by
 refine nQ (Γ:=[(141,tc),(149,O6)]) (Il SS (Il noX JH)) Tryz.func40 fun ds (hw:kc (nx.ct++[]) ds) _=> ?_
 obtain⟨v,ds,rfl,_,hw⟩:=nx.nB (r:=_) hw
 obtain rfl:=nw hw
 exact⟨0,eT (nfN (fun r0=>((true,nx.enc r0):kL)) v)⟩
def ue:Sum:= {ps:=[⟨[.str],false⟩],rs:=[⟨[.d_ .i,.d_ .i,.d_ .i,.d_ .i,.d_ .i],true⟩,⟨[.d_ .i],false⟩,⟨[.d_ .bool],false⟩],fn:=fun ds=>(true,nM.enc (qj (rS ds 0)).1++[.int (qj (rS ds 0)).2.1]++[.bool (qj (rS ds 0)).2.2])}
theorem Yb:Ee Tryz.prog 244 ue:=by
 refine nQ (Γ:=[(334,OT),(335,tM)]) (Il TL (Il TM JH)) Tryz.func244 fun ds (hw:kc ([.str]) ds) _=> ?_
 obtain⟨s,rfl,_⟩:=qJ hw
 exact⟨0,eT (Ya (fun r0 r1 r2=>((true,nM.enc r0++[.int r1]++[.bool r2]):kL)) s)⟩
theorem ZG:Ee Tryz.prog 256 ue:=by
 refine nQ (Γ:=[(341,tM),(342,zC)]) (Il TP (Il Pw JH)) Tryz.func256 fun ds (hw:kc ([.str]) ds) _=> ?_
 obtain⟨s,rfl,_⟩:=qJ hw
 exact⟨0,eT (ZF (fun r0 r1 r2=>((true,nM.enc r0++[.int r1]++[.bool r2]):kL)) s)⟩
def vo:Sum:= {ps:=[⟨[.sl [.i,.i,.i,.bool]],false⟩,⟨nc.ct,true⟩,⟨[.i],false⟩,⟨nf.ct,true⟩],rs:=[⟨[.d_ .i,.d_ .i,.d_ .i,.d_ .i,.d_ .i],true⟩,⟨[.d_ .i,.d_ .i,.d_ .i],true⟩,⟨[.d_ .bool],false⟩],fn:=fun ds=>(true,nM.enc (nU (rR ds 0) (nc.nd ds 1) (rI ds 2) (nf.nd ds 3)).1++nf.enc (nU (rR ds 0) (nc.nd ds 1) (rI ds 2) (nf.nd ds 3)).2.1++[.bool (nU (rR ds 0) (nc.nd ds 1) (rI ds 2) (nf.nd ds 3)).2.2])}
theorem nct:Ee Tryz.prog 121 vo:=by
 refine nQ (Γ:=[(237,wG),(242,tV),(243,UJ),(244,ue),(245,nc5)]) (Il ncV (Il ncQ (Il ng3 (Il Yb (Il npN JH))))) Tryz.func121 fun ds hw _=> ?_
 replace hw:kc ((.sl [.i,.i,.i,.bool])::(nc.ct++(.i::(nf.ct++[])))) ds:=hw
 obtain⟨na,ds,rfl,_,hw⟩:=oq hw
 obtain⟨m,ds,rfl,_,hw⟩:=nc.nB (r:=_) hw
 obtain⟨domain,ds,rfl,_,hw⟩:=oc hw
 obtain⟨q,ds,rfl,_,hw⟩:=nf.nB (r:=_) hw
 obtain rfl:=nw hw
 exact⟨0,eT (ncs Vm.ke (fun r0 r1 r2=>((true,nM.enc r0++nf.enc r1++[.bool r2]):kL)) na m domain q)⟩
theorem ncx:Ee Tryz.prog 142 vo:=by
 refine nQ (Γ:=[(144,tV),(254,wG),(256,ue),(257,nco)]) (Il nd5 (Il nd6 (Il ZG (Il noV JH)))) Tryz.func142 fun ds hw _=> ?_
 replace hw:kc ((.sl [.i,.i,.i,.bool])::(nc.ct++(.i::(nf.ct++[])))) ds:=hw
 obtain⟨na,ds,rfl,_,hw⟩:=oq hw
 obtain⟨m,ds,rfl,_,hw⟩:=nc.nB (r:=_) hw
 obtain⟨domain,ds,rfl,_,hw⟩:=oc hw
 obtain⟨q,ds,rfl,_,hw⟩:=nf.nB (r:=_) hw
 obtain rfl:=nw hw
 exact⟨0,eT (ncw Vm.ke (fun r0 r1 r2=>((true,nM.enc r0++nf.enc r1++[.bool r2]):kL)) na m domain q)⟩
def tD:Sum:= {ps:=[⟨[.sl [.i,.i,.i,.i,.i,.i,.str,.bool]],false⟩,⟨nO.ct,true⟩],rs:=[⟨[.d_ .i],false⟩],fn:=fun ds=>(true,[.int (nW (rR ds 0) (nO.nd ds 1))])}
def Um:List (Nat×lC):=[(2, {cb:=[(3,.mL),(7,.mL),(8,.mL),(9,.mL)],boxes:=[(192,[])]})]
def Un:Int→kL:=(fun r0=>((true,[.int r0]):kL))
def ne3 (na:Rows) (oy oN ui wW tw xO xP:Int):St:= {n:=20,sl:=[(3,.ptr 192 0),(7,.sl [.i,.i,.i,.i,.i,.i,.str,.bool] na),(8,.int .i64 oy),(9,.int .i64 oN)],hp:=[(192,.box 234 [.int .i64 ui,.int .i64 wW,.int .i64 tw,.int .i64 xO,.int .i64 xP])],ok:=true,ls:=[],lm:=[]}
theorem ngR:Ee Tryz.prog 354 tD:=by
 refine qD (A:=Um) JH Tryz.func354 fun ds (hw:kc ((.sl [.i,.i,.i,.i,.i,.i,.str,.bool])::(nO.ct++[])) ds) _=> ?_
 obtain⟨na,ds,rfl,pP,hw⟩:=oq hw
 obtain⟨f,ds,rfl,_,hw⟩:=nO.nB (r:=_) hw
 obtain rfl:=nw hw
 obtain⟨N,hN⟩:=ngQ Vm.ke Un na f pP
 exact⟨N,eL (fun l_=>N4 Vm.ke Un l_ na f) (funext fun oy=>funext fun ui=>funext fun wW=>funext fun tw=>funext fun xO=>funext fun xP=>nL1 (LX Tryz.prog [] Um N Tryz.f354 tD [true,false,true,false] []) (fun oN=>ne3 na oy oN ui wW tw xO xP) _ N) hN⟩
def VQ:List (Nat×lC):=[(2, {cb:=[(0,.mL),(3,.mL),(5,.mL)],boxes:=[(192,[])]})]
def VR:Int→kL:=(fun r0=>((true,[.int r0]):kL))
def nfB (na:Rows) (k ui wW tw xO xP:Int):St:= {n:=20,sl:=[(0,.sl [.i,.i,.i,.i,.i,.i,.str,.bool] na),(3,.ptr 192 0),(5,.int .i64 k)],hp:=[(192,.box 234 [.int .i64 ui,.int .i64 wW,.int .i64 tw,.int .i64 xO,.int .i64 xP])],ok:=true,ls:=[],lm:=[]}
theorem nhT:Ee Tryz.prog 263 tD:=by
 refine qD (A:=VQ) JH Tryz.func263 fun ds (hw:kc ((.sl [.i,.i,.i,.i,.i,.i,.str,.bool])::(nO.ct++[])) ds) _=> ?_
 obtain⟨na,ds,rfl,pP,hw⟩:=oq hw
 obtain⟨f,ds,rfl,_,hw⟩:=nO.nB (r:=_) hw
 obtain rfl:=nw hw
 obtain⟨N,hN⟩:=nhS Vm.ke VR na f pP
 exact⟨N,eL (fun l_=>Ok Vm.ke VR l_ na f) (funext fun ui=>funext fun wW=>funext fun tw=>funext fun xO=>funext fun xP=>nL1 (LX Tryz.prog [] VQ N Tryz.f263 tD [true,false,true,false] []) (fun k=>nfB na k ui wW tw xO xP) _ N) hN⟩
def OS:Sum:= {ps:=[⟨[.sl [.i,.i,.i,.i,.i,.i,.str,.bool]],false⟩,⟨nC.ct,true⟩],rs:=[⟨[.own 236 [.i,.i,.i,.i,.i,.i,.str,.bool]],false⟩],fn:=fun ds=>(ncC (rR ds 0) (nC.nd ds 1),[.sl (yS (rR ds 0) (nC.nd ds 1))])}
theorem npo:Ee Tryz.prog 278 OS:=by
 refine nQ (Γ:=[(166,xb),(209,tW),(212,Rt),(218,RE),(354,tD),(355,rn)]) (Il N7 (Il Uq (Il nrJ (Il XE (Il ngR (Il xH JH)))))) Tryz.func278 fun ds (hw:kc ((.sl [.i,.i,.i,.i,.i,.i,.str,.bool])::(nC.ct++[])) ds) aJ=> ?_
 obtain⟨na,ds,rfl,pP,hw⟩:=oq hw
 obtain⟨p,ds,rfl,h_p,hw⟩:=nC.nB (r:=_) hw
 obtain rfl:=nw hw
 exact⟨0,eT (npn Vm.ke (fun r0=>((true,[.sl r0]):kL)) na p pP h_p aJ)⟩
theorem nqU:Ee Tryz.prog 146 OS:=by
 refine nQ (Γ:=[(195,tW),(198,Rt),(263,tD),(264,rn)]) (Il VU (Il nsB (Il nhT (Il Np JH)))) Tryz.func146 fun ds (hw:kc ((.sl [.i,.i,.i,.i,.i,.i,.str,.bool])::(nC.ct++[])) ds) aJ=> ?_
 obtain⟨na,ds,rfl,pP,hw⟩:=oq hw
 obtain⟨p,ds,rfl,h_p,hw⟩:=nC.nB (r:=_) hw
 obtain rfl:=nw hw
 exact⟨0,eT (nqT Vm.ke (fun r0=>((true,[.sl r0]):kL)) na p pP h_p aJ)⟩
def uQ:Sum:= {ps:=[⟨[.sl [.i,.i,.i,.bool]],false⟩,⟨nc.ct,true⟩,⟨[.i],false⟩,⟨nr.ct,true⟩,⟨nj.ct,true⟩,⟨[.sl [.i,.i,.i,.i,.i,.i,.str,.bool]],false⟩,⟨[.i],false⟩],rs:=[⟨[.own 9 [.str]],true⟩,⟨[.d_ .i,.d_ .i,.d_ .i,.d_ .i,.d_ .i,.d_ .i,.d_ .i,.d_ .i,.d_ .i,.d_ .i,.d_ .i,.d_ .i,.d_ .i,.d_ .i,.d_ .i,.d_ .i,.d_ .i,.d_ .i,.d_ .i,.d_ .i,.d_ .i,.d_ .i,.d_ .i,.d_ .i,.d_ .i,.d_ .str,.d_ .i,.d_ .i,.d_ .bool,.d_ .i],true⟩,⟨[.d_ .i,.d_ .i,.d_ .i,.own 3 [.i]],true⟩,⟨[.own 236 [.i,.i,.i,.i,.i,.i,.str,.bool]],false⟩,⟨[.d_ .i],false⟩],fn:=fun ds=>(ngu (rR ds 0) (nc.nd ds 1) (rI ds 2) (nr.nd ds 3) (nj.nd ds 33) (rR ds 37) (rI ds 38),nc.enc (qk (rR ds 0) (nc.nd ds 1) (rI ds 2) (nr.nd ds 3) (nj.nd ds 33) (rR ds 37) (rI ds 38)).1++nr.enc (qk (rR ds 0) (nc.nd ds 1) (rI ds 2) (nr.nd ds 3) (nj.nd ds 33) (rR ds 37) (rI ds 38)).2.1++nj.enc (qk (rR ds 0) (nc.nd ds 1) (rI ds 2) (nr.nd ds 3) (nj.nd ds 33) (rR ds 37) (rI ds 38)).2.2.1++[.sl (qk (rR ds 0) (nc.nd ds 1) (rI ds 2) (nr.nd ds 3) (nj.nd ds 33) (rR ds 37) (rI ds 38)).2.2.2.1]++[.int (qk (rR ds 0) (nc.nd ds 1) (rI ds 2) (nr.nd ds 3) (nj.nd ds 33) (rR ds 37) (rI ds 38)).2.2.2.2])}
def Yf:Ctx:=[(1125899906842645,J9),(55,nK),(117,Ou),(118,qB),(121,vo),(160,sW),(163,qV),(166,xb),(206,y9),(236,tB),(242,tV),(277,sL),(278,OS),(279,vv)]
theorem nkm:bH Tryz.prog Yf:=Il Lw (Il oV (Il nmf (Il xG (Il nct (Il ug (Il xz (Il N7 (Il nkn (Il Ue (Il ncQ (Il RU (Il npo (Il nmD JH)))))))))))))
def Ye:List (Nat×lC):=[(5, {cb:=[(0,.mL),(2,.mL),(6,.mL),(10,.mL),(14,.mL),(15,.mL),(16,.mL),(19,.mL),(20,.mL),(21,.mL),(22,.mL)],boxes:=[(512,[]),(640,[]),(704,[]),(896,[]),(960,[]),(1024,[]),(1216,[]),(1280,[])]})]
def Yg:nc→nr→nj→Rows→Int→kL:=(fun r0 r1 r2 r3 r4=>((true,nc.enc r0++nr.enc r1++nj.enc r2++[.sl r3]++[.int r4]):kL))
def nir (na:Rows) (domain budget n:Int) (rz:Rows) (q_1 TX q_3 q_4 Ps Pt Pu Wf PM Z9 QN QO QP QQ QR QS QT QU QV QW QX QY QZ Q_ Ra:Int) (Rb:Bytes) (Rc Rd:Int) (Re:Bool) (Rf p_1 p_2 Pq:Int) (PL:Rows) (b15 nv0 nv1 nv2 nv3 nv4 nv5 nv6 nv7 nv8 nuE nuF nuG nuH nuI nuJ nuK nuL nuM nuN nuO nuP nuQ nuR nuS:Int) (nuT:Bytes) (nuU nuV:Int) (nuW:Bool) (nuX b16 nv9 nv_ sk pB pC:Int) (all og p_:Rows):St:= {n:=122,sl:=[(0,.sl [.i,.i,.i,.bool] na),(2,.int .i64 domain),(6,.int .i64 budget),(10,.ptr 640 0),(14,.ptr 896 0),(15,.ptr 960 0),(16,.ptr 1024 0),(19,.ptr 1216 0),(20,.ptr 1280 0),(21,.own 641344),(22,.int .i64 n)],hp:=[(512,.box 54 [.sl [.str] rz]),(640,.box 104 [.int .i64 q_1,.int .i64 TX,.int .i64 q_3,.int .i64 q_4,.int .i64 Ps,.int .i64 Pt,.int .i64 Pu,.int .i64 Wf,.int .i64 PM,.int .i64 Z9,.int .i64 QN,.int .i64 QO,.int .i64 QP,.int .i64 QQ,.int .i64 QR,.int .i64 QS,.int .i64 QT,.int .i64 QU,.int .i64 QV,.int .i64 QW,.int .i64 QX,.int .i64 QY,.int .i64 QZ,.int .i64 Q_,.int .i64 Ra,.str Rb,.int .i64 Rc,.int .i64 Rd,.bool Re,.int .i64 Rf]),(704,.box 57 [.int .i64 p_1,.int .i64 p_2,.int .i64 Pq,.sl [.i] PL]),(896,.box 54 [.nil]),(960,.box 104 [.int .i64 b15,.int .i64 nv0,.int .i64 nv1,.int .i64 nv2,.int .i64 nv3,.int .i64 nv4,.int .i64 nv5,.int .i64 nv6,.int .i64 nv7,.int .i64 nv8,.int .i64 nuE,.int .i64 nuF,.int .i64 nuG,.int .i64 nuH,.int .i64 nuI,.int .i64 nuJ,.int .i64 nuK,.int .i64 nuL,.int .i64 nuM,.int .i64 nuN,.int .i64 nuO,.int .i64 nuP,.int .i64 nuQ,.int .i64 nuR,.int .i64 nuS,.str nuT,.int .i64 nuU,.int .i64 nuV,.bool nuW,.int .i64 nuX]),(1024,.box 57 [.int .i64 b16,.int .i64 nv9,.int .i64 nv_,.nil]),(1216,.box 54 [.own 1591296]),(1280,.box 57 [.int .i64 sk,.int .i64 pB,.int .i64 pC,.own 1607683]),(641344,.row 236 [.i,.i,.i,.i,.i,.i,.str,.bool] all false true),(1591296,.row 9 [.str] og false true),(1607683,.row 3 [.i] p_ false true)],ok:=true,ls:=[],lm:=[]}
theorem nkl:Ee Tryz.prog 169 uQ:=by
 refine qD (A:=Ye) nkm Tryz.func169 fun ds hw aJ=> ?_
 replace hw:kc ((.sl [.i,.i,.i,.bool])::(nc.ct++(.i::(nr.ct++(nj.ct++[.sl [.i,.i,.i,.i,.i,.i,.str,.bool],.i]))))) ds:=hw
 obtain⟨na,ds,rfl,_,hw⟩:=oq hw
 obtain⟨m,ds,rfl,_,hw⟩:=nc.nB (r:=_) hw
 obtain⟨domain,ds,rfl,_,hw⟩:=oc hw
 obtain⟨q,ds,rfl,_,hw⟩:=nr.nB (r:=_) hw
 obtain⟨p,ds,rfl,_,hw⟩:=nj.nB (r:=_) hw
 obtain⟨streams,ds,rfl,_,hw⟩:=oq hw
 obtain⟨budget,rfl,_⟩:=nz hw
 obtain⟨N,hN⟩:=nkk Vm.ke Yg na m domain q p streams budget aJ
 exact⟨N,eL (fun l_=>Qe Vm.ke Yg l_ na m domain q p streams budget) (funext fun q_1=>funext fun TX=>funext fun q_3=>funext fun q_4=>funext fun Ps=>funext fun Pt=>funext fun Pu=>funext fun QN=>funext fun QO=>funext fun QP=>funext fun QQ=>funext fun QR=>funext fun QS=>funext fun QT=>funext fun QU=>funext fun QV=>funext fun QW=>funext fun QX=>funext fun QY=>funext fun QZ=>funext fun Q_=>funext fun Ra=>funext fun Rb=>funext fun Rc=>funext fun Rd=>funext fun Re=>funext fun Rf=>funext fun og=>nL9 (LX Tryz.prog Yf Ye N Tryz.f169 uQ [true,true,true,true,false,false] []) (fun n Wf PM Z9 sk pB pC all p_=>nir na domain budget n m.nL q_1 TX q_3 q_4 Ps Pt Pu Wf PM Z9 QN QO QP QQ QR QS QT QU QV QW QX QY QZ Q_ Ra Rb Rc Rd Re Rf p.oA p.nG p.Count p.oe 0 0 0 0 0 0 0 0 0 0 0 0 0 0 0 0 0 0 0 0 0 0 0 0 0 [] 0 0 false 0 0 0 0 sk pB pC all og p_) _ N) hN⟩
def ZL:Ctx:=[(1125899906842645,J9),(37,nK),(129,vm),(131,qV),(139,Ou),(140,qB),(142,vo),(143,sL),(144,tV),(145,y9),(146,OS),(147,tB),(148,vv)]
theorem nlV:bH Tryz.prog ZL:=Il Lw (Il pG (Il wP (Il yP (Il nmq (Il xM (Il ncx (Il R9 (Il nd5 (Il nlW (Il nqU (Il VG (Il nor JH))))))))))))
def ZK:List (Nat×lC):=[(6, {cb:=[(0,.mL),(2,.mL),(6,.mL),(8,.mL),(10,.mL),(14,.mL),(15,.mL),(16,.mL),(19,.mL),(20,.mL),(21,.mL)],boxes:=[(512,[]),(640,[]),(704,[]),(896,[]),(960,[]),(1024,[]),(1280,[])]})]
def ZM:nc→nr→nj→Rows→Int→kL:=(fun r0 r1 r2 r3 r4=>((true,nc.enc r0++nr.enc r1++nj.enc r2++[.sl r3]++[.int r4]):kL))
def njW (na:Rows) (domain budget n:Int) (rz:Rows) (q_1 TX q_3 q_4 Ps Pt Pu Wf PM Z9 QN QO QP QQ QR QS QT QU QV QW QX QY QZ Q_ Ra:Int) (Rb:Bytes) (Rc Rd:Int) (Re:Bool) (Rf p_1 p_2 Pq:Int) (PL:Rows) (b15 nv0 nv1 nv2 nv3 nv4 nv5 nv6 nv7 nv8 nuE nuF nuG nuH nuI nuJ nuK nuL nuM nuN nuO nuP nuQ nuR nuS:Int) (nuT:Bytes) (nuU nuV:Int) (nuW:Bool) (nuX b16 nv9 nv_ sk pB pC:Int) (oh p_:Rows):St:= {n:=133,sl:=[(0,.sl [.i,.i,.i,.bool] na),(2,.int .i64 domain),(6,.int .i64 budget),(8,.ptr 512 0),(10,.ptr 640 0),(14,.ptr 896 0),(15,.ptr 960 0),(16,.ptr 1024 0),(19,.own 641216),(20,.ptr 1280 0),(21,.int .i64 n)],hp:=[(512,.box 54 [.sl [.str] rz]),(640,.box 104 [.int .i64 q_1,.int .i64 TX,.int .i64 q_3,.int .i64 q_4,.int .i64 Ps,.int .i64 Pt,.int .i64 Pu,.int .i64 Wf,.int .i64 PM,.int .i64 Z9,.int .i64 QN,.int .i64 QO,.int .i64 QP,.int .i64 QQ,.int .i64 QR,.int .i64 QS,.int .i64 QT,.int .i64 QU,.int .i64 QV,.int .i64 QW,.int .i64 QX,.int .i64 QY,.int .i64 QZ,.int .i64 Q_,.int .i64 Ra,.str Rb,.int .i64 Rc,.int .i64 Rd,.bool Re,.int .i64 Rf]),(704,.box 57 [.int .i64 p_1,.int .i64 p_2,.int .i64 Pq,.sl [.i] PL]),(896,.box 54 [.nil]),(960,.box 104 [.int .i64 b15,.int .i64 nv0,.int .i64 nv1,.int .i64 nv2,.int .i64 nv3,.int .i64 nv4,.int .i64 nv5,.int .i64 nv6,.int .i64 nv7,.int .i64 nv8,.int .i64 nuE,.int .i64 nuF,.int .i64 nuG,.int .i64 nuH,.int .i64 nuI,.int .i64 nuJ,.int .i64 nuK,.int .i64 nuL,.int .i64 nuM,.int .i64 nuN,.int .i64 nuO,.int .i64 nuP,.int .i64 nuQ,.int .i64 nuR,.int .i64 nuS,.str nuT,.int .i64 nuU,.int .i64 nuV,.bool nuW,.int .i64 nuX]),(1024,.box 57 [.int .i64 b16,.int .i64 nv9,.int .i64 nv_,.nil]),(1280,.box 57 [.int .i64 sk,.int .i64 pB,.int .i64 pC,.own 1607683]),(641216,.row 236 [.i,.i,.i,.i,.i,.i,.str,.bool] oh false true),(1607683,.row 3 [.i] p_ false true)],ok:=true,ls:=[],lm:=[]}
theorem nlU:Ee Tryz.prog 39 uQ:=by
 refine qD (A:=ZK) nlV Tryz.func39 fun ds hw aJ=> ?_
 replace hw:kc ((.sl [.i,.i,.i,.bool])::(nc.ct++(.i::(nr.ct++(nj.ct++[.sl [.i,.i,.i,.i,.i,.i,.str,.bool],.i]))))) ds:=hw
 obtain⟨na,ds,rfl,_,hw⟩:=oq hw
 obtain⟨m,ds,rfl,_,hw⟩:=nc.nB (r:=_) hw
 obtain⟨domain,ds,rfl,_,hw⟩:=oc hw
 obtain⟨q,ds,rfl,_,hw⟩:=nr.nB (r:=_) hw
 obtain⟨p,ds,rfl,_,hw⟩:=nj.nB (r:=_) hw
 obtain⟨streams,ds,rfl,_,hw⟩:=oq hw
 obtain⟨budget,rfl,_⟩:=nz hw
 obtain⟨N,hN⟩:=nlT Vm.ke ZM na m domain q p streams budget aJ
 exact⟨N,eL (fun l_=>Ri Vm.ke ZM l_ na m domain q p streams budget) (funext fun rz=>funext fun q_1=>funext fun TX=>funext fun q_3=>funext fun q_4=>funext fun Ps=>funext fun Pt=>funext fun Pu=>funext fun QN=>funext fun QO=>funext fun QP=>funext fun QQ=>funext fun QR=>funext fun QS=>funext fun QT=>funext fun QU=>funext fun QV=>funext fun QW=>funext fun QX=>funext fun QY=>funext fun QZ=>funext fun Q_=>funext fun Ra=>funext fun Rb=>funext fun Rc=>funext fun Rd=>funext fun Re=>funext fun Rf=>nL9 (LX Tryz.prog ZL ZK N Tryz.f39 uQ [true,true,true,true,true,false,false] []) (fun n Wf PM Z9 sk pB pC oh p_=>njW na domain budget n rz q_1 TX q_3 q_4 Ps Pt Pu Wf PM Z9 QN QO QP QQ QR QS QT QU QV QW QX QY QZ Q_ Ra Rb Rc Rd Re Rf p.oA p.nG p.Count p.oe 0 0 0 0 0 0 0 0 0 0 0 0 0 0 0 0 0 0 0 0 0 0 0 0 0 [] 0 0 false 0 0 0 0 sk pB pC oh p_) _ N) hN⟩
def na8:Sum:= {ps:=[⟨nt.ct,true⟩,⟨[.i],false⟩,⟨[.i],false⟩],rs:=[⟨[.d_ .i],false⟩],fn:=fun ds=>(nmn (nt.nd ds 0) (rI ds 33) (rI ds 34),[.int (Pr (nt.nd ds 0) (rI ds 33) (rI ds 34)).1]++nt.enc (Pr (nt.nd ds 0) (rI ds 33) (rI ds 34)).2),ms:=[some (.cL 75 [.flat 9,.flat 222,.flat 3,.deep 293 [3],.flat 104,.deep 57 [3],.flat 107,.flat 4,.flat 3,.flat 260,.flat 264,.flat 3,.flat 236,.flat 9,.flat 3,.flat 3]),none,none]}
def nna:Ctx:=[(1125899906842666,J9),(169,uQ)]
theorem nnd:bH Tryz.prog nna:=Il Lw (Il nkl JH)
theorem nnc:Cq Tryz.prog 57 na8:=by
 refine Oo (A:=[]) nnd Tryz.func57 fun ds hw aJ=> ?_
 replace hw:kc (nt.ct++[.i,.i]) ds:=hw
 obtain⟨h,ds,rfl,h_h,hw⟩:=nt.nB (r:=_) hw
 obtain⟨k,ds,rfl,_,hw⟩:=oc hw
 obtain⟨budget,rfl,_⟩:=nz hw
 exact⟨0,eT (nnb Vm.ke (fun r0 r1=>((true,[.int r0]++nt.enc r1):kL)) h k budget h_h aJ)⟩
def rU:Sum:= {ps:=[⟨nt.ct,true⟩,⟨[.i],false⟩],rs:=[⟨[.own 9 [.str],.own 222 [.i,.i,.i,.bool],.d_ .i,.d_ .i,.d_ .i,.d_ .i,.d_ .i,.d_ .i,.d_ .i,.own 3 [.i],.deep 293 [.i,.i,.sl [.i]] [3],.d_ .i,.own 104 [.i,.i,.i,.i,.i,.i,.i,.i,.i,.i,.i,.i,.i,.i,.i,.i,.i,.i,.i,.i,.i,.i,.i,.i,.i,.str,.i,.i,.bool,.i],.deep 57 [.i,.i,.i,.sl [.i]] [3],.own 107 [.i,.i,.i,.i,.bool,.bool],.own 4 [.bool],.d_ .i,.d_ .bool,.own 3 [.i],.own 260 [.i,.i,.i,.i,.i,.i,.i,.i,.i],.own 264 [.i,.i,.i,.i,.i,.i,.i],.d_ .str,.own 3 [.i],.own 236 [.i,.i,.i,.i,.i,.i,.str,.bool],.d_ .bool,.own 9 [.str],.own 3 [.i],.own 3 [.i],.d_ .i,.d_ .i,.d_ .i,.d_ .i,.d_ .i],true⟩,⟨[.d_ .i],false⟩],fn:=fun ds=>(sQ (nt.nd ds 0) (rI ds 33),nt.enc (o_ (nt.nd ds 0) (rI ds 33)).1++[.int (o_ (nt.nd ds 0) (rI ds 33)).2])}
def wY:Ctx:=[(20,rW),(54,vC),(55,nK),(56,vN),(57,na8),(58,Rz)]
theorem ngH:bH Tryz.prog wY:=Il nrL (Il nm4 (Il oV (Il nc1 (Il nnc (Il nrR JH)))))
def wX:List (Nat×lC):=[(6, {cb:=[(1,.mL),(4,.mL),(6,.mL),(7,.mL),(25,.mL),(26,.mL)],boxes:=[(128,[]),(256,[]),(384,[])]})]
def sE:nt→Int→kL:=(fun r0 r1=>((true,nt.enc r0++[.int r1]):kL))
def uy (budget total x oy:Int) (TC h_2:Rows) (TD TE TF TG TH TI TJ:Int) (uG uH:Rows) (uI:Int) (qd qc pe ql:Rows) (qw:Int) (qx:Bool) (qm pI pJ:Rows) (pM:Bytes) (pK qn:Rows) (uJ:Bool) (qo qp qq:Rows) (qE qF qG qH qI b4 ntc ntd nte ntf ntg nti ntj ntk:Int) (ntl:Bool) (nh_:Bytes) (nia:Bool) (nib nic nie nif nig oh pg ph pj pk pn po pq r_:Int) (tn:Bool) (rE:Bytes) (rm:Bool) (rF rG rH rJ rK:Int) (og ou oz n7 nZ oX qe pR oQ rL rM oT oY oR oS sb:Rows):St:= {n:=80,sl:=[(1,.int .i64 budget),(4,.ptr 256 0),(6,.ptr 384 0),(7,.int .i64 total),(25,.int .i64 x),(26,.int .i64 oy)],hp:=[(128,.box 75 [.sl [.str] TC,.sl [.i,.i,.i,.bool] h_2,.int .i64 TD,.int .i64 TE,.int .i64 TF,.int .i64 TG,.int .i64 TH,.int .i64 TI,.int .i64 TJ,.sl [.i] uG,.sl [.i,.i,.sl [.i]] uH,.int .i64 uI,.sl [.i,.i,.i,.i,.i,.i,.i,.i,.i,.i,.i,.i,.i,.i,.i,.i,.i,.i,.i,.i,.i,.i,.i,.i,.i,.str,.i,.i,.bool,.i] qd,.sl [.i,.i,.i,.sl [.i]] qc,.sl [.i,.i,.i,.i,.bool,.bool] pe,.sl [.bool] ql,.int .i64 qw,.bool qx,.sl [.i] qm,.sl [.i,.i,.i,.i,.i,.i,.i,.i,.i] pI,.sl [.i,.i,.i,.i,.i,.i,.i] pJ,.str pM,.sl [.i] pK,.sl [.i,.i,.i,.i,.i,.i,.str,.bool] qn,.bool uJ,.sl [.str] qo,.sl [.i] qp,.sl [.i] qq,.int .i64 qE,.int .i64 qF,.int .i64 qG,.int .i64 qH,.int .i64 qI]),(256,.box 75 [.nil,.nil,.int .i64 b4,.int .i64 ntc,.int .i64 ntd,.int .i64 nte,.int .i64 ntf,.int .i64 ntg,.int .i64 nti,.nil,.nil,.int .i64 ntj,.nil,.nil,.nil,.nil,.int .i64 ntk,.bool ntl,.nil,.nil,.nil,.str nh_,.nil,.nil,.bool nia,.nil,.nil,.nil,.int .i64 nib,.int .i64 nic,.int .i64 nie,.int .i64 nif,.int .i64 nig]),(384,.box 75 [.own 1378304,.own 1378305,.int .i64 oh,.int .i64 pg,.int .i64 ph,.int .i64 pj,.int .i64 pk,.int .i64 pn,.int .i64 po,.own 1378313,.own 1378314,.int .i64 pq,.own 1378316,.own 1378317,.own 1378318,.own 1378319,.int .i64 r_,.bool tn,.own 1378322,.own 1378323,.own 1378324,.str rE,.own 1378326,.own 1378327,.bool rm,.own 1378329,.own 1378330,.own 1378331,.int .i64 rF,.int .i64 rG,.int .i64 rH,.int .i64 rJ,.int .i64 rK]),(1378304,.row 9 [.str] og false true),(1378305,.row 222 [.i,.i,.i,.bool] ou false true),(1378313,.row 3 [.i] oz false true),(1378314,.deep 293 [.i,.i,.sl [.i]] [3] n7 none),(1378316,.row 104 [.i,.i,.i,.i,.i,.i,.i,.i,.i,.i,.i,.i,.i,.i,.i,.i,.i,.i,.i,.i,.i,.i,.i,.i,.i,.str,.i,.i,.bool,.i] nZ false true),(1378317,.deep 57 [.i,.i,.i,.sl [.i]] [3] oX none),(1378318,.row 107 [.i,.i,.i,.i,.bool,.bool] qe false true),(1378319,.row 4 [.bool] pR false true),(1378322,.row 3 [.i] oQ false true),(1378323,.row 260 [.i,.i,.i,.i,.i,.i,.i,.i,.i] rL false true),(1378324,.row 264 [.i,.i,.i,.i,.i,.i,.i] rM false true),(1378326,.row 3 [.i] oT false true),(1378327,.row 236 [.i,.i,.i,.i,.i,.i,.str,.bool] oY false true),(1378329,.row 9 [.str] oR false true),(1378330,.row 3 [.i] oS false true),(1378331,.row 3 [.i] sb false true)],ok:=true,ls:=[],lm:=[]}
noncomputable def uw (N:Nat):(St→kL)→St→kL:=LX Tryz.prog wY wX N Tryz.f10 rU [true,true,true,true,false,true,false] []
theorem neZ (N:Nat) (budget x:Int) (TC h_2:Rows) (TD TE TF TG TH TI TJ:Int) (uG uH:Rows) (uI:Int) (qd qc pe ql:Rows) (qw:Int) (qx:Bool) (qm pI pJ:Rows) (pM:Bytes) (pK qn:Rows) (uJ:Bool) (qo qp qq:Rows) (qE qF qG qH qI b4 ntc ntd nte ntf ntg nti ntj ntk:Int) (ntl:Bool) (nh_:Bytes) (nia:Bool) (nib nic nie nif nig:Int) (ih:St→kL) (total oy oh pg ph pj pk pn po pq r_:Int) (tn:Bool) (rE:Bytes) (rm:Bool) (rF rG rH rJ rK:Int) (og ou oz n7 nZ oX qe pR oQ rL rM oT oY oR oS sb:Rows):uw N ih (uy budget total x oy TC h_2 TD TE TF TG TH TI TJ uG uH uI qd qc pe ql qw qx qm pI pJ pM pK qn uJ qo qp qq qE qF qG qH qI b4 ntc ntd nte ntf ntg nti ntj ntk ntl nh_ nia nib nic nie nif nig oh pg ph pj pk pn po pq r_ tn rE rm rF rG rH rJ rK og ou oz n7 nZ oX qe pR oQ rL rM oT oY oR oS sb)=ux Vm.ke sE budget x (fun total oy oh pg ph pj pk pn po pq r_ tn rE rm rF rG rH rJ rK og ou oz n7 nZ oX qe pR oQ rL rM oT oY oR oS sb=>ih (uy budget total x oy TC h_2 TD TE TF TG TH TI TJ uG uH uI qd qc pe ql qw qx qm pI pJ pM pK qn uJ qo qp qq qE qF qG qH qI b4 ntc ntd nte ntf ntg nti ntj ntk ntl nh_ nia nib nic nie nif nig oh pg ph pj pk pn po pq r_ tn rE rm rF rG rH rJ rK og ou oz n7 nZ oX qe pR oQ rL rM oT oY oR oS sb)) total oy oh pg ph pj pk pn po pq r_ tn rE rm rF rG rH rJ rK og ou oz n7 nZ oX qe pR oQ rL rM oT oY oR oS sb:=by kernel_rfl
theorem ne0 (N:Nat) (budget x:Int) (TC h_2:Rows) (TD TE TF TG TH TI TJ:Int) (uG uH:Rows) (uI:Int) (qd qc pe ql:Rows) (qw:Int) (qx:Bool) (qm pI pJ:Rows) (pM:Bytes) (pK qn:Rows) (uJ:Bool) (qo qp qq:Rows) (qE qF qG qH qI b4 ntc ntd nte ntf ntg nti ntj ntk:Int) (ntl:Bool) (nh_:Bytes) (nia:Bool) (nib nic nie nif nig:Int) (m_:Nat):(fun total oy oh pg ph pj pk pn po pq r_ tn rE rm rF rG rH rJ rK og ou oz n7 nZ oX qe pR oQ rL rM oT oY oR oS sb=>LY (uw N) m_ (uy budget total x oy TC h_2 TD TE TF TG TH TI TJ uG uH uI qd qc pe ql qw qx qm pI pJ pM pK qn uJ qo qp qq qE qF qG qH qI b4 ntc ntd nte ntf ntg nti ntj ntk ntl nh_ nia nib nic nie nif nig oh pg ph pj pk pn po pq r_ tn rE rm rF rG rH rJ rK og ou oz n7 nZ oX qe pR oQ rL rM oT oY oR oS sb))=qU Vm.ke sE N budget x m_:=by
 induction m_ with
 | zero=>rfl
 | succ m_ ih=>
  funext total oy oh pg ph pj pk pn po pq r_ tn rE rm rF rG rH rJ rK og ou oz n7 nZ oX qe pR oQ rL rM oT oY oR oS sb
  refine (neZ N budget x TC h_2 TD TE TF TG TH TI TJ uG uH uI qd qc pe ql qw qx qm pI pJ pM pK qn uJ qo qp qq qE qF qG qH qI b4 ntc ntd nte ntf ntg nti ntj ntk ntl nh_ nia nib nic nie nif nig (LY (uw N) m_) total oy oh pg ph pj pk pn po pq r_ tn rE rm rF rG rH rJ rK og ou oz n7 nZ oX qe pR oQ rL rM oT oY oR oS sb).trans ?_
  rw[ih]
  rfl
theorem ngG (N:Nat) (h:nt) (budget:Int):H0 Tryz.prog wY wX N Tryz.f10 rU (h.enc++(.int budget::([])))=wZ Vm.ke sE N h budget:=by
 have nqQ:H0 Tryz.prog wY wX N Tryz.f10 rU (h.enc++(.int budget::([])))=w4 Vm.ke sE (fun x total oy oh pg ph pj pk pn po pq r_ tn rE rm rF rG rH rJ rK og ou oz n7 nZ oX qe pR oQ rL rM oT oY oR oS sb=>LY (uw N) N (uy budget total x oy h.n_.nL h.Maps h.Tx.Ring.oA h.Tx.Ring.nG h.Tx.Ring.Head h.Tx.Ring.qQ h.Tx.n9.oA h.Tx.n9.nG h.Tx.n9.Count h.Tx.n9.oe h.Tx.nD h.Tx.Next h.Rx h.nR h.nN h.nT h.Filter.Wj h.Filter.oH h.Filter.pE h.nk.oM h.nk.Table.nH h.nk.oa.Key h.nk.oa.Table h.oE h.p9 h.tU h.oG h.oU h.Counters.Frames h.Counters.Bad h.Counters.pX h.Counters.qz h.Counters.tz 0 0 0 0 0 0 0 0 0 false [] false 0 0 0 0 0 oh pg ph pj pk pn po pq r_ tn rE rm rF rG rH rJ rK og ou oz n7 nZ oX qe pR oQ rL rM oT oY oR oS sb)) h budget:=by kernel_rfl
 refine nqQ.trans ?_
 unfold wZ
 have e0:(fun x total oy oh pg ph pj pk pn po pq r_ tn rE rm rF rG rH rJ rK og ou oz n7 nZ oX qe pR oQ rL rM oT oY oR oS sb=>LY (uw N) N (uy budget total x oy h.n_.nL h.Maps h.Tx.Ring.oA h.Tx.Ring.nG h.Tx.Ring.Head h.Tx.Ring.qQ h.Tx.n9.oA h.Tx.n9.nG h.Tx.n9.Count h.Tx.n9.oe h.Tx.nD h.Tx.Next h.Rx h.nR h.nN h.nT h.Filter.Wj h.Filter.oH h.Filter.pE h.nk.oM h.nk.Table.nH h.nk.oa.Key h.nk.oa.Table h.oE h.p9 h.tU h.oG h.oU h.Counters.Frames h.Counters.Bad h.Counters.pX h.Counters.qz h.Counters.tz 0 0 0 0 0 0 0 0 0 false [] false 0 0 0 0 0 oh pg ph pj pk pn po pq r_ tn rE rm rF rG rH rJ rK og ou oz n7 nZ oX qe pR oQ rL rM oT oY oR oS sb))=(fun x=>qU Vm.ke sE N budget x N):=by
  funext x
  exact ne0 N budget x h.n_.nL h.Maps h.Tx.Ring.oA h.Tx.Ring.nG h.Tx.Ring.Head h.Tx.Ring.qQ h.Tx.n9.oA h.Tx.n9.nG h.Tx.n9.Count h.Tx.n9.oe h.Tx.nD h.Tx.Next h.Rx h.nR h.nN h.nT h.Filter.Wj h.Filter.oH h.Filter.pE h.nk.oM h.nk.Table.nH h.nk.oa.Key h.nk.oa.Table h.oE h.p9 h.tU h.oG h.oU h.Counters.Frames h.Counters.Bad h.Counters.pX h.Counters.qz h.Counters.tz 0 0 0 0 0 0 0 0 0 false [] false 0 0 0 0 0 N
 exact congrArg (fun l_=>w4 Vm.ke sE l_ h budget) e0
theorem ngF:Ee Tryz.prog 10 rU:=by
 refine qD (A:=wX) ngH Tryz.func10 fun ds (hw:kc (nt.ct++[.i]) ds) aJ=> ?_
 obtain⟨h,ds,rfl,h_h,hw⟩:=nt.nB (r:=_) hw
 obtain⟨budget,rfl,_⟩:=nz hw
 obtain⟨N,hN⟩:=ngE Vm.ke sE h budget h_h aJ
 exact⟨N,((ngG N h budget).trans hN).trans (by kernel_rfl)⟩
def VJ:Ctx:=[(1125899906842704,J9),(35,vC),(36,rW),(37,nK),(38,vN),(39,uQ),(40,Rz)]
theorem nhG:bH Tryz.prog VJ:=Il Lw (Il nru (Il nsD (Il pG (Il neh (Il nlU (Il nsJ JH))))))
def VI:List (Nat×lC):=[(6, {cb:=[(1,.mL),(2,.mL),(4,.mL),(6,.mL),(7,.mL),(8,.mL)],boxes:=[(128,[]),(256,[]),(384,[])]})]
def VK:nt→Int→kL:=(fun r0 r1=>((true,nt.enc r0++[.int r1]):kL))
def nfy (budget sum k:Int) (TC h_2:Rows) (TD TE TF TG TH TI TJ:Int) (uG uH:Rows) (uI:Int) (qd qc pe ql:Rows) (qw:Int) (qx:Bool) (qm pI pJ:Rows) (pM:Bytes) (pK qn:Rows) (uJ:Bool) (qo qp qq:Rows) (qE qF qG qH qI b4 ntc ntd nte ntf ntg nti ntj ntk:Int) (ntl:Bool) (nh_:Bytes) (nia:Bool) (nib nic nie nif nig oh pg ph pj pk pn po pq r_:Int) (tn:Bool) (rE:Bytes) (rm:Bool) (rF rG rH rJ rK:Int) (og ou oz n7 nZ oX qe pR oQ rL rM oT oY oR oS sb:Rows):St:= {n:=126,sl:=[(1,.int .i64 budget),(2,.ptr 128 0),(4,.ptr 256 0),(6,.ptr 384 0),(7,.int .i64 sum),(8,.int .i64 k)],hp:=[(128,.box 75 [.sl [.str] TC,.sl [.i,.i,.i,.bool] h_2,.int .i64 TD,.int .i64 TE,.int .i64 TF,.int .i64 TG,.int .i64 TH,.int .i64 TI,.int .i64 TJ,.sl [.i] uG,.sl [.i,.i,.sl [.i]] uH,.int .i64 uI,.sl [.i,.i,.i,.i,.i,.i,.i,.i,.i,.i,.i,.i,.i,.i,.i,.i,.i,.i,.i,.i,.i,.i,.i,.i,.i,.str,.i,.i,.bool,.i] qd,.sl [.i,.i,.i,.sl [.i]] qc,.sl [.i,.i,.i,.i,.bool,.bool] pe,.sl [.bool] ql,.int .i64 qw,.bool qx,.sl [.i] qm,.sl [.i,.i,.i,.i,.i,.i,.i,.i,.i] pI,.sl [.i,.i,.i,.i,.i,.i,.i] pJ,.str pM,.sl [.i] pK,.sl [.i,.i,.i,.i,.i,.i,.str,.bool] qn,.bool uJ,.sl [.str] qo,.sl [.i] qp,.sl [.i] qq,.int .i64 qE,.int .i64 qF,.int .i64 qG,.int .i64 qH,.int .i64 qI]),(256,.box 75 [.nil,.nil,.int .i64 b4,.int .i64 ntc,.int .i64 ntd,.int .i64 nte,.int .i64 ntf,.int .i64 ntg,.int .i64 nti,.nil,.nil,.int .i64 ntj,.nil,.nil,.nil,.nil,.int .i64 ntk,.bool ntl,.nil,.nil,.nil,.str nh_,.nil,.nil,.bool nia,.nil,.nil,.nil,.int .i64 nib,.int .i64 nic,.int .i64 nie,.int .i64 nif,.int .i64 nig]),(384,.box 75 [.own 1378304,.own 1378305,.int .i64 oh,.int .i64 pg,.int .i64 ph,.int .i64 pj,.int .i64 pk,.int .i64 pn,.int .i64 po,.own 1378313,.own 1378314,.int .i64 pq,.own 1378316,.own 1378317,.own 1378318,.own 1378319,.int .i64 r_,.bool tn,.own 1378322,.own 1378323,.own 1378324,.str rE,.own 1378326,.own 1378327,.bool rm,.own 1378329,.own 1378330,.own 1378331,.int .i64 rF,.int .i64 rG,.int .i64 rH,.int .i64 rJ,.int .i64 rK]),(1378304,.row 9 [.str] og false true),(1378305,.row 222 [.i,.i,.i,.bool] ou false true),(1378313,.row 3 [.i] oz false true),(1378314,.deep 293 [.i,.i,.sl [.i]] [3] n7 none),(1378316,.row 104 [.i,.i,.i,.i,.i,.i,.i,.i,.i,.i,.i,.i,.i,.i,.i,.i,.i,.i,.i,.i,.i,.i,.i,.i,.i,.str,.i,.i,.bool,.i] nZ false true),(1378317,.deep 57 [.i,.i,.i,.sl [.i]] [3] oX none),(1378318,.row 107 [.i,.i,.i,.i,.bool,.bool] qe false true),(1378319,.row 4 [.bool] pR false true),(1378322,.row 3 [.i] oQ false true),(1378323,.row 260 [.i,.i,.i,.i,.i,.i,.i,.i,.i] rL false true),(1378324,.row 264 [.i,.i,.i,.i,.i,.i,.i] rM false true),(1378326,.row 3 [.i] oT false true),(1378327,.row 236 [.i,.i,.i,.i,.i,.i,.str,.bool] oY false true),(1378329,.row 9 [.str] oR false true),(1378330,.row 3 [.i] oS false true),(1378331,.row 3 [.i] sb false true)],ok:=true,ls:=[],lm:=[]}
theorem nhF:Ee Tryz.prog 8 rU:=by
 refine qD (A:=VI) nhG Tryz.func8 fun ds (hw:kc (nt.ct++[.i]) ds) aJ=> ?_
 obtain⟨h,ds,rfl,h_h,hw⟩:=nt.nB (r:=_) hw
 obtain⟨budget,rfl,_⟩:=nz hw
 obtain⟨N,hN⟩:=nhE Vm.ke VK h budget h_h aJ
 exact⟨N,eL (fun l_=>Oj Vm.ke VK l_ h budget) (funext fun h_2=>funext fun qd=>funext fun oh=>funext fun pg=>funext fun ph=>funext fun pj=>funext fun pk=>funext fun pn=>funext fun po=>funext fun pq=>funext fun r_=>funext fun tn=>funext fun rE=>funext fun rm=>funext fun rF=>funext fun rG=>funext fun rH=>funext fun rJ=>funext fun rK=>funext fun ou=>funext fun oz=>funext fun n7=>funext fun oQ=>funext fun rL=>funext fun rM=>funext fun oT=>funext fun oR=>funext fun oS=>funext fun sb=>nL8 (LX Tryz.prog VJ VI N Tryz.f8 rU [true,true,true,true,false,true,false] []) (fun sum k og nZ oX qe pR oY=>nfy budget sum k h.n_.nL h_2 h.Tx.Ring.oA h.Tx.Ring.nG h.Tx.Ring.Head h.Tx.Ring.qQ h.Tx.n9.oA h.Tx.n9.nG h.Tx.n9.Count h.Tx.n9.oe h.Tx.nD h.Tx.Next qd h.nR h.nN h.nT h.Filter.Wj h.Filter.oH h.Filter.pE h.nk.oM h.nk.Table.nH h.nk.oa.Key h.nk.oa.Table h.oE h.p9 h.tU h.oG h.oU h.Counters.Frames h.Counters.Bad h.Counters.pX h.Counters.qz h.Counters.tz 0 0 0 0 0 0 0 0 0 false [] false 0 0 0 0 0 oh pg ph pj pk pn po pq r_ tn rE rm rF rG rH rJ rK og ou oz n7 nZ oX qe pR oQ rL rM oT oY oR oS sb) _ N) hN⟩
def We:Sum:= {ps:=[⟨nt.ct,true⟩,⟨[.i],false⟩],rs:=[⟨[.d_ .bool],false⟩],fn:=fun ds=>(Wb (nt.ct++(.i::([]))) ds,[.bool true])}
theorem Wd:Ee Tryz.prog 3 We:=by
 refine nQ (Γ:=[(7,ngh),(8,rU),(9,ngl),(10,rU),(11,nf3),(12,nbt),(13,nbo)]) (Il nsd (Il nhF (Il nsl (Il ngF (Il nr3 (Il nnE (Il nny JH))))))) Tryz.func3 fun ds (hw:kc (nt.ct++[.i]) ds) aJ=> ?_
 obtain⟨aH,ds,rfl,nwx,hw⟩:=nt.nB (r:=_) hw
 obtain⟨rP,rfl,nsT⟩:=nz hw
 exact⟨0,eT (Wc Vm.ke (fun r0=>((true,[.bool r0]):kL)) aH rP nwx nsT aJ)⟩
end
end Go.Proofs.YtnlkklmcfafgeaaGreat.Pl
