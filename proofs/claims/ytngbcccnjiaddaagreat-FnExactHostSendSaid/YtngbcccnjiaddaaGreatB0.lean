/- Contracts. Conditions: as each says. -/
import Derived.Test.YtngbcccnjiaddaaGreatP0
import Derived.Test.YtngbcccnjiaddaaGreatRows
import Derived.Test.YtngbcccnjiaddaaGreatP1
set_option maxRecDepth 100000
namespace Go.Proofs.YtngbcccnjiaddaaGreat.Pl
open Vm
noncomputable section
def Yl:Sum:= {ps:=[⟨nP.ct,true⟩],rs:=[⟨[.d7 .i,.d7 .i,.d7 .i,.d7 .i,.d7 .i],true⟩],fn:=fun ds=>(true,nP.enc (oE (nP.nd ds 0)))}
theorem nhb:D8 Tryz.prog 209 Yl:=by
 refine nO (A:=[]) JA Tryz.func209 fun ds (hw:kc (nP.ct++([])) ds) _=> ?_
 obtain⟨a,ds,rfl,_,hw⟩:=nP.nA (r:=_) hw
 obtain rfl:=nc hw
 exact⟨0,eT (nxj (fun r0=>((true,nP.enc r0):kM)) a)⟩
def nhj:Sum:= {ps:=[⟨qL.ct,true⟩],rs:=[⟨[.d7 .i,.d7 .i,.d7 .i,.d7 .i,.d7 .i,.d7 .i,.d7 .i],true⟩],fn:=fun ds=>(true,qL.enc (oE (qL.nd ds 0)))}
def nxC:Ctx:=[(209,Yl)]
theorem nxG:bF Tryz.prog nxC:=Ic nhb JA
theorem nxE:D8 Tryz.prog 266 nhj:=by
 refine nO (A:=[]) nxG Tryz.func266 fun ds (hw:kc (qL.ct++([])) ds) _=> ?_
 obtain⟨a,ds,rfl,_,hw⟩:=qL.nA (r:=_) hw
 obtain rfl:=nc hw
 exact⟨0,eT (nxD (fun r0=>((true,qL.enc r0):kM)) a)⟩
def y9:Sum:= {ps:=[⟨[.sl [.str]],false⟩,⟨[.i],false⟩],rs:=[⟨[.d7 .i],false⟩],fn:=fun ds=>(true,[.int (p9 (rR ds 0) (rI ds 1))])}
def ZG:List (Nat×lE):=[(5, {ca:=[(0,.mN),(1,.mN),(5,.mN)],boxes:=[]})]
def ZH:Int→kM:=(fun r0=>((true,[.int r0]):kM))
def nll (a:Rows) (t9 i:Int):St:= {n:=28,sl:=[(0,.sl [.str] a),(1,.int .i64 t9),(5,.int .i64 i)],hp:=[],ok:=true,ls:=[],lm:=[]}
theorem ZJ:D8 Tryz.prog 26 y9:=by
 refine nO (A:=ZG) JA Tryz.func26 fun ds (hw:kc ((.sl [.str])::(.i::([]))) ds) _=> ?_
 obtain⟨a,ds,rfl,pU,hw⟩:=nH hw
 obtain⟨left,ds,rfl,_,hw⟩:=nj hw
 obtain rfl:=nc hw
 obtain⟨N,hN⟩:=nnE Vm.ke ZH a left pU
 exact⟨N,eL (fun l_=>Rd Vm.ke ZH l_ a left) (Wp (LQ Tryz.prog [] ZG N Tryz.f26 y9 [true,true,true,false,true,false] []) (nll a) _ N) hN⟩
def nb_:Sum:= {ps:=[⟨na.ct,true⟩,⟨[.i],false⟩],rs:=[⟨[.d7 .i],false⟩],fn:=fun ds=>(true,[.int (n_ (na.nd ds 0) (rI ds 1))])}
def nq5:Ctx:=[(26,y9)]
theorem nq8:bF Tryz.prog nq5:=Ic ZJ JA
theorem nq7:D8 Tryz.prog 16 nb_:=by
 refine nO (A:=[]) nq8 Tryz.func16 fun ds (hw:kc (na.ct++(.i::([]))) ds) _=> ?_
 obtain⟨a,ds,rfl,_,hw⟩:=na.nA (r:=_) hw
 obtain⟨left,ds,rfl,_,hw⟩:=nj hw
 obtain rfl:=nc hw
 exact⟨0,eT (nq6 (fun r0=>((true,[.int r0]):kM)) a left)⟩
def W9:Sum:= {ps:=[⟨[.sl [.i,.i,.i,.bool]],false⟩,⟨[.i],false⟩],rs:=[⟨[.d7 .i],false⟩],fn:=fun ds=>(true,[.int (nZ (rR ds 0) (rI ds 1))])}
theorem nk_:D8 Tryz.prog 17 W9:=by
 refine nO (A:=[]) JA Tryz.func17 fun ds (hw:kc ((.sl [.i,.i,.i,.bool])::(.i::([]))) ds) _=> ?_
 obtain⟨a,ds,rfl,_,hw⟩:=nH hw
 obtain⟨left,ds,rfl,_,hw⟩:=nj hw
 obtain rfl:=nc hw
 exact⟨0,eT (nk9 (fun r0=>((true,[.int r0]):kM)) a left)⟩
def xB:Sum:= {ps:=[⟨[.sl [.i]],false⟩,⟨[.i],false⟩],rs:=[⟨[.d7 .i],false⟩],fn:=fun ds=>(true,[.int (nZ (rR ds 0) (rI ds 1))])}
theorem zZ:D8 Tryz.prog 27 xB:=by
 refine nO (A:=[]) JA Tryz.func27 fun ds (hw:kc ((.sl [.i])::(.i::([]))) ds) _=> ?_
 obtain⟨a,ds,rfl,_,hw⟩:=nH hw
 obtain⟨left,ds,rfl,_,hw⟩:=nj hw
 obtain rfl:=nc hw
 exact⟨0,eT (nxa (fun r0=>((true,[.int r0]):kM)) a left)⟩
def Yg:Sum:= {ps:=[⟨nv.ct,true⟩,⟨[.i],false⟩],rs:=[⟨[.d7 .i],false⟩],fn:=fun ds=>(true,[.int (qG (nv.nd ds 0) (rI ds 4))])}
def nxc:Ctx:=[(27,xB)]
theorem nxe:bF Tryz.prog nxc:=Ic zZ JA
theorem ng_:D8 Tryz.prog 90 Yg:=by
 refine nO (A:=[]) nxe Tryz.func90 fun ds (hw:kc (nv.ct++(.i::([]))) ds) _=> ?_
 obtain⟨a,ds,rfl,_,hw⟩:=nv.nA (r:=_) hw
 obtain⟨left,ds,rfl,_,hw⟩:=nj hw
 obtain rfl:=nc hw
 exact⟨0,eT (nxd (fun r0=>((true,[.int r0]):kM)) a left)⟩
def nha:Sum:= {ps:=[⟨oZ.ct,true⟩,⟨[.i],false⟩],rs:=[⟨[.d7 .i],false⟩],fn:=fun ds=>(true,[.int (rl (oZ.nd ds 0) (rI ds 3))])}
def nxf:Ctx:=[(27,xB)]
theorem nxi:bF Tryz.prog nxf:=Ic zZ JA
theorem nxh:D8 Tryz.prog 183 nha:=by
 refine nO (A:=[]) nxi Tryz.func183 fun ds (hw:kc (oZ.ct++(.i::([]))) ds) _=> ?_
 obtain⟨a,ds,rfl,_,hw⟩:=oZ.nA (r:=_) hw
 obtain⟨left,ds,rfl,_,hw⟩:=nj hw
 obtain rfl:=nc hw
 exact⟨0,eT (nxg (fun r0=>((true,[.int r0]):kM)) a left)⟩
def Vv:Sum:= {ps:=[⟨[.sl [.i,.i,.sl [.i]]],false⟩,⟨[.i],false⟩],rs:=[⟨[.d7 .i],false⟩],fn:=fun ds=>(true,[.int (sJ (rR ds 0) (rI ds 1))])}
def nee:Ctx:=[(183,nha)]
theorem nuq:bF Tryz.prog nee:=Ic nxh JA
def ned:List (Nat×lE):=[(5, {ca:=[(0,.mN),(1,.mN),(5,.mN)],boxes:=[]})]
def nef:Int→kM:=(fun r0=>((true,[.int r0]):kM))
def nrc (a:Rows) (t9 i:Int):St:= {n:=27,sl:=[(0,.sl [.i,.i,.sl [.i]] a),(1,.int .i64 t9),(5,.int .i64 i)],hp:=[],ok:=true,ls:=[],lm:=[]}
theorem nup:D8 Tryz.prog 91 Vv:=by
 refine nO (A:=ned) nuq Tryz.func91 fun ds (hw:kc ((.sl [.i,.i,.sl [.i]])::(.i::([]))) ds) _=> ?_
 obtain⟨a,ds,rfl,pU,hw⟩:=nH hw
 obtain⟨left,ds,rfl,_,hw⟩:=nj hw
 obtain rfl:=nc hw
 obtain⟨N,hN⟩:=nuo Vm.ke nef a left pU
 exact⟨N,eL (fun l_=>Vw Vm.ke nef l_ a left) (Wp (LQ Tryz.prog nee ned N Tryz.f91 Vv [true,true,true,false,true,false] []) (nrc a) _ N) hN⟩
def ZK:Sum:= {ps:=[⟨nh.ct,true⟩,⟨[.i],false⟩],rs:=[⟨[.d7 .i],false⟩],fn:=fun ds=>(true,[.int (n8 (nh.nd ds 0) (rI ds 10))])}
def nnF:Ctx:=[(90,Yg),(91,Vv)]
theorem nnI:bF Tryz.prog nnF:=Ic ng_ (Ic nup JA)
theorem nnH:D8 Tryz.prog 18 ZK:=by
 refine nO (A:=[]) nnI Tryz.func18 fun ds (hw:kc (nh.ct++(.i::([]))) ds) _=> ?_
 obtain⟨a,ds,rfl,_,hw⟩:=nh.nA (r:=_) hw
 obtain⟨left,ds,rfl,_,hw⟩:=nj hw
 obtain rfl:=nc hw
 exact⟨0,eT (nnG (fun r0=>((true,[.int r0]):kM)) a left)⟩
def ZB:Sum:= {ps:=[⟨nD.ct,true⟩,⟨[.i],false⟩],rs:=[⟨[.d7 .i],false⟩],fn:=fun ds=>(true,[.int (tB (nD.nd ds 0) (rI ds 8))])}
theorem nny:D8 Tryz.prog 28 ZB:=by
 refine nO (A:=[]) JA Tryz.func28 fun ds (hw:kc (nD.ct++(.i::([]))) ds) _=> ?_
 obtain⟨a,ds,rfl,_,hw⟩:=nD.nA (r:=_) hw
 obtain⟨left,ds,rfl,_,hw⟩:=nj hw
 obtain rfl:=nc hw
 exact⟨0,eT (nnx (fun r0=>((true,[.int r0]):kM)) a left)⟩
def SJ:Sum:= {ps:=[⟨nx.ct,true⟩,⟨[.i],false⟩],rs:=[⟨[.d7 .i],false⟩],fn:=fun ds=>(true,[.int (sg (nx.nd ds 0) (rI ds 16))])}
def nq9:Ctx:=[(28,ZB)]
theorem nra:bF Tryz.prog nq9:=Ic nny JA
theorem nca:D8 Tryz.prog 6 SJ:=by
 refine nO (A:=[]) nra Tryz.func6 fun ds (hw:kc (nx.ct++(.i::([]))) ds) _=> ?_
 obtain⟨a,ds,rfl,_,hw⟩:=nx.nA (r:=_) hw
 obtain⟨left,ds,rfl,_,hw⟩:=nj hw
 obtain rfl:=nc hw
 exact⟨0,eT (nq_ (fun r0=>((true,[.int r0]):kM)) a left)⟩
def nej:Sum:= {ps:=[⟨pe.ct,true⟩,⟨[.i],false⟩],rs:=[⟨[.d7 .i],false⟩],fn:=fun ds=>(true,[.int (vu (pe.nd ds 0) (rI ds 18))])}
def nuv:Ctx:=[(6,SJ)]
theorem nuy:bF Tryz.prog nuv:=Ic nca JA
theorem nux:D8 Tryz.prog 184 nej:=by
 refine nO (A:=[]) nuy Tryz.func184 fun ds (hw:kc (pe.ct++(.i::([]))) ds) _=> ?_
 obtain⟨a,ds,rfl,_,hw⟩:=pe.nA (r:=_) hw
 obtain⟨left,ds,rfl,_,hw⟩:=nj hw
 obtain rfl:=nc hw
 exact⟨0,eT (nuw (fun r0=>((true,[.int r0]):kM)) a left)⟩
def ZA:Sum:= {ps:=[⟨nK.ct,true⟩,⟨[.i],false⟩],rs:=[⟨[.d7 .i],false⟩],fn:=fun ds=>(true,[.int (rJ (nK.nd ds 0) (rI ds 30))])}
def nnt:Ctx:=[(184,nej)]
theorem nnw:bF Tryz.prog nnt:=Ic nux JA
theorem nnv:D8 Tryz.prog 92 ZA:=by
 refine nO (A:=[]) nnw Tryz.func92 fun ds (hw:kc (nK.ct++(.i::([]))) ds) _=> ?_
 obtain⟨a,ds,rfl,_,hw⟩:=nK.nA (r:=_) hw
 obtain⟨left,ds,rfl,_,hw⟩:=nj hw
 obtain rfl:=nc hw
 exact⟨0,eT (nnu (fun r0=>((true,[.int r0]):kM)) a left)⟩
def PK:Sum:= {ps:=[⟨[.sl [.i,.i,.i,.i,.i,.i,.i,.i,.i,.i,.i,.i,.i,.i,.i,.i,.i,.i,.i,.i,.i,.i,.i,.i,.i,.str,.i,.i,.bool,.i]],false⟩,⟨[.i],false⟩],rs:=[⟨[.d7 .i],false⟩],fn:=fun ds=>(true,[.int (oA (rR ds 0) (rI ds 1))])}
def Xb:Ctx:=[(92,ZA)]
theorem nld:bF Tryz.prog Xb:=Ic nnv JA
def Xa:List (Nat×lE):=[(5, {ca:=[(0,.mN),(1,.mN),(5,.mN)],boxes:=[]})]
def Xc:Int→kM:=(fun r0=>((true,[.int r0]):kM))
def niM (a:Rows) (t9 i:Int):St:= {n:=27,sl:=[(0,.sl [.i,.i,.i,.i,.i,.i,.i,.i,.i,.i,.i,.i,.i,.i,.i,.i,.i,.i,.i,.i,.i,.i,.i,.i,.i,.str,.i,.i,.bool,.i] a),(1,.int .i64 t9),(5,.int .i64 i)],hp:=[],ok:=true,ls:=[],lm:=[]}
theorem nlc:D8 Tryz.prog 19 PK:=by
 refine nO (A:=Xa) nld Tryz.func19 fun ds (hw:kc ((.sl [.i,.i,.i,.i,.i,.i,.i,.i,.i,.i,.i,.i,.i,.i,.i,.i,.i,.i,.i,.i,.i,.i,.i,.i,.i,.str,.i,.i,.bool,.i])::(.i::([]))) ds) _=> ?_
 obtain⟨a,ds,rfl,pU,hw⟩:=nH hw
 obtain⟨left,ds,rfl,_,hw⟩:=nj hw
 obtain rfl:=nc hw
 obtain⟨N,hN⟩:=nlb Vm.ke Xc a left pU
 exact⟨N,eL (fun l_=>PL Vm.ke Xc l_ a left) (Wp (LQ Tryz.prog Xb Xa N Tryz.f19 PK [true,true,true,false,true,false] []) (niM a) _ N) hN⟩
def Vs:Sum:= {ps:=[⟨[.sl [.i,.i,.i,.sl [.i]]],false⟩,⟨[.i],false⟩],rs:=[⟨[.d7 .i],false⟩],fn:=fun ds=>(true,[.int (pg (rR ds 0) (rI ds 1))])}
def nd_:Ctx:=[(90,Yg)]
theorem nuj:bF Tryz.prog nd_:=Ic ng_ JA
def nd9:List (Nat×lE):=[(5, {ca:=[(0,.mN),(1,.mN),(5,.mN)],boxes:=[]})]
def nea:Int→kM:=(fun r0=>((true,[.int r0]):kM))
def nrb (a:Rows) (t9 i:Int):St:= {n:=27,sl:=[(0,.sl [.i,.i,.i,.sl [.i]] a),(1,.int .i64 t9),(5,.int .i64 i)],hp:=[],ok:=true,ls:=[],lm:=[]}
theorem nui:D8 Tryz.prog 20 Vs:=by
 refine nO (A:=nd9) nuj Tryz.func20 fun ds (hw:kc ((.sl [.i,.i,.i,.sl [.i]])::(.i::([]))) ds) _=> ?_
 obtain⟨a,ds,rfl,pU,hw⟩:=nH hw
 obtain⟨left,ds,rfl,_,hw⟩:=nj hw
 obtain rfl:=nc hw
 obtain⟨N,hN⟩:=nuh Vm.ke nea a left pU
 exact⟨N,eL (fun l_=>Vt Vm.ke nea l_ a left) (Wp (LQ Tryz.prog nd_ nd9 N Tryz.f20 Vs [true,true,true,false,true,false] []) (nrb a) _ N) hN⟩
def ZL:Sum:= {ps:=[⟨[.sl [.i,.i,.i,.i,.bool,.bool]],false⟩,⟨[.i],false⟩],rs:=[⟨[.d7 .i],false⟩],fn:=fun ds=>(true,[.int (nZ (rR ds 0) (rI ds 1))])}
theorem nnK:D8 Tryz.prog 21 ZL:=by
 refine nO (A:=[]) JA Tryz.func21 fun ds (hw:kc ((.sl [.i,.i,.i,.i,.bool,.bool])::(.i::([]))) ds) _=> ?_
 obtain⟨a,ds,rfl,_,hw⟩:=nH hw
 obtain⟨left,ds,rfl,_,hw⟩:=nj hw
 obtain rfl:=nc hw
 exact⟨0,eT (nnJ (fun r0=>((true,[.int r0]):kM)) a left)⟩
def nd8:Sum:= {ps:=[⟨[.sl [.bool]],false⟩,⟨[.i],false⟩],rs:=[⟨[.d7 .i],false⟩],fn:=fun ds=>(true,[.int (nZ (rR ds 0) (rI ds 1))])}
theorem nue:D8 Tryz.prog 22 nd8:=by
 refine nO (A:=[]) JA Tryz.func22 fun ds (hw:kc ((.sl [.bool])::(.i::([]))) ds) _=> ?_
 obtain⟨a,ds,rfl,_,hw⟩:=nH hw
 obtain⟨left,ds,rfl,_,hw⟩:=nj hw
 obtain rfl:=nc hw
 exact⟨0,eT (nud (fun r0=>((true,[.int r0]):kM)) a left)⟩
def nb9:Sum:= {ps:=[⟨nC.ct,true⟩,⟨[.i],false⟩],rs:=[⟨[.d7 .i],false⟩],fn:=fun ds=>(true,[.int (pJ (nC.nd ds 0) (rI ds 3))])}
def nq0:Ctx:=[(27,xB)]
theorem nq3:bF Tryz.prog nq0:=Ic zZ JA
theorem nq2:D8 Tryz.prog 23 nb9:=by
 refine nO (A:=[]) nq3 Tryz.func23 fun ds (hw:kc (nC.ct++(.i::([]))) ds) _=> ?_
 obtain⟨a,ds,rfl,_,hw⟩:=nC.nA (r:=_) hw
 obtain⟨left,ds,rfl,_,hw⟩:=nj hw
 obtain rfl:=nc hw
 exact⟨0,eT (nq1 (fun r0=>((true,[.int r0]):kM)) a left)⟩
def nec:Sum:= {ps:=[⟨[.sl [.i,.i,.i,.i,.i,.i,.i,.i,.i]],false⟩,⟨[.i],false⟩],rs:=[⟨[.d7 .i],false⟩],fn:=fun ds=>(true,[.int (nZ (rR ds 0) (rI ds 1))])}
theorem nul:D8 Tryz.prog 93 nec:=by
 refine nO (A:=[]) JA Tryz.func93 fun ds (hw:kc ((.sl [.i,.i,.i,.i,.i,.i,.i,.i,.i])::(.i::([]))) ds) _=> ?_
 obtain⟨a,ds,rfl,_,hw⟩:=nH hw
 obtain⟨left,ds,rfl,_,hw⟩:=nj hw
 obtain rfl:=nc hw
 exact⟨0,eT (nuk (fun r0=>((true,[.int r0]):kM)) a left)⟩
def nei:Sum:= {ps:=[⟨[.sl [.i,.i,.i,.i,.i,.i,.i]],false⟩,⟨[.i],false⟩],rs:=[⟨[.d7 .i],false⟩],fn:=fun ds=>(true,[.int (nZ (rR ds 0) (rI ds 1))])}
theorem nut:D8 Tryz.prog 185 nei:=by
 refine nO (A:=[]) JA Tryz.func185 fun ds (hw:kc ((.sl [.i,.i,.i,.i,.i,.i,.i])::(.i::([]))) ds) _=> ?_
 obtain⟨a,ds,rfl,_,hw⟩:=nH hw
 obtain⟨left,ds,rfl,_,hw⟩:=nj hw
 obtain rfl:=nc hw
 exact⟨0,eT (nus (fun r0=>((true,[.int r0]):kM)) a left)⟩
def Vr:Sum:= {ps:=[⟨ni.ct,true⟩,⟨[.i],false⟩],rs:=[⟨[.d7 .i],false⟩],fn:=fun ds=>(true,[.int (rX (ni.nd ds 0) (rI ds 1))])}
def niI:Ctx:=[(185,nei)]
theorem niL:bF Tryz.prog niI:=Ic nut JA
theorem niK:D8 Tryz.prog 94 Vr:=by
 refine nO (A:=[]) niL Tryz.func94 fun ds (hw:kc (ni.ct++(.i::([]))) ds) _=> ?_
 obtain⟨a,ds,rfl,_,hw⟩:=ni.nA (r:=_) hw
 obtain⟨left,ds,rfl,_,hw⟩:=nj hw
 obtain rfl:=nc hw
 exact⟨0,eT (niJ (fun r0=>((true,[.int r0]):kM)) a left)⟩
def ncc:Sum:= {ps:=[⟨nG.ct,true⟩,⟨[.i],false⟩],rs:=[⟨[.d7 .i],false⟩],fn:=fun ds=>(true,[.int (vJ (nG.nd ds 0) (rI ds 2))])}
def nrd:Ctx:=[(27,xB)]
theorem nrg:bF Tryz.prog nrd:=Ic zZ JA
theorem nrf:D8 Tryz.prog 95 ncc:=by
 refine nO (A:=[]) nrg Tryz.func95 fun ds (hw:kc (nG.ct++(.i::([]))) ds) _=> ?_
 obtain⟨a,ds,rfl,_,hw⟩:=nG.nA (r:=_) hw
 obtain⟨left,ds,rfl,_,hw⟩:=nj hw
 obtain rfl:=nc hw
 exact⟨0,eT (nre (fun r0=>((true,[.int r0]):kM)) a left)⟩
def Xf:Sum:= {ps:=[⟨nk.ct,true⟩,⟨[.i],false⟩],rs:=[⟨[.d7 .i],false⟩],fn:=fun ds=>(true,[.int (pD (nk.nd ds 0) (rI ds 4))])}
def nlg:Ctx:=[(93,nec),(94,Vr),(95,ncc)]
theorem nlj:bF Tryz.prog nlg:=Ic nul (Ic niK (Ic nrf JA))
theorem nli:D8 Tryz.prog 24 Xf:=by
 refine nO (A:=[]) nlj Tryz.func24 fun ds (hw:kc (nk.ct++(.i::([]))) ds) _=> ?_
 obtain⟨a,ds,rfl,_,hw⟩:=nk.nA (r:=_) hw
 obtain⟨left,ds,rfl,_,hw⟩:=nj hw
 obtain rfl:=nc hw
 exact⟨0,eT (nlh (fun r0=>((true,[.int r0]):kM)) a left)⟩
def ncd:Sum:= {ps:=[⟨oh.ct,true⟩,⟨[.i],false⟩],rs:=[⟨[.d7 .i],false⟩],fn:=fun ds=>(true,[.int (sj (oh.nd ds 0) (rI ds 8))])}
theorem nri:D8 Tryz.prog 96 ncd:=by
 refine nO (A:=[]) JA Tryz.func96 fun ds (hw:kc (oh.ct++(.i::([]))) ds) _=> ?_
 obtain⟨a,ds,rfl,_,hw⟩:=oh.nA (r:=_) hw
 obtain⟨left,ds,rfl,_,hw⟩:=nj hw
 obtain rfl:=nc hw
 exact⟨0,eT (nrh (fun r0=>((true,[.int r0]):kM)) a left)⟩
def Rb:Sum:= {ps:=[⟨[.sl [.i,.i,.i,.i,.i,.i,.str,.bool]],false⟩,⟨[.i],false⟩],rs:=[⟨[.d7 .i],false⟩],fn:=fun ds=>(true,[.int (qy (rR ds 0) (rI ds 1))])}
def ZD:Ctx:=[(96,ncd)]
theorem nnC:bF Tryz.prog ZD:=Ic nri JA
def ZC:List (Nat×lE):=[(5, {ca:=[(0,.mN),(1,.mN),(5,.mN)],boxes:=[]})]
def ZE:Int→kM:=(fun r0=>((true,[.int r0]):kM))
def nlk (a:Rows) (t9 i:Int):St:= {n:=27,sl:=[(0,.sl [.i,.i,.i,.i,.i,.i,.str,.bool] a),(1,.int .i64 t9),(5,.int .i64 i)],hp:=[],ok:=true,ls:=[],lm:=[]}
theorem nnB:D8 Tryz.prog 25 Rb:=by
 refine nO (A:=ZC) nnC Tryz.func25 fun ds (hw:kc ((.sl [.i,.i,.i,.i,.i,.i,.str,.bool])::(.i::([]))) ds) _=> ?_
 obtain⟨a,ds,rfl,pU,hw⟩:=nH hw
 obtain⟨left,ds,rfl,_,hw⟩:=nj hw
 obtain rfl:=nc hw
 obtain⟨N,hN⟩:=nnA Vm.ke ZE a left pU
 exact⟨N,eL (fun l_=>Rc Vm.ke ZE l_ a left) (Wp (LQ Tryz.prog ZD ZC N Tryz.f25 Rb [true,true,true,false,true,false] []) (nlk a) _ N) hN⟩
def ng9:Sum:= {ps:=[⟨ny.ct,true⟩,⟨[.i],false⟩],rs:=[⟨[.d7 .i],false⟩],fn:=fun ds=>(true,[.int (rY (ny.nd ds 0) (rI ds 33))])}
def nw7:Ctx:=[(16,nb_),(17,W9),(18,ZK),(19,PK),(20,Vs),(21,ZL),(22,nd8),(23,nb9),(24,Xf),(25,Rb),(26,y9),(27,xB)]
theorem nw_:bF Tryz.prog nw7:=Ic nq7 (Ic nk_ (Ic nnH (Ic nlc (Ic nui (Ic nnK (Ic nue (Ic nq2 (Ic nli (Ic nnB (Ic ZJ (Ic zZ JA)))))))))))
theorem nw9:D8 Tryz.prog 5 ng9:=by
 refine nO (A:=[]) nw_ Tryz.func5 fun ds (hw:kc (ny.ct++(.i::([]))) ds) _=> ?_
 obtain⟨a,ds,rfl,_,hw⟩:=ny.nA (r:=_) hw
 obtain⟨left,ds,rfl,_,hw⟩:=nj hw
 obtain rfl:=nc hw
 exact⟨0,eT (nw8 (fun r0=>((true,[.int r0]):kM)) a left)⟩
def vI:Sum:= {ps:=[⟨[.sl [.i]],false⟩,⟨[.sl [.i]],false⟩],rs:=[⟨[.d7 .bool],false⟩],fn:=fun ds=>(same (rR ds 0) (rR ds 1),[.bool (pc (rR ds 0) (rR ds 1))])}
def ngW:List (Nat×lE):=[(4, {ca:=[(0,.mN),(1,.mN),(5,.mN)],boxes:=[]})]
def ngX:Bool→kM:=(fun r0=>((true,[.bool r0]):kM))
def ntX (a b:Rows) (i:Int):St:= {n:=26,sl:=[(0,.sl [.i] a),(1,.sl [.i] b),(5,.int .i64 i)],hp:=[],ok:=true,ls:=[],lm:=[]}
theorem zX:D8 Tryz.prog 60 vI:=by
 refine nO (A:=ngW) JA Tryz.func60 fun ds (hw:kc ((.sl [.i])::((.sl [.i])::([]))) ds) aJ=> ?_
 obtain⟨a,ds,rfl,pU,hw⟩:=nH hw
 obtain⟨b,ds,rfl,_,hw⟩:=nH hw
 obtain rfl:=nc hw
 obtain⟨N,hN⟩:=nwS Vm.ke ngX a b pU aJ
 exact⟨N,eL (fun l_=>Yd Vm.ke ngX l_ a b) (nL1 (LQ Tryz.prog [] ngW N Tryz.f60 vI [true,true,false,true,false] []) (ntX a b) _ N) hN⟩
def Ye:Sum:= {ps:=[⟨nv.ct,true⟩,⟨nv.ct,true⟩],rs:=[⟨[.d7 .bool],false⟩],fn:=fun ds=>(same (nv.nd ds 0) (nv.nd ds 4),[.bool (pc (nv.nd ds 0) (nv.nd ds 4))])}
def nwT:Ctx:=[(60,vI)]
theorem nwV:bF Tryz.prog nwT:=Ic zX JA
theorem ngZ:D8 Tryz.prog 159 Ye:=by
 refine nO (A:=[]) nwV Tryz.func159 fun ds (hw:kc (nv.ct++(nv.ct++([]))) ds) aJ=> ?_
 obtain⟨a,ds,rfl,_,hw⟩:=nv.nA (r:=_) hw
 obtain⟨b,ds,rfl,_,hw⟩:=nv.nA (r:=_) hw
 obtain rfl:=nc hw
 exact⟨0,eT (nwU Vm.ke (fun r0=>((true,[.bool r0]):kM)) a b aJ)⟩
def UY:Sum:= {ps:=[⟨[.sl [.i,.i,.i,.sl [.i]]],false⟩,⟨[.sl [.i,.i,.i,.sl [.i]]],false⟩],rs:=[⟨[.d7 .bool],false⟩],fn:=fun ds=>(same (rR ds 0) (rR ds 1),[.bool (pc (rR ds 0) (rR ds 1))])}
def ndJ:Ctx:=[(159,Ye)]
theorem nt0:bF Tryz.prog ndJ:=Ic ngZ JA
def ndI:List (Nat×lE):=[(4, {ca:=[(0,.mN),(1,.mN),(5,.mN)],boxes:=[]})]
def ndK:Bool→kM:=(fun r0=>((true,[.bool r0]):kM))
def nqt (a b:Rows) (i:Int):St:= {n:=27,sl:=[(0,.sl [.i,.i,.i,.sl [.i]] a),(1,.sl [.i,.i,.i,.sl [.i]] b),(5,.int .i64 i)],hp:=[],ok:=true,ls:=[],lm:=[]}
theorem ntZ:D8 Tryz.prog 53 UY:=by
 refine nO (A:=ndI) nt0 Tryz.func53 fun ds (hw:kc ((.sl [.i,.i,.i,.sl [.i]])::((.sl [.i,.i,.i,.sl [.i]])::([]))) ds) aJ=> ?_
 obtain⟨a,ds,rfl,pU,hw⟩:=nH hw
 obtain⟨b,ds,rfl,_,hw⟩:=nH hw
 obtain rfl:=nc hw
 obtain⟨N,hN⟩:=ntY Vm.ke ndK a b pU aJ
 have e0:(fun i=>LR (LQ Tryz.prog ndJ ndI N Tryz.f53 UY [true,true,false,true,false] []) N (nqt a b i))=(no8 (fun r=>nv.nd r 0) Vm.ke ndK N a b N):=nL1 _ _ _ N
 refine⟨N,Eq.trans ?_ (hN.trans (by kernel_rfl))⟩
 unfold nc6
 rw[←e0]
 kernel_rfl
def Yc:Sum:= {ps:=[⟨nP.ct,true⟩,⟨nP.ct,true⟩],rs:=[⟨[.d7 .bool],false⟩],fn:=fun ds=>(same (nP.nd ds 0) (nP.nd ds 5),[.bool (pc (nP.nd ds 0) (nP.nd ds 5))])}
theorem ngS:D8 Tryz.prog 237 Yc:=by
 refine nO (A:=[]) JA Tryz.func237 fun ds (hw:kc (nP.ct++(nP.ct++([]))) ds) aJ=> ?_
 obtain⟨a,ds,rfl,_,hw⟩:=nP.nA (r:=_) hw
 obtain⟨b,ds,rfl,_,hw⟩:=nP.nA (r:=_) hw
 obtain rfl:=nc hw
 exact⟨0,eT (nwN (fun r0=>((true,[.bool r0]):kM)) a b aJ)⟩
def ng7:Sum:= {ps:=[⟨qL.ct,true⟩,⟨qL.ct,true⟩],rs:=[⟨[.d7 .bool],false⟩],fn:=fun ds=>(same (qL.nd ds 0) (qL.nd ds 7),[.bool (pc (qL.nd ds 0) (qL.nd ds 7))])}
def nw3:Ctx:=[(237,Yc)]
theorem nw6:bF Tryz.prog nw3:=Ic ngS JA
theorem nw5:D8 Tryz.prog 283 ng7:=by
 refine nO (A:=[]) nw6 Tryz.func283 fun ds (hw:kc (qL.ct++(qL.ct++([]))) ds) aJ=> ?_
 obtain⟨a,ds,rfl,_,hw⟩:=qL.nA (r:=_) hw
 obtain⟨b,ds,rfl,_,hw⟩:=qL.nA (r:=_) hw
 obtain rfl:=nc hw
 exact⟨0,eT (nw4 Vm.ke (fun r0=>((true,[.bool r0]):kM)) a b aJ)⟩
def U1:Sum:= {ps:=[⟨[.sl [.i,.i,.i,.i,.i,.i,.i]],false⟩,⟨[.sl [.i,.i,.i,.i,.i,.i,.i]],false⟩],rs:=[⟨[.d7 .bool],false⟩],fn:=fun ds=>(same (rR ds 0) (rR ds 1),[.bool (pc (rR ds 0) (rR ds 1))])}
def ndS:Ctx:=[(283,ng7)]
theorem nt9:bF Tryz.prog ndS:=Ic nw5 JA
def ndR:List (Nat×lE):=[(4, {ca:=[(0,.mN),(1,.mN),(5,.mN)],boxes:=[]})]
def ndT:Bool→kM:=(fun r0=>((true,[.bool r0]):kM))
def nqw (a b:Rows) (i:Int):St:= {n:=27,sl:=[(0,.sl [.i,.i,.i,.i,.i,.i,.i] a),(1,.sl [.i,.i,.i,.i,.i,.i,.i] b),(5,.int .i64 i)],hp:=[],ok:=true,ls:=[],lm:=[]}
theorem nt8:D8 Tryz.prog 236 U1:=by
 refine nO (A:=ndR) nt9 Tryz.func236 fun ds (hw:kc ((.sl [.i,.i,.i,.i,.i,.i,.i])::((.sl [.i,.i,.i,.i,.i,.i,.i])::([]))) ds) aJ=> ?_
 obtain⟨a,ds,rfl,pU,hw⟩:=nH hw
 obtain⟨b,ds,rfl,_,hw⟩:=nH hw
 obtain rfl:=nc hw
 obtain⟨N,hN⟩:=nt7 Vm.ke ndT a b pU aJ
 have e0:(fun i=>LR (LQ Tryz.prog ndS ndR N Tryz.f236 U1 [true,true,false,true,false] []) N (nqw a b i))=(no8 (fun r=>qL.nd r 0) Vm.ke ndT N a b N):=nL1 _ _ _ N
 refine⟨N,Eq.trans ?_ (hN.trans (by kernel_rfl))⟩
 unfold nc6
 rw[←e0]
 kernel_rfl
def UW:Sum:= {ps:=[⟨ni.ct,true⟩,⟨ni.ct,true⟩],rs:=[⟨[.d7 .bool],false⟩],fn:=fun ds=>(same (ni.nd ds 0) (ni.nd ds 1),[.bool (pc (ni.nd ds 0) (ni.nd ds 1))])}
def nif:Ctx:=[(236,U1)]
theorem nii:bF Tryz.prog nif:=Ic nt8 JA
theorem nih:D8 Tryz.prog 164 UW:=by
 refine nO (A:=[]) nii Tryz.func164 fun ds (hw:kc (ni.ct++(ni.ct++([]))) ds) aJ=> ?_
 obtain⟨a,ds,rfl,_,hw⟩:=ni.nA (r:=_) hw
 obtain⟨b,ds,rfl,_,hw⟩:=ni.nA (r:=_) hw
 obtain rfl:=nc hw
 exact⟨0,eT (nig Vm.ke (fun r0=>((true,[.bool r0]):kM)) a b aJ)⟩
def ncj:Sum:= {ps:=[⟨nY.ct,true⟩],rs:=[⟨[.d7 .i,.d7 .i,.d7 .i,.d7 .i,.d7 .bool,.d7 .bool],true⟩],fn:=fun ds=>(true,nY.enc (oE (nY.nd ds 0)))}
theorem nrM:D8 Tryz.prog 125 ncj:=by
 refine nO (A:=[]) JA Tryz.func125 fun ds (hw:kc (nY.ct++([])) ds) _=> ?_
 obtain⟨a,ds,rfl,_,hw⟩:=nY.nA (r:=_) hw
 obtain rfl:=nc hw
 exact⟨0,eT (nrL (fun r0=>((true,nY.enc r0):kM)) a)⟩
def Rf:Sum:= {ps:=[⟨[.sl [.i,.i,.i,.i,.bool,.bool]],false⟩],rs:=[⟨[.own 186 [.i,.i,.i,.i,.bool,.bool]],false⟩],fn:=fun ds=>(sm (rR ds 0),[.sl (oE (rR ds 0))])}
def ZX:Ctx:=[(125,ncj)]
theorem nn7:bF Tryz.prog ZX:=Ic nrM JA
def ZW:List (Nat×lE):=[(3, {ca:=[(0,.mN),(3,.mN),(4,.mN)],boxes:=[]})]
def ZY:Rows→kM:=(fun r0=>((true,[.sl r0]):kM))
def nlB (a:Rows) (i:Int) (nV:Rows):St:= {n:=23,sl:=[(0,.sl [.i,.i,.i,.i,.bool,.bool] a),(3,.own 640192),(4,.int .i64 i)],hp:=[(640192,.row 186 [.i,.i,.i,.i,.bool,.bool] nV false true)],ok:=true,ls:=[],lm:=[]}
theorem nn6:D8 Tryz.prog 37 Rf:=by
 refine nO (A:=ZW) nn7 Tryz.func37 fun ds (hw:kc ((.sl [.i,.i,.i,.i,.bool,.bool])::([])) ds) aJ=> ?_
 obtain⟨a,ds,rfl,pU,hw⟩:=nH hw
 obtain rfl:=nc hw
 obtain⟨N,hN⟩:=nn5 Vm.ke ZY a pU aJ
 have e0:(fun i nV=>LR (LQ Tryz.prog ZX ZW N Tryz.f37 Rf [true,true,false,true,false] []) N (nlB a i nV))=(noB nfu Vm.ke ZY N a N):=Wp _ _ _ N
 refine⟨N,Eq.trans ?_ (hN.trans (by kernel_rfl))⟩
 unfold naf
 rw[←e0]
 kernel_rfl
def nbU:Sum:= {ps:=[⟨nY.ct,true⟩,⟨nY.ct,true⟩],rs:=[⟨[.d7 .bool],false⟩],fn:=fun ds=>(same (nY.nd ds 0) (nY.nd ds 6),[.bool (pc (nY.nd ds 0) (nY.nd ds 6))])}
theorem nqG:D8 Tryz.prog 162 nbU:=by
 refine nO (A:=[]) JA Tryz.func162 fun ds (hw:kc (nY.ct++(nY.ct++([]))) ds) aJ=> ?_
 obtain⟨a,ds,rfl,_,hw⟩:=nY.nA (r:=_) hw
 obtain⟨b,ds,rfl,_,hw⟩:=nY.nA (r:=_) hw
 obtain rfl:=nc hw
 exact⟨0,eT (nqF (fun r0=>((true,[.bool r0]):kM)) a b aJ)⟩
def YR:Sum:= {ps:=[⟨nD.ct,true⟩,⟨nD.ct,true⟩],rs:=[⟨[.d7 .bool],false⟩],fn:=fun ds=>(same (nD.nd ds 0) (nD.nd ds 8),[.bool (pc (nD.nd ds 0) (nD.nd ds 8))])}
theorem nmR:D8 Tryz.prog 322 YR:=by
 refine nO (A:=[]) JA Tryz.func322 fun ds (hw:kc (nD.ct++(nD.ct++([]))) ds) aJ=> ?_
 obtain⟨a,ds,rfl,_,hw⟩:=nD.nA (r:=_) hw
 obtain⟨b,ds,rfl,_,hw⟩:=nD.nA (r:=_) hw
 obtain rfl:=nc hw
 exact⟨0,eT (nmQ (fun r0=>((true,[.bool r0]):kM)) a b aJ)⟩
def nbO:Sum:= {ps:=[⟨nx.ct,true⟩,⟨nx.ct,true⟩],rs:=[⟨[.d7 .bool],false⟩],fn:=fun ds=>(same (nx.nd ds 0) (nx.nd ds 16),[.bool (pc (nx.nd ds 0) (nx.nd ds 16))])}
def nqp:Ctx:=[(322,YR)]
theorem nqs:bF Tryz.prog nqp:=Ic nmR JA
theorem nqr:D8 Tryz.prog 282 nbO:=by
 refine nO (A:=[]) nqs Tryz.func282 fun ds (hw:kc (nx.ct++(nx.ct++([]))) ds) aJ=> ?_
 obtain⟨a,ds,rfl,_,hw⟩:=nx.nA (r:=_) hw
 obtain⟨b,ds,rfl,_,hw⟩:=nx.nA (r:=_) hw
 obtain rfl:=nc hw
 exact⟨0,eT (nqq Vm.ke (fun r0=>((true,[.bool r0]):kM)) a b aJ)⟩
def Xi:Sum:= {ps:=[⟨ox.ct,true⟩],rs:=[⟨[.d7 .i,.d7 .i,.d7 .i,.d7 .i,.d7 .i],true⟩],fn:=fun ds=>(true,ox.enc (oE (ox.nd ds 0)))}
theorem nln:D8 Tryz.prog 44 Xi:=by
 refine nO (A:=[]) JA Tryz.func44 fun ds (hw:kc (ox.ct++([])) ds) _=> ?_
 obtain⟨a,ds,rfl,_,hw⟩:=ox.nA (r:=_) hw
 obtain rfl:=nc hw
 exact⟨0,eT (nlm (fun r0=>((true,ox.enc r0):kM)) a)⟩
def y3:Sum:= {ps:=[⟨[.sl [.str]],false⟩,⟨[.sl [.str]],false⟩],rs:=[⟨[.d7 .bool],false⟩],fn:=fun ds=>(same (rR ds 0) (rR ds 1),[.bool (pc (rR ds 0) (rR ds 1))])}
def YW:List (Nat×lE):=[(4, {ca:=[(0,.mN),(1,.mN),(5,.mN)],boxes:=[]})]
def YX:Bool→kM:=(fun r0=>((true,[.bool r0]):kM))
def nkz (a b:Rows) (i:Int):St:= {n:=26,sl:=[(0,.sl [.str] a),(1,.sl [.str] b),(5,.int .i64 i)],hp:=[],ok:=true,ls:=[],lm:=[]}
theorem YZ:D8 Tryz.prog 59 y3:=by
 refine nO (A:=YW) JA Tryz.func59 fun ds (hw:kc ((.sl [.str])::((.sl [.str])::([]))) ds) aJ=> ?_
 obtain⟨a,ds,rfl,pU,hw⟩:=nH hw
 obtain⟨b,ds,rfl,_,hw⟩:=nH hw
 obtain rfl:=nc hw
 obtain⟨N,hN⟩:=nmV Vm.ke YX a b pU aJ
 exact⟨N,eL (fun l_=>QH Vm.ke YX l_ a b) (nL1 (LQ Tryz.prog [] YW N Tryz.f59 y3 [true,true,false,true,false] []) (nkz a b) _ N) hN⟩
def z_:Sum:= {ps:=[⟨nn.ct,true⟩],rs:=[⟨[.d7 .i,.d7 .i,.d7 .i],true⟩],fn:=fun ds=>(true,nn.enc (oE (nn.nd ds 0)))}
theorem Yj:D8 Tryz.prog 205 z_:=by
 refine nO (A:=[]) JA Tryz.func205 fun ds (hw:kc (nn.ct++([])) ds) _=> ?_
 obtain⟨a,ds,rfl,_,hw⟩:=nn.nA (r:=_) hw
 obtain rfl:=nc hw
 exact⟨0,eT (Yi (fun r0=>((true,nn.enc r0):kM)) a)⟩
def nbS:Sum:= {ps:=[⟨oh.ct,true⟩,⟨oh.ct,true⟩],rs:=[⟨[.d7 .bool],false⟩],fn:=fun ds=>(same (oh.nd ds 0) (oh.nd ds 8),[.bool (pc (oh.nd ds 0) (oh.nd ds 8))])}
def nqB:Ctx:=[(237,Yc)]
theorem nqE:bF Tryz.prog nqB:=Ic ngS JA
theorem nqD:D8 Tryz.prog 166 nbS:=by
 refine nO (A:=[]) nqE Tryz.func166 fun ds (hw:kc (oh.ct++(oh.ct++([]))) ds) aJ=> ?_
 obtain⟨a,ds,rfl,_,hw⟩:=oh.nA (r:=_) hw
 obtain⟨b,ds,rfl,_,hw⟩:=oh.nA (r:=_) hw
 obtain rfl:=nc hw
 exact⟨0,eT (nqC Vm.ke (fun r0=>((true,[.bool r0]):kM)) a b aJ)⟩
def UT:Sum:= {ps:=[⟨[.sl [.bool]],false⟩,⟨[.sl [.bool]],false⟩],rs:=[⟨[.d7 .bool],false⟩],fn:=fun ds=>(same (rR ds 0) (rR ds 1),[.bool (pc (rR ds 0) (rR ds 1))])}
def ndF:List (Nat×lE):=[(4, {ca:=[(0,.mN),(1,.mN),(5,.mN)],boxes:=[]})]
def ndG:Bool→kM:=(fun r0=>((true,[.bool r0]):kM))
def nqg (a b:Rows) (i:Int):St:= {n:=26,sl:=[(0,.sl [.bool] a),(1,.sl [.bool] b),(5,.int .i64 i)],hp:=[],ok:=true,ls:=[],lm:=[]}
theorem ntW:D8 Tryz.prog 55 UT:=by
 refine nO (A:=ndF) JA Tryz.func55 fun ds (hw:kc ((.sl [.bool])::((.sl [.bool])::([]))) ds) aJ=> ?_
 obtain⟨a,ds,rfl,pU,hw⟩:=nH hw
 obtain⟨b,ds,rfl,_,hw⟩:=nH hw
 obtain rfl:=nc hw
 obtain⟨N,hN⟩:=ntV Vm.ke ndG a b pU aJ
 exact⟨N,eL (fun l_=>UU Vm.ke ndG l_ a b) (nL1 (LQ Tryz.prog [] ndF N Tryz.f55 UT [true,true,false,true,false] []) (nqg a b) _ N) hN⟩
def YN:Sum:= {ps:=[⟨oR.ct,true⟩,⟨oR.ct,true⟩],rs:=[⟨[.d7 .bool],false⟩],fn:=fun ds=>(same (oR.nd ds 0) (oR.nd ds 4),[.bool (pc (oR.nd ds 0) (oR.nd ds 4))])}
theorem nmL:D8 Tryz.prog 157 YN:=by
 refine nO (A:=[]) JA Tryz.func157 fun ds (hw:kc (oR.ct++(oR.ct++([]))) ds) aJ=> ?_
 obtain⟨a,ds,rfl,_,hw⟩:=oR.nA (r:=_) hw
 obtain⟨b,ds,rfl,_,hw⟩:=oR.nA (r:=_) hw
 obtain rfl:=nc hw
 exact⟨0,eT (nmK (fun r0=>((true,[.bool r0]):kM)) a b aJ)⟩
def PH:Sum:= {ps:=[⟨[.sl [.i,.i,.i,.bool]],false⟩,⟨[.sl [.i,.i,.i,.bool]],false⟩],rs:=[⟨[.d7 .bool],false⟩],fn:=fun ds=>(same (rR ds 0) (rR ds 1),[.bool (pc (rR ds 0) (rR ds 1))])}
def WW:Ctx:=[(157,YN)]
theorem nkq:bF Tryz.prog WW:=Ic nmL JA
def WV:List (Nat×lE):=[(4, {ca:=[(0,.mN),(1,.mN),(5,.mN)],boxes:=[]})]
def WX:Bool→kM:=(fun r0=>((true,[.bool r0]):kM))
def nij (a b:Rows) (i:Int):St:= {n:=27,sl:=[(0,.sl [.i,.i,.i,.bool] a),(1,.sl [.i,.i,.i,.bool] b),(5,.int .i64 i)],hp:=[],ok:=true,ls:=[],lm:=[]}
theorem nkp:D8 Tryz.prog 50 PH:=by
 refine nO (A:=WV) nkq Tryz.func50 fun ds (hw:kc ((.sl [.i,.i,.i,.bool])::((.sl [.i,.i,.i,.bool])::([]))) ds) aJ=> ?_
 obtain⟨a,ds,rfl,pU,hw⟩:=nH hw
 obtain⟨b,ds,rfl,_,hw⟩:=nH hw
 obtain rfl:=nc hw
 obtain⟨N,hN⟩:=nko Vm.ke WX a b pU aJ
 have e0:(fun i=>LR (LQ Tryz.prog WW WV N Tryz.f50 PH [true,true,false,true,false] []) N (nij a b i))=(no8 (fun r=>oR.nd r 0) Vm.ke WX N a b N):=nL1 _ _ _ N
 refine⟨N,Eq.trans ?_ (hN.trans (by kernel_rfl))⟩
 unfold nc6
 rw[←e0]
 kernel_rfl
def VG:Sum:= {ps:=[⟨[.sl [.i,.i,.i,.i,.i,.i,.i]],false⟩],rs:=[⟨[.own 262 [.i,.i,.i,.i,.i,.i,.i]],false⟩],fn:=fun ds=>(sm (rR ds 0),[.sl (oE (rR ds 0))])}
def neA:Ctx:=[(266,nhj)]
theorem nuN:bF Tryz.prog neA:=Ic nxE JA
def nez:List (Nat×lE):=[(3, {ca:=[(0,.mN),(3,.mN),(4,.mN)],boxes:=[]})]
def neB:Rows→kM:=(fun r0=>((true,[.sl r0]):kM))
def nrB (a:Rows) (i:Int) (nV:Rows):St:= {n:=23,sl:=[(0,.sl [.i,.i,.i,.i,.i,.i,.i] a),(3,.own 640192),(4,.int .i64 i)],hp:=[(640192,.row 262 [.i,.i,.i,.i,.i,.i,.i] nV false true)],ok:=true,ls:=[],lm:=[]}
theorem nuM:D8 Tryz.prog 208 VG:=by
 refine nO (A:=nez) nuN Tryz.func208 fun ds (hw:kc ((.sl [.i,.i,.i,.i,.i,.i,.i])::([])) ds) aJ=> ?_
 obtain⟨a,ds,rfl,pU,hw⟩:=nH hw
 obtain rfl:=nc hw
 obtain⟨N,hN⟩:=nuL Vm.ke neB a pU aJ
 have e0:(fun i nV=>LR (LQ Tryz.prog neA nez N Tryz.f208 VG [true,true,false,true,false] []) N (nrB a i nV))=(noB noD Vm.ke neB N a N):=Wp _ _ _ N
 refine⟨N,Eq.trans ?_ (hN.trans (by kernel_rfl))⟩
 unfold naf
 rw[←e0]
 kernel_rfl
def VA:Sum:= {ps:=[⟨ni.ct,true⟩],rs:=[⟨[.own 262 [.i,.i,.i,.i,.i,.i,.i]],true⟩],fn:=fun ds=>(sP (ni.nd ds 0),ni.enc (oE (ni.nd ds 0)))}
def niO:Ctx:=[(208,VG)]
theorem niR:bF Tryz.prog niO:=Ic nuM JA
theorem niQ:D8 Tryz.prog 127 VA:=by
 refine nO (A:=[]) niR Tryz.func127 fun ds (hw:kc (ni.ct++([])) ds) aJ=> ?_
 obtain⟨a,ds,rfl,_,hw⟩:=ni.nA (r:=_) hw
 obtain rfl:=nc hw
 exact⟨0,eT (niP Vm.ke (fun r0=>((true,ni.enc r0):kM)) a aJ)⟩
def y_:Sum:= {ps:=[⟨[.sl [.str]],false⟩],rs:=[⟨[.own 9 [.str]],false⟩],fn:=fun ds=>(sm (rR ds 0),[.sl (oE (rR ds 0))])}
def ZS:List (Nat×lE):=[(3, {ca:=[(0,.mN),(3,.mN),(4,.mN)],boxes:=[]})]
def ZT:Rows→kM:=(fun r0=>((true,[.sl r0]):kM))
def nlA (a:Rows) (i:Int) (nV:Rows):St:= {n:=22,sl:=[(0,.sl [.str] a),(3,.own 640192),(4,.int .i64 i)],hp:=[(640192,.row 9 [.str] nV false true)],ok:=true,ls:=[],lm:=[]}
theorem ZU:D8 Tryz.prog 42 y_:=by
 refine nO (A:=ZS) JA Tryz.func42 fun ds (hw:kc ((.sl [.str])::([])) ds) aJ=> ?_
 obtain⟨a,ds,rfl,pU,hw⟩:=nH hw
 obtain rfl:=nc hw
 obtain⟨N,hN⟩:=nn0 Vm.ke ZT a pU aJ
 have e0:(fun i nV=>LR (LQ Tryz.prog [] ZS N Tryz.f42 y_ [true,true,false,true,false] []) N (nlA a i nV))=(noB nft Vm.ke ZT N a N):=Wp _ _ _ N
 refine⟨N,Eq.trans ?_ (hN.trans (by kernel_rfl))⟩
 unfold naf
 rw[←e0]
 kernel_rfl
def ncf:Sum:= {ps:=[⟨na.ct,true⟩],rs:=[⟨[.own 9 [.str]],true⟩],fn:=fun ds=>(uj (na.nd ds 0),na.enc (oE (na.nd ds 0)))}
def nrq:Ctx:=[(42,y_)]
theorem nrt:bF Tryz.prog nrq:=Ic ZU JA
theorem nrs:D8 Tryz.prog 32 ncf:=by
 refine nO (A:=[]) nrt Tryz.func32 fun ds (hw:kc (na.ct++([])) ds) aJ=> ?_
 obtain⟨a,ds,rfl,_,hw⟩:=na.nA (r:=_) hw
 obtain rfl:=nc hw
 exact⟨0,eT (nrr Vm.ke (fun r0=>((true,na.enc r0):kM)) a aJ)⟩
def ZM:Sum:= {ps:=[⟨oR.ct,true⟩],rs:=[⟨[.d7 .i,.d7 .i,.d7 .i,.d7 .bool],true⟩],fn:=fun ds=>(true,oR.enc (oE (oR.nd ds 0)))}
theorem nnN:D8 Tryz.prog 120 ZM:=by
 refine nO (A:=[]) JA Tryz.func120 fun ds (hw:kc (oR.ct++([])) ds) _=> ?_
 obtain⟨a,ds,rfl,_,hw⟩:=oR.nA (r:=_) hw
 obtain rfl:=nc hw
 exact⟨0,eT (nnM (fun r0=>((true,oR.enc r0):kM)) a)⟩
def PO:Sum:= {ps:=[⟨[.sl [.i,.i,.i,.bool]],false⟩],rs:=[⟨[.own 209 [.i,.i,.i,.bool]],false⟩],fn:=fun ds=>(sm (rR ds 0),[.sl (oE (rR ds 0))])}
def Xk:Ctx:=[(120,ZM)]
theorem nlr:bF Tryz.prog Xk:=Ic nnN JA
def Xj:List (Nat×lE):=[(3, {ca:=[(0,.mN),(3,.mN),(4,.mN)],boxes:=[]})]
def Xl:Rows→kM:=(fun r0=>((true,[.sl r0]):kM))
def niS (a:Rows) (i:Int) (nV:Rows):St:= {n:=23,sl:=[(0,.sl [.i,.i,.i,.bool] a),(3,.own 640192),(4,.int .i64 i)],hp:=[(640192,.row 209 [.i,.i,.i,.bool] nV false true)],ok:=true,ls:=[],lm:=[]}
theorem nlq:D8 Tryz.prog 33 PO:=by
 refine nO (A:=Xj) nlr Tryz.func33 fun ds (hw:kc ((.sl [.i,.i,.i,.bool])::([])) ds) aJ=> ?_
 obtain⟨a,ds,rfl,pU,hw⟩:=nH hw
 obtain rfl:=nc hw
 obtain⟨N,hN⟩:=nlp Vm.ke Xl a pU aJ
 have e0:(fun i nV=>LR (LQ Tryz.prog Xk Xj N Tryz.f33 PO [true,true,false,true,false] []) N (niS a i nV))=(noB naX Vm.ke Xl N a N):=Wp _ _ _ N
 refine⟨N,Eq.trans ?_ (hN.trans (by kernel_rfl))⟩
 unfold naf
 rw[←e0]
 kernel_rfl
def Yn:Sum:= {ps:=[⟨nB.ct,true⟩],rs:=[⟨[.d7 .i,.d7 .i,.d7 .i,.d7 .i],true⟩],fn:=fun ds=>(true,nB.enc (oE (nB.nd ds 0)))}
theorem nhg:D8 Tryz.prog 121 Yn:=by
 refine nO (A:=[]) JA Tryz.func121 fun ds (hw:kc (nB.ct++([])) ds) _=> ?_
 obtain⟨a,ds,rfl,_,hw⟩:=nB.nA (r:=_) hw
 obtain rfl:=nc hw
 exact⟨0,eT (nxt (fun r0=>((true,nB.enc r0):kM)) a)⟩
def vK:Sum:= {ps:=[⟨[.sl [.i]],false⟩],rs:=[⟨[.own 3 [.i]],false⟩],fn:=fun ds=>(sm (rR ds 0),[.sl (oE (rR ds 0))])}
def nhd:List (Nat×lE):=[(3, {ca:=[(0,.mN),(3,.mN),(4,.mN)],boxes:=[]})]
def nhe:Rows→kM:=(fun r0=>((true,[.sl r0]):kM))
def nuB (a:Rows) (i:Int) (nV:Rows):St:= {n:=22,sl:=[(0,.sl [.i] a),(3,.own 640192),(4,.int .i64 i)],hp:=[(640192,.row 3 [.i] nV false true)],ok:=true,ls:=[],lm:=[]}
theorem Na:D8 Tryz.prog 43 vK:=by
 refine nO (A:=nhd) JA Tryz.func43 fun ds (hw:kc ((.sl [.i])::([])) ds) aJ=> ?_
 obtain⟨a,ds,rfl,pU,hw⟩:=nH hw
 obtain rfl:=nc hw
 obtain⟨N,hN⟩:=nxp Vm.ke nhe a pU aJ
 have e0:(fun i nV=>LR (LQ Tryz.prog [] nhd N Tryz.f43 vK [true,true,false,true,false] []) N (nuB a i nV))=(noB nv2 Vm.ke nhe N a N):=Wp _ _ _ N
 refine⟨N,Eq.trans ?_ (hN.trans (by kernel_rfl))⟩
 unfold naf
 rw[←e0]
 kernel_rfl
def Ym:Sum:= {ps:=[⟨nv.ct,true⟩],rs:=[⟨[.d7 .i,.d7 .i,.d7 .i,.own 3 [.i]],true⟩],fn:=fun ds=>(rK (nv.nd ds 0),nv.enc (oE (nv.nd ds 0)))}
def nxq:Ctx:=[(43,vK)]
theorem nxs:bF Tryz.prog nxq:=Ic Na JA
theorem nhf:D8 Tryz.prog 122 Ym:=by
 refine nO (A:=[]) nxs Tryz.func122 fun ds (hw:kc (nv.ct++([])) ds) aJ=> ?_
 obtain⟨a,ds,rfl,_,hw⟩:=nv.nA (r:=_) hw
 obtain rfl:=nc hw
 exact⟨0,eT (nxr Vm.ke (fun r0=>((true,nv.enc r0):kM)) a aJ)⟩
def nhi:Sum:= {ps:=[⟨oZ.ct,true⟩],rs:=[⟨[.d7 .i,.d7 .i,.own 3 [.i]],true⟩],fn:=fun ds=>(tC (oZ.nd ds 0),oZ.enc (oE (oZ.nd ds 0)))}
def nxy:Ctx:=[(43,vK)]
theorem nxB:bF Tryz.prog nxy:=Ic Na JA
theorem nxA:D8 Tryz.prog 204 nhi:=by
 refine nO (A:=[]) nxB Tryz.func204 fun ds (hw:kc (oZ.ct++([])) ds) aJ=> ?_
 obtain⟨a,ds,rfl,_,hw⟩:=oZ.nA (r:=_) hw
 obtain rfl:=nc hw
 exact⟨0,eT (nxz Vm.ke (fun r0=>((true,oZ.enc r0):kM)) a aJ)⟩
def VE:Sum:= {ps:=[⟨[.sl [.i,.i,.sl [.i]]],false⟩],rs:=[⟨[.deep 207 [.i,.i,.sl [.i]] [3]],false⟩],fn:=fun ds=>(sW (rR ds 0),[.sl (oE (rR ds 0))])}
def nev:Ctx:=[(1125899906842631,J3),(204,nhi)]
theorem nuK:bF Tryz.prog nev:=Ic Lq (Ic nxA JA)
def neu:List (Nat×lE):=[(3, {ca:=[(0,.mN),(3,.mN),(4,.mN)],boxes:=[]})]
def nex:Rows→kM:=(fun r0=>((true,[.sl r0]):kM))
def nrA (a:Rows) (i:Int) (nV:Rows):St:= {n:=23,sl:=[(0,.sl [.i,.i,.sl [.i]] a),(3,.own 640192),(4,.int .i64 i)],hp:=[(640192,.deep 207 [.i,.i,.sl [.i]] [3] nV none)],ok:=true,ls:=[],lm:=[]}
theorem nuJ:D8 Tryz.prog 123 VE:=by
 refine nO (A:=neu) nuK Tryz.func123 fun ds (hw:kc ((.sl [.i,.i,.sl [.i]])::([])) ds) aJ=> ?_
 obtain⟨a,ds,rfl,pU,hw⟩:=nH hw
 obtain rfl:=nc hw
 obtain⟨N,hN⟩:=nuI Vm.ke nex a pU aJ
 exact⟨N,eL (fun l_=>VF Vm.ke nex l_ a) (Wp (LQ Tryz.prog nev neu N Tryz.f123 VE [true,true,false,true,false] []) (nrA a) _ N) hN⟩
def ZV:Sum:= {ps:=[⟨nh.ct,true⟩],rs:=[⟨[.d7 .i,.d7 .i,.d7 .i,.d7 .i,.d7 .i,.d7 .i,.d7 .i,.own 3 [.i],.deep 207 [.i,.i,.sl [.i]] [3],.d7 .i],true⟩],fn:=fun ds=>(tG (nh.nd ds 0),nh.enc (oE (nh.nd ds 0)))}
def nn1:Ctx:=[(121,Yn),(122,Ym),(123,VE)]
theorem nn4:bF Tryz.prog nn1:=Ic nhg (Ic nhf (Ic nuJ JA))
theorem nn3:D8 Tryz.prog 34 ZV:=by
 refine nO (A:=[]) nn4 Tryz.func34 fun ds (hw:kc (nh.ct++([])) ds) aJ=> ?_
 obtain⟨a,ds,rfl,_,hw⟩:=nh.nA (r:=_) hw
 obtain rfl:=nc hw
 exact⟨0,eT (nn2 Vm.ke (fun r0=>((true,nh.enc r0):kM)) a aJ)⟩
def ZO:Sum:= {ps:=[⟨nD.ct,true⟩],rs:=[⟨[.d7 .i,.d7 .i,.d7 .i,.d7 .i,.d7 .i,.d7 .i,.d7 .i,.d7 .str],true⟩],fn:=fun ds=>(true,nD.enc (oE (nD.nd ds 0)))}
theorem nnV:D8 Tryz.prog 45 ZO:=by
 refine nO (A:=[]) JA Tryz.func45 fun ds (hw:kc (nD.ct++([])) ds) _=> ?_
 obtain⟨a,ds,rfl,_,hw⟩:=nD.nA (r:=_) hw
 obtain rfl:=nc hw
 exact⟨0,eT (nnU (fun r0=>((true,nD.enc r0):kM)) a)⟩
def SP:Sum:= {ps:=[⟨nx.ct,true⟩],rs:=[⟨[.d7 .i,.d7 .i,.d7 .i,.d7 .i,.d7 .i,.d7 .i,.d7 .i,.d7 .i,.d7 .i,.d7 .i,.d7 .i,.d7 .i,.d7 .i,.d7 .i,.d7 .i,.d7 .str],true⟩],fn:=fun ds=>(true,nx.enc (oE (nx.nd ds 0)))}
def nru:Ctx:=[(45,ZO)]
theorem nrx:bF Tryz.prog nru:=Ic nnV JA
theorem ncg:D8 Tryz.prog 9 SP:=by
 refine nO (A:=[]) nrx Tryz.func9 fun ds (hw:kc (nx.ct++([])) ds) _=> ?_
 obtain⟨a,ds,rfl,_,hw⟩:=nx.nA (r:=_) hw
 obtain rfl:=nc hw
 exact⟨0,eT (nrv (fun r0=>((true,nx.enc r0):kM)) a)⟩
def neC:Sum:= {ps:=[⟨pe.ct,true⟩],rs:=[⟨[.d7 .i,.d7 .i,.d7 .i,.d7 .i,.d7 .i,.d7 .i,.d7 .i,.d7 .i,.d7 .i,.d7 .i,.d7 .i,.d7 .i,.d7 .i,.d7 .i,.d7 .i,.d7 .str,.d7 .i,.d7 .i],true⟩],fn:=fun ds=>(true,pe.enc (oE (pe.nd ds 0)))}
def nuO:Ctx:=[(9,SP)]
theorem nuS:bF Tryz.prog nuO:=Ic ncg JA
theorem nuQ:D8 Tryz.prog 206 neC:=by
 refine nO (A:=[]) nuS Tryz.func206 fun ds (hw:kc (pe.ct++([])) ds) _=> ?_
 obtain⟨a,ds,rfl,_,hw⟩:=pe.nA (r:=_) hw
 obtain rfl:=nc hw
 exact⟨0,eT (nuP (fun r0=>((true,pe.enc r0):kM)) a)⟩
def ZN:Sum:= {ps:=[⟨nK.ct,true⟩],rs:=[⟨[.d7 .i,.d7 .i,.d7 .i,.d7 .i,.d7 .i,.d7 .i,.d7 .i,.d7 .i,.d7 .i,.d7 .i,.d7 .i,.d7 .i,.d7 .i,.d7 .i,.d7 .i,.d7 .i,.d7 .i,.d7 .i,.d7 .i,.d7 .i,.d7 .i,.d7 .i,.d7 .i,.d7 .i,.d7 .i,.d7 .str,.d7 .i,.d7 .i,.d7 .bool,.d7 .i],true⟩],fn:=fun ds=>(true,nK.enc (oE (nK.nd ds 0)))}
def nnP:Ctx:=[(121,Yn),(205,z_),(206,neC)]
theorem nnT:bF Tryz.prog nnP:=Ic nhg (Ic Yj (Ic nuQ JA))
theorem nnR:D8 Tryz.prog 124 ZN:=by
 refine nO (A:=[]) nnT Tryz.func124 fun ds (hw:kc (nK.ct++([])) ds) _=> ?_
 obtain⟨a,ds,rfl,_,hw⟩:=nK.nA (r:=_) hw
 obtain rfl:=nc hw
 exact⟨0,eT (nnQ (fun r0=>((true,nK.enc r0):kM)) a)⟩
def PQ:Sum:= {ps:=[⟨[.sl [.i,.i,.i,.i,.i,.i,.i,.i,.i,.i,.i,.i,.i,.i,.i,.i,.i,.i,.i,.i,.i,.i,.i,.i,.i,.str,.i,.i,.bool,.i]],false⟩],rs:=[⟨[.own 182 [.i,.i,.i,.i,.i,.i,.i,.i,.i,.i,.i,.i,.i,.i,.i,.i,.i,.i,.i,.i,.i,.i,.i,.i,.i,.str,.i,.i,.bool,.i]],false⟩],fn:=fun ds=>(sm (rR ds 0),[.sl (oE (rR ds 0))])}
def Xo:Ctx:=[(124,ZN)]
theorem nlu:bF Tryz.prog Xo:=Ic nnR JA
def Xn:List (Nat×lE):=[(3, {ca:=[(0,.mN),(3,.mN),(4,.mN)],boxes:=[]})]
def Xp:Rows→kM:=(fun r0=>((true,[.sl r0]):kM))
def niT (a:Rows) (i:Int) (nV:Rows):St:= {n:=23,sl:=[(0,.sl [.i,.i,.i,.i,.i,.i,.i,.i,.i,.i,.i,.i,.i,.i,.i,.i,.i,.i,.i,.i,.i,.i,.i,.i,.i,.str,.i,.i,.bool,.i] a),(3,.own 640192),(4,.int .i64 i)],hp:=[(640192,.row 182 [.i,.i,.i,.i,.i,.i,.i,.i,.i,.i,.i,.i,.i,.i,.i,.i,.i,.i,.i,.i,.i,.i,.i,.i,.i,.str,.i,.i,.bool,.i] nV false true)],ok:=true,ls:=[],lm:=[]}
theorem nlt:D8 Tryz.prog 35 PQ:=by
 refine nO (A:=Xn) nlu Tryz.func35 fun ds (hw:kc ((.sl [.i,.i,.i,.i,.i,.i,.i,.i,.i,.i,.i,.i,.i,.i,.i,.i,.i,.i,.i,.i,.i,.i,.i,.i,.i,.str,.i,.i,.bool,.i])::([])) ds) aJ=> ?_
 obtain⟨a,ds,rfl,pU,hw⟩:=nH hw
 obtain rfl:=nc hw
 obtain⟨N,hN⟩:=nls Vm.ke Xp a pU aJ
 have e0:(fun i nV=>LR (LQ Tryz.prog Xo Xn N Tryz.f35 PQ [true,true,false,true,false] []) N (niT a i nV))=(noB naY Vm.ke Xp N a N):=Wp _ _ _ N
 refine⟨N,Eq.trans ?_ (hN.trans (by kernel_rfl))⟩
 unfold naf
 rw[←e0]
 kernel_rfl
def VB:Sum:= {ps:=[⟨[.sl [.i,.i,.i,.sl [.i]]],false⟩],rs:=[⟨[.deep 62 [.i,.i,.i,.sl [.i]] [3]],false⟩],fn:=fun ds=>(tQ (rR ds 0),[.sl (oE (rR ds 0))])}
def nen:Ctx:=[(1125899906842631,J3),(122,Ym)]
theorem nuE:bF Tryz.prog nen:=Ic Lq (Ic nhf JA)
def nem:List (Nat×lE):=[(3, {ca:=[(0,.mN),(3,.mN),(4,.mN)],boxes:=[]})]
def neo:Rows→kM:=(fun r0=>((true,[.sl r0]):kM))
def nry (a:Rows) (i:Int) (nV:Rows):St:= {n:=23,sl:=[(0,.sl [.i,.i,.i,.sl [.i]] a),(3,.own 640192),(4,.int .i64 i)],hp:=[(640192,.deep 62 [.i,.i,.i,.sl [.i]] [3] nV none)],ok:=true,ls:=[],lm:=[]}
theorem nuD:D8 Tryz.prog 36 VB:=by
 refine nO (A:=nem) nuE Tryz.func36 fun ds (hw:kc ((.sl [.i,.i,.i,.sl [.i]])::([])) ds) aJ=> ?_
 obtain⟨a,ds,rfl,pU,hw⟩:=nH hw
 obtain rfl:=nc hw
 obtain⟨N,hN⟩:=nuC Vm.ke neo a pU aJ
 exact⟨N,eL (fun l_=>VC Vm.ke neo l_ a) (Wp (LQ Tryz.prog nen nem N Tryz.f36 VB [true,true,false,true,false] []) (nry a) _ N) hN⟩
def Vz:Sum:= {ps:=[⟨[.sl [.bool]],false⟩],rs:=[⟨[.own 4 [.bool]],false⟩],fn:=fun ds=>(sm (rR ds 0),[.sl (oE (rR ds 0))])}
def nek:List (Nat×lE):=[(3, {ca:=[(0,.mN),(3,.mN),(4,.mN)],boxes:=[]})]
def nel:Rows→kM:=(fun r0=>((true,[.sl r0]):kM))
def nrk (a:Rows) (i:Int) (nV:Rows):St:= {n:=22,sl:=[(0,.sl [.bool] a),(3,.own 640192),(4,.int .i64 i)],hp:=[(640192,.row 4 [.bool] nV false true)],ok:=true,ls:=[],lm:=[]}
theorem nuA:D8 Tryz.prog 38 Vz:=by
 refine nO (A:=nek) JA Tryz.func38 fun ds (hw:kc ((.sl [.bool])::([])) ds) aJ=> ?_
 obtain⟨a,ds,rfl,pU,hw⟩:=nH hw
 obtain rfl:=nc hw
 obtain⟨N,hN⟩:=nuz Vm.ke nel a pU aJ
 have e0:(fun i nV=>LR (LQ Tryz.prog [] nek N Tryz.f38 Vz [true,true,false,true,false] []) N (nrk a i nV))=(noB noA Vm.ke nel N a N):=Wp _ _ _ N
 refine⟨N,Eq.trans ?_ (hN.trans (by kernel_rfl))⟩
 unfold naf
 rw[←e0]
 kernel_rfl
def nce:Sum:= {ps:=[⟨nC.ct,true⟩],rs:=[⟨[.d7 .i,.d7 .bool,.own 3 [.i]],true⟩],fn:=fun ds=>(ui (nC.nd ds 0),nC.enc (oE (nC.nd ds 0)))}
def nrl:Ctx:=[(43,vK)]
theorem nrp:bF Tryz.prog nrl:=Ic Na JA
theorem nro:D8 Tryz.prog 39 nce:=by
 refine nO (A:=[]) nrp Tryz.func39 fun ds (hw:kc (nC.ct++([])) ds) aJ=> ?_
 obtain⟨a,ds,rfl,_,hw⟩:=nC.nA (r:=_) hw
 obtain rfl:=nc hw
 exact⟨0,eT (nrn Vm.ke (fun r0=>((true,nC.enc r0):kM)) a aJ)⟩
def nhh:Sum:= {ps:=[⟨pf.ct,true⟩],rs:=[⟨[.d7 .i,.d7 .i,.d7 .i,.d7 .i,.d7 .i,.d7 .i,.d7 .i,.d7 .i,.d7 .i],true⟩],fn:=fun ds=>(true,pf.enc (oE (pf.nd ds 0)))}
theorem nxw:D8 Tryz.prog 207 nhh:=by
 refine nO (A:=[]) JA Tryz.func207 fun ds (hw:kc (pf.ct++([])) ds) _=> ?_
 obtain⟨a,ds,rfl,_,hw⟩:=pf.nA (r:=_) hw
 obtain rfl:=nc hw
 exact⟨0,eT (nxv (fun r0=>((true,pf.enc r0):kM)) a)⟩
def VD:Sum:= {ps:=[⟨[.sl [.i,.i,.i,.i,.i,.i,.i,.i,.i]],false⟩],rs:=[⟨[.own 260 [.i,.i,.i,.i,.i,.i,.i,.i,.i]],false⟩],fn:=fun ds=>(sm (rR ds 0),[.sl (oE (rR ds 0))])}
def nes:Ctx:=[(207,nhh)]
theorem nuH:bF Tryz.prog nes:=Ic nxw JA
def ner:List (Nat×lE):=[(3, {ca:=[(0,.mN),(3,.mN),(4,.mN)],boxes:=[]})]
def net:Rows→kM:=(fun r0=>((true,[.sl r0]):kM))
def nrz (a:Rows) (i:Int) (nV:Rows):St:= {n:=23,sl:=[(0,.sl [.i,.i,.i,.i,.i,.i,.i,.i,.i] a),(3,.own 640192),(4,.int .i64 i)],hp:=[(640192,.row 260 [.i,.i,.i,.i,.i,.i,.i,.i,.i] nV false true)],ok:=true,ls:=[],lm:=[]}
theorem nuG:D8 Tryz.prog 126 VD:=by
 refine nO (A:=ner) nuH Tryz.func126 fun ds (hw:kc ((.sl [.i,.i,.i,.i,.i,.i,.i,.i,.i])::([])) ds) aJ=> ?_
 obtain⟨a,ds,rfl,pU,hw⟩:=nH hw
 obtain rfl:=nc hw
 obtain⟨N,hN⟩:=nuF Vm.ke net a pU aJ
 have e0:(fun i nV=>LR (LQ Tryz.prog nes ner N Tryz.f126 VD [true,true,false,true,false] []) N (nrz a i nV))=(noB noC Vm.ke net N a N):=Wp _ _ _ N
 refine⟨N,Eq.trans ?_ (hN.trans (by kernel_rfl))⟩
 unfold naf
 rw[←e0]
 kernel_rfl
def nch:Sum:= {ps:=[⟨nG.ct,true⟩],rs:=[⟨[.d7 .str,.own 3 [.i]],true⟩],fn:=fun ds=>(uk (nG.nd ds 0),nG.enc (oE (nG.nd ds 0)))}
def nrC:Ctx:=[(43,vK)]
theorem nrF:bF Tryz.prog nrC:=Ic Na JA
theorem nrE:D8 Tryz.prog 128 nch:=by
 refine nO (A:=[]) nrF Tryz.func128 fun ds (hw:kc (nG.ct++([])) ds) aJ=> ?_
 obtain⟨a,ds,rfl,_,hw⟩:=nG.nA (r:=_) hw
 obtain rfl:=nc hw
 exact⟨0,eT (nrD Vm.ke (fun r0=>((true,nG.enc r0):kM)) a aJ)⟩
def Xr:Sum:= {ps:=[⟨nk.ct,true⟩],rs:=[⟨[.own 260 [.i,.i,.i,.i,.i,.i,.i,.i,.i],.own 262 [.i,.i,.i,.i,.i,.i,.i],.d7 .str,.own 3 [.i]],true⟩],fn:=fun ds=>(tf (nk.nd ds 0),nk.enc (oE (nk.nd ds 0)))}
def nlv:Ctx:=[(126,VD),(127,VA),(128,nch)]
theorem nly:bF Tryz.prog nlv:=Ic nuG (Ic niQ (Ic nrE JA))
theorem nlx:D8 Tryz.prog 40 Xr:=by
 refine nO (A:=[]) nly Tryz.func40 fun ds (hw:kc (nk.ct++([])) ds) aJ=> ?_
 obtain⟨a,ds,rfl,_,hw⟩:=nk.nA (r:=_) hw
 obtain rfl:=nc hw
 exact⟨0,eT (nlw Vm.ke (fun r0=>((true,nk.enc r0):kM)) a aJ)⟩
def nci:Sum:= {ps:=[⟨oh.ct,true⟩],rs:=[⟨[.d7 .i,.d7 .i,.d7 .i,.d7 .i,.d7 .i,.d7 .i,.d7 .str,.d7 .bool],true⟩],fn:=fun ds=>(true,oh.enc (oE (oh.nd ds 0)))}
def nrG:Ctx:=[(209,Yl)]
theorem nrK:bF Tryz.prog nrG:=Ic nhb JA
theorem nrI:D8 Tryz.prog 129 nci:=by
 refine nO (A:=[]) nrK Tryz.func129 fun ds (hw:kc (oh.ct++([])) ds) _=> ?_
 obtain⟨a,ds,rfl,_,hw⟩:=oh.nA (r:=_) hw
 obtain rfl:=nc hw
 exact⟨0,eT (nrH (fun r0=>((true,oh.enc r0):kM)) a)⟩
def Re:Sum:= {ps:=[⟨[.sl [.i,.i,.i,.i,.i,.i,.str,.bool]],false⟩],rs:=[⟨[.own 223 [.i,.i,.i,.i,.i,.i,.str,.bool]],false⟩],fn:=fun ds=>(sm (rR ds 0),[.sl (oE (rR ds 0))])}
def ZQ:Ctx:=[(129,nci)]
theorem nnZ:bF Tryz.prog ZQ:=Ic nrI JA
def ZP:List (Nat×lE):=[(3, {ca:=[(0,.mN),(3,.mN),(4,.mN)],boxes:=[]})]
def ZR:Rows→kM:=(fun r0=>((true,[.sl r0]):kM))
def nlz (a:Rows) (i:Int) (nV:Rows):St:= {n:=23,sl:=[(0,.sl [.i,.i,.i,.i,.i,.i,.str,.bool] a),(3,.own 640192),(4,.int .i64 i)],hp:=[(640192,.row 223 [.i,.i,.i,.i,.i,.i,.str,.bool] nV false true)],ok:=true,ls:=[],lm:=[]}
theorem nnY:D8 Tryz.prog 41 Re:=by
 refine nO (A:=ZP) nnZ Tryz.func41 fun ds (hw:kc ((.sl [.i,.i,.i,.i,.i,.i,.str,.bool])::([])) ds) aJ=> ?_
 obtain⟨a,ds,rfl,pU,hw⟩:=nH hw
 obtain rfl:=nc hw
 obtain⟨N,hN⟩:=nnX Vm.ke ZR a pU aJ
 have e0:(fun i nV=>LR (LQ Tryz.prog ZQ ZP N Tryz.f41 Re [true,true,false,true,false] []) N (nlz a i nV))=(noB nfs Vm.ke ZR N a N):=Wp _ _ _ N
 refine⟨N,Eq.trans ?_ (hN.trans (by kernel_rfl))⟩
 unfold naf
 rw[←e0]
 kernel_rfl
def nhc:Sum:= {ps:=[⟨ny.ct,true⟩],rs:=[⟨[.own 9 [.str],.own 209 [.i,.i,.i,.bool],.d7 .i,.d7 .i,.d7 .i,.d7 .i,.d7 .i,.d7 .i,.d7 .i,.own 3 [.i],.deep 207 [.i,.i,.sl [.i]] [3],.d7 .i,.own 182 [.i,.i,.i,.i,.i,.i,.i,.i,.i,.i,.i,.i,.i,.i,.i,.i,.i,.i,.i,.i,.i,.i,.i,.i,.i,.str,.i,.i,.bool,.i],.deep 62 [.i,.i,.i,.sl [.i]] [3],.own 186 [.i,.i,.i,.i,.bool,.bool],.own 4 [.bool],.d7 .i,.d7 .bool,.own 3 [.i],.own 260 [.i,.i,.i,.i,.i,.i,.i,.i,.i],.own 262 [.i,.i,.i,.i,.i,.i,.i],.d7 .str,.own 3 [.i],.own 223 [.i,.i,.i,.i,.i,.i,.str,.bool],.d7 .bool,.own 9 [.str],.own 3 [.i],.own 3 [.i],.d7 .i,.d7 .i,.d7 .i,.d7 .i,.d7 .i],true⟩],fn:=fun ds=>(sK (ny.nd ds 0),ny.enc (oE (ny.nd ds 0)))}
def nxl:Ctx:=[(32,ncf),(33,PO),(34,ZV),(35,PQ),(36,VB),(37,Rf),(38,Vz),(39,nce),(40,Xr),(41,Re),(42,y_),(43,vK),(44,Xi)]
theorem nxo:bF Tryz.prog nxl:=Ic nrs (Ic nlq (Ic nn3 (Ic nlt (Ic nuD (Ic nn6 (Ic nuA (Ic nro (Ic nlx (Ic nnY (Ic ZU (Ic Na (Ic nln JA))))))))))))
theorem nxn:D8 Tryz.prog 8 nhc:=by
 refine nO (A:=[]) nxo Tryz.func8 fun ds (hw:kc (ny.ct++([])) ds) aJ=> ?_
 obtain⟨a,ds,rfl,_,hw⟩:=ny.nA (r:=_) hw
 obtain rfl:=nc hw
 exact⟨0,eT (nxm Vm.ke (fun r0=>((true,ny.enc r0):kM)) a aJ)⟩
def ng5:Sum:= {ps:=[⟨oZ.ct,true⟩,⟨oZ.ct,true⟩],rs:=[⟨[.d7 .bool],false⟩],fn:=fun ds=>(same (oZ.nd ds 0) (oZ.nd ds 3),[.bool (pc (oZ.nd ds 0) (oZ.nd ds 3))])}
def nwZ:Ctx:=[(60,vI)]
theorem nw2:bF Tryz.prog nwZ:=Ic zX JA
theorem nw1:D8 Tryz.prog 232 ng5:=by
 refine nO (A:=[]) nw2 Tryz.func232 fun ds (hw:kc (oZ.ct++(oZ.ct++([]))) ds) aJ=> ?_
 obtain⟨a,ds,rfl,_,hw⟩:=oZ.nA (r:=_) hw
 obtain⟨b,ds,rfl,_,hw⟩:=oZ.nA (r:=_) hw
 obtain rfl:=nc hw
 exact⟨0,eT (nw0 Vm.ke (fun r0=>((true,[.bool r0]):kM)) a b aJ)⟩
def U0:Sum:= {ps:=[⟨[.sl [.i,.i,.sl [.i]]],false⟩,⟨[.sl [.i,.i,.sl [.i]]],false⟩],rs:=[⟨[.d7 .bool],false⟩],fn:=fun ds=>(same (rR ds 0) (rR ds 1),[.bool (pc (rR ds 0) (rR ds 1))])}
def ndP:Ctx:=[(232,ng5)]
theorem nt6:bF Tryz.prog ndP:=Ic nw1 JA
def ndO:List (Nat×lE):=[(4, {ca:=[(0,.mN),(1,.mN),(5,.mN)],boxes:=[]})]
def ndQ:Bool→kM:=(fun r0=>((true,[.bool r0]):kM))
def nqv (a b:Rows) (i:Int):St:= {n:=27,sl:=[(0,.sl [.i,.i,.sl [.i]] a),(1,.sl [.i,.i,.sl [.i]] b),(5,.int .i64 i)],hp:=[],ok:=true,ls:=[],lm:=[]}
theorem nt5:D8 Tryz.prog 160 U0:=by
 refine nO (A:=ndO) nt6 Tryz.func160 fun ds (hw:kc ((.sl [.i,.i,.sl [.i]])::((.sl [.i,.i,.sl [.i]])::([]))) ds) aJ=> ?_
 obtain⟨a,ds,rfl,pU,hw⟩:=nH hw
 obtain⟨b,ds,rfl,_,hw⟩:=nH hw
 obtain rfl:=nc hw
 obtain⟨N,hN⟩:=nt4 Vm.ke ndQ a b pU aJ
 have e0:(fun i=>LR (LQ Tryz.prog ndP ndO N Tryz.f160 U0 [true,true,false,true,false] []) N (nqv a b i))=(no8 (fun r=>oZ.nd r 0) Vm.ke ndQ N a b N):=nL1 _ _ _ N
 refine⟨N,Eq.trans ?_ (hN.trans (by kernel_rfl))⟩
 unfold nc6
 rw[←e0]
 kernel_rfl
def ng3:Sum:= {ps:=[⟨pf.ct,true⟩,⟨pf.ct,true⟩],rs:=[⟨[.d7 .bool],false⟩],fn:=fun ds=>(same (pf.nd ds 0) (pf.nd ds 9),[.bool (pc (pf.nd ds 0) (pf.nd ds 9))])}
theorem nwY:D8 Tryz.prog 235 ng3:=by
 refine nO (A:=[]) JA Tryz.func235 fun ds (hw:kc (pf.ct++(pf.ct++([]))) ds) aJ=> ?_
 obtain⟨a,ds,rfl,_,hw⟩:=pf.nA (r:=_) hw
 obtain⟨b,ds,rfl,_,hw⟩:=pf.nA (r:=_) hw
 obtain rfl:=nc hw
 exact⟨0,eT (nwX (fun r0=>((true,[.bool r0]):kM)) a b aJ)⟩
def UZ:Sum:= {ps:=[⟨[.sl [.i,.i,.i,.i,.i,.i,.i,.i,.i]],false⟩,⟨[.sl [.i,.i,.i,.i,.i,.i,.i,.i,.i]],false⟩],rs:=[⟨[.d7 .bool],false⟩],fn:=fun ds=>(same (rR ds 0) (rR ds 1),[.bool (pc (rR ds 0) (rR ds 1))])}
def ndM:Ctx:=[(235,ng3)]
theorem nt3:bF Tryz.prog ndM:=Ic nwY JA
def ndL:List (Nat×lE):=[(4, {ca:=[(0,.mN),(1,.mN),(5,.mN)],boxes:=[]})]
def ndN:Bool→kM:=(fun r0=>((true,[.bool r0]):kM))
def nqu (a b:Rows) (i:Int):St:= {n:=27,sl:=[(0,.sl [.i,.i,.i,.i,.i,.i,.i,.i,.i] a),(1,.sl [.i,.i,.i,.i,.i,.i,.i,.i,.i] b),(5,.int .i64 i)],hp:=[],ok:=true,ls:=[],lm:=[]}
theorem nt2:D8 Tryz.prog 163 UZ:=by
 refine nO (A:=ndL) nt3 Tryz.func163 fun ds (hw:kc ((.sl [.i,.i,.i,.i,.i,.i,.i,.i,.i])::((.sl [.i,.i,.i,.i,.i,.i,.i,.i,.i])::([]))) ds) aJ=> ?_
 obtain⟨a,ds,rfl,pU,hw⟩:=nH hw
 obtain⟨b,ds,rfl,_,hw⟩:=nH hw
 obtain rfl:=nc hw
 obtain⟨N,hN⟩:=nt1 Vm.ke ndN a b pU aJ
 have e0:(fun i=>LR (LQ Tryz.prog ndM ndL N Tryz.f163 UZ [true,true,false,true,false] []) N (nqu a b i))=(no8 (fun r=>pf.nd r 0) Vm.ke ndN N a b N):=nL1 _ _ _ N
 refine⟨N,Eq.trans ?_ (hN.trans (by kernel_rfl))⟩
 unfold nc6
 rw[←e0]
 kernel_rfl
def nbQ:Sum:= {ps:=[⟨nG.ct,true⟩,⟨nG.ct,true⟩],rs:=[⟨[.d7 .bool],false⟩],fn:=fun ds=>(same (nG.nd ds 0) (nG.nd ds 2),[.bool (pc (nG.nd ds 0) (nG.nd ds 2))])}
def nqx:Ctx:=[(60,vI)]
theorem nqA:bF Tryz.prog nqx:=Ic zX JA
theorem nqz:D8 Tryz.prog 165 nbQ:=by
 refine nO (A:=[]) nqA Tryz.func165 fun ds (hw:kc (nG.ct++(nG.ct++([]))) ds) aJ=> ?_
 obtain⟨a,ds,rfl,_,hw⟩:=nG.nA (r:=_) hw
 obtain⟨b,ds,rfl,_,hw⟩:=nG.nA (r:=_) hw
 obtain rfl:=nc hw
 exact⟨0,eT (nqy Vm.ke (fun r0=>((true,[.bool r0]):kM)) a b aJ)⟩
def W1:Sum:= {ps:=[⟨nk.ct,true⟩,⟨nk.ct,true⟩],rs:=[⟨[.d7 .bool],false⟩],fn:=fun ds=>(same (nk.nd ds 0) (nk.nd ds 4),[.bool (pc (nk.nd ds 0) (nk.nd ds 4))])}
def nku:Ctx:=[(163,UZ),(164,UW),(165,nbQ)]
theorem nkx:bF Tryz.prog nku:=Ic nt2 (Ic nih (Ic nqz JA))
theorem nkw:D8 Tryz.prog 57 W1:=by
 refine nO (A:=[]) nkx Tryz.func57 fun ds (hw:kc (nk.ct++(nk.ct++([]))) ds) aJ=> ?_
 obtain⟨a,ds,rfl,_,hw⟩:=nk.nA (r:=_) hw
 obtain⟨b,ds,rfl,_,hw⟩:=nk.nA (r:=_) hw
 obtain rfl:=nc hw
 exact⟨0,eT (nkv Vm.ke (fun r0=>((true,[.bool r0]):kM)) a b aJ)⟩
def Yf:Sum:= {ps:=[⟨nB.ct,true⟩,⟨nB.ct,true⟩],rs:=[⟨[.d7 .bool],false⟩],fn:=fun ds=>(same (nB.nd ds 0) (nB.nd ds 4),[.bool (pc (nB.nd ds 0) (nB.nd ds 4))])}
theorem ng1:D8 Tryz.prog 158 Yf:=by
 refine nO (A:=[]) JA Tryz.func158 fun ds (hw:kc (nB.ct++(nB.ct++([]))) ds) aJ=> ?_
 obtain⟨a,ds,rfl,_,hw⟩:=nB.nA (r:=_) hw
 obtain⟨b,ds,rfl,_,hw⟩:=nB.nA (r:=_) hw
 obtain rfl:=nc hw
 exact⟨0,eT (nwW (fun r0=>((true,[.bool r0]):kM)) a b aJ)⟩
def zV:Sum:= {ps:=[⟨nn.ct,true⟩,⟨nn.ct,true⟩],rs:=[⟨[.d7 .bool],false⟩],fn:=fun ds=>(same (nn.nd ds 0) (nn.nd ds 3),[.bool (pc (nn.nd ds 0) (nn.nd ds 3))])}
theorem Yb:D8 Tryz.prog 233 zV:=by
 refine nO (A:=[]) JA Tryz.func233 fun ds (hw:kc (nn.ct++(nn.ct++([]))) ds) aJ=> ?_
 obtain⟨a,ds,rfl,_,hw⟩:=nn.nA (r:=_) hw
 obtain⟨b,ds,rfl,_,hw⟩:=nn.nA (r:=_) hw
 obtain rfl:=nc hw
 exact⟨0,eT (Ya (fun r0=>((true,[.bool r0]):kM)) a b aJ)⟩
def ndU:Sum:= {ps:=[⟨pe.ct,true⟩,⟨pe.ct,true⟩],rs:=[⟨[.d7 .bool],false⟩],fn:=fun ds=>(same (pe.nd ds 0) (pe.nd ds 18),[.bool (pc (pe.nd ds 0) (pe.nd ds 18))])}
def nt_:Ctx:=[(282,nbO)]
theorem nuc:bF Tryz.prog nt_:=Ic nqr JA
theorem nub:D8 Tryz.prog 234 ndU:=by
 refine nO (A:=[]) nuc Tryz.func234 fun ds (hw:kc (pe.ct++(pe.ct++([]))) ds) aJ=> ?_
 obtain⟨a,ds,rfl,_,hw⟩:=pe.nA (r:=_) hw
 obtain⟨b,ds,rfl,_,hw⟩:=pe.nA (r:=_) hw
 obtain rfl:=nc hw
 exact⟨0,eT (nua Vm.ke (fun r0=>((true,[.bool r0]):kM)) a b aJ)⟩
def YP:Sum:= {ps:=[⟨nK.ct,true⟩,⟨nK.ct,true⟩],rs:=[⟨[.d7 .bool],false⟩],fn:=fun ds=>(same (nK.nd ds 0) (nK.nd ds 30),[.bool (pc (nK.nd ds 0) (nK.nd ds 30))])}
def nmM:Ctx:=[(158,Yf),(233,zV),(234,ndU)]
theorem nmP:bF Tryz.prog nmM:=Ic ng1 (Ic Yb (Ic nub JA))
theorem nmO:D8 Tryz.prog 161 YP:=by
 refine nO (A:=[]) nmP Tryz.func161 fun ds (hw:kc (nK.ct++(nK.ct++([]))) ds) aJ=> ?_
 obtain⟨a,ds,rfl,_,hw⟩:=nK.nA (r:=_) hw
 obtain⟨b,ds,rfl,_,hw⟩:=nK.nA (r:=_) hw
 obtain rfl:=nc hw
 exact⟨0,eT (nmN Vm.ke (fun r0=>((true,[.bool r0]):kM)) a b aJ)⟩
def PI:Sum:= {ps:=[⟨[.sl [.i,.i,.i,.i,.i,.i,.i,.i,.i,.i,.i,.i,.i,.i,.i,.i,.i,.i,.i,.i,.i,.i,.i,.i,.i,.str,.i,.i,.bool,.i]],false⟩,⟨[.sl [.i,.i,.i,.i,.i,.i,.i,.i,.i,.i,.i,.i,.i,.i,.i,.i,.i,.i,.i,.i,.i,.i,.i,.i,.i,.str,.i,.i,.bool,.i]],false⟩],rs:=[⟨[.d7 .bool],false⟩],fn:=fun ds=>(same (rR ds 0) (rR ds 1),[.bool (pc (rR ds 0) (rR ds 1))])}
def WZ:Ctx:=[(161,YP)]
theorem nkt:bF Tryz.prog WZ:=Ic nmO JA
def WY:List (Nat×lE):=[(4, {ca:=[(0,.mN),(1,.mN),(5,.mN)],boxes:=[]})]
def W0:Bool→kM:=(fun r0=>((true,[.bool r0]):kM))
def nik (a b:Rows) (i:Int):St:= {n:=27,sl:=[(0,.sl [.i,.i,.i,.i,.i,.i,.i,.i,.i,.i,.i,.i,.i,.i,.i,.i,.i,.i,.i,.i,.i,.i,.i,.i,.i,.str,.i,.i,.bool,.i] a),(1,.sl [.i,.i,.i,.i,.i,.i,.i,.i,.i,.i,.i,.i,.i,.i,.i,.i,.i,.i,.i,.i,.i,.i,.i,.i,.i,.str,.i,.i,.bool,.i] b),(5,.int .i64 i)],hp:=[],ok:=true,ls:=[],lm:=[]}
theorem nks:D8 Tryz.prog 52 PI:=by
 refine nO (A:=WY) nkt Tryz.func52 fun ds (hw:kc ((.sl [.i,.i,.i,.i,.i,.i,.i,.i,.i,.i,.i,.i,.i,.i,.i,.i,.i,.i,.i,.i,.i,.i,.i,.i,.i,.str,.i,.i,.bool,.i])::((.sl [.i,.i,.i,.i,.i,.i,.i,.i,.i,.i,.i,.i,.i,.i,.i,.i,.i,.i,.i,.i,.i,.i,.i,.i,.i,.str,.i,.i,.bool,.i])::([]))) ds) aJ=> ?_
 obtain⟨a,ds,rfl,pU,hw⟩:=nH hw
 obtain⟨b,ds,rfl,_,hw⟩:=nH hw
 obtain rfl:=nc hw
 obtain⟨N,hN⟩:=nkr Vm.ke W0 a b pU aJ
 have e0:(fun i=>LR (LQ Tryz.prog WZ WY N Tryz.f52 PI [true,true,false,true,false] []) N (nik a b i))=(no8 (fun r=>nK.nd r 0) Vm.ke W0 N a b N):=nL1 _ _ _ N
 refine⟨N,Eq.trans ?_ (hN.trans (by kernel_rfl))⟩
 unfold nc6
 rw[←e0]
 kernel_rfl
def Y0:Sum:= {ps:=[⟨nh.ct,true⟩,⟨nh.ct,true⟩],rs:=[⟨[.d7 .bool],false⟩],fn:=fun ds=>(same (nh.nd ds 0) (nh.nd ds 10),[.bool (pc (nh.nd ds 0) (nh.nd ds 10))])}
def nmW:Ctx:=[(158,Yf),(159,Ye),(160,U0)]
theorem nmZ:bF Tryz.prog nmW:=Ic ng1 (Ic ngZ (Ic nt5 JA))
theorem nmY:D8 Tryz.prog 51 Y0:=by
 refine nO (A:=[]) nmZ Tryz.func51 fun ds (hw:kc (nh.ct++(nh.ct++([]))) ds) aJ=> ?_
 obtain⟨a,ds,rfl,_,hw⟩:=nh.nA (r:=_) hw
 obtain⟨b,ds,rfl,_,hw⟩:=nh.nA (r:=_) hw
 obtain rfl:=nc hw
 exact⟨0,eT (nmX Vm.ke (fun r0=>((true,[.bool r0]):kM)) a b aJ)⟩
def nbM:Sum:= {ps:=[⟨na.ct,true⟩,⟨na.ct,true⟩],rs:=[⟨[.d7 .bool],false⟩],fn:=fun ds=>(same (na.nd ds 0) (na.nd ds 1),[.bool (pc (na.nd ds 0) (na.nd ds 1))])}
def nql:Ctx:=[(59,y3)]
theorem nqo:bF Tryz.prog nql:=Ic YZ JA
theorem nqn:D8 Tryz.prog 49 nbM:=by
 refine nO (A:=[]) nqo Tryz.func49 fun ds (hw:kc (na.ct++(na.ct++([]))) ds) aJ=> ?_
 obtain⟨a,ds,rfl,_,hw⟩:=na.nA (r:=_) hw
 obtain⟨b,ds,rfl,_,hw⟩:=na.nA (r:=_) hw
 obtain rfl:=nc hw
 exact⟨0,eT (nqm Vm.ke (fun r0=>((true,[.bool r0]):kM)) a b aJ)⟩
def QG:Sum:= {ps:=[⟨[.sl [.i,.i,.i,.i,.i,.i,.str,.bool]],false⟩,⟨[.sl [.i,.i,.i,.i,.i,.i,.str,.bool]],false⟩],rs:=[⟨[.d7 .bool],false⟩],fn:=fun ds=>(same (rR ds 0) (rR ds 1),[.bool (pc (rR ds 0) (rR ds 1))])}
def YU:Ctx:=[(166,nbS)]
theorem nmU:bF Tryz.prog YU:=Ic nqD JA
def YT:List (Nat×lE):=[(4, {ca:=[(0,.mN),(1,.mN),(5,.mN)],boxes:=[]})]
def YV:Bool→kM:=(fun r0=>((true,[.bool r0]):kM))
def nky (a b:Rows) (i:Int):St:= {n:=27,sl:=[(0,.sl [.i,.i,.i,.i,.i,.i,.str,.bool] a),(1,.sl [.i,.i,.i,.i,.i,.i,.str,.bool] b),(5,.int .i64 i)],hp:=[],ok:=true,ls:=[],lm:=[]}
theorem nmT:D8 Tryz.prog 58 QG:=by
 refine nO (A:=YT) nmU Tryz.func58 fun ds (hw:kc ((.sl [.i,.i,.i,.i,.i,.i,.str,.bool])::((.sl [.i,.i,.i,.i,.i,.i,.str,.bool])::([]))) ds) aJ=> ?_
 obtain⟨a,ds,rfl,pU,hw⟩:=nH hw
 obtain⟨b,ds,rfl,_,hw⟩:=nH hw
 obtain rfl:=nc hw
 obtain⟨N,hN⟩:=nmS Vm.ke YV a b pU aJ
 have e0:(fun i=>LR (LQ Tryz.prog YU YT N Tryz.f58 QG [true,true,false,true,false] []) N (nky a b i))=(no8 (fun r=>oh.nd r 0) Vm.ke YV N a b N):=nL1 _ _ _ N
 refine⟨N,Eq.trans ?_ (hN.trans (by kernel_rfl))⟩
 unfold nc6
 rw[←e0]
 kernel_rfl
def QI:Sum:= {ps:=[⟨[.sl [.i,.i,.i,.i,.bool,.bool]],false⟩,⟨[.sl [.i,.i,.i,.i,.bool,.bool]],false⟩],rs:=[⟨[.d7 .bool],false⟩],fn:=fun ds=>(same (rR ds 0) (rR ds 1),[.bool (pc (rR ds 0) (rR ds 1))])}
def Y3:Ctx:=[(162,nbU)]
theorem nm2:bF Tryz.prog Y3:=Ic nqG JA
def Y2:List (Nat×lE):=[(4, {ca:=[(0,.mN),(1,.mN),(5,.mN)],boxes:=[]})]
def Y4:Bool→kM:=(fun r0=>((true,[.bool r0]):kM))
def nkA (a b:Rows) (i:Int):St:= {n:=27,sl:=[(0,.sl [.i,.i,.i,.i,.bool,.bool] a),(1,.sl [.i,.i,.i,.i,.bool,.bool] b),(5,.int .i64 i)],hp:=[],ok:=true,ls:=[],lm:=[]}
theorem nm1:D8 Tryz.prog 54 QI:=by
 refine nO (A:=Y2) nm2 Tryz.func54 fun ds (hw:kc ((.sl [.i,.i,.i,.i,.bool,.bool])::((.sl [.i,.i,.i,.i,.bool,.bool])::([]))) ds) aJ=> ?_
 obtain⟨a,ds,rfl,pU,hw⟩:=nH hw
 obtain⟨b,ds,rfl,_,hw⟩:=nH hw
 obtain rfl:=nc hw
 obtain⟨N,hN⟩:=nm0 Vm.ke Y4 a b pU aJ
 have e0:(fun i=>LR (LQ Tryz.prog Y3 Y2 N Tryz.f54 QI [true,true,false,true,false] []) N (nkA a b i))=(no8 (fun r=>nY.nd r 0) Vm.ke Y4 N a b N):=nL1 _ _ _ N
 refine⟨N,Eq.trans ?_ (hN.trans (by kernel_rfl))⟩
 unfold nc6
 rw[←e0]
 kernel_rfl
def WT:Sum:= {ps:=[⟨ox.ct,true⟩,⟨ox.ct,true⟩],rs:=[⟨[.d7 .bool],false⟩],fn:=fun ds=>(same (ox.nd ds 0) (ox.nd ds 5),[.bool (pc (ox.nd ds 0) (ox.nd ds 5))])}
theorem nkn:D8 Tryz.prog 61 WT:=by
 refine nO (A:=[]) JA Tryz.func61 fun ds (hw:kc (ox.ct++(ox.ct++([]))) ds) aJ=> ?_
 obtain⟨a,ds,rfl,_,hw⟩:=ox.nA (r:=_) hw
 obtain⟨b,ds,rfl,_,hw⟩:=ox.nA (r:=_) hw
 obtain rfl:=nc hw
 exact⟨0,eT (nkm (fun r0=>((true,[.bool r0]):kM)) a b aJ)⟩
def nbK:Sum:= {ps:=[⟨nC.ct,true⟩,⟨nC.ct,true⟩],rs:=[⟨[.d7 .bool],false⟩],fn:=fun ds=>(same (nC.nd ds 0) (nC.nd ds 3),[.bool (pc (nC.nd ds 0) (nC.nd ds 3))])}
def nqh:Ctx:=[(60,vI)]
theorem nqk:bF Tryz.prog nqh:=Ic zX JA
theorem nqj:D8 Tryz.prog 56 nbK:=by
 refine nO (A:=[]) nqk Tryz.func56 fun ds (hw:kc (nC.ct++(nC.ct++([]))) ds) aJ=> ?_
 obtain⟨a,ds,rfl,_,hw⟩:=nC.nA (r:=_) hw
 obtain⟨b,ds,rfl,_,hw⟩:=nC.nA (r:=_) hw
 obtain rfl:=nc hw
 exact⟨0,eT (nqi Vm.ke (fun r0=>((true,[.bool r0]):kM)) a b aJ)⟩
def ngU:Sum:= {ps:=[⟨ny.ct,true⟩,⟨ny.ct,true⟩],rs:=[⟨[.d7 .bool],false⟩],fn:=fun ds=>(same (ny.nd ds 0) (ny.nd ds 33),[.bool (pc (ny.nd ds 0) (ny.nd ds 33))])}
def nwO:Ctx:=[(49,nbM),(50,PH),(51,Y0),(52,PI),(53,UY),(54,QI),(55,UT),(56,nbK),(57,W1),(58,QG),(59,y3),(60,vI),(61,WT)]
theorem nwR:bF Tryz.prog nwO:=Ic nqn (Ic nkp (Ic nmY (Ic nks (Ic ntZ (Ic nm1 (Ic ntW (Ic nqj (Ic nkw (Ic nmT (Ic YZ (Ic zX (Ic nkn JA))))))))))))
theorem nwQ:D8 Tryz.prog 11 ngU:=by
 refine nO (A:=[]) nwR Tryz.func11 fun ds (hw:kc (ny.ct++(ny.ct++([]))) ds) aJ=> ?_
 obtain⟨a,ds,rfl,_,hw⟩:=ny.nA (r:=_) hw
 obtain⟨b,ds,rfl,_,hw⟩:=ny.nA (r:=_) hw
 obtain rfl:=nc hw
 exact⟨0,eT (nwP Vm.ke (fun r0=>((true,[.bool r0]):kM)) a b aJ)⟩
def sU:Sum:= {ps:=[⟨[.sl [.i]],false⟩,⟨[.i],false⟩],rs:=[⟨[.d7 .i],false⟩],fn:=fun ds=>(ON 1 (rR ds 0) (rI ds 1),[.int (rv (rR ds 0) (rI ds 1)).1]++[.sl (rv (rR ds 0) (rI ds 1)).2]),ms:=[some (.rows [.flat 3]),none]}
def nb2:List (Nat×lE):=[(2, {ca:=[(0,.mN),(1,.mN),(5,.mN)],boxes:=[]})]
def nb3:Int→Rows→kM:=(fun r0 r1=>((true,[.int r0]++[.sl r1]):kM))
def nnh (qD i:Int) (zy:Rows):St:= {n:=1099511627795,sl:=[(0,.own 640000),(1,.int .i64 qD),(5,.int .i64 i)],hp:=[(640000,.row 3 [.i] zy false true)],ok:=true,ls:=[],lm:=[]}
theorem va:Cm Tryz.prog 73 sU:=by
 refine OI (A:=nb2) JA Tryz.func73 fun ds (hw:kc ((.sl [.i])::(.i::([]))) ds) aJ=> ?_
 obtain⟨a,ds,rfl,pU,hw⟩:=nH hw
 obtain⟨k,ds,rfl,_,hw⟩:=nj hw
 obtain rfl:=nc hw
 obtain⟨N,hN⟩:=nqU Vm.ke nb3 a k pU aJ
 exact⟨N,eL (fun l_=>SF Vm.ke nb3 l_ a k) (nL3 (Lj Tryz.prog [] nb2 N Tryz.f73 sU [true,false,true,false] []) (nnh) _ N) hN⟩
def sT:Sum:= {ps:=[⟨[.sl [.i]],false⟩,⟨[.i],false⟩],rs:=[⟨[.d7 .i],false⟩],fn:=fun ds=>(Qn rk 1 (rR ds 0) (rI ds 1),[.int (qX (rR ds 0) (rI ds 1))])}
def nbX:List (Nat×lE):=[(2, {ca:=[(0,.mN),(1,.mN),(5,.mN)],boxes:=[]})]
def nbY:Int→kM:=(fun r0=>((true,[.int r0]):kM))
def nm5 (a:Rows) (qD i:Int):St:= {n:=21,sl:=[(0,.sl [.i] a),(1,.int .i64 qD),(5,.int .i64 i)],hp:=[],ok:=true,ls:=[],lm:=[]}
theorem u_:D8 Tryz.prog 85 sT:=by
 refine nO (A:=nbX) JA Tryz.func85 fun ds (hw:kc ((.sl [.i])::(.i::([]))) ds) aJ=> ?_
 obtain⟨a,ds,rfl,pU,hw⟩:=nH hw
 obtain⟨k,ds,rfl,_,hw⟩:=nj hw
 obtain rfl:=nc hw
 obtain⟨N,hN⟩:=nqL Vm.ke nbY a k pU aJ
 exact⟨N,eL (fun l_=>SE Vm.ke nbY l_ a k) (Wp (LQ Tryz.prog [] nbX N Tryz.f85 sT [true,false,true,false] []) (nm5 a) _ N) hN⟩
def QR:Sum:= {ps:=[⟨[.sl [.bool]],false⟩,⟨[.i],false⟩],rs:=[⟨[.d7 .i],false⟩],fn:=fun ds=>(ON 1 (rR ds 0) (rI ds 1),[.int (Rg (rR ds 0) (rI ds 1)).1]++[.sl (Rg (rR ds 0) (rI ds 1)).2]),ms:=[some (.rows [.flat 4]),none]}
def Zj:List (Nat×lE):=[(2, {ca:=[(0,.mN),(1,.mN),(5,.mN)],boxes:=[]})]
def Zk:Int→Rows→kM:=(fun r0 r1=>((true,[.int r0]++[.sl r1]):kM))
def nkS (qD i:Int) (zy:Rows):St:= {n:=1099511627797,sl:=[(0,.own 640000),(1,.int .i64 qD),(5,.int .i64 i)],hp:=[(640000,.row 4 [.bool] zy false true)],ok:=true,ls:=[],lm:=[]}
theorem nng:Cm Tryz.prog 68 QR:=by
 refine OI (A:=Zj) JA Tryz.func68 fun ds (hw:kc ((.sl [.bool])::(.i::([]))) ds) aJ=> ?_
 obtain⟨a,ds,rfl,pU,hw⟩:=nH hw
 obtain⟨k,ds,rfl,_,hw⟩:=nj hw
 obtain rfl:=nc hw
 obtain⟨N,hN⟩:=nnf Vm.ke Zk a k pU aJ
 exact⟨N,eL (fun l_=>QS Vm.ke Zk l_ a k) (nL3 (Lj Tryz.prog [] Zj N Tryz.f68 QR [true,false,true,false] []) (nkS) _ N) hN⟩
def QJ:Sum:= {ps:=[⟨[.sl [.bool]],false⟩,⟨[.i],false⟩],rs:=[⟨[.d7 .i],false⟩],fn:=fun ds=>(Qn O5 1 (rR ds 0) (rI ds 1),[.int (TX (rR ds 0) (rI ds 1))])}
def Y5:List (Nat×lE):=[(2, {ca:=[(0,.mN),(1,.mN),(5,.mN)],boxes:=[]})]
def Y6:Int→kM:=(fun r0=>((true,[.int r0]):kM))
def nkB (a:Rows) (qD i:Int):St:= {n:=23,sl:=[(0,.sl [.bool] a),(1,.int .i64 qD),(5,.int .i64 i)],hp:=[],ok:=true,ls:=[],lm:=[]}
theorem nm4:D8 Tryz.prog 80 QJ:=by
 refine nO (A:=Y5) JA Tryz.func80 fun ds (hw:kc ((.sl [.bool])::(.i::([]))) ds) aJ=> ?_
 obtain⟨a,ds,rfl,pU,hw⟩:=nH hw
 obtain⟨k,ds,rfl,_,hw⟩:=nj hw
 obtain rfl:=nc hw
 obtain⟨N,hN⟩:=nm3 Vm.ke Y6 a k pU aJ
 exact⟨N,eL (fun l_=>QK Vm.ke Y6 l_ a k) (Wp (LQ Tryz.prog [] Y5 N Tryz.f80 QJ [true,false,true,false] []) (nkB a) _ N) hN⟩
def sV:Sum:= {ps:=[⟨[.i],false⟩],rs:=[⟨[.d7 .str],false⟩],fn:=fun ds=>(true,[.str (R4 (rI ds 0))])}
def nb6:List (Nat×lE):=[(4, {ca:=[(0,.mN),(3,.mN)],boxes:=[]})]
def nb7:Bytes→kM:=(fun r0=>((true,[.str r0]):kM))
def nns (qD:Int) (nV:Bytes):St:= {n:=20,sl:=[(0,.int .i64 qD),(3,.str nV)],hp:=[],ok:=true,ls:=[],lm:=[]}
theorem vb:D8 Tryz.prog 169 sV:=by
 refine nO (A:=nb6) JA Tryz.func169 fun ds (hw:kc (.i::([])) ds) _=> ?_
 obtain⟨k,ds,rfl,h_k,hw⟩:=nj hw
 obtain rfl:=nc hw
 obtain⟨N,hN⟩:=nqZ Vm.ke nb7 k h_k
 exact⟨N,eL (fun l_=>SG Vm.ke nb7 l_ k) (Wp (LQ Tryz.prog [] nb6 N Tryz.f169 sV [true,true,true,false,false] []) (nns) _ N) hN⟩
def wV:Sum:= {ps:=[⟨[.sl [.str]],false⟩,⟨[.i],false⟩],rs:=[⟨[.d7 .i],false⟩],fn:=fun ds=>(ON 1 (rR ds 0) (rI ds 1),[.int (ue (rR ds 0) (rI ds 1)).1]++[.sl (ue (rR ds 0) (rI ds 1)).2]),ms:=[some (.rows [.flat 9]),none]}
def Vi:Ctx:=[(169,sV)]
theorem niB:bF Tryz.prog Vi:=Ic vb JA
def Vh:List (Nat×lE):=[(2, {ca:=[(0,.mN),(1,.mN),(5,.mN)],boxes:=[]})]
def Vj:Int→Rows→kM:=(fun r0 r1=>((true,[.int r0]++[.sl r1]):kM))
def ngn (qD i:Int) (zy:Rows):St:= {n:=1099511627796,sl:=[(0,.own 640000),(1,.int .i64 qD),(5,.int .i64 i)],hp:=[(640000,.row 9 [.str] zy false true)],ok:=true,ls:=[],lm:=[]}
theorem Vl:Cm Tryz.prog 72 wV:=by
 refine OI (A:=Vh) niB Tryz.func72 fun ds (hw:kc ((.sl [.str])::(.i::([]))) ds) aJ=> ?_
 obtain⟨a,ds,rfl,pU,hw⟩:=nH hw
 obtain⟨k,ds,rfl,_,hw⟩:=nj hw
 obtain rfl:=nc hw
 obtain⟨N,hN⟩:=niA Vm.ke Vj a k pU aJ
 exact⟨N,eL (fun l_=>Ov Vm.ke Vj l_ a k) (nL3 (Lj Tryz.prog Vi Vh N Tryz.f72 wV [true,false,true,false] []) (ngn) _ N) hN⟩
def wU:Sum:= {ps:=[⟨[.sl [.str]],false⟩,⟨[.i],false⟩],rs:=[⟨[.d7 .i],false⟩],fn:=fun ds=>(Qn rV 1 (rR ds 0) (rI ds 1),[.int (ub (rR ds 0) (rI ds 1))])}
def U7:Ctx:=[(169,sV)]
theorem niq:bF Tryz.prog U7:=Ic vb JA
def U6:List (Nat×lE):=[(2, {ca:=[(0,.mN),(1,.mN),(5,.mN)],boxes:=[]})]
def U8:Int→kM:=(fun r0=>((true,[.int r0]):kM))
def ngb (a:Rows) (qD i:Int):St:= {n:=22,sl:=[(0,.sl [.str] a),(1,.int .i64 qD),(5,.int .i64 i)],hp:=[],ok:=true,ls:=[],lm:=[]}
theorem U_:D8 Tryz.prog 84 wU:=by
 refine nO (A:=U6) niq Tryz.func84 fun ds (hw:kc ((.sl [.str])::(.i::([]))) ds) aJ=> ?_
 obtain⟨a,ds,rfl,pU,hw⟩:=nH hw
 obtain⟨k,ds,rfl,_,hw⟩:=nj hw
 obtain rfl:=nc hw
 obtain⟨N,hN⟩:=nip Vm.ke U8 a k pU aJ
 exact⟨N,eL (fun l_=>Oq Vm.ke U8 l_ a k) (Wp (LQ Tryz.prog U7 U6 N Tryz.f84 wU [true,false,true,false] []) (ngb a) _ N) hN⟩
def QW:Sum:= {ps:=[⟨[.sl [.i,.i,.sl [.i]]],false⟩,⟨[.i],false⟩],rs:=[⟨[.d7 .i],false⟩],fn:=fun ds=>(yd rH Sh (rR ds 0) (rI ds 1),[.int (zg (rR ds 0) (rI ds 1)).1]++[.sl (zg (rR ds 0) (rI ds 1)).2]),ms:=[some (.rows [.deep 207 [3]]),none]}
def Zt:Ctx:=[(1125899906842654,J3),(73,sU)]
theorem nnp:bF Tryz.prog Zt:=Ic Lq (Ic va JA)
def Zs:List (Nat×lE):=[(2, {ca:=[(0,.mN),(1,.mN),(5,.mN)],boxes:=[]})]
def Zu:Int→Rows→kM:=(fun r0 r1=>((true,[.int r0]++[.sl r1]):kM))
def nk3 (qD i:Int) (zy:Rows):St:= {n:=1099511627810,sl:=[(0,.own 640000),(1,.int .i64 qD),(5,.int .i64 i)],hp:=[(640000,.deep 207 [.i,.i,.sl [.i]] [3] zy none)],ok:=true,ls:=[],lm:=[]}
theorem nno:Cm Tryz.prog 168 QW:=by
 refine OI (A:=Zs) nnp Tryz.func168 fun ds (hw:kc ((.sl [.i,.i,.sl [.i]])::(.i::([]))) ds) aJ=> ?_
 obtain⟨a,ds,rfl,pU,hw⟩:=nH hw
 obtain⟨k,ds,rfl,_,hw⟩:=nj hw
 obtain rfl:=nc hw
 obtain⟨N,hN⟩:=nnn Vm.ke Zu a k pU aJ
 exact⟨N,eL (fun l_=>QX Vm.ke Zu l_ a k) (nL3 (Lj Tryz.prog Zt Zs N Tryz.f168 QW [true,false,true,false] []) (nk3) _ N) hN⟩
def QO:Sum:= {ps:=[⟨[.sl [.i,.i,.sl [.i]]],false⟩,⟨[.i],false⟩],rs:=[⟨[.d7 .i],false⟩],fn:=fun ds=>(nfF (rR ds 0) (rI ds 1),[.int (Yx (rR ds 0) (rI ds 1))])}
def Ze:Ctx:=[(85,sT)]
theorem nnc:bF Tryz.prog Ze:=Ic u_ JA
def Zd:List (Nat×lE):=[(2, {ca:=[(0,.mN),(1,.mN),(5,.mN)],boxes:=[]})]
def Zf:Int→kM:=(fun r0=>((true,[.int r0]):kM))
def nkM (a:Rows) (qD i:Int):St:= {n:=40,sl:=[(0,.sl [.i,.i,.sl [.i]] a),(1,.int .i64 qD),(5,.int .i64 i)],hp:=[],ok:=true,ls:=[],lm:=[]}
theorem nnb:D8 Tryz.prog 174 QO:=by
 refine nO (A:=Zd) nnc Tryz.func174 fun ds (hw:kc ((.sl [.i,.i,.sl [.i]])::(.i::([]))) ds) aJ=> ?_
 obtain⟨a,ds,rfl,pU,hw⟩:=nH hw
 obtain⟨k,ds,rfl,_,hw⟩:=nj hw
 obtain rfl:=nc hw
 obtain⟨N,hN⟩:=nna Vm.ke Zf a k pU aJ
 exact⟨N,eL (fun l_=>QP Vm.ke Zf l_ a k) (Wp (LQ Tryz.prog Ze Zd N Tryz.f174 QO [true,false,true,false] []) (nkM a) _ N) hN⟩
def Ow:Sum:= {ps:=[⟨[.sl [.i,.i,.i,.i,.bool,.bool]],false⟩,⟨[.i],false⟩],rs:=[⟨[.d7 .i],false⟩],fn:=fun ds=>(ON 6 (rR ds 0) (rI ds 1),[.int (OM (rR ds 0) (rI ds 1)).1]++[.sl (OM (rR ds 0) (rI ds 1)).2]),ms:=[some (.rows [.flat 186]),none]}
def Vp:List (Nat×lE):=[(2, {ca:=[(0,.mN),(1,.mN),(5,.mN)],boxes:=[]})]
def Vq:Int→Rows→kM:=(fun r0 r1=>((true,[.int r0]++[.sl r1]):kM))
def ngo (qD i:Int) (zy:Rows):St:= {n:=1099511627835,sl:=[(0,.own 640000),(1,.int .i64 qD),(5,.int .i64 i)],hp:=[(640000,.row 186 [.i,.i,.i,.i,.bool,.bool] zy false true)],ok:=true,ls:=[],lm:=[]}
theorem niH:Cm Tryz.prog 67 Ow:=by
 refine OI (A:=Vp) JA Tryz.func67 fun ds (hw:kc ((.sl [.i,.i,.i,.i,.bool,.bool])::(.i::([]))) ds) aJ=> ?_
 obtain⟨a,ds,rfl,pU,hw⟩:=nH hw
 obtain⟨k,ds,rfl,_,hw⟩:=nj hw
 obtain rfl:=nc hw
 obtain⟨N,hN⟩:=niG Vm.ke Vq a k pU aJ
 have e0:(fun qD i zy=>LR (Lj Tryz.prog [] Vp N Tryz.f67 Ow [true,false,true,false] []) N (ngo qD i zy))=(nxH VK Vm.ke Vq N N):=nL3 _ _ _ N
 refine⟨N,Eq.trans ?_ (hN.trans (by kernel_rfl))⟩
 unfold nn8
 rw[←e0]
 kernel_rfl
def Ot:Sum:= {ps:=[⟨[.sl [.i,.i,.i,.i,.bool,.bool]],false⟩,⟨[.i],false⟩],rs:=[⟨[.d7 .i],false⟩],fn:=fun ds=>(Qn O7 6 (rR ds 0) (rI ds 1),[.int (RT (rR ds 0) (rI ds 1))])}
def Vb:List (Nat×lE):=[(2, {ca:=[(0,.mN),(1,.mN),(5,.mN)],boxes:=[]})]
def Vc:Int→kM:=(fun r0=>((true,[.int r0]):kM))
def ngc (a:Rows) (qD i:Int):St:= {n:=71,sl:=[(0,.sl [.i,.i,.i,.i,.bool,.bool] a),(1,.int .i64 qD),(5,.int .i64 i)],hp:=[],ok:=true,ls:=[],lm:=[]}
theorem niw:D8 Tryz.prog 79 Ot:=by
 refine nO (A:=Vb) JA Tryz.func79 fun ds (hw:kc ((.sl [.i,.i,.i,.i,.bool,.bool])::(.i::([]))) ds) aJ=> ?_
 obtain⟨a,ds,rfl,pU,hw⟩:=nH hw
 obtain⟨k,ds,rfl,_,hw⟩:=nj hw
 obtain rfl:=nc hw
 obtain⟨N,hN⟩:=niv Vm.ke Vc a k pU aJ
 have e0:(fun qD i=>LR (LQ Tryz.prog [] Vb N Tryz.f79 Ot [true,false,true,false] []) N (ngc a qD i))=(nwb VK Vm.ke Vc N a N):=Wp _ _ _ N
 refine⟨N,Eq.trans ?_ (hN.trans (by kernel_rfl))⟩
 unfold nmj
 rw[←e0]
 kernel_rfl
def QV:Sum:= {ps:=[⟨[.sl [.i,.i,.i,.i,.i,.i,.i,.i,.i]],false⟩,⟨[.i],false⟩],rs:=[⟨[.d7 .i],false⟩],fn:=fun ds=>(ON 9 (rR ds 0) (rI ds 1),[.int (OK (rR ds 0) (rI ds 1)).1]++[.sl (OK (rR ds 0) (rI ds 1)).2]),ms:=[some (.rows [.flat 260]),none]}
def Zq:List (Nat×lE):=[(2, {ca:=[(0,.mN),(1,.mN),(5,.mN)],boxes:=[]})]
def Zr:Int→Rows→kM:=(fun r0 r1=>((true,[.int r0]++[.sl r1]):kM))
def nk2 (qD i:Int) (zy:Rows):St:= {n:=1099511627852,sl:=[(0,.own 640000),(1,.int .i64 qD),(5,.int .i64 i)],hp:=[(640000,.row 260 [.i,.i,.i,.i,.i,.i,.i,.i,.i] zy false true)],ok:=true,ls:=[],lm:=[]}
theorem nnm:Cm Tryz.prog 170 QV:=by
 refine OI (A:=Zq) JA Tryz.func170 fun ds (hw:kc ((.sl [.i,.i,.i,.i,.i,.i,.i,.i,.i])::(.i::([]))) ds) aJ=> ?_
 obtain⟨a,ds,rfl,pU,hw⟩:=nH hw
 obtain⟨k,ds,rfl,_,hw⟩:=nj hw
 obtain rfl:=nc hw
 obtain⟨N,hN⟩:=nnl Vm.ke Zr a k pU aJ
 have e0:(fun qD i zy=>LR (Lj Tryz.prog [] Zq N Tryz.f170 QV [true,false,true,false] []) N (nk2 qD i zy))=(nxH niZ Vm.ke Zr N N):=nL3 _ _ _ N
 refine⟨N,Eq.trans ?_ (hN.trans (by kernel_rfl))⟩
 unfold nn8
 rw[←e0]
 kernel_rfl
def QN:Sum:= {ps:=[⟨[.sl [.i,.i,.i,.i,.i,.i,.i,.i,.i]],false⟩,⟨[.i],false⟩],rs:=[⟨[.d7 .i],false⟩],fn:=fun ds=>(Qn nap 9 (rR ds 0) (rI ds 1),[.int (QB (rR ds 0) (rI ds 1))])}
def Zb:List (Nat×lE):=[(2, {ca:=[(0,.mN),(1,.mN),(5,.mN)],boxes:=[]})]
def Zc:Int→kM:=(fun r0=>((true,[.int r0]):kM))
def nkL (a:Rows) (qD i:Int):St:= {n:=94,sl:=[(0,.sl [.i,.i,.i,.i,.i,.i,.i,.i,.i] a),(1,.int .i64 qD),(5,.int .i64 i)],hp:=[],ok:=true,ls:=[],lm:=[]}
theorem nm_:D8 Tryz.prog 175 QN:=by
 refine nO (A:=Zb) JA Tryz.func175 fun ds (hw:kc ((.sl [.i,.i,.i,.i,.i,.i,.i,.i,.i])::(.i::([]))) ds) aJ=> ?_
 obtain⟨a,ds,rfl,pU,hw⟩:=nH hw
 obtain⟨k,ds,rfl,_,hw⟩:=nj hw
 obtain rfl:=nc hw
 obtain⟨N,hN⟩:=nm9 Vm.ke Zc a k pU aJ
 have e0:(fun qD i=>LR (LQ Tryz.prog [] Zb N Tryz.f175 QN [true,false,true,false] []) N (nkL a qD i))=(nwb niZ Vm.ke Zc N a N):=Wp _ _ _ N
 refine⟨N,Eq.trans ?_ (hN.trans (by kernel_rfl))⟩
 unfold nmj
 rw[←e0]
 kernel_rfl
def QY:Sum:= {ps:=[⟨[.sl [.i,.i,.i,.i,.i,.i,.i]],false⟩,⟨[.i],false⟩],rs:=[⟨[.d7 .i],false⟩],fn:=fun ds=>(ON 7 (rR ds 0) (rI ds 1),[.int (Rh (rR ds 0) (rI ds 1)).1]++[.sl (Rh (rR ds 0) (rI ds 1)).2]),ms:=[some (.rows [.flat 262]),none]}
def Zw:List (Nat×lE):=[(2, {ca:=[(0,.mN),(1,.mN),(5,.mN)],boxes:=[]})]
def Zx:Int→Rows→kM:=(fun r0 r1=>((true,[.int r0]++[.sl r1]):kM))
def nk4 (qD i:Int) (zy:Rows):St:= {n:=1099511627843,sl:=[(0,.own 640000),(1,.int .i64 qD),(5,.int .i64 i)],hp:=[(640000,.row 262 [.i,.i,.i,.i,.i,.i,.i] zy false true)],ok:=true,ls:=[],lm:=[]}
theorem nnr:Cm Tryz.prog 238 QY:=by
 refine OI (A:=Zw) JA Tryz.func238 fun ds (hw:kc ((.sl [.i,.i,.i,.i,.i,.i,.i])::(.i::([]))) ds) aJ=> ?_
 obtain⟨a,ds,rfl,pU,hw⟩:=nH hw
 obtain⟨k,ds,rfl,_,hw⟩:=nj hw
 obtain rfl:=nc hw
 obtain⟨N,hN⟩:=nnq Vm.ke Zx a k pU aJ
 have e0:(fun qD i zy=>LR (Lj Tryz.prog [] Zw N Tryz.f238 QY [true,false,true,false] []) N (nk4 qD i zy))=(nxH ni0 Vm.ke Zx N N):=nL3 _ _ _ N
 refine⟨N,Eq.trans ?_ (hN.trans (by kernel_rfl))⟩
 unfold nn8
 rw[←e0]
 kernel_rfl
def QQ:Sum:= {ps:=[⟨[.sl [.i,.i,.i,.i,.i,.i,.i]],false⟩,⟨[.i],false⟩],rs:=[⟨[.d7 .i],false⟩],fn:=fun ds=>(Qn naq 7 (rR ds 0) (rI ds 1),[.int (TY (rR ds 0) (rI ds 1))])}
def Zh:List (Nat×lE):=[(2, {ca:=[(0,.mN),(1,.mN),(5,.mN)],boxes:=[]})]
def Zi:Int→kM:=(fun r0=>((true,[.int r0]):kM))
def nkN (a:Rows) (qD i:Int):St:= {n:=81,sl:=[(0,.sl [.i,.i,.i,.i,.i,.i,.i] a),(1,.int .i64 qD),(5,.int .i64 i)],hp:=[],ok:=true,ls:=[],lm:=[]}
theorem nne:D8 Tryz.prog 239 QQ:=by
 refine nO (A:=Zh) JA Tryz.func239 fun ds (hw:kc ((.sl [.i,.i,.i,.i,.i,.i,.i])::(.i::([]))) ds) aJ=> ?_
 obtain⟨a,ds,rfl,pU,hw⟩:=nH hw
 obtain⟨k,ds,rfl,_,hw⟩:=nj hw
 obtain rfl:=nc hw
 obtain⟨N,hN⟩:=nnd Vm.ke Zi a k pU aJ
 have e0:(fun qD i=>LR (LQ Tryz.prog [] Zh N Tryz.f239 QQ [true,false,true,false] []) N (nkN a qD i))=(nwb ni0 Vm.ke Zi N a N):=Wp _ _ _ N
 refine⟨N,Eq.trans ?_ (hN.trans (by kernel_rfl))⟩
 unfold nmj
 rw[←e0]
 kernel_rfl
def zE:Sum:= {ps:=[⟨[.sl [.i,.i,.i,.bool]],false⟩,⟨[.i],false⟩],rs:=[⟨[.d7 .i],false⟩],fn:=fun ds=>(ON 4 (rR ds 0) (rI ds 1),[.int (zd (rR ds 0) (rI ds 1)).1]++[.sl (zd (rR ds 0) (rI ds 1)).2]),ms:=[some (.rows [.flat 209]),none]}
def TA:List (Nat×lE):=[(2, {ca:=[(0,.mN),(1,.mN),(5,.mN)],boxes:=[]})]
def TB:Int→Rows→kM:=(fun r0 r1=>((true,[.int r0]++[.sl r1]):kM))
def nd6 (qD i:Int) (zy:Rows):St:= {n:=1099511627819,sl:=[(0,.own 640000),(1,.int .i64 qD),(5,.int .i64 i)],hp:=[(640000,.row 209 [.i,.i,.i,.bool] zy false true)],ok:=true,ls:=[],lm:=[]}
theorem nge:Cm Tryz.prog 63 zE:=by
 refine OI (A:=TA) JA Tryz.func63 fun ds (hw:kc ((.sl [.i,.i,.i,.bool])::(.i::([]))) ds) aJ=> ?_
 obtain⟨a,ds,rfl,pU,hw⟩:=nH hw
 obtain⟨k,ds,rfl,_,hw⟩:=nj hw
 obtain rfl:=nc hw
 obtain⟨N,hN⟩:=ngd Vm.ke TB a k pU aJ
 have e0:(fun qD i zy=>LR (Lj Tryz.prog [] TA N Tryz.f63 zE [true,false,true,false] []) N (nd6 qD i zy))=(nxH Rj Vm.ke TB N N):=nL3 _ _ _ N
 refine⟨N,Eq.trans ?_ (hN.trans (by kernel_rfl))⟩
 unfold nn8
 rw[←e0]
 kernel_rfl
def zC:Sum:= {ps:=[⟨[.sl [.i,.i,.i,.bool]],false⟩,⟨[.i],false⟩],rs:=[⟨[.d7 .i],false⟩],fn:=fun ds=>(Qn yL 4 (rR ds 0) (rI ds 1),[.int (O_ (rR ds 0) (rI ds 1))])}
def Tp:List (Nat×lE):=[(2, {ca:=[(0,.mN),(1,.mN),(5,.mN)],boxes:=[]})]
def Tq:Int→kM:=(fun r0=>((true,[.int r0]):kM))
def nd0 (a:Rows) (qD i:Int):St:= {n:=51,sl:=[(0,.sl [.i,.i,.i,.bool] a),(1,.int .i64 qD),(5,.int .i64 i)],hp:=[],ok:=true,ls:=[],lm:=[]}
theorem nf3:D8 Tryz.prog 75 zC:=by
 refine nO (A:=Tp) JA Tryz.func75 fun ds (hw:kc ((.sl [.i,.i,.i,.bool])::(.i::([]))) ds) aJ=> ?_
 obtain⟨a,ds,rfl,pU,hw⟩:=nH hw
 obtain⟨k,ds,rfl,_,hw⟩:=nj hw
 obtain rfl:=nc hw
 obtain⟨N,hN⟩:=nf2 Vm.ke Tq a k pU aJ
 have e0:(fun qD i=>LR (LQ Tryz.prog [] Tp N Tryz.f75 zC [true,false,true,false] []) N (nd0 a qD i))=(nwb Rj Vm.ke Tq N a N):=Wp _ _ _ N
 refine⟨N,Eq.trans ?_ (hN.trans (by kernel_rfl))⟩
 unfold nmj
 rw[←e0]
 kernel_rfl
def Ou:Sum:= {ps:=[⟨[.sl [.i,.i,.i,.i,.i,.i,.str,.bool]],false⟩,⟨[.i],false⟩],rs:=[⟨[.d7 .i],false⟩],fn:=fun ds=>(ON 8 (rR ds 0) (rI ds 1),[.int (OL (rR ds 0) (rI ds 1)).1]++[.sl (OL (rR ds 0) (rI ds 1)).2]),ms:=[some (.rows [.flat 223]),none]}
def Vf:Ctx:=[(169,sV)]
theorem niz:bF Tryz.prog Vf:=Ic vb JA
def Ve:List (Nat×lE):=[(2, {ca:=[(0,.mN),(1,.mN),(5,.mN)],boxes:=[]})]
def Vg:Int→Rows→kM:=(fun r0 r1=>((true,[.int r0]++[.sl r1]):kM))
def ngm (qD i:Int) (zy:Rows):St:= {n:=1099511627853,sl:=[(0,.own 640000),(1,.int .i64 qD),(5,.int .i64 i)],hp:=[(640000,.row 223 [.i,.i,.i,.i,.i,.i,.str,.bool] zy false true)],ok:=true,ls:=[],lm:=[]}
theorem niy:Cm Tryz.prog 71 Ou:=by
 refine OI (A:=Ve) niz Tryz.func71 fun ds (hw:kc ((.sl [.i,.i,.i,.i,.i,.i,.str,.bool])::(.i::([]))) ds) aJ=> ?_
 obtain⟨a,ds,rfl,pU,hw⟩:=nH hw
 obtain⟨k,ds,rfl,_,hw⟩:=nj hw
 obtain rfl:=nc hw
 obtain⟨N,hN⟩:=nix Vm.ke Vg a k pU aJ
 have e0:(fun qD i zy=>LR (Lj Tryz.prog Vf Ve N Tryz.f71 Ou [true,false,true,false] []) N (ngm qD i zy))=(nxH VJ Vm.ke Vg N N):=nL3 _ _ _ N
 refine⟨N,Eq.trans ?_ (hN.trans (by kernel_rfl))⟩
 unfold nn8
 rw[←e0]
 kernel_rfl
def Oo:Sum:= {ps:=[⟨[.sl [.i,.i,.i,.i,.i,.i,.str,.bool]],false⟩,⟨[.i],false⟩],rs:=[⟨[.d7 .i],false⟩],fn:=fun ds=>(Qn O6 8 (rR ds 0) (rI ds 1),[.int (RR (rR ds 0) (rI ds 1))])}
def U4:Ctx:=[(169,sV)]
theorem nio:bF Tryz.prog U4:=Ic vb JA
def U3:List (Nat×lE):=[(2, {ca:=[(0,.mN),(1,.mN),(5,.mN)],boxes:=[]})]
def U5:Int→kM:=(fun r0=>((true,[.int r0]):kM))
def nga (a:Rows) (qD i:Int):St:= {n:=93,sl:=[(0,.sl [.i,.i,.i,.i,.i,.i,.str,.bool] a),(1,.int .i64 qD),(5,.int .i64 i)],hp:=[],ok:=true,ls:=[],lm:=[]}
theorem nin:D8 Tryz.prog 83 Oo:=by
 refine nO (A:=U3) nio Tryz.func83 fun ds (hw:kc ((.sl [.i,.i,.i,.i,.i,.i,.str,.bool])::(.i::([]))) ds) aJ=> ?_
 obtain⟨a,ds,rfl,pU,hw⟩:=nH hw
 obtain⟨k,ds,rfl,_,hw⟩:=nj hw
 obtain rfl:=nc hw
 obtain⟨N,hN⟩:=nim Vm.ke U5 a k pU aJ
 have e0:(fun qD i=>LR (LQ Tryz.prog U4 U3 N Tryz.f83 Oo [true,false,true,false] []) N (nga a qD i))=(nwb VJ Vm.ke U5 N a N):=Wp _ _ _ N
 refine⟨N,Eq.trans ?_ (hN.trans (by kernel_rfl))⟩
 unfold nmj
 rw[←e0]
 kernel_rfl
def zF:Sum:= {ps:=[⟨[.sl [.i,.i,.i,.i,.i,.i,.i,.i,.i,.i,.i,.i,.i,.i,.i,.i,.i,.i,.i,.i,.i,.i,.i,.i,.i,.str,.i,.i,.bool,.i]],false⟩,⟨[.i],false⟩],rs:=[⟨[.d7 .i],false⟩],fn:=fun ds=>(ON 30 (rR ds 0) (rI ds 1),[.int (zf (rR ds 0) (rI ds 1)).1]++[.sl (zf (rR ds 0) (rI ds 1)).2]),ms:=[some (.rows [.flat 182]),none]}
def TE:Ctx:=[(169,sV)]
theorem ngh:bF Tryz.prog TE:=Ic vb JA
def TD:List (Nat×lE):=[(2, {ca:=[(0,.mN),(1,.mN),(5,.mN)],boxes:=[]})]
def TF:Int→Rows→kM:=(fun r0 r1=>((true,[.int r0]++[.sl r1]):kM))
def nd7 (qD i:Int) (zy:Rows):St:= {n:=1099511628054,sl:=[(0,.own 640000),(1,.int .i64 qD),(5,.int .i64 i)],hp:=[(640000,.row 182 [.i,.i,.i,.i,.i,.i,.i,.i,.i,.i,.i,.i,.i,.i,.i,.i,.i,.i,.i,.i,.i,.i,.i,.i,.i,.str,.i,.i,.bool,.i] zy false true)],ok:=true,ls:=[],lm:=[]}
theorem ngg:Cm Tryz.prog 65 zF:=by
 refine OI (A:=TD) ngh Tryz.func65 fun ds (hw:kc ((.sl [.i,.i,.i,.i,.i,.i,.i,.i,.i,.i,.i,.i,.i,.i,.i,.i,.i,.i,.i,.i,.i,.i,.i,.i,.i,.str,.i,.i,.bool,.i])::(.i::([]))) ds) aJ=> ?_
 obtain⟨a,ds,rfl,pU,hw⟩:=nH hw
 obtain⟨k,ds,rfl,_,hw⟩:=nj hw
 obtain rfl:=nc hw
 obtain⟨N,hN⟩:=ngf Vm.ke TF a k pU aJ
 have e0:(fun qD i zy=>LR (Lj Tryz.prog TE TD N Tryz.f65 zF [true,false,true,false] []) N (nd7 qD i zy))=(nxH Rk Vm.ke TF N N):=nL3 _ _ _ N
 refine⟨N,Eq.trans ?_ (hN.trans (by kernel_rfl))⟩
 unfold nn8
 rw[←e0]
 kernel_rfl
def zD:Sum:= {ps:=[⟨[.sl [.i,.i,.i,.i,.i,.i,.i,.i,.i,.i,.i,.i,.i,.i,.i,.i,.i,.i,.i,.i,.i,.i,.i,.i,.i,.str,.i,.i,.bool,.i]],false⟩,⟨[.i],false⟩],rs:=[⟨[.d7 .i],false⟩],fn:=fun ds=>(Qn yM 30 (rR ds 0) (rI ds 1),[.int (Pa (rR ds 0) (rI ds 1))])}
def Tu:Ctx:=[(169,sV)]
theorem nf6:bF Tryz.prog Tu:=Ic vb JA
def Tt:List (Nat×lE):=[(2, {ca:=[(0,.mN),(1,.mN),(5,.mN)],boxes:=[]})]
def Tv:Int→kM:=(fun r0=>((true,[.int r0]):kM))
def nd1 (a:Rows) (qD i:Int):St:= {n:=338,sl:=[(0,.sl [.i,.i,.i,.i,.i,.i,.i,.i,.i,.i,.i,.i,.i,.i,.i,.i,.i,.i,.i,.i,.i,.i,.i,.i,.i,.str,.i,.i,.bool,.i] a),(1,.int .i64 qD),(5,.int .i64 i)],hp:=[],ok:=true,ls:=[],lm:=[]}
theorem nf5:D8 Tryz.prog 77 zD:=by
 refine nO (A:=Tt) nf6 Tryz.func77 fun ds (hw:kc ((.sl [.i,.i,.i,.i,.i,.i,.i,.i,.i,.i,.i,.i,.i,.i,.i,.i,.i,.i,.i,.i,.i,.i,.i,.i,.i,.str,.i,.i,.bool,.i])::(.i::([]))) ds) aJ=> ?_
 obtain⟨a,ds,rfl,pU,hw⟩:=nH hw
 obtain⟨k,ds,rfl,_,hw⟩:=nj hw
 obtain rfl:=nc hw
 obtain⟨N,hN⟩:=nf4 Vm.ke Tv a k pU aJ
 have e0:(fun qD i=>LR (LQ Tryz.prog Tu Tt N Tryz.f77 zD [true,false,true,false] []) N (nd1 a qD i))=(nwb Rk Vm.ke Tv N a N):=Wp _ _ _ N
 refine⟨N,Eq.trans ?_ (hN.trans (by kernel_rfl))⟩
 unfold nmj
 rw[←e0]
 kernel_rfl
def QT:Sum:= {ps:=[⟨[.sl [.i,.i,.i,.sl [.i]]],false⟩,⟨[.i],false⟩],rs:=[⟨[.d7 .i],false⟩],fn:=fun ds=>(yd rG Sg (rR ds 0) (rI ds 1),[.int (ze (rR ds 0) (rI ds 1)).1]++[.sl (ze (rR ds 0) (rI ds 1)).2]),ms:=[some (.rows [.deep 62 [3]]),none]}
def Zn:Ctx:=[(1125899906842661,J3),(73,sU)]
theorem nnk:bF Tryz.prog Zn:=Ic Lq (Ic va JA)
def Zm:List (Nat×lE):=[(2, {ca:=[(0,.mN),(1,.mN),(5,.mN)],boxes:=[]})]
def Zo:Int→Rows→kM:=(fun r0 r1=>((true,[.int r0]++[.sl r1]):kM))
def nk1 (qD i:Int) (zy:Rows):St:= {n:=1099511627817,sl:=[(0,.own 640000),(1,.int .i64 qD),(5,.int .i64 i)],hp:=[(640000,.deep 62 [.i,.i,.i,.sl [.i]] [3] zy none)],ok:=true,ls:=[],lm:=[]}
theorem nnj:Cm Tryz.prog 66 QT:=by
 refine OI (A:=Zm) nnk Tryz.func66 fun ds (hw:kc ((.sl [.i,.i,.i,.sl [.i]])::(.i::([]))) ds) aJ=> ?_
 obtain⟨a,ds,rfl,pU,hw⟩:=nH hw
 obtain⟨k,ds,rfl,_,hw⟩:=nj hw
 obtain rfl:=nc hw
 obtain⟨N,hN⟩:=nni Vm.ke Zo a k pU aJ
 exact⟨N,eL (fun l_=>QU Vm.ke Zo l_ a k) (nL3 (Lj Tryz.prog Zn Zm N Tryz.f66 QT [true,false,true,false] []) (nk1) _ N) hN⟩
def QL:Sum:= {ps:=[⟨[.sl [.i,.i,.i,.sl [.i]]],false⟩,⟨[.i],false⟩],rs:=[⟨[.d7 .i],false⟩],fn:=fun ds=>(nfE (rR ds 0) (rI ds 1),[.int (Yw (rR ds 0) (rI ds 1))])}
def Y9:Ctx:=[(85,sT)]
theorem nm8:bF Tryz.prog Y9:=Ic u_ JA
def Y8:List (Nat×lE):=[(2, {ca:=[(0,.mN),(1,.mN),(5,.mN)],boxes:=[]})]
def Y_:Int→kM:=(fun r0=>((true,[.int r0]):kM))
def nkK (a:Rows) (qD i:Int):St:= {n:=49,sl:=[(0,.sl [.i,.i,.i,.sl [.i]] a),(1,.int .i64 qD),(5,.int .i64 i)],hp:=[],ok:=true,ls:=[],lm:=[]}
theorem nm7:D8 Tryz.prog 78 QL:=by
 refine nO (A:=Y8) nm8 Tryz.func78 fun ds (hw:kc ((.sl [.i,.i,.i,.sl [.i]])::(.i::([]))) ds) aJ=> ?_
 obtain⟨a,ds,rfl,pU,hw⟩:=nH hw
 obtain⟨k,ds,rfl,_,hw⟩:=nj hw
 obtain rfl:=nc hw
 obtain⟨N,hN⟩:=nm6 Vm.ke Y_ a k pU aJ
 exact⟨N,eL (fun l_=>QM Vm.ke Y_ l_ a k) (Wp (LQ Tryz.prog Y9 Y8 N Tryz.f78 QL [true,false,true,false] []) (nkK a) _ N) hN⟩
def oy:Sum:= {ps:=[⟨[.i],false⟩,⟨[.i],false⟩,⟨[.i],false⟩],rs:=[⟨[.d7 .bool],false⟩],fn:=fun ds=>(true,[.bool (nf (rI ds 0) (rI ds 1) (rI ds 2))])}
theorem oC:D8 Tryz.prog 143 oy:=by
 refine nO (A:=[]) JA Tryz.func143 fun ds (hw:kc (.i::(.i::(.i::([])))) ds) _=> ?_
 obtain⟨n,ds,rfl,_,hw⟩:=nj hw
 obtain⟨low,ds,rfl,_,hw⟩:=nj hw
 obtain⟨high,ds,rfl,_,hw⟩:=nj hw
 obtain rfl:=nc hw
 exact⟨0,eT (ntM (fun r0=>((true,[.bool r0]):kM)) n low high)⟩
abbrev oP:Sum:=oy
theorem oW:D8 Tryz.prog 106 oP:=by
 refine nO (A:=[]) JA Tryz.func106 fun ds (hw:kc (.i::(.i::(.i::([])))) ds) _=> ?_
 obtain⟨x,ds,rfl,_,hw⟩:=nj hw
 obtain⟨least,ds,rfl,_,hw⟩:=nj hw
 obtain⟨most,ds,rfl,_,hw⟩:=nj hw
 obtain rfl:=nc hw
 exact⟨0,eT (nzg (fun r0=>((true,[.bool r0]):kM)) x least most)⟩
def Np:Sum:= {ps:=[⟨nC.ct,true⟩],rs:=[⟨[.d7 .bool],false⟩],fn:=fun ds=>(true,[.bool (vg (nC.nd ds 0))])}
def na9:Ctx:=[(143,oy)]
theorem npl:bF Tryz.prog na9:=Ic oC JA
def na8:List (Nat×lE):=[(2, {ca:=[(1,.mN),(6,.mN),(7,.mN),(8,.mN)],boxes:=[(64,[])]})]
def Sj:Bool→kM:=(fun r0=>((true,[.bool r0]):kM))
def nmk (x:Rows) (nX oc wG:Int) (Rw:Bool) (uU:Rows):St:= {n:=40,sl:=[(1,.ptr 64 0),(6,.sl [.i] x),(7,.int .i64 nX),(8,.int .i64 oc)],hp:=[(64,.box 69 [.int .i64 wG,.bool Rw,.sl [.i] uU])],ok:=true,ls:=[],lm:=[]}
theorem npk:D8 Tryz.prog 142 Np:=by
 refine nO (A:=na8) npl Tryz.func142 fun ds (hw:kc (nC.ct++([])) ds) _=> ?_
 obtain⟨f,ds,rfl,h_f,hw⟩:=nC.nA (r:=_) hw
 obtain rfl:=nc hw
 obtain⟨N,hN⟩:=npj Vm.ke Sj f h_f
 exact⟨N,Eq.trans (b:=Nq Vm.ke Sj (fun x nX wG uU oc=>LR (LQ Tryz.prog na9 na8 N Tryz.f142 Np [true,false,true,false] []) N (nmk x nX oc wG f.pS uU)) f) (by kernel_rfl) (Eq.trans (congrArg (fun l_=>Nq Vm.ke Sj l_ f) (by funext x nX wG uU;exact nL1 _ _ _ N)) (hN.trans (by kernel_rfl)))⟩
abbrev SW:Sum:=Np
def ncu:Ctx:=[(106,oP)]
theorem nr1:bF Tryz.prog ncu:=Ic oW JA
def nct:List (Nat×lE):=[(2, {ca:=[(1,.mN),(3,.mN)],boxes:=[(64,[])]})]
def SU:Bool→kM:=(fun r0=>((true,[.bool r0]):kM))
def nof (k wG:Int) (Rw:Bool) (uU:Rows):St:= {n:=45,sl:=[(1,.ptr 64 0),(3,.int .i64 k)],hp:=[(64,.box 69 [.int .i64 wG,.bool Rw,.sl [.i] uU])],ok:=true,ls:=[],lm:=[]}
theorem nr0:D8 Tryz.prog 105 SW:=by
 refine nO (A:=nct) nr1 Tryz.func105 fun ds (hw:kc (nC.ct++([])) ds) _=> ?_
 obtain⟨f,ds,rfl,h_f,hw⟩:=nC.nA (r:=_) hw
 obtain rfl:=nc hw
 obtain⟨N,hN⟩:=nrZ Vm.ke SU f h_f
 exact⟨N,Eq.trans (b:=N3 Vm.ke SU (fun wG uU k=>LR (LQ Tryz.prog ncu nct N Tryz.f105 SW [true,false,true,false] []) N (nof k wG f.pS uU)) f) (by kernel_rfl) (Eq.trans (congrArg (fun l_=>N3 Vm.ke SU l_ f) (by funext wG uU;exact nL1 _ _ _ N)) (hN.trans (by kernel_rfl)))⟩
def yU:Sum:= {ps:=[⟨nD.ct,true⟩],rs:=[⟨[.d7 .bool],false⟩],fn:=fun ds=>(true,[.bool (sO (nD.nd ds 0))])}
def nms:Ctx:=[(143,oy)]
theorem nmu:bF Tryz.prog nms:=Ic oC JA
theorem YC:D8 Tryz.prog 219 yU:=by
 refine nO (A:=[]) nmu Tryz.func219 fun ds (hw:kc (nD.ct++([])) ds) _=> ?_
 obtain⟨g,ds,rfl,_,hw⟩:=nD.nA (r:=_) hw
 obtain rfl:=nc hw
 exact⟨0,eT (nmt (fun r0=>((true,[.bool r0]):kM)) g)⟩
abbrev Rq:Sum:=yU
def nom:Ctx:=[(106,oP)]
theorem nop:bF Tryz.prog nom:=Ic oW JA
theorem Z8:D8 Tryz.prog 256 Rq:=by
 refine nO (A:=[]) nop Tryz.func256 fun ds (hw:kc (nD.ct++([])) ds) _=> ?_
 obtain⟨g,ds,rfl,_,hw⟩:=nD.nA (r:=_) hw
 obtain rfl:=nc hw
 exact⟨0,eT (noo (fun r0=>((true,[.bool r0]):kM)) g)⟩
def YH:Sum:= {ps:=[⟨[.i],false⟩],rs:=[⟨[.d7 .bool],false⟩],fn:=fun ds=>(true,[.bool (T3 (rI ds 0))])}
theorem nmD:D8 Tryz.prog 220 YH:=by
 refine nO (A:=[]) JA Tryz.func220 fun ds (hw:kc (.i::([])) ds) _=> ?_
 obtain⟨flags,ds,rfl,_,hw⟩:=nj hw
 obtain rfl:=nc hw
 exact⟨0,eT (nmC (fun r0=>((true,[.bool r0]):kM)) flags)⟩
def yx:Sum:= {ps:=[⟨nx.ct,true⟩],rs:=[⟨[.d7 .bool],false⟩],fn:=fun ds=>(true,[.bool (sY (nx.nd ds 0))])}
def ntF:Ctx:=[(143,oy),(219,yU),(220,YH)]
theorem ntH:bF Tryz.prog ntF:=Ic oC (Ic YC (Ic nmD JA))
theorem Ux:D8 Tryz.prog 148 yx:=by
 refine nO (A:=[]) ntH Tryz.func148 fun ds (hw:kc (nx.ct++([])) ds) _=> ?_
 obtain⟨p,ds,rfl,_,hw⟩:=nx.nA (r:=_) hw
 obtain rfl:=nc hw
 exact⟨0,eT (ntG (fun r0=>((true,[.bool r0]):kM)) p)⟩
abbrev VZ:Sum:=yx
def nvr:Ctx:=[(106,oP),(256,Rq)]
theorem nvt:bF Tryz.prog nvr:=Ic oW (Ic Z8 JA)
theorem neU:D8 Tryz.prog 192 VZ:=by
 refine nO (A:=[]) nvt Tryz.func192 fun ds (hw:kc (nx.ct++([])) ds) _=> ?_
 obtain⟨p,ds,rfl,_,hw⟩:=nx.nA (r:=_) hw
 obtain rfl:=nc hw
 exact⟨0,eT (nvs (fun r0=>((true,[.bool r0]):kM)) p)⟩
def wT:Sum:= {ps:=[⟨[.sl [.i,.i,.i,.bool]],false⟩,⟨[.i],false⟩,⟨[.i],false⟩],rs:=[⟨[.d7 .i],false⟩],fn:=fun ds=>(true,[.int (rZ (rR ds 0) (rI ds 1) (rI ds 2))])}
def UP:List (Nat×lE):=[(2, {ca:=[(1,.mN),(2,.mN),(9,.mN),(10,.mN),(11,.mN)],boxes:=[]})]
def UQ:Int→kM:=(fun r0=>((true,[.int r0]):kM))
def nfZ (domain oV:Int) (list_:Rows) (nX oc:Int):St:= {n:=28,sl:=[(1,.int .i64 domain),(2,.int .i64 oV),(9,.sl [.i,.i,.i,.bool] list_),(10,.int .i64 nX),(11,.int .i64 oc)],hp:=[],ok:=true,ls:=[],lm:=[]}
theorem US:D8 Tryz.prog 212 wT:=by
 refine nO (A:=UP) JA Tryz.func212 fun ds (hw:kc ((.sl [.i,.i,.i,.bool])::(.i::(.i::([])))) ds) _=> ?_
 obtain⟨list_,ds,rfl,pE,hw⟩:=nH hw
 obtain⟨domain,ds,rfl,_,hw⟩:=nj hw
 obtain⟨oV,ds,rfl,_,hw⟩:=nj hw
 obtain rfl:=nc hw
 obtain⟨N,hN⟩:=nic Vm.ke UQ list_ domain oV pE
 exact⟨N,eL (fun l_=>On Vm.ke UQ l_ list_ domain oV) (funext fun nX=>nL1 (LQ Tryz.prog [] UP N Tryz.f212 wT [true,false,true,false] []) (nfZ domain oV list_ nX) _ N) hN⟩
def vj:Sum:= {ps:=[⟨[.sl [.i,.i,.i,.bool]],false⟩],rs:=[⟨[.d7 .bool],false⟩],fn:=fun ds=>(true,[.bool (oQ (rR ds 0))])}
def Ww:Ctx:=[(143,oy),(212,wT)]
theorem njW:bF Tryz.prog Ww:=Ic oC (Ic US JA)
def Wv:List (Nat×lE):=[(2, {ca:=[(0,.mN),(5,.mN),(6,.mN),(7,.mN)],boxes:=[]})]
def Pk:Bool→kM:=(fun r0=>((true,[.bool r0]):kM))
def nhE (list_ x:Rows) (nX oc:Int):St:= {n:=42,sl:=[(0,.sl [.i,.i,.i,.bool] list_),(5,.sl [.i,.i,.i,.bool] x),(6,.int .i64 nX),(7,.int .i64 oc)],hp:=[],ok:=true,ls:=[],lm:=[]}
theorem Wy:D8 Tryz.prog 140 vj:=by
 refine nO (A:=Wv) njW Tryz.func140 fun ds (hw:kc ((.sl [.i,.i,.i,.bool])::([])) ds) _=> ?_
 obtain⟨list_,ds,rfl,pE,hw⟩:=nH hw
 obtain rfl:=nc hw
 obtain⟨N,hN⟩:=njV Vm.ke Pk list_ pE
 exact⟨N,Eq.trans (b:=xH Vm.ke Pk (fun x nX oc=>LR (LQ Tryz.prog Ww Wv N Tryz.f140 vj [true,false,true,false] []) N (nhE list_ x nX oc)) list_) (by kernel_rfl) (Eq.trans (congrArg (fun l_=>xH Vm.ke Pk l_ list_) (by funext x nX;exact nL1 _ _ _ N)) (hN.trans (by kernel_rfl)))⟩
abbrev vy:Sum:=vj
def PZ:Ctx:=[(106,oP)]
theorem nlS:bF Tryz.prog PZ:=Ic oW JA
def PY:List (Nat×lE):=[(4, {ca:=[(0,.mN),(3,.mN)],boxes:=[]}),(10, {ca:=[(0,.mN),(3,.mN),(4,.mN),(5,.mN)],boxes:=[(256,[])]})]
def vx:Bool→kM:=(fun r0=>((true,[.bool r0]):kM))
def uH (list_:Rows) (k:Int):St:= {n:=58,sl:=[(0,.sl [.i,.i,.i,.bool] list_),(3,.int .i64 k)],hp:=[],ok:=true,ls:=[],lm:=[]}
def w7 (list_:Rows) (k i x nX oc:Int) (OP:Bool):St:= {n:=58,sl:=[(0,.sl [.i,.i,.i,.bool] list_),(3,.int .i64 k),(4,.ptr 256 0),(5,.int .i64 i)],hp:=[(256,.box 209 [.int .i64 x,.int .i64 nX,.int .i64 oc,.bool OP])],ok:=true,ls:=[],lm:=[]}
noncomputable def w6 (N:Nat) (o0:St→kM):(St→kM)→St→kM:=LQ Tryz.prog PZ PY N Tryz.f103 vy [true,true,false,true,false,false,true,false,false,true,true,true,false] [o0]
noncomputable def w5 (N:Nat):(St→kM)→St→kM:=LQ Tryz.prog PZ PY N Tryz.f103 vy [true,true,false,true,false] []
theorem ni9 (N:Nat) (o0:St→kM) (list_:Rows) (k x nX oc:Int) (OP:Bool) (ih:St→kM) (i:Int):w6 N o0 ih (w7 list_ k i x nX oc OP)=uG Vm.ke vx (fun k=>o0 (uH list_ k)) list_ k x nX (fun i=>ih (w7 list_ k i x nX oc OP)) i:=by kernel_rfl
theorem nja (N:Nat) (o0:St→kM) (list_:Rows) (k x nX oc:Int) (OP:Bool) (m_:Nat):(fun i=>LR (w6 N o0) m_ (w7 list_ k i x nX oc OP))=qT Vm.ke vx N (fun k=>o0 (uH list_ k)) list_ k x nX m_:=by
 induction m_ with
 | zero=>rfl
 | succ m_ ih=>
  funext i
  refine (ni9 N o0 list_ k x nX oc OP (LR (w6 N o0) m_) i).trans ?_
  rw[ih]
  rfl
theorem ni8 (N:Nat) (list_:Rows) (ih:St→kM) (k:Int):w5 N ih (uH list_ k)=uF Vm.ke vx (fun k x nX i=>LR (w6 N ih) N (w7 list_ k i x nX (rI (nth list_ (Int.toNat k)) 2) (rB (nth list_ (Int.toNat k)) 3))) list_ (fun k=>ih (uH list_ k)) k:=by kernel_rfl
theorem ni_ (N:Nat) (list_:Rows) (m_:Nat):(fun k=>LR (w5 N) m_ (uH list_ k))=th Vm.ke vx N list_ m_:=by
 induction m_ with
 | zero=>rfl
 | succ m_ ih=>
  funext k
  refine (ni8 N list_ (LR (w5 N) m_) k).trans ?_
  have e1:=funext fun k=>funext fun x=>funext fun nX=>nja N (LR (w5 N) m_) list_ k x nX (rI (nth list_ (Int.toNat k)) 2) (rB (nth list_ (Int.toNat k)) 3) N
  rw[e1]
  rw[ih]
  rfl
theorem XF:D8 Tryz.prog 103 vy:=by
 refine nO (A:=PY) nlS Tryz.func103 fun ds (hw:kc ((.sl [.i,.i,.i,.bool])::([])) ds) _=> ?_
 obtain⟨list_,ds,rfl,pE,hw⟩:=nH hw
 obtain rfl:=nc hw
 obtain⟨N,hN⟩:=nlR Vm.ke vx list_ pE
 refine⟨N,Eq.trans ?_ (hN.trans (by kernel_rfl))⟩
 unfold P_
 rw[←ni_ N list_ N]
 kernel_rfl
def Ok:Sum:= {ps:=[⟨[.sl [.str]],false⟩],rs:=[⟨[.own 9 [.str]],false⟩],fn:=fun ds=>(sm (rR ds 0),[.sl (oE (rR ds 0))])}
theorem UK:D8 Tryz.prog 137 Ok:=by
 refine nO (A:=[]) JA Tryz.func137 fun ds (hw:kc ((.sl [.str])::([])) ds) aJ=> ?_
 obtain⟨l,ds,rfl,_,hw⟩:=nH hw
 obtain rfl:=nc hw
 exact⟨0,eT (nh8 Vm.ke (fun r0=>((true,[.sl r0]):kM)) l aJ)⟩
def sH:Sum:= {ps:=[⟨na.ct,true⟩],rs:=[⟨[.own 9 [.str]],true⟩],fn:=fun ds=>(sd (na.nd ds 0),na.enc (oE (na.nd ds 0)))}
def nka:Ctx:=[(137,Ok)]
theorem nkc:bF Tryz.prog nka:=Ic UK JA
theorem tE:D8 Tryz.prog 130 sH:=by
 refine nO (A:=[]) nkc Tryz.func130 fun ds (hw:kc (na.ct++([])) ds) aJ=> ?_
 obtain⟨m,ds,rfl,_,hw⟩:=na.nA (r:=_) hw
 obtain rfl:=nc hw
 exact⟨0,eT (nkb Vm.ke (fun r0=>((true,na.enc r0):kM)) m aJ)⟩
def uY:Sum:= {ps:=[⟨na.ct,true⟩],rs:=[⟨[.d7 .bool],false⟩],fn:=fun ds=>(true,[.bool (pF (na.nd ds 0))])}
def nbg:List (Nat×lE):=[(2, {ca:=[(1,.mN),(6,.mN),(7,.mN),(8,.mN)],boxes:=[(64,[])]})]
def Sm:Bool→kM:=(fun r0=>((true,[.bool r0]):kM))
def nmq (x:Rows) (nX oc:Int) (qH:Rows):St:= {n:=20,sl:=[(1,.ptr 64 0),(6,.sl [.str] x),(7,.int .i64 nX),(8,.int .i64 oc)],hp:=[(64,.box 59 [.sl [.str] qH])],ok:=true,ls:=[],lm:=[]}
theorem Sn:D8 Tryz.prog 139 uY:=by
 refine nO (A:=nbg) JA Tryz.func139 fun ds (hw:kc (na.ct++([])) ds) _=> ?_
 obtain⟨m,ds,rfl,h_m,hw⟩:=na.nA (r:=_) hw
 obtain rfl:=nc hw
 obtain⟨N,hN⟩:=npx Vm.ke Sm m h_m
 exact⟨N,Eq.trans (b:=Nt Vm.ke Sm (fun x nX qH oc=>LR (LQ Tryz.prog [] nbg N Tryz.f139 uY [true,false,true,false] []) N (nmq x nX oc qH)) m) (by kernel_rfl) (Eq.trans (congrArg (fun l_=>Nt Vm.ke Sm l_ m) (by funext x nX qH;exact nL1 _ _ _ N)) (hN.trans (by kernel_rfl)))⟩
abbrev xw:Sum:=uY
def ncD:List (Nat×lE):=[(2, {ca:=[(1,.mN),(3,.mN)],boxes:=[(64,[])]})]
def ncE:Bool→kM:=(fun r0=>((true,[.bool r0]):kM))
def nok (k:Int) (qH:Rows):St:= {n:=22,sl:=[(1,.ptr 64 0),(3,.int .i64 k)],hp:=[(64,.box 59 [.sl [.str] qH])],ok:=true,ls:=[],lm:=[]}
theorem SZ:D8 Tryz.prog 102 xw:=by
 refine nO (A:=ncD) JA Tryz.func102 fun ds (hw:kc (na.ct++([])) ds) _=> ?_
 obtain⟨m,ds,rfl,h_m,hw⟩:=na.nA (r:=_) hw
 obtain rfl:=nc hw
 obtain⟨N,hN⟩:=nsb Vm.ke ncE m h_m
 exact⟨N,eL (fun l_=>S0 Vm.ke ncE l_ m) (funext fun qH=>nL1 (LQ Tryz.prog [] ncD N Tryz.f102 xw [true,false,true,false] []) (fun k=>nok k qH) _ N) hN⟩
def xm:Sum:= {ps:=[⟨[.i],false⟩],rs:=[⟨[.d7 .bool],false⟩],fn:=fun ds=>(true,[.bool (tY (rI ds 0))])}
theorem SA:D8 Tryz.prog 267 xm:=by
 refine nO (A:=[]) JA Tryz.func267 fun ds (hw:kc (.i::([])) ds) _=> ?_
 obtain⟨n,ds,rfl,_,hw⟩:=nj hw
 obtain rfl:=nc hw
 exact⟨0,eT (nqe (fun r0=>((true,[.bool r0]):kM)) n)⟩
abbrev Qf:Sum:=xm
theorem Wf:D8 Tryz.prog 252 Qf:=by
 refine nO (A:=[]) JA Tryz.func252 fun ds (hw:kc (.i::([])) ds) _=> ?_
 obtain⟨n,ds,rfl,_,hw⟩:=nj hw
 obtain rfl:=nc hw
 exact⟨0,eT (nvO (fun r0=>((true,[.bool r0]):kM)) n)⟩
def QE:Sum:= {ps:=[⟨[.i],false⟩],rs:=[⟨[.d7 .bool],false⟩],fn:=fun ds=>(true,[.bool (T4 (rI ds 0))])}
theorem nmJ:D8 Tryz.prog 271 QE:=by
 refine nO (A:=[]) JA Tryz.func271 fun ds (hw:kc (.i::([])) ds) _=> ?_
 obtain⟨n,ds,rfl,_,hw⟩:=nj hw
 obtain rfl:=nc hw
 exact⟨0,eT (nmI (fun r0=>((true,[.bool r0]):kM)) n)⟩
abbrev ne5:Sum:=QE
theorem nvA:D8 Tryz.prog 255 ne5:=by
 refine nO (A:=[]) JA Tryz.func255 fun ds (hw:kc (.i::([])) ds) _=> ?_
 obtain⟨n,ds,rfl,_,hw⟩:=nj hw
 obtain rfl:=nc hw
 exact⟨0,eT (nvz (fun r0=>((true,[.bool r0]):kM)) n)⟩
def X2:Sum:= {ps:=[⟨[.i],false⟩,⟨[.i],false⟩],rs:=[⟨[.d7 .i],false⟩],fn:=fun ds=>(OO (rI ds 0) (rI ds 1),[.int (naJ (rI ds 0) (rI ds 1))])}
theorem ngG:D8 Tryz.prog 278 X2:=by
 refine nO (A:=[]) JA Tryz.func278 fun ds (hw:kc (.i::(.i::([]))) ds) aJ=> ?_
 obtain⟨x,ds,rfl,_,hw⟩:=nj hw
 obtain⟨n,ds,rfl,_,hw⟩:=nj hw
 obtain rfl:=nc hw
 exact⟨0,eT (nwB Vm.ke (fun r0=>((true,[.int r0]):kM)) x n aJ)⟩
def Ny:Sum:= {ps:=[⟨nB.ct,true⟩],rs:=[⟨[.d7 .i],false⟩],fn:=fun ds=>(true,[.int (OU (nB.nd ds 0))])}
def npF:Ctx:=[(267,xm),(278,X2)]
theorem npH:bF Tryz.prog npF:=Ic SA (Ic ngG JA)
theorem nbn:D8 Tryz.prog 225 Ny:=by
 refine nO (A:=[]) npH Tryz.func225 fun ds (hw:kc (nB.ct++([])) ds) _=> ?_
 obtain⟨r,ds,rfl,h_r,hw⟩:=nB.nA (r:=_) hw
 obtain rfl:=nc hw
 exact⟨0,eT (npG Vm.ke (fun r0=>((true,[.int r0]):kM)) r h_r)⟩
abbrev S4:Sum:=Ny
def nsm:Ctx:=[(252,Qf)]
theorem nso:bF Tryz.prog nsm:=Ic Wf JA
theorem ncM:D8 Tryz.prog 198 S4:=by
 refine nO (A:=[]) nso Tryz.func198 fun ds (hw:kc (nB.ct++([])) ds) _=> ?_
 obtain⟨r,ds,rfl,_,hw⟩:=nB.nA (r:=_) hw
 obtain rfl:=nc hw
 exact⟨0,eT (nsn (fun r0=>((true,[.int r0]):kM)) r)⟩
def xz:Sum:= {ps:=[⟨nB.ct,true⟩],rs:=[⟨[.d7 .bool],false⟩],fn:=fun ds=>(true,[.bool (tx (nB.nd ds 0))])}
def nwl:Ctx:=[(143,oy),(225,Ny),(267,xm)]
theorem nwn:bF Tryz.prog nwl:=Ic oC (Ic nbn (Ic SA JA))
theorem RE:D8 Tryz.prog 213 xz:=by
 refine nO (A:=[]) nwn Tryz.func213 fun ds (hw:kc (nB.ct++([])) ds) _=> ?_
 obtain⟨r,ds,rfl,_,hw⟩:=nB.nA (r:=_) hw
 obtain rfl:=nc hw
 exact⟨0,eT (nwm (fun r0=>((true,[.bool r0]):kM)) r)⟩
abbrev Nl:Sum:=xz
def nxT:Ctx:=[(106,oP),(198,S4),(252,Qf)]
theorem nxW:bF Tryz.prog nxT:=Ic oW (Ic ncM (Ic Wf JA))
theorem RO:D8 Tryz.prog 187 Nl:=by
 refine nO (A:=[]) nxW Tryz.func187 fun ds (hw:kc (nB.ct++([])) ds) _=> ?_
 obtain⟨r,ds,rfl,_,hw⟩:=nB.nA (r:=_) hw
 obtain rfl:=nc hw
 exact⟨0,eT (nxU (fun r0=>((true,[.bool r0]):kM)) r)⟩
def Ur:Sum:= {ps:=[⟨nn.ct,true⟩],rs:=[⟨[.d7 .bool],false⟩],fn:=fun ds=>(true,[.bool (nak (nn.nd ds 0))])}
def ntu:Ctx:=[(143,oy),(267,xm)]
theorem ntx:bF Tryz.prog ntu:=Ic oC (Ic SA JA)
theorem ntw:D8 Tryz.prog 214 Ur:=by
 refine nO (A:=[]) ntx Tryz.func214 fun ds (hw:kc (nn.ct++([])) ds) _=> ?_
 obtain⟨q,ds,rfl,_,hw⟩:=nn.nA (r:=_) hw
 obtain rfl:=nc hw
 exact⟨0,eT (ntv (fun r0=>((true,[.bool r0]):kM)) q)⟩
abbrev neN:Sum:=Ur
def nvf:Ctx:=[(106,oP),(252,Qf)]
theorem nvj:bF Tryz.prog nvf:=Ic oW (Ic Wf JA)
theorem nvh:D8 Tryz.prog 191 neN:=by
 refine nO (A:=[]) nvj Tryz.func191 fun ds (hw:kc (nn.ct++([])) ds) _=> ?_
 obtain⟨q,ds,rfl,_,hw⟩:=nn.nA (r:=_) hw
 obtain rfl:=nc hw
 exact⟨0,eT (nvg (fun r0=>((true,[.bool r0]):kM)) q)⟩
def nh9:Sum:= {ps:=[⟨nY.ct,true⟩],rs:=[⟨[.d7 .bool],false⟩],fn:=fun ds=>(true,[.bool (due (nY.nd ds 0))])}
theorem nAr:D8 Tryz.prog 215 nh9:=by
 refine nO (A:=[]) JA Tryz.func215 fun ds (hw:kc (nY.ct++([])) ds) _=> ?_
 obtain⟨v,ds,rfl,_,hw⟩:=nY.nA (r:=_) hw
 obtain rfl:=nc hw
 exact⟨0,eT (nAq (fun r0=>((true,[.bool r0]):kM)) v)⟩
abbrev nhr:Sum:=nh9
theorem nya:D8 Tryz.prog 193 nhr:=by
 refine nO (A:=[]) JA Tryz.func193 fun ds (hw:kc (nY.ct++([])) ds) _=> ?_
 obtain⟨v,ds,rfl,_,hw⟩:=nY.nA (r:=_) hw
 obtain rfl:=nc hw
 exact⟨0,eT (nx_ (fun r0=>((true,[.bool r0]):kM)) v)⟩
def Su:Sum:= {ps:=[⟨nY.ct,true⟩],rs:=[⟨[.d7 .bool],false⟩],fn:=fun ds=>(true,[.bool (ur (nY.nd ds 0))])}
def npX:Ctx:=[(143,oy),(215,nh9)]
theorem np0:bF Tryz.prog npX:=Ic oC (Ic nAr JA)
theorem npZ:D8 Tryz.prog 146 Su:=by
 refine nO (A:=[]) np0 Tryz.func146 fun ds (hw:kc (nY.ct++([])) ds) _=> ?_
 obtain⟨v,ds,rfl,_,hw⟩:=nY.nA (r:=_) hw
 obtain rfl:=nc hw
 exact⟨0,eT (npY (fun r0=>((true,[.bool r0]):kM)) v)⟩
abbrev ncY:Sum:=Su
def nsB:Ctx:=[(106,oP),(193,nhr)]
theorem nsF:bF Tryz.prog nsB:=Ic oW (Ic nya JA)
theorem nsD:D8 Tryz.prog 110 ncY:=by
 refine nO (A:=[]) nsF Tryz.func110 fun ds (hw:kc (nY.ct++([])) ds) _=> ?_
 obtain⟨v,ds,rfl,_,hw⟩:=nY.nA (r:=_) hw
 obtain rfl:=nc hw
 exact⟨0,eT (nsC (fun r0=>((true,[.bool r0]):kM)) v)⟩
def ndB:Sum:= {ps:=[⟨nK.ct,true⟩],rs:=[⟨[.d7 .bool],false⟩],fn:=fun ds=>(true,[.bool (nht (nK.nd ds 0))])}
def nzL:Ctx:=[(143,oy),(148,yx),(213,xz),(214,Ur)]
theorem nzO:bF Tryz.prog nzL:=Ic oC (Ic Ux (Ic RE (Ic ntw JA)))
theorem nzN:D8 Tryz.prog 144 ndB:=by
 refine nO (A:=[]) nzO Tryz.func144 fun ds (hw:kc (nK.ct++([])) ds) _=> ?_
 obtain⟨q,ds,rfl,_,hw⟩:=nK.nA (r:=_) hw
 obtain rfl:=nc hw
 exact⟨0,eT (nzM (fun r0=>((true,[.bool r0]):kM)) q)⟩
abbrev noZ:Sum:=ndB
def nz8:Ctx:=[(106,oP),(187,Nl),(191,neN),(192,VZ)]
theorem nAb:bF Tryz.prog nz8:=Ic oW (Ic RO (Ic nvh (Ic neU JA)))
theorem nz_:D8 Tryz.prog 108 noZ:=by
 refine nO (A:=[]) nAb Tryz.func108 fun ds (hw:kc (nK.ct++([])) ds) _=> ?_
 obtain⟨q,ds,rfl,_,hw⟩:=nK.nA (r:=_) hw
 obtain rfl:=nc hw
 exact⟨0,eT (nz9 (fun r0=>((true,[.bool r0]):kM)) q)⟩
def XZ:Sum:= {ps:=[⟨pf.ct,true⟩],rs:=[⟨[.d7 .bool],false⟩],fn:=fun ds=>(true,[.bool (OV (pf.nd ds 0))])}
def nwo:Ctx:=[(143,oy)]
theorem nwr:bF Tryz.prog nwo:=Ic oC JA
theorem nwq:D8 Tryz.prog 268 XZ:=by
 refine nO (A:=[]) nwr Tryz.func268 fun ds (hw:kc (pf.ct++([])) ds) _=> ?_
 obtain⟨r,ds,rfl,_,hw⟩:=pf.nA (r:=_) hw
 obtain rfl:=nc hw
 exact⟨0,eT (nwp (fun r0=>((true,[.bool r0]):kM)) r)⟩
abbrev nhq:Sum:=XZ
def nxX:Ctx:=[(106,oP)]
theorem nx1:bF Tryz.prog nxX:=Ic oW JA
theorem nxZ:D8 Tryz.prog 253 nhq:=by
 refine nO (A:=[]) nx1 Tryz.func253 fun ds (hw:kc (pf.ct++([])) ds) _=> ?_
 obtain⟨r,ds,rfl,_,hw⟩:=pf.nA (r:=_) hw
 obtain rfl:=nc hw
 exact⟨0,eT (nxY (fun r0=>((true,[.bool r0]):kM)) r)⟩
def Pp:Sum:= {ps:=[⟨[.sl [.i,.i,.i,.i,.i,.i,.i,.i,.i]],false⟩],rs:=[⟨[.d7 .bool],false⟩],fn:=fun ds=>(true,[.bool (TS (rR ds 0))])}
def ndz:Ctx:=[(268,XZ)]
theorem ntE:bF Tryz.prog ndz:=Ic nwq JA
def ndy:List (Nat×lE):=[(2, {ca:=[(0,.mN),(5,.mN),(6,.mN),(7,.mN)],boxes:=[]})]
def Ut:Bool→kM:=(fun r0=>((true,[.bool r0]):kM))
def npI (list_ x:Rows) (nX oc:Int):St:= {n:=18,sl:=[(0,.sl [.i,.i,.i,.i,.i,.i,.i,.i,.i] list_),(5,.sl [.i,.i,.i,.i,.i,.i,.i,.i,.i] x),(6,.int .i64 nX),(7,.int .i64 oc)],hp:=[],ok:=true,ls:=[],lm:=[]}
theorem ntD:D8 Tryz.prog 216 Pp:=by
 refine nO (A:=ndy) ntE Tryz.func216 fun ds (hw:kc ((.sl [.i,.i,.i,.i,.i,.i,.i,.i,.i])::([])) ds) _=> ?_
 obtain⟨list_,ds,rfl,pE,hw⟩:=nH hw
 obtain rfl:=nc hw
 obtain⟨N,hN⟩:=ntC Vm.ke Ut list_ pE
 exact⟨N,Eq.trans (b:=Pq Vm.ke Ut (fun x nX oc=>LR (LQ Tryz.prog ndz ndy N Tryz.f216 Pp [true,false,true,false] []) N (npI list_ x nX oc)) list_) (by kernel_rfl) (Eq.trans (congrArg (fun l_=>Pq Vm.ke Ut l_ list_) (by funext x nX;exact nL1 _ _ _ N)) (hN.trans (by kernel_rfl)))⟩
abbrev VT:Sum:=Pp
def neR:Ctx:=[(253,nhq)]
theorem nvq:bF Tryz.prog neR:=Ic nxZ JA
def neQ:List (Nat×lE):=[(2, {ca:=[(0,.mN),(3,.mN)],boxes:=[]})]
def neS:Bool→kM:=(fun r0=>((true,[.bool r0]):kM))
def nsp (list_:Rows) (k:Int):St:= {n:=19,sl:=[(0,.sl [.i,.i,.i,.i,.i,.i,.i,.i,.i] list_),(3,.int .i64 k)],hp:=[],ok:=true,ls:=[],lm:=[]}
theorem nvp:D8 Tryz.prog 188 VT:=by
 refine nO (A:=neQ) nvq Tryz.func188 fun ds (hw:kc ((.sl [.i,.i,.i,.i,.i,.i,.i,.i,.i])::([])) ds) _=> ?_
 obtain⟨list_,ds,rfl,pE,hw⟩:=nH hw
 obtain rfl:=nc hw
 obtain⟨N,hN⟩:=nvo Vm.ke neS list_ pE
 exact⟨N,eL (fun l_=>VU Vm.ke neS l_ list_) (nL1 (LQ Tryz.prog neR neQ N Tryz.f188 VT [true,false,true,false] []) (nsp list_) _ N) hN⟩
def tP:Sum:= {ps:=[⟨[.sl [.i]],false⟩],rs:=[⟨[.own 3 [.i]],false⟩],fn:=fun ds=>(sm (rR ds 0),[.sl (oE (rR ds 0))])}
theorem u0:D8 Tryz.prog 138 tP:=by
 refine nO (A:=[]) JA Tryz.func138 fun ds (hw:kc ((.sl [.i])::([])) ds) aJ=> ?_
 obtain⟨l,ds,rfl,_,hw⟩:=nH hw
 obtain rfl:=nc hw
 exact⟨0,eT (np4 Vm.ke (fun r0=>((true,[.sl r0]):kM)) l aJ)⟩
def u4:Sum:= {ps:=[⟨nv.ct,true⟩],rs:=[⟨[.d7 .i,.d7 .i,.d7 .i,.own 3 [.i]],true⟩],fn:=fun ds=>(uW (nv.nd ds 0),nv.enc (oE (nv.nd ds 0)))}
def np5:Ctx:=[(138,tP)]
theorem np7:bF Tryz.prog np5:=Ic u0 JA
theorem NI:D8 Tryz.prog 133 u4:=by
 refine nO (A:=[]) np7 Tryz.func133 fun ds (hw:kc (nv.ct++([])) ds) aJ=> ?_
 obtain⟨p,ds,rfl,_,hw⟩:=nv.nA (r:=_) hw
 obtain rfl:=nc hw
 exact⟨0,eT (np6 Vm.ke (fun r0=>((true,nv.enc r0):kM)) p aJ)⟩
abbrev yI:Sum:=u4
theorem Qg:D8 Tryz.prog 99 yI:=by
 refine nO (A:=[]) JA Tryz.func99 fun ds (hw:kc (nv.ct++([])) ds) aJ=> ?_
 obtain⟨p,ds,rfl,_,hw⟩:=nv.nA (r:=_) hw
 obtain rfl:=nc hw
 exact⟨0,eT (nvQ Vm.ke (fun r0=>((true,nv.enc r0):kM)) p aJ)⟩
def uc:Sum:= {ps:=[⟨nv.ct,true⟩],rs:=[⟨[.d7 .bool],false⟩],fn:=fun ds=>(true,[.bool (qA (nv.nd ds 0))])}
def ngC:Ctx:=[(143,oy)]
theorem nwk:bF Tryz.prog ngC:=Ic oC JA
def ngB:List (Nat×lE):=[(5, {ca:=[(1,.mN),(3,.mN),(26,.mN),(27,.mN),(28,.mN)],boxes:=[(64,[])]})]
def XX:Bool→kM:=(fun r0=>((true,[.bool r0]):kM))
def ntt (x:Rows) (nX oc p_1 p_2 NY:Int) (Qm seen:Rows):St:= {n:=48,sl:=[(1,.ptr 64 0),(3,.own 640192),(26,.sl [.i] x),(27,.int .i64 nX),(28,.int .i64 oc)],hp:=[(64,.box 62 [.int .i64 p_1,.int .i64 p_2,.int .i64 NY,.sl [.i] Qm]),(640192,.row 4 [.bool] seen false true)],ok:=true,ls:=[],lm:=[]}
theorem zR:D8 Tryz.prog 145 uc:=by
 refine nO (A:=ngB) nwk Tryz.func145 fun ds (hw:kc (nv.ct++([])) ds) _=> ?_
 obtain⟨p,ds,rfl,h_p,hw⟩:=nv.nA (r:=_) hw
 obtain rfl:=nc hw
 obtain⟨N,hN⟩:=nwj Vm.ke XX p h_p
 exact⟨N,Eq.trans (b:=RD Vm.ke XX (fun x nX NY oc seen=>LR (LQ Tryz.prog ngC ngB N Tryz.f145 uc [true,true,true,false,true,false] []) N (ntt x nX oc p.oG p.nL NY p.oB seen)) p) (by kernel_rfl) (Eq.trans (congrArg (fun l_=>RD Vm.ke XX l_ p) (by funext x nX NY;exact Wp _ _ _ N)) (hN.trans (by kernel_rfl)))⟩
abbrev vO:Sum:=uc
def nho:Ctx:=[(106,oP)]
theorem nxS:bF Tryz.prog nho:=Ic oW JA
def nhn:List (Nat×lE):=[(5, {ca:=[(1,.mN),(3,.mN),(4,.mN)],boxes:=[(64,[])]})]
def Yt:Bool→kM:=(fun r0=>((true,[.bool r0]):kM))
def nve (k p_1 p_2 NY:Int) (Qm seen:Rows):St:= {n:=58,sl:=[(1,.ptr 64 0),(3,.own 640192),(4,.int .i64 k)],hp:=[(64,.box 62 [.int .i64 p_1,.int .i64 p_2,.int .i64 NY,.sl [.i] Qm]),(640192,.row 4 [.bool] seen false true)],ok:=true,ls:=[],lm:=[]}
theorem Nk:D8 Tryz.prog 109 vO:=by
 refine nO (A:=nhn) nxS Tryz.func109 fun ds (hw:kc (nv.ct++([])) ds) _=> ?_
 obtain⟨p,ds,rfl,h_p,hw⟩:=nv.nA (r:=_) hw
 obtain rfl:=nc hw
 obtain⟨N,hN⟩:=nxR Vm.ke Yt p h_p
 exact⟨N,Eq.trans (b:=RN Vm.ke Yt (fun NY Qm k seen=>LR (LQ Tryz.prog nho nhn N Tryz.f109 vO [true,true,true,false,true,false] []) N (nve k p.oG p.nL NY Qm seen)) p) (by kernel_rfl) (Eq.trans (congrArg (fun l_=>RN Vm.ke Yt l_ p) (by funext NY Qm;exact Wp _ _ _ N)) (hN.trans (by kernel_rfl)))⟩
def Of:Sum:= {ps:=[⟨nv.ct,true⟩,⟨[.sl [.i]],false⟩],rs:=[⟨[.d7 .i,.d7 .i,.d7 .i,.own 3 [.i]],true⟩,⟨[.d7 .bool],false⟩],fn:=fun ds=>(Ue (nv.nd ds 0) (rR ds 4),nv.enc (qp (nv.nd ds 0) (rR ds 4)).1++[.bool (qp (nv.nd ds 0) (rR ds 4)).2])}
def nhA:Ctx:=[(133,u4),(145,uc)]
theorem nhD:bF Tryz.prog nhA:=Ic NI (Ic zR JA)
theorem nhC:D8 Tryz.prog 181 Of:=by
 refine nO (A:=[]) nhD Tryz.func181 fun ds (hw:kc (nv.ct++((.sl [.i])::([]))) ds) aJ=> ?_
 obtain⟨p,ds,rfl,_,hw⟩:=nv.nA (r:=_) hw
 obtain⟨list_,ds,rfl,_,hw⟩:=nH hw
 obtain rfl:=nc hw
 exact⟨0,eT (nhB Vm.ke (fun r0 r1=>((true,nv.enc r0++[.bool r1]):kM)) p list_ aJ)⟩
abbrev VO:Sum:=Of
def ni4:Ctx:=[(99,yI),(109,vO)]
theorem ni7:bF Tryz.prog ni4:=Ic Qg (Ic Nk JA)
theorem ni6:D8 Tryz.prog 179 VO:=by
 refine nO (A:=[]) ni7 Tryz.func179 fun ds (hw:kc (nv.ct++((.sl [.i])::([]))) ds) aJ=> ?_
 obtain⟨p,ds,rfl,_,hw⟩:=nv.nA (r:=_) hw
 obtain⟨list_,ds,rfl,_,hw⟩:=nH hw
 obtain rfl:=nc hw
 exact⟨0,eT (ni5 Vm.ke (fun r0 r1=>((true,nv.enc r0++[.bool r1]):kM)) p list_ aJ)⟩
def W7:Sum:= {ps:=[⟨na.ct,true⟩,⟨[.i],false⟩],rs:=[⟨[.d7 .i],false⟩],fn:=fun ds=>(Nf (na.nd ds 0) (rI ds 1),[.int (wZ (na.nd ds 0) (rI ds 1)).1]++[.sl (wZ (na.nd ds 0) (rI ds 1)).2]),ms:=[some (.rows [.flat 9]),none]}
def nkX:Ctx:=[(72,wV)]
theorem nk0:bF Tryz.prog nkX:=Ic Vl JA
theorem nkZ:Cm Tryz.prog 62 W7:=by
 refine OI (A:=[]) nk0 Tryz.func62 fun ds (hw:kc (na.ct++(.i::([]))) ds) aJ=> ?_
 obtain⟨a,ds,rfl,_,hw⟩:=na.nA (r:=_) hw
 obtain⟨k,ds,rfl,_,hw⟩:=nj hw
 obtain rfl:=nc hw
 exact⟨0,eT (nkY Vm.ke (fun r0 r1=>((true,[.int r0]++[.sl r1]):kM)) a k aJ)⟩
def W4:Sum:= {ps:=[⟨na.ct,true⟩,⟨[.i],false⟩],rs:=[⟨[.d7 .i],false⟩],fn:=fun ds=>(zL (na.nd ds 0) (rI ds 1),[.int (Oe (na.nd ds 0) (rI ds 1))])}
def nkG:Ctx:=[(84,wU)]
theorem nkJ:bF Tryz.prog nkG:=Ic U_ JA
theorem nkI:D8 Tryz.prog 74 W4:=by
 refine nO (A:=[]) nkJ Tryz.func74 fun ds (hw:kc (na.ct++(.i::([]))) ds) aJ=> ?_
 obtain⟨a,ds,rfl,_,hw⟩:=na.nA (r:=_) hw
 obtain⟨k,ds,rfl,_,hw⟩:=nj hw
 obtain rfl:=nc hw
 exact⟨0,eT (nkH Vm.ke (fun r0=>((true,[.int r0]):kM)) a k aJ)⟩
def nb5:Sum:= {ps:=[⟨nv.ct,true⟩,⟨[.i],false⟩],rs:=[⟨[.d7 .i],false⟩],fn:=fun ds=>(R3 (nv.nd ds 0) (rI ds 4),[.int (PR (nv.nd ds 0) (rI ds 4)).1]++[.sl (PR (nv.nd ds 0) (rI ds 4)).2]),ms:=[some (.rows [.flat 3]),none]}
def nqV:Ctx:=[(73,sU)]
theorem nqY:bF Tryz.prog nqV:=Ic va JA
theorem nqX:Cm Tryz.prog 167 nb5:=by
 refine OI (A:=[]) nqY Tryz.func167 fun ds (hw:kc (nv.ct++(.i::([]))) ds) aJ=> ?_
 obtain⟨a,ds,rfl,_,hw⟩:=nv.nA (r:=_) hw
 obtain⟨k,ds,rfl,_,hw⟩:=nj hw
 obtain rfl:=nc hw
 exact⟨0,eT (nqW Vm.ke (fun r0 r1=>((true,[.int r0]++[.sl r1]):kM)) a k aJ)⟩
def nb0:Sum:= {ps:=[⟨nv.ct,true⟩,⟨[.i],false⟩],rs:=[⟨[.d7 .i],false⟩],fn:=fun ds=>(RQ (nv.nd ds 0) (rI ds 4),[.int (Uh (nv.nd ds 0) (rI ds 4))])}
def nqM:Ctx:=[(85,sT)]
theorem nqP:bF Tryz.prog nqM:=Ic u_ JA
theorem nqO:D8 Tryz.prog 173 nb0:=by
 refine nO (A:=[]) nqP Tryz.func173 fun ds (hw:kc (nv.ct++(.i::([]))) ds) aJ=> ?_
 obtain⟨a,ds,rfl,_,hw⟩:=nv.nA (r:=_) hw
 obtain⟨k,ds,rfl,_,hw⟩:=nj hw
 obtain rfl:=nc hw
 exact⟨0,eT (nqN Vm.ke (fun r0=>((true,[.int r0]):kM)) a k aJ)⟩
def W6:Sum:= {ps:=[⟨nC.ct,true⟩,⟨[.i],false⟩],rs:=[⟨[.d7 .i],false⟩],fn:=fun ds=>(Nd (nC.nd ds 0) (rI ds 3),[.int (Oy (nC.nd ds 0) (rI ds 3)).1]++[.sl (Oy (nC.nd ds 0) (rI ds 3)).2]),ms:=[some (.rows [.flat 3]),none]}
def nkT:Ctx:=[(73,sU)]
theorem nkW:bF Tryz.prog nkT:=Ic va JA
theorem nkV:Cm Tryz.prog 69 W6:=by
 refine OI (A:=[]) nkW Tryz.func69 fun ds (hw:kc (nC.ct++(.i::([]))) ds) aJ=> ?_
 obtain⟨a,ds,rfl,_,hw⟩:=nC.nA (r:=_) hw
 obtain⟨k,ds,rfl,_,hw⟩:=nj hw
 obtain rfl:=nc hw
 exact⟨0,eT (nkU Vm.ke (fun r0 r1=>((true,[.int r0]++[.sl r1]):kM)) a k aJ)⟩
def W3:Sum:= {ps:=[⟨nC.ct,true⟩,⟨[.i],false⟩],rs:=[⟨[.d7 .i],false⟩],fn:=fun ds=>(zJ (nC.nd ds 0) (rI ds 3),[.int (Ug (nC.nd ds 0) (rI ds 3))])}
def nkC:Ctx:=[(85,sT)]
theorem nkF:bF Tryz.prog nkC:=Ic u_ JA
theorem nkE:D8 Tryz.prog 81 W3:=by
 refine nO (A:=[]) nkF Tryz.func81 fun ds (hw:kc (nC.ct++(.i::([]))) ds) aJ=> ?_
 obtain⟨a,ds,rfl,_,hw⟩:=nC.nA (r:=_) hw
 obtain⟨k,ds,rfl,_,hw⟩:=nj hw
 obtain rfl:=nc hw
 exact⟨0,eT (nkD Vm.ke (fun r0=>((true,[.int r0]):kM)) a k aJ)⟩
def R1:Sum:= {ps:=[⟨ni.ct,true⟩,⟨[.i],false⟩],rs:=[⟨[.d7 .i],false⟩],fn:=fun ds=>(wy (ni.nd ds 0) (rI ds 1),[.int (vN (ni.nd ds 0) (rI ds 1)).1]++[.sl (vN (ni.nd ds 0) (rI ds 1)).2]),ms:=[some (.rows [.flat 262]),none]}
def nd2:Ctx:=[(238,QY)]
theorem nd5:bF Tryz.prog nd2:=Ic nnr JA
theorem nd4:Cm Tryz.prog 171 R1:=by
 refine OI (A:=[]) nd5 Tryz.func171 fun ds (hw:kc (ni.ct++(.i::([]))) ds) aJ=> ?_
 obtain⟨a,ds,rfl,_,hw⟩:=ni.nA (r:=_) hw
 obtain⟨k,ds,rfl,_,hw⟩:=nj hw
 obtain rfl:=nc hw
 exact⟨0,eT (nd3 Vm.ke (fun r0 r1=>((true,[.int r0]++[.sl r1]):kM)) a k aJ)⟩
def R0:Sum:= {ps:=[⟨ni.ct,true⟩,⟨[.i],false⟩],rs:=[⟨[.d7 .i],false⟩],fn:=fun ds=>(wj (ni.nd ds 0) (rI ds 1),[.int (zK (ni.nd ds 0) (rI ds 1))])}
def ndW:Ctx:=[(239,QQ)]
theorem ndZ:bF Tryz.prog ndW:=Ic nne JA
theorem ndY:D8 Tryz.prog 176 R0:=by
 refine nO (A:=[]) ndZ Tryz.func176 fun ds (hw:kc (ni.ct++(.i::([]))) ds) aJ=> ?_
 obtain⟨a,ds,rfl,_,hw⟩:=ni.nA (r:=_) hw
 obtain⟨k,ds,rfl,_,hw⟩:=nj hw
 obtain rfl:=nc hw
 exact⟨0,eT (ndX Vm.ke (fun r0=>((true,[.int r0]):kM)) a k aJ)⟩
def W8:Sum:= {ps:=[⟨nG.ct,true⟩,⟨[.i],false⟩],rs:=[⟨[.d7 .i],false⟩],fn:=fun ds=>(Ng (nG.nd ds 0) (rI ds 2),[.int (Oz (nG.nd ds 0) (rI ds 2)).1]++[.sl (Oz (nG.nd ds 0) (rI ds 2)).2]),ms:=[some (.rows [.flat 3]),none]}
def nk5:Ctx:=[(73,sU)]
theorem nk8:bF Tryz.prog nk5:=Ic va JA
theorem nk7:Cm Tryz.prog 172 W8:=by
 refine OI (A:=[]) nk8 Tryz.func172 fun ds (hw:kc (nG.ct++(.i::([]))) ds) aJ=> ?_
 obtain⟨a,ds,rfl,_,hw⟩:=nG.nA (r:=_) hw
 obtain⟨k,ds,rfl,_,hw⟩:=nj hw
 obtain rfl:=nc hw
 exact⟨0,eT (nk6 Vm.ke (fun r0 r1=>((true,[.int r0]++[.sl r1]):kM)) a k aJ)⟩
def W5:Sum:= {ps:=[⟨nG.ct,true⟩,⟨[.i],false⟩],rs:=[⟨[.d7 .i],false⟩],fn:=fun ds=>(zM (nG.nd ds 0) (rI ds 2),[.int (Ui (nG.nd ds 0) (rI ds 2))])}
def nkO:Ctx:=[(85,sT)]
theorem nkR:bF Tryz.prog nkO:=Ic u_ JA
theorem nkQ:D8 Tryz.prog 177 W5:=by
 refine nO (A:=[]) nkR Tryz.func177 fun ds (hw:kc (nG.ct++(.i::([]))) ds) aJ=> ?_
 obtain⟨a,ds,rfl,_,hw⟩:=nG.nA (r:=_) hw
 obtain⟨k,ds,rfl,_,hw⟩:=nj hw
 obtain rfl:=nc hw
 exact⟨0,eT (nkP Vm.ke (fun r0=>((true,[.int r0]):kM)) a k aJ)⟩
def Vo:Sum:= {ps:=[⟨nh.ct,true⟩,⟨[.i],false⟩],rs:=[⟨[.d7 .i],false⟩],fn:=fun ds=>(yD (nh.nd ds 0) (rI ds 10),[.int (vv (nh.nd ds 0) (rI ds 10)).1]++[.sl (vv (nh.nd ds 0) (rI ds 10)).2.1]++[.sl (vv (nh.nd ds 0) (rI ds 10)).2.2]),ms:=[some (.rows [.flat 3,.deep 207 [3]]),none]}
def niC:Ctx:=[(167,nb5),(168,QW)]
theorem niF:bF Tryz.prog niC:=Ic nqX (Ic nno JA)
theorem niE:Cm Tryz.prog 64 Vo:=by
 refine OI (A:=[]) niF Tryz.func64 fun ds (hw:kc (nh.ct++(.i::([]))) ds) aJ=> ?_
 obtain⟨a,ds,rfl,_,hw⟩:=nh.nA (r:=_) hw
 obtain⟨k,ds,rfl,_,hw⟩:=nj hw
 obtain rfl:=nc hw
 exact⟨0,eT (niD Vm.ke (fun r0 r1 r2=>((true,[.int r0]++[.sl r1]++[.sl r2]):kM)) a k aJ)⟩
def Va:Sum:= {ps:=[⟨nh.ct,true⟩,⟨[.i],false⟩],rs:=[⟨[.d7 .i],false⟩],fn:=fun ds=>(yq (nh.nd ds 0) (rI ds 10),[.int (RS (nh.nd ds 0) (rI ds 10))])}
def nir:Ctx:=[(173,nb0),(174,QO)]
theorem niu:bF Tryz.prog nir:=Ic nqO (Ic nnb JA)
theorem nit:D8 Tryz.prog 76 Va:=by
 refine nO (A:=[]) niu Tryz.func76 fun ds (hw:kc (nh.ct++(.i::([]))) ds) aJ=> ?_
 obtain⟨a,ds,rfl,_,hw⟩:=nh.nA (r:=_) hw
 obtain⟨k,ds,rfl,_,hw⟩:=nj hw
 obtain rfl:=nc hw
 exact⟨0,eT (nis Vm.ke (fun r0=>((true,[.int r0]):kM)) a k aJ)⟩
def TH:Sum:= {ps:=[⟨nk.ct,true⟩,⟨[.i],false⟩],rs:=[⟨[.d7 .i],false⟩],fn:=fun ds=>(xr (nk.nd ds 0) (rI ds 4),[.int (sL (nk.nd ds 0) (rI ds 4)).1]++[.sl (sL (nk.nd ds 0) (rI ds 4)).2.1]++[.sl (sL (nk.nd ds 0) (rI ds 4)).2.2.1]++[.sl (sL (nk.nd ds 0) (rI ds 4)).2.2.2]),ms:=[some (.rows [.flat 260,.flat 262,.flat 3]),none]}
def ngi:Ctx:=[(170,QV),(171,R1),(172,W8)]
theorem ngl:bF Tryz.prog ngi:=Ic nnm (Ic nd4 (Ic nk7 JA))
theorem ngk:Cm Tryz.prog 70 TH:=by
 refine OI (A:=[]) ngl Tryz.func70 fun ds (hw:kc (nk.ct++(.i::([]))) ds) aJ=> ?_
 obtain⟨a,ds,rfl,_,hw⟩:=nk.nA (r:=_) hw
 obtain⟨k,ds,rfl,_,hw⟩:=nj hw
 obtain rfl:=nc hw
 exact⟨0,eT (ngj Vm.ke (fun r0 r1 r2 r3=>((true,[.int r0]++[.sl r1]++[.sl r2]++[.sl r3]):kM)) a k aJ)⟩
def Ty:Sum:= {ps:=[⟨nk.ct,true⟩,⟨[.i],false⟩],rs:=[⟨[.d7 .i],false⟩],fn:=fun ds=>(xi (nk.nd ds 0) (rI ds 4),[.int (Pb (nk.nd ds 0) (rI ds 4))])}
def nf7:Ctx:=[(175,QN),(176,R0),(177,W5)]
theorem nf_:bF Tryz.prog nf7:=Ic nm_ (Ic ndY (Ic nkQ JA))
theorem nf9:D8 Tryz.prog 82 Ty:=by
 refine nO (A:=[]) nf_ Tryz.func82 fun ds (hw:kc (nk.ct++(.i::([]))) ds) aJ=> ?_
 obtain⟨a,ds,rfl,_,hw⟩:=nk.nA (r:=_) hw
 obtain⟨k,ds,rfl,_,hw⟩:=nj hw
 obtain rfl:=nc hw
 exact⟨0,eT (nf8 Vm.ke (fun r0=>((true,[.int r0]):kM)) a k aJ)⟩
def nb1:Sum:= {ps:=[⟨ny.ct,true⟩,⟨[.i],false⟩],rs:=[⟨[.d7 .i],false⟩],fn:=fun ds=>(yC (ny.nd ds 0) (rI ds 33),[.int (ph (ny.nd ds 0) (rI ds 33)).1]++[.sl (ph (ny.nd ds 0) (rI ds 33)).2.1]++[.sl (ph (ny.nd ds 0) (rI ds 33)).2.2.1]++[.sl (ph (ny.nd ds 0) (rI ds 33)).2.2.2.1]++[.sl (ph (ny.nd ds 0) (rI ds 33)).2.2.2.2.1]++[.sl (ph (ny.nd ds 0) (rI ds 33)).2.2.2.2.2.1]++[.sl (ph (ny.nd ds 0) (rI ds 33)).2.2.2.2.2.2.1]++[.sl (ph (ny.nd ds 0) (rI ds 33)).2.2.2.2.2.2.2.1]++[.sl (ph (ny.nd ds 0) (rI ds 33)).2.2.2.2.2.2.2.2.1]++[.sl (ph (ny.nd ds 0) (rI ds 33)).2.2.2.2.2.2.2.2.2.1]++[.sl (ph (ny.nd ds 0) (rI ds 33)).2.2.2.2.2.2.2.2.2.2.1]++[.sl (ph (ny.nd ds 0) (rI ds 33)).2.2.2.2.2.2.2.2.2.2.2.1]++[.sl (ph (ny.nd ds 0) (rI ds 33)).2.2.2.2.2.2.2.2.2.2.2.2.1]++[.sl (ph (ny.nd ds 0) (rI ds 33)).2.2.2.2.2.2.2.2.2.2.2.2.2.1]++[.sl (ph (ny.nd ds 0) (rI ds 33)).2.2.2.2.2.2.2.2.2.2.2.2.2.2.1]++[.sl (ph (ny.nd ds 0) (rI ds 33)).2.2.2.2.2.2.2.2.2.2.2.2.2.2.2.1]++[.sl (ph (ny.nd ds 0) (rI ds 33)).2.2.2.2.2.2.2.2.2.2.2.2.2.2.2.2]),ms:=[some (.rows [.flat 9,.flat 209,.flat 3,.deep 207 [3],.flat 182,.deep 62 [3],.flat 186,.flat 4,.flat 3,.flat 260,.flat 262,.flat 3,.flat 223,.flat 9,.flat 3,.flat 3]),none]}
def nqQ:Ctx:=[(62,W7),(63,zE),(64,Vo),(65,zF),(66,QT),(67,Ow),(68,QR),(69,W6),(70,TH),(71,Ou),(72,wV),(73,sU)]
theorem nqT:bF Tryz.prog nqQ:=Ic nkZ (Ic nge (Ic niE (Ic ngg (Ic nnj (Ic niH (Ic nng (Ic nkV (Ic ngk (Ic niy (Ic Vl (Ic va JA)))))))))))
theorem nqS:Cm Tryz.prog 12 nb1:=by
 refine OI (A:=[]) nqT Tryz.func12 fun ds (hw:kc (ny.ct++(.i::([]))) ds) aJ=> ?_
 obtain⟨a,ds,rfl,_,hw⟩:=ny.nA (r:=_) hw
 obtain⟨k,ds,rfl,_,hw⟩:=nj hw
 obtain rfl:=nc hw
 exact⟨0,eT (nqR Vm.ke (fun r0 r1 r2 r3 r4 r5 r6 r7 r8 r9 r10 r11 r12 r13 r14 r15 r16=>((true,[.int r0]++[.sl r1]++[.sl r2]++[.sl r3]++[.sl r4]++[.sl r5]++[.sl r6]++[.sl r7]++[.sl r8]++[.sl r9]++[.sl r10]++[.sl r11]++[.sl r12]++[.sl r13]++[.sl r14]++[.sl r15]++[.sl r16]):kM)) a k aJ)⟩
def nbW:Sum:= {ps:=[⟨ny.ct,true⟩,⟨[.i],false⟩],rs:=[⟨[.d7 .i],false⟩],fn:=fun ds=>(OJ (ny.nd ds 0) (rI ds 33),[.int (Yv (ny.nd ds 0) (rI ds 33))])}
def nqH:Ctx:=[(74,W4),(75,zC),(76,Va),(77,zD),(78,QL),(79,Ot),(80,QJ),(81,W3),(82,Ty),(83,Oo),(84,wU),(85,sT)]
theorem nqK:bF Tryz.prog nqH:=Ic nkI (Ic nf3 (Ic nit (Ic nf5 (Ic nm7 (Ic niw (Ic nm4 (Ic nkE (Ic nf9 (Ic nin (Ic U_ (Ic u_ JA)))))))))))
theorem nqJ:D8 Tryz.prog 13 nbW:=by
 refine nO (A:=[]) nqK Tryz.func13 fun ds (hw:kc (ny.ct++(.i::([]))) ds) aJ=> ?_
 obtain⟨a,ds,rfl,_,hw⟩:=ny.nA (r:=_) hw
 obtain⟨k,ds,rfl,_,hw⟩:=nj hw
 obtain rfl:=nc hw
 exact⟨0,eT (nqI Vm.ke (fun r0=>((true,[.int r0]):kM)) a k aJ)⟩
def RZ:Sum:= {ps:=[⟨nh.ct,true⟩],rs:=[⟨[.d7 .bool],false⟩],fn:=fun ds=>(zx (nh.nd ds 0),[.bool (Sf (nh.nd ds 0))])}
def noQ:Ctx:=[(143,oy),(145,uc),(181,Of),(213,xz)]
theorem nzQ:bF Tryz.prog noQ:=Ic oC (Ic zR (Ic nhC (Ic RE JA)))
def noP:List (Nat×lE):=[(6, {ca:=[(1,.mN),(3,.mN),(4,.mN),(30,.mN),(31,.mN),(32,.mN)],boxes:=[(64,[])]})]
def ndC:Bool→kM:=(fun r0=>((true,[.bool r0]):kM))
def nyR (left:Int) (x:Rows) (nX oc xt uX xu xv vc vd ve:Int) (vf sX:Rows) (qR:Int) (all:Rows):St:= {n:=68,sl:=[(1,.ptr 64 0),(3,.int .i64 left),(4,.own 640256),(30,.sl [.i,.i,.sl [.i]] x),(31,.int .i64 nX),(32,.int .i64 oc)],hp:=[(64,.box 65 [.int .i64 xt,.int .i64 uX,.int .i64 xu,.int .i64 xv,.int .i64 vc,.int .i64 vd,.int .i64 ve,.sl [.i] vf,.sl [.i,.i,.sl [.i]] sX,.int .i64 qR]),(640256,.row 3 [.i] all false true)],ok:=true,ls:=[],lm:=[]}
theorem noS:D8 Tryz.prog 141 RZ:=by
 refine nO (A:=noP) nzQ Tryz.func141 fun ds (hw:kc (nh.ct++([])) ds) aJ=> ?_
 obtain⟨q,ds,rfl,h_q,hw⟩:=nh.nA (r:=_) hw
 obtain rfl:=nc hw
 obtain⟨N,hN⟩:=nzP Vm.ke ndC q h_q aJ
 exact⟨N,Eq.trans (b:=WJ Vm.ke ndC (fun x nX vc vd ve vf left oc all=>LR (LQ Tryz.prog noQ noP N Tryz.f141 RZ [true,true,true,true,false,true,false] []) N (nyR left x nX oc q.Ring.oG q.Ring.nL q.Ring.Head q.Ring.qF vc vd ve vf q.nr q.Next all)) q) (by kernel_rfl) (Eq.trans (congrArg (fun l_=>WJ Vm.ke ndC l_ q) (by funext x nX vc vd ve vf;exact nL3 _ _ _ N)) (hN.trans (by kernel_rfl)))⟩
abbrev XM:Sum:=RZ
def no1:Ctx:=[(106,oP),(109,vO),(179,VO),(187,Nl)]
theorem nAd:bF Tryz.prog no1:=Ic oW (Ic Nk (Ic ni6 (Ic RO JA)))
def no0:List (Nat×lE):=[(6, {ca:=[(1,.mN),(3,.mN),(4,.mN),(5,.mN)],boxes:=[(64,[])]})]
def ne0:Bool→kM:=(fun r0=>((true,[.bool r0]):kM))
def nzf (ca k xt uX xu xv vc vd ve:Int) (vf sX:Rows) (qR:Int) (all:Rows):St:= {n:=74,sl:=[(1,.ptr 64 0),(3,.int .i64 ca),(4,.own 640256),(5,.int .i64 k)],hp:=[(64,.box 65 [.int .i64 xt,.int .i64 uX,.int .i64 xu,.int .i64 xv,.int .i64 vc,.int .i64 vd,.int .i64 ve,.sl [.i] vf,.sl [.i,.i,.sl [.i]] sX,.int .i64 qR]),(640256,.row 3 [.i] all false true)],ok:=true,ls:=[],lm:=[]}
theorem no3:D8 Tryz.prog 104 XM:=by
 refine nO (A:=no0) nAd Tryz.func104 fun ds (hw:kc (nh.ct++([])) ds) aJ=> ?_
 obtain⟨q,ds,rfl,h_q,hw⟩:=nh.nA (r:=_) hw
 obtain rfl:=nc hw
 obtain⟨N,hN⟩:=nAc Vm.ke ne0 q h_q aJ
 exact⟨N,Eq.trans (b:=XN Vm.ke ne0 (fun uX vc vd ve vf sX ca k all=>LR (LQ Tryz.prog no1 no0 N Tryz.f104 XM [true,true,true,true,false,true,false] []) N (nzf ca k q.Ring.oG uX q.Ring.Head q.Ring.qF vc vd ve vf sX q.Next all)) q) (by kernel_rfl) (Eq.trans (congrArg (fun l_=>XN Vm.ke ne0 l_ q) (by funext uX vc vd ve vf sX;exact nL3 _ _ _ N)) (hN.trans (by kernel_rfl)))⟩
def Nr:Sum:= {ps:=[⟨nP.ct,true⟩],rs:=[⟨[.d7 .i],false⟩],fn:=fun ds=>(true,[.int (qE (nP.nd ds 0))])}
def nbb:Ctx:=[(278,X2)]
theorem npo:bF Tryz.prog nbb:=Ic ngG JA
def nba:List (Nat×lE):=[(3, {ca:=[(3,.mN),(16,.mN),(17,.mN),(18,.mN)],boxes:=[(64,[])]})]
def Sk:Int→kM:=(fun r0=>((true,[.int r0]):kM))
def nml (n x nX wG Rw uU Td Te:Int) (oc:Rows):St:= {n:=29,sl:=[(3,.int .i64 n),(16,.own 641024),(17,.int .i64 x),(18,.int .i64 nX)],hp:=[(64,.box 221 [.int .i64 wG,.int .i64 Rw,.int .i64 uU,.int .i64 Td,.int .i64 Te]),(641024,.row 3 [.i] oc false true)],ok:=true,ls:=[],lm:=[]}
theorem npn:D8 Tryz.prog 314 Nr:=by
 refine nO (A:=nba) npo Tryz.func314 fun ds (hw:kc (nP.ct++([])) ds) _=> ?_
 obtain⟨f,ds,rfl,h_f,hw⟩:=nP.nA (r:=_) hw
 obtain rfl:=nc hw
 obtain⟨N,hN⟩:=npm Vm.ke Sk f h_f
 exact⟨N,Eq.trans (b:=Ns Vm.ke Sk (fun x oc n nX=>LR (LQ Tryz.prog nbb nba N Tryz.f314 Nr [true,true,false,true,false] []) N (nml n x nX f.Kind f.ql f.qK f.oN f.oM oc)) f) (by kernel_rfl) (Eq.trans (congrArg (fun l_=>Ns Vm.ke Sk l_ f) (by funext x oc;exact Wp _ _ _ N)) (hN.trans (by kernel_rfl)))⟩
abbrev SX:Sum:=Nr
def ncw:List (Nat×lE):=[(4, {ca:=[(3,.mN),(4,.mN),(5,.mN)],boxes:=[(64,[])]})]
def ncx:Int→kM:=(fun r0=>((true,[.int r0]):kM))
def nog (n k wG Rw uU Td Te:Int) (list_:Rows):St:= {n:=32,sl:=[(3,.int .i64 n),(4,.own 640256),(5,.int .i64 k)],hp:=[(64,.box 221 [.int .i64 wG,.int .i64 Rw,.int .i64 uU,.int .i64 Td,.int .i64 Te]),(640256,.row 3 [.i] list_ false true)],ok:=true,ls:=[],lm:=[]}
theorem nr3:D8 Tryz.prog 307 SX:=by
 refine nO (A:=ncw) JA Tryz.func307 fun ds (hw:kc (nP.ct++([])) ds) _=> ?_
 obtain⟨f,ds,rfl,h_f,hw⟩:=nP.nA (r:=_) hw
 obtain rfl:=nc hw
 obtain⟨N,hN⟩:=nr2 Vm.ke ncx f h_f
 exact⟨N,eL (fun l_=>SY Vm.ke ncx l_ f) (funext fun list_=>Wp (LQ Tryz.prog [] ncw N Tryz.f307 SX [true,true,true,false,true,false] []) (fun n k=>nog n k f.Kind f.ql f.qK f.oN f.oM list_) _ N) hN⟩
def X8:Sum:= {ps:=[⟨ni.ct,true⟩,⟨nP.ct,true⟩],rs:=[⟨[.d7 .i],false⟩],fn:=fun ds=>(true,[.int (ni3 (ni.nd ds 0) (nP.nd ds 1))])}
def ngP:List (Nat×lE):=[(2, {ca:=[(3,.mN),(8,.mN),(9,.mN),(10,.mN)],boxes:=[(128,[]),(192,[])]})]
def X7:Int→kM:=(fun r0=>((true,[.int r0]):kM))
def ntU (x:Rows) (nX oc:Int) (tq:Rows) (wG Rw uU Td Te:Int):St:= {n:=26,sl:=[(3,.ptr 192 0),(8,.sl [.i,.i,.i,.i,.i,.i,.i] x),(9,.int .i64 nX),(10,.int .i64 oc)],hp:=[(128,.box 73 [.sl [.i,.i,.i,.i,.i,.i,.i] tq]),(192,.box 221 [.int .i64 wG,.int .i64 Rw,.int .i64 uU,.int .i64 Td,.int .i64 Te])],ok:=true,ls:=[],lm:=[]}
theorem nwI:D8 Tryz.prog 269 X8:=by
 refine nO (A:=ngP) JA Tryz.func269 fun ds (hw:kc (ni.ct++(nP.ct++([]))) ds) _=> ?_
 obtain⟨t,ds,rfl,h_t,hw⟩:=ni.nA (r:=_) hw
 obtain⟨f,ds,rfl,_,hw⟩:=nP.nA (r:=_) hw
 obtain rfl:=nc hw
 obtain⟨N,hN⟩:=nwH Vm.ke X7 t f h_t
 exact⟨N,Eq.trans (b:=RF Vm.ke X7 (fun x nX wG Rw uU Td Te oc=>LR (LQ Tryz.prog [] ngP N Tryz.f269 X8 [true,false,true,false] []) N (ntU x nX oc t.nF wG Rw uU Td Te)) t f) (by kernel_rfl) (Eq.trans (congrArg (fun l_=>RF Vm.ke X7 l_ t f) (by funext x nX wG Rw uU Td Te;exact nL1 _ _ _ N)) (hN.trans (by kernel_rfl)))⟩
def Wb:Sum:= {ps:=[⟨ni.ct,true⟩,⟨nP.ct,true⟩],rs:=[⟨[.d7 .i],false⟩],fn:=fun ds=>(nAT (ni.nd ds 0) (nP.nd ds 1),[.int (naD (ni.nd ds 0) (nP.nd ds 1))])}
def ne8:Ctx:=[(307,SX)]
theorem nvG:bF Tryz.prog ne8:=Ic nr3 JA
def ne7:List (Nat×lE):=[(2, {ca:=[(2,.mN),(3,.mN),(5,.mN)],boxes:=[(128,[]),(192,[])]})]
def Wa:Int→kM:=(fun r0=>((true,[.int r0]):kM))
def nsH (k:Int) (tq:Rows) (wG Rw uU Td Te:Int):St:= {n:=41,sl:=[(2,.ptr 128 0),(3,.ptr 192 0),(5,.int .i64 k)],hp:=[(128,.box 73 [.sl [.i,.i,.i,.i,.i,.i,.i] tq]),(192,.box 221 [.int .i64 wG,.int .i64 Rw,.int .i64 uU,.int .i64 Td,.int .i64 Te])],ok:=true,ls:=[],lm:=[]}
theorem nvF:D8 Tryz.prog 254 Wb:=by
 refine nO (A:=ne7) nvG Tryz.func254 fun ds (hw:kc (ni.ct++(nP.ct++([]))) ds) aJ=> ?_
 obtain⟨t,ds,rfl,_,hw⟩:=ni.nA (r:=_) hw
 obtain⟨f,ds,rfl,_,hw⟩:=nP.nA (r:=_) hw
 obtain rfl:=nc hw
 obtain⟨N,hN⟩:=nvE Vm.ke Wa t f aJ
 exact⟨N,Eq.trans (b:=Qe Vm.ke Wa (fun tq wG Rw uU Td Te k=>LR (LQ Tryz.prog ne8 ne7 N Tryz.f254 Wb [true,false,true,false] []) N (nsH k tq wG Rw uU Td Te)) t f) (by kernel_rfl) (Eq.trans (congrArg (fun l_=>Qe Vm.ke Wa l_ t f) (by funext tq wG Rw uU Td Te;exact nL1 _ _ _ N)) (hN.trans (by kernel_rfl)))⟩
def naC:Sum:= {ps:=[⟨nP.ct,true⟩],rs:=[⟨[.own 3 [.i]],false⟩],fn:=fun ds=>(true,[.sl (TR (nP.nd ds 0))])}
def nkk:Ctx:=[(314,Nr)]
theorem nyY:bF Tryz.prog nkk:=Ic npn JA
def nkj:List (Nat×lE):=[(3, {ca:=[(1,.mN),(3,.mN),(4,.mN)],boxes:=[(64,[])]})]
def naB:Rows→kM:=(fun r0=>((true,[.sl r0]):kM))
def nwJ (i wG Rw uU Td Te:Int) (nV:Rows):St:= {n:=19,sl:=[(1,.ptr 64 0),(3,.own 640192),(4,.int .i64 i)],hp:=[(64,.box 221 [.int .i64 wG,.int .i64 Rw,.int .i64 uU,.int .i64 Td,.int .i64 Te]),(640192,.row 3 [.i] nV false true)],ok:=true,ls:=[],lm:=[]}
theorem nyX:D8 Tryz.prog 270 naC:=by
 refine nO (A:=nkj) nyY Tryz.func270 fun ds (hw:kc (nP.ct++([])) ds) _=> ?_
 obtain⟨f,ds,rfl,_,hw⟩:=nP.nA (r:=_) hw
 obtain rfl:=nc hw
 obtain⟨N,hN⟩:=nyW Vm.ke naB f
 exact⟨N,Eq.trans (b:=TV Vm.ke naB (fun wG Rw uU Td Te i nV=>LR (LQ Tryz.prog nkk nkj N Tryz.f270 naC [true,true,false,true,false] []) N (nwJ i wG Rw uU Td Te nV)) f) (by kernel_rfl) (Eq.trans (congrArg (fun l_=>TV Vm.ke naB l_ f) (by funext wG Rw uU Td Te;exact Wp _ _ _ N)) (hN.trans (by kernel_rfl)))⟩
def uA:Sum:= {ps:=[⟨ni.ct,true⟩],rs:=[⟨[.d7 .bool],false⟩],fn:=fun ds=>(true,[.bool (yK (ni.nd ds 0))])}
def yz:Ctx:=[(143,oy),(269,X8),(270,naC)]
theorem ntL:bF Tryz.prog yz:=Ic oC (Ic nwI (Ic nyX JA))
def yy:List (Nat×lE):=[(4, {ca:=[(1,.mN),(12,.mN),(13,.mN),(14,.mN)],boxes:=[(64,[])]}),(14, {ca:=[(1,.mN),(3,.mN),(12,.mN),(13,.mN),(14,.mN),(49,.mN),(50,.mN),(51,.mN)],boxes:=[(64,[]),(256,[])]})]
def sG:Bool→kM:=(fun r0=>((true,[.bool r0]):kM))
def tO (x:Rows) (nX oc:Int) (tq:Rows):St:= {n:=67,sl:=[(1,.ptr 64 0),(12,.sl [.i,.i,.i,.i,.i,.i,.i] x),(13,.int .i64 nX),(14,.int .i64 oc)],hp:=[(64,.box 73 [.sl [.i,.i,.i,.i,.i,.i,.i] tq])],ok:=true,ls:=[],lm:=[]}
def NG (oc:Int) (x:Rows) (nX OE x_6 x_7:Int) (tq:Rows) (s tw rL Yq Yr s_5 s_6:Int) (x_8:Rows):St:= {n:=67,sl:=[(1,.ptr 64 0),(3,.int .i64 oc),(12,.sl [.i,.i,.i,.i,.i,.i,.i] x),(13,.int .i64 nX),(14,.int .i64 OE),(49,.own 643136),(50,.int .i64 x_6),(51,.int .i64 x_7)],hp:=[(64,.box 73 [.sl [.i,.i,.i,.i,.i,.i,.i] tq]),(256,.box 262 [.int .i64 s,.int .i64 tw,.int .i64 rL,.int .i64 Yq,.int .i64 Yr,.int .i64 s_5,.int .i64 s_6]),(643136,.row 3 [.i] x_8 false true)],ok:=true,ls:=[],lm:=[]}
noncomputable def NF (N:Nat) (o0:St→kM):(St→kM)→St→kM:=LQ Tryz.prog yz yy N Tryz.f217 uA [true,true,false,true,false,false,true,true,false,false,true,true,true,true,true,false] [o0]
noncomputable def uZ (N:Nat):(St→kM)→St→kM:=LQ Tryz.prog yz yy N Tryz.f217 uA [true,true,false,true,false] []
theorem npQ (N:Nat) (o0:St→kM) (oc:Int) (x:Rows) (nX OE x_6:Int) (tq:Rows) (s tw rL Yq Yr s_5 s_6:Int) (x_8:Rows) (ih:St→kM) (x_7:Int):NF N o0 ih (NG oc x nX OE x_6 x_7 tq s tw rL Yq Yr s_5 s_6 x_8)=xl Vm.ke sG (fun oc=>o0 (tO x nX oc tq)) oc OE x_6 tq x_8 (fun x_7=>ih (NG oc x nX OE x_6 x_7 tq s tw rL Yq Yr s_5 s_6 x_8)) x_7:=by kernel_rfl
theorem npS (N:Nat) (o0:St→kM) (oc:Int) (x:Rows) (nX OE x_6:Int) (tq:Rows) (s tw rL Yq Yr s_5 s_6:Int) (x_8:Rows) (m_:Nat):(fun x_7=>LR (NF N o0) m_ (NG oc x nX OE x_6 x_7 tq s tw rL Yq Yr s_5 s_6 x_8))=tN Vm.ke sG N (fun oc=>o0 (tO x nX oc tq)) oc OE x_6 tq x_8 m_:=by
 induction m_ with
 | zero=>rfl
 | succ m_ ih=>
  funext x_7
  refine (npQ N o0 oc x nX OE x_6 tq s tw rL Yq Yr s_5 s_6 x_8 (LR (NF N o0) m_) x_7).trans ?_
  rw[ih]
  rfl
theorem npP (N:Nat) (x:Rows) (nX:Int) (tq:Rows) (ih:St→kM) (oc:Int):uZ N ih (tO x nX oc tq)=xk Vm.ke sG (fun oc OE x_6 x_8 x_7=>LR (NF N ih) N (NG oc x nX OE x_6 x_7 tq (rI (nth x (Int.toNat oc)) 0) (rI (nth x (Int.toNat oc)) 1) (rI (nth x (Int.toNat oc)) 2) (rI (nth x (Int.toNat oc)) 3) (rI (nth x (Int.toNat oc)) 4) (rI (nth x (Int.toNat oc)) 5) (rI (nth x (Int.toNat oc)) 6) x_8)) x nX tq (fun oc=>ih (tO x nX oc tq)) oc:=by kernel_rfl
theorem npR (N:Nat) (x:Rows) (nX:Int) (tq:Rows) (m_:Nat):(fun oc=>LR (uZ N) m_ (tO x nX oc tq))=sR Vm.ke sG N x nX tq m_:=by
 induction m_ with
 | zero=>rfl
 | succ m_ ih=>
  funext oc
  refine (npP N x nX tq (LR (uZ N) m_) oc).trans ?_
  have e1:=funext fun oc=>funext fun OE=>funext fun x_6=>funext fun x_8=>npS N (LR (uZ N) m_) oc x nX OE x_6 tq (rI (nth x (Int.toNat oc)) 0) (rI (nth x (Int.toNat oc)) 1) (rI (nth x (Int.toNat oc)) 2) (rI (nth x (Int.toNat oc)) 3) (rI (nth x (Int.toNat oc)) 4) (rI (nth x (Int.toNat oc)) 5) (rI (nth x (Int.toNat oc)) 6) x_8 N
  rw[e1]
  rw[ih]
  rfl
theorem ntK (N:Nat) (t:ni):HT Tryz.prog yz yy N Tryz.f217 uA (t.enc++([]))=Pu Vm.ke sG N t:=by
 have nob:HT Tryz.prog yz yy N Tryz.f217 uA (t.enc++([]))=Pv Vm.ke sG (fun x nX tq oc=>LR (uZ N) N (tO x nX oc tq)) t:=by kernel_rfl
 refine nob.trans ?_
 unfold Pu
 have e0:(fun x nX tq oc=>LR (uZ N) N (tO x nX oc tq))=(fun x nX tq=>sR Vm.ke sG N x nX tq N):=by
  funext x nX tq
  exact npR N x nX tq N
 exact congrArg (fun l_=>Pv Vm.ke sG l_ t) e0
theorem ntJ:D8 Tryz.prog 217 uA:=by
 refine nO (A:=yy) ntL Tryz.func217 fun ds (hw:kc (ni.ct++([])) ds) _=> ?_
 obtain⟨t,ds,rfl,h_t,hw⟩:=ni.nA (r:=_) hw
 obtain rfl:=nc hw
 obtain⟨N,hN⟩:=ntI Vm.ke sG t h_t
 exact⟨N,((ntK N t).trans hN).trans (by kernel_rfl)⟩
abbrev V0:Sum:=uA
def neX:Ctx:=[(106,oP),(254,Wb)]
theorem nvw:bF Tryz.prog neX:=Ic oW (Ic nvF JA)
def neW:List (Nat×lE):=[(4, {ca:=[(1,.mN),(3,.mN)],boxes:=[(64,[])]})]
def neY:Bool→kM:=(fun r0=>((true,[.bool r0]):kM))
def nsw (k:Int) (tq:Rows):St:= {n:=49,sl:=[(1,.ptr 64 0),(3,.int .i64 k)],hp:=[(64,.box 73 [.sl [.i,.i,.i,.i,.i,.i,.i] tq])],ok:=true,ls:=[],lm:=[]}
theorem nvv:D8 Tryz.prog 189 V0:=by
 refine nO (A:=neW) nvw Tryz.func189 fun ds (hw:kc (ni.ct++([])) ds) _=> ?_
 obtain⟨t,ds,rfl,h_t,hw⟩:=ni.nA (r:=_) hw
 obtain rfl:=nc hw
 obtain⟨N,hN⟩:=nvu Vm.ke neY t h_t
 exact⟨N,eL (fun l_=>V1 Vm.ke neY l_ t) (funext fun tq=>nL1 (LQ Tryz.prog neX neW N Tryz.f189 V0 [true,true,false,true,false] []) (fun k=>nsw k tq) _ N) hN⟩
def NB:Sum:= {ps:=[⟨nG.ct,true⟩,⟨[.i],false⟩],rs:=[⟨[.d7 .bool],false⟩],fn:=fun ds=>(true,[.bool (yp (nG.nd ds 0) (rI ds 2))])}
def nbq:Ctx:=[(143,oy),(271,QE)]
theorem npL:bF Tryz.prog nbq:=Ic oC (Ic nmJ JA)
def nbp:List (Nat×lE):=[(4, {ca:=[(1,.mN),(24,.mN),(25,.mN),(26,.mN)],boxes:=[(128,[])]})]
def Sq:Bool→kM:=(fun r0=>((true,[.bool r0]):kM))
def nmv (nt:Int) (x:Rows) (nX oc:Int) (tw:Bytes) (rL:Rows):St:= {n:=36,sl:=[(1,.int .i64 nt),(24,.sl [.i] x),(25,.int .i64 nX),(26,.int .i64 oc)],hp:=[(128,.box 74 [.str tw,.sl [.i] rL])],ok:=true,ls:=[],lm:=[]}
theorem npK:D8 Tryz.prog 218 NB:=by
 refine nO (A:=nbp) npL Tryz.func218 fun ds (hw:kc (nG.ct++(.i::([]))) ds) _=> ?_
 obtain⟨s,ds,rfl,RP,hw⟩:=nG.nA (r:=_) hw
 obtain⟨nt,ds,rfl,_,hw⟩:=nj hw
 obtain rfl:=nc hw
 obtain⟨N,hN⟩:=npJ Vm.ke Sq s nt RP
 exact⟨N,Eq.trans (b:=NC Vm.ke Sq (fun x nX oc=>LR (LQ Tryz.prog nbq nbp N Tryz.f218 NB [true,true,false,true,false] []) N (nmv nt x nX oc s.Key s.Table)) s nt) (by kernel_rfl) (Eq.trans (congrArg (fun l_=>NC Vm.ke Sq l_ s nt) (by funext x nX;exact nL1 _ _ _ N)) (hN.trans (by kernel_rfl)))⟩
abbrev S5:Sum:=NB
def ncP:Ctx:=[(106,oP),(255,ne5)]
theorem nss:bF Tryz.prog ncP:=Ic oW (Ic nvA JA)
def ncO:List (Nat×lE):=[(4, {ca:=[(1,.mN),(2,.mN),(5,.mN)],boxes:=[(128,[])]})]
def ncQ:Bool→kM:=(fun r0=>((true,[.bool r0]):kM))
def noq (nt k:Int) (tw:Bytes) (rL:Rows):St:= {n:=38,sl:=[(1,.int .i64 nt),(2,.ptr 128 0),(5,.int .i64 k)],hp:=[(128,.box 74 [.str tw,.sl [.i] rL])],ok:=true,ls:=[],lm:=[]}
theorem nsr:D8 Tryz.prog 190 S5:=by
 refine nO (A:=ncO) nss Tryz.func190 fun ds (hw:kc (nG.ct++(.i::([]))) ds) _=> ?_
 obtain⟨s,ds,rfl,RP,hw⟩:=nG.nA (r:=_) hw
 obtain⟨nt,ds,rfl,_,hw⟩:=nj hw
 obtain rfl:=nc hw
 obtain⟨N,hN⟩:=nsq Vm.ke ncQ s nt RP
 exact⟨N,eL (fun l_=>S6 Vm.ke ncQ l_ s nt) (funext fun rL=>nL1 (LQ Tryz.prog ncP ncO N Tryz.f190 S5 [true,true,false,true,false] []) (fun k=>noq nt k s.Key rL) _ N) hN⟩
def sF:Sum:= {ps:=[⟨nk.ct,true⟩,⟨[.i],false⟩],rs:=[⟨[.d7 .bool],false⟩],fn:=fun ds=>(true,[.bool (rz (nk.nd ds 0) (rI ds 4))])}
def vl:Ctx:=[(216,Pp),(217,uA),(218,NB)]
theorem nj6:bF Tryz.prog vl:=Ic ntD (Ic ntJ (Ic npK JA))
def vk:List (Nat×lE):=[(4, {ca:=[(1,.mN),(2,.mN),(27,.mN),(28,.mN),(29,.mN)],boxes:=[(128,[])]}),(10, {ca:=[(1,.mN),(45,.mN),(46,.mN),(47,.mN)],boxes:=[(128,[])]})]
def ra:Bool→kM:=(fun r0=>((true,[.bool r0]):kM))
def uz (nt:Int) (x:Rows) (nX oc:Int) (tw rL:Rows) (Yq:Bytes) (Yr:Rows):St:= {n:=61,sl:=[(1,.int .i64 nt),(2,.ptr 128 0),(27,.sl [.i,.i,.i,.i,.i,.i,.i,.i,.i] x),(28,.int .i64 nX),(29,.int .i64 oc)],hp:=[(128,.box 76 [.sl [.i,.i,.i,.i,.i,.i,.i,.i,.i] tw,.sl [.i,.i,.i,.i,.i,.i,.i] rL,.str Yq,.sl [.i] Yr])],ok:=true,ls:=[],lm:=[]}
def wQ (nt:Int) (rL:Rows) (xf OE:Int) (tw s_6:Rows) (Yq:Bytes) (Yr:Rows):St:= {n:=61,sl:=[(1,.int .i64 nt),(45,.sl [.i,.i,.i,.i,.i,.i,.i] rL),(46,.int .i64 xf),(47,.int .i64 OE)],hp:=[(128,.box 76 [.sl [.i,.i,.i,.i,.i,.i,.i,.i,.i] tw,.sl [.i,.i,.i,.i,.i,.i,.i] s_6,.str Yq,.sl [.i] Yr])],ok:=true,ls:=[],lm:=[]}
noncomputable def wP (N:Nat):(St→kM)→St→kM:=LQ Tryz.prog vl vk N Tryz.f147 sF [true,true,true,false,true,false] []
noncomputable def uw (N:Nat):(St→kM)→St→kM:=LQ Tryz.prog vl vk N Tryz.f147 sF [true,true,false,true,false] []
theorem nhM (N:Nat) (nt:Int) (rL:Rows) (xf:Int) (tw s_6:Rows) (Yq:Bytes) (Yr:Rows) (ih:St→kM) (OE:Int):wP N ih (wQ nt rL xf OE tw s_6 Yq Yr)=uy Vm.ke ra nt rL xf (fun OE=>ih (wQ nt rL xf OE tw s_6 Yq Yr)) OE:=by kernel_rfl
theorem nhO (N:Nat) (nt:Int) (rL:Rows) (xf:Int) (tw s_6:Rows) (Yq:Bytes) (Yr:Rows) (m_:Nat):(fun OE=>LR (wP N) m_ (wQ nt rL xf OE tw s_6 Yq Yr))=rO Vm.ke ra N nt rL xf m_:=by
 induction m_ with
 | zero=>rfl
 | succ m_ ih=>
  funext OE
  refine (nhM N nt rL xf tw s_6 Yq Yr (LR (wP N) m_) OE).trans ?_
  rw[ih]
  rfl
theorem nhL (N:Nat) (nt:Int) (x:Rows) (nX:Int) (tw rL:Rows) (Yq:Bytes) (Yr:Rows) (ih:St→kM) (oc:Int):uw N ih (uz nt x nX oc tw rL Yq Yr)=ux Vm.ke ra (fun xf OE=>LR (wP N) N (wQ nt rL xf OE tw rL Yq Yr)) nt x nX rL (fun oc=>ih (uz nt x nX oc tw rL Yq Yr)) oc:=by kernel_rfl
theorem nhN (N:Nat) (nt:Int) (x:Rows) (nX:Int) (tw rL:Rows) (Yq:Bytes) (Yr:Rows) (m_:Nat):(fun oc=>LR (uw N) m_ (uz nt x nX oc tw rL Yq Yr))=rN Vm.ke ra N nt x nX rL m_:=by
 induction m_ with
 | zero=>rfl
 | succ m_ ih=>
  funext oc
  refine (nhL N nt x nX tw rL Yq Yr (LR (uw N) m_) oc).trans ?_
  have e1:=funext fun xf=>nhO N nt rL xf tw rL Yq Yr N
  rw[e1]
  rw[ih]
  rfl
theorem nj5 (N:Nat) (s:nk) (nt:Int):HT Tryz.prog vl vk N Tryz.f147 sF (s.enc++(.int nt::([])))=xL Vm.ke ra N s nt:=by
 have nob:HT Tryz.prog vl vk N Tryz.f147 sF (s.enc++(.int nt::([])))=xM Vm.ke ra (fun x nX rL oc=>LR (uw N) N (uz nt x nX oc s.oO rL s.oF.Key s.oF.Table)) s nt:=by kernel_rfl
 refine nob.trans ?_
 unfold xL
 have e0:(fun x nX rL oc=>LR (uw N) N (uz nt x nX oc s.oO rL s.oF.Key s.oF.Table))=(fun x nX rL=>rN Vm.ke ra N nt x nX rL N):=by
  funext x nX rL
  exact nhN N nt x nX s.oO rL s.oF.Key s.oF.Table N
 exact congrArg (fun l_=>xM Vm.ke ra l_ s nt) e0
theorem nj4:D8 Tryz.prog 147 sF:=by
 refine nO (A:=vk) nj6 Tryz.func147 fun ds (hw:kc (nk.ct++(.i::([]))) ds) _=> ?_
 obtain⟨s,ds,rfl,RP,hw⟩:=nk.nA (r:=_) hw
 obtain⟨nt,ds,rfl,_,hw⟩:=nj hw
 obtain rfl:=nc hw
 obtain⟨N,hN⟩:=nj3 Vm.ke ra s nt RP
 exact⟨N,((nj5 N s nt).trans hN).trans (by kernel_rfl)⟩
abbrev tL:Sum:=sF
def vC:Ctx:=[(188,VT),(189,V0),(190,S5)]
theorem nl3:bF Tryz.prog vC:=Ic nvp (Ic nvv (Ic nsr JA))
def vB:List (Nat×lE):=[(4, {ca:=[(1,.mN),(2,.mN),(5,.mN)],boxes:=[(128,[])]}),(9, {ca:=[(1,.mN),(2,.mN),(6,.mN)],boxes:=[(128,[])]})]
def rj:Bool→kM:=(fun r0=>((true,[.bool r0]):kM))
def uP (nt k:Int) (tw rL:Rows) (Yq:Bytes) (Yr:Rows):St:= {n:=56,sl:=[(1,.int .i64 nt),(2,.ptr 128 0),(5,.int .i64 k)],hp:=[(128,.box 76 [.sl [.i,.i,.i,.i,.i,.i,.i,.i,.i] tw,.sl [.i,.i,.i,.i,.i,.i,.i] rL,.str Yq,.sl [.i] Yr])],ok:=true,ls:=[],lm:=[]}
def xd (nt qD:Int) (tw rL:Rows) (Yq:Bytes) (Yr:Rows):St:= {n:=56,sl:=[(1,.int .i64 nt),(2,.ptr 128 0),(6,.int .i64 qD)],hp:=[(128,.box 76 [.sl [.i,.i,.i,.i,.i,.i,.i,.i,.i] tw,.sl [.i,.i,.i,.i,.i,.i,.i] rL,.str Yq,.sl [.i] Yr])],ok:=true,ls:=[],lm:=[]}
noncomputable def xc (N:Nat):(St→kM)→St→kM:=LQ Tryz.prog vC vB N Tryz.f107 tL [true,true,true,false,true,false] []
noncomputable def uM (N:Nat):(St→kM)→St→kM:=LQ Tryz.prog vC vB N Tryz.f107 tL [true,true,false,true,false] []
theorem njl (N:Nat) (nt:Int) (tw rL:Rows) (Yq:Bytes) (Yr:Rows) (ih:St→kM) (qD:Int):xc N ih (xd nt qD tw rL Yq Yr)=uO Vm.ke rj nt rL (fun qD=>ih (xd nt qD tw rL Yq Yr)) qD:=by kernel_rfl
theorem njn (N:Nat) (nt:Int) (tw rL:Rows) (Yq:Bytes) (Yr:Rows) (m_:Nat):(fun qD=>LR (xc N) m_ (xd nt qD tw rL Yq Yr))=rU Vm.ke rj N nt rL m_:=by
 induction m_ with
 | zero=>rfl
 | succ m_ ih=>
  funext qD
  refine (njl N nt tw rL Yq Yr (LR (xc N) m_) qD).trans ?_
  rw[ih]
  rfl
theorem njk (N:Nat) (nt:Int) (tw rL:Rows) (Yq:Bytes) (Yr:Rows) (ih:St→kM) (k:Int):uM N ih (uP nt k tw rL Yq Yr)=uN Vm.ke rj (fun qD=>LR (xc N) N (xd nt qD tw rL Yq Yr)) nt tw rL (fun k=>ih (uP nt k tw rL Yq Yr)) k:=by kernel_rfl
theorem njm (N:Nat) (nt:Int) (tw rL:Rows) (Yq:Bytes) (Yr:Rows) (m_:Nat):(fun k=>LR (uM N) m_ (uP nt k tw rL Yq Yr))=rT Vm.ke rj N nt tw rL m_:=by
 induction m_ with
 | zero=>rfl
 | succ m_ ih=>
  funext k
  refine (njk N nt tw rL Yq Yr (LR (uM N) m_) k).trans ?_
  have e1:=njn N nt tw rL Yq Yr N
  rw[e1]
  rw[ih]
  rfl
theorem nl2 (N:Nat) (s:nk) (nt:Int):HT Tryz.prog vC vB N Tryz.f107 tL (s.enc++(.int nt::([])))=yj Vm.ke rj N s nt:=by
 have nob:HT Tryz.prog vC vB N Tryz.f107 tL (s.enc++(.int nt::([])))=yk Vm.ke rj (fun tw rL k=>LR (uM N) N (uP nt k tw rL s.oF.Key s.oF.Table)) s nt:=by kernel_rfl
 refine nob.trans ?_
 unfold yj
 have e0:(fun tw rL k=>LR (uM N) N (uP nt k tw rL s.oF.Key s.oF.Table))=(fun tw rL=>rT Vm.ke rj N nt tw rL N):=by
  funext tw rL
  exact njm N nt tw rL s.oF.Key s.oF.Table N
 exact congrArg (fun l_=>yk Vm.ke rj l_ s nt) e0
theorem nl1:D8 Tryz.prog 107 tL:=by
 refine nO (A:=vB) nl3 Tryz.func107 fun ds (hw:kc (nk.ct++(.i::([]))) ds) _=> ?_
 obtain⟨s,ds,rfl,RP,hw⟩:=nk.nA (r:=_) hw
 obtain⟨nt,ds,rfl,_,hw⟩:=nj hw
 obtain rfl:=nc hw
 obtain⟨N,hN⟩:=nl0 Vm.ke rj s nt RP
 exact⟨N,((nl2 N s nt).trans hN).trans (by kernel_rfl)⟩
def vF:Sum:= {ps:=[⟨ny.ct,true⟩],rs:=[⟨[.d7 .bool],false⟩],fn:=fun ds=>(nas (ny.nd ds 0),[.bool (nah (ny.nd ds 0))])}
def zQ:Ctx:=[(139,uY),(140,vj),(141,RZ),(142,Np),(143,oy),(144,ndB),(145,uc),(146,Su),(147,sF)]
theorem nwi:bF Tryz.prog zQ:=Ic Sn (Ic Wy (Ic noS (Ic npk (Ic oC (Ic nzN (Ic zR (Ic npZ (Ic nj4 JA))))))))
def zP:List (Nat×lE):=[(5, {ca:=[(1,.mN),(3,.mN),(61,.mN),(62,.mN)],boxes:=[(64,[])]}),(12, {ca:=[(1,.mN),(3,.mN),(103,.mN),(104,.mN),(105,.mN)],boxes:=[(64,[]),(320,[])]})]
def tu:Bool→kM:=(fun r0=>((true,[.bool r0]):kM))
def yw (n x nX:Int) (h_1 h_2:Rows) (h_3 h_4 h_5 h_6 h_7 h_8 h_9:Int) (wH wI:Rows) (wJ:Int) (qI pT pb qq:Rows) (qB:Int) (qC:Bool) (qs pn po:Rows) (pr:Bytes) (pq qt:Rows) (wK:Bool) (qu qv qw:Rows) (qM qN qO qP qQ:Int):St:= {n:=117,sl:=[(1,.ptr 64 0),(3,.int .i64 n),(61,.int .i64 x),(62,.int .i64 nX)],hp:=[(64,.box 80 [.sl [.str] h_1,.sl [.i,.i,.i,.bool] h_2,.int .i64 h_3,.int .i64 h_4,.int .i64 h_5,.int .i64 h_6,.int .i64 h_7,.int .i64 h_8,.int .i64 h_9,.sl [.i] wH,.sl [.i,.i,.sl [.i]] wI,.int .i64 wJ,.sl [.i,.i,.i,.i,.i,.i,.i,.i,.i,.i,.i,.i,.i,.i,.i,.i,.i,.i,.i,.i,.i,.i,.i,.i,.i,.str,.i,.i,.bool,.i] qI,.sl [.i,.i,.i,.sl [.i]] pT,.sl [.i,.i,.i,.i,.bool,.bool] pb,.sl [.bool] qq,.int .i64 qB,.bool qC,.sl [.i] qs,.sl [.i,.i,.i,.i,.i,.i,.i,.i,.i] pn,.sl [.i,.i,.i,.i,.i,.i,.i] po,.str pr,.sl [.i] pq,.sl [.i,.i,.i,.i,.i,.i,.str,.bool] qt,.bool wK,.sl [.str] qu,.sl [.i] qv,.sl [.i] qw,.int .i64 qM,.int .i64 qN,.int .i64 qO,.int .i64 qP,.int .i64 qQ])],ok:=true,ls:=[],lm:=[]}
def Pj (n oc OP:Int) (h_1 h_2:Rows) (h_3 h_4 h_5 h_6 h_7 h_8 h_9:Int) (wH wI:Rows) (wJ:Int) (qI pT pb qq:Rows) (qB:Int) (qC:Bool) (qs pn po:Rows) (pr:Bytes) (pq qt:Rows) (wK:Bool) (qu qv qw:Rows) (qM qN qO qP qQ c c_1 c_2 c_3 c_4:Int) (xf:Rows):St:= {n:=117,sl:=[(1,.ptr 64 0),(3,.int .i64 n),(103,.own 646592),(104,.int .i64 oc),(105,.int .i64 OP)],hp:=[(64,.box 80 [.sl [.str] h_1,.sl [.i,.i,.i,.bool] h_2,.int .i64 h_3,.int .i64 h_4,.int .i64 h_5,.int .i64 h_6,.int .i64 h_7,.int .i64 h_8,.int .i64 h_9,.sl [.i] wH,.sl [.i,.i,.sl [.i]] wI,.int .i64 wJ,.sl [.i,.i,.i,.i,.i,.i,.i,.i,.i,.i,.i,.i,.i,.i,.i,.i,.i,.i,.i,.i,.i,.i,.i,.i,.i,.str,.i,.i,.bool,.i] qI,.sl [.i,.i,.i,.sl [.i]] pT,.sl [.i,.i,.i,.i,.bool,.bool] pb,.sl [.bool] qq,.int .i64 qB,.bool qC,.sl [.i] qs,.sl [.i,.i,.i,.i,.i,.i,.i,.i,.i] pn,.sl [.i,.i,.i,.i,.i,.i,.i] po,.str pr,.sl [.i] pq,.sl [.i,.i,.i,.i,.i,.i,.str,.bool] qt,.bool wK,.sl [.str] qu,.sl [.i] qv,.sl [.i] qw,.int .i64 qM,.int .i64 qN,.int .i64 qO,.int .i64 qP,.int .i64 qQ]),(320,.box 78 [.int .i64 c,.int .i64 c_1,.int .i64 c_2,.int .i64 c_3,.int .i64 c_4]),(646592,.row 3 [.i] xf false true)],ok:=true,ls:=[],lm:=[]}
noncomputable def Pg (N:Nat):(St→kM)→St→kM:=LQ Tryz.prog zQ zP N Tryz.f47 vF [true,true,true,true,true,false,true,false] []
noncomputable def yu (N:Nat):(St→kM)→St→kM:=LQ Tryz.prog zQ zP N Tryz.f47 vF [true,true,true,false,true,false] []
theorem ntm (N:Nat) (n oc:Int) (h_1 h_2:Rows) (h_3 h_4 h_5 h_6 h_7 h_8 h_9:Int) (wH wI:Rows) (wJ:Int) (qI pT pb qq:Rows) (qB:Int) (qC:Bool) (qs pn po:Rows) (pr:Bytes) (pq qt:Rows) (wK:Bool) (qu qv qw:Rows) (qM qN qO qP qQ c c_1 c_2 c_3 c_4:Int) (xf:Rows) (ih:St→kM) (OP:Int):Pg N ih (Pj n oc OP h_1 h_2 h_3 h_4 h_5 h_6 h_7 h_8 h_9 wH wI wJ qI pT pb qq qB qC qs pn po pr pq qt wK qu qv qw qM qN qO qP qQ c c_1 c_2 c_3 c_4 xf)=Ph Vm.ke tu n oc pn po pr pq xf (fun OP=>ih (Pj n oc OP h_1 h_2 h_3 h_4 h_5 h_6 h_7 h_8 h_9 wH wI wJ qI pT pb qq qB qC qs pn po pr pq qt wK qu qv qw qM qN qO qP qQ c c_1 c_2 c_3 c_4 xf)) OP:=by kernel_rfl
theorem nto (N:Nat) (n oc:Int) (h_1 h_2:Rows) (h_3 h_4 h_5 h_6 h_7 h_8 h_9:Int) (wH wI:Rows) (wJ:Int) (qI pT pb qq:Rows) (qB:Int) (qC:Bool) (qs pn po:Rows) (pr:Bytes) (pq qt:Rows) (wK:Bool) (qu qv qw:Rows) (qM qN qO qP qQ c c_1 c_2 c_3 c_4:Int) (xf:Rows) (m_:Nat):(fun OP=>LR (Pg N) m_ (Pj n oc OP h_1 h_2 h_3 h_4 h_5 h_6 h_7 h_8 h_9 wH wI wJ qI pT pb qq qB qC qs pn po pr pq qt wK qu qv qw qM qN qO qP qQ c c_1 c_2 c_3 c_4 xf))=uu Vm.ke tu N n oc pn po pr pq xf m_:=by
 induction m_ with
 | zero=>rfl
 | succ m_ ih=>
  funext OP
  refine (ntm N n oc h_1 h_2 h_3 h_4 h_5 h_6 h_7 h_8 h_9 wH wI wJ qI pT pb qq qB qC qs pn po pr pq qt wK qu qv qw qM qN qO qP qQ c c_1 c_2 c_3 c_4 xf (LR (Pg N) m_) OP).trans ?_
  rw[ih]
  rfl
theorem ntl (N:Nat) (n x:Int) (h_1 h_2:Rows) (h_3 h_4 h_5 h_6 h_7 h_8 h_9:Int) (wH wI:Rows) (wJ:Int) (qI pT pb qq:Rows) (qB:Int) (qC:Bool) (qs pn po:Rows) (pr:Bytes) (pq qt:Rows) (wK:Bool) (qu qv qw:Rows) (qM qN qO qP qQ:Int) (ih:St→kM) (nX:Int):yu N ih (yw n x nX h_1 h_2 h_3 h_4 h_5 h_6 h_7 h_8 h_9 wH wI wJ qI pT pb qq qB qC qs pn po pr pq qt wK qu qv qw qM qN qO qP qQ)=yv Vm.ke tu (fun oc xf OP=>LR (Pg N) N (Pj n oc OP h_1 h_2 h_3 h_4 h_5 h_6 h_7 h_8 h_9 wH wI wJ qI pT pb qq qB qC qs pn po pr pq qt wK qu qv qw qM qN qO qP qQ qM qN qO qP qQ xf)) n x qI pT pb pn po pr pq qM qN qO qP qQ (fun nX=>ih (yw n x nX h_1 h_2 h_3 h_4 h_5 h_6 h_7 h_8 h_9 wH wI wJ qI pT pb qq qB qC qs pn po pr pq qt wK qu qv qw qM qN qO qP qQ)) nX:=by kernel_rfl
theorem ntn (N:Nat) (n x:Int) (h_1 h_2:Rows) (h_3 h_4 h_5 h_6 h_7 h_8 h_9:Int) (wH wI:Rows) (wJ:Int) (qI pT pb qq:Rows) (qB:Int) (qC:Bool) (qs pn po:Rows) (pr:Bytes) (pq qt:Rows) (wK:Bool) (qu qv qw:Rows) (qM qN qO qP qQ:Int) (m_:Nat):(fun nX=>LR (yu N) m_ (yw n x nX h_1 h_2 h_3 h_4 h_5 h_6 h_7 h_8 h_9 wH wI wJ qI pT pb qq qB qC qs pn po pr pq qt wK qu qv qw qM qN qO qP qQ))=sE Vm.ke tu N n x qI pT pb pn po pr pq qM qN qO qP qQ m_:=by
 induction m_ with
 | zero=>rfl
 | succ m_ ih=>
  funext nX
  refine (ntl N n x h_1 h_2 h_3 h_4 h_5 h_6 h_7 h_8 h_9 wH wI wJ qI pT pb qq qB qC qs pn po pr pq qt wK qu qv qw qM qN qO qP qQ (LR (yu N) m_) nX).trans ?_
  have e1:=funext fun oc=>funext fun xf=>nto N n oc h_1 h_2 h_3 h_4 h_5 h_6 h_7 h_8 h_9 wH wI wJ qI pT pb qq qB qC qs pn po pr pq qt wK qu qv qw qM qN qO qP qQ qM qN qO qP qQ xf N
  rw[e1]
  rw[ih]
  rfl
theorem nwh (N:Nat) (h:ny):HT Tryz.prog zQ zP N Tryz.f47 vF (h.enc++([]))=RA Vm.ke tu N h:=by
 have nob:HT Tryz.prog zQ zP N Tryz.f47 vF (h.enc++([]))=RB Vm.ke tu (fun n x qI pT pb pn po pr pq qM qN qO qP qQ nX=>LR (yu N) N (yw n x nX h.ov.nE h.Maps h.Tx.Ring.oG h.Tx.Ring.nL h.Tx.Ring.Head h.Tx.Ring.qF h.Tx.nI.oG h.Tx.nI.nL h.Tx.nI.Count h.Tx.nI.oB h.Tx.nr h.Tx.Next qI pT pb h.pd h.Filter.Mac h.Filter.pS h.Filter.pH pn po pr pq h.pG h.sk h.wE h.oX h.pC qM qN qO qP qQ)) h:=by kernel_rfl
 refine nob.trans ?_
 unfold RA
 have e0:(fun n x qI pT pb pn po pr pq qM qN qO qP qQ nX=>LR (yu N) N (yw n x nX h.ov.nE h.Maps h.Tx.Ring.oG h.Tx.Ring.nL h.Tx.Ring.Head h.Tx.Ring.qF h.Tx.nI.oG h.Tx.nI.nL h.Tx.nI.Count h.Tx.nI.oB h.Tx.nr h.Tx.Next qI pT pb h.pd h.Filter.Mac h.Filter.pS h.Filter.pH pn po pr pq h.pG h.sk h.wE h.oX h.pC qM qN qO qP qQ))=(fun n x qI pT pb pn po pr pq qM qN qO qP qQ=>sE Vm.ke tu N n x qI pT pb pn po pr pq qM qN qO qP qQ N):=by
  funext n x qI pT pb pn po pr pq qM qN qO qP qQ
  exact ntn N n x h.ov.nE h.Maps h.Tx.Ring.oG h.Tx.Ring.nL h.Tx.Ring.Head h.Tx.Ring.qF h.Tx.nI.oG h.Tx.nI.nL h.Tx.nI.Count h.Tx.nI.oB h.Tx.nr h.Tx.Next qI pT pb h.pd h.Filter.Mac h.Filter.pS h.Filter.pH pn po pr pq h.pG h.sk h.wE h.oX h.pC qM qN qO qP qQ N
 exact congrArg (fun l_=>RB Vm.ke tu l_ h) e0
theorem nwg:D8 Tryz.prog 47 vF:=by
 refine nO (A:=zP) nwi Tryz.func47 fun ds (hw:kc (ny.ct++([])) ds) aJ=> ?_
 obtain⟨h,ds,rfl,_,hw⟩:=ny.nA (r:=_) hw
 obtain rfl:=nc hw
 obtain⟨N,hN⟩:=nwf Vm.ke tu h aJ
 exact⟨N,((nwh N h).trans hN).trans (by kernel_rfl)⟩
abbrev xC:Sum:=vF
def Nj:Ctx:=[(102,xw),(103,vy),(104,XM),(105,SW),(106,oP),(107,tL),(108,noZ),(109,vO),(110,ncY)]
theorem nxQ:bF Tryz.prog Nj:=Ic SZ (Ic XF (Ic no3 (Ic nr0 (Ic oW (Ic nl1 (Ic nz_ (Ic Nk (Ic nsD JA))))))))
def Ni:List (Nat×lE):=[(5, {ca:=[(1,.mN),(3,.mN),(4,.mN)],boxes:=[(64,[])]}),(11, {ca:=[(5,.mN),(6,.mN)],boxes:=[(64,[])]})]
def tv:Bool→kM:=(fun r0=>((true,[.bool r0]):kM))
def yH (n k:Int) (h_1 h_2:Rows) (h_3 h_4 h_5 h_6 h_7 h_8 h_9:Int) (wH wI:Rows) (wJ:Int) (qI pT pb qq:Rows) (qB:Int) (qC:Bool) (qs pn po:Rows) (pr:Bytes) (pq qt:Rows) (wK:Bool) (qu qv qw:Rows) (qM qN qO qP qQ:Int):St:= {n:=123,sl:=[(1,.ptr 64 0),(3,.int .i64 n),(4,.int .i64 k)],hp:=[(64,.box 80 [.sl [.str] h_1,.sl [.i,.i,.i,.bool] h_2,.int .i64 h_3,.int .i64 h_4,.int .i64 h_5,.int .i64 h_6,.int .i64 h_7,.int .i64 h_8,.int .i64 h_9,.sl [.i] wH,.sl [.i,.i,.sl [.i]] wI,.int .i64 wJ,.sl [.i,.i,.i,.i,.i,.i,.i,.i,.i,.i,.i,.i,.i,.i,.i,.i,.i,.i,.i,.i,.i,.i,.i,.i,.i,.str,.i,.i,.bool,.i] qI,.sl [.i,.i,.i,.sl [.i]] pT,.sl [.i,.i,.i,.i,.bool,.bool] pb,.sl [.bool] qq,.int .i64 qB,.bool qC,.sl [.i] qs,.sl [.i,.i,.i,.i,.i,.i,.i,.i,.i] pn,.sl [.i,.i,.i,.i,.i,.i,.i] po,.str pr,.sl [.i] pq,.sl [.i,.i,.i,.i,.i,.i,.str,.bool] qt,.bool wK,.sl [.str] qu,.sl [.i] qv,.sl [.i] qw,.int .i64 qM,.int .i64 qN,.int .i64 qO,.int .i64 qP,.int .i64 qQ])],ok:=true,ls:=[],lm:=[]}
def PX (qD:Int) (h_1 h_2:Rows) (h_3 h_4 h_5 h_6 h_7 h_8 h_9:Int) (wH wI:Rows) (wJ:Int) (qI pT pb qq:Rows) (qB:Int) (qC:Bool) (qs pn po:Rows) (pr:Bytes) (pq qt:Rows) (wK:Bool) (qu qv qw:Rows) (qM qN qO qP qQ:Int) (list_:Rows):St:= {n:=123,sl:=[(5,.own 640320),(6,.int .i64 qD)],hp:=[(64,.box 80 [.sl [.str] h_1,.sl [.i,.i,.i,.bool] h_2,.int .i64 h_3,.int .i64 h_4,.int .i64 h_5,.int .i64 h_6,.int .i64 h_7,.int .i64 h_8,.int .i64 h_9,.sl [.i] wH,.sl [.i,.i,.sl [.i]] wI,.int .i64 wJ,.sl [.i,.i,.i,.i,.i,.i,.i,.i,.i,.i,.i,.i,.i,.i,.i,.i,.i,.i,.i,.i,.i,.i,.i,.i,.i,.str,.i,.i,.bool,.i] qI,.sl [.i,.i,.i,.sl [.i]] pT,.sl [.i,.i,.i,.i,.bool,.bool] pb,.sl [.bool] qq,.int .i64 qB,.bool qC,.sl [.i] qs,.sl [.i,.i,.i,.i,.i,.i,.i,.i,.i] pn,.sl [.i,.i,.i,.i,.i,.i,.i] po,.str pr,.sl [.i] pq,.sl [.i,.i,.i,.i,.i,.i,.str,.bool] qt,.bool wK,.sl [.str] qu,.sl [.i] qv,.sl [.i] qw,.int .i64 qM,.int .i64 qN,.int .i64 qO,.int .i64 qP,.int .i64 qQ]),(640320,.row 3 [.i] list_ false true)],ok:=true,ls:=[],lm:=[]}
noncomputable def PV (N:Nat):(St→kM)→St→kM:=LQ Tryz.prog Nj Ni N Tryz.f30 xC [true,true,true,true,true,false,true,false] []
noncomputable def yF (N:Nat):(St→kM)→St→kM:=LQ Tryz.prog Nj Ni N Tryz.f30 xC [true,true,true,false,true,false] []
theorem nu8 (N:Nat) (h_1 h_2:Rows) (h_3 h_4 h_5 h_6 h_7 h_8 h_9:Int) (wH wI:Rows) (wJ:Int) (qI pT pb qq:Rows) (qB:Int) (qC:Bool) (qs pn po:Rows) (pr:Bytes) (pq qt:Rows) (wK:Bool) (qu qv qw:Rows) (qM qN qO qP qQ:Int) (list_:Rows) (ih:St→kM) (qD:Int):PV N ih (PX qD h_1 h_2 h_3 h_4 h_5 h_6 h_7 h_8 h_9 wH wI wJ qI pT pb qq qB qC qs pn po pr pq qt wK qu qv qw qM qN qO qP qQ list_)=PW Vm.ke tv list_ (fun qD=>ih (PX qD h_1 h_2 h_3 h_4 h_5 h_6 h_7 h_8 h_9 wH wI wJ qI pT pb qq qB qC qs pn po pr pq qt wK qu qv qw qM qN qO qP qQ list_)) qD:=by kernel_rfl
theorem nu_ (N:Nat) (h_1 h_2:Rows) (h_3 h_4 h_5 h_6 h_7 h_8 h_9:Int) (wH wI:Rows) (wJ:Int) (qI pT pb qq:Rows) (qB:Int) (qC:Bool) (qs pn po:Rows) (pr:Bytes) (pq qt:Rows) (wK:Bool) (qu qv qw:Rows) (qM qN qO qP qQ:Int) (list_:Rows) (m_:Nat):(fun qD=>LR (PV N) m_ (PX qD h_1 h_2 h_3 h_4 h_5 h_6 h_7 h_8 h_9 wH wI wJ qI pT pb qq qB qC qs pn po pr pq qt wK qu qv qw qM qN qO qP qQ list_))=uE Vm.ke tv N list_ m_:=by
 induction m_ with
 | zero=>rfl
 | succ m_ ih=>
  funext qD
  refine (nu8 N h_1 h_2 h_3 h_4 h_5 h_6 h_7 h_8 h_9 wH wI wJ qI pT pb qq qB qC qs pn po pr pq qt wK qu qv qw qM qN qO qP qQ list_ (LR (PV N) m_) qD).trans ?_
  rw[ih]
  rfl
theorem nu7 (N:Nat) (n:Int) (h_1 h_2:Rows) (h_3 h_4 h_5 h_6 h_7 h_8 h_9:Int) (wH wI:Rows) (wJ:Int) (qI pT pb qq:Rows) (qB:Int) (qC:Bool) (qs pn po:Rows) (pr:Bytes) (pq qt:Rows) (wK:Bool) (qu qv qw:Rows) (qM qN qO qP qQ:Int) (ih:St→kM) (k:Int):yF N ih (yH n k h_1 h_2 h_3 h_4 h_5 h_6 h_7 h_8 h_9 wH wI wJ qI pT pb qq qB qC qs pn po pr pq qt wK qu qv qw qM qN qO qP qQ)=yG Vm.ke tv (fun list_ qD=>LR (PV N) N (PX qD h_1 h_2 h_3 h_4 h_5 h_6 h_7 h_8 h_9 wH wI wJ qI pT pb qq qB qC qs pn po pr pq qt wK qu qv qw qM qN qO qP qQ list_)) n qI pT pb qM qN qO qP qQ (fun k=>ih (yH n k h_1 h_2 h_3 h_4 h_5 h_6 h_7 h_8 h_9 wH wI wJ qI pT pb qq qB qC qs pn po pr pq qt wK qu qv qw qM qN qO qP qQ)) k:=by kernel_rfl
theorem nu9 (N:Nat) (n:Int) (h_1 h_2:Rows) (h_3 h_4 h_5 h_6 h_7 h_8 h_9:Int) (wH wI:Rows) (wJ:Int) (qI pT pb qq:Rows) (qB:Int) (qC:Bool) (qs pn po:Rows) (pr:Bytes) (pq qt:Rows) (wK:Bool) (qu qv qw:Rows) (qM qN qO qP qQ:Int) (m_:Nat):(fun k=>LR (yF N) m_ (yH n k h_1 h_2 h_3 h_4 h_5 h_6 h_7 h_8 h_9 wH wI wJ qI pT pb qq qB qC qs pn po pr pq qt wK qu qv qw qM qN qO qP qQ))=sM Vm.ke tv N n qI pT pb qM qN qO qP qQ m_:=by
 induction m_ with
 | zero=>rfl
 | succ m_ ih=>
  funext k
  refine (nu7 N n h_1 h_2 h_3 h_4 h_5 h_6 h_7 h_8 h_9 wH wI wJ qI pT pb qq qB qC qs pn po pr pq qt wK qu qv qw qM qN qO qP qQ (LR (yF N) m_) k).trans ?_
  have e1:=funext fun list_=>nu_ N h_1 h_2 h_3 h_4 h_5 h_6 h_7 h_8 h_9 wH wI wJ qI pT pb qq qB qC qs pn po pr pq qt wK qu qv qw qM qN qO qP qQ list_ N
  rw[e1]
  rw[ih]
  rfl
theorem nxP (N:Nat) (h:ny):HT Tryz.prog Nj Ni N Tryz.f30 xC (h.enc++([]))=RL Vm.ke tv N h:=by
 have nob:HT Tryz.prog Nj Ni N Tryz.f30 xC (h.enc++([]))=RM Vm.ke tv (fun n qI pT pb qM qN qO qP qQ k=>LR (yF N) N (yH n k h.ov.nE h.Maps h.Tx.Ring.oG h.Tx.Ring.nL h.Tx.Ring.Head h.Tx.Ring.qF h.Tx.nI.oG h.Tx.nI.nL h.Tx.nI.Count h.Tx.nI.oB h.Tx.nr h.Tx.Next qI pT pb h.pd h.Filter.Mac h.Filter.pS h.Filter.pH h.nz.oO h.nz.Table.nF h.nz.oF.Key h.nz.oF.Table h.pG h.sk h.wE h.oX h.pC qM qN qO qP qQ)) h:=by kernel_rfl
 refine nob.trans ?_
 unfold RL
 have e0:(fun n qI pT pb qM qN qO qP qQ k=>LR (yF N) N (yH n k h.ov.nE h.Maps h.Tx.Ring.oG h.Tx.Ring.nL h.Tx.Ring.Head h.Tx.Ring.qF h.Tx.nI.oG h.Tx.nI.nL h.Tx.nI.Count h.Tx.nI.oB h.Tx.nr h.Tx.Next qI pT pb h.pd h.Filter.Mac h.Filter.pS h.Filter.pH h.nz.oO h.nz.Table.nF h.nz.oF.Key h.nz.oF.Table h.pG h.sk h.wE h.oX h.pC qM qN qO qP qQ))=(fun n qI pT pb qM qN qO qP qQ=>sM Vm.ke tv N n qI pT pb qM qN qO qP qQ N):=by
  funext n qI pT pb qM qN qO qP qQ
  exact nu9 N n h.ov.nE h.Maps h.Tx.Ring.oG h.Tx.Ring.nL h.Tx.Ring.Head h.Tx.Ring.qF h.Tx.nI.oG h.Tx.nI.nL h.Tx.nI.Count h.Tx.nI.oB h.Tx.nr h.Tx.Next qI pT pb h.pd h.Filter.Mac h.Filter.pS h.Filter.pH h.nz.oO h.nz.Table.nF h.nz.oF.Key h.nz.oF.Table h.pG h.sk h.wE h.oX h.pC qM qN qO qP qQ N
 exact congrArg (fun l_=>RM Vm.ke tv l_ h) e0
theorem nxO:D8 Tryz.prog 30 xC:=by
 refine nO (A:=Ni) nxQ Tryz.func30 fun ds (hw:kc (ny.ct++([])) ds) aJ=> ?_
 obtain⟨h,ds,rfl,_,hw⟩:=ny.nA (r:=_) hw
 obtain rfl:=nc hw
 obtain⟨N,hN⟩:=nxN Vm.ke tv h aJ
 exact⟨N,((nxP N h).trans hN).trans (by kernel_rfl)⟩
def V8:Sum:= {ps:=[⟨[.i],false⟩,⟨[.int .u8],false⟩],rs:=[⟨[.d7 .str],false⟩],fn:=fun ds=>(QF (rI ds 0) (rI ds 1),[.str (NJ (rI ds 0) (rI ds 1))])}
def ne2:List (Nat×lE):=[(3, {ca:=[(0,.mN),(1,.mN),(5,.mN),(6,.mN)],boxes:=[]})]
def ne3:Bytes→kM:=(fun r0=>((true,[.str r0]):kM))
def nsG (n x i:Int) (nV:Rows):St:= {n:=20,sl:=[(0,.int .i64 n),(1,.int .u8 x),(5,.own 640320),(6,.int .i64 i)],hp:=[(640320,.row 5 [.int .u8] nV false true)],ok:=true,ls:=[],lm:=[]}
theorem nvy:D8 Tryz.prog 311 V8:=by
 refine nO (A:=ne2) JA Tryz.func311 fun ds (hw:kc (.i::((.int .u8)::([]))) ds) aJ=> ?_
 obtain⟨n,ds,rfl,_,hw⟩:=nj hw
 obtain⟨x,ds,rfl,h_x,hw⟩:=nj hw
 obtain rfl:=nc hw
 obtain⟨N,hN⟩:=nvx Vm.ke ne3 n x h_x aJ
 exact⟨N,eL (fun l_=>V9 Vm.ke ne3 l_ n x) (Wp (LQ Tryz.prog [] ne2 N Tryz.f311 V8 [true,true,false,true,false] []) (nsG n x) _ N) hN⟩
def X3:Sum:= {ps:=[⟨[.int .u8],false⟩,⟨[.i],false⟩],rs:=[⟨[.d7 .str],false⟩],fn:=fun ds=>(nfI (rI ds 0) (rI ds 1),[.str (nlF (rI ds 0) (rI ds 1))])}
def ngI:List (Nat×lE):=[(3, {ca:=[(0,.mN),(5,.mN),(10,.mN),(11,.mN)],boxes:=[]})]
def ngJ:Bytes→kM:=(fun r0=>((true,[.str r0]):kM))
def ntS (b x nX:Int) (nV:Rows):St:= {n:=21,sl:=[(0,.int .u8 b),(5,.own 640320),(10,.int .i64 x),(11,.int .i64 nX)],hp:=[(640320,.row 5 [.int .u8] nV false true)],ok:=true,ls:=[],lm:=[]}
theorem nwD:D8 Tryz.prog 319 X3:=by
 refine nO (A:=ngI) JA Tryz.func319 fun ds (hw:kc ((.int .u8)::(.i::([]))) ds) aJ=> ?_
 obtain⟨b,ds,rfl,h_b,hw⟩:=nj hw
 obtain⟨n,ds,rfl,_,hw⟩:=nj hw
 obtain rfl:=nc hw
 obtain⟨N,hN⟩:=nwC Vm.ke ngJ b n h_b aJ
 exact⟨N,eL (fun l_=>X4 Vm.ke ngJ l_ b n) (funext fun x=>Wp (LQ Tryz.prog [] ngI N Tryz.f319 X3 [true,true,false,true,false] []) (ntS b x) _ N) hN⟩
def vG:Sum:= {ps:=[⟨[.i],false⟩],rs:=[⟨[.d7 .str],false⟩],fn:=fun ds=>(true,[.str (oJ (rI ds 0))])}
def nwv:Ctx:=[(143,oy)]
theorem nwx:bF Tryz.prog nwv:=Ic oC JA
theorem zS:D8 Tryz.prog 230 vG:=by
 refine nO (A:=[]) nwx Tryz.func230 fun ds (hw:kc (.i::([])) ds) _=> ?_
 obtain⟨v,ds,rfl,_,hw⟩:=nj hw
 obtain rfl:=nc hw
 exact⟨0,eT (nww (fun r0=>((true,[.str r0]):kM)) v)⟩
abbrev xD:Sum:=vG
def nx6:Ctx:=[(106,oP)]
theorem nx9:bF Tryz.prog nx6:=Ic oW JA
theorem Nm:D8 Tryz.prog 202 xD:=by
 refine nO (A:=[]) nx9 Tryz.func202 fun ds (hw:kc (.i::([])) ds) _=> ?_
 obtain⟨v,ds,rfl,_,hw⟩:=nj hw
 obtain rfl:=nc hw
 exact⟨0,eT (nx7 (fun r0=>((true,[.str r0]):kM)) v)⟩
def sf:Sum:= {ps:=[⟨[.i],false⟩],rs:=[⟨[.d7 .str],false⟩],fn:=fun ds=>(true,[.str (nJ (rI ds 0))])}
def nws:Ctx:=[(143,oy)]
theorem nwu:bF Tryz.prog nws:=Ic oC JA
theorem ud:D8 Tryz.prog 224 sf:=by
 refine nO (A:=[]) nwu Tryz.func224 fun ds (hw:kc (.i::([])) ds) _=> ?_
 obtain⟨v,ds,rfl,_,hw⟩:=nj hw
 obtain rfl:=nc hw
 exact⟨0,eT (nwt (fun r0=>((true,[.str r0]):kM)) v)⟩
abbrev uf:Sum:=sf
def nx2:Ctx:=[(106,oP)]
theorem nx5:bF Tryz.prog nx2:=Ic oW JA
theorem vP:D8 Tryz.prog 197 uf:=by
 refine nO (A:=[]) nx5 Tryz.func197 fun ds (hw:kc (.i::([])) ds) _=> ?_
 obtain⟨v,ds,rfl,_,hw⟩:=nj hw
 obtain rfl:=nc hw
 exact⟨0,eT (nx3 (fun r0=>((true,[.str r0]):kM)) v)⟩
def Uj:Sum:= {ps:=[⟨[.i],false⟩,⟨[.i],false⟩],rs:=[⟨[.d7 .i],false⟩],fn:=fun ds=>(true,[.int (nfy (rI ds 0) (rI ds 1))])}
def ntc:Ctx:=[(143,oy)]
theorem ntf:bF Tryz.prog ntc:=Ic oC JA
theorem nte:D8 Tryz.prog 336 Uj:=by
 refine nO (A:=[]) ntf Tryz.func336 fun ds (hw:kc (.i::(.i::([]))) ds) _=> ?_
 obtain⟨a,ds,rfl,_,hw⟩:=nj hw
 obtain⟨b,ds,rfl,_,hw⟩:=nj hw
 obtain rfl:=nc hw
 exact⟨0,eT (ntd (fun r0=>((true,[.int r0]):kM)) a b)⟩
abbrev neD:Sum:=Uj
def nuY:Ctx:=[(106,oP)]
theorem nu2:bF Tryz.prog nuY:=Ic oW JA
theorem nu0:D8 Tryz.prog 333 neD:=by
 refine nO (A:=[]) nu2 Tryz.func333 fun ds (hw:kc (.i::(.i::([]))) ds) _=> ?_
 obtain⟨a,ds,rfl,_,hw⟩:=nj hw
 obtain⟨b,ds,rfl,_,hw⟩:=nj hw
 obtain rfl:=nc hw
 exact⟨0,eT (nuZ (fun r0=>((true,[.int r0]):kM)) a b)⟩
def ND:Sum:= {ps:=[⟨[.str],false⟩],rs:=[⟨[.d7 .i],false⟩],fn:=fun ds=>(ss (rS ds 0),[.int (Uc (rS ds 0))])}
def nbt:Ctx:=[(336,Uj)]
theorem npO:bF Tryz.prog nbt:=Ic nte JA
def nbs:List (Nat×lE):=[(3, {ca:=[(0,.mN),(3,.mN),(4,.mN)],boxes:=[]})]
def nbu:Int→kM:=(fun r0=>((true,[.int r0]):kM))
def nmw (s:Bytes) (sum i:Int):St:= {n:=33,sl:=[(0,.str s),(3,.int .i64 sum),(4,.int .i64 i)],hp:=[],ok:=true,ls:=[],lm:=[]}
theorem npN:D8 Tryz.prog 327 ND:=by
 refine nO (A:=nbs) npO Tryz.func327 fun ds (hw:kc (.str::([])) ds) aJ=> ?_
 obtain⟨s,ds,rfl,RP,hw⟩:=qj hw
 obtain rfl:=nc hw
 obtain⟨N,hN⟩:=npM Vm.ke nbu s RP aJ
 exact⟨N,eL (fun l_=>Sr Vm.ke nbu l_ s) (Wp (LQ Tryz.prog nbt nbs N Tryz.f327 ND [true,true,false,true,false] []) (nmw s) _ N) hN⟩
abbrev S7:Sum:=ND
def ncT:Ctx:=[(333,neD)]
theorem nsv:bF Tryz.prog ncT:=Ic nu0 JA
def ncS:List (Nat×lE):=[(3, {ca:=[(0,.mN),(3,.mN),(4,.mN)],boxes:=[]})]
def ncU:Int→kM:=(fun r0=>((true,[.int r0]):kM))
def nor (s:Bytes) (sum i:Int):St:= {n:=33,sl:=[(0,.str s),(3,.int .i64 sum),(4,.int .i64 i)],hp:=[],ok:=true,ls:=[],lm:=[]}
theorem nsu:D8 Tryz.prog 324 S7:=by
 refine nO (A:=ncS) nsv Tryz.func324 fun ds (hw:kc (.str::([])) ds) aJ=> ?_
 obtain⟨s,ds,rfl,RP,hw⟩:=qj hw
 obtain rfl:=nc hw
 obtain⟨N,hN⟩:=nst Vm.ke ncU s RP aJ
 exact⟨N,eL (fun l_=>S8 Vm.ke ncU l_ s) (Wp (LQ Tryz.prog ncT ncS N Tryz.f324 S7 [true,true,false,true,false] []) (nor s) _ N) hN⟩
def Nn:Sum:= {ps:=[⟨[.str],false⟩],rs:=[⟨[.d7 .i],false⟩],fn:=fun ds=>(ss (rS ds 0),[.int (xg (rS ds 0))])}
def npc:Ctx:=[(327,ND)]
theorem npe:bF Tryz.prog npc:=Ic npN JA
theorem na4:D8 Tryz.prog 302 Nn:=by
 refine nO (A:=[]) npe Tryz.func302 fun ds (hw:kc (.str::([])) ds) aJ=> ?_
 obtain⟨s,ds,rfl,_,hw⟩:=qj hw
 obtain rfl:=nc hw
 exact⟨0,eT (npd Vm.ke (fun r0=>((true,[.int r0]):kM)) s aJ)⟩
abbrev SR:Sum:=Nn
def nrU:Ctx:=[(324,S7)]
theorem nrW:bF Tryz.prog nrU:=Ic nsu JA
theorem ncn:D8 Tryz.prog 288 SR:=by
 refine nO (A:=[]) nrW Tryz.func288 fun ds (hw:kc (.str::([])) ds) aJ=> ?_
 obtain⟨s,ds,rfl,_,hw⟩:=qj hw
 obtain rfl:=nc hw
 exact⟨0,eT (nrV Vm.ke (fun r0=>((true,[.int r0]):kM)) s aJ)⟩
def Rr:Sum:= {ps:=[⟨[.str],false⟩,⟨[.i],false⟩,⟨[.i],false⟩],rs:=[⟨[.d7 .bool],false⟩],fn:=fun ds=>(true,[.bool (rq (rS ds 0) (rI ds 1) (rI ds 2))])}
theorem Z_:D8 Tryz.prog 262 Rr:=by
 refine nO (A:=[]) JA Tryz.func262 fun ds (hw:kc (.str::(.i::(.i::([])))) ds) _=> ?_
 obtain⟨s,ds,rfl,_,hw⟩:=qj hw
 obtain⟨at_,ds,rfl,_,hw⟩:=nj hw
 obtain⟨n,ds,rfl,_,hw⟩:=nj hw
 obtain rfl:=nc hw
 exact⟨0,eT (nos (fun r0=>((true,[.bool r0]):kM)) s at_ n)⟩
def xj:Sum:= {ps:=[⟨[.str],false⟩,⟨[.i],false⟩,⟨[.str],false⟩],rs:=[⟨[.d7 .str],false⟩],fn:=fun ds=>(oK (rS ds 0) (rI ds 1) (rS ds 2),[.str (qY (rS ds 0) (rI ds 1) (rS ds 2))])}
theorem Sp:D8 Tryz.prog 223 xj:=by
 refine nO (A:=[]) JA Tryz.func223 fun ds (hw:kc (.str::(.i::(.str::([])))) ds) aJ=> ?_
 obtain⟨s,ds,rfl,_,hw⟩:=qj hw
 obtain⟨at_,ds,rfl,_,hw⟩:=nj hw
 obtain⟨part,ds,rfl,_,hw⟩:=qj hw
 obtain rfl:=nc hw
 exact⟨0,eT (npB Vm.ke (fun r0=>((true,[.str r0]):kM)) s at_ part aJ)⟩
abbrev xx:Sum:=xj
def nsf:Ctx:=[(262,Rr)]
theorem nsh:bF Tryz.prog nsf:=Ic Z_ JA
theorem N4:D8 Tryz.prog 196 xx:=by
 refine nO (A:=[]) nsh Tryz.func196 fun ds (hw:kc (.str::(.i::(.str::([])))) ds) aJ=> ?_
 obtain⟨s,ds,rfl,_,hw⟩:=qj hw
 obtain⟨at_,ds,rfl,_,hw⟩:=nj hw
 obtain⟨part,ds,rfl,_,hw⟩:=qj hw
 obtain rfl:=nc hw
 exact⟨0,eT (nsg Vm.ke (fun r0=>((true,[.str r0]):kM)) s at_ part aJ)⟩
def zA:Sum:= {ps:=[⟨[.i],false⟩,⟨[.i],false⟩,⟨[.i],false⟩,⟨[.i],false⟩],rs:=[⟨[.d7 .str],false⟩,⟨[.d7 .bool],false⟩],fn:=fun ds=>(true,[.str (pP (rI ds 0) (rI ds 1) (rI ds 2) (rI ds 3)).1]++[.bool (pP (rI ds 0) (rI ds 1) (rI ds 2) (rI ds 3)).2])}
def nfN:Ctx:=[(143,oy),(224,sf),(230,vG)]
theorem nfQ:bF Tryz.prog nfN:=Ic oC (Ic ud (Ic zS JA))
theorem nfP:D8 Tryz.prog 300 zA:=by
 refine nO (A:=[]) nfQ Tryz.func300 fun ds (hw:kc (.i::(.i::(.i::(.i::([]))))) ds) _=> ?_
 obtain⟨src,ds,rfl,_,hw⟩:=nj hw
 obtain⟨dst,ds,rfl,_,hw⟩:=nj hw
 obtain⟨kind,ds,rfl,_,hw⟩:=nj hw
 obtain⟨length,ds,rfl,_,hw⟩:=nj hw
 obtain rfl:=nc hw
 exact⟨0,eT (nfO Vm.ke (fun r0 r1=>((true,[.str r0]++[.bool r1]):kM)) src dst kind length)⟩
abbrev TN:Sum:=zA
def ngu:Ctx:=[(106,oP),(197,uf),(202,xD)]
theorem ngx:bF Tryz.prog ngu:=Ic oW (Ic vP (Ic Nm JA))
theorem ngw:D8 Tryz.prog 289 TN:=by
 refine nO (A:=[]) ngx Tryz.func289 fun ds (hw:kc (.i::(.i::(.i::(.i::([]))))) ds) _=> ?_
 obtain⟨src,ds,rfl,_,hw⟩:=nj hw
 obtain⟨dst,ds,rfl,_,hw⟩:=nj hw
 obtain⟨kind,ds,rfl,_,hw⟩:=nj hw
 obtain⟨length,ds,rfl,_,hw⟩:=nj hw
 obtain rfl:=nc hw
 exact⟨0,eT (ngv Vm.ke (fun r0 r1=>((true,[.str r0]++[.bool r1]):kM)) src dst kind length)⟩
def SC:Sum:= {ps:=[⟨[.i],false⟩],rs:=[⟨[.d7 .i],false⟩],fn:=fun ds=>(true,[.int (vD (rI ds 0))])}
theorem nbI:D8 Tryz.prog 277 SC:=by
 refine nO (A:=[]) JA Tryz.func277 fun ds (hw:kc (.i::([])) ds) _=> ?_
 obtain⟨kind,ds,rfl,_,hw⟩:=nj hw
 obtain rfl:=nc hw
 exact⟨0,eT (nqf (fun r0=>((true,[.int r0]):kM)) kind)⟩
def UD:Sum:= {ps:=[⟨nD.ct,true⟩],rs:=[⟨[.d7 .str],false⟩],fn:=fun ds=>(nyF (nD.nd ds 0),[.str (o_ (nD.nd ds 0))])}
def nhW:Ctx:=[(224,sf),(230,vG)]
theorem nhZ:bF Tryz.prog nhW:=Ic ud (Ic zS JA)
theorem nhY:D8 Tryz.prog 315 UD:=by
 refine nO (A:=[]) nhZ Tryz.func315 fun ds (hw:kc (nD.ct++([])) ds) aJ=> ?_
 obtain⟨g,ds,rfl,_,hw⟩:=nD.nA (r:=_) hw
 obtain rfl:=nc hw
 exact⟨0,eT (nhX Vm.ke (fun r0=>((true,[.str r0]):kM)) g aJ)⟩
def zz:Sum:= {ps:=[⟨[.i],false⟩,⟨[.i],false⟩,⟨nD.ct,true⟩],rs:=[⟨[.d7 .str],false⟩,⟨[.d7 .bool],false⟩],fn:=fun ds=>(true,[.str (rM (rI ds 0) (rI ds 1) (nD.nd ds 2)).1]++[.bool (rM (rI ds 0) (rI ds 1) (nD.nd ds 2)).2])}
def nfJ:Ctx:=[(219,yU),(223,xj),(224,sf),(277,SC),(300,zA),(302,Nn),(315,UD)]
theorem nfM:bF Tryz.prog nfJ:=Ic YC (Ic Sp (Ic ud (Ic nbI (Ic nfP (Ic na4 (Ic nhY JA))))))
theorem nfL:D8 Tryz.prog 272 zz:=by
 refine nO (A:=[]) nfM Tryz.func272 fun ds (hw:kc (.i::(.i::(nD.ct++([])))) ds) _=> ?_
 obtain⟨src,ds,rfl,_,hw⟩:=nj hw
 obtain⟨dst,ds,rfl,_,hw⟩:=nj hw
 obtain⟨g,ds,rfl,_,hw⟩:=nD.nA (r:=_) hw
 obtain rfl:=nc hw
 exact⟨0,eT (nfK Vm.ke (fun r0 r1=>((true,[.str r0]++[.bool r1]):kM)) src dst g)⟩
abbrev TK:Sum:=zz
def ngq:Ctx:=[(196,xx),(197,uf),(202,xD),(256,Rq),(288,SR),(289,TN)]
theorem ngt:bF Tryz.prog ngq:=Ic N4 (Ic vP (Ic Nm (Ic Z8 (Ic ncn (Ic ngw JA)))))
theorem ngs:D8 Tryz.prog 257 TK:=by
 refine nO (A:=[]) ngt Tryz.func257 fun ds (hw:kc (.i::(.i::(nD.ct++([])))) ds) _=> ?_
 obtain⟨src,ds,rfl,_,hw⟩:=nj hw
 obtain⟨dst,ds,rfl,_,hw⟩:=nj hw
 obtain⟨g,ds,rfl,_,hw⟩:=nD.nA (r:=_) hw
 obtain rfl:=nc hw
 exact⟨0,eT (ngr Vm.ke (fun r0 r1=>((true,[.str r0]++[.bool r1]):kM)) src dst g)⟩
def ndt:Sum:= {ps:=[⟨wF.ct,true⟩],rs:=[⟨[.d7 .bool],false⟩],fn:=fun ds=>(true,[.bool (nsY (wF.nd ds 0))])}
def nzH:Ctx:=[(143,oy)]
theorem nzK:bF Tryz.prog nzH:=Ic oC JA
theorem nzJ:D8 Tryz.prog 330 ndt:=by
 refine nO (A:=[]) nzK Tryz.func330 fun ds (hw:kc (wF.ct++([])) ds) _=> ?_
 obtain⟨d,ds,rfl,_,hw⟩:=wF.nA (r:=_) hw
 obtain rfl:=nc hw
 exact⟨0,eT (nzI (fun r0=>((true,[.bool r0]):kM)) d)⟩
abbrev noY:Sum:=ndt
def nz3:Ctx:=[(106,oP)]
theorem nz7:bF Tryz.prog nz3:=Ic oW JA
theorem nz5:D8 Tryz.prog 329 noY:=by
 refine nO (A:=[]) nz7 Tryz.func329 fun ds (hw:kc (wF.ct++([])) ds) _=> ?_
 obtain⟨d,ds,rfl,_,hw⟩:=wF.nA (r:=_) hw
 obtain rfl:=nc hw
 exact⟨0,eT (nz4 (fun r0=>((true,[.bool r0]):kM)) d)⟩
def Sl:Sum:= {ps:=[⟨wF.ct,true⟩],rs:=[⟨[.d7 .str],false⟩,⟨[.d7 .bool],false⟩],fn:=fun ds=>(true,[.str (rE (wF.nd ds 0)).1]++[.bool (rE (wF.nd ds 0)).2])}
def npt:Ctx:=[(223,xj),(224,sf),(230,vG),(302,Nn),(330,ndt)]
theorem npw:bF Tryz.prog npt:=Ic Sp (Ic ud (Ic zS (Ic na4 (Ic nzJ JA))))
theorem npv:D8 Tryz.prog 316 Sl:=by
 refine nO (A:=[]) npw Tryz.func316 fun ds (hw:kc (wF.ct++([])) ds) _=> ?_
 obtain⟨d,ds,rfl,_,hw⟩:=wF.nA (r:=_) hw
 obtain rfl:=nc hw
 exact⟨0,eT (npu Vm.ke (fun r0 r1=>((true,[.str r0]++[.bool r1]):kM)) d)⟩
abbrev ncB:Sum:=Sl
def nr8:Ctx:=[(196,xx),(197,uf),(202,xD),(288,SR),(329,noY)]
theorem nsa:bF Tryz.prog nr8:=Ic N4 (Ic vP (Ic Nm (Ic ncn (Ic nz5 JA))))
theorem nr_:D8 Tryz.prog 308 ncB:=by
 refine nO (A:=[]) nsa Tryz.func308 fun ds (hw:kc (wF.ct++([])) ds) _=> ?_
 obtain⟨d,ds,rfl,_,hw⟩:=wF.nA (r:=_) hw
 obtain rfl:=nc hw
 exact⟨0,eT (nr9 Vm.ke (fun r0 r1=>((true,[.str r0]++[.bool r1]):kM)) d)⟩
def Uk:Sum:= {ps:=[⟨wF.ct,true⟩],rs:=[⟨[.d7 .str],false⟩,⟨[.d7 .bool],false⟩],fn:=fun ds=>(true,[.str (yJ (wF.nd ds 0)).1]++[.bool (yJ (wF.nd ds 0)).2])}
def ntg:Ctx:=[(316,Sl)]
theorem ntk:bF Tryz.prog ntg:=Ic npv JA
theorem ntj:D8 Tryz.prog 273 Uk:=by
 refine nO (A:=[]) ntk Tryz.func273 fun ds (hw:kc (wF.ct++([])) ds) _=> ?_
 obtain⟨d,ds,rfl,_,hw⟩:=wF.nA (r:=_) hw
 obtain rfl:=nc hw
 exact⟨0,eT (nti Vm.ke (fun r0 r1=>((true,[.str r0]++[.bool r1]):kM)) d)⟩
abbrev neJ:Sum:=Uk
def nu3:Ctx:=[(308,ncB)]
theorem nu6:bF Tryz.prog nu3:=Ic nr_ JA
theorem nu5:D8 Tryz.prog 258 neJ:=by
 refine nO (A:=[]) nu6 Tryz.func258 fun ds (hw:kc (wF.ct++([])) ds) _=> ?_
 obtain⟨d,ds,rfl,_,hw⟩:=wF.nA (r:=_) hw
 obtain rfl:=nc hw
 exact⟨0,eT (nu4 Vm.ke (fun r0 r1=>((true,[.str r0]++[.bool r1]):kM)) d)⟩
def Up:Sum:= {ps:=[⟨[.str],false⟩],rs:=[⟨[.d7 .str],false⟩],fn:=fun ds=>(true,[.str (OT (rS ds 0))])}
def ntp:Ctx:=[(319,X3)]
theorem nts:bF Tryz.prog ntp:=Ic nwD JA
theorem ntr:D8 Tryz.prog 275 Up:=by
 refine nO (A:=[]) nts Tryz.func275 fun ds (hw:kc (.str::([])) ds) _=> ?_
 obtain⟨s,ds,rfl,RP,hw⟩:=qj hw
 obtain rfl:=nc hw
 exact⟨0,eT (ntq Vm.ke (fun r0=>((true,[.str r0]):kM)) s RP)⟩
abbrev neL:Sum:=Up
def nva:Ctx:=[(311,V8)]
theorem nvd:bF Tryz.prog nva:=Ic nvy JA
theorem nvc:D8 Tryz.prog 260 neL:=by
 refine nO (A:=[]) nvd Tryz.func260 fun ds (hw:kc (.str::([])) ds) _=> ?_
 obtain⟨s,ds,rfl,RP,hw⟩:=qj hw
 obtain rfl:=nc hw
 exact⟨0,eT (nvb Vm.ke (fun r0=>((true,[.str r0]):kM)) s RP)⟩
def nay:Sum:= {ps:=[⟨sa.ct,true⟩],rs:=[⟨[.d7 .bool],false⟩],fn:=fun ds=>(true,[.bool (T6 (sa.nd ds 0))])}
def nyL:Ctx:=[(143,oy)]
theorem nyO:bF Tryz.prog nyL:=Ic oC JA
theorem nyN:D8 Tryz.prog 317 nay:=by
 refine nO (A:=[]) nyO Tryz.func317 fun ds (hw:kc (sa.ct++([])) ds) _=> ?_
 obtain⟨e,ds,rfl,_,hw⟩:=sa.nA (r:=_) hw
 obtain rfl:=nc hw
 exact⟨0,eT (nyM (fun r0=>((true,[.bool r0]):kM)) e)⟩
abbrev nlO:Sum:=nay
def ny7:Ctx:=[(106,oP)]
theorem nza:bF Tryz.prog ny7:=Ic oW JA
theorem ny9:D8 Tryz.prog 309 nlO:=by
 refine nO (A:=[]) nza Tryz.func309 fun ds (hw:kc (sa.ct++([])) ds) _=> ?_
 obtain⟨e,ds,rfl,_,hw⟩:=sa.nA (r:=_) hw
 obtain rfl:=nc hw
 exact⟨0,eT (ny8 (fun r0=>((true,[.bool r0]):kM)) e)⟩
def Sz:Sum:= {ps:=[⟨[.i],false⟩],rs:=[⟨[.d7 .str],false⟩],fn:=fun ds=>(true,[.str (oS (rI ds 0))])}
def nqa:Ctx:=[(224,sf),(230,vG)]
theorem nqd:bF Tryz.prog nqa:=Ic ud (Ic zS JA)
theorem nqc:D8 Tryz.prog 318 Sz:=by
 refine nO (A:=[]) nqd Tryz.func318 fun ds (hw:kc (.i::([])) ds) _=> ?_
 obtain⟨a,ds,rfl,_,hw⟩:=nj hw
 obtain rfl:=nc hw
 exact⟨0,eT (nqb Vm.ke (fun r0=>((true,[.str r0]):kM)) a)⟩
abbrev XP:Sum:=Sz
def nl4:Ctx:=[(197,uf),(202,xD)]
theorem nl7:bF Tryz.prog nl4:=Ic vP (Ic Nm JA)
theorem nl6:D8 Tryz.prog 310 XP:=by
 refine nO (A:=[]) nl7 Tryz.func310 fun ds (hw:kc (.i::([])) ds) _=> ?_
 obtain⟨x,ds,rfl,_,hw⟩:=nj hw
 obtain rfl:=nc hw
 exact⟨0,eT (nl5 Vm.ke (fun r0=>((true,[.str r0]):kM)) x)⟩
def Si:Sum:= {ps:=[⟨sa.ct,true⟩],rs:=[⟨[.d7 .str],false⟩,⟨[.d7 .bool],false⟩],fn:=fun ds=>(true,[.str (uo (sa.nd ds 0)).1]++[.bool (uo (sa.nd ds 0)).2])}
def no9:Ctx:=[(224,sf),(317,nay),(318,Sz)]
theorem npb:bF Tryz.prog no9:=Ic ud (Ic nyN (Ic nqc JA))
theorem npa:D8 Tryz.prog 274 Si:=by
 refine nO (A:=[]) npb Tryz.func274 fun ds (hw:kc (sa.ct++([])) ds) _=> ?_
 obtain⟨e,ds,rfl,_,hw⟩:=sa.nA (r:=_) hw
 obtain rfl:=nc hw
 exact⟨0,eT (no_ Vm.ke (fun r0 r1=>((true,[.str r0]++[.bool r1]):kM)) e)⟩
abbrev ncl:Sum:=Si
def nrQ:Ctx:=[(197,uf),(309,nlO),(310,XP)]
theorem nrT:bF Tryz.prog nrQ:=Ic vP (Ic ny9 (Ic nl6 JA))
theorem nrS:D8 Tryz.prog 259 ncl:=by
 refine nO (A:=[]) nrT Tryz.func259 fun ds (hw:kc (sa.ct++([])) ds) _=> ?_
 obtain⟨e,ds,rfl,_,hw⟩:=sa.nA (r:=_) hw
 obtain rfl:=nc hw
 exact⟨0,eT (nrR Vm.ke (fun r0 r1=>((true,[.str r0]++[.bool r1]):kM)) e)⟩
def Pc:Sum:= {ps:=[⟨nx.ct,true⟩],rs:=[⟨[.d7 .str],false⟩,⟨[.d7 .bool],false⟩],fn:=fun ds=>(true,[.str (oq (nx.nd ds 0)).1]++[.bool (oq (nx.nd ds 0)).2])}
def njL:Ctx:=[(148,yx),(272,zz),(273,Uk),(274,Si),(275,Up)]
theorem njO:bF Tryz.prog njL:=Ic Ux (Ic nfL (Ic ntj (Ic npa (Ic ntr JA))))
theorem njN:D8 Tryz.prog 221 Pc:=by
 refine nO (A:=[]) njO Tryz.func221 fun ds (hw:kc (nx.ct++([])) ds) _=> ?_
 obtain⟨p,ds,rfl,_,hw⟩:=nx.nA (r:=_) hw
 obtain rfl:=nc hw
 exact⟨0,eT (njM (fun r0 r1=>((true,[.str r0]++[.bool r1]):kM)) p)⟩
abbrev XB:Sum:=Pc
def nlG:Ctx:=[(192,VZ),(257,TK),(258,neJ),(259,ncl),(260,neL)]
theorem nlJ:bF Tryz.prog nlG:=Ic neU (Ic ngs (Ic nu5 (Ic nrS (Ic nvc JA))))
theorem nlI:D8 Tryz.prog 194 XB:=by
 refine nO (A:=[]) nlJ Tryz.func194 fun ds (hw:kc (nx.ct++([])) ds) _=> ?_
 obtain⟨p,ds,rfl,_,hw⟩:=nx.nA (r:=_) hw
 obtain rfl:=nc hw
 exact⟨0,eT (nlH (fun r0 r1=>((true,[.str r0]++[.bool r1]):kM)) p)⟩
def nkh:Sum:= {ps:=[⟨[.sl [.i,.i,.i,.bool]],false⟩,⟨[.i],false⟩,⟨[.i],false⟩,⟨[.bool],false⟩],rs:=[⟨[.d7 .i],false⟩],fn:=fun ds=>(true,[.int (place (rR ds 0) (rI ds 1) (rI ds 2) (rB ds 3))])}
def nyS:Ctx:=[(212,wT)]
theorem nyV:bF Tryz.prog nyS:=Ic US JA
theorem nyU:D8 Tryz.prog 331 nkh:=by
 refine nO (A:=[]) nyV Tryz.func331 fun ds (hw:kc ((.sl [.i,.i,.i,.bool])::(.i::(.i::(.bool::([]))))) ds) _=> ?_
 obtain⟨list_,ds,rfl,pE,hw⟩:=nH hw
 obtain⟨domain,ds,rfl,_,hw⟩:=nj hw
 obtain⟨address,ds,rfl,_,hw⟩:=nj hw
 obtain⟨write,ds,rfl,_,hw⟩:=Ri hw
 obtain rfl:=nc hw
 exact⟨0,eT (nyT Vm.ke (fun r0=>((true,[.int r0]):kM)) list_ domain address write pE)⟩
def RG:Sum:= {ps:=[⟨na.ct,true⟩,⟨[.i],false⟩,⟨[.i],false⟩],rs:=[⟨[.d7 .bool],false⟩],fn:=fun ds=>(true,[.bool (within (na.nd ds 0) (rI ds 1) (rI ds 2))])}
def nwK:Ctx:=[(139,uY)]
theorem nwM:bF Tryz.prog nwK:=Ic Sn JA
theorem ngR:D8 Tryz.prog 332 RG:=by
 refine nO (A:=[]) nwM Tryz.func332 fun ds hw _=> ?_
 replace hw:kc (na.ct++(.i::(.i::([])))) ds:=hw
 obtain⟨m,ds,rfl,_,hw⟩:=na.nA (r:=_) hw
 obtain⟨at_,ds,rfl,_,hw⟩:=nj hw
 obtain⟨n,ds,rfl,_,hw⟩:=nj hw
 obtain rfl:=nc hw
 exact⟨0,eT (nwL (fun r0=>((true,[.bool r0]):kM)) m at_ n)⟩
abbrev Rt:Sum:=RG
def nou:Ctx:=[(102,xw)]
theorem nox:bF Tryz.prog nou:=Ic SZ JA
theorem naa:D8 Tryz.prog 313 Rt:=by
 refine nO (A:=[]) nox Tryz.func313 fun ds hw _=> ?_
 replace hw:kc (na.ct++(.i::(.i::([])))) ds:=hw
 obtain⟨m,ds,rfl,h_m,hw⟩:=na.nA (r:=_) hw
 obtain⟨at_,ds,rfl,ndm,hw⟩:=nj hw
 obtain⟨n,ds,rfl,h_n,hw⟩:=nj hw
 obtain rfl:=nc hw
 exact⟨0,eT (nov (fun r0=>((true,[.bool r0]):kM)) m at_ n h_m ndm h_n)⟩
def Oi:Sum:= {ps:=[⟨na.ct,true⟩,⟨[.i],false⟩,⟨[.str],false⟩],rs:=[⟨[.own 9 [.str]],true⟩,⟨[.d7 .bool],false⟩],fn:=fun ds=>(rF (na.nd ds 0) (rI ds 1) (rS ds 2),na.enc (qh (na.nd ds 0) (rI ds 1) (rS ds 2)).1++[.bool (qh (na.nd ds 0) (rI ds 1) (rS ds 2)).2])}
def UA:Ctx:=[(1125899906842657,J3),(130,sH),(332,RG)]
theorem nhV:bF Tryz.prog UA:=Ic Lq (Ic tE (Ic ngR JA))
def Uz:List (Nat×lE):=[(4, {ca:=[(1,.mN),(2,.mN),(6,.mN),(8,.mN)],boxes:=[(192,[]),(384,[]),(512,[])]})]
def UB:na→Bool→kM:=(fun r0 r1=>((true,na.enc r0++[.bool r1]):kM))
def nfR (ug:Int) (tw:Bytes) (qH nU:Rows):St:= {n:=50,sl:=[(1,.int .i64 ug),(2,.str tw),(6,.ptr 384 0),(8,.ptr 512 0)],hp:=[(192,.box 59 [.sl [.str] qH]),(384,.box 59 [.nil]),(512,.box 59 [.own 1411072]),(1411072,.row 9 [.str] nU false true)],ok:=true,ls:=[],lm:=[]}
theorem nhU:D8 Tryz.prog 321 Oi:=by
 refine nO (A:=Uz) nhV Tryz.func321 fun ds hw aJ=> ?_
 replace hw:kc (na.ct++(.i::(.str::([])))) ds:=hw
 obtain⟨m,ds,rfl,h_m,hw⟩:=na.nA (r:=_) hw
 obtain⟨at_,ds,rfl,_,hw⟩:=nj hw
 obtain⟨s,ds,rfl,_,hw⟩:=qj hw
 obtain rfl:=nc hw
 obtain⟨N,hN⟩:=nhT Vm.ke UB m at_ s h_m aJ
 exact⟨N,eL (fun l_=>Oj Vm.ke UB l_ m at_ s) (nL3 (LQ Tryz.prog UA Uz N Tryz.f321 Oi [true,true,true,false,false] []) (fun ug tw nU=>nfR ug tw m.nE nU) _ N) hN⟩
def X5:Sum:= {ps:=[⟨[.sl [.i,.i,.i,.bool]],false⟩,⟨na.ct,true⟩,⟨[.i],false⟩,⟨[.i],false⟩,⟨[.i],false⟩,⟨[.bool],false⟩],rs:=[⟨[.own 352 [.i,.i]],false⟩,⟨[.d7 .bool],false⟩],fn:=fun ds=>(true,[.sl (sb (rR ds 0) (na.nd ds 1) (rI ds 2) (rI ds 3) (rI ds 4) (rB ds 5)).1]++[.bool (sb (rR ds 0) (na.nd ds 1) (rI ds 2) (rI ds 3) (rI ds 4) (rB ds 5)).2])}
def ngM:Ctx:=[(139,uY),(140,vj),(143,oy),(331,nkh),(332,RG)]
theorem nwG:bF Tryz.prog ngM:=Ic Sn (Ic Wy (Ic oC (Ic nyU (Ic ngR JA))))
def ngL:List (Nat×lE):=[(8, {ca:=[(0,.mN),(2,.mN),(3,.mN),(4,.mN),(5,.mN),(7,.mN),(14,.mN)],boxes:=[(448,[])]})]
def ngN:Rows→Bool→kM:=(fun r0 r1=>((true,[.sl r0]++[.bool r1]):kM))
def ntT (list_:Rows) (domain ug n_1:Int) (write:Bool) (qH nV:Rows):St:= {n:=75,sl:=[(0,.sl [.i,.i,.i,.bool] list_),(2,.int .i64 domain),(3,.int .i64 ug),(4,.int .i64 n_1),(5,.bool write),(7,.ptr 448 0),(14,.own 640896)],hp:=[(448,.box 59 [.sl [.str] qH]),(640896,.row 352 [.i,.i] nV false true)],ok:=true,ls:=[],lm:=[]}
theorem nwF:D8 Tryz.prog 320 X5:=by
 refine nO (A:=ngL) nwG Tryz.func320 fun ds hw _=> ?_
 replace hw:kc ((.sl [.i,.i,.i,.bool])::(na.ct++(.i::(.i::(.i::(.bool::([]))))))) ds:=hw
 obtain⟨list_,ds,rfl,_,hw⟩:=nH hw
 obtain⟨m,ds,rfl,_,hw⟩:=na.nA (r:=_) hw
 obtain⟨domain,ds,rfl,_,hw⟩:=nj hw
 obtain⟨at_,ds,rfl,ndm,hw⟩:=nj hw
 obtain⟨n,ds,rfl,_,hw⟩:=nj hw
 obtain⟨write,ds,rfl,_,hw⟩:=Ri hw
 obtain rfl:=nc hw
 obtain⟨N,hN⟩:=nwE Vm.ke ngN list_ m domain at_ n write ndm
 exact⟨N,eL (fun l_=>X6 Vm.ke ngN l_ list_ m domain at_ n write) (funext fun qH=>nL3 (LQ Tryz.prog ngM ngL N Tryz.f320 X5 [true,true,true,true,true,false,false] []) (fun ug n_1 nV=>ntT list_ domain ug n_1 write qH nV) _ N) hN⟩
def naz:Sum:= {ps:=[⟨[.sl [.i,.i,.i,.bool]],false⟩,⟨na.ct,true⟩,⟨[.i],false⟩,⟨[.i],false⟩,⟨[.str],false⟩,⟨[.bool],false⟩],rs:=[⟨[.own 9 [.str]],true⟩,⟨[.d7 .bool],false⟩],fn:=fun ds=>(noa (rR ds 0) (na.nd ds 1) (rI ds 2) (rI ds 3) (rS ds 4) (rB ds 5),na.enc (put (rR ds 0) (na.nd ds 1) (rI ds 2) (rI ds 3) (rS ds 4) (rB ds 5)).1++[.bool (put (rR ds 0) (na.nd ds 1) (rI ds 2) (rI ds 3) (rS ds 4) (rB ds 5)).2])}
def ntP:Ctx:=[(130,sH),(320,X5),(321,Oi)]
theorem nAt:bF Tryz.prog ntP:=Ic tE (Ic nwF (Ic nhU JA))
def ntO:List (Nat×lE):=[(6, {ca:=[(4,.mN),(12,.mN),(14,.mN),(35,.mN),(36,.mN),(37,.mN)],boxes:=[(448,[]),(768,[]),(896,[])]})]
def nie:na→Bool→kM:=(fun r0 r1=>((true,na.enc r0++[.bool r1]):kM))
def nzR (tw:Bytes) (x nX:Int) (qH oc nU:Rows):St:= {n:=58,sl:=[(4,.str tw),(12,.ptr 768 0),(14,.ptr 896 0),(35,.own 642240),(36,.int .i64 x),(37,.int .i64 nX)],hp:=[(448,.box 59 [.sl [.str] qH]),(768,.box 59 [.nil]),(896,.box 59 [.own 1509376]),(642240,.row 352 [.i,.i] oc false true),(1509376,.row 9 [.str] nU false true)],ok:=true,ls:=[],lm:=[]}
theorem ntR:D8 Tryz.prog 279 naz:=by
 refine nO (A:=ntO) nAt Tryz.func279 fun ds hw aJ=> ?_
 replace hw:kc ((.sl [.i,.i,.i,.bool])::(na.ct++(.i::(.i::(.str::(.bool::([]))))))) ds:=hw
 obtain⟨list_,ds,rfl,_,hw⟩:=nH hw
 obtain⟨m,ds,rfl,h_m,hw⟩:=na.nA (r:=_) hw
 obtain⟨domain,ds,rfl,_,hw⟩:=nj hw
 obtain⟨at_,ds,rfl,_,hw⟩:=nj hw
 obtain⟨s,ds,rfl,RP,hw⟩:=qj hw
 obtain⟨write,ds,rfl,_,hw⟩:=Ri hw
 obtain rfl:=nc hw
 obtain⟨N,hN⟩:=nAs Vm.ke nie list_ m domain at_ s write h_m RP aJ
 exact⟨N,Eq.trans (b:=naA Vm.ke nie (fun x oc tw nX nU=>LR (LQ Tryz.prog ntP ntO N Tryz.f279 naz [true,true,true,true,false,true,false] []) N (nzR tw x nX m.nE oc nU)) list_ m domain at_ s write) (by kernel_rfl) (Eq.trans (congrArg (fun l_=>naA Vm.ke nie l_ list_ m domain at_ s write) (by funext x oc;exact nL3 _ _ _ N)) (hN.trans (by kernel_rfl)))⟩
def na6:Sum:= {ps:=[⟨[.sl [.i,.i,.i,.bool]],false⟩,⟨na.ct,true⟩,⟨[.i],false⟩,⟨[.i],false⟩,⟨[.str],false⟩],rs:=[⟨[.own 9 [.str]],true⟩,⟨[.d7 .bool],false⟩],fn:=fun ds=>(ua (rR ds 0) (na.nd ds 1) (rI ds 2) (rI ds 3) (rS ds 4),na.enc (rD (rR ds 0) (na.nd ds 1) (rI ds 2) (rI ds 3) (rS ds 4)).1++[.bool (rD (rR ds 0) (na.nd ds 1) (rI ds 2) (rI ds 3) (rS ds 4)).2])}
def npf:Ctx:=[(279,naz)]
theorem npi:bF Tryz.prog npf:=Ic ntR JA
theorem nph:D8 Tryz.prog 280 na6:=by
 refine nO (A:=[]) npi Tryz.func280 fun ds hw aJ=> ?_
 replace hw:kc ((.sl [.i,.i,.i,.bool])::(na.ct++(.i::(.i::(.str::([])))))) ds:=hw
 obtain⟨list_,ds,rfl,_,hw⟩:=nH hw
 obtain⟨m,ds,rfl,_,hw⟩:=na.nA (r:=_) hw
 obtain⟨domain,ds,rfl,_,hw⟩:=nj hw
 obtain⟨at_,ds,rfl,_,hw⟩:=nj hw
 obtain⟨s,ds,rfl,_,hw⟩:=qj hw
 obtain rfl:=nc hw
 exact⟨0,eT (npg Vm.ke (fun r0 r1=>((true,na.enc r0++[.bool r1]):kM)) list_ m domain at_ s aJ)⟩
def Wd:Sum:= {ps:=[⟨[.sl [.i,.i,.i,.bool]],false⟩,⟨[.i],false⟩,⟨[.i],false⟩,⟨[.bool],false⟩],rs:=[⟨[.d7 .i],false⟩],fn:=fun ds=>(true,[.int (vZ (rR ds 0) (rI ds 1) (rI ds 2) (rB ds 3))])}
def nfb:List (Nat×lE):=[(2, {ca:=[(0,.mN),(1,.mN),(2,.mN),(3,.mN),(9,.mN)],boxes:=[]})]
def nfc:Int→kM:=(fun r0=>((true,[.int r0]):kM))
def nsI (list_:Rows) (domain oV:Int) (write:Bool) (k:Int):St:= {n:=48,sl:=[(0,.sl [.i,.i,.i,.bool] list_),(1,.int .i64 domain),(2,.int .i64 oV),(3,.bool write),(9,.int .i64 k)],hp:=[],ok:=true,ls:=[],lm:=[]}
theorem nvN:D8 Tryz.prog 312 Wd:=by
 refine nO (A:=nfb) JA Tryz.func312 fun ds (hw:kc ((.sl [.i,.i,.i,.bool])::(.i::(.i::(.bool::([]))))) ds) _=> ?_
 obtain⟨list_,ds,rfl,pE,hw⟩:=nH hw
 obtain⟨domain,ds,rfl,_,hw⟩:=nj hw
 obtain⟨oV,ds,rfl,_,hw⟩:=nj hw
 obtain⟨write,ds,rfl,_,hw⟩:=Ri hw
 obtain rfl:=nc hw
 obtain⟨N,hN⟩:=nvM Vm.ke nfc list_ domain oV write pE
 exact⟨N,eL (fun l_=>We Vm.ke nfc l_ list_ domain oV write) (nL1 (LQ Tryz.prog [] nfb N Tryz.f312 Wd [true,false,true,false] []) (nsI list_ domain oV write) _ N) hN⟩
def S_:Sum:= {ps:=[⟨[.sl [.i,.i,.i,.bool]],false⟩,⟨na.ct,true⟩,⟨[.i],false⟩,⟨[.i],false⟩,⟨[.i],false⟩,⟨[.bool],false⟩],rs:=[⟨[.own 3 [.i]],false⟩,⟨[.own 3 [.i]],false⟩,⟨[.d7 .bool],false⟩],fn:=fun ds=>(true,[.sl (PC (rR ds 0) (na.nd ds 1) (rI ds 2) (rI ds 3) (rI ds 4) (rB ds 5)).1]++[.sl (PC (rR ds 0) (na.nd ds 1) (rI ds 2) (rI ds 3) (rI ds 4) (rB ds 5)).2.1]++[.bool (PC (rR ds 0) (na.nd ds 1) (rI ds 2) (rI ds 3) (rI ds 4) (rB ds 5)).2.2])}
def nc0:Ctx:=[(102,xw),(103,vy),(106,oP),(312,Wd),(313,Rt)]
theorem nsL:bF Tryz.prog nc0:=Ic SZ (Ic XF (Ic oW (Ic nvN (Ic naa JA))))
def ncZ:List (Nat×lE):=[(5, {ca:=[(0,.mN),(2,.mN),(3,.mN),(4,.mN),(5,.mN),(7,.mN),(15,.mN),(16,.mN)],boxes:=[(448,[])]})]
def nc1:Rows→Rows→Bool→kM:=(fun r0 r1 r2=>((true,[.sl r0]++[.sl r1]++[.bool r2]):kM))
def noy (list_:Rows) (domain ug n_1:Int) (write:Bool) (qH starts rb:Rows):St:= {n:=83,sl:=[(0,.sl [.i,.i,.i,.bool] list_),(2,.int .i64 domain),(3,.int .i64 ug),(4,.int .i64 n_1),(5,.bool write),(7,.ptr 448 0),(15,.own 640960),(16,.own 641024)],hp:=[(448,.box 59 [.sl [.str] qH]),(640960,.row 3 [.i] starts false true),(641024,.row 3 [.i] rb false true)],ok:=true,ls:=[],lm:=[]}
theorem nsK:D8 Tryz.prog 263 S_:=by
 refine nO (A:=ncZ) nsL Tryz.func263 fun ds hw _=> ?_
 replace hw:kc ((.sl [.i,.i,.i,.bool])::(na.ct++(.i::(.i::(.i::(.bool::([]))))))) ds:=hw
 obtain⟨list_,ds,rfl,_,hw⟩:=nH hw
 obtain⟨m,ds,rfl,h_m,hw⟩:=na.nA (r:=_) hw
 obtain⟨domain,ds,rfl,_,hw⟩:=nj hw
 obtain⟨at_,ds,rfl,ndm,hw⟩:=nj hw
 obtain⟨n,ds,rfl,_,hw⟩:=nj hw
 obtain⟨write,ds,rfl,_,hw⟩:=Ri hw
 obtain rfl:=nc hw
 obtain⟨N,hN⟩:=nsJ Vm.ke nc1 list_ m domain at_ n write h_m ndm
 exact⟨N,eL (fun l_=>Ta Vm.ke nc1 l_ list_ m domain at_ n write) (funext fun qH=>nL4 (LQ Tryz.prog nc0 ncZ N Tryz.f263 S_ [true,true,true,true,false,false] []) (fun ug n_1 starts rb=>noy list_ domain ug n_1 write qH starts rb) _ N) hN⟩
def uQ:Sum:= {ps:=[⟨na.ct,true⟩],rs:=[⟨[.own 9 [.str]],true⟩],fn:=fun ds=>(sd (na.nd ds 0),na.enc (oE (na.nd ds 0)))}
theorem wC:D8 Tryz.prog 97 uQ:=by
 refine nO (A:=[]) JA Tryz.func97 fun ds (hw:kc (na.ct++([])) ds) aJ=> ?_
 obtain⟨m,ds,rfl,_,hw⟩:=na.nA (r:=_) hw
 obtain rfl:=nc hw
 exact⟨0,eT (nvL Vm.ke (fun r0=>((true,na.enc r0):kM)) m aJ)⟩
def OB:Sum:= {ps:=[⟨na.ct,true⟩,⟨[.i],false⟩,⟨[.str],false⟩],rs:=[⟨[.own 9 [.str]],true⟩,⟨[.d7 .bool],false⟩],fn:=fun ds=>(rF (na.nd ds 0) (rI ds 1) (rS ds 2),na.enc (qh (na.nd ds 0) (rI ds 1) (rS ds 2)).1++[.bool (qh (na.nd ds 0) (rI ds 1) (rS ds 2)).2])}
def V5:Ctx:=[(97,uQ),(196,xx),(313,Rt)]
theorem nju:bF Tryz.prog V5:=Ic wC (Ic N4 (Ic naa JA))
def V4:List (Nat×lE):=[(4, {ca:=[(1,.mN),(2,.mN),(6,.mN),(8,.mN)],boxes:=[(192,[]),(384,[]),(512,[])]})]
def V6:na→Bool→kM:=(fun r0 r1=>((true,na.enc r0++[.bool r1]):kM))
def ngy (ug:Int) (tw:Bytes) (qH nU:Rows):St:= {n:=53,sl:=[(1,.int .i64 ug),(2,.str tw),(6,.ptr 384 0),(8,.ptr 512 0)],hp:=[(192,.box 59 [.sl [.str] qH]),(384,.box 59 [.nil]),(512,.box 59 [.own 1411072]),(1411072,.row 9 [.str] nU false true)],ok:=true,ls:=[],lm:=[]}
theorem njt:D8 Tryz.prog 264 OB:=by
 refine nO (A:=V4) nju Tryz.func264 fun ds hw aJ=> ?_
 replace hw:kc (na.ct++(.i::(.str::([])))) ds:=hw
 obtain⟨m,ds,rfl,h_m,hw⟩:=na.nA (r:=_) hw
 obtain⟨at_,ds,rfl,_,hw⟩:=nj hw
 obtain⟨s,ds,rfl,_,hw⟩:=qj hw
 obtain rfl:=nc hw
 obtain⟨N,hN⟩:=njs Vm.ke V6 m at_ s h_m aJ
 exact⟨N,eL (fun l_=>OC Vm.ke V6 l_ m at_ s) (nL3 (LQ Tryz.prog V5 V4 N Tryz.f264 OB [true,true,true,false,false] []) (fun ug tw nU=>ngy ug tw m.nE nU) _ N) hN⟩
def NZ:Sum:= {ps:=[⟨[.sl [.i,.i,.i,.bool]],false⟩,⟨na.ct,true⟩,⟨[.i],false⟩,⟨[.i],false⟩,⟨[.str],false⟩],rs:=[⟨[.own 9 [.str]],true⟩,⟨[.d7 .bool],false⟩],fn:=fun ds=>(ua (rR ds 0) (na.nd ds 1) (rI ds 2) (rI ds 3) (rS ds 4),na.enc (rD (rR ds 0) (na.nd ds 1) (rI ds 2) (rI ds 3) (rS ds 4)).1++[.bool (rD (rR ds 0) (na.nd ds 1) (rI ds 2) (rI ds 3) (rS ds 4)).2])}
def ncq:Ctx:=[(97,uQ),(263,S_),(264,OB)]
theorem nrY:bF Tryz.prog ncq:=Ic wC (Ic nsK (Ic njt JA))
def ncp:List (Nat×lE):=[(6, {ca:=[(4,.mN),(10,.mN),(12,.mN),(13,.mN),(15,.mN),(16,.mN)],boxes:=[(384,[]),(640,[]),(960,[])]})]
def SS:na→Bool→kM:=(fun r0 r1=>((true,na.enc r0++[.bool r1]):kM))
def noe (tw:Bytes) (k:Int) (qH starts rb nU:Rows):St:= {n:=61,sl:=[(4,.str tw),(10,.ptr 640 0),(12,.own 640768),(13,.own 640832),(15,.ptr 960 0),(16,.int .i64 k)],hp:=[(384,.box 59 [.sl [.str] qH]),(640,.box 59 [.nil]),(960,.box 59 [.own 1525760]),(640768,.row 3 [.i] starts false true),(640832,.row 3 [.i] rb false true),(1525760,.row 9 [.str] nU false true)],ok:=true,ls:=[],lm:=[]}
theorem ncs:D8 Tryz.prog 199 NZ:=by
 refine nO (A:=ncp) nrY Tryz.func199 fun ds hw aJ=> ?_
 replace hw:kc ((.sl [.i,.i,.i,.bool])::(na.ct++(.i::(.i::(.str::([])))))) ds:=hw
 obtain⟨list_,ds,rfl,_,hw⟩:=nH hw
 obtain⟨m,ds,rfl,h_m,hw⟩:=na.nA (r:=_) hw
 obtain⟨domain,ds,rfl,_,hw⟩:=nj hw
 obtain⟨at_,ds,rfl,_,hw⟩:=nj hw
 obtain⟨s,ds,rfl,RP,hw⟩:=qj hw
 obtain rfl:=nc hw
 obtain⟨N,hN⟩:=nrX Vm.ke SS list_ m domain at_ s h_m RP aJ
 exact⟨N,Eq.trans (b:=N0 Vm.ke SS (fun starts rb tw k nU=>LR (LQ Tryz.prog ncq ncp N Tryz.f199 NZ [true,true,true,true,false,true,false] []) N (noe tw k m.nE starts rb nU)) list_ m domain at_ s) (by kernel_rfl) (Eq.trans (congrArg (fun l_=>N0 Vm.ke SS l_ list_ m domain at_ s) (by funext starts rb;exact nL3 _ _ _ N)) (hN.trans (by kernel_rfl)))⟩
def QD:Sum:= {ps:=[⟨[.sl [.i,.i,.i,.bool]],false⟩,⟨na.ct,true⟩,⟨[.i],false⟩,⟨[.i],false⟩,⟨[.str],false⟩],rs:=[⟨[.own 9 [.str]],true⟩,⟨[.d7 .bool],false⟩],fn:=fun ds=>(sq (rR ds 0) (na.nd ds 1) (rI ds 2) (rI ds 3) (rS ds 4),na.enc (rp (rR ds 0) (na.nd ds 1) (rI ds 2) (rI ds 3) (rS ds 4)).1++[.bool (rp (rR ds 0) (na.nd ds 1) (rI ds 2) (rI ds 3) (rS ds 4)).2])}
def nmm:Ctx:=[(279,naz)]
theorem nmp:bF Tryz.prog nmm:=Ic ntR JA
theorem nmo:D8 Tryz.prog 226 QD:=by
 refine nO (A:=[]) nmp Tryz.func226 fun ds hw aJ=> ?_
 replace hw:kc ((.sl [.i,.i,.i,.bool])::(na.ct++(.i::(.i::(.str::([])))))) ds:=hw
 obtain⟨list_,ds,rfl,_,hw⟩:=nH hw
 obtain⟨m,ds,rfl,_,hw⟩:=na.nA (r:=_) hw
 obtain⟨domain,ds,rfl,_,hw⟩:=nj hw
 obtain⟨at_,ds,rfl,_,hw⟩:=nj hw
 obtain⟨s,ds,rfl,_,hw⟩:=qj hw
 obtain rfl:=nc hw
 exact⟨0,eT (nmn Vm.ke (fun r0 r1=>((true,na.enc r0++[.bool r1]):kM)) list_ m domain at_ s aJ)⟩
abbrev Ro:Sum:=QD
def Z4:Ctx:=[(199,NZ)]
theorem noj:bF Tryz.prog Z4:=Ic ncs JA
def Z3:List (Nat×lE):=[(3, {ca:=[(0,.mN),(2,.mN),(3,.mN),(4,.mN),(6,.mN),(10,.mN),(12,.mN),(13,.mN)],boxes:=[(384,[]),(640,[])]})]
def Z5:na→Bool→kM:=(fun r0 r1=>((true,na.enc r0++[.bool r1]):kM))
def nlQ (list_:Rows) (domain at_:Int) (s:Bytes) (k:Int) (qH open_:Rows):St:= {n:=39,sl:=[(0,.sl [.i,.i,.i,.bool] list_),(2,.int .i64 domain),(3,.int .i64 at_),(4,.str s),(6,.ptr 384 0),(10,.ptr 640 0),(12,.own 640768),(13,.int .i64 k)],hp:=[(384,.box 59 [.sl [.str] qH]),(640,.box 59 [.nil]),(640768,.row 209 [.i,.i,.i,.bool] open_ false true)],ok:=true,ls:=[],lm:=[]}
theorem noi:D8 Tryz.prog 116 Ro:=by
 refine nO (A:=Z3) noj Tryz.func116 fun ds hw aJ=> ?_
 replace hw:kc ((.sl [.i,.i,.i,.bool])::(na.ct++(.i::(.i::(.str::([])))))) ds:=hw
 obtain⟨list_,ds,rfl,pE,hw⟩:=nH hw
 obtain⟨m,ds,rfl,_,hw⟩:=na.nA (r:=_) hw
 obtain⟨domain,ds,rfl,_,hw⟩:=nj hw
 obtain⟨at_,ds,rfl,_,hw⟩:=nj hw
 obtain⟨s,ds,rfl,_,hw⟩:=qj hw
 obtain rfl:=nc hw
 obtain⟨N,hN⟩:=noh Vm.ke Z5 list_ m domain at_ s pE aJ
 exact⟨N,eL (fun l_=>Rp Vm.ke Z5 l_ list_ m domain at_ s) (funext fun qH=>Wp (LQ Tryz.prog Z4 Z3 N Tryz.f116 Ro [true,true,false,true,false] []) (fun k open_=>nlQ list_ domain at_ s k qH open_) _ N) hN⟩
def Wi:Sum:= {ps:=[⟨nC.ct,true⟩],rs:=[⟨[.d7 .i,.d7 .bool,.own 3 [.i]],true⟩],fn:=fun ds=>(njK (nC.nd ds 0),nC.enc (oE (nC.nd ds 0)))}
theorem nvY:D8 Tryz.prog 100 Wi:=by
 refine nO (A:=[]) JA Tryz.func100 fun ds (hw:kc (nC.ct++([])) ds) aJ=> ?_
 obtain⟨f,ds,rfl,_,hw⟩:=nC.nA (r:=_) hw
 obtain rfl:=nc hw
 exact⟨0,eT (nvX Vm.ke (fun r0=>((true,nC.enc r0):kM)) f aJ)⟩
abbrev WK:Sum:=Wi
def nj7:Ctx:=[(138,tP)]
theorem nj_:bF Tryz.prog nj7:=Ic u0 JA
theorem nj9:D8 Tryz.prog 134 WK:=by
 refine nO (A:=[]) nj_ Tryz.func134 fun ds (hw:kc (nC.ct++([])) ds) aJ=> ?_
 obtain⟨f,ds,rfl,_,hw⟩:=nC.nA (r:=_) hw
 obtain rfl:=nc hw
 exact⟨0,eT (nj8 Vm.ke (fun r0=>((true,nC.enc r0):kM)) f aJ)⟩
def V_:Sum:= {ps:=[⟨ni.ct,true⟩],rs:=[⟨[.own 262 [.i,.i,.i,.i,.i,.i,.i]],true⟩],fn:=fun ds=>(nl9 (ni.nd ds 0),ni.enc (oE (ni.nd ds 0)))}
theorem nvD:D8 Tryz.prog 186 V_:=by
 refine nO (A:=[]) JA Tryz.func186 fun ds (hw:kc (ni.ct++([])) ds) aJ=> ?_
 obtain⟨t,ds,rfl,_,hw⟩:=ni.nA (r:=_) hw
 obtain rfl:=nc hw
 exact⟨0,eT (nvC Vm.ke (fun r0=>((true,ni.enc r0):kM)) t aJ)⟩
abbrev YD:Sum:=V_
theorem nmA:D8 Tryz.prog 210 YD:=by
 refine nO (A:=[]) JA Tryz.func210 fun ds (hw:kc (ni.ct++([])) ds) aJ=> ?_
 obtain⟨t,ds,rfl,_,hw⟩:=ni.nA (r:=_) hw
 obtain rfl:=nc hw
 exact⟨0,eT (nmz Vm.ke (fun r0=>((true,ni.enc r0):kM)) t aJ)⟩
def WN:Sum:= {ps:=[⟨nG.ct,true⟩],rs:=[⟨[.d7 .str,.own 3 [.i]],true⟩],fn:=fun ds=>(nAe (nG.nd ds 0),nG.enc (oE (nG.nd ds 0)))}
def nkd:Ctx:=[(138,tP)]
theorem nkg:bF Tryz.prog nkd:=Ic u0 JA
theorem nkf:D8 Tryz.prog 211 WN:=by
 refine nO (A:=[]) nkg Tryz.func211 fun ds (hw:kc (nG.ct++([])) ds) aJ=> ?_
 obtain⟨s,ds,rfl,_,hw⟩:=nG.nA (r:=_) hw
 obtain rfl:=nc hw
 exact⟨0,eT (nke Vm.ke (fun r0=>((true,nG.enc r0):kM)) s aJ)⟩
def Wc:Sum:= {ps:=[⟨nk.ct,true⟩],rs:=[⟨[.own 260 [.i,.i,.i,.i,.i,.i,.i,.i,.i],.own 262 [.i,.i,.i,.i,.i,.i,.i],.d7 .str,.own 3 [.i]],true⟩],fn:=fun ds=>(nac (nk.nd ds 0),nk.enc (oE (nk.nd ds 0)))}
def nvH:Ctx:=[(186,V_)]
theorem nvK:bF Tryz.prog nvH:=Ic nvD JA
theorem nvJ:D8 Tryz.prog 101 Wc:=by
 refine nO (A:=[]) nvK Tryz.func101 fun ds (hw:kc (nk.ct++([])) ds) aJ=> ?_
 obtain⟨s,ds,rfl,_,hw⟩:=nk.nA (r:=_) hw
 obtain rfl:=nc hw
 exact⟨0,eT (nvI Vm.ke (fun r0=>((true,nk.enc r0):kM)) s aJ)⟩
abbrev Tj:Sum:=Wc
def nfU:Ctx:=[(210,YD),(211,WN)]
theorem nfX:bF Tryz.prog nfU:=Ic nmA (Ic nkf JA)
theorem nfW:D8 Tryz.prog 135 Tj:=by
 refine nO (A:=[]) nfX Tryz.func135 fun ds (hw:kc (nk.ct++([])) ds) aJ=> ?_
 obtain⟨s,ds,rfl,_,hw⟩:=nk.nA (r:=_) hw
 obtain rfl:=nc hw
 exact⟨0,eT (nfV Vm.ke (fun r0=>((true,nk.enc r0):kM)) s aJ)⟩
def Th:Sum:= {ps:=[⟨[.sl [.i,.i,.i,.bool]],false⟩],rs:=[⟨[.own 209 [.i,.i,.i,.bool]],false⟩],fn:=fun ds=>(sm (rR ds 0),[.sl (oE (rR ds 0))])}
theorem nfT:D8 Tryz.prog 131 Th:=by
 refine nO (A:=[]) JA Tryz.func131 fun ds (hw:kc ((.sl [.i,.i,.i,.bool])::([])) ds) aJ=> ?_
 obtain⟨list_,ds,rfl,_,hw⟩:=nH hw
 obtain rfl:=nc hw
 exact⟨0,eT (nfS Vm.ke (fun r0=>((true,[.sl r0]):kM)) list_ aJ)⟩
def UI:Sum:= {ps:=[⟨[.sl [.i,.i,.i,.i,.i,.i,.str,.bool]],false⟩],rs:=[⟨[.own 223 [.i,.i,.i,.i,.i,.i,.str,.bool]],false⟩],fn:=fun ds=>(sm (rR ds 0),[.sl (oE (rR ds 0))])}
theorem nh7:D8 Tryz.prog 136 UI:=by
 refine nO (A:=[]) JA Tryz.func136 fun ds (hw:kc ((.sl [.i,.i,.i,.i,.i,.i,.str,.bool])::([])) ds) aJ=> ?_
 obtain⟨list_,ds,rfl,_,hw⟩:=nH hw
 obtain rfl:=nc hw
 exact⟨0,eT (nh6 Vm.ke (fun r0=>((true,[.sl r0]):kM)) list_ aJ)⟩
def Sx:Sum:= {ps:=[⟨[.sl [.i,.i,.sl [.i]]],false⟩],rs:=[⟨[.deep 207 [.i,.i,.sl [.i]] [3]],false⟩],fn:=fun ds=>(w4 (rR ds 0),[.sl (oE (rR ds 0))])}
def nbE:Ctx:=[(1125899906842630,J3),(1125899906842646,J3),(1125899906842647,J3),(138,tP)]
theorem np_:bF Tryz.prog nbE:=Ic Lq (Ic Lq (Ic Lq (Ic u0 JA)))
def nbD:List (Nat×lE):=[(3, {ca:=[(3,.mN),(7,.mN),(8,.mN),(9,.mN)],boxes:=[]})]
def nbF:Rows→kM:=(fun r0=>((true,[.sl r0]):kM))
def nmy (list_:Rows) (nX oc:Int) (nV:Rows):St:= {n:=26,sl:=[(3,.own 640192),(7,.sl [.i,.i,.sl [.i]] list_),(8,.int .i64 nX),(9,.int .i64 oc)],hp:=[(640192,.deep 207 [.i,.i,.sl [.i]] [3] nV none)],ok:=true,ls:=[],lm:=[]}
theorem np9:D8 Tryz.prog 182 Sx:=by
 refine nO (A:=nbD) np_ Tryz.func182 fun ds (hw:kc ((.sl [.i,.i,.sl [.i]])::([])) ds) aJ=> ?_
 obtain⟨list_,ds,rfl,pE,hw⟩:=nH hw
 obtain rfl:=nc hw
 obtain⟨N,hN⟩:=np8 Vm.ke nbF list_ pE aJ
 exact⟨N,eL (fun l_=>Sy Vm.ke nbF l_ list_) (funext fun nX=>Wp (LQ Tryz.prog nbE nbD N Tryz.f182 Sx [true,true,false,true,false] []) (nmy list_ nX) _ N) hN⟩
def Qh:Sum:= {ps:=[⟨nh.ct,true⟩],rs:=[⟨[.d7 .i,.d7 .i,.d7 .i,.d7 .i,.d7 .i,.d7 .i,.d7 .i,.own 3 [.i],.own 207 [.i,.i,.sl [.i]],.d7 .i],true⟩],fn:=fun ds=>(zH (nh.nd ds 0),nh.enc (oE (nh.nd ds 0)))}
def nfg:Ctx:=[(99,yI)]
theorem nvS:bF Tryz.prog nfg:=Ic Qg JA
def nff:List (Nat×lE):=[(3, {ca:=[(1,.mN),(2,.mN),(3,.mN),(4,.mN)],boxes:=[(64,[]),(128,[]),(192,[(8,.own 207)])]})]
def Wg:nh→kM:=(fun r0=>((true,nh.enc r0):kM))
def nsM (k xt uX xu xv vc vd ve:Int) (vf sX:Rows) (qR b2 nBu nBC nBD nBE nBF nBG nBH nV pY pZ p6 pw px py p7:Int) (re wz:Rows):St:= {n:=41,sl:=[(1,.ptr 64 0),(2,.ptr 128 0),(3,.ptr 192 0),(4,.int .i64 k)],hp:=[(64,.box 65 [.int .i64 xt,.int .i64 uX,.int .i64 xu,.int .i64 xv,.int .i64 vc,.int .i64 vd,.int .i64 ve,.sl [.i] vf,.sl [.i,.i,.sl [.i]] sX,.int .i64 qR]),(128,.box 65 [.int .i64 b2,.int .i64 nBu,.int .i64 nBC,.int .i64 nBD,.int .i64 nBE,.int .i64 nBF,.int .i64 nBG,.nil,.nil,.int .i64 nBH]),(192,.box 65 [.int .i64 nV,.int .i64 pY,.int .i64 pZ,.int .i64 p6,.int .i64 pw,.int .i64 px,.int .i64 py,.own 1329159,.own 1329160,.int .i64 p7]),(1329159,.row 3 [.i] re false true),(1329160,.row 207 [.i,.i,.sl [.i]] wz false true)],ok:=true,ls:=[],lm:=[]}
theorem nfi:D8 Tryz.prog 98 Qh:=by
 refine nO (A:=nff) nvS Tryz.func98 fun ds (hw:kc (nh.ct++([])) ds) aJ=> ?_
 obtain⟨q,ds,rfl,h_q,hw⟩:=nh.nA (r:=_) hw
 obtain rfl:=nc hw
 obtain⟨N,hN⟩:=nvR Vm.ke Wg q h_q aJ
 exact⟨N,Eq.trans (b:=Qi Vm.ke Wg (fun sX nV pY pZ p6 pw px py p7 re k wz=>LR (LQ Tryz.prog nfg nff N Tryz.f98 Qh [true,true,false,true,false] []) N (nsM k q.Ring.oG q.Ring.nL q.Ring.Head q.Ring.qF q.nI.oG q.nI.nL q.nI.Count q.nI.oB sX q.Next 0 0 0 0 0 0 0 0 nV pY pZ p6 pw px py p7 re wz)) q) (by kernel_rfl) (Eq.trans (congrArg (fun l_=>Qi Vm.ke Wg l_ q) (by funext sX nV pY pZ p6 pw px py p7 re;exact Wp _ _ _ N)) (hN.trans (by kernel_rfl)))⟩
def X1:Sum:= {ps:=[⟨nh.ct,true⟩],rs:=[⟨[.d7 .i,.d7 .i,.d7 .i,.d7 .i,.d7 .i,.d7 .i,.d7 .i,.own 3 [.i],.deep 207 [.i,.i,.sl [.i]] [3],.d7 .i],true⟩],fn:=fun ds=>(zH (nh.nd ds 0),nh.enc (oE (nh.nd ds 0)))}
def nwy:Ctx:=[(133,u4),(182,Sx)]
theorem nwA:bF Tryz.prog nwy:=Ic NI (Ic np9 JA)
theorem ngE:D8 Tryz.prog 132 X1:=by
 refine nO (A:=[]) nwA Tryz.func132 fun ds (hw:kc (nh.ct++([])) ds) aJ=> ?_
 obtain⟨q,ds,rfl,_,hw⟩:=nh.nA (r:=_) hw
 obtain rfl:=nc hw
 exact⟨0,eT (nwz Vm.ke (fun r0=>((true,nh.enc r0):kM)) q aJ)⟩
def Sw:Sum:= {ps:=[⟨ny.ct,true⟩],rs:=[⟨[.own 9 [.str],.own 209 [.i,.i,.i,.bool],.d7 .i,.d7 .i,.d7 .i,.d7 .i,.d7 .i,.d7 .i,.d7 .i,.own 3 [.i],.deep 207 [.i,.i,.sl [.i]] [3],.d7 .i,.own 182 [.i,.i,.i,.i,.i,.i,.i,.i,.i,.i,.i,.i,.i,.i,.i,.i,.i,.i,.i,.i,.i,.i,.i,.i,.i,.str,.i,.i,.bool,.i],.deep 62 [.i,.i,.i,.sl [.i]] [3],.own 186 [.i,.i,.i,.i,.bool,.bool],.own 4 [.bool],.d7 .i,.d7 .bool,.own 3 [.i],.own 260 [.i,.i,.i,.i,.i,.i,.i,.i,.i],.own 262 [.i,.i,.i,.i,.i,.i,.i],.d7 .str,.own 3 [.i],.own 223 [.i,.i,.i,.i,.i,.i,.str,.bool],.d7 .bool,.own 9 [.str],.own 3 [.i],.own 3 [.i],.d7 .i,.d7 .i,.d7 .i,.d7 .i,.d7 .i],true⟩],fn:=fun ds=>(t6 (ny.nd ds 0),ny.enc (oE (ny.nd ds 0)))}
def nbz:Ctx:=[(1125899906842648,J3),(1125899906842661,J3),(1125899906842662,J3),(130,sH),(131,Th),(132,X1),(133,u4),(134,WK),(135,Tj),(136,UI),(137,Ok),(138,tP)]
theorem np3:bF Tryz.prog nbz:=Ic Lq (Ic Lq (Ic Lq (Ic tE (Ic nfT (Ic ngE (Ic NI (Ic nj9 (Ic nfW (Ic nh7 (Ic UK (Ic u0 JA)))))))))))
def nby:List (Nat×lE):=[(8, {ca:=[(1,.mN),(2,.mN),(3,.mN),(27,.mN),(28,.mN),(29,.mN)],boxes:=[(64,[]),(128,[]),(192,[])]})]
def Sv:ny→kM:=(fun r0=>((true,ny.enc r0):kM))
def nmx (x:Rows) (nX oc:Int) (h_1 h_2:Rows) (h_3 h_4 h_5 h_6 h_7 h_8 h_9:Int) (wH wI:Rows) (wJ:Int) (qI pT pb qq:Rows) (qB:Int) (qC:Bool) (qs pn po:Rows) (pr:Bytes) (pq qt:Rows) (wK:Bool) (qu qv qw:Rows) (qM qN qO qP qQ b2 nBu nBC nBD nBE nBF nBG nBH nCz:Int) (nCA:Bool) (nBv:Bytes) (nBw:Bool) (nBx nBy nBz nBA nBB nV pY pZ p6 pw px py p7:Int) (wz nBX:Rows) (nAx:Int) (nAy:Bool) (nAz nAA nAB:Rows) (nAC:Bytes) (nAD nAE:Rows) (p_:Bool) (nAF nAG nAH:Rows) (qb qc qd qe qf:Int) (nU pj pk oT oU uD:Rows):St:= {n:=76,sl:=[(1,.ptr 64 0),(2,.ptr 128 0),(3,.ptr 192 0),(27,.sl [.i,.i,.i,.sl [.i]] x),(28,.int .i64 nX),(29,.int .i64 oc)],hp:=[(64,.box 80 [.sl [.str] h_1,.sl [.i,.i,.i,.bool] h_2,.int .i64 h_3,.int .i64 h_4,.int .i64 h_5,.int .i64 h_6,.int .i64 h_7,.int .i64 h_8,.int .i64 h_9,.sl [.i] wH,.sl [.i,.i,.sl [.i]] wI,.int .i64 wJ,.sl [.i,.i,.i,.i,.i,.i,.i,.i,.i,.i,.i,.i,.i,.i,.i,.i,.i,.i,.i,.i,.i,.i,.i,.i,.i,.str,.i,.i,.bool,.i] qI,.sl [.i,.i,.i,.sl [.i]] pT,.sl [.i,.i,.i,.i,.bool,.bool] pb,.sl [.bool] qq,.int .i64 qB,.bool qC,.sl [.i] qs,.sl [.i,.i,.i,.i,.i,.i,.i,.i,.i] pn,.sl [.i,.i,.i,.i,.i,.i,.i] po,.str pr,.sl [.i] pq,.sl [.i,.i,.i,.i,.i,.i,.str,.bool] qt,.bool wK,.sl [.str] qu,.sl [.i] qv,.sl [.i] qw,.int .i64 qM,.int .i64 qN,.int .i64 qO,.int .i64 qP,.int .i64 qQ]),(128,.box 80 [.nil,.nil,.int .i64 b2,.int .i64 nBu,.int .i64 nBC,.int .i64 nBD,.int .i64 nBE,.int .i64 nBF,.int .i64 nBG,.nil,.nil,.int .i64 nBH,.nil,.nil,.nil,.nil,.int .i64 nCz,.bool nCA,.nil,.nil,.nil,.str nBv,.nil,.nil,.bool nBw,.nil,.nil,.nil,.int .i64 nBx,.int .i64 nBy,.int .i64 nBz,.int .i64 nBA,.int .i64 nBB]),(192,.box 80 [.own 1329152,.own 1329153,.int .i64 nV,.int .i64 pY,.int .i64 pZ,.int .i64 p6,.int .i64 pw,.int .i64 px,.int .i64 py,.own 1329161,.own 1329162,.int .i64 p7,.own 1329164,.own 1329165,.sl [.i,.i,.i,.i,.bool,.bool] wz,.sl [.bool] nBX,.int .i64 nAx,.bool nAy,.sl [.i] nAz,.sl [.i,.i,.i,.i,.i,.i,.i,.i,.i] nAA,.sl [.i,.i,.i,.i,.i,.i,.i] nAB,.str nAC,.sl [.i] nAD,.sl [.i,.i,.i,.i,.i,.i,.str,.bool] nAE,.bool p_,.sl [.str] nAF,.sl [.i] nAG,.sl [.i] nAH,.int .i64 qb,.int .i64 qc,.int .i64 qd,.int .i64 qe,.int .i64 qf]),(1329152,.row 9 [.str] nU false true),(1329153,.row 209 [.i,.i,.i,.bool] pj false true),(1329161,.row 3 [.i] pk false true),(1329162,.deep 207 [.i,.i,.sl [.i]] [3] oT none),(1329164,.row 182 [.i,.i,.i,.i,.i,.i,.i,.i,.i,.i,.i,.i,.i,.i,.i,.i,.i,.i,.i,.i,.i,.i,.i,.i,.i,.str,.i,.i,.bool,.i] oU false true),(1329165,.deep 62 [.i,.i,.i,.sl [.i]] [3] uD none)],ok:=true,ls:=[],lm:=[]}
theorem np2:D8 Tryz.prog 46 Sw:=by
 refine nO (A:=nby) np3 Tryz.func46 fun ds (hw:kc (ny.ct++([])) ds) aJ=> ?_
 obtain⟨h,ds,rfl,h_h,hw⟩:=ny.nA (r:=_) hw
 obtain rfl:=nc hw
 obtain⟨N,hN⟩:=np1 Vm.ke Sv h h_h aJ
 exact⟨N,Eq.trans (b:=NH Vm.ke Sv (fun x nX pb qq qB qC qs pn po pr pq qt qu qv qw nV pY pZ p6 pw px py p7 p_ qb qc qd qe qf nU pj pk oT oU oc uD=>LR (LQ Tryz.prog nbz nby N Tryz.f46 Sw [true,true,true,true,true,true,true,false,true,false] []) N (nmx x nX oc h.ov.nE h.Maps h.Tx.Ring.oG h.Tx.Ring.nL h.Tx.Ring.Head h.Tx.Ring.qF h.Tx.nI.oG h.Tx.nI.nL h.Tx.nI.Count h.Tx.nI.oB h.Tx.nr h.Tx.Next h.Rx h.ot pb qq qB qC qs pn po pr pq qt h.sk qu qv qw h.Counters.Frames h.Counters.Bad h.Counters.sn h.Counters.t5 h.Counters.OW 0 0 0 0 0 0 0 0 0 false [] false 0 0 0 0 0 nV pY pZ p6 pw px py p7 h.og h.pd h.Filter.Mac h.Filter.pS h.Filter.pH h.nz.oO h.nz.Table.nF h.nz.oF.Key h.nz.oF.Table h.pG p_ h.wE h.oX h.pC qb qc qd qe qf nU pj pk oT oU uD)) h) (by kernel_rfl) (Eq.trans (congrArg (fun l_=>NH Vm.ke Sv l_ h) (by funext x nX pb qq qB qC qs pn po pr pq qt qu qv qw nV pY pZ p6 pw px py p7 p_ qb qc qd qe qf nU pj pk oT oU;exact Wp _ _ _ N)) (hN.trans (by kernel_rfl)))⟩
def Wk:Sum:= {ps:=[⟨ny.ct,true⟩],rs:=[⟨[.own 9 [.str],.own 209 [.i,.i,.i,.bool],.d7 .i,.d7 .i,.d7 .i,.d7 .i,.d7 .i,.d7 .i,.d7 .i,.own 3 [.i],.own 207 [.i,.i,.sl [.i]],.d7 .i,.own 182 [.i,.i,.i,.i,.i,.i,.i,.i,.i,.i,.i,.i,.i,.i,.i,.i,.i,.i,.i,.i,.i,.i,.i,.i,.i,.str,.i,.i,.bool,.i],.own 62 [.i,.i,.i,.sl [.i]],.own 186 [.i,.i,.i,.i,.bool,.bool],.own 4 [.bool],.d7 .i,.d7 .bool,.own 3 [.i],.own 260 [.i,.i,.i,.i,.i,.i,.i,.i,.i],.own 262 [.i,.i,.i,.i,.i,.i,.i],.d7 .str,.own 3 [.i],.own 223 [.i,.i,.i,.i,.i,.i,.str,.bool],.d7 .bool,.own 9 [.str],.own 3 [.i],.own 3 [.i],.d7 .i,.d7 .i,.d7 .i,.d7 .i,.d7 .i],true⟩],fn:=fun ds=>(t6 (ny.nd ds 0),ny.enc (oE (ny.nd ds 0)))}
def nfn:Ctx:=[(97,uQ),(98,Qh),(99,yI),(100,Wi),(101,Wc)]
theorem nv1:bF Tryz.prog nfn:=Ic wC (Ic nfi (Ic Qg (Ic nvY (Ic nvJ JA))))
def nfm:List (Nat×lE):=[(8, {ca:=[(1,.mN),(2,.mN),(3,.mN),(4,.mN)],boxes:=[(64,[]),(128,[]),(192,[])]})]
def Wj:ny→kM:=(fun r0=>((true,ny.enc r0):kM))
def nsP (k:Int) (h_1 h_2:Rows) (h_3 h_4 h_5 h_6 h_7 h_8 h_9:Int) (wH wI:Rows) (wJ:Int) (qI pT pb qq:Rows) (qB:Int) (qC:Bool) (qs pn po:Rows) (pr:Bytes) (pq qt:Rows) (wK:Bool) (qu qv qw:Rows) (qM qN qO qP qQ b2 nBu nBC nBD nBE nBF nBG nBH nCz:Int) (nCA:Bool) (nBv:Bytes) (nBw:Bool) (nBx nBy nBz nBA nBB nV pY pZ p6 pw px py p7:Int) (wz nBX:Rows) (nAx:Int) (nAy:Bool) (nAz nAA nAB:Rows) (nAC:Bytes) (nAD nAE:Rows) (p_:Bool) (nAF nAG nAH:Rows) (qb qc qd qe qf:Int) (nU pj pk oT oU uD:Rows):St:= {n:=83,sl:=[(1,.ptr 64 0),(2,.ptr 128 0),(3,.ptr 192 0),(4,.int .i64 k)],hp:=[(64,.box 80 [.sl [.str] h_1,.sl [.i,.i,.i,.bool] h_2,.int .i64 h_3,.int .i64 h_4,.int .i64 h_5,.int .i64 h_6,.int .i64 h_7,.int .i64 h_8,.int .i64 h_9,.sl [.i] wH,.sl [.i,.i,.sl [.i]] wI,.int .i64 wJ,.sl [.i,.i,.i,.i,.i,.i,.i,.i,.i,.i,.i,.i,.i,.i,.i,.i,.i,.i,.i,.i,.i,.i,.i,.i,.i,.str,.i,.i,.bool,.i] qI,.sl [.i,.i,.i,.sl [.i]] pT,.sl [.i,.i,.i,.i,.bool,.bool] pb,.sl [.bool] qq,.int .i64 qB,.bool qC,.sl [.i] qs,.sl [.i,.i,.i,.i,.i,.i,.i,.i,.i] pn,.sl [.i,.i,.i,.i,.i,.i,.i] po,.str pr,.sl [.i] pq,.sl [.i,.i,.i,.i,.i,.i,.str,.bool] qt,.bool wK,.sl [.str] qu,.sl [.i] qv,.sl [.i] qw,.int .i64 qM,.int .i64 qN,.int .i64 qO,.int .i64 qP,.int .i64 qQ]),(128,.box 80 [.nil,.nil,.int .i64 b2,.int .i64 nBu,.int .i64 nBC,.int .i64 nBD,.int .i64 nBE,.int .i64 nBF,.int .i64 nBG,.nil,.nil,.int .i64 nBH,.nil,.nil,.nil,.nil,.int .i64 nCz,.bool nCA,.nil,.nil,.nil,.str nBv,.nil,.nil,.bool nBw,.nil,.nil,.nil,.int .i64 nBx,.int .i64 nBy,.int .i64 nBz,.int .i64 nBA,.int .i64 nBB]),(192,.box 80 [.own 1329152,.own 1329153,.int .i64 nV,.int .i64 pY,.int .i64 pZ,.int .i64 p6,.int .i64 pw,.int .i64 px,.int .i64 py,.own 1329161,.own 1329162,.int .i64 p7,.own 1329164,.own 1329165,.sl [.i,.i,.i,.i,.bool,.bool] wz,.sl [.bool] nBX,.int .i64 nAx,.bool nAy,.sl [.i] nAz,.sl [.i,.i,.i,.i,.i,.i,.i,.i,.i] nAA,.sl [.i,.i,.i,.i,.i,.i,.i] nAB,.str nAC,.sl [.i] nAD,.sl [.i,.i,.i,.i,.i,.i,.str,.bool] nAE,.bool p_,.sl [.str] nAF,.sl [.i] nAG,.sl [.i] nAH,.int .i64 qb,.int .i64 qc,.int .i64 qd,.int .i64 qe,.int .i64 qf]),(1329152,.row 9 [.str] nU false true),(1329153,.row 209 [.i,.i,.i,.bool] pj false true),(1329161,.row 3 [.i] pk false true),(1329162,.row 207 [.i,.i,.sl [.i]] oT false true),(1329164,.row 182 [.i,.i,.i,.i,.i,.i,.i,.i,.i,.i,.i,.i,.i,.i,.i,.i,.i,.i,.i,.i,.i,.i,.i,.i,.i,.str,.i,.i,.bool,.i] oU false true),(1329165,.row 62 [.i,.i,.i,.sl [.i]] uD false true)],ok:=true,ls:=[],lm:=[]}
theorem nv0:D8 Tryz.prog 29 Wk:=by
 refine nO (A:=nfm) nv1 Tryz.func29 fun ds (hw:kc (ny.ct++([])) ds) aJ=> ?_
 obtain⟨h,ds,rfl,h_h,hw⟩:=ny.nA (r:=_) hw
 obtain rfl:=nc hw
 obtain⟨N,hN⟩:=nvZ Vm.ke Wj h h_h aJ
 exact⟨N,Eq.trans (b:=Qj Vm.ke Wj (fun pT pb qq qB qC qs pn po pr pq qt qu qv qw nV pY pZ p6 pw px py p7 p_ qb qc qd qe qf nU pj pk oT oU k uD=>LR (LQ Tryz.prog nfn nfm N Tryz.f29 Wk [true,true,true,true,true,true,true,false,true,false] []) N (nsP k h.ov.nE h.Maps h.Tx.Ring.oG h.Tx.Ring.nL h.Tx.Ring.Head h.Tx.Ring.qF h.Tx.nI.oG h.Tx.nI.nL h.Tx.nI.Count h.Tx.nI.oB h.Tx.nr h.Tx.Next h.Rx pT pb qq qB qC qs pn po pr pq qt h.sk qu qv qw h.Counters.Frames h.Counters.Bad h.Counters.sn h.Counters.t5 h.Counters.OW 0 0 0 0 0 0 0 0 0 false [] false 0 0 0 0 0 nV pY pZ p6 pw px py p7 h.og h.pd h.Filter.Mac h.Filter.pS h.Filter.pH h.nz.oO h.nz.Table.nF h.nz.oF.Key h.nz.oF.Table h.pG p_ h.wE h.oX h.pC qb qc qd qe qf nU pj pk oT oU uD)) h) (by kernel_rfl) (Eq.trans (congrArg (fun l_=>Qj Vm.ke Wj l_ h) (by funext pT pb qq qB qC qs pn po pr pq qt qu qv qw nV pY pZ p6 pw px py p7 p_ qb qc qd qe qf nU pj pk oT oU;exact Wp _ _ _ N)) (hN.trans (by kernel_rfl)))⟩
def naV:Sum:= {ps:=[⟨[.str],false⟩,⟨[.i],false⟩],rs:=[⟨[.d7 .i],false⟩],fn:=fun ds=>(true,[.int (Ws (rS ds 0) (rI ds 1))])}
def nzb:Ctx:=[(262,Rr)]
theorem nze:bF Tryz.prog nzb:=Ic Z_ JA
theorem nzd:D8 Tryz.prog 261 naV:=by
 refine nO (A:=[]) nze Tryz.func261 fun ds (hw:kc (.str::(.i::([]))) ds) _=> ?_
 obtain⟨s,ds,rfl,RP,hw⟩:=qj hw
 obtain⟨at_,ds,rfl,_,hw⟩:=nj hw
 obtain rfl:=nc hw
 exact⟨0,eT (nzc Vm.ke (fun r0=>((true,[.int r0]):kM)) s at_ RP)⟩
abbrev njT:Sum:=naV
theorem nyQ:D8 Tryz.prog 276 njT:=by
 refine nO (A:=[]) JA Tryz.func276 fun ds (hw:kc (.str::(.i::([]))) ds) _=> ?_
 obtain⟨s,ds,rfl,RP,hw⟩:=qj hw
 obtain⟨at_,ds,rfl,_,hw⟩:=nj hw
 obtain rfl:=nc hw
 exact⟨0,eT (nyP Vm.ke (fun r0=>((true,[.int r0]):kM)) s at_ RP)⟩
def YJ:Sum:= {ps:=[⟨[.str],false⟩],rs:=[⟨[.d7 .i],false⟩,⟨[.d7 .i],false⟩],fn:=fun ds=>(true,[.int (nad (rS ds 0)).1]++[.int (nad (rS ds 0)).2])}
def nmE:Ctx:=[(276,njT),(277,SC)]
theorem nmH:bF Tryz.prog nmE:=Ic nyQ (Ic nbI JA)
theorem nmG:D8 Tryz.prog 222 YJ:=by
 refine nO (A:=[]) nmH Tryz.func222 fun ds (hw:kc (.str::([])) ds) _=> ?_
 obtain⟨image,ds,rfl,nyI,hw⟩:=qj hw
 obtain rfl:=nc hw
 exact⟨0,eT (nmF Vm.ke (fun r0 r1=>((true,[.int r0]++[.int r1]):kM)) image nyI)⟩
def nfj:Sum:= {ps:=[⟨[.str],false⟩],rs:=[⟨[.d7 .i],false⟩,⟨[.d7 .i],false⟩],fn:=fun ds=>(true,[.int (PD (rS ds 0)).1]++[.int (PD (rS ds 0)).2])}
def nvT:Ctx:=[(261,naV)]
theorem nvW:bF Tryz.prog nvT:=Ic nzd JA
theorem nvV:D8 Tryz.prog 195 nfj:=by
 refine nO (A:=[]) nvW Tryz.func195 fun ds (hw:kc (.str::([])) ds) _=> ?_
 obtain⟨s,ds,rfl,RP,hw⟩:=qj hw
 obtain rfl:=nc hw
 exact⟨0,eT (nvU Vm.ke (fun r0 r1=>((true,[.int r0]++[.int r1]):kM)) s RP)⟩
def Ss:Sum:= {ps:=[⟨nx.ct,true⟩],rs:=[⟨[.d7 .str],false⟩,⟨[.d7 .bool],false⟩],fn:=fun ds=>(true,[.str (nR (nx.nd ds 0)).1]++[.bool (nR (nx.nd ds 0)).2])}
def npT:Ctx:=[(221,Pc),(222,YJ),(223,xj),(224,sf)]
theorem npW:bF Tryz.prog npT:=Ic njN (Ic nmG (Ic Sp (Ic ud JA)))
theorem npV:D8 Tryz.prog 149 Ss:=by
 refine nO (A:=[]) npW Tryz.func149 fun ds (hw:kc (nx.ct++([])) ds) _=> ?_
 obtain⟨p,ds,rfl,_,hw⟩:=nx.nA (r:=_) hw
 obtain rfl:=nc hw
 exact⟨0,eT (npU Vm.ke (fun r0 r1=>((true,[.str r0]++[.bool r1]):kM)) p)⟩
abbrev ncW:Sum:=Ss
def nsx:Ctx:=[(194,XB),(195,nfj),(196,xx),(197,uf)]
theorem nsA:bF Tryz.prog nsx:=Ic nlI (Ic nvV (Ic N4 (Ic vP JA)))
theorem nsz:D8 Tryz.prog 111 ncW:=by
 refine nO (A:=[]) nsA Tryz.func111 fun ds (hw:kc (nx.ct++([])) ds) _=> ?_
 obtain⟨p,ds,rfl,_,hw⟩:=nx.nA (r:=_) hw
 obtain rfl:=nc hw
 exact⟨0,eT (nsy Vm.ke (fun r0 r1=>((true,[.str r0]++[.bool r1]):kM)) p)⟩
def Nw:Sum:= {ps:=[⟨nB.ct,true⟩],rs:=[⟨[.d7 .i],false⟩],fn:=fun ds=>(true,[.int (xh (nB.nd ds 0))])}
def npC:Ctx:=[(213,xz),(225,Ny)]
theorem npE:bF Tryz.prog npC:=Ic RE (Ic nbn JA)
theorem nbm:D8 Tryz.prog 150 Nw:=by
 refine nO (A:=[]) npE Tryz.func150 fun ds (hw:kc (nB.ct++([])) ds) _=> ?_
 obtain⟨r,ds,rfl,_,hw⟩:=nB.nA (r:=_) hw
 obtain rfl:=nc hw
 exact⟨0,eT (npD (fun r0=>((true,[.int r0]):kM)) r)⟩
abbrev S3:Sum:=Nw
def nsi:Ctx:=[(187,Nl),(198,S4)]
theorem nsl:bF Tryz.prog nsi:=Ic RO (Ic ncM JA)
theorem ncL:D8 Tryz.prog 113 S3:=by
 refine nO (A:=[]) nsl Tryz.func113 fun ds (hw:kc (nB.ct++([])) ds) _=> ?_
 obtain⟨r,ds,rfl,_,hw⟩:=nB.nA (r:=_) hw
 obtain rfl:=nc hw
 exact⟨0,eT (nsj (fun r0=>((true,[.int r0]):kM)) r)⟩
def yr:Sum:= {ps:=[⟨nv.ct,true⟩,⟨[.i],false⟩],rs:=[⟨[.d7 .i],false⟩],fn:=fun ds=>(true,[.int (pI (nv.nd ds 0) (rI ds 4))])}
def ndo:Ctx:=[(143,oy),(145,uc)]
theorem ndr:bF Tryz.prog ndo:=Ic oC (Ic zR JA)
theorem ndq:D8 Tryz.prog 227 yr:=by
 refine nO (A:=[]) ndr Tryz.func227 fun ds (hw:kc (nv.ct++(.i::([]))) ds) _=> ?_
 obtain⟨p,ds,rfl,_,hw⟩:=nv.nA (r:=_) hw
 obtain⟨k,ds,rfl,_,hw⟩:=nj hw
 obtain rfl:=nc hw
 exact⟨0,eT (ndp (fun r0=>((true,[.int r0]):kM)) p k)⟩
abbrev R6:Sum:=yr
def neE:Ctx:=[(106,oP),(109,vO)]
theorem neI:bF Tryz.prog neE:=Ic oW (Ic Nk JA)
theorem neG:D8 Tryz.prog 115 R6:=by
 refine nO (A:=[]) neI Tryz.func115 fun ds (hw:kc (nv.ct++(.i::([]))) ds) _=> ?_
 obtain⟨p,ds,rfl,_,hw⟩:=nv.nA (r:=_) hw
 obtain⟨k,ds,rfl,_,hw⟩:=nj hw
 obtain rfl:=nc hw
 exact⟨0,eT (neF (fun r0=>((true,[.int r0]):kM)) p k)⟩
def Rz:Sum:= {ps:=[⟨qo.ct,true⟩],rs:=[⟨[.d7 .bool],false⟩],fn:=fun ds=>(true,[.bool (OS (qo.nd ds 0))])}
def nwc:Ctx:=[(143,oy)]
theorem nwe:bF Tryz.prog nwc:=Ic oC JA
theorem ngA:D8 Tryz.prog 229 Rz:=by
 refine nO (A:=[]) nwe Tryz.func229 fun ds (hw:kc (qo.ct++([])) ds) _=> ?_
 obtain⟨x,ds,rfl,_,hw⟩:=qo.nA (r:=_) hw
 obtain rfl:=nc hw
 exact⟨0,eT (nwd (fun r0=>((true,[.bool r0]):kM)) x)⟩
abbrev Ys:Sum:=Rz
def nxJ:Ctx:=[(106,oP)]
theorem nxM:bF Tryz.prog nxJ:=Ic oW JA
theorem nhm:D8 Tryz.prog 201 Ys:=by
 refine nO (A:=[]) nxM Tryz.func201 fun ds (hw:kc (qo.ct++([])) ds) _=> ?_
 obtain⟨x,ds,rfl,_,hw⟩:=qo.nA (r:=_) hw
 obtain rfl:=nc hw
 exact⟨0,eT (nxK (fun r0=>((true,[.bool r0]):kM)) x)⟩
def vX:Sum:= {ps:=[⟨nh.ct,true⟩],rs:=[⟨[.d7 .i],false⟩],fn:=fun ds=>(true,[.int (zh (nh.nd ds 0))])}
def Tl:List (Nat×lE):=[(3, {ca:=[(3,.mN),(7,.mN),(8,.mN),(9,.mN)],boxes:=[(64,[])]})]
def zB:Int→kM:=(fun r0=>((true,[.int r0]):kM))
def ndE (n:Int) (x:Rows) (nX oc xt uX xu xv vc vd ve:Int) (vf sX:Rows) (qR:Int):St:= {n:=19,sl:=[(3,.int .i64 n),(7,.sl [.i,.i,.sl [.i]] x),(8,.int .i64 nX),(9,.int .i64 oc)],hp:=[(64,.box 65 [.int .i64 xt,.int .i64 uX,.int .i64 xu,.int .i64 xv,.int .i64 vc,.int .i64 vd,.int .i64 ve,.sl [.i] vf,.sl [.i,.i,.sl [.i]] sX,.int .i64 qR])],ok:=true,ls:=[],lm:=[]}
theorem nf1:D8 Tryz.prog 151 vX:=by
 refine nO (A:=Tl) JA Tryz.func151 fun ds (hw:kc (nh.ct++([])) ds) _=> ?_
 obtain⟨q,ds,rfl,h_q,hw⟩:=nh.nA (r:=_) hw
 obtain rfl:=nc hw
 obtain⟨N,hN⟩:=nf0 Vm.ke zB q h_q
 exact⟨N,Eq.trans (b:=vY Vm.ke zB (fun x nX n oc=>LR (LQ Tryz.prog [] Tl N Tryz.f151 vX [true,true,false,true,false] []) N (ndE n x nX oc q.Ring.oG q.Ring.nL q.Ring.Head q.Ring.qF q.nI.oG q.nI.nL q.nI.Count q.nI.oB q.nr q.Next)) q) (by kernel_rfl) (Eq.trans (congrArg (fun l_=>vY Vm.ke zB l_ q) (by funext x nX;exact Wp _ _ _ N)) (hN.trans (by kernel_rfl)))⟩
abbrev Tb:Sum:=vX
def nc3:List (Nat×lE):=[(3, {ca:=[(1,.mN),(3,.mN),(4,.mN)],boxes:=[(64,[])]})]
def nc4:Int→kM:=(fun r0=>((true,[.int r0]):kM))
def noz (n k xt uX xu xv vc vd ve:Int) (vf sX:Rows) (qR:Int):St:= {n:=21,sl:=[(1,.ptr 64 0),(3,.int .i64 n),(4,.int .i64 k)],hp:=[(64,.box 65 [.int .i64 xt,.int .i64 uX,.int .i64 xu,.int .i64 xv,.int .i64 vc,.int .i64 vd,.int .i64 ve,.sl [.i] vf,.sl [.i,.i,.sl [.i]] sX,.int .i64 qR])],ok:=true,ls:=[],lm:=[]}
theorem nsO:D8 Tryz.prog 114 Tb:=by
 refine nO (A:=nc3) JA Tryz.func114 fun ds (hw:kc (nh.ct++([])) ds) _=> ?_
 obtain⟨q,ds,rfl,h_q,hw⟩:=nh.nA (r:=_) hw
 obtain rfl:=nc hw
 obtain⟨N,hN⟩:=nsN Vm.ke nc4 q h_q
 exact⟨N,eL (fun l_=>Tc Vm.ke nc4 l_ q) (funext fun sX=>Wp (LQ Tryz.prog [] nc3 N Tryz.f114 Tb [true,true,false,true,false] []) (fun n k=>noz n k q.Ring.oG q.Ring.nL q.Ring.Head q.Ring.qF q.nI.oG q.nI.nL q.nI.Count q.nI.oB sX q.Next) _ N) hN⟩
def Nu:Sum:= {ps:=[⟨[.sl [.i,.i]],false⟩],rs:=[⟨[.d7 .bool],false⟩],fn:=fun ds=>(true,[.bool (vi (rR ds 0))])}
def nbj:Ctx:=[(143,oy)]
theorem npA:bF Tryz.prog nbj:=Ic oC JA
def nbi:List (Nat×lE):=[(2, {ca:=[(0,.mN),(5,.mN),(6,.mN),(7,.mN)],boxes:=[]})]
def So:Bool→kM:=(fun r0=>((true,[.bool r0]):kM))
def nmr (list_ x:Rows) (nX oc:Int):St:= {n:=24,sl:=[(0,.sl [.i,.i] list_),(5,.sl [.i,.i] x),(6,.int .i64 nX),(7,.int .i64 oc)],hp:=[],ok:=true,ls:=[],lm:=[]}
theorem npz:D8 Tryz.prog 228 Nu:=by
 refine nO (A:=nbi) npA Tryz.func228 fun ds (hw:kc ((.sl [.i,.i])::([])) ds) _=> ?_
 obtain⟨list_,ds,rfl,pE,hw⟩:=nH hw
 obtain rfl:=nc hw
 obtain⟨N,hN⟩:=npy Vm.ke So list_ pE
 exact⟨N,Eq.trans (b:=Nv Vm.ke So (fun x nX oc=>LR (LQ Tryz.prog nbj nbi N Tryz.f228 Nu [true,false,true,false] []) N (nmr list_ x nX oc)) list_) (by kernel_rfl) (Eq.trans (congrArg (fun l_=>Nv Vm.ke So l_ list_) (by funext x nX;exact nL1 _ _ _ N)) (hN.trans (by kernel_rfl)))⟩
abbrev S1:Sum:=Nu
def ncH:Ctx:=[(106,oP)]
theorem nse:bF Tryz.prog ncH:=Ic oW JA
def ncG:List (Nat×lE):=[(2, {ca:=[(0,.mN),(3,.mN)],boxes:=[]})]
def ncI:Bool→kM:=(fun r0=>((true,[.bool r0]):kM))
def nol (list_:Rows) (k:Int):St:= {n:=28,sl:=[(0,.sl [.i,.i] list_),(3,.int .i64 k)],hp:=[],ok:=true,ls:=[],lm:=[]}
theorem nsd:D8 Tryz.prog 200 S1:=by
 refine nO (A:=ncG) nse Tryz.func200 fun ds (hw:kc ((.sl [.i,.i])::([])) ds) _=> ?_
 obtain⟨list_,ds,rfl,pE,hw⟩:=nH hw
 obtain rfl:=nc hw
 obtain⟨N,hN⟩:=nsc Vm.ke ncI list_ pE
 exact⟨N,eL (fun l_=>S2 Vm.ke ncI l_ list_) (nL1 (LQ Tryz.prog ncH ncG N Tryz.f200 S1 [true,false,true,false] []) (nol list_) _ N) hN⟩
def Og:Sum:= {ps:=[⟨nB.ct,true⟩,⟨[.i],false⟩],rs:=[⟨[.d7 .i],false⟩],fn:=fun ds=>(true,[.int (rA (nB.nd ds 0) (rI ds 4))])}
def nhH:Ctx:=[(213,xz)]
theorem nhK:bF Tryz.prog nhH:=Ic RE JA
theorem nhJ:D8 Tryz.prog 281 Og:=by
 refine nO (A:=[]) nhK Tryz.func281 fun ds (hw:kc (nB.ct++(.i::([]))) ds) _=> ?_
 obtain⟨r,ds,rfl,_,hw⟩:=nB.nA (r:=_) hw
 obtain⟨count,ds,rfl,_,hw⟩:=nj hw
 obtain rfl:=nc hw
 exact⟨0,eT (nhI Vm.ke (fun r0=>((true,[.int r0]):kM)) r count)⟩
abbrev VV:Sum:=Og
def njg:Ctx:=[(187,Nl)]
theorem njj:bF Tryz.prog njg:=Ic RO JA
theorem nji:D8 Tryz.prog 265 VV:=by
 refine nO (A:=[]) njj Tryz.func265 fun ds (hw:kc (nB.ct++(.i::([]))) ds) _=> ?_
 obtain⟨r,ds,rfl,_,hw⟩:=nB.nA (r:=_) hw
 obtain⟨count,ds,rfl,_,hw⟩:=nj hw
 obtain rfl:=nc hw
 exact⟨0,eT (njh Vm.ke (fun r0=>((true,[.int r0]):kM)) r count)⟩
def Oh:Sum:= {ps:=[⟨nv.ct,true⟩,⟨[.i],false⟩],rs:=[⟨[.d7 .i,.d7 .i,.d7 .i,.own 3 [.i]],true⟩,⟨[.own 3 [.i]],false⟩,⟨[.d7 .bool],false⟩],fn:=fun ds=>(uq (nv.nd ds 0) (rI ds 4),nv.enc (n7 (nv.nd ds 0) (rI ds 4)).1++[.sl (n7 (nv.nd ds 0) (rI ds 4)).2.1]++[.bool (n7 (nv.nd ds 0) (rI ds 4)).2.2])}
def nhP:Ctx:=[(133,u4),(138,tP),(143,oy),(145,uc)]
theorem nhS:bF Tryz.prog nhP:=Ic NI (Ic u0 (Ic oC (Ic zR JA)))
theorem nhR:D8 Tryz.prog 152 Oh:=by
 refine nO (A:=[]) nhS Tryz.func152 fun ds (hw:kc (nv.ct++(.i::([]))) ds) aJ=> ?_
 obtain⟨p,ds,rfl,_,hw⟩:=nv.nA (r:=_) hw
 obtain⟨n,ds,rfl,_,hw⟩:=nj hw
 obtain rfl:=nc hw
 exact⟨0,eT (nhQ Vm.ke (fun r0 r1 r2=>((true,nv.enc r0++[.sl r1]++[.bool r2]):kM)) p n aJ)⟩
abbrev V2:Sum:=Oh
def njo:Ctx:=[(99,yI),(106,oP),(109,vO)]
theorem njr:bF Tryz.prog njo:=Ic Qg (Ic oW (Ic Nk JA))
theorem njq:D8 Tryz.prog 112 V2:=by
 refine nO (A:=[]) njr Tryz.func112 fun ds (hw:kc (nv.ct++(.i::([]))) ds) aJ=> ?_
 obtain⟨p,ds,rfl,_,hw⟩:=nv.nA (r:=_) hw
 obtain⟨n,ds,rfl,_,hw⟩:=nj hw
 obtain rfl:=nc hw
 exact⟨0,eT (njp Vm.ke (fun r0 r1 r2=>((true,nv.enc r0++[.sl r1]++[.bool r2]):kM)) p n aJ)⟩
def Pf:Sum:= {ps:=[⟨qo.ct,true⟩],rs:=[⟨[.d7 .str],false⟩],fn:=fun ds=>(true,[.str (vE (qo.nd ds 0))])}
def njP:Ctx:=[(224,sf),(229,Rz),(230,vG)]
theorem njS:bF Tryz.prog njP:=Ic ud (Ic ngA (Ic zS JA))
theorem njR:D8 Tryz.prog 155 Pf:=by
 refine nO (A:=[]) njS Tryz.func155 fun ds (hw:kc (qo.ct++([])) ds) _=> ?_
 obtain⟨x,ds,rfl,_,hw⟩:=qo.nA (r:=_) hw
 obtain rfl:=nc hw
 exact⟨0,eT (njQ Vm.ke (fun r0=>((true,[.str r0]):kM)) x)⟩
abbrev XD:Sum:=Pf
def nlK:Ctx:=[(197,uf),(201,Ys),(202,xD)]
theorem nlN:bF Tryz.prog nlK:=Ic vP (Ic nhm (Ic Nm JA))
theorem nlM:D8 Tryz.prog 118 XD:=by
 refine nO (A:=[]) nlN Tryz.func118 fun ds (hw:kc (qo.ct++([])) ds) _=> ?_
 obtain⟨x,ds,rfl,_,hw⟩:=qo.nA (r:=_) hw
 obtain rfl:=nc hw
 exact⟨0,eT (nlL Vm.ke (fun r0=>((true,[.str r0]):kM)) x)⟩
def rC:Sum:= {ps:=[⟨[.sl [.i,.i]],false⟩,⟨[.i],false⟩,⟨[.i],false⟩],rs:=[⟨[.d7 (.sl [.i,.i,.i,.i,.i,.i])],false⟩],fn:=fun ds=>(true,[.sl (pN (rR ds 0) (rI ds 1) (rI ds 2))])}
def ta:Ctx:=[(143,oy),(228,Nu),(229,Rz)]
theorem nda:bF Tryz.prog ta:=Ic oC (Ic npz (Ic ngA JA))
def s_:List (Nat×lE):=[(5, {ca:=[(0,.mN),(2,.mN),(7,.mN),(30,.mN),(31,.mN),(32,.mN)],boxes:=[]}),(13, {ca:=[(7,.d7 203),(54,.d7 203),(55,.mN),(56,.mN)],boxes:=[]})]
def qg:Rows→kM:=(fun r0=>((true,[.sl r0]):kM))
def sD (pieces:Rows) (cookie:Int) (x:Rows) (nX oc:Int) (nV:Rows):St:= {n:=65,sl:=[(0,.sl [.i,.i] pieces),(2,.int .i64 cookie),(7,.own 640448),(30,.sl [.i,.i] x),(31,.int .i64 nX),(32,.int .i64 oc)],hp:=[(640448,.row 203 [.i,.i,.i,.i,.i,.i] nV false true)],ok:=true,ls:=[],lm:=[]}
def t8 (nV OP:Rows) (xf OE:Int):St:= {n:=65,sl:=[(7,.sl [.i,.i,.i,.i,.i,.i] nV),(54,.sl [.i,.i,.i,.i,.i,.i] OP),(55,.int .i64 xf),(56,.int .i64 OE)],hp:=[],ok:=true,ls:=[],lm:=[]}
noncomputable def t7 (N:Nat):(St→kM)→St→kM:=LQ Tryz.prog ta s_ N Tryz.f154 rC [true,true,true,true,false,true,false] []
noncomputable def sA (N:Nat):(St→kM)→St→kM:=LQ Tryz.prog ta s_ N Tryz.f154 rC [true,true,true,false,true,false] []
theorem nav (N:Nat) (nV OP:Rows) (xf:Int) (ih:St→kM) (OE:Int):t7 N ih (t8 nV OP xf OE)=sC Vm.ke qg nV OP xf (fun OE=>ih (t8 nV OP xf OE)) OE:=by kernel_rfl
theorem nax (N:Nat) (nV OP:Rows) (xf:Int) (m_:Nat):(fun OE=>LR (t7 N) m_ (t8 nV OP xf OE))=pR Vm.ke qg N nV OP xf m_:=by
 induction m_ with
 | zero=>rfl
 | succ m_ ih=>
  funext OE
  refine (nav N nV OP xf (LR (t7 N) m_) OE).trans ?_
  rw[ih]
  rfl
theorem nau (N:Nat) (pieces:Rows) (cookie:Int) (x:Rows) (nX:Int) (ih:St→kM) (oc:Int) (nV:Rows):sA N ih (sD pieces cookie x nX oc nV)=sB Vm.ke qg (fun nV OP xf OE=>LR (t7 N) N (t8 nV OP xf OE)) pieces cookie x nX (fun oc nV=>ih (sD pieces cookie x nX oc nV)) oc nV:=by kernel_rfl
theorem naw (N:Nat) (pieces:Rows) (cookie:Int) (x:Rows) (nX:Int) (m_:Nat):(fun oc nV=>LR (sA N) m_ (sD pieces cookie x nX oc nV))=qx Vm.ke qg N pieces cookie x nX m_:=by
 induction m_ with
 | zero=>rfl
 | succ m_ ih=>
  funext oc nV
  refine (nau N pieces cookie x nX (LR (sA N) m_) oc nV).trans ?_
  have e1:=funext fun nV=>funext fun OP=>funext fun xf=>nax N nV OP xf N
  rw[e1]
  rw[ih]
  rfl
theorem nc_ (N:Nat) (pieces:Rows) (size cookie:Int):HT Tryz.prog ta s_ N Tryz.f154 rC (.sl pieces::(.int size::(.int cookie::([]))))=uR Vm.ke qg N pieces size cookie:=by
 have nob:HT Tryz.prog ta s_ N Tryz.f154 rC (.sl pieces::(.int size::(.int cookie::([]))))=uS Vm.ke qg (fun x nX oc nV=>LR (sA N) N (sD pieces cookie x nX oc nV)) pieces size cookie:=by kernel_rfl
 refine nob.trans ?_
 unfold uR
 have e0:(fun x nX oc nV=>LR (sA N) N (sD pieces cookie x nX oc nV))=(fun x nX=>qx Vm.ke qg N pieces cookie x nX N):=by
  funext x nX
  exact naw N pieces cookie x nX N
 exact congrArg (fun l_=>uS Vm.ke qg l_ pieces size cookie) e0
theorem nc9:D8 Tryz.prog 154 rC:=by
 refine nO (A:=s_) nda Tryz.func154 fun ds (hw:kc ((.sl [.i,.i])::(.i::(.i::([])))) ds) _=> ?_
 obtain⟨pieces,ds,rfl,Uf,hw⟩:=nH hw
 obtain⟨size,ds,rfl,_,hw⟩:=nj hw
 obtain⟨cookie,ds,rfl,_,hw⟩:=nj hw
 obtain rfl:=nc hw
 obtain⟨N,hN⟩:=nc8 Vm.ke qg pieces size cookie Uf
 exact⟨N,((nc_ N pieces size cookie).trans hN).trans (by kernel_rfl)⟩
def xE:Sum:= {ps:=[⟨[.sl [.i,.i]],false⟩,⟨[.i],false⟩,⟨[.i],false⟩],rs:=[⟨[.own 203 [.i,.i,.i,.i,.i,.i]],false⟩],fn:=fun ds=>(true,[.sl (pN (rR ds 0) (rI ds 1) (rI ds 2))])}
def Qu:Ctx:=[(106,oP),(200,S1),(201,Ys)]
theorem nde:bF Tryz.prog Qu:=Ic oW (Ic nsd (Ic nhm JA))
def Qt:List (Nat×lE):=[(5, {ca:=[(0,.mN),(2,.mN),(7,.mN),(8,.mN)],boxes:=[]})]
def Qv:Rows→kM:=(fun r0=>((true,[.sl r0]):kM))
def naU (pieces:Rows) (cookie k:Int) (nV:Rows):St:= {n:=68,sl:=[(0,.sl [.i,.i] pieces),(2,.int .i64 cookie),(7,.own 640448),(8,.int .i64 k)],hp:=[(640448,.row 203 [.i,.i,.i,.i,.i,.i] nV false true)],ok:=true,ls:=[],lm:=[]}
theorem ndd:D8 Tryz.prog 117 xE:=by
 refine nO (A:=Qt) nde Tryz.func117 fun ds (hw:kc ((.sl [.i,.i])::(.i::(.i::([])))) ds) _=> ?_
 obtain⟨pieces,ds,rfl,Uf,hw⟩:=nH hw
 obtain⟨size,ds,rfl,_,hw⟩:=nj hw
 obtain⟨cookie,ds,rfl,_,hw⟩:=nj hw
 obtain rfl:=nc hw
 obtain⟨N,hN⟩:=ndc Vm.ke Qv pieces size cookie Uf
 exact⟨N,eL (fun l_=>xF Vm.ke Qv l_ pieces size cookie) (Wp (LQ Tryz.prog Qu Qt N Tryz.f117 xE [true,true,true,false,true,false] []) (naU pieces cookie) _ N) hN⟩
def Us:Sum:= {ps:=[⟨[.sl [.i,.i,.i,.bool]],false⟩,⟨na.ct,true⟩,⟨[.i],false⟩,⟨nB.ct,true⟩,⟨[.str],false⟩],rs:=[⟨[.own 9 [.str]],true⟩,⟨[.d7 .i,.d7 .i,.d7 .i,.d7 .i],true⟩,⟨[.d7 .bool],false⟩],fn:=fun ds=>(su (rR ds 0) (na.nd ds 1) (rI ds 2) (nB.nd ds 3) (rS ds 7),na.enc (tr (rR ds 0) (na.nd ds 1) (rI ds 2) (nB.nd ds 3) (rS ds 7)).1++nB.enc (tr (rR ds 0) (na.nd ds 1) (rI ds 2) (nB.nd ds 3) (rS ds 7)).2.1++[.bool (tr (rR ds 0) (na.nd ds 1) (rI ds 2) (nB.nd ds 3) (rS ds 7)).2.2])}
def nty:Ctx:=[(130,sH),(150,Nw),(280,na6),(281,Og)]
theorem ntB:bF Tryz.prog nty:=Ic tE (Ic nbm (Ic nph (Ic nhJ JA)))
theorem ntA:D8 Tryz.prog 231 Us:=by
 refine nO (A:=[]) ntB Tryz.func231 fun ds hw aJ=> ?_
 replace hw:kc ((.sl [.i,.i,.i,.bool])::(na.ct++(.i::(nB.ct++(.str::([])))))) ds:=hw
 obtain⟨list_,ds,rfl,_,hw⟩:=nH hw
 obtain⟨m,ds,rfl,_,hw⟩:=na.nA (r:=_) hw
 obtain⟨domain,ds,rfl,_,hw⟩:=nj hw
 obtain⟨r,ds,rfl,_,hw⟩:=nB.nA (r:=_) hw
 obtain⟨entry,ds,rfl,_,hw⟩:=qj hw
 obtain rfl:=nc hw
 exact⟨0,eT (ntz Vm.ke (fun r0 r1 r2=>((true,na.enc r0++nB.enc r1++[.bool r2]):kM)) list_ m domain r entry aJ)⟩
abbrev neO:Sum:=Us
def nvk:Ctx:=[(97,uQ),(113,S3),(199,NZ),(265,VV)]
theorem nvn:bF Tryz.prog nvk:=Ic wC (Ic ncL (Ic ncs (Ic nji JA)))
theorem nvm:D8 Tryz.prog 203 neO:=by
 refine nO (A:=[]) nvn Tryz.func203 fun ds hw aJ=> ?_
 replace hw:kc ((.sl [.i,.i,.i,.bool])::(na.ct++(.i::(nB.ct++(.str::([])))))) ds:=hw
 obtain⟨list_,ds,rfl,_,hw⟩:=nH hw
 obtain⟨m,ds,rfl,_,hw⟩:=na.nA (r:=_) hw
 obtain⟨domain,ds,rfl,_,hw⟩:=nj hw
 obtain⟨r,ds,rfl,_,hw⟩:=nB.nA (r:=_) hw
 obtain⟨entry,ds,rfl,_,hw⟩:=qj hw
 obtain rfl:=nc hw
 exact⟨0,eT (nvl Vm.ke (fun r0 r1 r2=>((true,na.enc r0++nB.enc r1++[.bool r2]):kM)) list_ m domain r entry aJ)⟩
def xI:Sum:= {ps:=[⟨[.sl [.i,.i,.i,.bool]],false⟩,⟨na.ct,true⟩,⟨[.i],false⟩,⟨nB.ct,true⟩,⟨[.sl [.str]],false⟩],rs:=[⟨[.own 9 [.str]],true⟩,⟨[.d7 .i,.d7 .i,.d7 .i,.d7 .i],true⟩,⟨[.d7 .bool],false⟩],fn:=fun ds=>(su (rR ds 0) (na.nd ds 1) (rI ds 2) (nB.nd ds 3) (rR ds 7),na.enc (pK (rR ds 0) (na.nd ds 1) (rI ds 2) (nB.nd ds 3) (rR ds 7)).1++nB.enc (pK (rR ds 0) (na.nd ds 1) (rI ds 2) (nB.nd ds 3) (rR ds 7)).2.1++[.bool (pK (rR ds 0) (na.nd ds 1) (rI ds 2) (nB.nd ds 3) (rR ds 7)).2.2])}
def WA:Ctx:=[(130,sH),(231,Us)]
theorem njZ:bF Tryz.prog WA:=Ic tE (Ic ntA JA)
def Wz:List (Nat×lE):=[(3, {ca:=[(0,.mN),(2,.mN),(6,.mN),(8,.mN),(10,.mN),(11,.mN),(13,.mN),(14,.mN),(21,.mN),(22,.mN),(23,.mN)],boxes:=[(384,[]),(512,[]),(640,[]),(704,[]),(832,[]),(896,[])]})]
def Po:na→nB→Bool→kM:=(fun r0 r1 r2=>((true,na.enc r0++nB.enc r1++[.bool r2]):kM))
def nhF (list_:Rows) (domain:Int) (entries:Rows) (nX oc:Int) (qH:Rows) (r_1 r_2 r_3 r_4 b11 nBr nBs nBt next niU niV niW:Int) (nU:Rows):St:= {n:=45,sl:=[(0,.sl [.i,.i,.i,.bool] list_),(2,.int .i64 domain),(6,.ptr 384 0),(8,.ptr 512 0),(10,.ptr 640 0),(11,.ptr 704 0),(13,.ptr 832 0),(14,.ptr 896 0),(21,.sl [.str] entries),(22,.int .i64 nX),(23,.int .i64 oc)],hp:=[(384,.box 59 [.sl [.str] qH]),(512,.box 61 [.int .i64 r_1,.int .i64 r_2,.int .i64 r_3,.int .i64 r_4]),(640,.box 59 [.nil]),(704,.box 61 [.int .i64 b11,.int .i64 nBr,.int .i64 nBs,.int .i64 nBt]),(832,.box 59 [.own 1492992]),(896,.box 61 [.int .i64 next,.int .i64 niU,.int .i64 niV,.int .i64 niW]),(1492992,.row 9 [.str] nU false true)],ok:=true,ls:=[],lm:=[]}
theorem njY:D8 Tryz.prog 156 xI:=by
 refine nO (A:=Wz) njZ Tryz.func156 fun ds hw aJ=> ?_
 replace hw:kc ((.sl [.i,.i,.i,.bool])::(na.ct++(.i::(nB.ct++((.sl [.str])::([])))))) ds:=hw
 obtain⟨list_,ds,rfl,_,hw⟩:=nH hw
 obtain⟨m,ds,rfl,_,hw⟩:=na.nA (r:=_) hw
 obtain⟨domain,ds,rfl,_,hw⟩:=nj hw
 obtain⟨r,ds,rfl,_,hw⟩:=nB.nA (r:=_) hw
 obtain⟨entries,ds,rfl,QA,hw⟩:=nH hw
 obtain rfl:=nc hw
 obtain⟨N,hN⟩:=njX Vm.ke Po list_ m domain r entries QA aJ
 exact⟨N,Eq.trans (b:=xJ Vm.ke Po (fun nX qH r_1 r_2 r_3 r_4 oc next niU niV niW nU=>LR (LQ Tryz.prog WA Wz N Tryz.f156 xI [true,true,false,true,false] []) N (nhF list_ domain entries nX oc qH r_1 r_2 r_3 r_4 0 0 0 0 next niU niV niW nU)) list_ m domain r entries) (by kernel_rfl) (Eq.trans (congrArg (fun l_=>xJ Vm.ke Po l_ list_ m domain r entries) (by funext nX qH r_1 r_2 r_3 r_4;exact nL6 _ _ _ N)) (hN.trans (by kernel_rfl)))⟩
abbrev Qd:Sum:=xI
def XI:Ctx:=[(97,uQ),(203,neO)]
theorem nlV:bF Tryz.prog XI:=Ic wC (Ic nvm JA)
def XH:List (Nat×lE):=[(4, {ca:=[(0,.mN),(2,.mN),(4,.mN),(6,.mN),(8,.mN),(10,.mN),(11,.mN),(13,.mN),(14,.mN),(15,.mN)],boxes:=[(384,[]),(512,[]),(640,[]),(704,[]),(832,[]),(896,[])]})]
def Qc:na→nB→Bool→kM:=(fun r0 r1 r2=>((true,na.enc r0++nB.enc r1++[.bool r2]):kM))
def njb (list_:Rows) (domain:Int) (entries:Rows) (k:Int) (qH:Rows) (r_1 r_2 r_3 r_4 b11 nBr nBs nBt x nX oc OP:Int) (nU:Rows):St:= {n:=46,sl:=[(0,.sl [.i,.i,.i,.bool] list_),(2,.int .i64 domain),(4,.sl [.str] entries),(6,.ptr 384 0),(8,.ptr 512 0),(10,.ptr 640 0),(11,.ptr 704 0),(13,.ptr 832 0),(14,.ptr 896 0),(15,.int .i64 k)],hp:=[(384,.box 59 [.sl [.str] qH]),(512,.box 61 [.int .i64 r_1,.int .i64 r_2,.int .i64 r_3,.int .i64 r_4]),(640,.box 59 [.nil]),(704,.box 61 [.int .i64 b11,.int .i64 nBr,.int .i64 nBs,.int .i64 nBt]),(832,.box 59 [.own 1492992]),(896,.box 61 [.int .i64 x,.int .i64 nX,.int .i64 oc,.int .i64 OP]),(1492992,.row 9 [.str] nU false true)],ok:=true,ls:=[],lm:=[]}
theorem nlU:D8 Tryz.prog 119 Qd:=by
 refine nO (A:=XH) nlV Tryz.func119 fun ds hw aJ=> ?_
 replace hw:kc ((.sl [.i,.i,.i,.bool])::(na.ct++(.i::(nB.ct++((.sl [.str])::([])))))) ds:=hw
 obtain⟨list_,ds,rfl,_,hw⟩:=nH hw
 obtain⟨m,ds,rfl,_,hw⟩:=na.nA (r:=_) hw
 obtain⟨domain,ds,rfl,_,hw⟩:=nj hw
 obtain⟨r,ds,rfl,_,hw⟩:=nB.nA (r:=_) hw
 obtain⟨entries,ds,rfl,QA,hw⟩:=nH hw
 obtain rfl:=nc hw
 obtain⟨N,hN⟩:=nlT Vm.ke Qc list_ m domain r entries QA aJ
 exact⟨N,Eq.trans (b:=yg Vm.ke Qc (fun qH r_1 r_2 r_3 r_4 k x nX oc OP nU=>LR (LQ Tryz.prog XI XH N Tryz.f119 Qd [true,true,true,false,true,false] []) N (njb list_ domain entries k qH r_1 r_2 r_3 r_4 0 0 0 0 x nX oc OP nU)) list_ m domain r entries) (by kernel_rfl) (Eq.trans (congrArg (fun l_=>yg Vm.ke Qc l_ list_ m domain r entries) (by funext qH r_1 r_2 r_3 r_4;exact nL6 _ _ _ N)) (hN.trans (by kernel_rfl)))⟩
def Om:Sum:= {ps:=[⟨[.sl [.i,.i,.i,.bool]],false⟩,⟨na.ct,true⟩,⟨[.i],false⟩,⟨nv.ct,true⟩,⟨[.sl [.i]],false⟩,⟨[.str],false⟩,⟨[.i],false⟩],rs:=[⟨[.own 9 [.str]],true⟩,⟨[.own 198 [.i,.i]],false⟩,⟨[.d7 .bool],false⟩],fn:=fun ds=>(nfC (rR ds 0) (na.nd ds 1) (rI ds 2) (nv.nd ds 3) (rR ds 7) (rS ds 8) (rI ds 9),na.enc (qi (rR ds 0) (na.nd ds 1) (rI ds 2) (nv.nd ds 3) (rR ds 7) (rS ds 8) (rI ds 9)).1++[.sl (qi (rR ds 0) (na.nd ds 1) (rI ds 2) (nv.nd ds 3) (rR ds 7) (rS ds 8) (rI ds 9)).2.1]++[.bool (qi (rR ds 0) (na.nd ds 1) (rI ds 2) (nv.nd ds 3) (rR ds 7) (rS ds 8) (rI ds 9)).2.2]),ms:=[none,some (.jC [.flat 9]),none,none,none,none,none]}
def UN:Ctx:=[(226,QD),(227,yr)]
theorem nib:bF Tryz.prog UN:=Ic nmo (Ic ndq JA)
def UM:List (Nat×lE):=[(3, {ca:=[(0,.mN),(1,.mN),(2,.mN),(5,.mN),(6,.mN),(8,.mN),(10,.mN),(14,.mN),(17,.mN),(24,.mN),(25,.mN),(26,.mN)],boxes:=[(512,[]),(640,[]),(896,[])]})]
def Ol:na→Rows→Bool→kM:=(fun r0 r1 r2=>((true,na.enc r0++[.sl r1]++[.bool r2]):kM))
def nfY (list_:Rows) (domain:Int) (tq:Bytes) (cut:Int) (oH:Rows) (nX oc p_1 p_2 NY:Int) (Qm pieces m_0:Rows):St:= {n:=2199023255619,sl:=[(0,.sl [.i,.i,.i,.bool] list_),(1,.fw),(2,.int .i64 domain),(5,.str tq),(6,.int .i64 cut),(8,.ptr 512 0),(10,.ptr 640 0),(14,.ptr 896 0),(17,.own 641088),(24,.sl [.i] oH),(25,.int .i64 nX),(26,.int .i64 oc)],hp:=[(512,.box 59 [.own 1411072]),(640,.box 62 [.int .i64 p_1,.int .i64 p_2,.int .i64 NY,.sl [.i] Qm]),(896,.box 59 [.nil]),(641088,.row 198 [.i,.i] pieces false true),(1411072,.row 9 [.str] m_0 false true)],ok:=true,ls:=[],lm:=[]}
theorem nia:Cm Tryz.prog 153 Om:=by
 refine OI (A:=UM) nib Tryz.func153 fun ds hw aJ=> ?_
 replace hw:kc ((.sl [.i,.i,.i,.bool])::(na.ct++(.i::(nv.ct++((.sl [.i])::(.str::(.i::([])))))))) ds:=hw
 obtain⟨list_,ds,rfl,_,hw⟩:=nH hw
 obtain⟨m,ds,rfl,_,hw⟩:=na.nA (r:=_) hw
 obtain⟨domain,ds,rfl,_,hw⟩:=nj hw
 obtain⟨p,ds,rfl,_,hw⟩:=nv.nA (r:=_) hw
 obtain⟨oH,ds,rfl,nmi,hw⟩:=nH hw
 obtain⟨t,ds,rfl,h_t,hw⟩:=qj hw
 obtain⟨cut,ds,rfl,nBQ,hw⟩:=nj hw
 obtain rfl:=nc hw
 obtain⟨N,hN⟩:=nh_ Vm.ke Ol list_ m domain p oH t cut nmi h_t nBQ aJ
 exact⟨N,Eq.trans (b:=wS Vm.ke Ol (fun nX p_1 p_2 NY Qm tq oc pieces m_0=>LR (Lj Tryz.prog UN UM N Tryz.f153 Om [true,true,false,true,false] []) N (nfY list_ domain tq cut oH nX oc p_1 p_2 NY Qm pieces m_0)) list_ m domain p oH t cut) (by kernel_rfl) (Eq.trans (congrArg (fun l_=>wS Vm.ke Ol l_ list_ m domain p oH t cut) (by funext nX p_1 p_2 NY Qm;exact nL4 _ _ _ N)) (hN.trans (by kernel_rfl)))⟩
def Ps:Sum:= {ps:=[⟨[.sl [.i,.i,.i,.bool]],false⟩,⟨na.ct,true⟩,⟨[.i],false⟩,⟨nh.ct,true⟩,⟨nx.ct,true⟩,⟨[.i],false⟩,⟨[.i],false⟩],rs:=[⟨[.own 9 [.str]],true⟩,⟨[.d7 .i,.d7 .i,.d7 .i,.d7 .i,.d7 .i,.d7 .i,.d7 .i,.own 3 [.i],.deep 207 [.i,.i,.sl [.i]] [3],.d7 .i],true⟩,⟨[.d7 .bool],false⟩],fn:=fun ds=>(rm (rR ds 0) (na.nd ds 1) (rI ds 2) (nh.nd ds 3) (nx.nd ds 13) (rI ds 29) (rI ds 30),na.enc (qm (rR ds 0) (na.nd ds 1) (rI ds 2) (nh.nd ds 3) (nx.nd ds 13) (rI ds 29) (rI ds 30)).1++nh.enc (qm (rR ds 0) (na.nd ds 1) (rI ds 2) (nh.nd ds 3) (nx.nd ds 13) (rI ds 29) (rI ds 30)).2.1++[.bool (qm (rR ds 0) (na.nd ds 1) (rI ds 2) (nh.nd ds 3) (nx.nd ds 13) (rI ds 29) (rI ds 30)).2.2])}
def WE:Ctx:=[(1125899906842800,J3),(1125899906842801,J3),(130,sH),(132,X1),(141,RZ),(143,oy),(148,yx),(149,Ss),(150,Nw),(151,vX),(152,Oh),(153,Om),(154,rC),(155,Pf),(156,xI)]
theorem nj2:bF Tryz.prog WE:=Ic Lq (Ic Lq (Ic tE (Ic ngE (Ic noS (Ic oC (Ic Ux (Ic npV (Ic nbm (Ic nf1 (Ic nhR (Ic nia (Ic nc9 (Ic njR (Ic njY JA))))))))))))))
def WD:List (Nat×lE):=[(19, {ca:=[(0,.mN),(2,.mN),(10,.mN),(14,.mN),(15,.mN),(17,.mN),(18,.mN),(22,.mN),(24,.mN),(26,.mN),(28,.mN),(29,.mN),(139,.mN),(140,.mN),(141,.mN)],boxes:=[(512,[]),(640,[]),(704,[]),(896,[]),(960,[]),(1088,[]),(1152,[]),(1408,[]),(1664,[])]})]
def Pr:na→nh→Bool→kM:=(fun r0 r1 r2=>((true,na.enc r0++nh.enc r1++[.bool r2]):kM))
def nhG (list_:Rows) (domain:Int) (qW x:Rows) (nX oc:Int) (qH:Rows) (xt uX xu xv vc vd ve:Int) (vf sX:Rows) (qR p_1 p_2 NY Qm p_5 p_6 p_7 p_8 p_9 naL naM naN naO naP naQ:Int) (naR:Bytes) (b15 OX OY OZ O0 O1 O2 O3 lN Xt Xu Xv Xw Xx Xy Xz nV pY pZ p6 pw px py p7:Int) (oH entries PU ye XA re wz OA:Rows):St:= {n:=186,sl:=[(0,.sl [.i,.i,.i,.bool] list_),(2,.int .i64 domain),(10,.ptr 640 0),(14,.ptr 896 0),(15,.ptr 960 0),(17,.ptr 1088 0),(18,.ptr 1152 0),(22,.ptr 1408 0),(24,.own 641536),(26,.ptr 1664 0),(28,.sl [.i,.i,.i,.i,.i,.i] qW),(29,.own 641856),(139,.sl [.i,.i,.i,.i,.i,.i] x),(140,.int .i64 nX),(141,.int .i64 oc)],hp:=[(512,.box 59 [.sl [.str] qH]),(640,.box 65 [.int .i64 xt,.int .i64 uX,.int .i64 xu,.int .i64 xv,.int .i64 vc,.int .i64 vd,.int .i64 ve,.sl [.i] vf,.sl [.i,.i,.sl [.i]] sX,.int .i64 qR]),(704,.box 86 [.int .i64 p_1,.int .i64 p_2,.int .i64 NY,.int .i64 Qm,.int .i64 p_5,.int .i64 p_6,.int .i64 p_7,.int .i64 p_8,.int .i64 p_9,.int .i64 naL,.int .i64 naM,.int .i64 naN,.int .i64 naO,.int .i64 naP,.int .i64 naQ,.str naR]),(896,.box 59 [.nil]),(960,.box 65 [.int .i64 b15,.int .i64 OX,.int .i64 OY,.int .i64 OZ,.int .i64 O0,.int .i64 O1,.int .i64 O2,.nil,.nil,.int .i64 O3]),(1088,.box 59 [.own 1558528]),(1152,.box 65 [.int .i64 lN,.int .i64 Xt,.int .i64 Xu,.int .i64 Xv,.int .i64 Xw,.int .i64 Xx,.int .i64 Xy,.own 1574919,.own 1574920,.int .i64 Xz]),(1408,.box 65 [.int .i64 nV,.int .i64 pY,.int .i64 pZ,.int .i64 p6,.int .i64 pw,.int .i64 px,.int .i64 py,.own 1640455,.own 1640456,.int .i64 p7]),(1664,.box 59 [.own 1705984]),(641536,.row 3 [.i] oH false true),(641856,.row 9 [.str] entries false true),(1558528,.row 9 [.str] PU false true),(1574919,.row 3 [.i] ye false true),(1574920,.deep 207 [.i,.i,.sl [.i]] [3] XA none),(1640455,.row 3 [.i] re false true),(1640456,.deep 207 [.i,.i,.sl [.i]] [3] wz none),(1705984,.row 9 [.str] OA false true)],ok:=true,ls:=[],lm:=[]}
theorem nj1:D8 Tryz.prog 48 Ps:=by
 refine nO (A:=WD) nj2 Tryz.func48 fun ds hw aJ=> ?_
 replace hw:kc ((.sl [.i,.i,.i,.bool])::(na.ct++(.i::(nh.ct++(nx.ct++(.i::(.i::([])))))))) ds:=hw
 obtain⟨list_,ds,rfl,_,hw⟩:=nH hw
 obtain⟨m,ds,rfl,_,hw⟩:=na.nA (r:=_) hw
 obtain⟨domain,ds,rfl,_,hw⟩:=nj hw
 obtain⟨q,ds,rfl,_,hw⟩:=nh.nA (r:=_) hw
 obtain⟨p,ds,rfl,_,hw⟩:=nx.nA (r:=_) hw
 obtain⟨size,ds,rfl,_,hw⟩:=nj hw
 obtain⟨cut,ds,rfl,_,hw⟩:=nj hw
 obtain rfl:=nc hw
 obtain⟨N,hN⟩:=nj0 Vm.ke Pr list_ m domain q p size cut aJ
 exact⟨N,Eq.trans (b:=xK Vm.ke Pr (fun qW x nX xt uX xu xv qR lN Xt Xu Xv Xw Xx Xy Xz pw px py oH PU ye XA re wz OA oc entries=>LR (LQ Tryz.prog WE WD N Tryz.f48 Ps [true,true,true,true,true,true,true,true,true,true,true,true,true,true,false,true,false] []) N (nhG list_ domain qW x nX oc m.nE xt uX xu xv q.nI.oG q.nI.nL q.nI.Count q.nI.oB q.nr qR p.we p.wg p.sQ p.Tos p.Id p.Ttl p.ql p.qK p.tU.Kind p.tU.oN p.tU.oM p.tU.Seq p.tU.Ack p.tU.Flags p.tU.tM p.tU.Body 0 0 0 0 0 0 0 0 lN Xt Xu Xv Xw Xx Xy Xz (((oE q).Ring).oG) (((oE q).Ring).nL) (((oE q).Ring).Head) (((oE q).Ring).qF) pw px py ((oE q).Next) oH entries PU ye XA re wz OA)) list_ m domain q p size cut) (by kernel_rfl) (Eq.trans (congrArg (fun l_=>xK Vm.ke Pr l_ list_ m domain q p size cut) (by funext qW x nX xt uX xu xv qR lN Xt Xu Xv Xw Xx Xy Xz pw px py oH PU ye XA re wz OA;exact Wp _ _ _ N)) (hN.trans (by kernel_rfl)))⟩
def tK:Sum:= {ps:=[⟨[.sl [.i,.i,.i,.bool]],false⟩,⟨na.ct,true⟩,⟨[.i],false⟩,⟨nh.ct,true⟩,⟨nx.ct,true⟩,⟨[.i],false⟩,⟨[.i],false⟩],rs:=[⟨[.own 9 [.str]],true⟩,⟨[.d7 .i,.d7 .i,.d7 .i,.d7 .i,.d7 .i,.d7 .i,.d7 .i,.own 3 [.i],.own 207 [.i,.i,.sl [.i]],.d7 .i],true⟩,⟨[.d7 .bool],false⟩],fn:=fun ds=>(rm (rR ds 0) (na.nd ds 1) (rI ds 2) (nh.nd ds 3) (nx.nd ds 13) (rI ds 29) (rI ds 30),na.enc (qm (rR ds 0) (na.nd ds 1) (rI ds 2) (nh.nd ds 3) (nx.nd ds 13) (rI ds 29) (rI ds 30)).1++nh.enc (qm (rR ds 0) (na.nd ds 1) (rI ds 2) (nh.nd ds 3) (nx.nd ds 13) (rI ds 29) (rI ds 30)).2.1++[.bool (qm (rR ds 0) (na.nd ds 1) (rI ds 2) (nh.nd ds 3) (nx.nd ds 13) (rI ds 29) (rI ds 30)).2.2])}
def vA:Ctx:=[(97,uQ),(98,Qh),(104,XM),(106,oP),(111,ncW),(112,V2),(113,S3),(114,Tb),(115,R6),(116,Ro),(117,xE),(118,XD),(119,Qd)]
theorem nlZ:bF Tryz.prog vA:=Ic wC (Ic nfi (Ic no3 (Ic oW (Ic nsz (Ic njq (Ic ncL (Ic nsO (Ic neG (Ic noi (Ic ndd (Ic nlM (Ic nlU JA))))))))))))
def vz:List (Nat×lE):=[(11, {ca:=[(0,.mN),(2,.mN),(5,.mN),(6,.mN),(8,.mN),(10,.mN),(14,.mN),(15,.mN),(17,.mN),(19,.mN),(20,.mN),(21,.mN),(22,.mN),(23,.mN),(24,.mN)],boxes:=[(512,[]),(640,[]),(704,[]),(896,[]),(960,[]),(1280,[]),(1408,[])]}),(23, {ca:=[(0,.mN),(2,.mN),(8,.mN),(10,.mN),(14,.mN),(15,.mN),(19,.mN),(20,.mN),(21,.mN),(22,.mN),(29,.mN),(30,.mN),(31,.mN)],boxes:=[(512,[]),(640,[]),(704,[]),(896,[]),(960,[]),(1280,[]),(1408,[])]})]
def ri:na→nh→Bool→kM:=(fun r0 r1 r2=>((true,na.enc r0++nh.enc r1++[.bool r2]):kM))
def uL (list_:Rows) (domain size cut:Int) (t:Bytes) (n k:Int) (qH:Rows) (xt uX xu xv vc vd ve:Int) (vf sX:Rows) (qR p_1 p_2 NY Qm p_5 p_6 p_7 p_8 p_9 naL naM naN naO naP naQ:Int) (naR:Bytes) (b15 OX OY OZ O0 O1 O2 O3 qU pV pW:Int) (taken pieces pX nU:Rows):St:= {n:=223,sl:=[(0,.sl [.i,.i,.i,.bool] list_),(2,.int .i64 domain),(5,.int .i64 size),(6,.int .i64 cut),(8,.ptr 512 0),(10,.ptr 640 0),(14,.ptr 896 0),(15,.ptr 960 0),(17,.str t),(19,.int .i64 n),(20,.ptr 1280 0),(21,.own 641344),(22,.ptr 1408 0),(23,.own 641472),(24,.int .i64 k)],hp:=[(512,.box 59 [.sl [.str] qH]),(640,.box 65 [.int .i64 xt,.int .i64 uX,.int .i64 xu,.int .i64 xv,.int .i64 vc,.int .i64 vd,.int .i64 ve,.sl [.i] vf,.sl [.i,.i,.sl [.i]] sX,.int .i64 qR]),(704,.box 86 [.int .i64 p_1,.int .i64 p_2,.int .i64 NY,.int .i64 Qm,.int .i64 p_5,.int .i64 p_6,.int .i64 p_7,.int .i64 p_8,.int .i64 p_9,.int .i64 naL,.int .i64 naM,.int .i64 naN,.int .i64 naO,.int .i64 naP,.int .i64 naQ,.str naR]),(896,.box 59 [.nil]),(960,.box 65 [.int .i64 b15,.int .i64 OX,.int .i64 OY,.int .i64 OZ,.int .i64 O0,.int .i64 O1,.int .i64 O2,.nil,.nil,.int .i64 O3]),(1280,.box 62 [.int .i64 qU,.int .i64 pV,.int .i64 pW,.own 1607683]),(1408,.box 59 [.own 1640448]),(641344,.row 3 [.i] taken false true),(641472,.row 198 [.i,.i] pieces false true),(1607683,.row 3 [.i] pX false true),(1640448,.row 9 [.str] nU false true)],ok:=true,ls:=[],lm:=[]}
def xb (list_:Rows) (domain n qD:Int) (qH:Rows) (xt uX xu xv vc vd ve:Int) (vf sX:Rows) (qR p_1 p_2 NY Qm p_5 p_6 p_7 p_8 p_9 naL naM naN naO naP naQ:Int) (naR:Bytes) (b15 OX OY OZ O0 O1 O2 O3 qU pV pW:Int) (taken entries qW pX nU:Rows):St:= {n:=223,sl:=[(0,.sl [.i,.i,.i,.bool] list_),(2,.int .i64 domain),(8,.ptr 512 0),(10,.ptr 640 0),(14,.ptr 896 0),(15,.ptr 960 0),(19,.int .i64 n),(20,.ptr 1280 0),(21,.own 641344),(22,.ptr 1408 0),(29,.own 641856),(30,.own 641920),(31,.int .i64 qD)],hp:=[(512,.box 59 [.sl [.str] qH]),(640,.box 65 [.int .i64 xt,.int .i64 uX,.int .i64 xu,.int .i64 xv,.int .i64 vc,.int .i64 vd,.int .i64 ve,.sl [.i] vf,.sl [.i,.i,.sl [.i]] sX,.int .i64 qR]),(704,.box 86 [.int .i64 p_1,.int .i64 p_2,.int .i64 NY,.int .i64 Qm,.int .i64 p_5,.int .i64 p_6,.int .i64 p_7,.int .i64 p_8,.int .i64 p_9,.int .i64 naL,.int .i64 naM,.int .i64 naN,.int .i64 naO,.int .i64 naP,.int .i64 naQ,.str naR]),(896,.box 59 [.nil]),(960,.box 65 [.int .i64 b15,.int .i64 OX,.int .i64 OY,.int .i64 OZ,.int .i64 O0,.int .i64 O1,.int .i64 O2,.nil,.nil,.int .i64 O3]),(1280,.box 62 [.int .i64 qU,.int .i64 pV,.int .i64 pW,.own 1607683]),(1408,.box 59 [.own 1640448]),(641344,.row 3 [.i] taken false true),(641856,.row 9 [.str] entries false true),(641920,.row 203 [.i,.i,.i,.i,.i,.i] qW false true),(1607683,.row 3 [.i] pX false true),(1640448,.row 9 [.str] nU false true)],ok:=true,ls:=[],lm:=[]}
noncomputable def xa (N:Nat):(St→kM)→St→kM:=LQ Tryz.prog vA vz N Tryz.f31 tK [true,true,true,true,true,true,true,true,true,true,true,false,true,false] []
noncomputable def uI (N:Nat):(St→kM)→St→kM:=LQ Tryz.prog vA vz N Tryz.f31 tK [true,true,true,true,true,true,true,true,false,true,false] []
theorem njd (N:Nat) (list_:Rows) (domain n:Int) (qH:Rows) (xt uX xu xv vc vd ve:Int) (vf sX:Rows) (qR p_1 p_2 NY Qm p_5 p_6 p_7 p_8 p_9 naL naM naN naO naP naQ:Int) (naR:Bytes) (b15 OX OY OZ O0 O1 O2 O3 qU pV pW:Int) (taken qW pX nU:Rows) (ih:St→kM) (qD:Int) (entries:Rows):xa N ih (xb list_ domain n qD qH xt uX xu xv vc vd ve vf sX qR p_1 p_2 NY Qm p_5 p_6 p_7 p_8 p_9 naL naM naN naO naP naQ naR b15 OX OY OZ O0 O1 O2 O3 qU pV pW taken entries qW pX nU)=uK Vm.ke ri list_ domain n qH xt uX xu xv vc vd ve vf sX qR qU pV pW taken qW pX nU (fun qD entries=>ih (xb list_ domain n qD qH xt uX xu xv vc vd ve vf sX qR p_1 p_2 NY Qm p_5 p_6 p_7 p_8 p_9 naL naM naN naO naP naQ naR b15 OX OY OZ O0 O1 O2 O3 qU pV pW taken entries qW pX nU)) qD entries:=by kernel_rfl
theorem njf (N:Nat) (list_:Rows) (domain n:Int) (qH:Rows) (xt uX xu xv vc vd ve:Int) (vf sX:Rows) (qR p_1 p_2 NY Qm p_5 p_6 p_7 p_8 p_9 naL naM naN naO naP naQ:Int) (naR:Bytes) (b15 OX OY OZ O0 O1 O2 O3 qU pV pW:Int) (taken qW pX nU:Rows) (m_:Nat):(fun qD entries=>LR (xa N) m_ (xb list_ domain n qD qH xt uX xu xv vc vd ve vf sX qR p_1 p_2 NY Qm p_5 p_6 p_7 p_8 p_9 naL naM naN naO naP naQ naR b15 OX OY OZ O0 O1 O2 O3 qU pV pW taken entries qW pX nU))=rQ Vm.ke ri N list_ domain n qH xt uX xu xv vc vd ve vf sX qR qU pV pW taken qW pX nU m_:=by
 induction m_ with
 | zero=>rfl
 | succ m_ ih=>
  funext qD entries
  refine (njd N list_ domain n qH xt uX xu xv vc vd ve vf sX qR p_1 p_2 NY Qm p_5 p_6 p_7 p_8 p_9 naL naM naN naO naP naQ naR b15 OX OY OZ O0 O1 O2 O3 qU pV pW taken qW pX nU (LR (xa N) m_) qD entries).trans ?_
  rw[ih]
  rfl
theorem njc (N:Nat) (list_:Rows) (domain size cut:Int) (t:Bytes) (n:Int) (qH:Rows) (xt uX xu xv vc vd ve:Int) (vf sX:Rows) (qR p_1 p_2 NY Qm p_5 p_6 p_7 p_8 p_9 naL naM naN naO naP naQ:Int) (naR:Bytes) (b15 OX OY OZ O0 O1 O2 O3 qU pV pW:Int) (taken pX:Rows) (ih:St→kM) (k:Int) (pieces nU:Rows):uI N ih (uL list_ domain size cut t n k qH xt uX xu xv vc vd ve vf sX qR p_1 p_2 NY Qm p_5 p_6 p_7 p_8 p_9 naL naM naN naO naP naQ naR b15 OX OY OZ O0 O1 O2 O3 qU pV pW taken pieces pX nU)=uJ Vm.ke ri (fun qW nU qD entries=>LR (xa N) N (xb list_ domain n qD qH xt uX xu xv vc vd ve vf sX qR p_1 p_2 NY Qm p_5 p_6 p_7 p_8 p_9 naL naM naN naO naP naQ naR b15 OX OY OZ O0 O1 O2 O3 qU pV pW taken entries qW pX nU)) list_ domain size cut t n qH xt uX xu xv vc vd ve vf sX qR qU pV pW taken pX (fun k pieces nU=>ih (uL list_ domain size cut t n k qH xt uX xu xv vc vd ve vf sX qR p_1 p_2 NY Qm p_5 p_6 p_7 p_8 p_9 naL naM naN naO naP naQ naR b15 OX OY OZ O0 O1 O2 O3 qU pV pW taken pieces pX nU)) k pieces nU:=by kernel_rfl
theorem nje (N:Nat) (list_:Rows) (domain size cut:Int) (t:Bytes) (n:Int) (qH:Rows) (xt uX xu xv vc vd ve:Int) (vf sX:Rows) (qR p_1 p_2 NY Qm p_5 p_6 p_7 p_8 p_9 naL naM naN naO naP naQ:Int) (naR:Bytes) (b15 OX OY OZ O0 O1 O2 O3 qU pV pW:Int) (taken pX:Rows) (m_:Nat):(fun k pieces nU=>LR (uI N) m_ (uL list_ domain size cut t n k qH xt uX xu xv vc vd ve vf sX qR p_1 p_2 NY Qm p_5 p_6 p_7 p_8 p_9 naL naM naN naO naP naQ naR b15 OX OY OZ O0 O1 O2 O3 qU pV pW taken pieces pX nU))=tn Vm.ke ri N list_ domain size cut t n qH xt uX xu xv vc vd ve vf sX qR qU pV pW taken pX m_:=by
 induction m_ with
 | zero=>rfl
 | succ m_ ih=>
  funext k pieces nU
  refine (njc N list_ domain size cut t n qH xt uX xu xv vc vd ve vf sX qR p_1 p_2 NY Qm p_5 p_6 p_7 p_8 p_9 naL naM naN naO naP naQ naR b15 OX OY OZ O0 O1 O2 O3 qU pV pW taken pX (LR (uI N) m_) k pieces nU).trans ?_
  have e1:=funext fun qW=>funext fun nU=>njf N list_ domain n qH xt uX xu xv vc vd ve vf sX qR p_1 p_2 NY Qm p_5 p_6 p_7 p_8 p_9 naL naM naN naO naP naQ naR b15 OX OY OZ O0 O1 O2 O3 qU pV pW taken qW pX nU N
  rw[e1]
  rw[ih]
  rfl
theorem nlY (N:Nat) (list_:Rows) (m:na) (domain:Int) (q:nh) (p:nx) (size cut:Int):HT Tryz.prog vA vz N Tryz.f31 tK (.sl list_::(m.enc++(.int domain::(q.enc++(p.enc++(.int size::(.int cut::([]))))))))=yh Vm.ke ri N list_ m domain q p size cut:=by
 have nob:HT Tryz.prog vA vz N Tryz.f31 tK (.sl list_::(m.enc++(.int domain::(q.enc++(p.enc++(.int size::(.int cut::([]))))))))=yi Vm.ke ri (fun t n qH xt uX xu xv vc vd ve vf sX qR qU pV pW taken pX k pieces nU=>LR (uI N) N (uL list_ domain size cut t n k qH xt uX xu xv vc vd ve vf sX qR p.we p.wg p.sQ p.Tos p.Id p.Ttl p.ql p.qK p.tU.Kind p.tU.oN p.tU.oM p.tU.Seq p.tU.Ack p.tU.Flags p.tU.tM p.tU.Body 0 0 0 0 0 0 0 0 qU pV pW taken pieces pX nU)) list_ m domain q p size cut:=by kernel_rfl
 refine nob.trans ?_
 unfold yh
 have e0:(fun t n qH xt uX xu xv vc vd ve vf sX qR qU pV pW taken pX k pieces nU=>LR (uI N) N (uL list_ domain size cut t n k qH xt uX xu xv vc vd ve vf sX qR p.we p.wg p.sQ p.Tos p.Id p.Ttl p.ql p.qK p.tU.Kind p.tU.oN p.tU.oM p.tU.Seq p.tU.Ack p.tU.Flags p.tU.tM p.tU.Body 0 0 0 0 0 0 0 0 qU pV pW taken pieces pX nU))=(fun t n qH xt uX xu xv vc vd ve vf sX qR qU pV pW taken pX=>tn Vm.ke ri N list_ domain size cut t n qH xt uX xu xv vc vd ve vf sX qR qU pV pW taken pX N):=by
  funext t n qH xt uX xu xv vc vd ve vf sX qR qU pV pW taken pX
  exact nje N list_ domain size cut t n qH xt uX xu xv vc vd ve vf sX qR p.we p.wg p.sQ p.Tos p.Id p.Ttl p.ql p.qK p.tU.Kind p.tU.oN p.tU.oM p.tU.Seq p.tU.Ack p.tU.Flags p.tU.tM p.tU.Body 0 0 0 0 0 0 0 0 qU pV pW taken pX N
 exact congrArg (fun l_=>yi Vm.ke ri l_ list_ m domain q p size cut) e0
theorem nlX:D8 Tryz.prog 31 tK:=by
 refine nO (A:=vz) nlZ Tryz.func31 fun ds hw aJ=> ?_
 replace hw:kc ((.sl [.i,.i,.i,.bool])::(na.ct++(.i::(nh.ct++(nx.ct++(.i::(.i::([])))))))) ds:=hw
 obtain⟨list_,ds,rfl,_,hw⟩:=nH hw
 obtain⟨m,ds,rfl,_,hw⟩:=na.nA (r:=_) hw
 obtain⟨domain,ds,rfl,_,hw⟩:=nj hw
 obtain⟨q,ds,rfl,_,hw⟩:=nh.nA (r:=_) hw
 obtain⟨p,ds,rfl,_,hw⟩:=nx.nA (r:=_) hw
 obtain⟨size,ds,rfl,_,hw⟩:=nj hw
 obtain⟨cut,ds,rfl,_,hw⟩:=nj hw
 obtain rfl:=nc hw
 obtain⟨N,hN⟩:=nlW Vm.ke ri list_ m domain q p size cut aJ
 exact⟨N,((nlY N list_ m domain q p size cut).trans hN).trans (by kernel_rfl)⟩
def nbd:Sum:= {ps:=[⟨ny.ct,true⟩,⟨nx.ct,true⟩,⟨[.i],false⟩,⟨[.i],false⟩],rs:=[⟨[.own 9 [.str],.own 209 [.i,.i,.i,.bool],.d7 .i,.d7 .i,.d7 .i,.d7 .i,.d7 .i,.d7 .i,.d7 .i,.own 3 [.i],.deep 207 [.i,.i,.sl [.i]] [3],.d7 .i,.own 182 [.i,.i,.i,.i,.i,.i,.i,.i,.i,.i,.i,.i,.i,.i,.i,.i,.i,.i,.i,.i,.i,.i,.i,.i,.i,.str,.i,.i,.bool,.i],.deep 62 [.i,.i,.i,.sl [.i]] [3],.own 186 [.i,.i,.i,.i,.bool,.bool],.own 4 [.bool],.d7 .i,.d7 .bool,.own 3 [.i],.own 260 [.i,.i,.i,.i,.i,.i,.i,.i,.i],.own 262 [.i,.i,.i,.i,.i,.i,.i],.d7 .str,.own 3 [.i],.own 223 [.i,.i,.i,.i,.i,.i,.str,.bool],.d7 .bool,.own 9 [.str],.own 3 [.i],.own 3 [.i],.d7 .i,.d7 .i,.d7 .i,.d7 .i,.d7 .i],true⟩,⟨[.d7 .bool],false⟩],fn:=fun ds=>(yo (ny.nd ds 0) (nx.nd ds 33) (rI ds 49) (rI ds 50),ny.enc (vh (ny.nd ds 0) (nx.nd ds 33) (rI ds 49) (rI ds 50)).1++[.bool (vh (ny.nd ds 0) (nx.nd ds 33) (rI ds 49) (rI ds 50)).2])}
def npp:Ctx:=[(46,Sw),(47,vF),(48,Ps)]
theorem nps:bF Tryz.prog npp:=Ic np2 (Ic nwg (Ic nj1 JA))
theorem npr:D8 Tryz.prog 10 nbd:=by
 refine nO (A:=[]) nps Tryz.func10 fun ds hw aJ=> ?_
 replace hw:kc (ny.ct++(nx.ct++(.i::(.i::([]))))) ds:=hw
 obtain⟨h,ds,rfl,_,hw⟩:=ny.nA (r:=_) hw
 obtain⟨p,ds,rfl,_,hw⟩:=nx.nA (r:=_) hw
 obtain⟨size,ds,rfl,_,hw⟩:=nj hw
 obtain⟨cut,ds,rfl,_,hw⟩:=nj hw
 obtain rfl:=nc hw
 exact⟨0,eT (npq Vm.ke (fun r0 r1=>((true,ny.enc r0++[.bool r1]):kM)) h p size cut aJ)⟩
def ncz:Sum:= {ps:=[⟨ny.ct,true⟩,⟨nx.ct,true⟩,⟨[.i],false⟩,⟨[.i],false⟩],rs:=[⟨[.own 9 [.str],.own 209 [.i,.i,.i,.bool],.d7 .i,.d7 .i,.d7 .i,.d7 .i,.d7 .i,.d7 .i,.d7 .i,.own 3 [.i],.own 207 [.i,.i,.sl [.i]],.d7 .i,.own 182 [.i,.i,.i,.i,.i,.i,.i,.i,.i,.i,.i,.i,.i,.i,.i,.i,.i,.i,.i,.i,.i,.i,.i,.i,.i,.str,.i,.i,.bool,.i],.own 62 [.i,.i,.i,.sl [.i]],.own 186 [.i,.i,.i,.i,.bool,.bool],.own 4 [.bool],.d7 .i,.d7 .bool,.own 3 [.i],.own 260 [.i,.i,.i,.i,.i,.i,.i,.i,.i],.own 262 [.i,.i,.i,.i,.i,.i,.i],.d7 .str,.own 3 [.i],.own 223 [.i,.i,.i,.i,.i,.i,.str,.bool],.d7 .bool,.own 9 [.str],.own 3 [.i],.own 3 [.i],.d7 .i,.d7 .i,.d7 .i,.d7 .i,.d7 .i],true⟩,⟨[.d7 .bool],false⟩],fn:=fun ds=>(yo (ny.nd ds 0) (nx.nd ds 33) (rI ds 49) (rI ds 50),ny.enc (vh (ny.nd ds 0) (nx.nd ds 33) (rI ds 49) (rI ds 50)).1++[.bool (vh (ny.nd ds 0) (nx.nd ds 33) (rI ds 49) (rI ds 50)).2])}
def nr4:Ctx:=[(29,Wk),(30,xC),(31,tK)]
theorem nr7:bF Tryz.prog nr4:=Ic nv0 (Ic nxO (Ic nlX JA))
theorem nr6:D8 Tryz.prog 7 ncz:=by
 refine nO (A:=[]) nr7 Tryz.func7 fun ds hw aJ=> ?_
 replace hw:kc (ny.ct++(nx.ct++(.i::(.i::([]))))) ds:=hw
 obtain⟨h,ds,rfl,_,hw⟩:=ny.nA (r:=_) hw
 obtain⟨p,ds,rfl,_,hw⟩:=nx.nA (r:=_) hw
 obtain⟨size,ds,rfl,_,hw⟩:=nj hw
 obtain⟨cut,ds,rfl,_,hw⟩:=nj hw
 obtain rfl:=nc hw
 exact⟨0,eT (nr5 Vm.ke (fun r0 r1=>((true,ny.enc r0++[.bool r1]):kM)) h p size cut aJ)⟩
def naH:Sum:= {ps:=[⟨ny.ct,true⟩,⟨nx.ct,true⟩,⟨[.i],false⟩,⟨[.i],false⟩],rs:=[⟨[.d7 .bool],false⟩],fn:=fun ds=>(Wr (ny.ct++(nx.ct++(.i::(.i::([]))))) ds,[.bool true])}
def naE:Ctx:=[(5,ng9),(6,SJ),(7,ncz),(8,nhc),(9,SP),(10,nbd),(11,ngU),(12,nb1),(13,nbW)]
theorem naI:bF Tryz.prog naE:=Ic nw9 (Ic nca (Ic nr6 (Ic nxn (Ic ncg (Ic npr (Ic nwQ (Ic nqS (Ic nqJ JA))))))))
theorem naG:D8 Tryz.prog 3 naH:=by
 refine nO (A:=[]) naI Tryz.func3 fun ds hw aJ=> ?_
 replace hw:kc (ny.ct++(nx.ct++(.i::(.i::([]))))) ds:=hw
 obtain⟨aH,ds,rfl,nBP,hw⟩:=ny.nA (r:=_) hw
 obtain⟨aP,ds,rfl,nCI,hw⟩:=nx.nA (r:=_) hw
 obtain⟨ngz,ds,rfl,nAS,hw⟩:=nj hw
 obtain⟨nwa,ds,rfl,nBO,hw⟩:=nj hw
 obtain rfl:=nc hw
 exact⟨0,eT (naF Vm.ke (fun r0=>((true,[.bool r0]):kM)) aH aP ngz nwa nBP nCI nAS nBO aJ)⟩
end
end Go.Proofs.YtngbcccnjiaddaaGreat.Pl
