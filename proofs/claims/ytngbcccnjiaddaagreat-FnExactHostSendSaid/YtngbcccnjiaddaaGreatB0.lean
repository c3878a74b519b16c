/- Contracts. Conditions: as each says. -/
import Derived.Test.YtngbcccnjiaddaaGreatP0
import Derived.Test.YtngbcccnjiaddaaGreatRows
import Derived.Test.YtngbcccnjiaddaaGreatP1
set_option linter.unusedVariables false
set_option linter.unusedSimpArgs false
set_option maxRecDepth 100000
namespace Go.Proofs.YtngbcccnjiaddaaGreat.Pl
open Vm
noncomputable section
def Yl:Sum:= {ps:=[⟨nP.ct,true⟩],rs:=[⟨[.d7 .i,.d7 .i,.d7 .i,.d7 .i,.d7 .i],true⟩],fn:=fun ds=>(true,nP.enc (oE (nP.nd ds 0)))}
theorem nhc:D8 Tryz.prog 209 Yl:=by
 refine nO (A:=[]) JA Tryz.func209 fun ds (hw:kc (nP.ct++([])) ds) _=> ?_
 obtain⟨a,ds,rfl,_,hw⟩:=nP.nA (r:=_) hw
 obtain rfl:=nc hw
 exact⟨0,eT (nxl (fun r0=>((true,nP.enc r0):kM)) a)⟩
def nhk:Sum:= {ps:=[⟨qL.ct,true⟩],rs:=[⟨[.d7 .i,.d7 .i,.d7 .i,.d7 .i,.d7 .i,.d7 .i,.d7 .i],true⟩],fn:=fun ds=>(true,qL.enc (oE (qL.nd ds 0)))}
def nxE:Ctx:=[(209,Yl)]
theorem nxI:bF Tryz.prog nxE:=Ic nhc JA
theorem nxG:D8 Tryz.prog 266 nhk:=by
 refine nO (A:=[]) nxI Tryz.func266 fun ds (hw:kc (qL.ct++([])) ds) _=> ?_
 obtain⟨a,ds,rfl,_,hw⟩:=qL.nA (r:=_) hw
 obtain rfl:=nc hw
 exact⟨0,eT (nxF (fun r0=>((true,qL.enc r0):kM)) a)⟩
def y9:Sum:= {ps:=[⟨[.sl [.str]],false⟩,⟨[.i],false⟩],rs:=[⟨[.d7 .i],false⟩],fn:=fun ds=>(true,[.int (p9 (rR ds 0) (rI ds 1))])}
def ZG:List (Nat×lE):=[(5, {ca:=[(0,.mN),(1,.mN),(5,.mN)],boxes:=[]})]
def ZH:Int→kM:=(fun r0=>((true,[.int r0]):kM))
def nll (a:Rows) (t9 i:Int):St:= {n:=28,sl:=[(0,.sl [.str] a),(1,.int .i64 t9),(5,.int .i64 i)],hp:=[],ok:=true,ls:=[],lm:=[]}
theorem ZJ:D8 Tryz.prog 26 y9:=by
 refine nO (A:=ZG) JA Tryz.func26 fun ds (hw:kc ((.sl [.str])::(.i::([]))) ds) _=> ?_
 obtain⟨a,ds,rfl,pU,hw⟩:=nH hw
 obtain⟨left,ds,rfl,_,hw⟩:=nj hw
 obtain rfl:=nc hw
 obtain⟨N,hN⟩:=nnE Vm.ke ZH a left pU
 exact⟨N,eL (fun l_=>Rc Vm.ke ZH l_ a left) (Wq (LQ Tryz.prog [] ZG N Tryz.f26 y9 [true,true,true,false,true,false] []) (nll a) _ N) hN⟩
def nb_:Sum:= {ps:=[⟨na.ct,true⟩,⟨[.i],false⟩],rs:=[⟨[.d7 .i],false⟩],fn:=fun ds=>(true,[.int (n_ (na.nd ds 0) (rI ds 1))])}
def nq5:Ctx:=[(26,y9)]
theorem nq8:bF Tryz.prog nq5:=Ic ZJ JA
theorem nq7:D8 Tryz.prog 16 nb_:=by
 refine nO (A:=[]) nq8 Tryz.func16 fun ds (hw:kc (na.ct++(.i::([]))) ds) _=> ?_
 obtain⟨a,ds,rfl,_,hw⟩:=na.nA (r:=_) hw
 obtain⟨left,ds,rfl,_,hw⟩:=nj hw
 obtain rfl:=nc hw
 exact⟨0,eT (nq6 (fun r0=>((true,[.int r0]):kM)) a left)⟩
def W_:Sum:= {ps:=[⟨[.sl [.i,.i,.i,.bool]],false⟩,⟨[.i],false⟩],rs:=[⟨[.d7 .i],false⟩],fn:=fun ds=>(true,[.int (nZ (rR ds 0) (rI ds 1))])}
theorem nk_:D8 Tryz.prog 17 W_:=by
 refine nO (A:=[]) JA Tryz.func17 fun ds (hw:kc ((.sl [.i,.i,.i,.bool])::(.i::([]))) ds) _=> ?_
 obtain⟨a,ds,rfl,_,hw⟩:=nH hw
 obtain⟨left,ds,rfl,_,hw⟩:=nj hw
 obtain rfl:=nc hw
 exact⟨0,eT (nk9 (fun r0=>((true,[.int r0]):kM)) a left)⟩
def xB:Sum:= {ps:=[⟨[.sl [.i]],false⟩,⟨[.i],false⟩],rs:=[⟨[.d7 .i],false⟩],fn:=fun ds=>(true,[.int (nZ (rR ds 0) (rI ds 1))])}
theorem zZ:D8 Tryz.prog 27 xB:=by
 refine nO (A:=[]) JA Tryz.func27 fun ds (hw:kc ((.sl [.i])::(.i::([]))) ds) _=> ?_
 obtain⟨a,ds,rfl,_,hw⟩:=nH hw
 obtain⟨left,ds,rfl,_,hw⟩:=nj hw
 obtain rfl:=nc hw
 exact⟨0,eT (nxc (fun r0=>((true,[.int r0]):kM)) a left)⟩
def Yh:Sum:= {ps:=[⟨nv.ct,true⟩,⟨[.i],false⟩],rs:=[⟨[.d7 .i],false⟩],fn:=fun ds=>(true,[.int (qy (nv.nd ds 0) (rI ds 4))])}
def nxe:Ctx:=[(27,xB)]
theorem nxg:bF Tryz.prog nxe:=Ic zZ JA
theorem nha:D8 Tryz.prog 90 Yh:=by
 refine nO (A:=[]) nxg Tryz.func90 fun ds (hw:kc (nv.ct++(.i::([]))) ds) _=> ?_
 obtain⟨a,ds,rfl,_,hw⟩:=nv.nA (r:=_) hw
 obtain⟨left,ds,rfl,_,hw⟩:=nj hw
 obtain rfl:=nc hw
 exact⟨0,eT (nxf (fun r0=>((true,[.int r0]):kM)) a left)⟩
def nhb:Sum:= {ps:=[⟨oZ.ct,true⟩,⟨[.i],false⟩],rs:=[⟨[.d7 .i],false⟩],fn:=fun ds=>(true,[.int (rl (oZ.nd ds 0) (rI ds 3))])}
def nxh:Ctx:=[(27,xB)]
theorem nxk:bF Tryz.prog nxh:=Ic zZ JA
theorem nxj:D8 Tryz.prog 183 nhb:=by
 refine nO (A:=[]) nxk Tryz.func183 fun ds (hw:kc (oZ.ct++(.i::([]))) ds) _=> ?_
 obtain⟨a,ds,rfl,_,hw⟩:=oZ.nA (r:=_) hw
 obtain⟨left,ds,rfl,_,hw⟩:=nj hw
 obtain rfl:=nc hw
 exact⟨0,eT (nxi (fun r0=>((true,[.int r0]):kM)) a left)⟩
def Vw:Sum:= {ps:=[⟨[.sl [.i,.i,.sl [.i]]],false⟩,⟨[.i],false⟩],rs:=[⟨[.d7 .i],false⟩],fn:=fun ds=>(true,[.int (sH (rR ds 0) (rI ds 1))])}
def nee:Ctx:=[(183,nhb)]
theorem nus:bF Tryz.prog nee:=Ic nxj JA
def ned:List (Nat×lE):=[(5, {ca:=[(0,.mN),(1,.mN),(5,.mN)],boxes:=[]})]
def nef:Int→kM:=(fun r0=>((true,[.int r0]):kM))
def nrc (a:Rows) (t9 i:Int):St:= {n:=27,sl:=[(0,.sl [.i,.i,.sl [.i]] a),(1,.int .i64 t9),(5,.int .i64 i)],hp:=[],ok:=true,ls:=[],lm:=[]}
theorem nur:D8 Tryz.prog 91 Vw:=by
 refine nO (A:=ned) nus Tryz.func91 fun ds (hw:kc ((.sl [.i,.i,.sl [.i]])::(.i::([]))) ds) _=> ?_
 obtain⟨a,ds,rfl,pU,hw⟩:=nH hw
 obtain⟨left,ds,rfl,_,hw⟩:=nj hw
 obtain rfl:=nc hw
 obtain⟨N,hN⟩:=nuq Vm.ke nef a left pU
 exact⟨N,eL (fun l_=>Vx Vm.ke nef l_ a left) (Wq (LQ Tryz.prog nee ned N Tryz.f91 Vw [true,true,true,false,true,false] []) (nrc a) _ N) hN⟩
def ZK:Sum:= {ps:=[⟨nh.ct,true⟩,⟨[.i],false⟩],rs:=[⟨[.d7 .i],false⟩],fn:=fun ds=>(true,[.int (n8 (nh.nd ds 0) (rI ds 10))])}
def nnF:Ctx:=[(90,Yh),(91,Vw)]
theorem nnI:bF Tryz.prog nnF:=Ic nha (Ic nur JA)
theorem nnH:D8 Tryz.prog 18 ZK:=by
 refine nO (A:=[]) nnI Tryz.func18 fun ds (hw:kc (nh.ct++(.i::([]))) ds) _=> ?_
 obtain⟨a,ds,rfl,_,hw⟩:=nh.nA (r:=_) hw
 obtain⟨left,ds,rfl,_,hw⟩:=nj hw
 obtain rfl:=nc hw
 exact⟨0,eT (nnG (fun r0=>((true,[.int r0]):kM)) a left)⟩
def ZB:Sum:= {ps:=[⟨nD.ct,true⟩,⟨[.i],false⟩],rs:=[⟨[.d7 .i],false⟩],fn:=fun ds=>(true,[.int (tB (nD.nd ds 0) (rI ds 8))])}
theorem nny:D8 Tryz.prog 28 ZB:=by
 refine nO (A:=[]) JA Tryz.func28 fun ds (hw:kc (nD.ct++(.i::([]))) ds) _=> ?_
 obtain⟨a,ds,rfl,_,hw⟩:=nD.nA (r:=_) hw
 obtain⟨left,ds,rfl,_,hw⟩:=nj hw
 obtain rfl:=nc hw
 exact⟨0,eT (nnx (fun r0=>((true,[.int r0]):kM)) a left)⟩
def SK:Sum:= {ps:=[⟨nx.ct,true⟩,⟨[.i],false⟩],rs:=[⟨[.d7 .i],false⟩],fn:=fun ds=>(true,[.int (sf (nx.nd ds 0) (rI ds 16))])}
def nq9:Ctx:=[(28,ZB)]
theorem nra:bF Tryz.prog nq9:=Ic nny JA
theorem nca:D8 Tryz.prog 6 SK:=by
 refine nO (A:=[]) nra Tryz.func6 fun ds (hw:kc (nx.ct++(.i::([]))) ds) _=> ?_
 obtain⟨a,ds,rfl,_,hw⟩:=nx.nA (r:=_) hw
 obtain⟨left,ds,rfl,_,hw⟩:=nj hw
 obtain rfl:=nc hw
 exact⟨0,eT (nq_ (fun r0=>((true,[.int r0]):kM)) a left)⟩
def nej:Sum:= {ps:=[⟨pe.ct,true⟩,⟨[.i],false⟩],rs:=[⟨[.d7 .i],false⟩],fn:=fun ds=>(true,[.int (vu (pe.nd ds 0) (rI ds 18))])}
def nux:Ctx:=[(6,SK)]
theorem nuA:bF Tryz.prog nux:=Ic nca JA
theorem nuz:D8 Tryz.prog 184 nej:=by
 refine nO (A:=[]) nuA Tryz.func184 fun ds (hw:kc (pe.ct++(.i::([]))) ds) _=> ?_
 obtain⟨a,ds,rfl,_,hw⟩:=pe.nA (r:=_) hw
 obtain⟨left,ds,rfl,_,hw⟩:=nj hw
 obtain rfl:=nc hw
 exact⟨0,eT (nuy (fun r0=>((true,[.int r0]):kM)) a left)⟩
def ZA:Sum:= {ps:=[⟨nK.ct,true⟩,⟨[.i],false⟩],rs:=[⟨[.d7 .i],false⟩],fn:=fun ds=>(true,[.int (rJ (nK.nd ds 0) (rI ds 30))])}
def nnt:Ctx:=[(184,nej)]
theorem nnw:bF Tryz.prog nnt:=Ic nuz JA
theorem nnv:D8 Tryz.prog 92 ZA:=by
 refine nO (A:=[]) nnw Tryz.func92 fun ds (hw:kc (nK.ct++(.i::([]))) ds) _=> ?_
 obtain⟨a,ds,rfl,_,hw⟩:=nK.nA (r:=_) hw
 obtain⟨left,ds,rfl,_,hw⟩:=nj hw
 obtain rfl:=nc hw
 exact⟨0,eT (nnu (fun r0=>((true,[.int r0]):kM)) a left)⟩
def PJ:Sum:= {ps:=[⟨[.sl [.i,.i,.i,.i,.i,.i,.i,.i,.i,.i,.i,.i,.i,.i,.i,.i,.i,.i,.i,.i,.i,.i,.i,.i,.i,.str,.i,.i,.bool,.i]],false⟩,⟨[.i],false⟩],rs:=[⟨[.d7 .i],false⟩],fn:=fun ds=>(true,[.int (oA (rR ds 0) (rI ds 1))])}
def Xc:Ctx:=[(92,ZA)]
theorem nld:bF Tryz.prog Xc:=Ic nnv JA
def Xb:List (Nat×lE):=[(5, {ca:=[(0,.mN),(1,.mN),(5,.mN)],boxes:=[]})]
def Xd:Int→kM:=(fun r0=>((true,[.int r0]):kM))
def niN (a:Rows) (t9 i:Int):St:= {n:=27,sl:=[(0,.sl [.i,.i,.i,.i,.i,.i,.i,.i,.i,.i,.i,.i,.i,.i,.i,.i,.i,.i,.i,.i,.i,.i,.i,.i,.i,.str,.i,.i,.bool,.i] a),(1,.int .i64 t9),(5,.int .i64 i)],hp:=[],ok:=true,ls:=[],lm:=[]}
theorem nlc:D8 Tryz.prog 19 PJ:=by
 refine nO (A:=Xb) nld Tryz.func19 fun ds (hw:kc ((.sl [.i,.i,.i,.i,.i,.i,.i,.i,.i,.i,.i,.i,.i,.i,.i,.i,.i,.i,.i,.i,.i,.i,.i,.i,.i,.str,.i,.i,.bool,.i])::(.i::([]))) ds) _=> ?_
 obtain⟨a,ds,rfl,pU,hw⟩:=nH hw
 obtain⟨left,ds,rfl,_,hw⟩:=nj hw
 obtain rfl:=nc hw
 obtain⟨N,hN⟩:=nlb Vm.ke Xd a left pU
 exact⟨N,eL (fun l_=>PK Vm.ke Xd l_ a left) (Wq (LQ Tryz.prog Xc Xb N Tryz.f19 PJ [true,true,true,false,true,false] []) (niN a) _ N) hN⟩
def Vt:Sum:= {ps:=[⟨[.sl [.i,.i,.i,.sl [.i]]],false⟩,⟨[.i],false⟩],rs:=[⟨[.d7 .i],false⟩],fn:=fun ds=>(true,[.int (pg (rR ds 0) (rI ds 1))])}
def nd_:Ctx:=[(90,Yh)]
theorem nul:bF Tryz.prog nd_:=Ic nha JA
def nd9:List (Nat×lE):=[(5, {ca:=[(0,.mN),(1,.mN),(5,.mN)],boxes:=[]})]
def nea:Int→kM:=(fun r0=>((true,[.int r0]):kM))
def nrb (a:Rows) (t9 i:Int):St:= {n:=27,sl:=[(0,.sl [.i,.i,.i,.sl [.i]] a),(1,.int .i64 t9),(5,.int .i64 i)],hp:=[],ok:=true,ls:=[],lm:=[]}
theorem nuk:D8 Tryz.prog 20 Vt:=by
 refine nO (A:=nd9) nul Tryz.func20 fun ds (hw:kc ((.sl [.i,.i,.i,.sl [.i]])::(.i::([]))) ds) _=> ?_
 obtain⟨a,ds,rfl,pU,hw⟩:=nH hw
 obtain⟨left,ds,rfl,_,hw⟩:=nj hw
 obtain rfl:=nc hw
 obtain⟨N,hN⟩:=nuj Vm.ke nea a left pU
 exact⟨N,eL (fun l_=>Vu Vm.ke nea l_ a left) (Wq (LQ Tryz.prog nd_ nd9 N Tryz.f20 Vt [true,true,true,false,true,false] []) (nrb a) _ N) hN⟩
def ZL:Sum:= {ps:=[⟨[.sl [.i,.i,.i,.i,.bool,.bool]],false⟩,⟨[.i],false⟩],rs:=[⟨[.d7 .i],false⟩],fn:=fun ds=>(true,[.int (nZ (rR ds 0) (rI ds 1))])}
theorem nnK:D8 Tryz.prog 21 ZL:=by
 refine nO (A:=[]) JA Tryz.func21 fun ds (hw:kc ((.sl [.i,.i,.i,.i,.bool,.bool])::(.i::([]))) ds) _=> ?_
 obtain⟨a,ds,rfl,_,hw⟩:=nH hw
 obtain⟨left,ds,rfl,_,hw⟩:=nj hw
 obtain rfl:=nc hw
 exact⟨0,eT (nnJ (fun r0=>((true,[.int r0]):kM)) a left)⟩
def nd8:Sum:= {ps:=[⟨[.sl [.bool]],false⟩,⟨[.i],false⟩],rs:=[⟨[.d7 .i],false⟩],fn:=fun ds=>(true,[.int (nZ (rR ds 0) (rI ds 1))])}
theorem nug:D8 Tryz.prog 22 nd8:=by
 refine nO (A:=[]) JA Tryz.func22 fun ds (hw:kc ((.sl [.bool])::(.i::([]))) ds) _=> ?_
 obtain⟨a,ds,rfl,_,hw⟩:=nH hw
 obtain⟨left,ds,rfl,_,hw⟩:=nj hw
 obtain rfl:=nc hw
 exact⟨0,eT (nuf (fun r0=>((true,[.int r0]):kM)) a left)⟩
def nb9:Sum:= {ps:=[⟨nC.ct,true⟩,⟨[.i],false⟩],rs:=[⟨[.d7 .i],false⟩],fn:=fun ds=>(true,[.int (pJ (nC.nd ds 0) (rI ds 3))])}
def nq0:Ctx:=[(27,xB)]
theorem nq3:bF Tryz.prog nq0:=Ic zZ JA
theorem nq2:D8 Tryz.prog 23 nb9:=by
 refine nO (A:=[]) nq3 Tryz.func23 fun ds (hw:kc (nC.ct++(.i::([]))) ds) _=> ?_
 obtain⟨a,ds,rfl,_,hw⟩:=nC.nA (r:=_) hw
 obtain⟨left,ds,rfl,_,hw⟩:=nj hw
 obtain rfl:=nc hw
 exact⟨0,eT (nq1 (fun r0=>((true,[.int r0]):kM)) a left)⟩
def nec:Sum:= {ps:=[⟨[.sl [.i,.i,.i,.i,.i,.i,.i,.i,.i]],false⟩,⟨[.i],false⟩],rs:=[⟨[.d7 .i],false⟩],fn:=fun ds=>(true,[.int (nZ (rR ds 0) (rI ds 1))])}
theorem nuo:D8 Tryz.prog 93 nec:=by
 refine nO (A:=[]) JA Tryz.func93 fun ds (hw:kc ((.sl [.i,.i,.i,.i,.i,.i,.i,.i,.i])::(.i::([]))) ds) _=> ?_
 obtain⟨a,ds,rfl,_,hw⟩:=nH hw
 obtain⟨left,ds,rfl,_,hw⟩:=nj hw
 obtain rfl:=nc hw
 exact⟨0,eT (nun (fun r0=>((true,[.int r0]):kM)) a left)⟩
def nei:Sum:= {ps:=[⟨[.sl [.i,.i,.i,.i,.i,.i,.i]],false⟩,⟨[.i],false⟩],rs:=[⟨[.d7 .i],false⟩],fn:=fun ds=>(true,[.int (nZ (rR ds 0) (rI ds 1))])}
theorem nuv:D8 Tryz.prog 185 nei:=by
 refine nO (A:=[]) JA Tryz.func185 fun ds (hw:kc ((.sl [.i,.i,.i,.i,.i,.i,.i])::(.i::([]))) ds) _=> ?_
 obtain⟨a,ds,rfl,_,hw⟩:=nH hw
 obtain⟨left,ds,rfl,_,hw⟩:=nj hw
 obtain rfl:=nc hw
 exact⟨0,eT (nuu (fun r0=>((true,[.int r0]):kM)) a left)⟩
def Vs:Sum:= {ps:=[⟨ni.ct,true⟩,⟨[.i],false⟩],rs:=[⟨[.d7 .i],false⟩],fn:=fun ds=>(true,[.int (rW (ni.nd ds 0) (rI ds 1))])}
def niJ:Ctx:=[(185,nei)]
theorem niM:bF Tryz.prog niJ:=Ic nuv JA
theorem niL:D8 Tryz.prog 94 Vs:=by
 refine nO (A:=[]) niM Tryz.func94 fun ds (hw:kc (ni.ct++(.i::([]))) ds) _=> ?_
 obtain⟨a,ds,rfl,_,hw⟩:=ni.nA (r:=_) hw
 obtain⟨left,ds,rfl,_,hw⟩:=nj hw
 obtain rfl:=nc hw
 exact⟨0,eT (niK (fun r0=>((true,[.int r0]):kM)) a left)⟩
def ncc:Sum:= {ps:=[⟨nG.ct,true⟩,⟨[.i],false⟩],rs:=[⟨[.d7 .i],false⟩],fn:=fun ds=>(true,[.int (vJ (nG.nd ds 0) (rI ds 2))])}
def nrd:Ctx:=[(27,xB)]
theorem nrg:bF Tryz.prog nrd:=Ic zZ JA
theorem nrf:D8 Tryz.prog 95 ncc:=by
 refine nO (A:=[]) nrg Tryz.func95 fun ds (hw:kc (nG.ct++(.i::([]))) ds) _=> ?_
 obtain⟨a,ds,rfl,_,hw⟩:=nG.nA (r:=_) hw
 obtain⟨left,ds,rfl,_,hw⟩:=nj hw
 obtain rfl:=nc hw
 exact⟨0,eT (nre (fun r0=>((true,[.int r0]):kM)) a left)⟩
def Xg:Sum:= {ps:=[⟨nk.ct,true⟩,⟨[.i],false⟩],rs:=[⟨[.d7 .i],false⟩],fn:=fun ds=>(true,[.int (pD (nk.nd ds 0) (rI ds 4))])}
def nlg:Ctx:=[(93,nec),(94,Vs),(95,ncc)]
theorem nlj:bF Tryz.prog nlg:=Ic nuo (Ic niL (Ic nrf JA))
theorem nli:D8 Tryz.prog 24 Xg:=by
 refine nO (A:=[]) nlj Tryz.func24 fun ds (hw:kc (nk.ct++(.i::([]))) ds) _=> ?_
 obtain⟨a,ds,rfl,_,hw⟩:=nk.nA (r:=_) hw
 obtain⟨left,ds,rfl,_,hw⟩:=nj hw
 obtain rfl:=nc hw
 exact⟨0,eT (nlh (fun r0=>((true,[.int r0]):kM)) a left)⟩
def ncd:Sum:= {ps:=[⟨om.ct,true⟩,⟨[.i],false⟩],rs:=[⟨[.d7 .i],false⟩],fn:=fun ds=>(true,[.int (sg (om.nd ds 0) (rI ds 8))])}
theorem nri:D8 Tryz.prog 96 ncd:=by
 refine nO (A:=[]) JA Tryz.func96 fun ds (hw:kc (om.ct++(.i::([]))) ds) _=> ?_
 obtain⟨a,ds,rfl,_,hw⟩:=om.nA (r:=_) hw
 obtain⟨left,ds,rfl,_,hw⟩:=nj hw
 obtain rfl:=nc hw
 exact⟨0,eT (nrh (fun r0=>((true,[.int r0]):kM)) a left)⟩
def Ra:Sum:= {ps:=[⟨[.sl [.i,.i,.i,.i,.i,.i,.str,.bool]],false⟩,⟨[.i],false⟩],rs:=[⟨[.d7 .i],false⟩],fn:=fun ds=>(true,[.int (qz (rR ds 0) (rI ds 1))])}
def ZD:Ctx:=[(96,ncd)]
theorem nnC:bF Tryz.prog ZD:=Ic nri JA
def ZC:List (Nat×lE):=[(5, {ca:=[(0,.mN),(1,.mN),(5,.mN)],boxes:=[]})]
def ZE:Int→kM:=(fun r0=>((true,[.int r0]):kM))
def nlk (a:Rows) (t9 i:Int):St:= {n:=27,sl:=[(0,.sl [.i,.i,.i,.i,.i,.i,.str,.bool] a),(1,.int .i64 t9),(5,.int .i64 i)],hp:=[],ok:=true,ls:=[],lm:=[]}
theorem nnB:D8 Tryz.prog 25 Ra:=by
 refine nO (A:=ZC) nnC Tryz.func25 fun ds (hw:kc ((.sl [.i,.i,.i,.i,.i,.i,.str,.bool])::(.i::([]))) ds) _=> ?_
 obtain⟨a,ds,rfl,pU,hw⟩:=nH hw
 obtain⟨left,ds,rfl,_,hw⟩:=nj hw
 obtain rfl:=nc hw
 obtain⟨N,hN⟩:=nnA Vm.ke ZE a left pU
 exact⟨N,eL (fun l_=>Rb Vm.ke ZE l_ a left) (Wq (LQ Tryz.prog ZD ZC N Tryz.f25 Ra [true,true,true,false,true,false] []) (nlk a) _ N) hN⟩
def ng_:Sum:= {ps:=[⟨ny.ct,true⟩,⟨[.i],false⟩],rs:=[⟨[.d7 .i],false⟩],fn:=fun ds=>(true,[.int (rX (ny.nd ds 0) (rI ds 33))])}
def nw9:Ctx:=[(16,nb_),(17,W_),(18,ZK),(19,PJ),(20,Vt),(21,ZL),(22,nd8),(23,nb9),(24,Xg),(25,Ra),(26,y9),(27,xB)]
theorem nxb:bF Tryz.prog nw9:=Ic nq7 (Ic nk_ (Ic nnH (Ic nlc (Ic nuk (Ic nnK (Ic nug (Ic nq2 (Ic nli (Ic nnB (Ic ZJ (Ic zZ JA)))))))))))
theorem nxa:D8 Tryz.prog 5 ng_:=by
 refine nO (A:=[]) nxb Tryz.func5 fun ds (hw:kc (ny.ct++(.i::([]))) ds) _=> ?_
 obtain⟨a,ds,rfl,_,hw⟩:=ny.nA (r:=_) hw
 obtain⟨left,ds,rfl,_,hw⟩:=nj hw
 obtain rfl:=nc hw
 exact⟨0,eT (nw_ (fun r0=>((true,[.int r0]):kM)) a left)⟩
def vI:Sum:= {ps:=[⟨[.sl [.i]],false⟩,⟨[.sl [.i]],false⟩],rs:=[⟨[.d7 .bool],false⟩],fn:=fun ds=>(same (rR ds 0) (rR ds 1),[.bool (pc (rR ds 0) (rR ds 1))])}
def ngX:List (Nat×lE):=[(4, {ca:=[(0,.mN),(1,.mN),(5,.mN)],boxes:=[]})]
def ngY:Bool→kM:=(fun r0=>((true,[.bool r0]):kM))
def ntZ (a b:Rows) (i:Int):St:= {n:=26,sl:=[(0,.sl [.i] a),(1,.sl [.i] b),(5,.int .i64 i)],hp:=[],ok:=true,ls:=[],lm:=[]}
theorem zX:D8 Tryz.prog 60 vI:=by
 refine nO (A:=ngX) JA Tryz.func60 fun ds (hw:kc ((.sl [.i])::((.sl [.i])::([]))) ds) aJ=> ?_
 obtain⟨a,ds,rfl,pU,hw⟩:=nH hw
 obtain⟨b,ds,rfl,_,hw⟩:=nH hw
 obtain rfl:=nc hw
 obtain⟨N,hN⟩:=nwU Vm.ke ngY a b pU aJ
 exact⟨N,eL (fun l_=>Ye Vm.ke ngY l_ a b) (nL1 (LQ Tryz.prog [] ngX N Tryz.f60 vI [true,true,false,true,false] []) (ntZ a b) _ N) hN⟩
def Yf:Sum:= {ps:=[⟨nv.ct,true⟩,⟨nv.ct,true⟩],rs:=[⟨[.d7 .bool],false⟩],fn:=fun ds=>(same (nv.nd ds 0) (nv.nd ds 4),[.bool (pc (nv.nd ds 0) (nv.nd ds 4))])}
def nwV:Ctx:=[(60,vI)]
theorem nwX:bF Tryz.prog nwV:=Ic zX JA
theorem ng0:D8 Tryz.prog 159 Yf:=by
 refine nO (A:=[]) nwX Tryz.func159 fun ds (hw:kc (nv.ct++(nv.ct++([]))) ds) aJ=> ?_
 obtain⟨a,ds,rfl,_,hw⟩:=nv.nA (r:=_) hw
 obtain⟨b,ds,rfl,_,hw⟩:=nv.nA (r:=_) hw
 obtain rfl:=nc hw
 exact⟨0,eT (nwW Vm.ke (fun r0=>((true,[.bool r0]):kM)) a b aJ)⟩
def UZ:Sum:= {ps:=[⟨[.sl [.i,.i,.i,.sl [.i]]],false⟩,⟨[.sl [.i,.i,.i,.sl [.i]]],false⟩],rs:=[⟨[.d7 .bool],false⟩],fn:=fun ds=>(same (rR ds 0) (rR ds 1),[.bool (pc (rR ds 0) (rR ds 1))])}
def ndJ:Ctx:=[(159,Yf)]
theorem nt2:bF Tryz.prog ndJ:=Ic ng0 JA
def ndI:List (Nat×lE):=[(4, {ca:=[(0,.mN),(1,.mN),(5,.mN)],boxes:=[]})]
def ndK:Bool→kM:=(fun r0=>((true,[.bool r0]):kM))
def nqt (a b:Rows) (i:Int):St:= {n:=27,sl:=[(0,.sl [.i,.i,.i,.sl [.i]] a),(1,.sl [.i,.i,.i,.sl [.i]] b),(5,.int .i64 i)],hp:=[],ok:=true,ls:=[],lm:=[]}
theorem nt1:D8 Tryz.prog 53 UZ:=by
 refine nO (A:=ndI) nt2 Tryz.func53 fun ds (hw:kc ((.sl [.i,.i,.i,.sl [.i]])::((.sl [.i,.i,.i,.sl [.i]])::([]))) ds) aJ=> ?_
 obtain⟨a,ds,rfl,pU,hw⟩:=nH hw
 obtain⟨b,ds,rfl,_,hw⟩:=nH hw
 obtain rfl:=nc hw
 obtain⟨N,hN⟩:=nt0 Vm.ke ndK a b pU aJ
 have e0:(fun i=>LR (LQ Tryz.prog ndJ ndI N Tryz.f53 UZ [true,true,false,true,false] []) N (nqt a b i))=(no8 (fun r=>nv.nd r 0) Vm.ke ndK N a b N):=nL1 _ _ _ N
 refine⟨N,Eq.trans ?_ (hN.trans (by kernel_rfl))⟩
 unfold nc6
 rw[←e0]
 kernel_rfl
def Yd:Sum:= {ps:=[⟨nP.ct,true⟩,⟨nP.ct,true⟩],rs:=[⟨[.d7 .bool],false⟩],fn:=fun ds=>(same (nP.nd ds 0) (nP.nd ds 5),[.bool (pc (nP.nd ds 0) (nP.nd ds 5))])}
theorem ngT:D8 Tryz.prog 237 Yd:=by
 refine nO (A:=[]) JA Tryz.func237 fun ds (hw:kc (nP.ct++(nP.ct++([]))) ds) aJ=> ?_
 obtain⟨a,ds,rfl,_,hw⟩:=nP.nA (r:=_) hw
 obtain⟨b,ds,rfl,_,hw⟩:=nP.nA (r:=_) hw
 obtain rfl:=nc hw
 exact⟨0,eT (nwP (fun r0=>((true,[.bool r0]):kM)) a b aJ)⟩
def ng8:Sum:= {ps:=[⟨qL.ct,true⟩,⟨qL.ct,true⟩],rs:=[⟨[.d7 .bool],false⟩],fn:=fun ds=>(same (qL.nd ds 0) (qL.nd ds 7),[.bool (pc (qL.nd ds 0) (qL.nd ds 7))])}
def nw5:Ctx:=[(237,Yd)]
theorem nw8:bF Tryz.prog nw5:=Ic ngT JA
theorem nw7:D8 Tryz.prog 283 ng8:=by
 refine nO (A:=[]) nw8 Tryz.func283 fun ds (hw:kc (qL.ct++(qL.ct++([]))) ds) aJ=> ?_
 obtain⟨a,ds,rfl,_,hw⟩:=qL.nA (r:=_) hw
 obtain⟨b,ds,rfl,_,hw⟩:=qL.nA (r:=_) hw
 obtain rfl:=nc hw
 exact⟨0,eT (nw6 Vm.ke (fun r0=>((true,[.bool r0]):kM)) a b aJ)⟩
def U2:Sum:= {ps:=[⟨[.sl [.i,.i,.i,.i,.i,.i,.i]],false⟩,⟨[.sl [.i,.i,.i,.i,.i,.i,.i]],false⟩],rs:=[⟨[.d7 .bool],false⟩],fn:=fun ds=>(same (rR ds 0) (rR ds 1),[.bool (pc (rR ds 0) (rR ds 1))])}
def ndS:Ctx:=[(283,ng8)]
theorem nua:bF Tryz.prog ndS:=Ic nw7 JA
def ndR:List (Nat×lE):=[(4, {ca:=[(0,.mN),(1,.mN),(5,.mN)],boxes:=[]})]
def ndT:Bool→kM:=(fun r0=>((true,[.bool r0]):kM))
def nqw (a b:Rows) (i:Int):St:= {n:=27,sl:=[(0,.sl [.i,.i,.i,.i,.i,.i,.i] a),(1,.sl [.i,.i,.i,.i,.i,.i,.i] b),(5,.int .i64 i)],hp:=[],ok:=true,ls:=[],lm:=[]}
theorem nt_:D8 Tryz.prog 236 U2:=by
 refine nO (A:=ndR) nua Tryz.func236 fun ds (hw:kc ((.sl [.i,.i,.i,.i,.i,.i,.i])::((.sl [.i,.i,.i,.i,.i,.i,.i])::([]))) ds) aJ=> ?_
 obtain⟨a,ds,rfl,pU,hw⟩:=nH hw
 obtain⟨b,ds,rfl,_,hw⟩:=nH hw
 obtain rfl:=nc hw
 obtain⟨N,hN⟩:=nt9 Vm.ke ndT a b pU aJ
 have e0:(fun i=>LR (LQ Tryz.prog ndS ndR N Tryz.f236 U2 [true,true,false,true,false] []) N (nqw a b i))=(no8 (fun r=>qL.nd r 0) Vm.ke ndT N a b N):=nL1 _ _ _ N
 refine⟨N,Eq.trans ?_ (hN.trans (by kernel_rfl))⟩
 unfold nc6
 rw[←e0]
 kernel_rfl
def UX:Sum:= {ps:=[⟨ni.ct,true⟩,⟨ni.ct,true⟩],rs:=[⟨[.d7 .bool],false⟩],fn:=fun ds=>(same (ni.nd ds 0) (ni.nd ds 1),[.bool (pc (ni.nd ds 0) (ni.nd ds 1))])}
def nig:Ctx:=[(236,U2)]
theorem nij:bF Tryz.prog nig:=Ic nt_ JA
theorem nii:D8 Tryz.prog 164 UX:=by
 refine nO (A:=[]) nij Tryz.func164 fun ds (hw:kc (ni.ct++(ni.ct++([]))) ds) aJ=> ?_
 obtain⟨a,ds,rfl,_,hw⟩:=ni.nA (r:=_) hw
 obtain⟨b,ds,rfl,_,hw⟩:=ni.nA (r:=_) hw
 obtain rfl:=nc hw
 exact⟨0,eT (nih Vm.ke (fun r0=>((true,[.bool r0]):kM)) a b aJ)⟩
def ncj:Sum:= {ps:=[⟨nY.ct,true⟩],rs:=[⟨[.d7 .i,.d7 .i,.d7 .i,.d7 .i,.d7 .bool,.d7 .bool],true⟩],fn:=fun ds=>(true,nY.enc (oE (nY.nd ds 0)))}
theorem nrM:D8 Tryz.prog 125 ncj:=by
 refine nO (A:=[]) JA Tryz.func125 fun ds (hw:kc (nY.ct++([])) ds) _=> ?_
 obtain⟨a,ds,rfl,_,hw⟩:=nY.nA (r:=_) hw
 obtain rfl:=nc hw
 exact⟨0,eT (nrL (fun r0=>((true,nY.enc r0):kM)) a)⟩
def Re:Sum:= {ps:=[⟨[.sl [.i,.i,.i,.i,.bool,.bool]],false⟩],rs:=[⟨[.own 186 [.i,.i,.i,.i,.bool,.bool]],false⟩],fn:=fun ds=>(sm (rR ds 0),[.sl (oE (rR ds 0))])}
def ZX:Ctx:=[(125,ncj)]
theorem nn7:bF Tryz.prog ZX:=Ic nrM JA
def ZW:List (Nat×lE):=[(3, {ca:=[(0,.mN),(3,.mN),(4,.mN)],boxes:=[]})]
def ZY:Rows→kM:=(fun r0=>((true,[.sl r0]):kM))
def nlB (a:Rows) (i:Int) (nV:Rows):St:= {n:=23,sl:=[(0,.sl [.i,.i,.i,.i,.bool,.bool] a),(3,.own 640192),(4,.int .i64 i)],hp:=[(640192,.row 186 [.i,.i,.i,.i,.bool,.bool] nV false true)],ok:=true,ls:=[],lm:=[]}
theorem nn6:D8 Tryz.prog 37 Re:=by
 refine nO (A:=ZW) nn7 Tryz.func37 fun ds (hw:kc ((.sl [.i,.i,.i,.i,.bool,.bool])::([])) ds) aJ=> ?_
 obtain⟨a,ds,rfl,pU,hw⟩:=nH hw
 obtain rfl:=nc hw
 obtain⟨N,hN⟩:=nn5 Vm.ke ZY a pU aJ
 have e0:(fun i nV=>LR (LQ Tryz.prog ZX ZW N Tryz.f37 Re [true,true,false,true,false] []) N (nlB a i nV))=(noB nfv Vm.ke ZY N a N):=Wq _ _ _ N
 refine⟨N,Eq.trans ?_ (hN.trans (by kernel_rfl))⟩
 unfold naf
 rw[←e0]
 kernel_rfl
def nbU:Sum:= {ps:=[⟨nY.ct,true⟩,⟨nY.ct,true⟩],rs:=[⟨[.d7 .bool],false⟩],fn:=fun ds=>(same (nY.nd ds 0) (nY.nd ds 6),[.bool (pc (nY.nd ds 0) (nY.nd ds 6))])}
theorem nqG:D8 Tryz.prog 162 nbU:=by
 refine nO (A:=[]) JA Tryz.func162 fun ds (hw:kc (nY.ct++(nY.ct++([]))) ds) aJ=> ?_
 obtain⟨a,ds,rfl,_,hw⟩:=nY.nA (r:=_) hw
 obtain⟨b,ds,rfl,_,hw⟩:=nY.nA (r:=_) hw
 obtain rfl:=nc hw
 exact⟨0,eT (nqF (fun r0=>((true,[.bool r0]):kM)) a b aJ)⟩
def YR:Sum:= {ps:=[⟨nD.ct,true⟩,⟨nD.ct,true⟩],rs:=[⟨[.d7 .bool],false⟩],fn:=fun ds=>(same (nD.nd ds 0) (nD.nd ds 8),[.bool (pc (nD.nd ds 0) (nD.nd ds 8))])}
theorem nmR:D8 Tryz.prog 322 YR:=by
 refine nO (A:=[]) JA Tryz.func322 fun ds (hw:kc (nD.ct++(nD.ct++([]))) ds) aJ=> ?_
 obtain⟨a,ds,rfl,_,hw⟩:=nD.nA (r:=_) hw
 obtain⟨b,ds,rfl,_,hw⟩:=nD.nA (r:=_) hw
 obtain rfl:=nc hw
 exact⟨0,eT (nmQ (fun r0=>((true,[.bool r0]):kM)) a b aJ)⟩
def nbO:Sum:= {ps:=[⟨nx.ct,true⟩,⟨nx.ct,true⟩],rs:=[⟨[.d7 .bool],false⟩],fn:=fun ds=>(same (nx.nd ds 0) (nx.nd ds 16),[.bool (pc (nx.nd ds 0) (nx.nd ds 16))])}
def nqp:Ctx:=[(322,YR)]
theorem nqs:bF Tryz.prog nqp:=Ic nmR JA
theorem nqr:D8 Tryz.prog 282 nbO:=by
 refine nO (A:=[]) nqs Tryz.func282 fun ds (hw:kc (nx.ct++(nx.ct++([]))) ds) aJ=> ?_
 obtain⟨a,ds,rfl,_,hw⟩:=nx.nA (r:=_) hw
 obtain⟨b,ds,rfl,_,hw⟩:=nx.nA (r:=_) hw
 obtain rfl:=nc hw
 exact⟨0,eT (nqq Vm.ke (fun r0=>((true,[.bool r0]):kM)) a b aJ)⟩
def Xj:Sum:= {ps:=[⟨ox.ct,true⟩],rs:=[⟨[.d7 .i,.d7 .i,.d7 .i,.d7 .i,.d7 .i],true⟩],fn:=fun ds=>(true,ox.enc (oE (ox.nd ds 0)))}
theorem nln:D8 Tryz.prog 44 Xj:=by
 refine nO (A:=[]) JA Tryz.func44 fun ds (hw:kc (ox.ct++([])) ds) _=> ?_
 obtain⟨a,ds,rfl,_,hw⟩:=ox.nA (r:=_) hw
 obtain rfl:=nc hw
 exact⟨0,eT (nlm (fun r0=>((true,ox.enc r0):kM)) a)⟩
def y3:Sum:= {ps:=[⟨[.sl [.str]],false⟩,⟨[.sl [.str]],false⟩],rs:=[⟨[.d7 .bool],false⟩],fn:=fun ds=>(same (rR ds 0) (rR ds 1),[.bool (pc (rR ds 0) (rR ds 1))])}
def YW:List (Nat×lE):=[(4, {ca:=[(0,.mN),(1,.mN),(5,.mN)],boxes:=[]})]
def YX:Bool→kM:=(fun r0=>((true,[.bool r0]):kM))
def nkz (a b:Rows) (i:Int):St:= {n:=26,sl:=[(0,.sl [.str] a),(1,.sl [.str] b),(5,.int .i64 i)],hp:=[],ok:=true,ls:=[],lm:=[]}
theorem YZ:D8 Tryz.prog 59 y3:=by
 refine nO (A:=YW) JA Tryz.func59 fun ds (hw:kc ((.sl [.str])::((.sl [.str])::([]))) ds) aJ=> ?_
 obtain⟨a,ds,rfl,pU,hw⟩:=nH hw
 obtain⟨b,ds,rfl,_,hw⟩:=nH hw
 obtain rfl:=nc hw
 obtain⟨N,hN⟩:=nmV Vm.ke YX a b pU aJ
 exact⟨N,eL (fun l_=>QG Vm.ke YX l_ a b) (nL1 (LQ Tryz.prog [] YW N Tryz.f59 y3 [true,true,false,true,false] []) (nkz a b) _ N) hN⟩
def z_:Sum:= {ps:=[⟨nn.ct,true⟩],rs:=[⟨[.d7 .i,.d7 .i,.d7 .i],true⟩],fn:=fun ds=>(true,nn.enc (oE (nn.nd ds 0)))}
theorem Yj:D8 Tryz.prog 205 z_:=by
 refine nO (A:=[]) JA Tryz.func205 fun ds (hw:kc (nn.ct++([])) ds) _=> ?_
 obtain⟨a,ds,rfl,_,hw⟩:=nn.nA (r:=_) hw
 obtain rfl:=nc hw
 exact⟨0,eT (Yi (fun r0=>((true,nn.enc r0):kM)) a)⟩
def nbS:Sum:= {ps:=[⟨om.ct,true⟩,⟨om.ct,true⟩],rs:=[⟨[.d7 .bool],false⟩],fn:=fun ds=>(same (om.nd ds 0) (om.nd ds 8),[.bool (pc (om.nd ds 0) (om.nd ds 8))])}
def nqB:Ctx:=[(237,Yd)]
theorem nqE:bF Tryz.prog nqB:=Ic ngT JA
theorem nqD:D8 Tryz.prog 166 nbS:=by
 refine nO (A:=[]) nqE Tryz.func166 fun ds (hw:kc (om.ct++(om.ct++([]))) ds) aJ=> ?_
 obtain⟨a,ds,rfl,_,hw⟩:=om.nA (r:=_) hw
 obtain⟨b,ds,rfl,_,hw⟩:=om.nA (r:=_) hw
 obtain rfl:=nc hw
 exact⟨0,eT (nqC Vm.ke (fun r0=>((true,[.bool r0]):kM)) a b aJ)⟩
def UU:Sum:= {ps:=[⟨[.sl [.bool]],false⟩,⟨[.sl [.bool]],false⟩],rs:=[⟨[.d7 .bool],false⟩],fn:=fun ds=>(same (rR ds 0) (rR ds 1),[.bool (pc (rR ds 0) (rR ds 1))])}
def ndF:List (Nat×lE):=[(4, {ca:=[(0,.mN),(1,.mN),(5,.mN)],boxes:=[]})]
def ndG:Bool→kM:=(fun r0=>((true,[.bool r0]):kM))
def nqg (a b:Rows) (i:Int):St:= {n:=26,sl:=[(0,.sl [.bool] a),(1,.sl [.bool] b),(5,.int .i64 i)],hp:=[],ok:=true,ls:=[],lm:=[]}
theorem ntY:D8 Tryz.prog 55 UU:=by
 refine nO (A:=ndF) JA Tryz.func55 fun ds (hw:kc ((.sl [.bool])::((.sl [.bool])::([]))) ds) aJ=> ?_
 obtain⟨a,ds,rfl,pU,hw⟩:=nH hw
 obtain⟨b,ds,rfl,_,hw⟩:=nH hw
 obtain rfl:=nc hw
 obtain⟨N,hN⟩:=ntX Vm.ke ndG a b pU aJ
 exact⟨N,eL (fun l_=>UW Vm.ke ndG l_ a b) (nL1 (LQ Tryz.prog [] ndF N Tryz.f55 UU [true,true,false,true,false] []) (nqg a b) _ N) hN⟩
def YN:Sum:= {ps:=[⟨oR.ct,true⟩,⟨oR.ct,true⟩],rs:=[⟨[.d7 .bool],false⟩],fn:=fun ds=>(same (oR.nd ds 0) (oR.nd ds 4),[.bool (pc (oR.nd ds 0) (oR.nd ds 4))])}
theorem nmL:D8 Tryz.prog 157 YN:=by
 refine nO (A:=[]) JA Tryz.func157 fun ds (hw:kc (oR.ct++(oR.ct++([]))) ds) aJ=> ?_
 obtain⟨a,ds,rfl,_,hw⟩:=oR.nA (r:=_) hw
 obtain⟨b,ds,rfl,_,hw⟩:=oR.nA (r:=_) hw
 obtain rfl:=nc hw
 exact⟨0,eT (nmK (fun r0=>((true,[.bool r0]):kM)) a b aJ)⟩
def PG:Sum:= {ps:=[⟨[.sl [.i,.i,.i,.bool]],false⟩,⟨[.sl [.i,.i,.i,.bool]],false⟩],rs:=[⟨[.d7 .bool],false⟩],fn:=fun ds=>(same (rR ds 0) (rR ds 1),[.bool (pc (rR ds 0) (rR ds 1))])}
def WX:Ctx:=[(157,YN)]
theorem nkq:bF Tryz.prog WX:=Ic nmL JA
def WW:List (Nat×lE):=[(4, {ca:=[(0,.mN),(1,.mN),(5,.mN)],boxes:=[]})]
def WY:Bool→kM:=(fun r0=>((true,[.bool r0]):kM))
def nik (a b:Rows) (i:Int):St:= {n:=27,sl:=[(0,.sl [.i,.i,.i,.bool] a),(1,.sl [.i,.i,.i,.bool] b),(5,.int .i64 i)],hp:=[],ok:=true,ls:=[],lm:=[]}
theorem nkp:D8 Tryz.prog 50 PG:=by
 refine nO (A:=WW) nkq Tryz.func50 fun ds (hw:kc ((.sl [.i,.i,.i,.bool])::((.sl [.i,.i,.i,.bool])::([]))) ds) aJ=> ?_
 obtain⟨a,ds,rfl,pU,hw⟩:=nH hw
 obtain⟨b,ds,rfl,_,hw⟩:=nH hw
 obtain rfl:=nc hw
 obtain⟨N,hN⟩:=nko Vm.ke WY a b pU aJ
 have e0:(fun i=>LR (LQ Tryz.prog WX WW N Tryz.f50 PG [true,true,false,true,false] []) N (nik a b i))=(no8 (fun r=>oR.nd r 0) Vm.ke WY N a b N):=nL1 _ _ _ N
 refine⟨N,Eq.trans ?_ (hN.trans (by kernel_rfl))⟩
 unfold nc6
 rw[←e0]
 kernel_rfl
def VH:Sum:= {ps:=[⟨[.sl [.i,.i,.i,.i,.i,.i,.i]],false⟩],rs:=[⟨[.own 262 [.i,.i,.i,.i,.i,.i,.i]],false⟩],fn:=fun ds=>(sm (rR ds 0),[.sl (oE (rR ds 0))])}
def neA:Ctx:=[(266,nhk)]
theorem nuP:bF Tryz.prog neA:=Ic nxG JA
def nez:List (Nat×lE):=[(3, {ca:=[(0,.mN),(3,.mN),(4,.mN)],boxes:=[]})]
def neB:Rows→kM:=(fun r0=>((true,[.sl r0]):kM))
def nrB (a:Rows) (i:Int) (nV:Rows):St:= {n:=23,sl:=[(0,.sl [.i,.i,.i,.i,.i,.i,.i] a),(3,.own 640192),(4,.int .i64 i)],hp:=[(640192,.row 262 [.i,.i,.i,.i,.i,.i,.i] nV false true)],ok:=true,ls:=[],lm:=[]}
theorem nuO:D8 Tryz.prog 208 VH:=by
 refine nO (A:=nez) nuP Tryz.func208 fun ds (hw:kc ((.sl [.i,.i,.i,.i,.i,.i,.i])::([])) ds) aJ=> ?_
 obtain⟨a,ds,rfl,pU,hw⟩:=nH hw
 obtain rfl:=nc hw
 obtain⟨N,hN⟩:=nuN Vm.ke neB a pU aJ
 have e0:(fun i nV=>LR (LQ Tryz.prog neA nez N Tryz.f208 VH [true,true,false,true,false] []) N (nrB a i nV))=(noB noD Vm.ke neB N a N):=Wq _ _ _ N
 refine⟨N,Eq.trans ?_ (hN.trans (by kernel_rfl))⟩
 unfold naf
 rw[←e0]
 kernel_rfl
def VB:Sum:= {ps:=[⟨ni.ct,true⟩],rs:=[⟨[.own 262 [.i,.i,.i,.i,.i,.i,.i]],true⟩],fn:=fun ds=>(sP (ni.nd ds 0),ni.enc (oE (ni.nd ds 0)))}
def niP:Ctx:=[(208,VH)]
theorem niS:bF Tryz.prog niP:=Ic nuO JA
theorem niR:D8 Tryz.prog 127 VB:=by
 refine nO (A:=[]) niS Tryz.func127 fun ds (hw:kc (ni.ct++([])) ds) aJ=> ?_
 obtain⟨a,ds,rfl,_,hw⟩:=ni.nA (r:=_) hw
 obtain rfl:=nc hw
 exact⟨0,eT (niQ Vm.ke (fun r0=>((true,ni.enc r0):kM)) a aJ)⟩
def y_:Sum:= {ps:=[⟨[.sl [.str]],false⟩],rs:=[⟨[.own 9 [.str]],false⟩],fn:=fun ds=>(sm (rR ds 0),[.sl (oE (rR ds 0))])}
def ZS:List (Nat×lE):=[(3, {ca:=[(0,.mN),(3,.mN),(4,.mN)],boxes:=[]})]
def ZT:Rows→kM:=(fun r0=>((true,[.sl r0]):kM))
def nlA (a:Rows) (i:Int) (nV:Rows):St:= {n:=22,sl:=[(0,.sl [.str] a),(3,.own 640192),(4,.int .i64 i)],hp:=[(640192,.row 9 [.str] nV false true)],ok:=true,ls:=[],lm:=[]}
theorem ZU:D8 Tryz.prog 42 y_:=by
 refine nO (A:=ZS) JA Tryz.func42 fun ds (hw:kc ((.sl [.str])::([])) ds) aJ=> ?_
 obtain⟨a,ds,rfl,pU,hw⟩:=nH hw
 obtain rfl:=nc hw
 obtain⟨N,hN⟩:=nn0 Vm.ke ZT a pU aJ
 have e0:(fun i nV=>LR (LQ Tryz.prog [] ZS N Tryz.f42 y_ [true,true,false,true,false] []) N (nlA a i nV))=(noB nfu Vm.ke ZT N a N):=Wq _ _ _ N
 refine⟨N,Eq.trans ?_ (hN.trans (by kernel_rfl))⟩
 unfold naf
 rw[←e0]
 kernel_rfl
def ncf:Sum:= {ps:=[⟨na.ct,true⟩],rs:=[⟨[.own 9 [.str]],true⟩],fn:=fun ds=>(uj (na.nd ds 0),na.enc (oE (na.nd ds 0)))}
def nrq:Ctx:=[(42,y_)]
theorem nrt:bF Tryz.prog nrq:=Ic ZU JA
theorem nrs:D8 Tryz.prog 32 ncf:=by
 refine nO (A:=[]) nrt Tryz.func32 fun ds (hw:kc (na.ct++([])) ds) aJ=> ?_
 obtain⟨a,ds,rfl,_,hw⟩:=na.nA (r:=_) hw
 obtain rfl:=nc hw
 exact⟨0,eT (nrr Vm.ke (fun r0=>((true,na.enc r0):kM)) a aJ)⟩
def ZM:Sum:= {ps:=[⟨oR.ct,true⟩],rs:=[⟨[.d7 .i,.d7 .i,.d7 .i,.d7 .bool],true⟩],fn:=fun ds=>(true,oR.enc (oE (oR.nd ds 0)))}
theorem nnN:D8 Tryz.prog 120 ZM:=by
 refine nO (A:=[]) JA Tryz.func120 fun ds (hw:kc (oR.ct++([])) ds) _=> ?_
 obtain⟨a,ds,rfl,_,hw⟩:=oR.nA (r:=_) hw
 obtain rfl:=nc hw
 exact⟨0,eT (nnM (fun r0=>((true,oR.enc r0):kM)) a)⟩
def PN:Sum:= {ps:=[⟨[.sl [.i,.i,.i,.bool]],false⟩],rs:=[⟨[.own 209 [.i,.i,.i,.bool]],false⟩],fn:=fun ds=>(sm (rR ds 0),[.sl (oE (rR ds 0))])}
def Xl:Ctx:=[(120,ZM)]
theorem nlr:bF Tryz.prog Xl:=Ic nnN JA
def Xk:List (Nat×lE):=[(3, {ca:=[(0,.mN),(3,.mN),(4,.mN)],boxes:=[]})]
def Xm:Rows→kM:=(fun r0=>((true,[.sl r0]):kM))
def niT (a:Rows) (i:Int) (nV:Rows):St:= {n:=23,sl:=[(0,.sl [.i,.i,.i,.bool] a),(3,.own 640192),(4,.int .i64 i)],hp:=[(640192,.row 209 [.i,.i,.i,.bool] nV false true)],ok:=true,ls:=[],lm:=[]}
theorem nlq:D8 Tryz.prog 33 PN:=by
 refine nO (A:=Xk) nlr Tryz.func33 fun ds (hw:kc ((.sl [.i,.i,.i,.bool])::([])) ds) aJ=> ?_
 obtain⟨a,ds,rfl,pU,hw⟩:=nH hw
 obtain rfl:=nc hw
 obtain⟨N,hN⟩:=nlp Vm.ke Xm a pU aJ
 have e0:(fun i nV=>LR (LQ Tryz.prog Xl Xk N Tryz.f33 PN [true,true,false,true,false] []) N (niT a i nV))=(noB naX Vm.ke Xm N a N):=Wq _ _ _ N
 refine⟨N,Eq.trans ?_ (hN.trans (by kernel_rfl))⟩
 unfold naf
 rw[←e0]
 kernel_rfl
def Yn:Sum:= {ps:=[⟨nB.ct,true⟩],rs:=[⟨[.d7 .i,.d7 .i,.d7 .i,.d7 .i],true⟩],fn:=fun ds=>(true,nB.enc (oE (nB.nd ds 0)))}
theorem nhh:D8 Tryz.prog 121 Yn:=by
 refine nO (A:=[]) JA Tryz.func121 fun ds (hw:kc (nB.ct++([])) ds) _=> ?_
 obtain⟨a,ds,rfl,_,hw⟩:=nB.nA (r:=_) hw
 obtain rfl:=nc hw
 exact⟨0,eT (nxv (fun r0=>((true,nB.enc r0):kM)) a)⟩
def vK:Sum:= {ps:=[⟨[.sl [.i]],false⟩],rs:=[⟨[.own 3 [.i]],false⟩],fn:=fun ds=>(sm (rR ds 0),[.sl (oE (rR ds 0))])}
def nhe:List (Nat×lE):=[(3, {ca:=[(0,.mN),(3,.mN),(4,.mN)],boxes:=[]})]
def nhf:Rows→kM:=(fun r0=>((true,[.sl r0]):kM))
def nuD (a:Rows) (i:Int) (nV:Rows):St:= {n:=22,sl:=[(0,.sl [.i] a),(3,.own 640192),(4,.int .i64 i)],hp:=[(640192,.row 3 [.i] nV false true)],ok:=true,ls:=[],lm:=[]}
theorem Na:D8 Tryz.prog 43 vK:=by
 refine nO (A:=nhe) JA Tryz.func43 fun ds (hw:kc ((.sl [.i])::([])) ds) aJ=> ?_
 obtain⟨a,ds,rfl,pU,hw⟩:=nH hw
 obtain rfl:=nc hw
 obtain⟨N,hN⟩:=nxr Vm.ke nhf a pU aJ
 have e0:(fun i nV=>LR (LQ Tryz.prog [] nhe N Tryz.f43 vK [true,true,false,true,false] []) N (nuD a i nV))=(noB nv4 Vm.ke nhf N a N):=Wq _ _ _ N
 refine⟨N,Eq.trans ?_ (hN.trans (by kernel_rfl))⟩
 unfold naf
 rw[←e0]
 kernel_rfl
def Ym:Sum:= {ps:=[⟨nv.ct,true⟩],rs:=[⟨[.d7 .i,.d7 .i,.d7 .i,.own 3 [.i]],true⟩],fn:=fun ds=>(sK (nv.nd ds 0),nv.enc (oE (nv.nd ds 0)))}
def nxs:Ctx:=[(43,vK)]
theorem nxu:bF Tryz.prog nxs:=Ic Na JA
theorem nhg:D8 Tryz.prog 122 Ym:=by
 refine nO (A:=[]) nxu Tryz.func122 fun ds (hw:kc (nv.ct++([])) ds) aJ=> ?_
 obtain⟨a,ds,rfl,_,hw⟩:=nv.nA (r:=_) hw
 obtain rfl:=nc hw
 exact⟨0,eT (nxt Vm.ke (fun r0=>((true,nv.enc r0):kM)) a aJ)⟩
def nhj:Sum:= {ps:=[⟨oZ.ct,true⟩],rs:=[⟨[.d7 .i,.d7 .i,.own 3 [.i]],true⟩],fn:=fun ds=>(tC (oZ.nd ds 0),oZ.enc (oE (oZ.nd ds 0)))}
def nxA:Ctx:=[(43,vK)]
theorem nxD:bF Tryz.prog nxA:=Ic Na JA
theorem nxC:D8 Tryz.prog 204 nhj:=by
 refine nO (A:=[]) nxD Tryz.func204 fun ds (hw:kc (oZ.ct++([])) ds) aJ=> ?_
 obtain⟨a,ds,rfl,_,hw⟩:=oZ.nA (r:=_) hw
 obtain rfl:=nc hw
 exact⟨0,eT (nxB Vm.ke (fun r0=>((true,oZ.enc r0):kM)) a aJ)⟩
def VF:Sum:= {ps:=[⟨[.sl [.i,.i,.sl [.i]]],false⟩],rs:=[⟨[.deep 207 [.i,.i,.sl [.i]] [3]],false⟩],fn:=fun ds=>(sW (rR ds 0),[.sl (oE (rR ds 0))])}
def nev:Ctx:=[(1125899906842631,J3),(204,nhj)]
theorem nuM:bF Tryz.prog nev:=Ic Lq (Ic nxC JA)
def neu:List (Nat×lE):=[(3, {ca:=[(0,.mN),(3,.mN),(4,.mN)],boxes:=[]})]
def nex:Rows→kM:=(fun r0=>((true,[.sl r0]):kM))
def nrA (a:Rows) (i:Int) (nV:Rows):St:= {n:=23,sl:=[(0,.sl [.i,.i,.sl [.i]] a),(3,.own 640192),(4,.int .i64 i)],hp:=[(640192,.deep 207 [.i,.i,.sl [.i]] [3] nV none)],ok:=true,ls:=[],lm:=[]}
theorem nuL:D8 Tryz.prog 123 VF:=by
 refine nO (A:=neu) nuM Tryz.func123 fun ds (hw:kc ((.sl [.i,.i,.sl [.i]])::([])) ds) aJ=> ?_
 obtain⟨a,ds,rfl,pU,hw⟩:=nH hw
 obtain rfl:=nc hw
 obtain⟨N,hN⟩:=nuK Vm.ke nex a pU aJ
 exact⟨N,eL (fun l_=>VG Vm.ke nex l_ a) (Wq (LQ Tryz.prog nev neu N Tryz.f123 VF [true,true,false,true,false] []) (nrA a) _ N) hN⟩
def ZV:Sum:= {ps:=[⟨nh.ct,true⟩],rs:=[⟨[.d7 .i,.d7 .i,.d7 .i,.d7 .i,.d7 .i,.d7 .i,.d7 .i,.own 3 [.i],.deep 207 [.i,.i,.sl [.i]] [3],.d7 .i],true⟩],fn:=fun ds=>(tG (nh.nd ds 0),nh.enc (oE (nh.nd ds 0)))}
def nn1:Ctx:=[(121,Yn),(122,Ym),(123,VF)]
theorem nn4:bF Tryz.prog nn1:=Ic nhh (Ic nhg (Ic nuL JA))
theorem nn3:D8 Tryz.prog 34 ZV:=by
 refine nO (A:=[]) nn4 Tryz.func34 fun ds (hw:kc (nh.ct++([])) ds) aJ=> ?_
 obtain⟨a,ds,rfl,_,hw⟩:=nh.nA (r:=_) hw
 obtain rfl:=nc hw
 exact⟨0,eT (nn2 Vm.ke (fun r0=>((true,nh.enc r0):kM)) a aJ)⟩
def ZO:Sum:= {ps:=[⟨nD.ct,true⟩],rs:=[⟨[.d7 .i,.d7 .i,.d7 .i,.d7 .i,.d7 .i,.d7 .i,.d7 .i,.d7 .str],true⟩],fn:=fun ds=>(true,nD.enc (oE (nD.nd ds 0)))}
theorem nnV:D8 Tryz.prog 45 ZO:=by
 refine nO (A:=[]) JA Tryz.func45 fun ds (hw:kc (nD.ct++([])) ds) _=> ?_
 obtain⟨a,ds,rfl,_,hw⟩:=nD.nA (r:=_) hw
 obtain rfl:=nc hw
 exact⟨0,eT (nnU (fun r0=>((true,nD.enc r0):kM)) a)⟩
def SQ:Sum:= {ps:=[⟨nx.ct,true⟩],rs:=[⟨[.d7 .i,.d7 .i,.d7 .i,.d7 .i,.d7 .i,.d7 .i,.d7 .i,.d7 .i,.d7 .i,.d7 .i,.d7 .i,.d7 .i,.d7 .i,.d7 .i,.d7 .i,.d7 .str],true⟩],fn:=fun ds=>(true,nx.enc (oE (nx.nd ds 0)))}
def nru:Ctx:=[(45,ZO)]
theorem nrx:bF Tryz.prog nru:=Ic nnV JA
theorem ncg:D8 Tryz.prog 9 SQ:=by
 refine nO (A:=[]) nrx Tryz.func9 fun ds (hw:kc (nx.ct++([])) ds) _=> ?_
 obtain⟨a,ds,rfl,_,hw⟩:=nx.nA (r:=_) hw
 obtain rfl:=nc hw
 exact⟨0,eT (nrv (fun r0=>((true,nx.enc r0):kM)) a)⟩
def neC:Sum:= {ps:=[⟨pe.ct,true⟩],rs:=[⟨[.d7 .i,.d7 .i,.d7 .i,.d7 .i,.d7 .i,.d7 .i,.d7 .i,.d7 .i,.d7 .i,.d7 .i,.d7 .i,.d7 .i,.d7 .i,.d7 .i,.d7 .i,.d7 .str,.d7 .i,.d7 .i],true⟩],fn:=fun ds=>(true,pe.enc (oE (pe.nd ds 0)))}
def nuQ:Ctx:=[(9,SQ)]
theorem nuU:bF Tryz.prog nuQ:=Ic ncg JA
theorem nuS:D8 Tryz.prog 206 neC:=by
 refine nO (A:=[]) nuU Tryz.func206 fun ds (hw:kc (pe.ct++([])) ds) _=> ?_
 obtain⟨a,ds,rfl,_,hw⟩:=pe.nA (r:=_) hw
 obtain rfl:=nc hw
 exact⟨0,eT (nuR (fun r0=>((true,pe.enc r0):kM)) a)⟩
def ZN:Sum:= {ps:=[⟨nK.ct,true⟩],rs:=[⟨[.d7 .i,.d7 .i,.d7 .i,.d7 .i,.d7 .i,.d7 .i,.d7 .i,.d7 .i,.d7 .i,.d7 .i,.d7 .i,.d7 .i,.d7 .i,.d7 .i,.d7 .i,.d7 .i,.d7 .i,.d7 .i,.d7 .i,.d7 .i,.d7 .i,.d7 .i,.d7 .i,.d7 .i,.d7 .i,.d7 .str,.d7 .i,.d7 .i,.d7 .bool,.d7 .i],true⟩],fn:=fun ds=>(true,nK.enc (oE (nK.nd ds 0)))}
def nnP:Ctx:=[(121,Yn),(205,z_),(206,neC)]
theorem nnT:bF Tryz.prog nnP:=Ic nhh (Ic Yj (Ic nuS JA))
theorem nnR:D8 Tryz.prog 124 ZN:=by
 refine nO (A:=[]) nnT Tryz.func124 fun ds (hw:kc (nK.ct++([])) ds) _=> ?_
 obtain⟨a,ds,rfl,_,hw⟩:=nK.nA (r:=_) hw
 obtain rfl:=nc hw
 exact⟨0,eT (nnQ (fun r0=>((true,nK.enc r0):kM)) a)⟩
def PO:Sum:= {ps:=[⟨[.sl [.i,.i,.i,.i,.i,.i,.i,.i,.i,.i,.i,.i,.i,.i,.i,.i,.i,.i,.i,.i,.i,.i,.i,.i,.i,.str,.i,.i,.bool,.i]],false⟩],rs:=[⟨[.own 182 [.i,.i,.i,.i,.i,.i,.i,.i,.i,.i,.i,.i,.i,.i,.i,.i,.i,.i,.i,.i,.i,.i,.i,.i,.i,.str,.i,.i,.bool,.i]],false⟩],fn:=fun ds=>(sm (rR ds 0),[.sl (oE (rR ds 0))])}
def Xp:Ctx:=[(124,ZN)]
theorem nlu:bF Tryz.prog Xp:=Ic nnR JA
def Xo:List (Nat×lE):=[(3, {ca:=[(0,.mN),(3,.mN),(4,.mN)],boxes:=[]})]
def Xq:Rows→kM:=(fun r0=>((true,[.sl r0]):kM))
def niU (a:Rows) (i:Int) (nV:Rows):St:= {n:=23,sl:=[(0,.sl [.i,.i,.i,.i,.i,.i,.i,.i,.i,.i,.i,.i,.i,.i,.i,.i,.i,.i,.i,.i,.i,.i,.i,.i,.i,.str,.i,.i,.bool,.i] a),(3,.own 640192),(4,.int .i64 i)],hp:=[(640192,.row 182 [.i,.i,.i,.i,.i,.i,.i,.i,.i,.i,.i,.i,.i,.i,.i,.i,.i,.i,.i,.i,.i,.i,.i,.i,.i,.str,.i,.i,.bool,.i] nV false true)],ok:=true,ls:=[],lm:=[]}
theorem nlt:D8 Tryz.prog 35 PO:=by
 refine nO (A:=Xo) nlu Tryz.func35 fun ds (hw:kc ((.sl [.i,.i,.i,.i,.i,.i,.i,.i,.i,.i,.i,.i,.i,.i,.i,.i,.i,.i,.i,.i,.i,.i,.i,.i,.i,.str,.i,.i,.bool,.i])::([])) ds) aJ=> ?_
 obtain⟨a,ds,rfl,pU,hw⟩:=nH hw
 obtain rfl:=nc hw
 obtain⟨N,hN⟩:=nls Vm.ke Xq a pU aJ
 have e0:(fun i nV=>LR (LQ Tryz.prog Xp Xo N Tryz.f35 PO [true,true,false,true,false] []) N (niU a i nV))=(noB naY Vm.ke Xq N a N):=Wq _ _ _ N
 refine⟨N,Eq.trans ?_ (hN.trans (by kernel_rfl))⟩
 unfold naf
 rw[←e0]
 kernel_rfl
def VC:Sum:= {ps:=[⟨[.sl [.i,.i,.i,.sl [.i]]],false⟩],rs:=[⟨[.deep 62 [.i,.i,.i,.sl [.i]] [3]],false⟩],fn:=fun ds=>(tQ (rR ds 0),[.sl (oE (rR ds 0))])}
def nen:Ctx:=[(1125899906842631,J3),(122,Ym)]
theorem nuG:bF Tryz.prog nen:=Ic Lq (Ic nhg JA)
def nem:List (Nat×lE):=[(3, {ca:=[(0,.mN),(3,.mN),(4,.mN)],boxes:=[]})]
def neo:Rows→kM:=(fun r0=>((true,[.sl r0]):kM))
def nry (a:Rows) (i:Int) (nV:Rows):St:= {n:=23,sl:=[(0,.sl [.i,.i,.i,.sl [.i]] a),(3,.own 640192),(4,.int .i64 i)],hp:=[(640192,.deep 62 [.i,.i,.i,.sl [.i]] [3] nV none)],ok:=true,ls:=[],lm:=[]}
theorem nuF:D8 Tryz.prog 36 VC:=by
 refine nO (A:=nem) nuG Tryz.func36 fun ds (hw:kc ((.sl [.i,.i,.i,.sl [.i]])::([])) ds) aJ=> ?_
 obtain⟨a,ds,rfl,pU,hw⟩:=nH hw
 obtain rfl:=nc hw
 obtain⟨N,hN⟩:=nuE Vm.ke neo a pU aJ
 exact⟨N,eL (fun l_=>VD Vm.ke neo l_ a) (Wq (LQ Tryz.prog nen nem N Tryz.f36 VC [true,true,false,true,false] []) (nry a) _ N) hN⟩
def VA:Sum:= {ps:=[⟨[.sl [.bool]],false⟩],rs:=[⟨[.own 4 [.bool]],false⟩],fn:=fun ds=>(sm (rR ds 0),[.sl (oE (rR ds 0))])}
def nek:List (Nat×lE):=[(3, {ca:=[(0,.mN),(3,.mN),(4,.mN)],boxes:=[]})]
def nel:Rows→kM:=(fun r0=>((true,[.sl r0]):kM))
def nrk (a:Rows) (i:Int) (nV:Rows):St:= {n:=22,sl:=[(0,.sl [.bool] a),(3,.own 640192),(4,.int .i64 i)],hp:=[(640192,.row 4 [.bool] nV false true)],ok:=true,ls:=[],lm:=[]}
theorem nuC:D8 Tryz.prog 38 VA:=by
 refine nO (A:=nek) JA Tryz.func38 fun ds (hw:kc ((.sl [.bool])::([])) ds) aJ=> ?_
 obtain⟨a,ds,rfl,pU,hw⟩:=nH hw
 obtain rfl:=nc hw
 obtain⟨N,hN⟩:=nuB Vm.ke nel a pU aJ
 have e0:(fun i nV=>LR (LQ Tryz.prog [] nek N Tryz.f38 VA [true,true,false,true,false] []) N (nrk a i nV))=(noB noA Vm.ke nel N a N):=Wq _ _ _ N
 refine⟨N,Eq.trans ?_ (hN.trans (by kernel_rfl))⟩
 unfold naf
 rw[←e0]
 kernel_rfl
def nce:Sum:= {ps:=[⟨nC.ct,true⟩],rs:=[⟨[.d7 .i,.d7 .bool,.own 3 [.i]],true⟩],fn:=fun ds=>(ui (nC.nd ds 0),nC.enc (oE (nC.nd ds 0)))}
def nrl:Ctx:=[(43,vK)]
theorem nrp:bF Tryz.prog nrl:=Ic Na JA
theorem nro:D8 Tryz.prog 39 nce:=by
 refine nO (A:=[]) nrp Tryz.func39 fun ds (hw:kc (nC.ct++([])) ds) aJ=> ?_
 obtain⟨a,ds,rfl,_,hw⟩:=nC.nA (r:=_) hw
 obtain rfl:=nc hw
 exact⟨0,eT (nrn Vm.ke (fun r0=>((true,nC.enc r0):kM)) a aJ)⟩
def nhi:Sum:= {ps:=[⟨pf.ct,true⟩],rs:=[⟨[.d7 .i,.d7 .i,.d7 .i,.d7 .i,.d7 .i,.d7 .i,.d7 .i,.d7 .i,.d7 .i],true⟩],fn:=fun ds=>(true,pf.enc (oE (pf.nd ds 0)))}
theorem nxy:D8 Tryz.prog 207 nhi:=by
 refine nO (A:=[]) JA Tryz.func207 fun ds (hw:kc (pf.ct++([])) ds) _=> ?_
 obtain⟨a,ds,rfl,_,hw⟩:=pf.nA (r:=_) hw
 obtain rfl:=nc hw
 exact⟨0,eT (nxx (fun r0=>((true,pf.enc r0):kM)) a)⟩
def VE:Sum:= {ps:=[⟨[.sl [.i,.i,.i,.i,.i,.i,.i,.i,.i]],false⟩],rs:=[⟨[.own 260 [.i,.i,.i,.i,.i,.i,.i,.i,.i]],false⟩],fn:=fun ds=>(sm (rR ds 0),[.sl (oE (rR ds 0))])}
def nes:Ctx:=[(207,nhi)]
theorem nuJ:bF Tryz.prog nes:=Ic nxy JA
def ner:List (Nat×lE):=[(3, {ca:=[(0,.mN),(3,.mN),(4,.mN)],boxes:=[]})]
def net:Rows→kM:=(fun r0=>((true,[.sl r0]):kM))
def nrz (a:Rows) (i:Int) (nV:Rows):St:= {n:=23,sl:=[(0,.sl [.i,.i,.i,.i,.i,.i,.i,.i,.i] a),(3,.own 640192),(4,.int .i64 i)],hp:=[(640192,.row 260 [.i,.i,.i,.i,.i,.i,.i,.i,.i] nV false true)],ok:=true,ls:=[],lm:=[]}
theorem nuI:D8 Tryz.prog 126 VE:=by
 refine nO (A:=ner) nuJ Tryz.func126 fun ds (hw:kc ((.sl [.i,.i,.i,.i,.i,.i,.i,.i,.i])::([])) ds) aJ=> ?_
 obtain⟨a,ds,rfl,pU,hw⟩:=nH hw
 obtain rfl:=nc hw
 obtain⟨N,hN⟩:=nuH Vm.ke net a pU aJ
 have e0:(fun i nV=>LR (LQ Tryz.prog nes ner N Tryz.f126 VE [true,true,false,true,false] []) N (nrz a i nV))=(noB noC Vm.ke net N a N):=Wq _ _ _ N
 refine⟨N,Eq.trans ?_ (hN.trans (by kernel_rfl))⟩
 unfold naf
 rw[←e0]
 kernel_rfl
def nch:Sum:= {ps:=[⟨nG.ct,true⟩],rs:=[⟨[.d7 .str,.own 3 [.i]],true⟩],fn:=fun ds=>(uk (nG.nd ds 0),nG.enc (oE (nG.nd ds 0)))}
def nrC:Ctx:=[(43,vK)]
theorem nrF:bF Tryz.prog nrC:=Ic Na JA
theorem nrE:D8 Tryz.prog 128 nch:=by
 refine nO (A:=[]) nrF Tryz.func128 fun ds (hw:kc (nG.ct++([])) ds) aJ=> ?_
 obtain⟨a,ds,rfl,_,hw⟩:=nG.nA (r:=_) hw
 obtain rfl:=nc hw
 exact⟨0,eT (nrD Vm.ke (fun r0=>((true,nG.enc r0):kM)) a aJ)⟩
def Xt:Sum:= {ps:=[⟨nk.ct,true⟩],rs:=[⟨[.own 260 [.i,.i,.i,.i,.i,.i,.i,.i,.i],.own 262 [.i,.i,.i,.i,.i,.i,.i],.d7 .str,.own 3 [.i]],true⟩],fn:=fun ds=>(tf (nk.nd ds 0),nk.enc (oE (nk.nd ds 0)))}
def nlv:Ctx:=[(126,VE),(127,VB),(128,nch)]
theorem nly:bF Tryz.prog nlv:=Ic nuI (Ic niR (Ic nrE JA))
theorem nlx:D8 Tryz.prog 40 Xt:=by
 refine nO (A:=[]) nly Tryz.func40 fun ds (hw:kc (nk.ct++([])) ds) aJ=> ?_
 obtain⟨a,ds,rfl,_,hw⟩:=nk.nA (r:=_) hw
 obtain rfl:=nc hw
 exact⟨0,eT (nlw Vm.ke (fun r0=>((true,nk.enc r0):kM)) a aJ)⟩
def nci:Sum:= {ps:=[⟨om.ct,true⟩],rs:=[⟨[.d7 .i,.d7 .i,.d7 .i,.d7 .i,.d7 .i,.d7 .i,.d7 .str,.d7 .bool],true⟩],fn:=fun ds=>(true,om.enc (oE (om.nd ds 0)))}
def nrG:Ctx:=[(209,Yl)]
theorem nrK:bF Tryz.prog nrG:=Ic nhc JA
theorem nrI:D8 Tryz.prog 129 nci:=by
 refine nO (A:=[]) nrK Tryz.func129 fun ds (hw:kc (om.ct++([])) ds) _=> ?_
 obtain⟨a,ds,rfl,_,hw⟩:=om.nA (r:=_) hw
 obtain rfl:=nc hw
 exact⟨0,eT (nrH (fun r0=>((true,om.enc r0):kM)) a)⟩
def Rd:Sum:= {ps:=[⟨[.sl [.i,.i,.i,.i,.i,.i,.str,.bool]],false⟩],rs:=[⟨[.own 223 [.i,.i,.i,.i,.i,.i,.str,.bool]],false⟩],fn:=fun ds=>(sm (rR ds 0),[.sl (oE (rR ds 0))])}
def ZQ:Ctx:=[(129,nci)]
theorem nnZ:bF Tryz.prog ZQ:=Ic nrI JA
def ZP:List (Nat×lE):=[(3, {ca:=[(0,.mN),(3,.mN),(4,.mN)],boxes:=[]})]
def ZR:Rows→kM:=(fun r0=>((true,[.sl r0]):kM))
def nlz (a:Rows) (i:Int) (nV:Rows):St:= {n:=23,sl:=[(0,.sl [.i,.i,.i,.i,.i,.i,.str,.bool] a),(3,.own 640192),(4,.int .i64 i)],hp:=[(640192,.row 223 [.i,.i,.i,.i,.i,.i,.str,.bool] nV false true)],ok:=true,ls:=[],lm:=[]}
theorem nnY:D8 Tryz.prog 41 Rd:=by
 refine nO (A:=ZP) nnZ Tryz.func41 fun ds (hw:kc ((.sl [.i,.i,.i,.i,.i,.i,.str,.bool])::([])) ds) aJ=> ?_
 obtain⟨a,ds,rfl,pU,hw⟩:=nH hw
 obtain rfl:=nc hw
 obtain⟨N,hN⟩:=nnX Vm.ke ZR a pU aJ
 have e0:(fun i nV=>LR (LQ Tryz.prog ZQ ZP N Tryz.f41 Rd [true,true,false,true,false] []) N (nlz a i nV))=(noB nft Vm.ke ZR N a N):=Wq _ _ _ N
 refine⟨N,Eq.trans ?_ (hN.trans (by kernel_rfl))⟩
 unfold naf
 rw[←e0]
 kernel_rfl
def nhd:Sum:= {ps:=[⟨ny.ct,true⟩],rs:=[⟨[.own 9 [.str],.own 209 [.i,.i,.i,.bool],.d7 .i,.d7 .i,.d7 .i,.d7 .i,.d7 .i,.d7 .i,.d7 .i,.own 3 [.i],.deep 207 [.i,.i,.sl [.i]] [3],.d7 .i,.own 182 [.i,.i,.i,.i,.i,.i,.i,.i,.i,.i,.i,.i,.i,.i,.i,.i,.i,.i,.i,.i,.i,.i,.i,.i,.i,.str,.i,.i,.bool,.i],.deep 62 [.i,.i,.i,.sl [.i]] [3],.own 186 [.i,.i,.i,.i,.bool,.bool],.own 4 [.bool],.d7 .i,.d7 .bool,.own 3 [.i],.own 260 [.i,.i,.i,.i,.i,.i,.i,.i,.i],.own 262 [.i,.i,.i,.i,.i,.i,.i],.d7 .str,.own 3 [.i],.own 223 [.i,.i,.i,.i,.i,.i,.str,.bool],.d7 .bool,.own 9 [.str],.own 3 [.i],.own 3 [.i],.d7 .i,.d7 .i,.d7 .i,.d7 .i,.d7 .i],true⟩],fn:=fun ds=>(sJ (ny.nd ds 0),ny.enc (oE (ny.nd ds 0)))}
def nxn:Ctx:=[(32,ncf),(33,PN),(34,ZV),(35,PO),(36,VC),(37,Re),(38,VA),(39,nce),(40,Xt),(41,Rd),(42,y_),(43,vK),(44,Xj)]
theorem nxq:bF Tryz.prog nxn:=Ic nrs (Ic nlq (Ic nn3 (Ic nlt (Ic nuF (Ic nn6 (Ic nuC (Ic nro (Ic nlx (Ic nnY (Ic ZU (Ic Na (Ic nln JA))))))))))))
theorem nxp:D8 Tryz.prog 8 nhd:=by
 refine nO (A:=[]) nxq Tryz.func8 fun ds (hw:kc (ny.ct++([])) ds) aJ=> ?_
 obtain⟨a,ds,rfl,_,hw⟩:=ny.nA (r:=_) hw
 obtain rfl:=nc hw
 exact⟨0,eT (nxo Vm.ke (fun r0=>((true,ny.enc r0):kM)) a aJ)⟩
def ng6:Sum:= {ps:=[⟨oZ.ct,true⟩,⟨oZ.ct,true⟩],rs:=[⟨[.d7 .bool],false⟩],fn:=fun ds=>(same (oZ.nd ds 0) (oZ.nd ds 3),[.bool (pc (oZ.nd ds 0) (oZ.nd ds 3))])}
def nw1:Ctx:=[(60,vI)]
theorem nw4:bF Tryz.prog nw1:=Ic zX JA
theorem nw3:D8 Tryz.prog 232 ng6:=by
 refine nO (A:=[]) nw4 Tryz.func232 fun ds (hw:kc (oZ.ct++(oZ.ct++([]))) ds) aJ=> ?_
 obtain⟨a,ds,rfl,_,hw⟩:=oZ.nA (r:=_) hw
 obtain⟨b,ds,rfl,_,hw⟩:=oZ.nA (r:=_) hw
 obtain rfl:=nc hw
 exact⟨0,eT (nw2 Vm.ke (fun r0=>((true,[.bool r0]):kM)) a b aJ)⟩
def U1:Sum:= {ps:=[⟨[.sl [.i,.i,.sl [.i]]],false⟩,⟨[.sl [.i,.i,.sl [.i]]],false⟩],rs:=[⟨[.d7 .bool],false⟩],fn:=fun ds=>(same (rR ds 0) (rR ds 1),[.bool (pc (rR ds 0) (rR ds 1))])}
def ndP:Ctx:=[(232,ng6)]
theorem nt8:bF Tryz.prog ndP:=Ic nw3 JA
def ndO:List (Nat×lE):=[(4, {ca:=[(0,.mN),(1,.mN),(5,.mN)],boxes:=[]})]
def ndQ:Bool→kM:=(fun r0=>((true,[.bool r0]):kM))
def nqv (a b:Rows) (i:Int):St:= {n:=27,sl:=[(0,.sl [.i,.i,.sl [.i]] a),(1,.sl [.i,.i,.sl [.i]] b),(5,.int .i64 i)],hp:=[],ok:=true,ls:=[],lm:=[]}
theorem nt7:D8 Tryz.prog 160 U1:=by
 refine nO (A:=ndO) nt8 Tryz.func160 fun ds (hw:kc ((.sl [.i,.i,.sl [.i]])::((.sl [.i,.i,.sl [.i]])::([]))) ds) aJ=> ?_
 obtain⟨a,ds,rfl,pU,hw⟩:=nH hw
 obtain⟨b,ds,rfl,_,hw⟩:=nH hw
 obtain rfl:=nc hw
 obtain⟨N,hN⟩:=nt6 Vm.ke ndQ a b pU aJ
 have e0:(fun i=>LR (LQ Tryz.prog ndP ndO N Tryz.f160 U1 [true,true,false,true,false] []) N (nqv a b i))=(no8 (fun r=>oZ.nd r 0) Vm.ke ndQ N a b N):=nL1 _ _ _ N
 refine⟨N,Eq.trans ?_ (hN.trans (by kernel_rfl))⟩
 unfold nc6
 rw[←e0]
 kernel_rfl
def ng4:Sum:= {ps:=[⟨pf.ct,true⟩,⟨pf.ct,true⟩],rs:=[⟨[.d7 .bool],false⟩],fn:=fun ds=>(same (pf.nd ds 0) (pf.nd ds 9),[.bool (pc (pf.nd ds 0) (pf.nd ds 9))])}
theorem nw0:D8 Tryz.prog 235 ng4:=by
 refine nO (A:=[]) JA Tryz.func235 fun ds (hw:kc (pf.ct++(pf.ct++([]))) ds) aJ=> ?_
 obtain⟨a,ds,rfl,_,hw⟩:=pf.nA (r:=_) hw
 obtain⟨b,ds,rfl,_,hw⟩:=pf.nA (r:=_) hw
 obtain rfl:=nc hw
 exact⟨0,eT (nwZ (fun r0=>((true,[.bool r0]):kM)) a b aJ)⟩
def U0:Sum:= {ps:=[⟨[.sl [.i,.i,.i,.i,.i,.i,.i,.i,.i]],false⟩,⟨[.sl [.i,.i,.i,.i,.i,.i,.i,.i,.i]],false⟩],rs:=[⟨[.d7 .bool],false⟩],fn:=fun ds=>(same (rR ds 0) (rR ds 1),[.bool (pc (rR ds 0) (rR ds 1))])}
def ndM:Ctx:=[(235,ng4)]
theorem nt5:bF Tryz.prog ndM:=Ic nw0 JA
def ndL:List (Nat×lE):=[(4, {ca:=[(0,.mN),(1,.mN),(5,.mN)],boxes:=[]})]
def ndN:Bool→kM:=(fun r0=>((true,[.bool r0]):kM))
def nqu (a b:Rows) (i:Int):St:= {n:=27,sl:=[(0,.sl [.i,.i,.i,.i,.i,.i,.i,.i,.i] a),(1,.sl [.i,.i,.i,.i,.i,.i,.i,.i,.i] b),(5,.int .i64 i)],hp:=[],ok:=true,ls:=[],lm:=[]}
theorem nt4:D8 Tryz.prog 163 U0:=by
 refine nO (A:=ndL) nt5 Tryz.func163 fun ds (hw:kc ((.sl [.i,.i,.i,.i,.i,.i,.i,.i,.i])::((.sl [.i,.i,.i,.i,.i,.i,.i,.i,.i])::([]))) ds) aJ=> ?_
 obtain⟨a,ds,rfl,pU,hw⟩:=nH hw
 obtain⟨b,ds,rfl,_,hw⟩:=nH hw
 obtain rfl:=nc hw
 obtain⟨N,hN⟩:=nt3 Vm.ke ndN a b pU aJ
 have e0:(fun i=>LR (LQ Tryz.prog ndM ndL N Tryz.f163 U0 [true,true,false,true,false] []) N (nqu a b i))=(no8 (fun r=>pf.nd r 0) Vm.ke ndN N a b N):=nL1 _ _ _ N
 refine⟨N,Eq.trans ?_ (hN.trans (by kernel_rfl))⟩
 unfold nc6
 rw[←e0]
 kernel_rfl
def nbQ:Sum:= {ps:=[⟨nG.ct,true⟩,⟨nG.ct,true⟩],rs:=[⟨[.d7 .bool],false⟩],fn:=fun ds=>(same (nG.nd ds 0) (nG.nd ds 2),[.bool (pc (nG.nd ds 0) (nG.nd ds 2))])}
def nqx:Ctx:=[(60,vI)]
theorem nqA:bF Tryz.prog nqx:=Ic zX JA
theorem nqz:D8 Tryz.prog 165 nbQ:=by
 refine nO (A:=[]) nqA Tryz.func165 fun ds (hw:kc (nG.ct++(nG.ct++([]))) ds) aJ=> ?_
 obtain⟨a,ds,rfl,_,hw⟩:=nG.nA (r:=_) hw
 obtain⟨b,ds,rfl,_,hw⟩:=nG.nA (r:=_) hw
 obtain rfl:=nc hw
 exact⟨0,eT (nqy Vm.ke (fun r0=>((true,[.bool r0]):kM)) a b aJ)⟩
def W2:Sum:= {ps:=[⟨nk.ct,true⟩,⟨nk.ct,true⟩],rs:=[⟨[.d7 .bool],false⟩],fn:=fun ds=>(same (nk.nd ds 0) (nk.nd ds 4),[.bool (pc (nk.nd ds 0) (nk.nd ds 4))])}
def nku:Ctx:=[(163,U0),(164,UX),(165,nbQ)]
theorem nkx:bF Tryz.prog nku:=Ic nt4 (Ic nii (Ic nqz JA))
theorem nkw:D8 Tryz.prog 57 W2:=by
 refine nO (A:=[]) nkx Tryz.func57 fun ds (hw:kc (nk.ct++(nk.ct++([]))) ds) aJ=> ?_
 obtain⟨a,ds,rfl,_,hw⟩:=nk.nA (r:=_) hw
 obtain⟨b,ds,rfl,_,hw⟩:=nk.nA (r:=_) hw
 obtain rfl:=nc hw
 exact⟨0,eT (nkv Vm.ke (fun r0=>((true,[.bool r0]):kM)) a b aJ)⟩
def Yg:Sum:= {ps:=[⟨nB.ct,true⟩,⟨nB.ct,true⟩],rs:=[⟨[.d7 .bool],false⟩],fn:=fun ds=>(same (nB.nd ds 0) (nB.nd ds 4),[.bool (pc (nB.nd ds 0) (nB.nd ds 4))])}
theorem ng2:D8 Tryz.prog 158 Yg:=by
 refine nO (A:=[]) JA Tryz.func158 fun ds (hw:kc (nB.ct++(nB.ct++([]))) ds) aJ=> ?_
 obtain⟨a,ds,rfl,_,hw⟩:=nB.nA (r:=_) hw
 obtain⟨b,ds,rfl,_,hw⟩:=nB.nA (r:=_) hw
 obtain rfl:=nc hw
 exact⟨0,eT (nwY (fun r0=>((true,[.bool r0]):kM)) a b aJ)⟩
def zV:Sum:= {ps:=[⟨nn.ct,true⟩,⟨nn.ct,true⟩],rs:=[⟨[.d7 .bool],false⟩],fn:=fun ds=>(same (nn.nd ds 0) (nn.nd ds 3),[.bool (pc (nn.nd ds 0) (nn.nd ds 3))])}
theorem Yc:D8 Tryz.prog 233 zV:=by
 refine nO (A:=[]) JA Tryz.func233 fun ds (hw:kc (nn.ct++(nn.ct++([]))) ds) aJ=> ?_
 obtain⟨a,ds,rfl,_,hw⟩:=nn.nA (r:=_) hw
 obtain⟨b,ds,rfl,_,hw⟩:=nn.nA (r:=_) hw
 obtain rfl:=nc hw
 exact⟨0,eT (Yb (fun r0=>((true,[.bool r0]):kM)) a b aJ)⟩
def ndU:Sum:= {ps:=[⟨pe.ct,true⟩,⟨pe.ct,true⟩],rs:=[⟨[.d7 .bool],false⟩],fn:=fun ds=>(same (pe.nd ds 0) (pe.nd ds 18),[.bool (pc (pe.nd ds 0) (pe.nd ds 18))])}
def nub:Ctx:=[(282,nbO)]
theorem nue:bF Tryz.prog nub:=Ic nqr JA
theorem nud:D8 Tryz.prog 234 ndU:=by
 refine nO (A:=[]) nue Tryz.func234 fun ds (hw:kc (pe.ct++(pe.ct++([]))) ds) aJ=> ?_
 obtain⟨a,ds,rfl,_,hw⟩:=pe.nA (r:=_) hw
 obtain⟨b,ds,rfl,_,hw⟩:=pe.nA (r:=_) hw
 obtain rfl:=nc hw
 exact⟨0,eT (nuc Vm.ke (fun r0=>((true,[.bool r0]):kM)) a b aJ)⟩
def YP:Sum:= {ps:=[⟨nK.ct,true⟩,⟨nK.ct,true⟩],rs:=[⟨[.d7 .bool],false⟩],fn:=fun ds=>(same (nK.nd ds 0) (nK.nd ds 30),[.bool (pc (nK.nd ds 0) (nK.nd ds 30))])}
def nmM:Ctx:=[(158,Yg),(233,zV),(234,ndU)]
theorem nmP:bF Tryz.prog nmM:=Ic ng2 (Ic Yc (Ic nud JA))
theorem nmO:D8 Tryz.prog 161 YP:=by
 refine nO (A:=[]) nmP Tryz.func161 fun ds (hw:kc (nK.ct++(nK.ct++([]))) ds) aJ=> ?_
 obtain⟨a,ds,rfl,_,hw⟩:=nK.nA (r:=_) hw
 obtain⟨b,ds,rfl,_,hw⟩:=nK.nA (r:=_) hw
 obtain rfl:=nc hw
 exact⟨0,eT (nmN Vm.ke (fun r0=>((true,[.bool r0]):kM)) a b aJ)⟩
def PH:Sum:= {ps:=[⟨[.sl [.i,.i,.i,.i,.i,.i,.i,.i,.i,.i,.i,.i,.i,.i,.i,.i,.i,.i,.i,.i,.i,.i,.i,.i,.i,.str,.i,.i,.bool,.i]],false⟩,⟨[.sl [.i,.i,.i,.i,.i,.i,.i,.i,.i,.i,.i,.i,.i,.i,.i,.i,.i,.i,.i,.i,.i,.i,.i,.i,.i,.str,.i,.i,.bool,.i]],false⟩],rs:=[⟨[.d7 .bool],false⟩],fn:=fun ds=>(same (rR ds 0) (rR ds 1),[.bool (pc (rR ds 0) (rR ds 1))])}
def W0:Ctx:=[(161,YP)]
theorem nkt:bF Tryz.prog W0:=Ic nmO JA
def WZ:List (Nat×lE):=[(4, {ca:=[(0,.mN),(1,.mN),(5,.mN)],boxes:=[]})]
def W1:Bool→kM:=(fun r0=>((true,[.bool r0]):kM))
def nim (a b:Rows) (i:Int):St:= {n:=27,sl:=[(0,.sl [.i,.i,.i,.i,.i,.i,.i,.i,.i,.i,.i,.i,.i,.i,.i,.i,.i,.i,.i,.i,.i,.i,.i,.i,.i,.str,.i,.i,.bool,.i] a),(1,.sl [.i,.i,.i,.i,.i,.i,.i,.i,.i,.i,.i,.i,.i,.i,.i,.i,.i,.i,.i,.i,.i,.i,.i,.i,.i,.str,.i,.i,.bool,.i] b),(5,.int .i64 i)],hp:=[],ok:=true,ls:=[],lm:=[]}
theorem nks:D8 Tryz.prog 52 PH:=by
 refine nO (A:=WZ) nkt Tryz.func52 fun ds (hw:kc ((.sl [.i,.i,.i,.i,.i,.i,.i,.i,.i,.i,.i,.i,.i,.i,.i,.i,.i,.i,.i,.i,.i,.i,.i,.i,.i,.str,.i,.i,.bool,.i])::((.sl [.i,.i,.i,.i,.i,.i,.i,.i,.i,.i,.i,.i,.i,.i,.i,.i,.i,.i,.i,.i,.i,.i,.i,.i,.i,.str,.i,.i,.bool,.i])::([]))) ds) aJ=> ?_
 obtain⟨a,ds,rfl,pU,hw⟩:=nH hw
 obtain⟨b,ds,rfl,_,hw⟩:=nH hw
 obtain rfl:=nc hw
 obtain⟨N,hN⟩:=nkr Vm.ke W1 a b pU aJ
 have e0:(fun i=>LR (LQ Tryz.prog W0 WZ N Tryz.f52 PH [true,true,false,true,false] []) N (nim a b i))=(no8 (fun r=>nK.nd r 0) Vm.ke W1 N a b N):=nL1 _ _ _ N
 refine⟨N,Eq.trans ?_ (hN.trans (by kernel_rfl))⟩
 unfold nc6
 rw[←e0]
 kernel_rfl
def Y0:Sum:= {ps:=[⟨nh.ct,true⟩,⟨nh.ct,true⟩],rs:=[⟨[.d7 .bool],false⟩],fn:=fun ds=>(same (nh.nd ds 0) (nh.nd ds 10),[.bool (pc (nh.nd ds 0) (nh.nd ds 10))])}
def nmW:Ctx:=[(158,Yg),(159,Yf),(160,U1)]
theorem nmZ:bF Tryz.prog nmW:=Ic ng2 (Ic ng0 (Ic nt7 JA))
theorem nmY:D8 Tryz.prog 51 Y0:=by
 refine nO (A:=[]) nmZ Tryz.func51 fun ds (hw:kc (nh.ct++(nh.ct++([]))) ds) aJ=> ?_
 obtain⟨a,ds,rfl,_,hw⟩:=nh.nA (r:=_) hw
 obtain⟨b,ds,rfl,_,hw⟩:=nh.nA (r:=_) hw
 obtain rfl:=nc hw
 exact⟨0,eT (nmX Vm.ke (fun r0=>((true,[.bool r0]):kM)) a b aJ)⟩
def nbM:Sum:= {ps:=[⟨na.ct,true⟩,⟨na.ct,true⟩],rs:=[⟨[.d7 .bool],false⟩],fn:=fun ds=>(same (na.nd ds 0) (na.nd ds 1),[.bool (pc (na.nd ds 0) (na.nd ds 1))])}
def nql:Ctx:=[(59,y3)]
theorem nqo:bF Tryz.prog nql:=Ic YZ JA
theorem nqn:D8 Tryz.prog 49 nbM:=by
 refine nO (A:=[]) nqo Tryz.func49 fun ds (hw:kc (na.ct++(na.ct++([]))) ds) aJ=> ?_
 obtain⟨a,ds,rfl,_,hw⟩:=na.nA (r:=_) hw
 obtain⟨b,ds,rfl,_,hw⟩:=na.nA (r:=_) hw
 obtain rfl:=nc hw
 exact⟨0,eT (nqm Vm.ke (fun r0=>((true,[.bool r0]):kM)) a b aJ)⟩
def QF:Sum:= {ps:=[⟨[.sl [.i,.i,.i,.i,.i,.i,.str,.bool]],false⟩,⟨[.sl [.i,.i,.i,.i,.i,.i,.str,.bool]],false⟩],rs:=[⟨[.d7 .bool],false⟩],fn:=fun ds=>(same (rR ds 0) (rR ds 1),[.bool (pc (rR ds 0) (rR ds 1))])}
def YU:Ctx:=[(166,nbS)]
theorem nmU:bF Tryz.prog YU:=Ic nqD JA
def YT:List (Nat×lE):=[(4, {ca:=[(0,.mN),(1,.mN),(5,.mN)],boxes:=[]})]
def YV:Bool→kM:=(fun r0=>((true,[.bool r0]):kM))
def nky (a b:Rows) (i:Int):St:= {n:=27,sl:=[(0,.sl [.i,.i,.i,.i,.i,.i,.str,.bool] a),(1,.sl [.i,.i,.i,.i,.i,.i,.str,.bool] b),(5,.int .i64 i)],hp:=[],ok:=true,ls:=[],lm:=[]}
theorem nmT:D8 Tryz.prog 58 QF:=by
 refine nO (A:=YT) nmU Tryz.func58 fun ds (hw:kc ((.sl [.i,.i,.i,.i,.i,.i,.str,.bool])::((.sl [.i,.i,.i,.i,.i,.i,.str,.bool])::([]))) ds) aJ=> ?_
 obtain⟨a,ds,rfl,pU,hw⟩:=nH hw
 obtain⟨b,ds,rfl,_,hw⟩:=nH hw
 obtain rfl:=nc hw
 obtain⟨N,hN⟩:=nmS Vm.ke YV a b pU aJ
 have e0:(fun i=>LR (LQ Tryz.prog YU YT N Tryz.f58 QF [true,true,false,true,false] []) N (nky a b i))=(no8 (fun r=>om.nd r 0) Vm.ke YV N a b N):=nL1 _ _ _ N
 refine⟨N,Eq.trans ?_ (hN.trans (by kernel_rfl))⟩
 unfold nc6
 rw[←e0]
 kernel_rfl
def QH:Sum:= {ps:=[⟨[.sl [.i,.i,.i,.i,.bool,.bool]],false⟩,⟨[.sl [.i,.i,.i,.i,.bool,.bool]],false⟩],rs:=[⟨[.d7 .bool],false⟩],fn:=fun ds=>(same (rR ds 0) (rR ds 1),[.bool (pc (rR ds 0) (rR ds 1))])}
def Y3:Ctx:=[(162,nbU)]
theorem nm2:bF Tryz.prog Y3:=Ic nqG JA
def Y2:List (Nat×lE):=[(4, {ca:=[(0,.mN),(1,.mN),(5,.mN)],boxes:=[]})]
def Y4:Bool→kM:=(fun r0=>((true,[.bool r0]):kM))
def nkA (a b:Rows) (i:Int):St:= {n:=27,sl:=[(0,.sl [.i,.i,.i,.i,.bool,.bool] a),(1,.sl [.i,.i,.i,.i,.bool,.bool] b),(5,.int .i64 i)],hp:=[],ok:=true,ls:=[],lm:=[]}
theorem nm1:D8 Tryz.prog 54 QH:=by
 refine nO (A:=Y2) nm2 Tryz.func54 fun ds (hw:kc ((.sl [.i,.i,.i,.i,.bool,.bool])::((.sl [.i,.i,.i,.i,.bool,.bool])::([]))) ds) aJ=> ?_
 obtain⟨a,ds,rfl,pU,hw⟩:=nH hw
 obtain⟨b,ds,rfl,_,hw⟩:=nH hw
 obtain rfl:=nc hw
 obtain⟨N,hN⟩:=nm0 Vm.ke Y4 a b pU aJ
 have e0:(fun i=>LR (LQ Tryz.prog Y3 Y2 N Tryz.f54 QH [true,true,false,true,false] []) N (nkA a b i))=(no8 (fun r=>nY.nd r 0) Vm.ke Y4 N a b N):=nL1 _ _ _ N
 refine⟨N,Eq.trans ?_ (hN.trans (by kernel_rfl))⟩
 unfold nc6
 rw[←e0]
 kernel_rfl
def WU:Sum:= {ps:=[⟨ox.ct,true⟩,⟨ox.ct,true⟩],rs:=[⟨[.d7 .bool],false⟩],fn:=fun ds=>(same (ox.nd ds 0) (ox.nd ds 5),[.bool (pc (ox.nd ds 0) (ox.nd ds 5))])}
theorem nkn:D8 Tryz.prog 61 WU:=by
 refine nO (A:=[]) JA Tryz.func61 fun ds (hw:kc (ox.ct++(ox.ct++([]))) ds) aJ=> ?_
 obtain⟨a,ds,rfl,_,hw⟩:=ox.nA (r:=_) hw
 obtain⟨b,ds,rfl,_,hw⟩:=ox.nA (r:=_) hw
 obtain rfl:=nc hw
 exact⟨0,eT (nkm (fun r0=>((true,[.bool r0]):kM)) a b aJ)⟩
def nbK:Sum:= {ps:=[⟨nC.ct,true⟩,⟨nC.ct,true⟩],rs:=[⟨[.d7 .bool],false⟩],fn:=fun ds=>(same (nC.nd ds 0) (nC.nd ds 3),[.bool (pc (nC.nd ds 0) (nC.nd ds 3))])}
def nqh:Ctx:=[(60,vI)]
theorem nqk:bF Tryz.prog nqh:=Ic zX JA
theorem nqj:D8 Tryz.prog 56 nbK:=by
 refine nO (A:=[]) nqk Tryz.func56 fun ds (hw:kc (nC.ct++(nC.ct++([]))) ds) aJ=> ?_
 obtain⟨a,ds,rfl,_,hw⟩:=nC.nA (r:=_) hw
 obtain⟨b,ds,rfl,_,hw⟩:=nC.nA (r:=_) hw
 obtain rfl:=nc hw
 exact⟨0,eT (nqi Vm.ke (fun r0=>((true,[.bool r0]):kM)) a b aJ)⟩
def ngV:Sum:= {ps:=[⟨ny.ct,true⟩,⟨ny.ct,true⟩],rs:=[⟨[.d7 .bool],false⟩],fn:=fun ds=>(same (ny.nd ds 0) (ny.nd ds 33),[.bool (pc (ny.nd ds 0) (ny.nd ds 33))])}
def nwQ:Ctx:=[(49,nbM),(50,PG),(51,Y0),(52,PH),(53,UZ),(54,QH),(55,UU),(56,nbK),(57,W2),(58,QF),(59,y3),(60,vI),(61,WU)]
theorem nwT:bF Tryz.prog nwQ:=Ic nqn (Ic nkp (Ic nmY (Ic nks (Ic nt1 (Ic nm1 (Ic ntY (Ic nqj (Ic nkw (Ic nmT (Ic YZ (Ic zX (Ic nkn JA))))))))))))
theorem nwS:D8 Tryz.prog 11 ngV:=by
 refine nO (A:=[]) nwT Tryz.func11 fun ds (hw:kc (ny.ct++(ny.ct++([]))) ds) aJ=> ?_
 obtain⟨a,ds,rfl,_,hw⟩:=ny.nA (r:=_) hw
 obtain⟨b,ds,rfl,_,hw⟩:=ny.nA (r:=_) hw
 obtain rfl:=nc hw
 exact⟨0,eT (nwR Vm.ke (fun r0=>((true,[.bool r0]):kM)) a b aJ)⟩
def sU:Sum:= {ps:=[⟨[.sl [.i]],false⟩,⟨[.i],false⟩],rs:=[⟨[.d7 .i],false⟩],fn:=fun ds=>(OM 1 (rR ds 0) (rI ds 1),[.int (rv (rR ds 0) (rI ds 1)).1]++[.sl (rv (rR ds 0) (rI ds 1)).2]),ms:=[some (.rows [.flat 3]),none]}
def nb2:List (Nat×lE):=[(2, {ca:=[(0,.mN),(1,.mN),(5,.mN)],boxes:=[]})]
def nb3:Int→Rows→kM:=(fun r0 r1=>((true,[.int r0]++[.sl r1]):kM))
def nnh (qE i:Int) (zy:Rows):St:= {n:=1099511627795,sl:=[(0,.own 640000),(1,.int .i64 qE),(5,.int .i64 i)],hp:=[(640000,.row 3 [.i] zy false true)],ok:=true,ls:=[],lm:=[]}
theorem va:Cm Tryz.prog 73 sU:=by
 refine OH (A:=nb2) JA Tryz.func73 fun ds (hw:kc ((.sl [.i])::(.i::([]))) ds) aJ=> ?_
 obtain⟨a,ds,rfl,pU,hw⟩:=nH hw
 obtain⟨k,ds,rfl,_,hw⟩:=nj hw
 obtain rfl:=nc hw
 obtain⟨N,hN⟩:=nqU Vm.ke nb3 a k pU aJ
 exact⟨N,eL (fun l_=>SG Vm.ke nb3 l_ a k) (nL3 (Lj Tryz.prog [] nb2 N Tryz.f73 sU [true,false,true,false] []) (nnh) _ N) hN⟩
def sT:Sum:= {ps:=[⟨[.sl [.i]],false⟩,⟨[.i],false⟩],rs:=[⟨[.d7 .i],false⟩],fn:=fun ds=>(Qm rk 1 (rR ds 0) (rI ds 1),[.int (qX (rR ds 0) (rI ds 1))])}
def nbX:List (Nat×lE):=[(2, {ca:=[(0,.mN),(1,.mN),(5,.mN)],boxes:=[]})]
def nbY:Int→kM:=(fun r0=>((true,[.int r0]):kM))
def nm5 (a:Rows) (qE i:Int):St:= {n:=21,sl:=[(0,.sl [.i] a),(1,.int .i64 qE),(5,.int .i64 i)],hp:=[],ok:=true,ls:=[],lm:=[]}
theorem u_:D8 Tryz.prog 85 sT:=by
 refine nO (A:=nbX) JA Tryz.func85 fun ds (hw:kc ((.sl [.i])::(.i::([]))) ds) aJ=> ?_
 obtain⟨a,ds,rfl,pU,hw⟩:=nH hw
 obtain⟨k,ds,rfl,_,hw⟩:=nj hw
 obtain rfl:=nc hw
 obtain⟨N,hN⟩:=nqL Vm.ke nbY a k pU aJ
 exact⟨N,eL (fun l_=>SF Vm.ke nbY l_ a k) (Wq (LQ Tryz.prog [] nbX N Tryz.f85 sT [true,false,true,false] []) (nm5 a) _ N) hN⟩
def QQ:Sum:= {ps:=[⟨[.sl [.bool]],false⟩,⟨[.i],false⟩],rs:=[⟨[.d7 .i],false⟩],fn:=fun ds=>(OM 1 (rR ds 0) (rI ds 1),[.int (Rf (rR ds 0) (rI ds 1)).1]++[.sl (Rf (rR ds 0) (rI ds 1)).2]),ms:=[some (.rows [.flat 4]),none]}
def Zj:List (Nat×lE):=[(2, {ca:=[(0,.mN),(1,.mN),(5,.mN)],boxes:=[]})]
def Zk:Int→Rows→kM:=(fun r0 r1=>((true,[.int r0]++[.sl r1]):kM))
def nkS (qE i:Int) (zy:Rows):St:= {n:=1099511627797,sl:=[(0,.own 640000),(1,.int .i64 qE),(5,.int .i64 i)],hp:=[(640000,.row 4 [.bool] zy false true)],ok:=true,ls:=[],lm:=[]}
theorem nng:Cm Tryz.prog 68 QQ:=by
 refine OH (A:=Zj) JA Tryz.func68 fun ds (hw:kc ((.sl [.bool])::(.i::([]))) ds) aJ=> ?_
 obtain⟨a,ds,rfl,pU,hw⟩:=nH hw
 obtain⟨k,ds,rfl,_,hw⟩:=nj hw
 obtain rfl:=nc hw
 obtain⟨N,hN⟩:=nnf Vm.ke Zk a k pU aJ
 exact⟨N,eL (fun l_=>QR Vm.ke Zk l_ a k) (nL3 (Lj Tryz.prog [] Zj N Tryz.f68 QQ [true,false,true,false] []) (nkS) _ N) hN⟩
def QI:Sum:= {ps:=[⟨[.sl [.bool]],false⟩,⟨[.i],false⟩],rs:=[⟨[.d7 .i],false⟩],fn:=fun ds=>(Qm O4 1 (rR ds 0) (rI ds 1),[.int (TY (rR ds 0) (rI ds 1))])}
def Y5:List (Nat×lE):=[(2, {ca:=[(0,.mN),(1,.mN),(5,.mN)],boxes:=[]})]
def Y6:Int→kM:=(fun r0=>((true,[.int r0]):kM))
def nkB (a:Rows) (qE i:Int):St:= {n:=23,sl:=[(0,.sl [.bool] a),(1,.int .i64 qE),(5,.int .i64 i)],hp:=[],ok:=true,ls:=[],lm:=[]}
theorem nm4:D8 Tryz.prog 80 QI:=by
 refine nO (A:=Y5) JA Tryz.func80 fun ds (hw:kc ((.sl [.bool])::(.i::([]))) ds) aJ=> ?_
 obtain⟨a,ds,rfl,pU,hw⟩:=nH hw
 obtain⟨k,ds,rfl,_,hw⟩:=nj hw
 obtain rfl:=nc hw
 obtain⟨N,hN⟩:=nm3 Vm.ke Y6 a k pU aJ
 exact⟨N,eL (fun l_=>QJ Vm.ke Y6 l_ a k) (Wq (LQ Tryz.prog [] Y5 N Tryz.f80 QI [true,false,true,false] []) (nkB a) _ N) hN⟩
def sV:Sum:= {ps:=[⟨[.i],false⟩],rs:=[⟨[.d7 .str],false⟩],fn:=fun ds=>(true,[.str (R5 (rI ds 0))])}
def nb6:List (Nat×lE):=[(4, {ca:=[(0,.mN),(3,.mN)],boxes:=[]})]
def nb7:Bytes→kM:=(fun r0=>((true,[.str r0]):kM))
def nns (qE:Int) (nV:Bytes):St:= {n:=20,sl:=[(0,.int .i64 qE),(3,.str nV)],hp:=[],ok:=true,ls:=[],lm:=[]}
theorem vb:D8 Tryz.prog 169 sV:=by
 refine nO (A:=nb6) JA Tryz.func169 fun ds (hw:kc (.i::([])) ds) _=> ?_
 obtain⟨k,ds,rfl,h_k,hw⟩:=nj hw
 obtain rfl:=nc hw
 obtain⟨N,hN⟩:=nqZ Vm.ke nb7 k h_k
 exact⟨N,eL (fun l_=>SH Vm.ke nb7 l_ k) (Wq (LQ Tryz.prog [] nb6 N Tryz.f169 sV [true,true,true,false,false] []) (nns) _ N) hN⟩
def wV:Sum:= {ps:=[⟨[.sl [.str]],false⟩,⟨[.i],false⟩],rs:=[⟨[.d7 .i],false⟩],fn:=fun ds=>(OM 1 (rR ds 0) (rI ds 1),[.int (ue (rR ds 0) (rI ds 1)).1]++[.sl (ue (rR ds 0) (rI ds 1)).2]),ms:=[some (.rows [.flat 9]),none]}
def Vj:Ctx:=[(169,sV)]
theorem niC:bF Tryz.prog Vj:=Ic vb JA
def Vi:List (Nat×lE):=[(2, {ca:=[(0,.mN),(1,.mN),(5,.mN)],boxes:=[]})]
def Vk:Int→Rows→kM:=(fun r0 r1=>((true,[.int r0]++[.sl r1]):kM))
def ngo (qE i:Int) (zy:Rows):St:= {n:=1099511627796,sl:=[(0,.own 640000),(1,.int .i64 qE),(5,.int .i64 i)],hp:=[(640000,.row 9 [.str] zy false true)],ok:=true,ls:=[],lm:=[]}
theorem Vn:Cm Tryz.prog 72 wV:=by
 refine OH (A:=Vi) niC Tryz.func72 fun ds (hw:kc ((.sl [.str])::(.i::([]))) ds) aJ=> ?_
 obtain⟨a,ds,rfl,pU,hw⟩:=nH hw
 obtain⟨k,ds,rfl,_,hw⟩:=nj hw
 obtain rfl:=nc hw
 obtain⟨N,hN⟩:=niB Vm.ke Vk a k pU aJ
 exact⟨N,eL (fun l_=>Ou Vm.ke Vk l_ a k) (nL3 (Lj Tryz.prog Vj Vi N Tryz.f72 wV [true,false,true,false] []) (ngo) _ N) hN⟩
def wU:Sum:= {ps:=[⟨[.sl [.str]],false⟩,⟨[.i],false⟩],rs:=[⟨[.d7 .i],false⟩],fn:=fun ds=>(Qm rU 1 (rR ds 0) (rI ds 1),[.int (ub (rR ds 0) (rI ds 1))])}
def U8:Ctx:=[(169,sV)]
theorem nir:bF Tryz.prog U8:=Ic vb JA
def U7:List (Nat×lE):=[(2, {ca:=[(0,.mN),(1,.mN),(5,.mN)],boxes:=[]})]
def U9:Int→kM:=(fun r0=>((true,[.int r0]):kM))
def ngc (a:Rows) (qE i:Int):St:= {n:=22,sl:=[(0,.sl [.str] a),(1,.int .i64 qE),(5,.int .i64 i)],hp:=[],ok:=true,ls:=[],lm:=[]}
theorem Va:D8 Tryz.prog 84 wU:=by
 refine nO (A:=U7) nir Tryz.func84 fun ds (hw:kc ((.sl [.str])::(.i::([]))) ds) aJ=> ?_
 obtain⟨a,ds,rfl,pU,hw⟩:=nH hw
 obtain⟨k,ds,rfl,_,hw⟩:=nj hw
 obtain rfl:=nc hw
 obtain⟨N,hN⟩:=niq Vm.ke U9 a k pU aJ
 exact⟨N,eL (fun l_=>Oo Vm.ke U9 l_ a k) (Wq (LQ Tryz.prog U8 U7 N Tryz.f84 wU [true,false,true,false] []) (ngc a) _ N) hN⟩
def QV:Sum:= {ps:=[⟨[.sl [.i,.i,.sl [.i]]],false⟩,⟨[.i],false⟩],rs:=[⟨[.d7 .i],false⟩],fn:=fun ds=>(yd rH Si (rR ds 0) (rI ds 1),[.int (zg (rR ds 0) (rI ds 1)).1]++[.sl (zg (rR ds 0) (rI ds 1)).2]),ms:=[some (.rows [.deep 207 [3]]),none]}
def Zt:Ctx:=[(1125899906842654,J3),(73,sU)]
theorem nnp:bF Tryz.prog Zt:=Ic Lq (Ic va JA)
def Zs:List (Nat×lE):=[(2, {ca:=[(0,.mN),(1,.mN),(5,.mN)],boxes:=[]})]
def Zu:Int→Rows→kM:=(fun r0 r1=>((true,[.int r0]++[.sl r1]):kM))
def nk3 (qE i:Int) (zy:Rows):St:= {n:=1099511627810,sl:=[(0,.own 640000),(1,.int .i64 qE),(5,.int .i64 i)],hp:=[(640000,.deep 207 [.i,.i,.sl [.i]] [3] zy none)],ok:=true,ls:=[],lm:=[]}
theorem nno:Cm Tryz.prog 168 QV:=by
 refine OH (A:=Zs) nnp Tryz.func168 fun ds (hw:kc ((.sl [.i,.i,.sl [.i]])::(.i::([]))) ds) aJ=> ?_
 obtain⟨a,ds,rfl,pU,hw⟩:=nH hw
 obtain⟨k,ds,rfl,_,hw⟩:=nj hw
 obtain rfl:=nc hw
 obtain⟨N,hN⟩:=nnn Vm.ke Zu a k pU aJ
 exact⟨N,eL (fun l_=>QW Vm.ke Zu l_ a k) (nL3 (Lj Tryz.prog Zt Zs N Tryz.f168 QV [true,false,true,false] []) (nk3) _ N) hN⟩
def QN:Sum:= {ps:=[⟨[.sl [.i,.i,.sl [.i]]],false⟩,⟨[.i],false⟩],rs:=[⟨[.d7 .i],false⟩],fn:=fun ds=>(nfG (rR ds 0) (rI ds 1),[.int (Yx (rR ds 0) (rI ds 1))])}
def Ze:Ctx:=[(85,sT)]
theorem nnc:bF Tryz.prog Ze:=Ic u_ JA
def Zd:List (Nat×lE):=[(2, {ca:=[(0,.mN),(1,.mN),(5,.mN)],boxes:=[]})]
def Zf:Int→kM:=(fun r0=>((true,[.int r0]):kM))
def nkM (a:Rows) (qE i:Int):St:= {n:=40,sl:=[(0,.sl [.i,.i,.sl [.i]] a),(1,.int .i64 qE),(5,.int .i64 i)],hp:=[],ok:=true,ls:=[],lm:=[]}
theorem nnb:D8 Tryz.prog 174 QN:=by
 refine nO (A:=Zd) nnc Tryz.func174 fun ds (hw:kc ((.sl [.i,.i,.sl [.i]])::(.i::([]))) ds) aJ=> ?_
 obtain⟨a,ds,rfl,pU,hw⟩:=nH hw
 obtain⟨k,ds,rfl,_,hw⟩:=nj hw
 obtain rfl:=nc hw
 obtain⟨N,hN⟩:=nna Vm.ke Zf a k pU aJ
 exact⟨N,eL (fun l_=>QO Vm.ke Zf l_ a k) (Wq (LQ Tryz.prog Ze Zd N Tryz.f174 QN [true,false,true,false] []) (nkM a) _ N) hN⟩
def Ov:Sum:= {ps:=[⟨[.sl [.i,.i,.i,.i,.bool,.bool]],false⟩,⟨[.i],false⟩],rs:=[⟨[.d7 .i],false⟩],fn:=fun ds=>(OM 6 (rR ds 0) (rI ds 1),[.int (OL (rR ds 0) (rI ds 1)).1]++[.sl (OL (rR ds 0) (rI ds 1)).2]),ms:=[some (.rows [.flat 186]),none]}
def Vq:List (Nat×lE):=[(2, {ca:=[(0,.mN),(1,.mN),(5,.mN)],boxes:=[]})]
def Vr:Int→Rows→kM:=(fun r0 r1=>((true,[.int r0]++[.sl r1]):kM))
def ngp (qE i:Int) (zy:Rows):St:= {n:=1099511627835,sl:=[(0,.own 640000),(1,.int .i64 qE),(5,.int .i64 i)],hp:=[(640000,.row 186 [.i,.i,.i,.i,.bool,.bool] zy false true)],ok:=true,ls:=[],lm:=[]}
theorem niI:Cm Tryz.prog 67 Ov:=by
 refine OH (A:=Vq) JA Tryz.func67 fun ds (hw:kc ((.sl [.i,.i,.i,.i,.bool,.bool])::(.i::([]))) ds) aJ=> ?_
 obtain⟨a,ds,rfl,pU,hw⟩:=nH hw
 obtain⟨k,ds,rfl,_,hw⟩:=nj hw
 obtain rfl:=nc hw
 obtain⟨N,hN⟩:=niH Vm.ke Vr a k pU aJ
 have e0:(fun qE i zy=>LR (Lj Tryz.prog [] Vq N Tryz.f67 Ov [true,false,true,false] []) N (ngp qE i zy))=(nxJ VL Vm.ke Vr N N):=nL3 _ _ _ N
 refine⟨N,Eq.trans ?_ (hN.trans (by kernel_rfl))⟩
 unfold nn8
 rw[←e0]
 kernel_rfl
def Oq:Sum:= {ps:=[⟨[.sl [.i,.i,.i,.i,.bool,.bool]],false⟩,⟨[.i],false⟩],rs:=[⟨[.d7 .i],false⟩],fn:=fun ds=>(Qm O6 6 (rR ds 0) (rI ds 1),[.int (RU (rR ds 0) (rI ds 1))])}
def Vc:List (Nat×lE):=[(2, {ca:=[(0,.mN),(1,.mN),(5,.mN)],boxes:=[]})]
def Vd:Int→kM:=(fun r0=>((true,[.int r0]):kM))
def ngd (a:Rows) (qE i:Int):St:= {n:=71,sl:=[(0,.sl [.i,.i,.i,.i,.bool,.bool] a),(1,.int .i64 qE),(5,.int .i64 i)],hp:=[],ok:=true,ls:=[],lm:=[]}
theorem nix:D8 Tryz.prog 79 Oq:=by
 refine nO (A:=Vc) JA Tryz.func79 fun ds (hw:kc ((.sl [.i,.i,.i,.i,.bool,.bool])::(.i::([]))) ds) aJ=> ?_
 obtain⟨a,ds,rfl,pU,hw⟩:=nH hw
 obtain⟨k,ds,rfl,_,hw⟩:=nj hw
 obtain rfl:=nc hw
 obtain⟨N,hN⟩:=niw Vm.ke Vd a k pU aJ
 have e0:(fun qE i=>LR (LQ Tryz.prog [] Vc N Tryz.f79 Oq [true,false,true,false] []) N (ngd a qE i))=(nwd VL Vm.ke Vd N a N):=Wq _ _ _ N
 refine⟨N,Eq.trans ?_ (hN.trans (by kernel_rfl))⟩
 unfold nmj
 rw[←e0]
 kernel_rfl
def QU:Sum:= {ps:=[⟨[.sl [.i,.i,.i,.i,.i,.i,.i,.i,.i]],false⟩,⟨[.i],false⟩],rs:=[⟨[.d7 .i],false⟩],fn:=fun ds=>(OM 9 (rR ds 0) (rI ds 1),[.int (OJ (rR ds 0) (rI ds 1)).1]++[.sl (OJ (rR ds 0) (rI ds 1)).2]),ms:=[some (.rows [.flat 260]),none]}
def Zq:List (Nat×lE):=[(2, {ca:=[(0,.mN),(1,.mN),(5,.mN)],boxes:=[]})]
def Zr:Int→Rows→kM:=(fun r0 r1=>((true,[.int r0]++[.sl r1]):kM))
def nk2 (qE i:Int) (zy:Rows):St:= {n:=1099511627852,sl:=[(0,.own 640000),(1,.int .i64 qE),(5,.int .i64 i)],hp:=[(640000,.row 260 [.i,.i,.i,.i,.i,.i,.i,.i,.i] zy false true)],ok:=true,ls:=[],lm:=[]}
theorem nnm:Cm Tryz.prog 170 QU:=by
 refine OH (A:=Zq) JA Tryz.func170 fun ds (hw:kc ((.sl [.i,.i,.i,.i,.i,.i,.i,.i,.i])::(.i::([]))) ds) aJ=> ?_
 obtain⟨a,ds,rfl,pU,hw⟩:=nH hw
 obtain⟨k,ds,rfl,_,hw⟩:=nj hw
 obtain rfl:=nc hw
 obtain⟨N,hN⟩:=nnl Vm.ke Zr a k pU aJ
 have e0:(fun qE i zy=>LR (Lj Tryz.prog [] Zq N Tryz.f170 QU [true,false,true,false] []) N (nk2 qE i zy))=(nxJ ni0 Vm.ke Zr N N):=nL3 _ _ _ N
 refine⟨N,Eq.trans ?_ (hN.trans (by kernel_rfl))⟩
 unfold nn8
 rw[←e0]
 kernel_rfl
def QM:Sum:= {ps:=[⟨[.sl [.i,.i,.i,.i,.i,.i,.i,.i,.i]],false⟩,⟨[.i],false⟩],rs:=[⟨[.d7 .i],false⟩],fn:=fun ds=>(Qm nap 9 (rR ds 0) (rI ds 1),[.int (QA (rR ds 0) (rI ds 1))])}
def Zb:List (Nat×lE):=[(2, {ca:=[(0,.mN),(1,.mN),(5,.mN)],boxes:=[]})]
def Zc:Int→kM:=(fun r0=>((true,[.int r0]):kM))
def nkL (a:Rows) (qE i:Int):St:= {n:=94,sl:=[(0,.sl [.i,.i,.i,.i,.i,.i,.i,.i,.i] a),(1,.int .i64 qE),(5,.int .i64 i)],hp:=[],ok:=true,ls:=[],lm:=[]}
theorem nm_:D8 Tryz.prog 175 QM:=by
 refine nO (A:=Zb) JA Tryz.func175 fun ds (hw:kc ((.sl [.i,.i,.i,.i,.i,.i,.i,.i,.i])::(.i::([]))) ds) aJ=> ?_
 obtain⟨a,ds,rfl,pU,hw⟩:=nH hw
 obtain⟨k,ds,rfl,_,hw⟩:=nj hw
 obtain rfl:=nc hw
 obtain⟨N,hN⟩:=nm9 Vm.ke Zc a k pU aJ
 have e0:(fun qE i=>LR (LQ Tryz.prog [] Zb N Tryz.f175 QM [true,false,true,false] []) N (nkL a qE i))=(nwd ni0 Vm.ke Zc N a N):=Wq _ _ _ N
 refine⟨N,Eq.trans ?_ (hN.trans (by kernel_rfl))⟩
 unfold nmj
 rw[←e0]
 kernel_rfl
def QX:Sum:= {ps:=[⟨[.sl [.i,.i,.i,.i,.i,.i,.i]],false⟩,⟨[.i],false⟩],rs:=[⟨[.d7 .i],false⟩],fn:=fun ds=>(OM 7 (rR ds 0) (rI ds 1),[.int (Rg (rR ds 0) (rI ds 1)).1]++[.sl (Rg (rR ds 0) (rI ds 1)).2]),ms:=[some (.rows [.flat 262]),none]}
def Zw:List (Nat×lE):=[(2, {ca:=[(0,.mN),(1,.mN),(5,.mN)],boxes:=[]})]
def Zx:Int→Rows→kM:=(fun r0 r1=>((true,[.int r0]++[.sl r1]):kM))
def nk4 (qE i:Int) (zy:Rows):St:= {n:=1099511627843,sl:=[(0,.own 640000),(1,.int .i64 qE),(5,.int .i64 i)],hp:=[(640000,.row 262 [.i,.i,.i,.i,.i,.i,.i] zy false true)],ok:=true,ls:=[],lm:=[]}
theorem nnr:Cm Tryz.prog 238 QX:=by
 refine OH (A:=Zw) JA Tryz.func238 fun ds (hw:kc ((.sl [.i,.i,.i,.i,.i,.i,.i])::(.i::([]))) ds) aJ=> ?_
 obtain⟨a,ds,rfl,pU,hw⟩:=nH hw
 obtain⟨k,ds,rfl,_,hw⟩:=nj hw
 obtain rfl:=nc hw
 obtain⟨N,hN⟩:=nnq Vm.ke Zx a k pU aJ
 have e0:(fun qE i zy=>LR (Lj Tryz.prog [] Zw N Tryz.f238 QX [true,false,true,false] []) N (nk4 qE i zy))=(nxJ ni1 Vm.ke Zx N N):=nL3 _ _ _ N
 refine⟨N,Eq.trans ?_ (hN.trans (by kernel_rfl))⟩
 unfold nn8
 rw[←e0]
 kernel_rfl
def QP:Sum:= {ps:=[⟨[.sl [.i,.i,.i,.i,.i,.i,.i]],false⟩,⟨[.i],false⟩],rs:=[⟨[.d7 .i],false⟩],fn:=fun ds=>(Qm naq 7 (rR ds 0) (rI ds 1),[.int (TZ (rR ds 0) (rI ds 1))])}
def Zh:List (Nat×lE):=[(2, {ca:=[(0,.mN),(1,.mN),(5,.mN)],boxes:=[]})]
def Zi:Int→kM:=(fun r0=>((true,[.int r0]):kM))
def nkN (a:Rows) (qE i:Int):St:= {n:=81,sl:=[(0,.sl [.i,.i,.i,.i,.i,.i,.i] a),(1,.int .i64 qE),(5,.int .i64 i)],hp:=[],ok:=true,ls:=[],lm:=[]}
theorem nne:D8 Tryz.prog 239 QP:=by
 refine nO (A:=Zh) JA Tryz.func239 fun ds (hw:kc ((.sl [.i,.i,.i,.i,.i,.i,.i])::(.i::([]))) ds) aJ=> ?_
 obtain⟨a,ds,rfl,pU,hw⟩:=nH hw
 obtain⟨k,ds,rfl,_,hw⟩:=nj hw
 obtain rfl:=nc hw
 obtain⟨N,hN⟩:=nnd Vm.ke Zi a k pU aJ
 have e0:(fun qE i=>LR (LQ Tryz.prog [] Zh N Tryz.f239 QP [true,false,true,false] []) N (nkN a qE i))=(nwd ni1 Vm.ke Zi N a N):=Wq _ _ _ N
 refine⟨N,Eq.trans ?_ (hN.trans (by kernel_rfl))⟩
 unfold nmj
 rw[←e0]
 kernel_rfl
def zE:Sum:= {ps:=[⟨[.sl [.i,.i,.i,.bool]],false⟩,⟨[.i],false⟩],rs:=[⟨[.d7 .i],false⟩],fn:=fun ds=>(OM 4 (rR ds 0) (rI ds 1),[.int (zd (rR ds 0) (rI ds 1)).1]++[.sl (zd (rR ds 0) (rI ds 1)).2]),ms:=[some (.rows [.flat 209]),none]}
def TB:List (Nat×lE):=[(2, {ca:=[(0,.mN),(1,.mN),(5,.mN)],boxes:=[]})]
def TC:Int→Rows→kM:=(fun r0 r1=>((true,[.int r0]++[.sl r1]):kM))
def nd6 (qE i:Int) (zy:Rows):St:= {n:=1099511627819,sl:=[(0,.own 640000),(1,.int .i64 qE),(5,.int .i64 i)],hp:=[(640000,.row 209 [.i,.i,.i,.bool] zy false true)],ok:=true,ls:=[],lm:=[]}
theorem ngf:Cm Tryz.prog 63 zE:=by
 refine OH (A:=TB) JA Tryz.func63 fun ds (hw:kc ((.sl [.i,.i,.i,.bool])::(.i::([]))) ds) aJ=> ?_
 obtain⟨a,ds,rfl,pU,hw⟩:=nH hw
 obtain⟨k,ds,rfl,_,hw⟩:=nj hw
 obtain rfl:=nc hw
 obtain⟨N,hN⟩:=nge Vm.ke TC a k pU aJ
 have e0:(fun qE i zy=>LR (Lj Tryz.prog [] TB N Tryz.f63 zE [true,false,true,false] []) N (nd6 qE i zy))=(nxJ Ri Vm.ke TC N N):=nL3 _ _ _ N
 refine⟨N,Eq.trans ?_ (hN.trans (by kernel_rfl))⟩
 unfold nn8
 rw[←e0]
 kernel_rfl
def zC:Sum:= {ps:=[⟨[.sl [.i,.i,.i,.bool]],false⟩,⟨[.i],false⟩],rs:=[⟨[.d7 .i],false⟩],fn:=fun ds=>(Qm yL 4 (rR ds 0) (rI ds 1),[.int (O9 (rR ds 0) (rI ds 1))])}
def Tq:List (Nat×lE):=[(2, {ca:=[(0,.mN),(1,.mN),(5,.mN)],boxes:=[]})]
def Ts:Int→kM:=(fun r0=>((true,[.int r0]):kM))
def nd0 (a:Rows) (qE i:Int):St:= {n:=51,sl:=[(0,.sl [.i,.i,.i,.bool] a),(1,.int .i64 qE),(5,.int .i64 i)],hp:=[],ok:=true,ls:=[],lm:=[]}
theorem nf4:D8 Tryz.prog 75 zC:=by
 refine nO (A:=Tq) JA Tryz.func75 fun ds (hw:kc ((.sl [.i,.i,.i,.bool])::(.i::([]))) ds) aJ=> ?_
 obtain⟨a,ds,rfl,pU,hw⟩:=nH hw
 obtain⟨k,ds,rfl,_,hw⟩:=nj hw
 obtain rfl:=nc hw
 obtain⟨N,hN⟩:=nf3 Vm.ke Ts a k pU aJ
 have e0:(fun qE i=>LR (LQ Tryz.prog [] Tq N Tryz.f75 zC [true,false,true,false] []) N (nd0 a qE i))=(nwd Ri Vm.ke Ts N a N):=Wq _ _ _ N
 refine⟨N,Eq.trans ?_ (hN.trans (by kernel_rfl))⟩
 unfold nmj
 rw[←e0]
 kernel_rfl
def Ot:Sum:= {ps:=[⟨[.sl [.i,.i,.i,.i,.i,.i,.str,.bool]],false⟩,⟨[.i],false⟩],rs:=[⟨[.d7 .i],false⟩],fn:=fun ds=>(OM 8 (rR ds 0) (rI ds 1),[.int (OK (rR ds 0) (rI ds 1)).1]++[.sl (OK (rR ds 0) (rI ds 1)).2]),ms:=[some (.rows [.flat 223]),none]}
def Vg:Ctx:=[(169,sV)]
theorem niA:bF Tryz.prog Vg:=Ic vb JA
def Vf:List (Nat×lE):=[(2, {ca:=[(0,.mN),(1,.mN),(5,.mN)],boxes:=[]})]
def Vh:Int→Rows→kM:=(fun r0 r1=>((true,[.int r0]++[.sl r1]):kM))
def ngn (qE i:Int) (zy:Rows):St:= {n:=1099511627853,sl:=[(0,.own 640000),(1,.int .i64 qE),(5,.int .i64 i)],hp:=[(640000,.row 223 [.i,.i,.i,.i,.i,.i,.str,.bool] zy false true)],ok:=true,ls:=[],lm:=[]}
theorem niz:Cm Tryz.prog 71 Ot:=by
 refine OH (A:=Vf) niA Tryz.func71 fun ds (hw:kc ((.sl [.i,.i,.i,.i,.i,.i,.str,.bool])::(.i::([]))) ds) aJ=> ?_
 obtain⟨a,ds,rfl,pU,hw⟩:=nH hw
 obtain⟨k,ds,rfl,_,hw⟩:=nj hw
 obtain rfl:=nc hw
 obtain⟨N,hN⟩:=niy Vm.ke Vh a k pU aJ
 have e0:(fun qE i zy=>LR (Lj Tryz.prog Vg Vf N Tryz.f71 Ot [true,false,true,false] []) N (ngn qE i zy))=(nxJ VK Vm.ke Vh N N):=nL3 _ _ _ N
 refine⟨N,Eq.trans ?_ (hN.trans (by kernel_rfl))⟩
 unfold nn8
 rw[←e0]
 kernel_rfl
def On:Sum:= {ps:=[⟨[.sl [.i,.i,.i,.i,.i,.i,.str,.bool]],false⟩,⟨[.i],false⟩],rs:=[⟨[.d7 .i],false⟩],fn:=fun ds=>(Qm O5 8 (rR ds 0) (rI ds 1),[.int (RS (rR ds 0) (rI ds 1))])}
def U5:Ctx:=[(169,sV)]
theorem nip:bF Tryz.prog U5:=Ic vb JA
def U4:List (Nat×lE):=[(2, {ca:=[(0,.mN),(1,.mN),(5,.mN)],boxes:=[]})]
def U6:Int→kM:=(fun r0=>((true,[.int r0]):kM))
def ngb (a:Rows) (qE i:Int):St:= {n:=93,sl:=[(0,.sl [.i,.i,.i,.i,.i,.i,.str,.bool] a),(1,.int .i64 qE),(5,.int .i64 i)],hp:=[],ok:=true,ls:=[],lm:=[]}
theorem nio:D8 Tryz.prog 83 On:=by
 refine nO (A:=U4) nip Tryz.func83 fun ds (hw:kc ((.sl [.i,.i,.i,.i,.i,.i,.str,.bool])::(.i::([]))) ds) aJ=> ?_
 obtain⟨a,ds,rfl,pU,hw⟩:=nH hw
 obtain⟨k,ds,rfl,_,hw⟩:=nj hw
 obtain rfl:=nc hw
 obtain⟨N,hN⟩:=nin Vm.ke U6 a k pU aJ
 have e0:(fun qE i=>LR (LQ Tryz.prog U5 U4 N Tryz.f83 On [true,false,true,false] []) N (ngb a qE i))=(nwd VK Vm.ke U6 N a N):=Wq _ _ _ N
 refine⟨N,Eq.trans ?_ (hN.trans (by kernel_rfl))⟩
 unfold nmj
 rw[←e0]
 kernel_rfl
def zF:Sum:= {ps:=[⟨[.sl [.i,.i,.i,.i,.i,.i,.i,.i,.i,.i,.i,.i,.i,.i,.i,.i,.i,.i,.i,.i,.i,.i,.i,.i,.i,.str,.i,.i,.bool,.i]],false⟩,⟨[.i],false⟩],rs:=[⟨[.d7 .i],false⟩],fn:=fun ds=>(OM 30 (rR ds 0) (rI ds 1),[.int (zf (rR ds 0) (rI ds 1)).1]++[.sl (zf (rR ds 0) (rI ds 1)).2]),ms:=[some (.rows [.flat 182]),none]}
def TF:Ctx:=[(169,sV)]
theorem ngi:bF Tryz.prog TF:=Ic vb JA
def TE:List (Nat×lE):=[(2, {ca:=[(0,.mN),(1,.mN),(5,.mN)],boxes:=[]})]
def TG:Int→Rows→kM:=(fun r0 r1=>((true,[.int r0]++[.sl r1]):kM))
def nd7 (qE i:Int) (zy:Rows):St:= {n:=1099511628054,sl:=[(0,.own 640000),(1,.int .i64 qE),(5,.int .i64 i)],hp:=[(640000,.row 182 [.i,.i,.i,.i,.i,.i,.i,.i,.i,.i,.i,.i,.i,.i,.i,.i,.i,.i,.i,.i,.i,.i,.i,.i,.i,.str,.i,.i,.bool,.i] zy false true)],ok:=true,ls:=[],lm:=[]}
theorem ngh:Cm Tryz.prog 65 zF:=by
 refine OH (A:=TE) ngi Tryz.func65 fun ds (hw:kc ((.sl [.i,.i,.i,.i,.i,.i,.i,.i,.i,.i,.i,.i,.i,.i,.i,.i,.i,.i,.i,.i,.i,.i,.i,.i,.i,.str,.i,.i,.bool,.i])::(.i::([]))) ds) aJ=> ?_
 obtain⟨a,ds,rfl,pU,hw⟩:=nH hw
 obtain⟨k,ds,rfl,_,hw⟩:=nj hw
 obtain rfl:=nc hw
 obtain⟨N,hN⟩:=ngg Vm.ke TG a k pU aJ
 have e0:(fun qE i zy=>LR (Lj Tryz.prog TF TE N Tryz.f65 zF [true,false,true,false] []) N (nd7 qE i zy))=(nxJ Rj Vm.ke TG N N):=nL3 _ _ _ N
 refine⟨N,Eq.trans ?_ (hN.trans (by kernel_rfl))⟩
 unfold nn8
 rw[←e0]
 kernel_rfl
def zD:Sum:= {ps:=[⟨[.sl [.i,.i,.i,.i,.i,.i,.i,.i,.i,.i,.i,.i,.i,.i,.i,.i,.i,.i,.i,.i,.i,.i,.i,.i,.i,.str,.i,.i,.bool,.i]],false⟩,⟨[.i],false⟩],rs:=[⟨[.d7 .i],false⟩],fn:=fun ds=>(Qm yM 30 (rR ds 0) (rI ds 1),[.int (O_ (rR ds 0) (rI ds 1))])}
def Tv:Ctx:=[(169,sV)]
theorem nf7:bF Tryz.prog Tv:=Ic vb JA
def Tu:List (Nat×lE):=[(2, {ca:=[(0,.mN),(1,.mN),(5,.mN)],boxes:=[]})]
def Tw:Int→kM:=(fun r0=>((true,[.int r0]):kM))
def nd1 (a:Rows) (qE i:Int):St:= {n:=338,sl:=[(0,.sl [.i,.i,.i,.i,.i,.i,.i,.i,.i,.i,.i,.i,.i,.i,.i,.i,.i,.i,.i,.i,.i,.i,.i,.i,.i,.str,.i,.i,.bool,.i] a),(1,.int .i64 qE),(5,.int .i64 i)],hp:=[],ok:=true,ls:=[],lm:=[]}
theorem nf6:D8 Tryz.prog 77 zD:=by
 refine nO (A:=Tu) nf7 Tryz.func77 fun ds (hw:kc ((.sl [.i,.i,.i,.i,.i,.i,.i,.i,.i,.i,.i,.i,.i,.i,.i,.i,.i,.i,.i,.i,.i,.i,.i,.i,.i,.str,.i,.i,.bool,.i])::(.i::([]))) ds) aJ=> ?_
 obtain⟨a,ds,rfl,pU,hw⟩:=nH hw
 obtain⟨k,ds,rfl,_,hw⟩:=nj hw
 obtain rfl:=nc hw
 obtain⟨N,hN⟩:=nf5 Vm.ke Tw a k pU aJ
 have e0:(fun qE i=>LR (LQ Tryz.prog Tv Tu N Tryz.f77 zD [true,false,true,false] []) N (nd1 a qE i))=(nwd Rj Vm.ke Tw N a N):=Wq _ _ _ N
 refine⟨N,Eq.trans ?_ (hN.trans (by kernel_rfl))⟩
 unfold nmj
 rw[←e0]
 kernel_rfl
def QS:Sum:= {ps:=[⟨[.sl [.i,.i,.i,.sl [.i]]],false⟩,⟨[.i],false⟩],rs:=[⟨[.d7 .i],false⟩],fn:=fun ds=>(yd rG Sh (rR ds 0) (rI ds 1),[.int (ze (rR ds 0) (rI ds 1)).1]++[.sl (ze (rR ds 0) (rI ds 1)).2]),ms:=[some (.rows [.deep 62 [3]]),none]}
def Zn:Ctx:=[(1125899906842661,J3),(73,sU)]
theorem nnk:bF Tryz.prog Zn:=Ic Lq (Ic va JA)
def Zm:List (Nat×lE):=[(2, {ca:=[(0,.mN),(1,.mN),(5,.mN)],boxes:=[]})]
def Zo:Int→Rows→kM:=(fun r0 r1=>((true,[.int r0]++[.sl r1]):kM))
def nk1 (qE i:Int) (zy:Rows):St:= {n:=1099511627817,sl:=[(0,.own 640000),(1,.int .i64 qE),(5,.int .i64 i)],hp:=[(640000,.deep 62 [.i,.i,.i,.sl [.i]] [3] zy none)],ok:=true,ls:=[],lm:=[]}
theorem nnj:Cm Tryz.prog 66 QS:=by
 refine OH (A:=Zm) nnk Tryz.func66 fun ds (hw:kc ((.sl [.i,.i,.i,.sl [.i]])::(.i::([]))) ds) aJ=> ?_
 obtain⟨a,ds,rfl,pU,hw⟩:=nH hw
 obtain⟨k,ds,rfl,_,hw⟩:=nj hw
 obtain rfl:=nc hw
 obtain⟨N,hN⟩:=nni Vm.ke Zo a k pU aJ
 exact⟨N,eL (fun l_=>QT Vm.ke Zo l_ a k) (nL3 (Lj Tryz.prog Zn Zm N Tryz.f66 QS [true,false,true,false] []) (nk1) _ N) hN⟩
def QK:Sum:= {ps:=[⟨[.sl [.i,.i,.i,.sl [.i]]],false⟩,⟨[.i],false⟩],rs:=[⟨[.d7 .i],false⟩],fn:=fun ds=>(nfF (rR ds 0) (rI ds 1),[.int (Yw (rR ds 0) (rI ds 1))])}
def Y9:Ctx:=[(85,sT)]
theorem nm8:bF Tryz.prog Y9:=Ic u_ JA
def Y8:List (Nat×lE):=[(2, {ca:=[(0,.mN),(1,.mN),(5,.mN)],boxes:=[]})]
def Y_:Int→kM:=(fun r0=>((true,[.int r0]):kM))
def nkK (a:Rows) (qE i:Int):St:= {n:=49,sl:=[(0,.sl [.i,.i,.i,.sl [.i]] a),(1,.int .i64 qE),(5,.int .i64 i)],hp:=[],ok:=true,ls:=[],lm:=[]}
theorem nm7:D8 Tryz.prog 78 QK:=by
 refine nO (A:=Y8) nm8 Tryz.func78 fun ds (hw:kc ((.sl [.i,.i,.i,.sl [.i]])::(.i::([]))) ds) aJ=> ?_
 obtain⟨a,ds,rfl,pU,hw⟩:=nH hw
 obtain⟨k,ds,rfl,_,hw⟩:=nj hw
 obtain rfl:=nc hw
 obtain⟨N,hN⟩:=nm6 Vm.ke Y_ a k pU aJ
 exact⟨N,eL (fun l_=>QL Vm.ke Y_ l_ a k) (Wq (LQ Tryz.prog Y9 Y8 N Tryz.f78 QK [true,false,true,false] []) (nkK a) _ N) hN⟩
def oy:Sum:= {ps:=[⟨[.i],false⟩,⟨[.i],false⟩,⟨[.i],false⟩],rs:=[⟨[.d7 .bool],false⟩],fn:=fun ds=>(true,[.bool (nf (rI ds 0) (rI ds 1) (rI ds 2))])}
theorem oC:D8 Tryz.prog 143 oy:=by
 refine nO (A:=[]) JA Tryz.func143 fun ds (hw:kc (.i::(.i::(.i::([])))) ds) _=> ?_
 obtain⟨n,ds,rfl,_,hw⟩:=nj hw
 obtain⟨low,ds,rfl,_,hw⟩:=nj hw
 obtain⟨high,ds,rfl,_,hw⟩:=nj hw
 obtain rfl:=nc hw
 exact⟨0,eT (ntO (fun r0=>((true,[.bool r0]):kM)) n low high)⟩
abbrev oP:Sum:=oy
theorem oW:D8 Tryz.prog 106 oP:=by
 refine nO (A:=[]) JA Tryz.func106 fun ds (hw:kc (.i::(.i::(.i::([])))) ds) _=> ?_
 obtain⟨x,ds,rfl,_,hw⟩:=nj hw
 obtain⟨least,ds,rfl,_,hw⟩:=nj hw
 obtain⟨most,ds,rfl,_,hw⟩:=nj hw
 obtain rfl:=nc hw
 exact⟨0,eT (nzi (fun r0=>((true,[.bool r0]):kM)) x least most)⟩
def Nn:Sum:= {ps:=[⟨nC.ct,true⟩],rs:=[⟨[.d7 .bool],false⟩],fn:=fun ds=>(true,[.bool (vg (nC.nd ds 0))])}
def na9:Ctx:=[(143,oy)]
theorem npl:bF Tryz.prog na9:=Ic oC JA
def na8:List (Nat×lE):=[(2, {ca:=[(1,.mN),(6,.mN),(7,.mN),(8,.mN)],boxes:=[(64,[])]})]
def Sk:Bool→kM:=(fun r0=>((true,[.bool r0]):kM))
def nmk (x:Rows) (nX oc wG:Int) (Rv:Bool) (uV:Rows):St:= {n:=40,sl:=[(1,.ptr 64 0),(6,.sl [.i] x),(7,.int .i64 nX),(8,.int .i64 oc)],hp:=[(64,.box 69 [.int .i64 wG,.bool Rv,.sl [.i] uV])],ok:=true,ls:=[],lm:=[]}
theorem npk:D8 Tryz.prog 142 Nn:=by
 refine nO (A:=na8) npl Tryz.func142 fun ds (hw:kc (nC.ct++([])) ds) _=> ?_
 obtain⟨f,ds,rfl,h_f,hw⟩:=nC.nA (r:=_) hw
 obtain rfl:=nc hw
 obtain⟨N,hN⟩:=npj Vm.ke Sk f h_f
 exact⟨N,Eq.trans (b:=Np Vm.ke Sk (fun x nX wG uV oc=>LR (LQ Tryz.prog na9 na8 N Tryz.f142 Nn [true,false,true,false] []) N (nmk x nX oc wG f.pS uV)) f) (by kernel_rfl) (Eq.trans (congrArg (fun l_=>Np Vm.ke Sk l_ f) (by funext x nX wG uV;exact nL1 _ _ _ N)) (hN.trans (by kernel_rfl)))⟩
abbrev SX:Sum:=Nn
def ncu:Ctx:=[(106,oP)]
theorem nr1:bF Tryz.prog ncu:=Ic oW JA
def nct:List (Nat×lE):=[(2, {ca:=[(1,.mN),(3,.mN)],boxes:=[(64,[])]})]
def SW:Bool→kM:=(fun r0=>((true,[.bool r0]):kM))
def nof (k wG:Int) (Rv:Bool) (uV:Rows):St:= {n:=45,sl:=[(1,.ptr 64 0),(3,.int .i64 k)],hp:=[(64,.box 69 [.int .i64 wG,.bool Rv,.sl [.i] uV])],ok:=true,ls:=[],lm:=[]}
theorem nr0:D8 Tryz.prog 105 SX:=by
 refine nO (A:=nct) nr1 Tryz.func105 fun ds (hw:kc (nC.ct++([])) ds) _=> ?_
 obtain⟨f,ds,rfl,h_f,hw⟩:=nC.nA (r:=_) hw
 obtain rfl:=nc hw
 obtain⟨N,hN⟩:=nrZ Vm.ke SW f h_f
 exact⟨N,Eq.trans (b:=N0 Vm.ke SW (fun wG uV k=>LR (LQ Tryz.prog ncu nct N Tryz.f105 SX [true,false,true,false] []) N (nof k wG f.pS uV)) f) (by kernel_rfl) (Eq.trans (congrArg (fun l_=>N0 Vm.ke SW l_ f) (by funext wG uV;exact nL1 _ _ _ N)) (hN.trans (by kernel_rfl)))⟩
def yU:Sum:= {ps:=[⟨nD.ct,true⟩],rs:=[⟨[.d7 .bool],false⟩],fn:=fun ds=>(true,[.bool (sO (nD.nd ds 0))])}
def nms:Ctx:=[(143,oy)]
theorem nmu:bF Tryz.prog nms:=Ic oC JA
theorem YC:D8 Tryz.prog 219 yU:=by
 refine nO (A:=[]) nmu Tryz.func219 fun ds (hw:kc (nD.ct++([])) ds) _=> ?_
 obtain⟨g,ds,rfl,_,hw⟩:=nD.nA (r:=_) hw
 obtain rfl:=nc hw
 exact⟨0,eT (nmt (fun r0=>((true,[.bool r0]):kM)) g)⟩
abbrev Rp:Sum:=yU
def nom:Ctx:=[(106,oP)]
theorem nop:bF Tryz.prog nom:=Ic oW JA
theorem Z8:D8 Tryz.prog 256 Rp:=by
 refine nO (A:=[]) nop Tryz.func256 fun ds (hw:kc (nD.ct++([])) ds) _=> ?_
 obtain⟨g,ds,rfl,_,hw⟩:=nD.nA (r:=_) hw
 obtain rfl:=nc hw
 exact⟨0,eT (noo (fun r0=>((true,[.bool r0]):kM)) g)⟩
def YH:Sum:= {ps:=[⟨[.i],false⟩],rs:=[⟨[.d7 .bool],false⟩],fn:=fun ds=>(true,[.bool (T4 (rI ds 0))])}
theorem nmD:D8 Tryz.prog 220 YH:=by
 refine nO (A:=[]) JA Tryz.func220 fun ds (hw:kc (.i::([])) ds) _=> ?_
 obtain⟨flags,ds,rfl,_,hw⟩:=nj hw
 obtain rfl:=nc hw
 exact⟨0,eT (nmC (fun r0=>((true,[.bool r0]):kM)) flags)⟩
def yx:Sum:= {ps:=[⟨nx.ct,true⟩],rs:=[⟨[.d7 .bool],false⟩],fn:=fun ds=>(true,[.bool (sY (nx.nd ds 0))])}
def ntH:Ctx:=[(143,oy),(219,yU),(220,YH)]
theorem ntJ:bF Tryz.prog ntH:=Ic oC (Ic YC (Ic nmD JA))
theorem Uy:D8 Tryz.prog 148 yx:=by
 refine nO (A:=[]) ntJ Tryz.func148 fun ds (hw:kc (nx.ct++([])) ds) _=> ?_
 obtain⟨p,ds,rfl,_,hw⟩:=nx.nA (r:=_) hw
 obtain rfl:=nc hw
 exact⟨0,eT (ntI (fun r0=>((true,[.bool r0]):kM)) p)⟩
abbrev V0:Sum:=yx
def nvt:Ctx:=[(106,oP),(256,Rp)]
theorem nvv:bF Tryz.prog nvt:=Ic oW (Ic Z8 JA)
theorem neU:D8 Tryz.prog 192 V0:=by
 refine nO (A:=[]) nvv Tryz.func192 fun ds (hw:kc (nx.ct++([])) ds) _=> ?_
 obtain⟨p,ds,rfl,_,hw⟩:=nx.nA (r:=_) hw
 obtain rfl:=nc hw
 exact⟨0,eT (nvu (fun r0=>((true,[.bool r0]):kM)) p)⟩
def wT:Sum:= {ps:=[⟨[.sl [.i,.i,.i,.bool]],false⟩,⟨[.i],false⟩,⟨[.i],false⟩],rs:=[⟨[.d7 .i],false⟩],fn:=fun ds=>(true,[.int (rY (rR ds 0) (rI ds 1) (rI ds 2))])}
def UQ:List (Nat×lE):=[(2, {ca:=[(1,.mN),(2,.mN),(9,.mN),(10,.mN),(11,.mN)],boxes:=[]})]
def UR:Int→kM:=(fun r0=>((true,[.int r0]):kM))
def nf0 (domain oV:Int) (list_:Rows) (nX oc:Int):St:= {n:=28,sl:=[(1,.int .i64 domain),(2,.int .i64 oV),(9,.sl [.i,.i,.i,.bool] list_),(10,.int .i64 nX),(11,.int .i64 oc)],hp:=[],ok:=true,ls:=[],lm:=[]}
theorem UT:D8 Tryz.prog 212 wT:=by
 refine nO (A:=UQ) JA Tryz.func212 fun ds (hw:kc ((.sl [.i,.i,.i,.bool])::(.i::(.i::([])))) ds) _=> ?_
 obtain⟨list_,ds,rfl,pE,hw⟩:=nH hw
 obtain⟨domain,ds,rfl,_,hw⟩:=nj hw
 obtain⟨oV,ds,rfl,_,hw⟩:=nj hw
 obtain rfl:=nc hw
 obtain⟨N,hN⟩:=nie Vm.ke UR list_ domain oV pE
 exact⟨N,eL (fun l_=>Om Vm.ke UR l_ list_ domain oV) (funext fun nX=>nL1 (LQ Tryz.prog [] UQ N Tryz.f212 wT [true,false,true,false] []) (nf0 domain oV list_ nX) _ N) hN⟩
def vj:Sum:= {ps:=[⟨[.sl [.i,.i,.i,.bool]],false⟩],rs:=[⟨[.d7 .bool],false⟩],fn:=fun ds=>(true,[.bool (oQ (rR ds 0))])}
def Wx:Ctx:=[(143,oy),(212,wT)]
theorem njW:bF Tryz.prog Wx:=Ic oC (Ic UT JA)
def Ww:List (Nat×lE):=[(2, {ca:=[(0,.mN),(5,.mN),(6,.mN),(7,.mN)],boxes:=[]})]
def Pj:Bool→kM:=(fun r0=>((true,[.bool r0]):kM))
def nhF (list_ x:Rows) (nX oc:Int):St:= {n:=42,sl:=[(0,.sl [.i,.i,.i,.bool] list_),(5,.sl [.i,.i,.i,.bool] x),(6,.int .i64 nX),(7,.int .i64 oc)],hp:=[],ok:=true,ls:=[],lm:=[]}
theorem Wz:D8 Tryz.prog 140 vj:=by
 refine nO (A:=Ww) njW Tryz.func140 fun ds (hw:kc ((.sl [.i,.i,.i,.bool])::([])) ds) _=> ?_
 obtain⟨list_,ds,rfl,pE,hw⟩:=nH hw
 obtain rfl:=nc hw
 obtain⟨N,hN⟩:=njV Vm.ke Pj list_ pE
 exact⟨N,Eq.trans (b:=xH Vm.ke Pj (fun x nX oc=>LR (LQ Tryz.prog Wx Ww N Tryz.f140 vj [true,false,true,false] []) N (nhF list_ x nX oc)) list_) (by kernel_rfl) (Eq.trans (congrArg (fun l_=>xH Vm.ke Pj l_ list_) (by funext x nX;exact nL1 _ _ _ N)) (hN.trans (by kernel_rfl)))⟩
abbrev vy:Sum:=vj
def PY:Ctx:=[(106,oP)]
theorem nlS:bF Tryz.prog PY:=Ic oW JA
def PX:List (Nat×lE):=[(4, {ca:=[(0,.mN),(3,.mN)],boxes:=[]}),(10, {ca:=[(0,.mN),(3,.mN),(4,.mN),(5,.mN)],boxes:=[(256,[])]})]
def vx:Bool→kM:=(fun r0=>((true,[.bool r0]):kM))
def uH (list_:Rows) (k:Int):St:= {n:=58,sl:=[(0,.sl [.i,.i,.i,.bool] list_),(3,.int .i64 k)],hp:=[],ok:=true,ls:=[],lm:=[]}
def w7 (list_:Rows) (k i x nX oc:Int) (OO:Bool):St:= {n:=58,sl:=[(0,.sl [.i,.i,.i,.bool] list_),(3,.int .i64 k),(4,.ptr 256 0),(5,.int .i64 i)],hp:=[(256,.box 209 [.int .i64 x,.int .i64 nX,.int .i64 oc,.bool OO])],ok:=true,ls:=[],lm:=[]}
noncomputable def w6 (N:Nat) (o0:St→kM):(St→kM)→St→kM:=LQ Tryz.prog PY PX N Tryz.f103 vy [true,true,false,true,false,false,true,false,false,true,true,true,false] [o0]
noncomputable def w5 (N:Nat):(St→kM)→St→kM:=LQ Tryz.prog PY PX N Tryz.f103 vy [true,true,false,true,false] []
theorem ni_ (N:Nat) (o0:St→kM) (list_:Rows) (k x nX oc:Int) (OO:Bool) (ih:St→kM) (i:Int):w6 N o0 ih (w7 list_ k i x nX oc OO)=uG Vm.ke vx (fun k=>o0 (uH list_ k)) list_ k x nX (fun i=>ih (w7 list_ k i x nX oc OO)) i:=by kernel_rfl
theorem njb (N:Nat) (o0:St→kM) (list_:Rows) (k x nX oc:Int) (OO:Bool) (m_:Nat):(fun i=>LR (w6 N o0) m_ (w7 list_ k i x nX oc OO))=qT Vm.ke vx N (fun k=>o0 (uH list_ k)) list_ k x nX m_:=by
 induction m_ with
 | zero=>rfl
 | succ m_ ih=>
  funext i
  refine (ni_ N o0 list_ k x nX oc OO (LR (w6 N o0) m_) i).trans ?_
  rw[ih]
  rfl
theorem ni9 (N:Nat) (list_:Rows) (ih:St→kM) (k:Int):w5 N ih (uH list_ k)=uF Vm.ke vx (fun k x nX i=>LR (w6 N ih) N (w7 list_ k i x nX (rI (nth list_ (Int.toNat k)) 2) (rB (nth list_ (Int.toNat k)) 3))) list_ (fun k=>ih (uH list_ k)) k:=by kernel_rfl
theorem nja (N:Nat) (list_:Rows) (m_:Nat):(fun k=>LR (w5 N) m_ (uH list_ k))=th Vm.ke vx N list_ m_:=by
 induction m_ with
 | zero=>rfl
 | succ m_ ih=>
  funext k
  refine (ni9 N list_ (LR (w5 N) m_) k).trans ?_
  have e1:=funext fun k=>funext fun x=>funext fun nX=>njb N (LR (w5 N) m_) list_ k x nX (rI (nth list_ (Int.toNat k)) 2) (rB (nth list_ (Int.toNat k)) 3) N
  rw[e1]
  rw[ih]
  rfl
theorem XG:D8 Tryz.prog 103 vy:=by
 refine nO (A:=PX) nlS Tryz.func103 fun ds (hw:kc ((.sl [.i,.i,.i,.bool])::([])) ds) _=> ?_
 obtain⟨list_,ds,rfl,pE,hw⟩:=nH hw
 obtain rfl:=nc hw
 obtain⟨N,hN⟩:=nlR Vm.ke vx list_ pE
 refine⟨N,Eq.trans ?_ (hN.trans (by kernel_rfl))⟩
 unfold PZ
 rw[←nja N list_ N]
 kernel_rfl
def Oj:Sum:= {ps:=[⟨[.sl [.str]],false⟩],rs:=[⟨[.own 9 [.str]],false⟩],fn:=fun ds=>(sm (rR ds 0),[.sl (oE (rR ds 0))])}
theorem UL:D8 Tryz.prog 137 Oj:=by
 refine nO (A:=[]) JA Tryz.func137 fun ds (hw:kc ((.sl [.str])::([])) ds) aJ=> ?_
 obtain⟨l,ds,rfl,_,hw⟩:=nH hw
 obtain rfl:=nc hw
 exact⟨0,eT (nh9 Vm.ke (fun r0=>((true,[.sl r0]):kM)) l aJ)⟩
def sG:Sum:= {ps:=[⟨na.ct,true⟩],rs:=[⟨[.own 9 [.str]],true⟩],fn:=fun ds=>(sb (na.nd ds 0),na.enc (oE (na.nd ds 0)))}
def nka:Ctx:=[(137,Oj)]
theorem nkc:bF Tryz.prog nka:=Ic UL JA
theorem tE:D8 Tryz.prog 130 sG:=by
 refine nO (A:=[]) nkc Tryz.func130 fun ds (hw:kc (na.ct++([])) ds) aJ=> ?_
 obtain⟨m,ds,rfl,_,hw⟩:=na.nA (r:=_) hw
 obtain rfl:=nc hw
 exact⟨0,eT (nkb Vm.ke (fun r0=>((true,na.enc r0):kM)) m aJ)⟩
def uY:Sum:= {ps:=[⟨na.ct,true⟩],rs:=[⟨[.d7 .bool],false⟩],fn:=fun ds=>(true,[.bool (pF (na.nd ds 0))])}
def nbg:List (Nat×lE):=[(2, {ca:=[(1,.mN),(6,.mN),(7,.mN),(8,.mN)],boxes:=[(64,[])]})]
def Sn:Bool→kM:=(fun r0=>((true,[.bool r0]):kM))
def nmq (x:Rows) (nX oc:Int) (qH:Rows):St:= {n:=20,sl:=[(1,.ptr 64 0),(6,.sl [.str] x),(7,.int .i64 nX),(8,.int .i64 oc)],hp:=[(64,.box 59 [.sl [.str] qH])],ok:=true,ls:=[],lm:=[]}
theorem So:D8 Tryz.prog 139 uY:=by
 refine nO (A:=nbg) JA Tryz.func139 fun ds (hw:kc (na.ct++([])) ds) _=> ?_
 obtain⟨m,ds,rfl,h_m,hw⟩:=na.nA (r:=_) hw
 obtain rfl:=nc hw
 obtain⟨N,hN⟩:=npx Vm.ke Sn m h_m
 exact⟨N,Eq.trans (b:=Ns Vm.ke Sn (fun x nX qH oc=>LR (LQ Tryz.prog [] nbg N Tryz.f139 uY [true,false,true,false] []) N (nmq x nX oc qH)) m) (by kernel_rfl) (Eq.trans (congrArg (fun l_=>Ns Vm.ke Sn l_ m) (by funext x nX qH;exact nL1 _ _ _ N)) (hN.trans (by kernel_rfl)))⟩
abbrev xw:Sum:=uY
def ncD:List (Nat×lE):=[(2, {ca:=[(1,.mN),(3,.mN)],boxes:=[(64,[])]})]
def ncE:Bool→kM:=(fun r0=>((true,[.bool r0]):kM))
def nok (k:Int) (qH:Rows):St:= {n:=22,sl:=[(1,.ptr 64 0),(3,.int .i64 k)],hp:=[(64,.box 59 [.sl [.str] qH])],ok:=true,ls:=[],lm:=[]}
theorem S0:D8 Tryz.prog 102 xw:=by
 refine nO (A:=ncD) JA Tryz.func102 fun ds (hw:kc (na.ct++([])) ds) _=> ?_
 obtain⟨m,ds,rfl,h_m,hw⟩:=na.nA (r:=_) hw
 obtain rfl:=nc hw
 obtain⟨N,hN⟩:=nsb Vm.ke ncE m h_m
 exact⟨N,eL (fun l_=>S1 Vm.ke ncE l_ m) (funext fun qH=>nL1 (LQ Tryz.prog [] ncD N Tryz.f102 xw [true,false,true,false] []) (fun k=>nok k qH) _ N) hN⟩
def xm:Sum:= {ps:=[⟨[.i],false⟩],rs:=[⟨[.d7 .bool],false⟩],fn:=fun ds=>(true,[.bool (tY (rI ds 0))])}
theorem SB:D8 Tryz.prog 267 xm:=by
 refine nO (A:=[]) JA Tryz.func267 fun ds (hw:kc (.i::([])) ds) _=> ?_
 obtain⟨n,ds,rfl,_,hw⟩:=nj hw
 obtain rfl:=nc hw
 exact⟨0,eT (nqe (fun r0=>((true,[.bool r0]):kM)) n)⟩
abbrev Qe:Sum:=xm
theorem Wg:D8 Tryz.prog 252 Qe:=by
 refine nO (A:=[]) JA Tryz.func252 fun ds (hw:kc (.i::([])) ds) _=> ?_
 obtain⟨n,ds,rfl,_,hw⟩:=nj hw
 obtain rfl:=nc hw
 exact⟨0,eT (nvQ (fun r0=>((true,[.bool r0]):kM)) n)⟩
def QD:Sum:= {ps:=[⟨[.i],false⟩],rs:=[⟨[.d7 .bool],false⟩],fn:=fun ds=>(true,[.bool (T5 (rI ds 0))])}
theorem nmJ:D8 Tryz.prog 271 QD:=by
 refine nO (A:=[]) JA Tryz.func271 fun ds (hw:kc (.i::([])) ds) _=> ?_
 obtain⟨n,ds,rfl,_,hw⟩:=nj hw
 obtain rfl:=nc hw
 exact⟨0,eT (nmI (fun r0=>((true,[.bool r0]):kM)) n)⟩
abbrev ne5:Sum:=QD
theorem nvC:D8 Tryz.prog 255 ne5:=by
 refine nO (A:=[]) JA Tryz.func255 fun ds (hw:kc (.i::([])) ds) _=> ?_
 obtain⟨n,ds,rfl,_,hw⟩:=nj hw
 obtain rfl:=nc hw
 exact⟨0,eT (nvB (fun r0=>((true,[.bool r0]):kM)) n)⟩
def X3:Sum:= {ps:=[⟨[.i],false⟩,⟨[.i],false⟩],rs:=[⟨[.d7 .i],false⟩],fn:=fun ds=>(ON (rI ds 0) (rI ds 1),[.int (naJ (rI ds 0) (rI ds 1))])}
theorem ngH:D8 Tryz.prog 278 X3:=by
 refine nO (A:=[]) JA Tryz.func278 fun ds (hw:kc (.i::(.i::([]))) ds) aJ=> ?_
 obtain⟨x,ds,rfl,_,hw⟩:=nj hw
 obtain⟨n,ds,rfl,_,hw⟩:=nj hw
 obtain rfl:=nc hw
 exact⟨0,eT (nwD Vm.ke (fun r0=>((true,[.int r0]):kM)) x n aJ)⟩
def Nx:Sum:= {ps:=[⟨nB.ct,true⟩],rs:=[⟨[.d7 .i],false⟩],fn:=fun ds=>(true,[.int (OT (nB.nd ds 0))])}
def npF:Ctx:=[(267,xm),(278,X3)]
theorem npH:bF Tryz.prog npF:=Ic SB (Ic ngH JA)
theorem nbn:D8 Tryz.prog 225 Nx:=by
 refine nO (A:=[]) npH Tryz.func225 fun ds (hw:kc (nB.ct++([])) ds) _=> ?_
 obtain⟨r,ds,rfl,h_r,hw⟩:=nB.nA (r:=_) hw
 obtain rfl:=nc hw
 exact⟨0,eT (npG Vm.ke (fun r0=>((true,[.int r0]):kM)) r h_r)⟩
abbrev S5:Sum:=Nx
def nsm:Ctx:=[(252,Qe)]
theorem nso:bF Tryz.prog nsm:=Ic Wg JA
theorem ncM:D8 Tryz.prog 198 S5:=by
 refine nO (A:=[]) nso Tryz.func198 fun ds (hw:kc (nB.ct++([])) ds) _=> ?_
 obtain⟨r,ds,rfl,_,hw⟩:=nB.nA (r:=_) hw
 obtain rfl:=nc hw
 exact⟨0,eT (nsn (fun r0=>((true,[.int r0]):kM)) r)⟩
def xz:Sum:= {ps:=[⟨nB.ct,true⟩],rs:=[⟨[.d7 .bool],false⟩],fn:=fun ds=>(true,[.bool (tx (nB.nd ds 0))])}
def nwn:Ctx:=[(143,oy),(225,Nx),(267,xm)]
theorem nwp:bF Tryz.prog nwn:=Ic oC (Ic nbn (Ic SB JA))
theorem RD:D8 Tryz.prog 213 xz:=by
 refine nO (A:=[]) nwp Tryz.func213 fun ds (hw:kc (nB.ct++([])) ds) _=> ?_
 obtain⟨r,ds,rfl,_,hw⟩:=nB.nA (r:=_) hw
 obtain rfl:=nc hw
 exact⟨0,eT (nwo (fun r0=>((true,[.bool r0]):kM)) r)⟩
abbrev Nk:Sum:=xz
def nxV:Ctx:=[(106,oP),(198,S5),(252,Qe)]
theorem nxY:bF Tryz.prog nxV:=Ic oW (Ic ncM (Ic Wg JA))
theorem RP:D8 Tryz.prog 187 Nk:=by
 refine nO (A:=[]) nxY Tryz.func187 fun ds (hw:kc (nB.ct++([])) ds) _=> ?_
 obtain⟨r,ds,rfl,_,hw⟩:=nB.nA (r:=_) hw
 obtain rfl:=nc hw
 exact⟨0,eT (nxW (fun r0=>((true,[.bool r0]):kM)) r)⟩
def Us:Sum:= {ps:=[⟨nn.ct,true⟩],rs:=[⟨[.d7 .bool],false⟩],fn:=fun ds=>(true,[.bool (nak (nn.nd ds 0))])}
def ntw:Ctx:=[(143,oy),(267,xm)]
theorem ntz:bF Tryz.prog ntw:=Ic oC (Ic SB JA)
theorem nty:D8 Tryz.prog 214 Us:=by
 refine nO (A:=[]) ntz Tryz.func214 fun ds (hw:kc (nn.ct++([])) ds) _=> ?_
 obtain⟨q,ds,rfl,_,hw⟩:=nn.nA (r:=_) hw
 obtain rfl:=nc hw
 exact⟨0,eT (ntx (fun r0=>((true,[.bool r0]):kM)) q)⟩
abbrev neN:Sum:=Us
def nvh:Ctx:=[(106,oP),(252,Qe)]
theorem nvl:bF Tryz.prog nvh:=Ic oW (Ic Wg JA)
theorem nvj:D8 Tryz.prog 191 neN:=by
 refine nO (A:=[]) nvl Tryz.func191 fun ds (hw:kc (nn.ct++([])) ds) _=> ?_
 obtain⟨q,ds,rfl,_,hw⟩:=nn.nA (r:=_) hw
 obtain rfl:=nc hw
 exact⟨0,eT (nvi (fun r0=>((true,[.bool r0]):kM)) q)⟩
def nh_:Sum:= {ps:=[⟨nY.ct,true⟩],rs:=[⟨[.d7 .bool],false⟩],fn:=fun ds=>(true,[.bool (due (nY.nd ds 0))])}
theorem nAr:D8 Tryz.prog 215 nh_:=by
 refine nO (A:=[]) JA Tryz.func215 fun ds (hw:kc (nY.ct++([])) ds) _=> ?_
 obtain⟨v,ds,rfl,_,hw⟩:=nY.nA (r:=_) hw
 obtain rfl:=nc hw
 exact⟨0,eT (nAq (fun r0=>((true,[.bool r0]):kM)) v)⟩
abbrev nhs:Sum:=nh_
theorem nyc:D8 Tryz.prog 193 nhs:=by
 refine nO (A:=[]) JA Tryz.func193 fun ds (hw:kc (nY.ct++([])) ds) _=> ?_
 obtain⟨v,ds,rfl,_,hw⟩:=nY.nA (r:=_) hw
 obtain rfl:=nc hw
 exact⟨0,eT (nyb (fun r0=>((true,[.bool r0]):kM)) v)⟩
def Sv:Sum:= {ps:=[⟨nY.ct,true⟩],rs:=[⟨[.d7 .bool],false⟩],fn:=fun ds=>(true,[.bool (ur (nY.nd ds 0))])}
def npX:Ctx:=[(143,oy),(215,nh_)]
theorem np0:bF Tryz.prog npX:=Ic oC (Ic nAr JA)
theorem npZ:D8 Tryz.prog 146 Sv:=by
 refine nO (A:=[]) np0 Tryz.func146 fun ds (hw:kc (nY.ct++([])) ds) _=> ?_
 obtain⟨v,ds,rfl,_,hw⟩:=nY.nA (r:=_) hw
 obtain rfl:=nc hw
 exact⟨0,eT (npY (fun r0=>((true,[.bool r0]):kM)) v)⟩
abbrev ncY:Sum:=Sv
def nsB:Ctx:=[(106,oP),(193,nhs)]
theorem nsF:bF Tryz.prog nsB:=Ic oW (Ic nyc JA)
theorem nsD:D8 Tryz.prog 110 ncY:=by
 refine nO (A:=[]) nsF Tryz.func110 fun ds (hw:kc (nY.ct++([])) ds) _=> ?_
 obtain⟨v,ds,rfl,_,hw⟩:=nY.nA (r:=_) hw
 obtain rfl:=nc hw
 exact⟨0,eT (nsC (fun r0=>((true,[.bool r0]):kM)) v)⟩
def ndB:Sum:= {ps:=[⟨nK.ct,true⟩],rs:=[⟨[.d7 .bool],false⟩],fn:=fun ds=>(true,[.bool (nhu (nK.nd ds 0))])}
def nzL:Ctx:=[(143,oy),(148,yx),(213,xz),(214,Us)]
theorem nzO:bF Tryz.prog nzL:=Ic oC (Ic Uy (Ic RD (Ic nty JA)))
theorem nzN:D8 Tryz.prog 144 ndB:=by
 refine nO (A:=[]) nzO Tryz.func144 fun ds (hw:kc (nK.ct++([])) ds) _=> ?_
 obtain⟨q,ds,rfl,_,hw⟩:=nK.nA (r:=_) hw
 obtain rfl:=nc hw
 exact⟨0,eT (nzM (fun r0=>((true,[.bool r0]):kM)) q)⟩
abbrev noZ:Sum:=ndB
def nz8:Ctx:=[(106,oP),(187,Nk),(191,neN),(192,V0)]
theorem nAb:bF Tryz.prog nz8:=Ic oW (Ic RP (Ic nvj (Ic neU JA)))
theorem nz_:D8 Tryz.prog 108 noZ:=by
 refine nO (A:=[]) nAb Tryz.func108 fun ds (hw:kc (nK.ct++([])) ds) _=> ?_
 obtain⟨q,ds,rfl,_,hw⟩:=nK.nA (r:=_) hw
 obtain rfl:=nc hw
 exact⟨0,eT (nz9 (fun r0=>((true,[.bool r0]):kM)) q)⟩
def X0:Sum:= {ps:=[⟨pf.ct,true⟩],rs:=[⟨[.d7 .bool],false⟩],fn:=fun ds=>(true,[.bool (OU (pf.nd ds 0))])}
def nwq:Ctx:=[(143,oy)]
theorem nwt:bF Tryz.prog nwq:=Ic oC JA
theorem nws:D8 Tryz.prog 268 X0:=by
 refine nO (A:=[]) nwt Tryz.func268 fun ds (hw:kc (pf.ct++([])) ds) _=> ?_
 obtain⟨r,ds,rfl,_,hw⟩:=pf.nA (r:=_) hw
 obtain rfl:=nc hw
 exact⟨0,eT (nwr (fun r0=>((true,[.bool r0]):kM)) r)⟩
abbrev nhr:Sum:=X0
def nxZ:Ctx:=[(106,oP)]
theorem nx3:bF Tryz.prog nxZ:=Ic oW JA
theorem nx1:D8 Tryz.prog 253 nhr:=by
 refine nO (A:=[]) nx3 Tryz.func253 fun ds (hw:kc (pf.ct++([])) ds) _=> ?_
 obtain⟨r,ds,rfl,_,hw⟩:=pf.nA (r:=_) hw
 obtain rfl:=nc hw
 exact⟨0,eT (nx0 (fun r0=>((true,[.bool r0]):kM)) r)⟩
def Po:Sum:= {ps:=[⟨[.sl [.i,.i,.i,.i,.i,.i,.i,.i,.i]],false⟩],rs:=[⟨[.d7 .bool],false⟩],fn:=fun ds=>(true,[.bool (TU (rR ds 0))])}
def ndz:Ctx:=[(268,X0)]
theorem ntG:bF Tryz.prog ndz:=Ic nws JA
def ndy:List (Nat×lE):=[(2, {ca:=[(0,.mN),(5,.mN),(6,.mN),(7,.mN)],boxes:=[]})]
def Uu:Bool→kM:=(fun r0=>((true,[.bool r0]):kM))
def npI (list_ x:Rows) (nX oc:Int):St:= {n:=18,sl:=[(0,.sl [.i,.i,.i,.i,.i,.i,.i,.i,.i] list_),(5,.sl [.i,.i,.i,.i,.i,.i,.i,.i,.i] x),(6,.int .i64 nX),(7,.int .i64 oc)],hp:=[],ok:=true,ls:=[],lm:=[]}
theorem ntF:D8 Tryz.prog 216 Po:=by
 refine nO (A:=ndy) ntG Tryz.func216 fun ds (hw:kc ((.sl [.i,.i,.i,.i,.i,.i,.i,.i,.i])::([])) ds) _=> ?_
 obtain⟨list_,ds,rfl,pE,hw⟩:=nH hw
 obtain rfl:=nc hw
 obtain⟨N,hN⟩:=ntE Vm.ke Uu list_ pE
 exact⟨N,Eq.trans (b:=Pp Vm.ke Uu (fun x nX oc=>LR (LQ Tryz.prog ndz ndy N Tryz.f216 Po [true,false,true,false] []) N (npI list_ x nX oc)) list_) (by kernel_rfl) (Eq.trans (congrArg (fun l_=>Pp Vm.ke Uu l_ list_) (by funext x nX;exact nL1 _ _ _ N)) (hN.trans (by kernel_rfl)))⟩
abbrev VU:Sum:=Po
def neR:Ctx:=[(253,nhr)]
theorem nvs:bF Tryz.prog neR:=Ic nx1 JA
def neQ:List (Nat×lE):=[(2, {ca:=[(0,.mN),(3,.mN)],boxes:=[]})]
def neS:Bool→kM:=(fun r0=>((true,[.bool r0]):kM))
def nsp (list_:Rows) (k:Int):St:= {n:=19,sl:=[(0,.sl [.i,.i,.i,.i,.i,.i,.i,.i,.i] list_),(3,.int .i64 k)],hp:=[],ok:=true,ls:=[],lm:=[]}
theorem nvr:D8 Tryz.prog 188 VU:=by
 refine nO (A:=neQ) nvs Tryz.func188 fun ds (hw:kc ((.sl [.i,.i,.i,.i,.i,.i,.i,.i,.i])::([])) ds) _=> ?_
 obtain⟨list_,ds,rfl,pE,hw⟩:=nH hw
 obtain rfl:=nc hw
 obtain⟨N,hN⟩:=nvq Vm.ke neS list_ pE
 exact⟨N,eL (fun l_=>VV Vm.ke neS l_ list_) (nL1 (LQ Tryz.prog neR neQ N Tryz.f188 VU [true,false,true,false] []) (nsp list_) _ N) hN⟩
def tP:Sum:= {ps:=[⟨[.sl [.i]],false⟩],rs:=[⟨[.own 3 [.i]],false⟩],fn:=fun ds=>(sm (rR ds 0),[.sl (oE (rR ds 0))])}
theorem u0:D8 Tryz.prog 138 tP:=by
 refine nO (A:=[]) JA Tryz.func138 fun ds (hw:kc ((.sl [.i])::([])) ds) aJ=> ?_
 obtain⟨l,ds,rfl,_,hw⟩:=nH hw
 obtain rfl:=nc hw
 exact⟨0,eT (np4 Vm.ke (fun r0=>((true,[.sl r0]):kM)) l aJ)⟩
def u4:Sum:= {ps:=[⟨nv.ct,true⟩],rs:=[⟨[.d7 .i,.d7 .i,.d7 .i,.own 3 [.i]],true⟩],fn:=fun ds=>(uW (nv.nd ds 0),nv.enc (oE (nv.nd ds 0)))}
def np5:Ctx:=[(138,tP)]
theorem np7:bF Tryz.prog np5:=Ic u0 JA
theorem NH:D8 Tryz.prog 133 u4:=by
 refine nO (A:=[]) np7 Tryz.func133 fun ds (hw:kc (nv.ct++([])) ds) aJ=> ?_
 obtain⟨p,ds,rfl,_,hw⟩:=nv.nA (r:=_) hw
 obtain rfl:=nc hw
 exact⟨0,eT (np6 Vm.ke (fun r0=>((true,nv.enc r0):kM)) p aJ)⟩
abbrev yI:Sum:=u4
theorem Qf:D8 Tryz.prog 99 yI:=by
 refine nO (A:=[]) JA Tryz.func99 fun ds (hw:kc (nv.ct++([])) ds) aJ=> ?_
 obtain⟨p,ds,rfl,_,hw⟩:=nv.nA (r:=_) hw
 obtain rfl:=nc hw
 exact⟨0,eT (nvS Vm.ke (fun r0=>((true,nv.enc r0):kM)) p aJ)⟩
def uc:Sum:= {ps:=[⟨nv.ct,true⟩],rs:=[⟨[.d7 .bool],false⟩],fn:=fun ds=>(true,[.bool (qB (nv.nd ds 0))])}
def ngD:Ctx:=[(143,oy)]
theorem nwm:bF Tryz.prog ngD:=Ic oC JA
def ngC:List (Nat×lE):=[(5, {ca:=[(1,.mN),(3,.mN),(26,.mN),(27,.mN),(28,.mN)],boxes:=[(64,[])]})]
def XY:Bool→kM:=(fun r0=>((true,[.bool r0]):kM))
def ntv (x:Rows) (nX oc p_1 p_2 NX:Int) (Ql seen:Rows):St:= {n:=48,sl:=[(1,.ptr 64 0),(3,.own 640192),(26,.sl [.i] x),(27,.int .i64 nX),(28,.int .i64 oc)],hp:=[(64,.box 62 [.int .i64 p_1,.int .i64 p_2,.int .i64 NX,.sl [.i] Ql]),(640192,.row 4 [.bool] seen false true)],ok:=true,ls:=[],lm:=[]}
theorem zR:D8 Tryz.prog 145 uc:=by
 refine nO (A:=ngC) nwm Tryz.func145 fun ds (hw:kc (nv.ct++([])) ds) _=> ?_
 obtain⟨p,ds,rfl,h_p,hw⟩:=nv.nA (r:=_) hw
 obtain rfl:=nc hw
 obtain⟨N,hN⟩:=nwl Vm.ke XY p h_p
 exact⟨N,Eq.trans (b:=RB Vm.ke XY (fun x nX NX oc seen=>LR (LQ Tryz.prog ngD ngC N Tryz.f145 uc [true,true,true,false,true,false] []) N (ntv x nX oc p.oG p.nL NX p.oB seen)) p) (by kernel_rfl) (Eq.trans (congrArg (fun l_=>RB Vm.ke XY l_ p) (by funext x nX NX;exact Wq _ _ _ N)) (hN.trans (by kernel_rfl)))⟩
abbrev vO:Sum:=uc
def nhp:Ctx:=[(106,oP)]
theorem nxU:bF Tryz.prog nhp:=Ic oW JA
def nho:List (Nat×lE):=[(5, {ca:=[(1,.mN),(3,.mN),(4,.mN)],boxes:=[(64,[])]})]
def Yt:Bool→kM:=(fun r0=>((true,[.bool r0]):kM))
def nvg (k p_1 p_2 NX:Int) (Ql seen:Rows):St:= {n:=58,sl:=[(1,.ptr 64 0),(3,.own 640192),(4,.int .i64 k)],hp:=[(64,.box 62 [.int .i64 p_1,.int .i64 p_2,.int .i64 NX,.sl [.i] Ql]),(640192,.row 4 [.bool] seen false true)],ok:=true,ls:=[],lm:=[]}
theorem Nj:D8 Tryz.prog 109 vO:=by
 refine nO (A:=nho) nxU Tryz.func109 fun ds (hw:kc (nv.ct++([])) ds) _=> ?_
 obtain⟨p,ds,rfl,h_p,hw⟩:=nv.nA (r:=_) hw
 obtain rfl:=nc hw
 obtain⟨N,hN⟩:=nxT Vm.ke Yt p h_p
 exact⟨N,Eq.trans (b:=RO Vm.ke Yt (fun NX Ql k seen=>LR (LQ Tryz.prog nhp nho N Tryz.f109 vO [true,true,true,false,true,false] []) N (nvg k p.oG p.nL NX Ql seen)) p) (by kernel_rfl) (Eq.trans (congrArg (fun l_=>RO Vm.ke Yt l_ p) (by funext NX Ql;exact Wq _ _ _ N)) (hN.trans (by kernel_rfl)))⟩
def Oe:Sum:= {ps:=[⟨nv.ct,true⟩,⟨[.sl [.i]],false⟩],rs:=[⟨[.d7 .i,.d7 .i,.d7 .i,.own 3 [.i]],true⟩,⟨[.d7 .bool],false⟩],fn:=fun ds=>(Uf (nv.nd ds 0) (rR ds 4),nv.enc (qp (nv.nd ds 0) (rR ds 4)).1++[.bool (qp (nv.nd ds 0) (rR ds 4)).2])}
def nhB:Ctx:=[(133,u4),(145,uc)]
theorem nhE:bF Tryz.prog nhB:=Ic NH (Ic zR JA)
theorem nhD:D8 Tryz.prog 181 Oe:=by
 refine nO (A:=[]) nhE Tryz.func181 fun ds (hw:kc (nv.ct++((.sl [.i])::([]))) ds) aJ=> ?_
 obtain⟨p,ds,rfl,_,hw⟩:=nv.nA (r:=_) hw
 obtain⟨list_,ds,rfl,_,hw⟩:=nH hw
 obtain rfl:=nc hw
 exact⟨0,eT (nhC Vm.ke (fun r0 r1=>((true,nv.enc r0++[.bool r1]):kM)) p list_ aJ)⟩
abbrev VP:Sum:=Oe
def ni5:Ctx:=[(99,yI),(109,vO)]
theorem ni8:bF Tryz.prog ni5:=Ic Qf (Ic Nj JA)
theorem ni7:D8 Tryz.prog 179 VP:=by
 refine nO (A:=[]) ni8 Tryz.func179 fun ds (hw:kc (nv.ct++((.sl [.i])::([]))) ds) aJ=> ?_
 obtain⟨p,ds,rfl,_,hw⟩:=nv.nA (r:=_) hw
 obtain⟨list_,ds,rfl,_,hw⟩:=nH hw
 obtain rfl:=nc hw
 exact⟨0,eT (ni6 Vm.ke (fun r0 r1=>((true,nv.enc r0++[.bool r1]):kM)) p list_ aJ)⟩
def W8:Sum:= {ps:=[⟨na.ct,true⟩,⟨[.i],false⟩],rs:=[⟨[.d7 .i],false⟩],fn:=fun ds=>(Nd (na.nd ds 0) (rI ds 1),[.int (wZ (na.nd ds 0) (rI ds 1)).1]++[.sl (wZ (na.nd ds 0) (rI ds 1)).2]),ms:=[some (.rows [.flat 9]),none]}
def nkX:Ctx:=[(72,wV)]
theorem nk0:bF Tryz.prog nkX:=Ic Vn JA
theorem nkZ:Cm Tryz.prog 62 W8:=by
 refine OH (A:=[]) nk0 Tryz.func62 fun ds (hw:kc (na.ct++(.i::([]))) ds) aJ=> ?_
 obtain⟨a,ds,rfl,_,hw⟩:=na.nA (r:=_) hw
 obtain⟨k,ds,rfl,_,hw⟩:=nj hw
 obtain rfl:=nc hw
 exact⟨0,eT (nkY Vm.ke (fun r0 r1=>((true,[.int r0]++[.sl r1]):kM)) a k aJ)⟩
def W5:Sum:= {ps:=[⟨na.ct,true⟩,⟨[.i],false⟩],rs:=[⟨[.d7 .i],false⟩],fn:=fun ds=>(zL (na.nd ds 0) (rI ds 1),[.int (Od (na.nd ds 0) (rI ds 1))])}
def nkG:Ctx:=[(84,wU)]
theorem nkJ:bF Tryz.prog nkG:=Ic Va JA
theorem nkI:D8 Tryz.prog 74 W5:=by
 refine nO (A:=[]) nkJ Tryz.func74 fun ds (hw:kc (na.ct++(.i::([]))) ds) aJ=> ?_
 obtain⟨a,ds,rfl,_,hw⟩:=na.nA (r:=_) hw
 obtain⟨k,ds,rfl,_,hw⟩:=nj hw
 obtain rfl:=nc hw
 exact⟨0,eT (nkH Vm.ke (fun r0=>((true,[.int r0]):kM)) a k aJ)⟩
def nb5:Sum:= {ps:=[⟨nv.ct,true⟩,⟨[.i],false⟩],rs:=[⟨[.d7 .i],false⟩],fn:=fun ds=>(R4 (nv.nd ds 0) (rI ds 4),[.int (PQ (nv.nd ds 0) (rI ds 4)).1]++[.sl (PQ (nv.nd ds 0) (rI ds 4)).2]),ms:=[some (.rows [.flat 3]),none]}
def nqV:Ctx:=[(73,sU)]
theorem nqY:bF Tryz.prog nqV:=Ic va JA
theorem nqX:Cm Tryz.prog 167 nb5:=by
 refine OH (A:=[]) nqY Tryz.func167 fun ds (hw:kc (nv.ct++(.i::([]))) ds) aJ=> ?_
 obtain⟨a,ds,rfl,_,hw⟩:=nv.nA (r:=_) hw
 obtain⟨k,ds,rfl,_,hw⟩:=nj hw
 obtain rfl:=nc hw
 exact⟨0,eT (nqW Vm.ke (fun r0 r1=>((true,[.int r0]++[.sl r1]):kM)) a k aJ)⟩
def nb0:Sum:= {ps:=[⟨nv.ct,true⟩,⟨[.i],false⟩],rs:=[⟨[.d7 .i],false⟩],fn:=fun ds=>(RR (nv.nd ds 0) (rI ds 4),[.int (Ui (nv.nd ds 0) (rI ds 4))])}
def nqM:Ctx:=[(85,sT)]
theorem nqP:bF Tryz.prog nqM:=Ic u_ JA
theorem nqO:D8 Tryz.prog 173 nb0:=by
 refine nO (A:=[]) nqP Tryz.func173 fun ds (hw:kc (nv.ct++(.i::([]))) ds) aJ=> ?_
 obtain⟨a,ds,rfl,_,hw⟩:=nv.nA (r:=_) hw
 obtain⟨k,ds,rfl,_,hw⟩:=nj hw
 obtain rfl:=nc hw
 exact⟨0,eT (nqN Vm.ke (fun r0=>((true,[.int r0]):kM)) a k aJ)⟩
def W7:Sum:= {ps:=[⟨nC.ct,true⟩,⟨[.i],false⟩],rs:=[⟨[.d7 .i],false⟩],fn:=fun ds=>(Nc (nC.nd ds 0) (rI ds 3),[.int (Ox (nC.nd ds 0) (rI ds 3)).1]++[.sl (Ox (nC.nd ds 0) (rI ds 3)).2]),ms:=[some (.rows [.flat 3]),none]}
def nkT:Ctx:=[(73,sU)]
theorem nkW:bF Tryz.prog nkT:=Ic va JA
theorem nkV:Cm Tryz.prog 69 W7:=by
 refine OH (A:=[]) nkW Tryz.func69 fun ds (hw:kc (nC.ct++(.i::([]))) ds) aJ=> ?_
 obtain⟨a,ds,rfl,_,hw⟩:=nC.nA (r:=_) hw
 obtain⟨k,ds,rfl,_,hw⟩:=nj hw
 obtain rfl:=nc hw
 exact⟨0,eT (nkU Vm.ke (fun r0 r1=>((true,[.int r0]++[.sl r1]):kM)) a k aJ)⟩
def W4:Sum:= {ps:=[⟨nC.ct,true⟩,⟨[.i],false⟩],rs:=[⟨[.d7 .i],false⟩],fn:=fun ds=>(zJ (nC.nd ds 0) (rI ds 3),[.int (Uh (nC.nd ds 0) (rI ds 3))])}
def nkC:Ctx:=[(85,sT)]
theorem nkF:bF Tryz.prog nkC:=Ic u_ JA
theorem nkE:D8 Tryz.prog 81 W4:=by
 refine nO (A:=[]) nkF Tryz.func81 fun ds (hw:kc (nC.ct++(.i::([]))) ds) aJ=> ?_
 obtain⟨a,ds,rfl,_,hw⟩:=nC.nA (r:=_) hw
 obtain⟨k,ds,rfl,_,hw⟩:=nj hw
 obtain rfl:=nc hw
 exact⟨0,eT (nkD Vm.ke (fun r0=>((true,[.int r0]):kM)) a k aJ)⟩
def R2:Sum:= {ps:=[⟨ni.ct,true⟩,⟨[.i],false⟩],rs:=[⟨[.d7 .i],false⟩],fn:=fun ds=>(wy (ni.nd ds 0) (rI ds 1),[.int (vN (ni.nd ds 0) (rI ds 1)).1]++[.sl (vN (ni.nd ds 0) (rI ds 1)).2]),ms:=[some (.rows [.flat 262]),none]}
def nd2:Ctx:=[(238,QX)]
theorem nd5:bF Tryz.prog nd2:=Ic nnr JA
theorem nd4:Cm Tryz.prog 171 R2:=by
 refine OH (A:=[]) nd5 Tryz.func171 fun ds (hw:kc (ni.ct++(.i::([]))) ds) aJ=> ?_
 obtain⟨a,ds,rfl,_,hw⟩:=ni.nA (r:=_) hw
 obtain⟨k,ds,rfl,_,hw⟩:=nj hw
 obtain rfl:=nc hw
 exact⟨0,eT (nd3 Vm.ke (fun r0 r1=>((true,[.int r0]++[.sl r1]):kM)) a k aJ)⟩
def R1:Sum:= {ps:=[⟨ni.ct,true⟩,⟨[.i],false⟩],rs:=[⟨[.d7 .i],false⟩],fn:=fun ds=>(wj (ni.nd ds 0) (rI ds 1),[.int (zK (ni.nd ds 0) (rI ds 1))])}
def ndW:Ctx:=[(239,QP)]
theorem ndZ:bF Tryz.prog ndW:=Ic nne JA
theorem ndY:D8 Tryz.prog 176 R1:=by
 refine nO (A:=[]) ndZ Tryz.func176 fun ds (hw:kc (ni.ct++(.i::([]))) ds) aJ=> ?_
 obtain⟨a,ds,rfl,_,hw⟩:=ni.nA (r:=_) hw
 obtain⟨k,ds,rfl,_,hw⟩:=nj hw
 obtain rfl:=nc hw
 exact⟨0,eT (ndX Vm.ke (fun r0=>((true,[.int r0]):kM)) a k aJ)⟩
def W9:Sum:= {ps:=[⟨nG.ct,true⟩,⟨[.i],false⟩],rs:=[⟨[.d7 .i],false⟩],fn:=fun ds=>(Nf (nG.nd ds 0) (rI ds 2),[.int (Oy (nG.nd ds 0) (rI ds 2)).1]++[.sl (Oy (nG.nd ds 0) (rI ds 2)).2]),ms:=[some (.rows [.flat 3]),none]}
def nk5:Ctx:=[(73,sU)]
theorem nk8:bF Tryz.prog nk5:=Ic va JA
theorem nk7:Cm Tryz.prog 172 W9:=by
 refine OH (A:=[]) nk8 Tryz.func172 fun ds (hw:kc (nG.ct++(.i::([]))) ds) aJ=> ?_
 obtain⟨a,ds,rfl,_,hw⟩:=nG.nA (r:=_) hw
 obtain⟨k,ds,rfl,_,hw⟩:=nj hw
 obtain rfl:=nc hw
 exact⟨0,eT (nk6 Vm.ke (fun r0 r1=>((true,[.int r0]++[.sl r1]):kM)) a k aJ)⟩
def W6:Sum:= {ps:=[⟨nG.ct,true⟩,⟨[.i],false⟩],rs:=[⟨[.d7 .i],false⟩],fn:=fun ds=>(zM (nG.nd ds 0) (rI ds 2),[.int (Uj (nG.nd ds 0) (rI ds 2))])}
def nkO:Ctx:=[(85,sT)]
theorem nkR:bF Tryz.prog nkO:=Ic u_ JA
theorem nkQ:D8 Tryz.prog 177 W6:=by
 refine nO (A:=[]) nkR Tryz.func177 fun ds (hw:kc (nG.ct++(.i::([]))) ds) aJ=> ?_
 obtain⟨a,ds,rfl,_,hw⟩:=nG.nA (r:=_) hw
 obtain⟨k,ds,rfl,_,hw⟩:=nj hw
 obtain rfl:=nc hw
 exact⟨0,eT (nkP Vm.ke (fun r0=>((true,[.int r0]):kM)) a k aJ)⟩
def Vp:Sum:= {ps:=[⟨nh.ct,true⟩,⟨[.i],false⟩],rs:=[⟨[.d7 .i],false⟩],fn:=fun ds=>(yD (nh.nd ds 0) (rI ds 10),[.int (vv (nh.nd ds 0) (rI ds 10)).1]++[.sl (vv (nh.nd ds 0) (rI ds 10)).2.1]++[.sl (vv (nh.nd ds 0) (rI ds 10)).2.2]),ms:=[some (.rows [.flat 3,.deep 207 [3]]),none]}
def niD:Ctx:=[(167,nb5),(168,QV)]
theorem niG:bF Tryz.prog niD:=Ic nqX (Ic nno JA)
theorem niF:Cm Tryz.prog 64 Vp:=by
 refine OH (A:=[]) niG Tryz.func64 fun ds (hw:kc (nh.ct++(.i::([]))) ds) aJ=> ?_
 obtain⟨a,ds,rfl,_,hw⟩:=nh.nA (r:=_) hw
 obtain⟨k,ds,rfl,_,hw⟩:=nj hw
 obtain rfl:=nc hw
 exact⟨0,eT (niE Vm.ke (fun r0 r1 r2=>((true,[.int r0]++[.sl r1]++[.sl r2]):kM)) a k aJ)⟩
def Vb:Sum:= {ps:=[⟨nh.ct,true⟩,⟨[.i],false⟩],rs:=[⟨[.d7 .i],false⟩],fn:=fun ds=>(yq (nh.nd ds 0) (rI ds 10),[.int (RT (nh.nd ds 0) (rI ds 10))])}
def nis:Ctx:=[(173,nb0),(174,QN)]
theorem niv:bF Tryz.prog nis:=Ic nqO (Ic nnb JA)
theorem niu:D8 Tryz.prog 76 Vb:=by
 refine nO (A:=[]) niv Tryz.func76 fun ds (hw:kc (nh.ct++(.i::([]))) ds) aJ=> ?_
 obtain⟨a,ds,rfl,_,hw⟩:=nh.nA (r:=_) hw
 obtain⟨k,ds,rfl,_,hw⟩:=nj hw
 obtain rfl:=nc hw
 exact⟨0,eT (nit Vm.ke (fun r0=>((true,[.int r0]):kM)) a k aJ)⟩
def TI:Sum:= {ps:=[⟨nk.ct,true⟩,⟨[.i],false⟩],rs:=[⟨[.d7 .i],false⟩],fn:=fun ds=>(xr (nk.nd ds 0) (rI ds 4),[.int (sL (nk.nd ds 0) (rI ds 4)).1]++[.sl (sL (nk.nd ds 0) (rI ds 4)).2.1]++[.sl (sL (nk.nd ds 0) (rI ds 4)).2.2.1]++[.sl (sL (nk.nd ds 0) (rI ds 4)).2.2.2]),ms:=[some (.rows [.flat 260,.flat 262,.flat 3]),none]}
def ngj:Ctx:=[(170,QU),(171,R2),(172,W9)]
theorem ngm:bF Tryz.prog ngj:=Ic nnm (Ic nd4 (Ic nk7 JA))
theorem ngl:Cm Tryz.prog 70 TI:=by
 refine OH (A:=[]) ngm Tryz.func70 fun ds (hw:kc (nk.ct++(.i::([]))) ds) aJ=> ?_
 obtain⟨a,ds,rfl,_,hw⟩:=nk.nA (r:=_) hw
 obtain⟨k,ds,rfl,_,hw⟩:=nj hw
 obtain rfl:=nc hw
 exact⟨0,eT (ngk Vm.ke (fun r0 r1 r2 r3=>((true,[.int r0]++[.sl r1]++[.sl r2]++[.sl r3]):kM)) a k aJ)⟩
def Tz:Sum:= {ps:=[⟨nk.ct,true⟩,⟨[.i],false⟩],rs:=[⟨[.d7 .i],false⟩],fn:=fun ds=>(xi (nk.nd ds 0) (rI ds 4),[.int (Pa (nk.nd ds 0) (rI ds 4))])}
def nf8:Ctx:=[(175,QM),(176,R1),(177,W6)]
theorem nga:bF Tryz.prog nf8:=Ic nm_ (Ic ndY (Ic nkQ JA))
theorem nf_:D8 Tryz.prog 82 Tz:=by
 refine nO (A:=[]) nga Tryz.func82 fun ds (hw:kc (nk.ct++(.i::([]))) ds) aJ=> ?_
 obtain⟨a,ds,rfl,_,hw⟩:=nk.nA (r:=_) hw
 obtain⟨k,ds,rfl,_,hw⟩:=nj hw
 obtain rfl:=nc hw
 exact⟨0,eT (nf9 Vm.ke (fun r0=>((true,[.int r0]):kM)) a k aJ)⟩
def nb1:Sum:= {ps:=[⟨ny.ct,true⟩,⟨[.i],false⟩],rs:=[⟨[.d7 .i],false⟩],fn:=fun ds=>(yC (ny.nd ds 0) (rI ds 33),[.int (ph (ny.nd ds 0) (rI ds 33)).1]++[.sl (ph (ny.nd ds 0) (rI ds 33)).2.1]++[.sl (ph (ny.nd ds 0) (rI ds 33)).2.2.1]++[.sl (ph (ny.nd ds 0) (rI ds 33)).2.2.2.1]++[.sl (ph (ny.nd ds 0) (rI ds 33)).2.2.2.2.1]++[.sl (ph (ny.nd ds 0) (rI ds 33)).2.2.2.2.2.1]++[.sl (ph (ny.nd ds 0) (rI ds 33)).2.2.2.2.2.2.1]++[.sl (ph (ny.nd ds 0) (rI ds 33)).2.2.2.2.2.2.2.1]++[.sl (ph (ny.nd ds 0) (rI ds 33)).2.2.2.2.2.2.2.2.1]++[.sl (ph (ny.nd ds 0) (rI ds 33)).2.2.2.2.2.2.2.2.2.1]++[.sl (ph (ny.nd ds 0) (rI ds 33)).2.2.2.2.2.2.2.2.2.2.1]++[.sl (ph (ny.nd ds 0) (rI ds 33)).2.2.2.2.2.2.2.2.2.2.2.1]++[.sl (ph (ny.nd ds 0) (rI ds 33)).2.2.2.2.2.2.2.2.2.2.2.2.1]++[.sl (ph (ny.nd ds 0) (rI ds 33)).2.2.2.2.2.2.2.2.2.2.2.2.2.1]++[.sl (ph (ny.nd ds 0) (rI ds 33)).2.2.2.2.2.2.2.2.2.2.2.2.2.2.1]++[.sl (ph (ny.nd ds 0) (rI ds 33)).2.2.2.2.2.2.2.2.2.2.2.2.2.2.2.1]++[.sl (ph (ny.nd ds 0) (rI ds 33)).2.2.2.2.2.2.2.2.2.2.2.2.2.2.2.2]),ms:=[some (.rows [.flat 9,.flat 209,.flat 3,.deep 207 [3],.flat 182,.deep 62 [3],.flat 186,.flat 4,.flat 3,.flat 260,.flat 262,.flat 3,.flat 223,.flat 9,.flat 3,.flat 3]),none]}
def nqQ:Ctx:=[(62,W8),(63,zE),(64,Vp),(65,zF),(66,QS),(67,Ov),(68,QQ),(69,W7),(70,TI),(71,Ot),(72,wV),(73,sU)]
theorem nqT:bF Tryz.prog nqQ:=Ic nkZ (Ic ngf (Ic niF (Ic ngh (Ic nnj (Ic niI (Ic nng (Ic nkV (Ic ngl (Ic niz (Ic Vn (Ic va JA)))))))))))
theorem nqS:Cm Tryz.prog 12 nb1:=by
 refine OH (A:=[]) nqT Tryz.func12 fun ds (hw:kc (ny.ct++(.i::([]))) ds) aJ=> ?_
 obtain⟨a,ds,rfl,_,hw⟩:=ny.nA (r:=_) hw
 obtain⟨k,ds,rfl,_,hw⟩:=nj hw
 obtain rfl:=nc hw
 exact⟨0,eT (nqR Vm.ke (fun r0 r1 r2 r3 r4 r5 r6 r7 r8 r9 r10 r11 r12 r13 r14 r15 r16=>((true,[.int r0]++[.sl r1]++[.sl r2]++[.sl r3]++[.sl r4]++[.sl r5]++[.sl r6]++[.sl r7]++[.sl r8]++[.sl r9]++[.sl r10]++[.sl r11]++[.sl r12]++[.sl r13]++[.sl r14]++[.sl r15]++[.sl r16]):kM)) a k aJ)⟩
def nbW:Sum:= {ps:=[⟨ny.ct,true⟩,⟨[.i],false⟩],rs:=[⟨[.d7 .i],false⟩],fn:=fun ds=>(OI (ny.nd ds 0) (rI ds 33),[.int (Yv (ny.nd ds 0) (rI ds 33))])}
def nqH:Ctx:=[(74,W5),(75,zC),(76,Vb),(77,zD),(78,QK),(79,Oq),(80,QI),(81,W4),(82,Tz),(83,On),(84,wU),(85,sT)]
theorem nqK:bF Tryz.prog nqH:=Ic nkI (Ic nf4 (Ic niu (Ic nf6 (Ic nm7 (Ic nix (Ic nm4 (Ic nkE (Ic nf_ (Ic nio (Ic Va (Ic u_ JA)))))))))))
theorem nqJ:D8 Tryz.prog 13 nbW:=by
 refine nO (A:=[]) nqK Tryz.func13 fun ds (hw:kc (ny.ct++(.i::([]))) ds) aJ=> ?_
 obtain⟨a,ds,rfl,_,hw⟩:=ny.nA (r:=_) hw
 obtain⟨k,ds,rfl,_,hw⟩:=nj hw
 obtain rfl:=nc hw
 exact⟨0,eT (nqI Vm.ke (fun r0=>((true,[.int r0]):kM)) a k aJ)⟩
def R0:Sum:= {ps:=[⟨nh.ct,true⟩],rs:=[⟨[.d7 .bool],false⟩],fn:=fun ds=>(zx (nh.nd ds 0),[.bool (Sg (nh.nd ds 0))])}
def noQ:Ctx:=[(143,oy),(145,uc),(181,Oe),(213,xz)]
theorem nzQ:bF Tryz.prog noQ:=Ic oC (Ic zR (Ic nhD (Ic RD JA)))
def noP:List (Nat×lE):=[(6, {ca:=[(1,.mN),(3,.mN),(4,.mN),(30,.mN),(31,.mN),(32,.mN)],boxes:=[(64,[])]})]
def ndC:Bool→kM:=(fun r0=>((true,[.bool r0]):kM))
def nyT (left:Int) (x:Rows) (nX oc xt uX xu xv vc vd ve:Int) (vf sX:Rows) (qR:Int) (all:Rows):St:= {n:=68,sl:=[(1,.ptr 64 0),(3,.int .i64 left),(4,.own 640256),(30,.sl [.i,.i,.sl [.i]] x),(31,.int .i64 nX),(32,.int .i64 oc)],hp:=[(64,.box 65 [.int .i64 xt,.int .i64 uX,.int .i64 xu,.int .i64 xv,.int .i64 vc,.int .i64 vd,.int .i64 ve,.sl [.i] vf,.sl [.i,.i,.sl [.i]] sX,.int .i64 qR]),(640256,.row 3 [.i] all false true)],ok:=true,ls:=[],lm:=[]}
theorem noS:D8 Tryz.prog 141 R0:=by
 refine nO (A:=noP) nzQ Tryz.func141 fun ds (hw:kc (nh.ct++([])) ds) aJ=> ?_
 obtain⟨q,ds,rfl,h_q,hw⟩:=nh.nA (r:=_) hw
 obtain rfl:=nc hw
 obtain⟨N,hN⟩:=nzP Vm.ke ndC q h_q aJ
 exact⟨N,Eq.trans (b:=WK Vm.ke ndC (fun x nX vc vd ve vf left oc all=>LR (LQ Tryz.prog noQ noP N Tryz.f141 R0 [true,true,true,true,false,true,false] []) N (nyT left x nX oc q.Ring.oG q.Ring.nL q.Ring.Head q.Ring.qG vc vd ve vf q.nr q.Next all)) q) (by kernel_rfl) (Eq.trans (congrArg (fun l_=>WK Vm.ke ndC l_ q) (by funext x nX vc vd ve vf;exact nL3 _ _ _ N)) (hN.trans (by kernel_rfl)))⟩
abbrev XN:Sum:=R0
def no1:Ctx:=[(106,oP),(109,vO),(179,VP),(187,Nk)]
theorem nAd:bF Tryz.prog no1:=Ic oW (Ic Nj (Ic ni7 (Ic RP JA)))
def no0:List (Nat×lE):=[(6, {ca:=[(1,.mN),(3,.mN),(4,.mN),(5,.mN)],boxes:=[(64,[])]})]
def ne0:Bool→kM:=(fun r0=>((true,[.bool r0]):kM))
def nzh (ca k xt uX xu xv vc vd ve:Int) (vf sX:Rows) (qR:Int) (all:Rows):St:= {n:=74,sl:=[(1,.ptr 64 0),(3,.int .i64 ca),(4,.own 640256),(5,.int .i64 k)],hp:=[(64,.box 65 [.int .i64 xt,.int .i64 uX,.int .i64 xu,.int .i64 xv,.int .i64 vc,.int .i64 vd,.int .i64 ve,.sl [.i] vf,.sl [.i,.i,.sl [.i]] sX,.int .i64 qR]),(640256,.row 3 [.i] all false true)],ok:=true,ls:=[],lm:=[]}
theorem no3:D8 Tryz.prog 104 XN:=by
 refine nO (A:=no0) nAd Tryz.func104 fun ds (hw:kc (nh.ct++([])) ds) aJ=> ?_
 obtain⟨q,ds,rfl,h_q,hw⟩:=nh.nA (r:=_) hw
 obtain rfl:=nc hw
 obtain⟨N,hN⟩:=nAc Vm.ke ne0 q h_q aJ
 exact⟨N,Eq.trans (b:=XO Vm.ke ne0 (fun uX vc vd ve vf sX ca k all=>LR (LQ Tryz.prog no1 no0 N Tryz.f104 XN [true,true,true,true,false,true,false] []) N (nzh ca k q.Ring.oG uX q.Ring.Head q.Ring.qG vc vd ve vf sX q.Next all)) q) (by kernel_rfl) (Eq.trans (congrArg (fun l_=>XO Vm.ke ne0 l_ q) (by funext uX vc vd ve vf sX;exact nL3 _ _ _ N)) (hN.trans (by kernel_rfl)))⟩
def Nq:Sum:= {ps:=[⟨nP.ct,true⟩],rs:=[⟨[.d7 .i],false⟩],fn:=fun ds=>(true,[.int (qF (nP.nd ds 0))])}
def nbb:Ctx:=[(278,X3)]
theorem npo:bF Tryz.prog nbb:=Ic ngH JA
def nba:List (Nat×lE):=[(3, {ca:=[(3,.mN),(16,.mN),(17,.mN),(18,.mN)],boxes:=[(64,[])]})]
def Sl:Int→kM:=(fun r0=>((true,[.int r0]):kM))
def nml (n x nX wG Rv uV Te Tf:Int) (oc:Rows):St:= {n:=29,sl:=[(3,.int .i64 n),(16,.own 641024),(17,.int .i64 x),(18,.int .i64 nX)],hp:=[(64,.box 221 [.int .i64 wG,.int .i64 Rv,.int .i64 uV,.int .i64 Te,.int .i64 Tf]),(641024,.row 3 [.i] oc false true)],ok:=true,ls:=[],lm:=[]}
theorem npn:D8 Tryz.prog 314 Nq:=by
 refine nO (A:=nba) npo Tryz.func314 fun ds (hw:kc (nP.ct++([])) ds) _=> ?_
 obtain⟨f,ds,rfl,h_f,hw⟩:=nP.nA (r:=_) hw
 obtain rfl:=nc hw
 obtain⟨N,hN⟩:=npm Vm.ke Sl f h_f
 exact⟨N,Eq.trans (b:=Nr Vm.ke Sl (fun x oc n nX=>LR (LQ Tryz.prog nbb nba N Tryz.f314 Nq [true,true,false,true,false] []) N (nml n x nX f.Kind f.ql f.qK f.oN f.oM oc)) f) (by kernel_rfl) (Eq.trans (congrArg (fun l_=>Nr Vm.ke Sl l_ f) (by funext x oc;exact Wq _ _ _ N)) (hN.trans (by kernel_rfl)))⟩
abbrev SY:Sum:=Nq
def ncw:List (Nat×lE):=[(4, {ca:=[(3,.mN),(4,.mN),(5,.mN)],boxes:=[(64,[])]})]
def ncx:Int→kM:=(fun r0=>((true,[.int r0]):kM))
def nog (n k wG Rv uV Te Tf:Int) (list_:Rows):St:= {n:=32,sl:=[(3,.int .i64 n),(4,.own 640256),(5,.int .i64 k)],hp:=[(64,.box 221 [.int .i64 wG,.int .i64 Rv,.int .i64 uV,.int .i64 Te,.int .i64 Tf]),(640256,.row 3 [.i] list_ false true)],ok:=true,ls:=[],lm:=[]}
theorem nr3:D8 Tryz.prog 307 SY:=by
 refine nO (A:=ncw) JA Tryz.func307 fun ds (hw:kc (nP.ct++([])) ds) _=> ?_
 obtain⟨f,ds,rfl,h_f,hw⟩:=nP.nA (r:=_) hw
 obtain rfl:=nc hw
 obtain⟨N,hN⟩:=nr2 Vm.ke ncx f h_f
 exact⟨N,eL (fun l_=>SZ Vm.ke ncx l_ f) (funext fun list_=>Wq (LQ Tryz.prog [] ncw N Tryz.f307 SY [true,true,true,false,true,false] []) (fun n k=>nog n k f.Kind f.ql f.qK f.oN f.oM list_) _ N) hN⟩
def X9:Sum:= {ps:=[⟨ni.ct,true⟩,⟨nP.ct,true⟩],rs:=[⟨[.d7 .i],false⟩],fn:=fun ds=>(true,[.int (ni4 (ni.nd ds 0) (nP.nd ds 1))])}
def ngQ:List (Nat×lE):=[(2, {ca:=[(3,.mN),(8,.mN),(9,.mN),(10,.mN)],boxes:=[(128,[]),(192,[])]})]
def X8:Int→kM:=(fun r0=>((true,[.int r0]):kM))
def ntW (x:Rows) (nX oc:Int) (tq:Rows) (wG Rv uV Te Tf:Int):St:= {n:=26,sl:=[(3,.ptr 192 0),(8,.sl [.i,.i,.i,.i,.i,.i,.i] x),(9,.int .i64 nX),(10,.int .i64 oc)],hp:=[(128,.box 73 [.sl [.i,.i,.i,.i,.i,.i,.i] tq]),(192,.box 221 [.int .i64 wG,.int .i64 Rv,.int .i64 uV,.int .i64 Te,.int .i64 Tf])],ok:=true,ls:=[],lm:=[]}
theorem nwK:D8 Tryz.prog 269 X9:=by
 refine nO (A:=ngQ) JA Tryz.func269 fun ds (hw:kc (ni.ct++(nP.ct++([]))) ds) _=> ?_
 obtain⟨t,ds,rfl,h_t,hw⟩:=ni.nA (r:=_) hw
 obtain⟨f,ds,rfl,_,hw⟩:=nP.nA (r:=_) hw
 obtain rfl:=nc hw
 obtain⟨N,hN⟩:=nwJ Vm.ke X8 t f h_t
 exact⟨N,Eq.trans (b:=RE Vm.ke X8 (fun x nX wG Rv uV Te Tf oc=>LR (LQ Tryz.prog [] ngQ N Tryz.f269 X9 [true,false,true,false] []) N (ntW x nX oc t.nF wG Rv uV Te Tf)) t f) (by kernel_rfl) (Eq.trans (congrArg (fun l_=>RE Vm.ke X8 l_ t f) (by funext x nX wG Rv uV Te Tf;exact nL1 _ _ _ N)) (hN.trans (by kernel_rfl)))⟩
def Wc:Sum:= {ps:=[⟨ni.ct,true⟩,⟨nP.ct,true⟩],rs:=[⟨[.d7 .i],false⟩],fn:=fun ds=>(nAT (ni.nd ds 0) (nP.nd ds 1),[.int (naD (ni.nd ds 0) (nP.nd ds 1))])}
def ne8:Ctx:=[(307,SY)]
theorem nvI:bF Tryz.prog ne8:=Ic nr3 JA
def ne7:List (Nat×lE):=[(2, {ca:=[(2,.mN),(3,.mN),(5,.mN)],boxes:=[(128,[]),(192,[])]})]
def Wb:Int→kM:=(fun r0=>((true,[.int r0]):kM))
def nsH (k:Int) (tq:Rows) (wG Rv uV Te Tf:Int):St:= {n:=41,sl:=[(2,.ptr 128 0),(3,.ptr 192 0),(5,.int .i64 k)],hp:=[(128,.box 73 [.sl [.i,.i,.i,.i,.i,.i,.i] tq]),(192,.box 221 [.int .i64 wG,.int .i64 Rv,.int .i64 uV,.int .i64 Te,.int .i64 Tf])],ok:=true,ls:=[],lm:=[]}
theorem nvH:D8 Tryz.prog 254 Wc:=by
 refine nO (A:=ne7) nvI Tryz.func254 fun ds (hw:kc (ni.ct++(nP.ct++([]))) ds) aJ=> ?_
 obtain⟨t,ds,rfl,_,hw⟩:=ni.nA (r:=_) hw
 obtain⟨f,ds,rfl,_,hw⟩:=nP.nA (r:=_) hw
 obtain rfl:=nc hw
 obtain⟨N,hN⟩:=nvG Vm.ke Wb t f aJ
 exact⟨N,Eq.trans (b:=Qd Vm.ke Wb (fun tq wG Rv uV Te Tf k=>LR (LQ Tryz.prog ne8 ne7 N Tryz.f254 Wc [true,false,true,false] []) N (nsH k tq wG Rv uV Te Tf)) t f) (by kernel_rfl) (Eq.trans (congrArg (fun l_=>Qd Vm.ke Wb l_ t f) (by funext tq wG Rv uV Te Tf;exact nL1 _ _ _ N)) (hN.trans (by kernel_rfl)))⟩
def naC:Sum:= {ps:=[⟨nP.ct,true⟩],rs:=[⟨[.own 3 [.i]],false⟩],fn:=fun ds=>(true,[.sl (TS (nP.nd ds 0))])}
def nkk:Ctx:=[(314,Nq)]
theorem ny0:bF Tryz.prog nkk:=Ic npn JA
def nkj:List (Nat×lE):=[(3, {ca:=[(1,.mN),(3,.mN),(4,.mN)],boxes:=[(64,[])]})]
def naB:Rows→kM:=(fun r0=>((true,[.sl r0]):kM))
def nwL (i wG Rv uV Te Tf:Int) (nV:Rows):St:= {n:=19,sl:=[(1,.ptr 64 0),(3,.own 640192),(4,.int .i64 i)],hp:=[(64,.box 221 [.int .i64 wG,.int .i64 Rv,.int .i64 uV,.int .i64 Te,.int .i64 Tf]),(640192,.row 3 [.i] nV false true)],ok:=true,ls:=[],lm:=[]}
theorem nyZ:D8 Tryz.prog 270 naC:=by
 refine nO (A:=nkj) ny0 Tryz.func270 fun ds (hw:kc (nP.ct++([])) ds) _=> ?_
 obtain⟨f,ds,rfl,_,hw⟩:=nP.nA (r:=_) hw
 obtain rfl:=nc hw
 obtain⟨N,hN⟩:=nyY Vm.ke naB f
 exact⟨N,Eq.trans (b:=TW Vm.ke naB (fun wG Rv uV Te Tf i nV=>LR (LQ Tryz.prog nkk nkj N Tryz.f270 naC [true,true,false,true,false] []) N (nwL i wG Rv uV Te Tf nV)) f) (by kernel_rfl) (Eq.trans (congrArg (fun l_=>TW Vm.ke naB l_ f) (by funext wG Rv uV Te Tf;exact Wq _ _ _ N)) (hN.trans (by kernel_rfl)))⟩
def uA:Sum:= {ps:=[⟨ni.ct,true⟩],rs:=[⟨[.d7 .bool],false⟩],fn:=fun ds=>(true,[.bool (yK (ni.nd ds 0))])}
def yz:Ctx:=[(143,oy),(269,X9),(270,naC)]
theorem ntN:bF Tryz.prog yz:=Ic oC (Ic nwK (Ic nyZ JA))
def yy:List (Nat×lE):=[(4, {ca:=[(1,.mN),(12,.mN),(13,.mN),(14,.mN)],boxes:=[(64,[])]}),(14, {ca:=[(1,.mN),(3,.mN),(12,.mN),(13,.mN),(14,.mN),(49,.mN),(50,.mN),(51,.mN)],boxes:=[(64,[]),(256,[])]})]
def sF:Bool→kM:=(fun r0=>((true,[.bool r0]):kM))
def tO (x:Rows) (nX oc:Int) (tq:Rows):St:= {n:=67,sl:=[(1,.ptr 64 0),(12,.sl [.i,.i,.i,.i,.i,.i,.i] x),(13,.int .i64 nX),(14,.int .i64 oc)],hp:=[(64,.box 73 [.sl [.i,.i,.i,.i,.i,.i,.i] tq])],ok:=true,ls:=[],lm:=[]}
def NF (oc:Int) (x:Rows) (nX OD x_6 x_7:Int) (tq:Rows) (s tw rK Yq Yr s_5 s_6:Int) (x_8:Rows):St:= {n:=67,sl:=[(1,.ptr 64 0),(3,.int .i64 oc),(12,.sl [.i,.i,.i,.i,.i,.i,.i] x),(13,.int .i64 nX),(14,.int .i64 OD),(49,.own 643136),(50,.int .i64 x_6),(51,.int .i64 x_7)],hp:=[(64,.box 73 [.sl [.i,.i,.i,.i,.i,.i,.i] tq]),(256,.box 262 [.int .i64 s,.int .i64 tw,.int .i64 rK,.int .i64 Yq,.int .i64 Yr,.int .i64 s_5,.int .i64 s_6]),(643136,.row 3 [.i] x_8 false true)],ok:=true,ls:=[],lm:=[]}
noncomputable def ND (N:Nat) (o0:St→kM):(St→kM)→St→kM:=LQ Tryz.prog yz yy N Tryz.f217 uA [true,true,false,true,false,false,true,true,false,false,true,true,true,true,true,false] [o0]
noncomputable def uZ (N:Nat):(St→kM)→St→kM:=LQ Tryz.prog yz yy N Tryz.f217 uA [true,true,false,true,false] []
theorem npQ (N:Nat) (o0:St→kM) (oc:Int) (x:Rows) (nX OD x_6:Int) (tq:Rows) (s tw rK Yq Yr s_5 s_6:Int) (x_8:Rows) (ih:St→kM) (x_7:Int):ND N o0 ih (NF oc x nX OD x_6 x_7 tq s tw rK Yq Yr s_5 s_6 x_8)=xl Vm.ke sF (fun oc=>o0 (tO x nX oc tq)) oc OD x_6 tq x_8 (fun x_7=>ih (NF oc x nX OD x_6 x_7 tq s tw rK Yq Yr s_5 s_6 x_8)) x_7:=by kernel_rfl
theorem npS (N:Nat) (o0:St→kM) (oc:Int) (x:Rows) (nX OD x_6:Int) (tq:Rows) (s tw rK Yq Yr s_5 s_6:Int) (x_8:Rows) (m_:Nat):(fun x_7=>LR (ND N o0) m_ (NF oc x nX OD x_6 x_7 tq s tw rK Yq Yr s_5 s_6 x_8))=tN Vm.ke sF N (fun oc=>o0 (tO x nX oc tq)) oc OD x_6 tq x_8 m_:=by
 induction m_ with
 | zero=>rfl
 | succ m_ ih=>
  funext x_7
  refine (npQ N o0 oc x nX OD x_6 tq s tw rK Yq Yr s_5 s_6 x_8 (LR (ND N o0) m_) x_7).trans ?_
  rw[ih]
  rfl
theorem npP (N:Nat) (x:Rows) (nX:Int) (tq:Rows) (ih:St→kM) (oc:Int):uZ N ih (tO x nX oc tq)=xk Vm.ke sF (fun oc OD x_6 x_8 x_7=>LR (ND N ih) N (NF oc x nX OD x_6 x_7 tq (rI (nth x (Int.toNat oc)) 0) (rI (nth x (Int.toNat oc)) 1) (rI (nth x (Int.toNat oc)) 2) (rI (nth x (Int.toNat oc)) 3) (rI (nth x (Int.toNat oc)) 4) (rI (nth x (Int.toNat oc)) 5) (rI (nth x (Int.toNat oc)) 6) x_8)) x nX tq (fun oc=>ih (tO x nX oc tq)) oc:=by kernel_rfl
theorem npR (N:Nat) (x:Rows) (nX:Int) (tq:Rows) (m_:Nat):(fun oc=>LR (uZ N) m_ (tO x nX oc tq))=sR Vm.ke sF N x nX tq m_:=by
 induction m_ with
 | zero=>rfl
 | succ m_ ih=>
  funext oc
  refine (npP N x nX tq (LR (uZ N) m_) oc).trans ?_
  have e1:=funext fun oc=>funext fun OD=>funext fun x_6=>funext fun x_8=>npS N (LR (uZ N) m_) oc x nX OD x_6 tq (rI (nth x (Int.toNat oc)) 0) (rI (nth x (Int.toNat oc)) 1) (rI (nth x (Int.toNat oc)) 2) (rI (nth x (Int.toNat oc)) 3) (rI (nth x (Int.toNat oc)) 4) (rI (nth x (Int.toNat oc)) 5) (rI (nth x (Int.toNat oc)) 6) x_8 N
  rw[e1]
  rw[ih]
  rfl
theorem ntM (N:Nat) (t:ni):HT Tryz.prog yz yy N Tryz.f217 uA (t.enc++([]))=Pt Vm.ke sF N t:=by
 have nob:HT Tryz.prog yz yy N Tryz.f217 uA (t.enc++([]))=Pu Vm.ke sF (fun x nX tq oc=>LR (uZ N) N (tO x nX oc tq)) t:=by kernel_rfl
 refine nob.trans ?_
 unfold Pt
 have e0:(fun x nX tq oc=>LR (uZ N) N (tO x nX oc tq))=(fun x nX tq=>sR Vm.ke sF N x nX tq N):=by
  funext x nX tq
  exact npR N x nX tq N
 exact congrArg (fun l_=>Pu Vm.ke sF l_ t) e0
theorem ntL:D8 Tryz.prog 217 uA:=by
 refine nO (A:=yy) ntN Tryz.func217 fun ds (hw:kc (ni.ct++([])) ds) _=> ?_
 obtain⟨t,ds,rfl,h_t,hw⟩:=ni.nA (r:=_) hw
 obtain rfl:=nc hw
 obtain⟨N,hN⟩:=ntK Vm.ke sF t h_t
 exact⟨N,((ntM N t).trans hN).trans (by kernel_rfl)⟩
abbrev V1:Sum:=uA
def neX:Ctx:=[(106,oP),(254,Wc)]
theorem nvy:bF Tryz.prog neX:=Ic oW (Ic nvH JA)
def neW:List (Nat×lE):=[(4, {ca:=[(1,.mN),(3,.mN)],boxes:=[(64,[])]})]
def neY:Bool→kM:=(fun r0=>((true,[.bool r0]):kM))
def nsw (k:Int) (tq:Rows):St:= {n:=49,sl:=[(1,.ptr 64 0),(3,.int .i64 k)],hp:=[(64,.box 73 [.sl [.i,.i,.i,.i,.i,.i,.i] tq])],ok:=true,ls:=[],lm:=[]}
theorem nvx:D8 Tryz.prog 189 V1:=by
 refine nO (A:=neW) nvy Tryz.func189 fun ds (hw:kc (ni.ct++([])) ds) _=> ?_
 obtain⟨t,ds,rfl,h_t,hw⟩:=ni.nA (r:=_) hw
 obtain rfl:=nc hw
 obtain⟨N,hN⟩:=nvw Vm.ke neY t h_t
 exact⟨N,eL (fun l_=>V2 Vm.ke neY l_ t) (funext fun tq=>nL1 (LQ Tryz.prog neX neW N Tryz.f189 V1 [true,true,false,true,false] []) (fun k=>nsw k tq) _ N) hN⟩
def NA:Sum:= {ps:=[⟨nG.ct,true⟩,⟨[.i],false⟩],rs:=[⟨[.d7 .bool],false⟩],fn:=fun ds=>(true,[.bool (yp (nG.nd ds 0) (rI ds 2))])}
def nbq:Ctx:=[(143,oy),(271,QD)]
theorem npL:bF Tryz.prog nbq:=Ic oC (Ic nmJ JA)
def nbp:List (Nat×lE):=[(4, {ca:=[(1,.mN),(24,.mN),(25,.mN),(26,.mN)],boxes:=[(128,[])]})]
def Sr:Bool→kM:=(fun r0=>((true,[.bool r0]):kM))
def nmv (nt:Int) (x:Rows) (nX oc:Int) (tw:Bytes) (rK:Rows):St:= {n:=36,sl:=[(1,.int .i64 nt),(24,.sl [.i] x),(25,.int .i64 nX),(26,.int .i64 oc)],hp:=[(128,.box 74 [.str tw,.sl [.i] rK])],ok:=true,ls:=[],lm:=[]}
theorem npK:D8 Tryz.prog 218 NA:=by
 refine nO (A:=nbp) npL Tryz.func218 fun ds (hw:kc (nG.ct++(.i::([]))) ds) _=> ?_
 obtain⟨s,ds,rfl,RQ,hw⟩:=nG.nA (r:=_) hw
 obtain⟨nt,ds,rfl,_,hw⟩:=nj hw
 obtain rfl:=nc hw
 obtain⟨N,hN⟩:=npJ Vm.ke Sr s nt RQ
 exact⟨N,Eq.trans (b:=NB Vm.ke Sr (fun x nX oc=>LR (LQ Tryz.prog nbq nbp N Tryz.f218 NA [true,true,false,true,false] []) N (nmv nt x nX oc s.Key s.Table)) s nt) (by kernel_rfl) (Eq.trans (congrArg (fun l_=>NB Vm.ke Sr l_ s nt) (by funext x nX;exact nL1 _ _ _ N)) (hN.trans (by kernel_rfl)))⟩
abbrev S6:Sum:=NA
def ncP:Ctx:=[(106,oP),(255,ne5)]
theorem nss:bF Tryz.prog ncP:=Ic oW (Ic nvC JA)
def ncO:List (Nat×lE):=[(4, {ca:=[(1,.mN),(2,.mN),(5,.mN)],boxes:=[(128,[])]})]
def ncQ:Bool→kM:=(fun r0=>((true,[.bool r0]):kM))
def noq (nt k:Int) (tw:Bytes) (rK:Rows):St:= {n:=38,sl:=[(1,.int .i64 nt),(2,.ptr 128 0),(5,.int .i64 k)],hp:=[(128,.box 74 [.str tw,.sl [.i] rK])],ok:=true,ls:=[],lm:=[]}
theorem nsr:D8 Tryz.prog 190 S6:=by
 refine nO (A:=ncO) nss Tryz.func190 fun ds (hw:kc (nG.ct++(.i::([]))) ds) _=> ?_
 obtain⟨s,ds,rfl,RQ,hw⟩:=nG.nA (r:=_) hw
 obtain⟨nt,ds,rfl,_,hw⟩:=nj hw
 obtain rfl:=nc hw
 obtain⟨N,hN⟩:=nsq Vm.ke ncQ s nt RQ
 exact⟨N,eL (fun l_=>S7 Vm.ke ncQ l_ s nt) (funext fun rK=>nL1 (LQ Tryz.prog ncP ncO N Tryz.f190 S6 [true,true,false,true,false] []) (fun k=>noq nt k s.Key rK) _ N) hN⟩
def sE:Sum:= {ps:=[⟨nk.ct,true⟩,⟨[.i],false⟩],rs:=[⟨[.d7 .bool],false⟩],fn:=fun ds=>(true,[.bool (rz (nk.nd ds 0) (rI ds 4))])}
def vl:Ctx:=[(216,Po),(217,uA),(218,NA)]
theorem nj6:bF Tryz.prog vl:=Ic ntF (Ic ntL (Ic npK JA))
def vk:List (Nat×lE):=[(4, {ca:=[(1,.mN),(2,.mN),(27,.mN),(28,.mN),(29,.mN)],boxes:=[(128,[])]}),(10, {ca:=[(1,.mN),(45,.mN),(46,.mN),(47,.mN)],boxes:=[(128,[])]})]
def ra:Bool→kM:=(fun r0=>((true,[.bool r0]):kM))
def uz (nt:Int) (x:Rows) (nX oc:Int) (tw rK:Rows) (Yq:Bytes) (Yr:Rows):St:= {n:=61,sl:=[(1,.int .i64 nt),(2,.ptr 128 0),(27,.sl [.i,.i,.i,.i,.i,.i,.i,.i,.i] x),(28,.int .i64 nX),(29,.int .i64 oc)],hp:=[(128,.box 76 [.sl [.i,.i,.i,.i,.i,.i,.i,.i,.i] tw,.sl [.i,.i,.i,.i,.i,.i,.i] rK,.str Yq,.sl [.i] Yr])],ok:=true,ls:=[],lm:=[]}
def wQ (nt:Int) (rK:Rows) (xf OD:Int) (tw s_6:Rows) (Yq:Bytes) (Yr:Rows):St:= {n:=61,sl:=[(1,.int .i64 nt),(45,.sl [.i,.i,.i,.i,.i,.i,.i] rK),(46,.int .i64 xf),(47,.int .i64 OD)],hp:=[(128,.box 76 [.sl [.i,.i,.i,.i,.i,.i,.i,.i,.i] tw,.sl [.i,.i,.i,.i,.i,.i,.i] s_6,.str Yq,.sl [.i] Yr])],ok:=true,ls:=[],lm:=[]}
noncomputable def wP (N:Nat):(St→kM)→St→kM:=LQ Tryz.prog vl vk N Tryz.f147 sE [true,true,true,false,true,false] []
noncomputable def uw (N:Nat):(St→kM)→St→kM:=LQ Tryz.prog vl vk N Tryz.f147 sE [true,true,false,true,false] []
theorem nhN (N:Nat) (nt:Int) (rK:Rows) (xf:Int) (tw s_6:Rows) (Yq:Bytes) (Yr:Rows) (ih:St→kM) (OD:Int):wP N ih (wQ nt rK xf OD tw s_6 Yq Yr)=uy Vm.ke ra nt rK xf (fun OD=>ih (wQ nt rK xf OD tw s_6 Yq Yr)) OD:=by kernel_rfl
theorem nhP (N:Nat) (nt:Int) (rK:Rows) (xf:Int) (tw s_6:Rows) (Yq:Bytes) (Yr:Rows) (m_:Nat):(fun OD=>LR (wP N) m_ (wQ nt rK xf OD tw s_6 Yq Yr))=rN Vm.ke ra N nt rK xf m_:=by
 induction m_ with
 | zero=>rfl
 | succ m_ ih=>
  funext OD
  refine (nhN N nt rK xf tw s_6 Yq Yr (LR (wP N) m_) OD).trans ?_
  rw[ih]
  rfl
theorem nhM (N:Nat) (nt:Int) (x:Rows) (nX:Int) (tw rK:Rows) (Yq:Bytes) (Yr:Rows) (ih:St→kM) (oc:Int):uw N ih (uz nt x nX oc tw rK Yq Yr)=ux Vm.ke ra (fun xf OD=>LR (wP N) N (wQ nt rK xf OD tw rK Yq Yr)) nt x nX rK (fun oc=>ih (uz nt x nX oc tw rK Yq Yr)) oc:=by kernel_rfl
theorem nhO (N:Nat) (nt:Int) (x:Rows) (nX:Int) (tw rK:Rows) (Yq:Bytes) (Yr:Rows) (m_:Nat):(fun oc=>LR (uw N) m_ (uz nt x nX oc tw rK Yq Yr))=rM Vm.ke ra N nt x nX rK m_:=by
 induction m_ with
 | zero=>rfl
 | succ m_ ih=>
  funext oc
  refine (nhM N nt x nX tw rK Yq Yr (LR (uw N) m_) oc).trans ?_
  have e1:=funext fun xf=>nhP N nt rK xf tw rK Yq Yr N
  rw[e1]
  rw[ih]
  rfl
theorem nj5 (N:Nat) (s:nk) (nt:Int):HT Tryz.prog vl vk N Tryz.f147 sE (s.enc++(.int nt::([])))=xL Vm.ke ra N s nt:=by
 have nob:HT Tryz.prog vl vk N Tryz.f147 sE (s.enc++(.int nt::([])))=xM Vm.ke ra (fun x nX rK oc=>LR (uw N) N (uz nt x nX oc s.oO rK s.oF.Key s.oF.Table)) s nt:=by kernel_rfl
 refine nob.trans ?_
 unfold xL
 have e0:(fun x nX rK oc=>LR (uw N) N (uz nt x nX oc s.oO rK s.oF.Key s.oF.Table))=(fun x nX rK=>rM Vm.ke ra N nt x nX rK N):=by
  funext x nX rK
  exact nhO N nt x nX s.oO rK s.oF.Key s.oF.Table N
 exact congrArg (fun l_=>xM Vm.ke ra l_ s nt) e0
theorem nj4:D8 Tryz.prog 147 sE:=by
 refine nO (A:=vk) nj6 Tryz.func147 fun ds (hw:kc (nk.ct++(.i::([]))) ds) _=> ?_
 obtain⟨s,ds,rfl,RQ,hw⟩:=nk.nA (r:=_) hw
 obtain⟨nt,ds,rfl,_,hw⟩:=nj hw
 obtain rfl:=nc hw
 obtain⟨N,hN⟩:=nj3 Vm.ke ra s nt RQ
 exact⟨N,((nj5 N s nt).trans hN).trans (by kernel_rfl)⟩
abbrev tL:Sum:=sE
def vC:Ctx:=[(188,VU),(189,V1),(190,S6)]
theorem nl3:bF Tryz.prog vC:=Ic nvr (Ic nvx (Ic nsr JA))
def vB:List (Nat×lE):=[(4, {ca:=[(1,.mN),(2,.mN),(5,.mN)],boxes:=[(128,[])]}),(9, {ca:=[(1,.mN),(2,.mN),(6,.mN)],boxes:=[(128,[])]})]
def rj:Bool→kM:=(fun r0=>((true,[.bool r0]):kM))
def uP (nt k:Int) (tw rK:Rows) (Yq:Bytes) (Yr:Rows):St:= {n:=56,sl:=[(1,.int .i64 nt),(2,.ptr 128 0),(5,.int .i64 k)],hp:=[(128,.box 76 [.sl [.i,.i,.i,.i,.i,.i,.i,.i,.i] tw,.sl [.i,.i,.i,.i,.i,.i,.i] rK,.str Yq,.sl [.i] Yr])],ok:=true,ls:=[],lm:=[]}
def xd (nt qE:Int) (tw rK:Rows) (Yq:Bytes) (Yr:Rows):St:= {n:=56,sl:=[(1,.int .i64 nt),(2,.ptr 128 0),(6,.int .i64 qE)],hp:=[(128,.box 76 [.sl [.i,.i,.i,.i,.i,.i,.i,.i,.i] tw,.sl [.i,.i,.i,.i,.i,.i,.i] rK,.str Yq,.sl [.i] Yr])],ok:=true,ls:=[],lm:=[]}
noncomputable def xc (N:Nat):(St→kM)→St→kM:=LQ Tryz.prog vC vB N Tryz.f107 tL [true,true,true,false,true,false] []
noncomputable def uM (N:Nat):(St→kM)→St→kM:=LQ Tryz.prog vC vB N Tryz.f107 tL [true,true,false,true,false] []
theorem njm (N:Nat) (nt:Int) (tw rK:Rows) (Yq:Bytes) (Yr:Rows) (ih:St→kM) (qE:Int):xc N ih (xd nt qE tw rK Yq Yr)=uO Vm.ke rj nt rK (fun qE=>ih (xd nt qE tw rK Yq Yr)) qE:=by kernel_rfl
theorem njo (N:Nat) (nt:Int) (tw rK:Rows) (Yq:Bytes) (Yr:Rows) (m_:Nat):(fun qE=>LR (xc N) m_ (xd nt qE tw rK Yq Yr))=rT Vm.ke rj N nt rK m_:=by
 induction m_ with
 | zero=>rfl
 | succ m_ ih=>
  funext qE
  refine (njm N nt tw rK Yq Yr (LR (xc N) m_) qE).trans ?_
  rw[ih]
  rfl
theorem njl (N:Nat) (nt:Int) (tw rK:Rows) (Yq:Bytes) (Yr:Rows) (ih:St→kM) (k:Int):uM N ih (uP nt k tw rK Yq Yr)=uN Vm.ke rj (fun qE=>LR (xc N) N (xd nt qE tw rK Yq Yr)) nt tw rK (fun k=>ih (uP nt k tw rK Yq Yr)) k:=by kernel_rfl
theorem njn (N:Nat) (nt:Int) (tw rK:Rows) (Yq:Bytes) (Yr:Rows) (m_:Nat):(fun k=>LR (uM N) m_ (uP nt k tw rK Yq Yr))=rQ Vm.ke rj N nt tw rK m_:=by
 induction m_ with
 | zero=>rfl
 | succ m_ ih=>
  funext k
  refine (njl N nt tw rK Yq Yr (LR (uM N) m_) k).trans ?_
  have e1:=njo N nt tw rK Yq Yr N
  rw[e1]
  rw[ih]
  rfl
theorem nl2 (N:Nat) (s:nk) (nt:Int):HT Tryz.prog vC vB N Tryz.f107 tL (s.enc++(.int nt::([])))=yj Vm.ke rj N s nt:=by
 have nob:HT Tryz.prog vC vB N Tryz.f107 tL (s.enc++(.int nt::([])))=yk Vm.ke rj (fun tw rK k=>LR (uM N) N (uP nt k tw rK s.oF.Key s.oF.Table)) s nt:=by kernel_rfl
 refine nob.trans ?_
 unfold yj
 have e0:(fun tw rK k=>LR (uM N) N (uP nt k tw rK s.oF.Key s.oF.Table))=(fun tw rK=>rQ Vm.ke rj N nt tw rK N):=by
  funext tw rK
  exact njn N nt tw rK s.oF.Key s.oF.Table N
 exact congrArg (fun l_=>yk Vm.ke rj l_ s nt) e0
theorem nl1:D8 Tryz.prog 107 tL:=by
 refine nO (A:=vB) nl3 Tryz.func107 fun ds (hw:kc (nk.ct++(.i::([]))) ds) _=> ?_
 obtain⟨s,ds,rfl,RQ,hw⟩:=nk.nA (r:=_) hw
 obtain⟨nt,ds,rfl,_,hw⟩:=nj hw
 obtain rfl:=nc hw
 obtain⟨N,hN⟩:=nl0 Vm.ke rj s nt RQ
 exact⟨N,((nl2 N s nt).trans hN).trans (by kernel_rfl)⟩
def vF:Sum:= {ps:=[⟨ny.ct,true⟩],rs:=[⟨[.d7 .bool],false⟩],fn:=fun ds=>(nas (ny.nd ds 0),[.bool (nah (ny.nd ds 0))])}
def zQ:Ctx:=[(139,uY),(140,vj),(141,R0),(142,Nn),(143,oy),(144,ndB),(145,uc),(146,Sv),(147,sE)]
theorem nwk:bF Tryz.prog zQ:=Ic So (Ic Wz (Ic noS (Ic npk (Ic oC (Ic nzN (Ic zR (Ic npZ (Ic nj4 JA))))))))
def zP:List (Nat×lE):=[(5, {ca:=[(1,.mN),(3,.mN),(61,.mN),(62,.mN)],boxes:=[(64,[])]}),(12, {ca:=[(1,.mN),(3,.mN),(103,.mN),(104,.mN),(105,.mN)],boxes:=[(64,[]),(320,[])]})]
def tu:Bool→kM:=(fun r0=>((true,[.bool r0]):kM))
def yw (n x nX:Int) (h_1 h_2:Rows) (h_3 h_4 h_5 h_6 h_7 h_8 h_9:Int) (wH wI:Rows) (wJ:Int) (qI pT pb qq:Rows) (qC:Int) (qD:Bool) (qs pn po:Rows) (pr:Bytes) (pq qt:Rows) (wK:Bool) (qu qv qw:Rows) (qM qN qO qP qQ:Int):St:= {n:=117,sl:=[(1,.ptr 64 0),(3,.int .i64 n),(61,.int .i64 x),(62,.int .i64 nX)],hp:=[(64,.box 80 [.sl [.str] h_1,.sl [.i,.i,.i,.bool] h_2,.int .i64 h_3,.int .i64 h_4,.int .i64 h_5,.int .i64 h_6,.int .i64 h_7,.int .i64 h_8,.int .i64 h_9,.sl [.i] wH,.sl [.i,.i,.sl [.i]] wI,.int .i64 wJ,.sl [.i,.i,.i,.i,.i,.i,.i,.i,.i,.i,.i,.i,.i,.i,.i,.i,.i,.i,.i,.i,.i,.i,.i,.i,.i,.str,.i,.i,.bool,.i] qI,.sl [.i,.i,.i,.sl [.i]] pT,.sl [.i,.i,.i,.i,.bool,.bool] pb,.sl [.bool] qq,.int .i64 qC,.bool qD,.sl [.i] qs,.sl [.i,.i,.i,.i,.i,.i,.i,.i,.i] pn,.sl [.i,.i,.i,.i,.i,.i,.i] po,.str pr,.sl [.i] pq,.sl [.i,.i,.i,.i,.i,.i,.str,.bool] qt,.bool wK,.sl [.str] qu,.sl [.i] qv,.sl [.i] qw,.int .i64 qM,.int .i64 qN,.int .i64 qO,.int .i64 qP,.int .i64 qQ])],ok:=true,ls:=[],lm:=[]}
def Ph (n oc OO:Int) (h_1 h_2:Rows) (h_3 h_4 h_5 h_6 h_7 h_8 h_9:Int) (wH wI:Rows) (wJ:Int) (qI pT pb qq:Rows) (qC:Int) (qD:Bool) (qs pn po:Rows) (pr:Bytes) (pq qt:Rows) (wK:Bool) (qu qv qw:Rows) (qM qN qO qP qQ c c_1 c_2 c_3 c_4:Int) (xf:Rows):St:= {n:=117,sl:=[(1,.ptr 64 0),(3,.int .i64 n),(103,.own 646592),(104,.int .i64 oc),(105,.int .i64 OO)],hp:=[(64,.box 80 [.sl [.str] h_1,.sl [.i,.i,.i,.bool] h_2,.int .i64 h_3,.int .i64 h_4,.int .i64 h_5,.int .i64 h_6,.int .i64 h_7,.int .i64 h_8,.int .i64 h_9,.sl [.i] wH,.sl [.i,.i,.sl [.i]] wI,.int .i64 wJ,.sl [.i,.i,.i,.i,.i,.i,.i,.i,.i,.i,.i,.i,.i,.i,.i,.i,.i,.i,.i,.i,.i,.i,.i,.i,.i,.str,.i,.i,.bool,.i] qI,.sl [.i,.i,.i,.sl [.i]] pT,.sl [.i,.i,.i,.i,.bool,.bool] pb,.sl [.bool] qq,.int .i64 qC,.bool qD,.sl [.i] qs,.sl [.i,.i,.i,.i,.i,.i,.i,.i,.i] pn,.sl [.i,.i,.i,.i,.i,.i,.i] po,.str pr,.sl [.i] pq,.sl [.i,.i,.i,.i,.i,.i,.str,.bool] qt,.bool wK,.sl [.str] qu,.sl [.i] qv,.sl [.i] qw,.int .i64 qM,.int .i64 qN,.int .i64 qO,.int .i64 qP,.int .i64 qQ]),(320,.box 78 [.int .i64 c,.int .i64 c_1,.int .i64 c_2,.int .i64 c_3,.int .i64 c_4]),(646592,.row 3 [.i] xf false true)],ok:=true,ls:=[],lm:=[]}
noncomputable def Pf (N:Nat):(St→kM)→St→kM:=LQ Tryz.prog zQ zP N Tryz.f47 vF [true,true,true,true,true,false,true,false] []
noncomputable def yu (N:Nat):(St→kM)→St→kM:=LQ Tryz.prog zQ zP N Tryz.f47 vF [true,true,true,false,true,false] []
theorem nto (N:Nat) (n oc:Int) (h_1 h_2:Rows) (h_3 h_4 h_5 h_6 h_7 h_8 h_9:Int) (wH wI:Rows) (wJ:Int) (qI pT pb qq:Rows) (qC:Int) (qD:Bool) (qs pn po:Rows) (pr:Bytes) (pq qt:Rows) (wK:Bool) (qu qv qw:Rows) (qM qN qO qP qQ c c_1 c_2 c_3 c_4:Int) (xf:Rows) (ih:St→kM) (OO:Int):Pf N ih (Ph n oc OO h_1 h_2 h_3 h_4 h_5 h_6 h_7 h_8 h_9 wH wI wJ qI pT pb qq qC qD qs pn po pr pq qt wK qu qv qw qM qN qO qP qQ c c_1 c_2 c_3 c_4 xf)=Pg Vm.ke tu n oc pn po pr pq xf (fun OO=>ih (Ph n oc OO h_1 h_2 h_3 h_4 h_5 h_6 h_7 h_8 h_9 wH wI wJ qI pT pb qq qC qD qs pn po pr pq qt wK qu qv qw qM qN qO qP qQ c c_1 c_2 c_3 c_4 xf)) OO:=by kernel_rfl
theorem ntq (N:Nat) (n oc:Int) (h_1 h_2:Rows) (h_3 h_4 h_5 h_6 h_7 h_8 h_9:Int) (wH wI:Rows) (wJ:Int) (qI pT pb qq:Rows) (qC:Int) (qD:Bool) (qs pn po:Rows) (pr:Bytes) (pq qt:Rows) (wK:Bool) (qu qv qw:Rows) (qM qN qO qP qQ c c_1 c_2 c_3 c_4:Int) (xf:Rows) (m_:Nat):(fun OO=>LR (Pf N) m_ (Ph n oc OO h_1 h_2 h_3 h_4 h_5 h_6 h_7 h_8 h_9 wH wI wJ qI pT pb qq qC qD qs pn po pr pq qt wK qu qv qw qM qN qO qP qQ c c_1 c_2 c_3 c_4 xf))=uu Vm.ke tu N n oc pn po pr pq xf m_:=by
 induction m_ with
 | zero=>rfl
 | succ m_ ih=>
  funext OO
  refine (nto N n oc h_1 h_2 h_3 h_4 h_5 h_6 h_7 h_8 h_9 wH wI wJ qI pT pb qq qC qD qs pn po pr pq qt wK qu qv qw qM qN qO qP qQ c c_1 c_2 c_3 c_4 xf (LR (Pf N) m_) OO).trans ?_
  rw[ih]
  rfl
theorem ntn (N:Nat) (n x:Int) (h_1 h_2:Rows) (h_3 h_4 h_5 h_6 h_7 h_8 h_9:Int) (wH wI:Rows) (wJ:Int) (qI pT pb qq:Rows) (qC:Int) (qD:Bool) (qs pn po:Rows) (pr:Bytes) (pq qt:Rows) (wK:Bool) (qu qv qw:Rows) (qM qN qO qP qQ:Int) (ih:St→kM) (nX:Int):yu N ih (yw n x nX h_1 h_2 h_3 h_4 h_5 h_6 h_7 h_8 h_9 wH wI wJ qI pT pb qq qC qD qs pn po pr pq qt wK qu qv qw qM qN qO qP qQ)=yv Vm.ke tu (fun oc xf OO=>LR (Pf N) N (Ph n oc OO h_1 h_2 h_3 h_4 h_5 h_6 h_7 h_8 h_9 wH wI wJ qI pT pb qq qC qD qs pn po pr pq qt wK qu qv qw qM qN qO qP qQ qM qN qO qP qQ xf)) n x qI pT pb pn po pr pq qM qN qO qP qQ (fun nX=>ih (yw n x nX h_1 h_2 h_3 h_4 h_5 h_6 h_7 h_8 h_9 wH wI wJ qI pT pb qq qC qD qs pn po pr pq qt wK qu qv qw qM qN qO qP qQ)) nX:=by kernel_rfl
theorem ntp (N:Nat) (n x:Int) (h_1 h_2:Rows) (h_3 h_4 h_5 h_6 h_7 h_8 h_9:Int) (wH wI:Rows) (wJ:Int) (qI pT pb qq:Rows) (qC:Int) (qD:Bool) (qs pn po:Rows) (pr:Bytes) (pq qt:Rows) (wK:Bool) (qu qv qw:Rows) (qM qN qO qP qQ:Int) (m_:Nat):(fun nX=>LR (yu N) m_ (yw n x nX h_1 h_2 h_3 h_4 h_5 h_6 h_7 h_8 h_9 wH wI wJ qI pT pb qq qC qD qs pn po pr pq qt wK qu qv qw qM qN qO qP qQ))=sD Vm.ke tu N n x qI pT pb pn po pr pq qM qN qO qP qQ m_:=by
 induction m_ with
 | zero=>rfl
 | succ m_ ih=>
  funext nX
  refine (ntn N n x h_1 h_2 h_3 h_4 h_5 h_6 h_7 h_8 h_9 wH wI wJ qI pT pb qq qC qD qs pn po pr pq qt wK qu qv qw qM qN qO qP qQ (LR (yu N) m_) nX).trans ?_
  have e1:=funext fun oc=>funext fun xf=>ntq N n oc h_1 h_2 h_3 h_4 h_5 h_6 h_7 h_8 h_9 wH wI wJ qI pT pb qq qC qD qs pn po pr pq qt wK qu qv qw qM qN qO qP qQ qM qN qO qP qQ xf N
  rw[e1]
  rw[ih]
  rfl
theorem nwj (N:Nat) (h:ny):HT Tryz.prog zQ zP N Tryz.f47 vF (h.enc++([]))=Rz Vm.ke tu N h:=by
 have nob:HT Tryz.prog zQ zP N Tryz.f47 vF (h.enc++([]))=RA Vm.ke tu (fun n x qI pT pb pn po pr pq qM qN qO qP qQ nX=>LR (yu N) N (yw n x nX h.ov.nE h.Maps h.Tx.Ring.oG h.Tx.Ring.nL h.Tx.Ring.Head h.Tx.Ring.qG h.Tx.nI.oG h.Tx.nI.nL h.Tx.nI.Count h.Tx.nI.oB h.Tx.nr h.Tx.Next qI pT pb h.pd h.Filter.Mac h.Filter.pS h.Filter.pH pn po pr pq h.pG h.sj h.wE h.oX h.pC qM qN qO qP qQ)) h:=by kernel_rfl
 refine nob.trans ?_
 unfold Rz
 have e0:(fun n x qI pT pb pn po pr pq qM qN qO qP qQ nX=>LR (yu N) N (yw n x nX h.ov.nE h.Maps h.Tx.Ring.oG h.Tx.Ring.nL h.Tx.Ring.Head h.Tx.Ring.qG h.Tx.nI.oG h.Tx.nI.nL h.Tx.nI.Count h.Tx.nI.oB h.Tx.nr h.Tx.Next qI pT pb h.pd h.Filter.Mac h.Filter.pS h.Filter.pH pn po pr pq h.pG h.sj h.wE h.oX h.pC qM qN qO qP qQ))=(fun n x qI pT pb pn po pr pq qM qN qO qP qQ=>sD Vm.ke tu N n x qI pT pb pn po pr pq qM qN qO qP qQ N):=by
  funext n x qI pT pb pn po pr pq qM qN qO qP qQ
  exact ntp N n x h.ov.nE h.Maps h.Tx.Ring.oG h.Tx.Ring.nL h.Tx.Ring.Head h.Tx.Ring.qG h.Tx.nI.oG h.Tx.nI.nL h.Tx.nI.Count h.Tx.nI.oB h.Tx.nr h.Tx.Next qI pT pb h.pd h.Filter.Mac h.Filter.pS h.Filter.pH pn po pr pq h.pG h.sj h.wE h.oX h.pC qM qN qO qP qQ N
 exact congrArg (fun l_=>RA Vm.ke tu l_ h) e0
theorem nwi:D8 Tryz.prog 47 vF:=by
 refine nO (A:=zP) nwk Tryz.func47 fun ds (hw:kc (ny.ct++([])) ds) aJ=> ?_
 obtain⟨h,ds,rfl,_,hw⟩:=ny.nA (r:=_) hw
 obtain rfl:=nc hw
 obtain⟨N,hN⟩:=nwh Vm.ke tu h aJ
 exact⟨N,((nwj N h).trans hN).trans (by kernel_rfl)⟩
abbrev xC:Sum:=vF
def Ni:Ctx:=[(102,xw),(103,vy),(104,XN),(105,SX),(106,oP),(107,tL),(108,noZ),(109,vO),(110,ncY)]
theorem nxS:bF Tryz.prog Ni:=Ic S0 (Ic XG (Ic no3 (Ic nr0 (Ic oW (Ic nl1 (Ic nz_ (Ic Nj (Ic nsD JA))))))))
def Nh:List (Nat×lE):=[(5, {ca:=[(1,.mN),(3,.mN),(4,.mN)],boxes:=[(64,[])]}),(11, {ca:=[(5,.mN),(6,.mN)],boxes:=[(64,[])]})]
def tv:Bool→kM:=(fun r0=>((true,[.bool r0]):kM))
def yH (n k:Int) (h_1 h_2:Rows) (h_3 h_4 h_5 h_6 h_7 h_8 h_9:Int) (wH wI:Rows) (wJ:Int) (qI pT pb qq:Rows) (qC:Int) (qD:Bool) (qs pn po:Rows) (pr:Bytes) (pq qt:Rows) (wK:Bool) (qu qv qw:Rows) (qM qN qO qP qQ:Int):St:= {n:=123,sl:=[(1,.ptr 64 0),(3,.int .i64 n),(4,.int .i64 k)],hp:=[(64,.box 80 [.sl [.str] h_1,.sl [.i,.i,.i,.bool] h_2,.int .i64 h_3,.int .i64 h_4,.int .i64 h_5,.int .i64 h_6,.int .i64 h_7,.int .i64 h_8,.int .i64 h_9,.sl [.i] wH,.sl [.i,.i,.sl [.i]] wI,.int .i64 wJ,.sl [.i,.i,.i,.i,.i,.i,.i,.i,.i,.i,.i,.i,.i,.i,.i,.i,.i,.i,.i,.i,.i,.i,.i,.i,.i,.str,.i,.i,.bool,.i] qI,.sl [.i,.i,.i,.sl [.i]] pT,.sl [.i,.i,.i,.i,.bool,.bool] pb,.sl [.bool] qq,.int .i64 qC,.bool qD,.sl [.i] qs,.sl [.i,.i,.i,.i,.i,.i,.i,.i,.i] pn,.sl [.i,.i,.i,.i,.i,.i,.i] po,.str pr,.sl [.i] pq,.sl [.i,.i,.i,.i,.i,.i,.str,.bool] qt,.bool wK,.sl [.str] qu,.sl [.i] qv,.sl [.i] qw,.int .i64 qM,.int .i64 qN,.int .i64 qO,.int .i64 qP,.int .i64 qQ])],ok:=true,ls:=[],lm:=[]}
def PW (qE:Int) (h_1 h_2:Rows) (h_3 h_4 h_5 h_6 h_7 h_8 h_9:Int) (wH wI:Rows) (wJ:Int) (qI pT pb qq:Rows) (qC:Int) (qD:Bool) (qs pn po:Rows) (pr:Bytes) (pq qt:Rows) (wK:Bool) (qu qv qw:Rows) (qM qN qO qP qQ:Int) (list_:Rows):St:= {n:=123,sl:=[(5,.own 640320),(6,.int .i64 qE)],hp:=[(64,.box 80 [.sl [.str] h_1,.sl [.i,.i,.i,.bool] h_2,.int .i64 h_3,.int .i64 h_4,.int .i64 h_5,.int .i64 h_6,.int .i64 h_7,.int .i64 h_8,.int .i64 h_9,.sl [.i] wH,.sl [.i,.i,.sl [.i]] wI,.int .i64 wJ,.sl [.i,.i,.i,.i,.i,.i,.i,.i,.i,.i,.i,.i,.i,.i,.i,.i,.i,.i,.i,.i,.i,.i,.i,.i,.i,.str,.i,.i,.bool,.i] qI,.sl [.i,.i,.i,.sl [.i]] pT,.sl [.i,.i,.i,.i,.bool,.bool] pb,.sl [.bool] qq,.int .i64 qC,.bool qD,.sl [.i] qs,.sl [.i,.i,.i,.i,.i,.i,.i,.i,.i] pn,.sl [.i,.i,.i,.i,.i,.i,.i] po,.str pr,.sl [.i] pq,.sl [.i,.i,.i,.i,.i,.i,.str,.bool] qt,.bool wK,.sl [.str] qu,.sl [.i] qv,.sl [.i] qw,.int .i64 qM,.int .i64 qN,.int .i64 qO,.int .i64 qP,.int .i64 qQ]),(640320,.row 3 [.i] list_ false true)],ok:=true,ls:=[],lm:=[]}
noncomputable def PU (N:Nat):(St→kM)→St→kM:=LQ Tryz.prog Ni Nh N Tryz.f30 xC [true,true,true,true,true,false,true,false] []
noncomputable def yF (N:Nat):(St→kM)→St→kM:=LQ Tryz.prog Ni Nh N Tryz.f30 xC [true,true,true,false,true,false] []
theorem nu_ (N:Nat) (h_1 h_2:Rows) (h_3 h_4 h_5 h_6 h_7 h_8 h_9:Int) (wH wI:Rows) (wJ:Int) (qI pT pb qq:Rows) (qC:Int) (qD:Bool) (qs pn po:Rows) (pr:Bytes) (pq qt:Rows) (wK:Bool) (qu qv qw:Rows) (qM qN qO qP qQ:Int) (list_:Rows) (ih:St→kM) (qE:Int):PU N ih (PW qE h_1 h_2 h_3 h_4 h_5 h_6 h_7 h_8 h_9 wH wI wJ qI pT pb qq qC qD qs pn po pr pq qt wK qu qv qw qM qN qO qP qQ list_)=PV Vm.ke tv list_ (fun qE=>ih (PW qE h_1 h_2 h_3 h_4 h_5 h_6 h_7 h_8 h_9 wH wI wJ qI pT pb qq qC qD qs pn po pr pq qt wK qu qv qw qM qN qO qP qQ list_)) qE:=by kernel_rfl
theorem nvb (N:Nat) (h_1 h_2:Rows) (h_3 h_4 h_5 h_6 h_7 h_8 h_9:Int) (wH wI:Rows) (wJ:Int) (qI pT pb qq:Rows) (qC:Int) (qD:Bool) (qs pn po:Rows) (pr:Bytes) (pq qt:Rows) (wK:Bool) (qu qv qw:Rows) (qM qN qO qP qQ:Int) (list_:Rows) (m_:Nat):(fun qE=>LR (PU N) m_ (PW qE h_1 h_2 h_3 h_4 h_5 h_6 h_7 h_8 h_9 wH wI wJ qI pT pb qq qC qD qs pn po pr pq qt wK qu qv qw qM qN qO qP qQ list_))=uE Vm.ke tv N list_ m_:=by
 induction m_ with
 | zero=>rfl
 | succ m_ ih=>
  funext qE
  refine (nu_ N h_1 h_2 h_3 h_4 h_5 h_6 h_7 h_8 h_9 wH wI wJ qI pT pb qq qC qD qs pn po pr pq qt wK qu qv qw qM qN qO qP qQ list_ (LR (PU N) m_) qE).trans ?_
  rw[ih]
  rfl
theorem nu9 (N:Nat) (n:Int) (h_1 h_2:Rows) (h_3 h_4 h_5 h_6 h_7 h_8 h_9:Int) (wH wI:Rows) (wJ:Int) (qI pT pb qq:Rows) (qC:Int) (qD:Bool) (qs pn po:Rows) (pr:Bytes) (pq qt:Rows) (wK:Bool) (qu qv qw:Rows) (qM qN qO qP qQ:Int) (ih:St→kM) (k:Int):yF N ih (yH n k h_1 h_2 h_3 h_4 h_5 h_6 h_7 h_8 h_9 wH wI wJ qI pT pb qq qC qD qs pn po pr pq qt wK qu qv qw qM qN qO qP qQ)=yG Vm.ke tv (fun list_ qE=>LR (PU N) N (PW qE h_1 h_2 h_3 h_4 h_5 h_6 h_7 h_8 h_9 wH wI wJ qI pT pb qq qC qD qs pn po pr pq qt wK qu qv qw qM qN qO qP qQ list_)) n qI pT pb qM qN qO qP qQ (fun k=>ih (yH n k h_1 h_2 h_3 h_4 h_5 h_6 h_7 h_8 h_9 wH wI wJ qI pT pb qq qC qD qs pn po pr pq qt wK qu qv qw qM qN qO qP qQ)) k:=by kernel_rfl
theorem nva (N:Nat) (n:Int) (h_1 h_2:Rows) (h_3 h_4 h_5 h_6 h_7 h_8 h_9:Int) (wH wI:Rows) (wJ:Int) (qI pT pb qq:Rows) (qC:Int) (qD:Bool) (qs pn po:Rows) (pr:Bytes) (pq qt:Rows) (wK:Bool) (qu qv qw:Rows) (qM qN qO qP qQ:Int) (m_:Nat):(fun k=>LR (yF N) m_ (yH n k h_1 h_2 h_3 h_4 h_5 h_6 h_7 h_8 h_9 wH wI wJ qI pT pb qq qC qD qs pn po pr pq qt wK qu qv qw qM qN qO qP qQ))=sM Vm.ke tv N n qI pT pb qM qN qO qP qQ m_:=by
 induction m_ with
 | zero=>rfl
 | succ m_ ih=>
  funext k
  refine (nu9 N n h_1 h_2 h_3 h_4 h_5 h_6 h_7 h_8 h_9 wH wI wJ qI pT pb qq qC qD qs pn po pr pq qt wK qu qv qw qM qN qO qP qQ (LR (yF N) m_) k).trans ?_
  have e1:=funext fun list_=>nvb N h_1 h_2 h_3 h_4 h_5 h_6 h_7 h_8 h_9 wH wI wJ qI pT pb qq qC qD qs pn po pr pq qt wK qu qv qw qM qN qO qP qQ list_ N
  rw[e1]
  rw[ih]
  rfl
theorem nxR (N:Nat) (h:ny):HT Tryz.prog Ni Nh N Tryz.f30 xC (h.enc++([]))=RM Vm.ke tv N h:=by
 have nob:HT Tryz.prog Ni Nh N Tryz.f30 xC (h.enc++([]))=RN Vm.ke tv (fun n qI pT pb qM qN qO qP qQ k=>LR (yF N) N (yH n k h.ov.nE h.Maps h.Tx.Ring.oG h.Tx.Ring.nL h.Tx.Ring.Head h.Tx.Ring.qG h.Tx.nI.oG h.Tx.nI.nL h.Tx.nI.Count h.Tx.nI.oB h.Tx.nr h.Tx.Next qI pT pb h.pd h.Filter.Mac h.Filter.pS h.Filter.pH h.nz.oO h.nz.Table.nF h.nz.oF.Key h.nz.oF.Table h.pG h.sj h.wE h.oX h.pC qM qN qO qP qQ)) h:=by kernel_rfl
 refine nob.trans ?_
 unfold RM
 have e0:(fun n qI pT pb qM qN qO qP qQ k=>LR (yF N) N (yH n k h.ov.nE h.Maps h.Tx.Ring.oG h.Tx.Ring.nL h.Tx.Ring.Head h.Tx.Ring.qG h.Tx.nI.oG h.Tx.nI.nL h.Tx.nI.Count h.Tx.nI.oB h.Tx.nr h.Tx.Next qI pT pb h.pd h.Filter.Mac h.Filter.pS h.Filter.pH h.nz.oO h.nz.Table.nF h.nz.oF.Key h.nz.oF.Table h.pG h.sj h.wE h.oX h.pC qM qN qO qP qQ))=(fun n qI pT pb qM qN qO qP qQ=>sM Vm.ke tv N n qI pT pb qM qN qO qP qQ N):=by
  funext n qI pT pb qM qN qO qP qQ
  exact nva N n h.ov.nE h.Maps h.Tx.Ring.oG h.Tx.Ring.nL h.Tx.Ring.Head h.Tx.Ring.qG h.Tx.nI.oG h.Tx.nI.nL h.Tx.nI.Count h.Tx.nI.oB h.Tx.nr h.Tx.Next qI pT pb h.pd h.Filter.Mac h.Filter.pS h.Filter.pH h.nz.oO h.nz.Table.nF h.nz.oF.Key h.nz.oF.Table h.pG h.sj h.wE h.oX h.pC qM qN qO qP qQ N
 exact congrArg (fun l_=>RN Vm.ke tv l_ h) e0
theorem nxQ:D8 Tryz.prog 30 xC:=by
 refine nO (A:=Nh) nxS Tryz.func30 fun ds (hw:kc (ny.ct++([])) ds) aJ=> ?_
 obtain⟨h,ds,rfl,_,hw⟩:=ny.nA (r:=_) hw
 obtain rfl:=nc hw
 obtain⟨N,hN⟩:=nxP Vm.ke tv h aJ
 exact⟨N,((nxR N h).trans hN).trans (by kernel_rfl)⟩
def V9:Sum:= {ps:=[⟨[.i],false⟩,⟨[.int .u8],false⟩],rs:=[⟨[.d7 .str],false⟩],fn:=fun ds=>(QE (rI ds 0) (rI ds 1),[.str (NI (rI ds 0) (rI ds 1))])}
def ne2:List (Nat×lE):=[(3, {ca:=[(0,.mN),(1,.mN),(5,.mN),(6,.mN)],boxes:=[]})]
def ne3:Bytes→kM:=(fun r0=>((true,[.str r0]):kM))
def nsG (n x i:Int) (nV:Rows):St:= {n:=20,sl:=[(0,.int .i64 n),(1,.int .u8 x),(5,.own 640320),(6,.int .i64 i)],hp:=[(640320,.row 5 [.int .u8] nV false true)],ok:=true,ls:=[],lm:=[]}
theorem nvA:D8 Tryz.prog 311 V9:=by
 refine nO (A:=ne2) JA Tryz.func311 fun ds (hw:kc (.i::((.int .u8)::([]))) ds) aJ=> ?_
 obtain⟨n,ds,rfl,_,hw⟩:=nj hw
 obtain⟨x,ds,rfl,h_x,hw⟩:=nj hw
 obtain rfl:=nc hw
 obtain⟨N,hN⟩:=nvz Vm.ke ne3 n x h_x aJ
 exact⟨N,eL (fun l_=>V_ Vm.ke ne3 l_ n x) (Wq (LQ Tryz.prog [] ne2 N Tryz.f311 V9 [true,true,false,true,false] []) (nsG n x) _ N) hN⟩
def X4:Sum:= {ps:=[⟨[.int .u8],false⟩,⟨[.i],false⟩],rs:=[⟨[.d7 .str],false⟩],fn:=fun ds=>(nfJ (rI ds 0) (rI ds 1),[.str (nlF (rI ds 0) (rI ds 1))])}
def ngJ:List (Nat×lE):=[(3, {ca:=[(0,.mN),(5,.mN),(10,.mN),(11,.mN)],boxes:=[]})]
def ngK:Bytes→kM:=(fun r0=>((true,[.str r0]):kM))
def ntU (b x nX:Int) (nV:Rows):St:= {n:=21,sl:=[(0,.int .u8 b),(5,.own 640320),(10,.int .i64 x),(11,.int .i64 nX)],hp:=[(640320,.row 5 [.int .u8] nV false true)],ok:=true,ls:=[],lm:=[]}
theorem nwF:D8 Tryz.prog 319 X4:=by
 refine nO (A:=ngJ) JA Tryz.func319 fun ds (hw:kc ((.int .u8)::(.i::([]))) ds) aJ=> ?_
 obtain⟨b,ds,rfl,h_b,hw⟩:=nj hw
 obtain⟨n,ds,rfl,_,hw⟩:=nj hw
 obtain rfl:=nc hw
 obtain⟨N,hN⟩:=nwE Vm.ke ngK b n h_b aJ
 exact⟨N,eL (fun l_=>X5 Vm.ke ngK l_ b n) (funext fun x=>Wq (LQ Tryz.prog [] ngJ N Tryz.f319 X4 [true,true,false,true,false] []) (ntU b x) _ N) hN⟩
def vG:Sum:= {ps:=[⟨[.i],false⟩],rs:=[⟨[.d7 .str],false⟩],fn:=fun ds=>(true,[.str (oJ (rI ds 0))])}
def nwx:Ctx:=[(143,oy)]
theorem nwz:bF Tryz.prog nwx:=Ic oC JA
theorem zS:D8 Tryz.prog 230 vG:=by
 refine nO (A:=[]) nwz Tryz.func230 fun ds (hw:kc (.i::([])) ds) _=> ?_
 obtain⟨v,ds,rfl,_,hw⟩:=nj hw
 obtain rfl:=nc hw
 exact⟨0,eT (nwy (fun r0=>((true,[.str r0]):kM)) v)⟩
abbrev xD:Sum:=vG
def nx8:Ctx:=[(106,oP)]
theorem nya:bF Tryz.prog nx8:=Ic oW JA
theorem Nl:D8 Tryz.prog 202 xD:=by
 refine nO (A:=[]) nya Tryz.func202 fun ds (hw:kc (.i::([])) ds) _=> ?_
 obtain⟨v,ds,rfl,_,hw⟩:=nj hw
 obtain rfl:=nc hw
 exact⟨0,eT (nx9 (fun r0=>((true,[.str r0]):kM)) v)⟩
def se:Sum:= {ps:=[⟨[.i],false⟩],rs:=[⟨[.d7 .str],false⟩],fn:=fun ds=>(true,[.str (nJ (rI ds 0))])}
def nwu:Ctx:=[(143,oy)]
theorem nww:bF Tryz.prog nwu:=Ic oC JA
theorem ud:D8 Tryz.prog 224 se:=by
 refine nO (A:=[]) nww Tryz.func224 fun ds (hw:kc (.i::([])) ds) _=> ?_
 obtain⟨v,ds,rfl,_,hw⟩:=nj hw
 obtain rfl:=nc hw
 exact⟨0,eT (nwv (fun r0=>((true,[.str r0]):kM)) v)⟩
abbrev uf:Sum:=se
def nx4:Ctx:=[(106,oP)]
theorem nx7:bF Tryz.prog nx4:=Ic oW JA
theorem vP:D8 Tryz.prog 197 uf:=by
 refine nO (A:=[]) nx7 Tryz.func197 fun ds (hw:kc (.i::([])) ds) _=> ?_
 obtain⟨v,ds,rfl,_,hw⟩:=nj hw
 obtain rfl:=nc hw
 exact⟨0,eT (nx5 (fun r0=>((true,[.str r0]):kM)) v)⟩
def Uk:Sum:= {ps:=[⟨[.i],false⟩,⟨[.i],false⟩],rs:=[⟨[.d7 .i],false⟩],fn:=fun ds=>(true,[.int (nfz (rI ds 0) (rI ds 1))])}
def nte:Ctx:=[(143,oy)]
theorem nti:bF Tryz.prog nte:=Ic oC JA
theorem ntg:D8 Tryz.prog 336 Uk:=by
 refine nO (A:=[]) nti Tryz.func336 fun ds (hw:kc (.i::(.i::([]))) ds) _=> ?_
 obtain⟨a,ds,rfl,_,hw⟩:=nj hw
 obtain⟨b,ds,rfl,_,hw⟩:=nj hw
 obtain rfl:=nc hw
 exact⟨0,eT (ntf (fun r0=>((true,[.int r0]):kM)) a b)⟩
abbrev neD:Sum:=Uk
def nu0:Ctx:=[(106,oP)]
theorem nu4:bF Tryz.prog nu0:=Ic oW JA
theorem nu2:D8 Tryz.prog 333 neD:=by
 refine nO (A:=[]) nu4 Tryz.func333 fun ds (hw:kc (.i::(.i::([]))) ds) _=> ?_
 obtain⟨a,ds,rfl,_,hw⟩:=nj hw
 obtain⟨b,ds,rfl,_,hw⟩:=nj hw
 obtain rfl:=nc hw
 exact⟨0,eT (nu1 (fun r0=>((true,[.int r0]):kM)) a b)⟩
def NC:Sum:= {ps:=[⟨[.str],false⟩],rs:=[⟨[.d7 .i],false⟩],fn:=fun ds=>(ss (rS ds 0),[.int (Ud (rS ds 0))])}
def nbt:Ctx:=[(336,Uk)]
theorem npO:bF Tryz.prog nbt:=Ic ntg JA
def nbs:List (Nat×lE):=[(3, {ca:=[(0,.mN),(3,.mN),(4,.mN)],boxes:=[]})]
def nbu:Int→kM:=(fun r0=>((true,[.int r0]):kM))
def nmw (s:Bytes) (sum i:Int):St:= {n:=33,sl:=[(0,.str s),(3,.int .i64 sum),(4,.int .i64 i)],hp:=[],ok:=true,ls:=[],lm:=[]}
theorem npN:D8 Tryz.prog 327 NC:=by
 refine nO (A:=nbs) npO Tryz.func327 fun ds (hw:kc (.str::([])) ds) aJ=> ?_
 obtain⟨s,ds,rfl,RQ,hw⟩:=qj hw
 obtain rfl:=nc hw
 obtain⟨N,hN⟩:=npM Vm.ke nbu s RQ aJ
 exact⟨N,eL (fun l_=>Ss Vm.ke nbu l_ s) (Wq (LQ Tryz.prog nbt nbs N Tryz.f327 NC [true,true,false,true,false] []) (nmw s) _ N) hN⟩
abbrev S8:Sum:=NC
def ncT:Ctx:=[(333,neD)]
theorem nsv:bF Tryz.prog ncT:=Ic nu2 JA
def ncS:List (Nat×lE):=[(3, {ca:=[(0,.mN),(3,.mN),(4,.mN)],boxes:=[]})]
def ncU:Int→kM:=(fun r0=>((true,[.int r0]):kM))
def nor (s:Bytes) (sum i:Int):St:= {n:=33,sl:=[(0,.str s),(3,.int .i64 sum),(4,.int .i64 i)],hp:=[],ok:=true,ls:=[],lm:=[]}
theorem nsu:D8 Tryz.prog 324 S8:=by
 refine nO (A:=ncS) nsv Tryz.func324 fun ds (hw:kc (.str::([])) ds) aJ=> ?_
 obtain⟨s,ds,rfl,RQ,hw⟩:=qj hw
 obtain rfl:=nc hw
 obtain⟨N,hN⟩:=nst Vm.ke ncU s RQ aJ
 exact⟨N,eL (fun l_=>S9 Vm.ke ncU l_ s) (Wq (LQ Tryz.prog ncT ncS N Tryz.f324 S8 [true,true,false,true,false] []) (nor s) _ N) hN⟩
def Nm:Sum:= {ps:=[⟨[.str],false⟩],rs:=[⟨[.d7 .i],false⟩],fn:=fun ds=>(ss (rS ds 0),[.int (xg (rS ds 0))])}
def npc:Ctx:=[(327,NC)]
theorem npe:bF Tryz.prog npc:=Ic npN JA
theorem na4:D8 Tryz.prog 302 Nm:=by
 refine nO (A:=[]) npe Tryz.func302 fun ds (hw:kc (.str::([])) ds) aJ=> ?_
 obtain⟨s,ds,rfl,_,hw⟩:=qj hw
 obtain rfl:=nc hw
 exact⟨0,eT (npd Vm.ke (fun r0=>((true,[.int r0]):kM)) s aJ)⟩
abbrev SS:Sum:=Nm
def nrU:Ctx:=[(324,S8)]
theorem nrW:bF Tryz.prog nrU:=Ic nsu JA
theorem ncn:D8 Tryz.prog 288 SS:=by
 refine nO (A:=[]) nrW Tryz.func288 fun ds (hw:kc (.str::([])) ds) aJ=> ?_
 obtain⟨s,ds,rfl,_,hw⟩:=qj hw
 obtain rfl:=nc hw
 exact⟨0,eT (nrV Vm.ke (fun r0=>((true,[.int r0]):kM)) s aJ)⟩
def Rq:Sum:= {ps:=[⟨[.str],false⟩,⟨[.i],false⟩,⟨[.i],false⟩],rs:=[⟨[.d7 .bool],false⟩],fn:=fun ds=>(true,[.bool (rq (rS ds 0) (rI ds 1) (rI ds 2))])}
theorem Z_:D8 Tryz.prog 262 Rq:=by
 refine nO (A:=[]) JA Tryz.func262 fun ds (hw:kc (.str::(.i::(.i::([])))) ds) _=> ?_
 obtain⟨s,ds,rfl,_,hw⟩:=qj hw
 obtain⟨at_,ds,rfl,_,hw⟩:=nj hw
 obtain⟨n,ds,rfl,_,hw⟩:=nj hw
 obtain rfl:=nc hw
 exact⟨0,eT (nos (fun r0=>((true,[.bool r0]):kM)) s at_ n)⟩
def xj:Sum:= {ps:=[⟨[.str],false⟩,⟨[.i],false⟩,⟨[.str],false⟩],rs:=[⟨[.d7 .str],false⟩],fn:=fun ds=>(oK (rS ds 0) (rI ds 1) (rS ds 2),[.str (qY (rS ds 0) (rI ds 1) (rS ds 2))])}
theorem Sq:D8 Tryz.prog 223 xj:=by
 refine nO (A:=[]) JA Tryz.func223 fun ds (hw:kc (.str::(.i::(.str::([])))) ds) aJ=> ?_
 obtain⟨s,ds,rfl,_,hw⟩:=qj hw
 obtain⟨at_,ds,rfl,_,hw⟩:=nj hw
 obtain⟨part,ds,rfl,_,hw⟩:=qj hw
 obtain rfl:=nc hw
 exact⟨0,eT (npB Vm.ke (fun r0=>((true,[.str r0]):kM)) s at_ part aJ)⟩
abbrev xx:Sum:=xj
def nsf:Ctx:=[(262,Rq)]
theorem nsh:bF Tryz.prog nsf:=Ic Z_ JA
theorem N3:D8 Tryz.prog 196 xx:=by
 refine nO (A:=[]) nsh Tryz.func196 fun ds (hw:kc (.str::(.i::(.str::([])))) ds) aJ=> ?_
 obtain⟨s,ds,rfl,_,hw⟩:=qj hw
 obtain⟨at_,ds,rfl,_,hw⟩:=nj hw
 obtain⟨part,ds,rfl,_,hw⟩:=qj hw
 obtain rfl:=nc hw
 exact⟨0,eT (nsg Vm.ke (fun r0=>((true,[.str r0]):kM)) s at_ part aJ)⟩
def zA:Sum:= {ps:=[⟨[.i],false⟩,⟨[.i],false⟩,⟨[.i],false⟩,⟨[.i],false⟩],rs:=[⟨[.d7 .str],false⟩,⟨[.d7 .bool],false⟩],fn:=fun ds=>(true,[.str (pP (rI ds 0) (rI ds 1) (rI ds 2) (rI ds 3)).1]++[.bool (pP (rI ds 0) (rI ds 1) (rI ds 2) (rI ds 3)).2])}
def nfO:Ctx:=[(143,oy),(224,se),(230,vG)]
theorem nfR:bF Tryz.prog nfO:=Ic oC (Ic ud (Ic zS JA))
theorem nfQ:D8 Tryz.prog 300 zA:=by
 refine nO (A:=[]) nfR Tryz.func300 fun ds (hw:kc (.i::(.i::(.i::(.i::([]))))) ds) _=> ?_
 obtain⟨src,ds,rfl,_,hw⟩:=nj hw
 obtain⟨dst,ds,rfl,_,hw⟩:=nj hw
 obtain⟨kind,ds,rfl,_,hw⟩:=nj hw
 obtain⟨length,ds,rfl,_,hw⟩:=nj hw
 obtain rfl:=nc hw
 exact⟨0,eT (nfP Vm.ke (fun r0 r1=>((true,[.str r0]++[.bool r1]):kM)) src dst kind length)⟩
abbrev TP:Sum:=zA
def ngv:Ctx:=[(106,oP),(197,uf),(202,xD)]
theorem ngy:bF Tryz.prog ngv:=Ic oW (Ic vP (Ic Nl JA))
theorem ngx:D8 Tryz.prog 289 TP:=by
 refine nO (A:=[]) ngy Tryz.func289 fun ds (hw:kc (.i::(.i::(.i::(.i::([]))))) ds) _=> ?_
 obtain⟨src,ds,rfl,_,hw⟩:=nj hw
 obtain⟨dst,ds,rfl,_,hw⟩:=nj hw
 obtain⟨kind,ds,rfl,_,hw⟩:=nj hw
 obtain⟨length,ds,rfl,_,hw⟩:=nj hw
 obtain rfl:=nc hw
 exact⟨0,eT (ngw Vm.ke (fun r0 r1=>((true,[.str r0]++[.bool r1]):kM)) src dst kind length)⟩
def SD:Sum:= {ps:=[⟨[.i],false⟩],rs:=[⟨[.d7 .i],false⟩],fn:=fun ds=>(true,[.int (vD (rI ds 0))])}
theorem nbI:D8 Tryz.prog 277 SD:=by
 refine nO (A:=[]) JA Tryz.func277 fun ds (hw:kc (.i::([])) ds) _=> ?_
 obtain⟨kind,ds,rfl,_,hw⟩:=nj hw
 obtain rfl:=nc hw
 exact⟨0,eT (nqf (fun r0=>((true,[.int r0]):kM)) kind)⟩
def UE:Sum:= {ps:=[⟨nD.ct,true⟩],rs:=[⟨[.d7 .str],false⟩],fn:=fun ds=>(nyH (nD.nd ds 0),[.str (o_ (nD.nd ds 0))])}
def nhX:Ctx:=[(224,se),(230,vG)]
theorem nh6:bF Tryz.prog nhX:=Ic ud (Ic zS JA)
theorem nhZ:D8 Tryz.prog 315 UE:=by
 refine nO (A:=[]) nh6 Tryz.func315 fun ds (hw:kc (nD.ct++([])) ds) aJ=> ?_
 obtain⟨g,ds,rfl,_,hw⟩:=nD.nA (r:=_) hw
 obtain rfl:=nc hw
 exact⟨0,eT (nhY Vm.ke (fun r0=>((true,[.str r0]):kM)) g aJ)⟩
def zz:Sum:= {ps:=[⟨[.i],false⟩,⟨[.i],false⟩,⟨nD.ct,true⟩],rs:=[⟨[.d7 .str],false⟩,⟨[.d7 .bool],false⟩],fn:=fun ds=>(true,[.str (rL (rI ds 0) (rI ds 1) (nD.nd ds 2)).1]++[.bool (rL (rI ds 0) (rI ds 1) (nD.nd ds 2)).2])}
def nfK:Ctx:=[(219,yU),(223,xj),(224,se),(277,SD),(300,zA),(302,Nm),(315,UE)]
theorem nfN:bF Tryz.prog nfK:=Ic YC (Ic Sq (Ic ud (Ic nbI (Ic nfQ (Ic na4 (Ic nhZ JA))))))
theorem nfM:D8 Tryz.prog 272 zz:=by
 refine nO (A:=[]) nfN Tryz.func272 fun ds (hw:kc (.i::(.i::(nD.ct++([])))) ds) _=> ?_
 obtain⟨src,ds,rfl,_,hw⟩:=nj hw
 obtain⟨dst,ds,rfl,_,hw⟩:=nj hw
 obtain⟨g,ds,rfl,_,hw⟩:=nD.nA (r:=_) hw
 obtain rfl:=nc hw
 exact⟨0,eT (nfL Vm.ke (fun r0 r1=>((true,[.str r0]++[.bool r1]):kM)) src dst g)⟩
abbrev TL:Sum:=zz
def ngr:Ctx:=[(196,xx),(197,uf),(202,xD),(256,Rp),(288,SS),(289,TP)]
theorem ngu:bF Tryz.prog ngr:=Ic N3 (Ic vP (Ic Nl (Ic Z8 (Ic ncn (Ic ngx JA)))))
theorem ngt:D8 Tryz.prog 257 TL:=by
 refine nO (A:=[]) ngu Tryz.func257 fun ds (hw:kc (.i::(.i::(nD.ct++([])))) ds) _=> ?_
 obtain⟨src,ds,rfl,_,hw⟩:=nj hw
 obtain⟨dst,ds,rfl,_,hw⟩:=nj hw
 obtain⟨g,ds,rfl,_,hw⟩:=nD.nA (r:=_) hw
 obtain rfl:=nc hw
 exact⟨0,eT (ngs Vm.ke (fun r0 r1=>((true,[.str r0]++[.bool r1]):kM)) src dst g)⟩
def ndt:Sum:= {ps:=[⟨wF.ct,true⟩],rs:=[⟨[.d7 .bool],false⟩],fn:=fun ds=>(true,[.bool (ns0 (wF.nd ds 0))])}
def nzH:Ctx:=[(143,oy)]
theorem nzK:bF Tryz.prog nzH:=Ic oC JA
theorem nzJ:D8 Tryz.prog 330 ndt:=by
 refine nO (A:=[]) nzK Tryz.func330 fun ds (hw:kc (wF.ct++([])) ds) _=> ?_
 obtain⟨d,ds,rfl,_,hw⟩:=wF.nA (r:=_) hw
 obtain rfl:=nc hw
 exact⟨0,eT (nzI (fun r0=>((true,[.bool r0]):kM)) d)⟩
abbrev noY:Sum:=ndt
def nz3:Ctx:=[(106,oP)]
theorem nz7:bF Tryz.prog nz3:=Ic oW JA
theorem nz5:D8 Tryz.prog 329 noY:=by
 refine nO (A:=[]) nz7 Tryz.func329 fun ds (hw:kc (wF.ct++([])) ds) _=> ?_
 obtain⟨d,ds,rfl,_,hw⟩:=wF.nA (r:=_) hw
 obtain rfl:=nc hw
 exact⟨0,eT (nz4 (fun r0=>((true,[.bool r0]):kM)) d)⟩
def Sm:Sum:= {ps:=[⟨wF.ct,true⟩],rs:=[⟨[.d7 .str],false⟩,⟨[.d7 .bool],false⟩],fn:=fun ds=>(true,[.str (rE (wF.nd ds 0)).1]++[.bool (rE (wF.nd ds 0)).2])}
def npt:Ctx:=[(223,xj),(224,se),(230,vG),(302,Nm),(330,ndt)]
theorem npw:bF Tryz.prog npt:=Ic Sq (Ic ud (Ic zS (Ic na4 (Ic nzJ JA))))
theorem npv:D8 Tryz.prog 316 Sm:=by
 refine nO (A:=[]) npw Tryz.func316 fun ds (hw:kc (wF.ct++([])) ds) _=> ?_
 obtain⟨d,ds,rfl,_,hw⟩:=wF.nA (r:=_) hw
 obtain rfl:=nc hw
 exact⟨0,eT (npu Vm.ke (fun r0 r1=>((true,[.str r0]++[.bool r1]):kM)) d)⟩
abbrev ncB:Sum:=Sm
def nr8:Ctx:=[(196,xx),(197,uf),(202,xD),(288,SS),(329,noY)]
theorem nsa:bF Tryz.prog nr8:=Ic N3 (Ic vP (Ic Nl (Ic ncn (Ic nz5 JA))))
theorem nr_:D8 Tryz.prog 308 ncB:=by
 refine nO (A:=[]) nsa Tryz.func308 fun ds (hw:kc (wF.ct++([])) ds) _=> ?_
 obtain⟨d,ds,rfl,_,hw⟩:=wF.nA (r:=_) hw
 obtain rfl:=nc hw
 exact⟨0,eT (nr9 Vm.ke (fun r0 r1=>((true,[.str r0]++[.bool r1]):kM)) d)⟩
def Ul:Sum:= {ps:=[⟨wF.ct,true⟩],rs:=[⟨[.d7 .str],false⟩,⟨[.d7 .bool],false⟩],fn:=fun ds=>(true,[.str (yJ (wF.nd ds 0)).1]++[.bool (yJ (wF.nd ds 0)).2])}
def ntj:Ctx:=[(316,Sm)]
theorem ntm:bF Tryz.prog ntj:=Ic npv JA
theorem ntl:D8 Tryz.prog 273 Ul:=by
 refine nO (A:=[]) ntm Tryz.func273 fun ds (hw:kc (wF.ct++([])) ds) _=> ?_
 obtain⟨d,ds,rfl,_,hw⟩:=wF.nA (r:=_) hw
 obtain rfl:=nc hw
 exact⟨0,eT (ntk Vm.ke (fun r0 r1=>((true,[.str r0]++[.bool r1]):kM)) d)⟩
abbrev neJ:Sum:=Ul
def nu5:Ctx:=[(308,ncB)]
theorem nu8:bF Tryz.prog nu5:=Ic nr_ JA
theorem nu7:D8 Tryz.prog 258 neJ:=by
 refine nO (A:=[]) nu8 Tryz.func258 fun ds (hw:kc (wF.ct++([])) ds) _=> ?_
 obtain⟨d,ds,rfl,_,hw⟩:=wF.nA (r:=_) hw
 obtain rfl:=nc hw
 exact⟨0,eT (nu6 Vm.ke (fun r0 r1=>((true,[.str r0]++[.bool r1]):kM)) d)⟩
def Uq:Sum:= {ps:=[⟨[.str],false⟩],rs:=[⟨[.d7 .str],false⟩],fn:=fun ds=>(true,[.str (OS (rS ds 0))])}
def ntr:Ctx:=[(319,X4)]
theorem ntu:bF Tryz.prog ntr:=Ic nwF JA
theorem ntt:D8 Tryz.prog 275 Uq:=by
 refine nO (A:=[]) ntu Tryz.func275 fun ds (hw:kc (.str::([])) ds) _=> ?_
 obtain⟨s,ds,rfl,RQ,hw⟩:=qj hw
 obtain rfl:=nc hw
 exact⟨0,eT (nts Vm.ke (fun r0=>((true,[.str r0]):kM)) s RQ)⟩
abbrev neL:Sum:=Uq
def nvc:Ctx:=[(311,V9)]
theorem nvf:bF Tryz.prog nvc:=Ic nvA JA
theorem nve:D8 Tryz.prog 260 neL:=by
 refine nO (A:=[]) nvf Tryz.func260 fun ds (hw:kc (.str::([])) ds) _=> ?_
 obtain⟨s,ds,rfl,RQ,hw⟩:=qj hw
 obtain rfl:=nc hw
 exact⟨0,eT (nvd Vm.ke (fun r0=>((true,[.str r0]):kM)) s RQ)⟩
def nay:Sum:= {ps:=[⟨r_.ct,true⟩],rs:=[⟨[.d7 .bool],false⟩],fn:=fun ds=>(true,[.bool (T7 (r_.nd ds 0))])}
def nyN:Ctx:=[(143,oy)]
theorem nyQ:bF Tryz.prog nyN:=Ic oC JA
theorem nyP:D8 Tryz.prog 317 nay:=by
 refine nO (A:=[]) nyQ Tryz.func317 fun ds (hw:kc (r_.ct++([])) ds) _=> ?_
 obtain⟨e,ds,rfl,_,hw⟩:=r_.nA (r:=_) hw
 obtain rfl:=nc hw
 exact⟨0,eT (nyO (fun r0=>((true,[.bool r0]):kM)) e)⟩
abbrev nlO:Sum:=nay
def ny9:Ctx:=[(106,oP)]
theorem nzc:bF Tryz.prog ny9:=Ic oW JA
theorem nza:D8 Tryz.prog 309 nlO:=by
 refine nO (A:=[]) nzc Tryz.func309 fun ds (hw:kc (r_.ct++([])) ds) _=> ?_
 obtain⟨e,ds,rfl,_,hw⟩:=r_.nA (r:=_) hw
 obtain rfl:=nc hw
 exact⟨0,eT (ny_ (fun r0=>((true,[.bool r0]):kM)) e)⟩
def SA:Sum:= {ps:=[⟨[.i],false⟩],rs:=[⟨[.d7 .str],false⟩],fn:=fun ds=>(true,[.str (oS (rI ds 0))])}
def nqa:Ctx:=[(224,se),(230,vG)]
theorem nqd:bF Tryz.prog nqa:=Ic ud (Ic zS JA)
theorem nqc:D8 Tryz.prog 318 SA:=by
 refine nO (A:=[]) nqd Tryz.func318 fun ds (hw:kc (.i::([])) ds) _=> ?_
 obtain⟨a,ds,rfl,_,hw⟩:=nj hw
 obtain rfl:=nc hw
 exact⟨0,eT (nqb Vm.ke (fun r0=>((true,[.str r0]):kM)) a)⟩
abbrev XQ:Sum:=SA
def nl4:Ctx:=[(197,uf),(202,xD)]
theorem nl7:bF Tryz.prog nl4:=Ic vP (Ic Nl JA)
theorem nl6:D8 Tryz.prog 310 XQ:=by
 refine nO (A:=[]) nl7 Tryz.func310 fun ds (hw:kc (.i::([])) ds) _=> ?_
 obtain⟨x,ds,rfl,_,hw⟩:=nj hw
 obtain rfl:=nc hw
 exact⟨0,eT (nl5 Vm.ke (fun r0=>((true,[.str r0]):kM)) x)⟩
def Sj:Sum:= {ps:=[⟨r_.ct,true⟩],rs:=[⟨[.d7 .str],false⟩,⟨[.d7 .bool],false⟩],fn:=fun ds=>(true,[.str (uo (r_.nd ds 0)).1]++[.bool (uo (r_.nd ds 0)).2])}
def no9:Ctx:=[(224,se),(317,nay),(318,SA)]
theorem npb:bF Tryz.prog no9:=Ic ud (Ic nyP (Ic nqc JA))
theorem npa:D8 Tryz.prog 274 Sj:=by
 refine nO (A:=[]) npb Tryz.func274 fun ds (hw:kc (r_.ct++([])) ds) _=> ?_
 obtain⟨e,ds,rfl,_,hw⟩:=r_.nA (r:=_) hw
 obtain rfl:=nc hw
 exact⟨0,eT (no_ Vm.ke (fun r0 r1=>((true,[.str r0]++[.bool r1]):kM)) e)⟩
abbrev ncl:Sum:=Sj
def nrQ:Ctx:=[(197,uf),(309,nlO),(310,XQ)]
theorem nrT:bF Tryz.prog nrQ:=Ic vP (Ic nza (Ic nl6 JA))
theorem nrS:D8 Tryz.prog 259 ncl:=by
 refine nO (A:=[]) nrT Tryz.func259 fun ds (hw:kc (r_.ct++([])) ds) _=> ?_
 obtain⟨e,ds,rfl,_,hw⟩:=r_.nA (r:=_) hw
 obtain rfl:=nc hw
 exact⟨0,eT (nrR Vm.ke (fun r0 r1=>((true,[.str r0]++[.bool r1]):kM)) e)⟩
def Pb:Sum:= {ps:=[⟨nx.ct,true⟩],rs:=[⟨[.d7 .str],false⟩,⟨[.d7 .bool],false⟩],fn:=fun ds=>(true,[.str (oq (nx.nd ds 0)).1]++[.bool (oq (nx.nd ds 0)).2])}
def njL:Ctx:=[(148,yx),(272,zz),(273,Ul),(274,Sj),(275,Uq)]
theorem njO:bF Tryz.prog njL:=Ic Uy (Ic nfM (Ic ntl (Ic npa (Ic ntt JA))))
theorem njN:D8 Tryz.prog 221 Pb:=by
 refine nO (A:=[]) njO Tryz.func221 fun ds (hw:kc (nx.ct++([])) ds) _=> ?_
 obtain⟨p,ds,rfl,_,hw⟩:=nx.nA (r:=_) hw
 obtain rfl:=nc hw
 exact⟨0,eT (njM (fun r0 r1=>((true,[.str r0]++[.bool r1]):kM)) p)⟩
abbrev XC:Sum:=Pb
def nlG:Ctx:=[(192,V0),(257,TL),(258,neJ),(259,ncl),(260,neL)]
theorem nlJ:bF Tryz.prog nlG:=Ic neU (Ic ngt (Ic nu7 (Ic nrS (Ic nve JA))))
theorem nlI:D8 Tryz.prog 194 XC:=by
 refine nO (A:=[]) nlJ Tryz.func194 fun ds (hw:kc (nx.ct++([])) ds) _=> ?_
 obtain⟨p,ds,rfl,_,hw⟩:=nx.nA (r:=_) hw
 obtain rfl:=nc hw
 exact⟨0,eT (nlH (fun r0 r1=>((true,[.str r0]++[.bool r1]):kM)) p)⟩
def nkh:Sum:= {ps:=[⟨[.sl [.i,.i,.i,.bool]],false⟩,⟨[.i],false⟩,⟨[.i],false⟩,⟨[.bool],false⟩],rs:=[⟨[.d7 .i],false⟩],fn:=fun ds=>(true,[.int (place (rR ds 0) (rI ds 1) (rI ds 2) (rB ds 3))])}
def nyU:Ctx:=[(212,wT)]
theorem nyX:bF Tryz.prog nyU:=Ic UT JA
theorem nyW:D8 Tryz.prog 331 nkh:=by
 refine nO (A:=[]) nyX Tryz.func331 fun ds (hw:kc ((.sl [.i,.i,.i,.bool])::(.i::(.i::(.bool::([]))))) ds) _=> ?_
 obtain⟨list_,ds,rfl,pE,hw⟩:=nH hw
 obtain⟨domain,ds,rfl,_,hw⟩:=nj hw
 obtain⟨address,ds,rfl,_,hw⟩:=nj hw
 obtain⟨write,ds,rfl,_,hw⟩:=Rh hw
 obtain rfl:=nc hw
 exact⟨0,eT (nyV Vm.ke (fun r0=>((true,[.int r0]):kM)) list_ domain address write pE)⟩
def RF:Sum:= {ps:=[⟨na.ct,true⟩,⟨[.i],false⟩,⟨[.i],false⟩],rs:=[⟨[.d7 .bool],false⟩],fn:=fun ds=>(true,[.bool (within (na.nd ds 0) (rI ds 1) (rI ds 2))])}
def nwM:Ctx:=[(139,uY)]
theorem nwO:bF Tryz.prog nwM:=Ic So JA
theorem ngS:D8 Tryz.prog 332 RF:=by
 refine nO (A:=[]) nwO Tryz.func332 fun ds hw _=> ?_
 replace hw:kc (na.ct++(.i::(.i::([])))) ds:=hw
 obtain⟨m,ds,rfl,_,hw⟩:=na.nA (r:=_) hw
 obtain⟨at_,ds,rfl,_,hw⟩:=nj hw
 obtain⟨n,ds,rfl,_,hw⟩:=nj hw
 obtain rfl:=nc hw
 exact⟨0,eT (nwN (fun r0=>((true,[.bool r0]):kM)) m at_ n)⟩
abbrev Rs:Sum:=RF
def nou:Ctx:=[(102,xw)]
theorem nox:bF Tryz.prog nou:=Ic S0 JA
theorem naa:D8 Tryz.prog 313 Rs:=by
 refine nO (A:=[]) nox Tryz.func313 fun ds hw _=> ?_
 replace hw:kc (na.ct++(.i::(.i::([])))) ds:=hw
 obtain⟨m,ds,rfl,h_m,hw⟩:=na.nA (r:=_) hw
 obtain⟨at_,ds,rfl,ndm,hw⟩:=nj hw
 obtain⟨n,ds,rfl,h_n,hw⟩:=nj hw
 obtain rfl:=nc hw
 exact⟨0,eT (nov (fun r0=>((true,[.bool r0]):kM)) m at_ n h_m ndm h_n)⟩
def Oh:Sum:= {ps:=[⟨na.ct,true⟩,⟨[.i],false⟩,⟨[.str],false⟩],rs:=[⟨[.own 9 [.str]],true⟩,⟨[.d7 .bool],false⟩],fn:=fun ds=>(rF (na.nd ds 0) (rI ds 1) (rS ds 2),na.enc (qh (na.nd ds 0) (rI ds 1) (rS ds 2)).1++[.bool (qh (na.nd ds 0) (rI ds 1) (rS ds 2)).2])}
def UB:Ctx:=[(1125899906842657,J3),(130,sG),(332,RF)]
theorem nhW:bF Tryz.prog UB:=Ic Lq (Ic tE (Ic ngS JA))
def UA:List (Nat×lE):=[(4, {ca:=[(1,.mN),(2,.mN),(6,.mN),(8,.mN)],boxes:=[(192,[]),(384,[]),(512,[])]})]
def UC:na→Bool→kM:=(fun r0 r1=>((true,na.enc r0++[.bool r1]):kM))
def nfS (ug:Int) (tw:Bytes) (qH nU:Rows):St:= {n:=50,sl:=[(1,.int .i64 ug),(2,.str tw),(6,.ptr 384 0),(8,.ptr 512 0)],hp:=[(192,.box 59 [.sl [.str] qH]),(384,.box 59 [.nil]),(512,.box 59 [.own 1411072]),(1411072,.row 9 [.str] nU false true)],ok:=true,ls:=[],lm:=[]}
theorem nhV:D8 Tryz.prog 321 Oh:=by
 refine nO (A:=UA) nhW Tryz.func321 fun ds hw aJ=> ?_
 replace hw:kc (na.ct++(.i::(.str::([])))) ds:=hw
 obtain⟨m,ds,rfl,h_m,hw⟩:=na.nA (r:=_) hw
 obtain⟨at_,ds,rfl,_,hw⟩:=nj hw
 obtain⟨s,ds,rfl,_,hw⟩:=qj hw
 obtain rfl:=nc hw
 obtain⟨N,hN⟩:=nhU Vm.ke UC m at_ s h_m aJ
 exact⟨N,eL (fun l_=>Oi Vm.ke UC l_ m at_ s) (nL3 (LQ Tryz.prog UB UA N Tryz.f321 Oh [true,true,true,false,false] []) (fun ug tw nU=>nfS ug tw m.nE nU) _ N) hN⟩
def X6:Sum:= {ps:=[⟨[.sl [.i,.i,.i,.bool]],false⟩,⟨na.ct,true⟩,⟨[.i],false⟩,⟨[.i],false⟩,⟨[.i],false⟩,⟨[.bool],false⟩],rs:=[⟨[.own 352 [.i,.i]],false⟩,⟨[.d7 .bool],false⟩],fn:=fun ds=>(true,[.sl (sa (rR ds 0) (na.nd ds 1) (rI ds 2) (rI ds 3) (rI ds 4) (rB ds 5)).1]++[.bool (sa (rR ds 0) (na.nd ds 1) (rI ds 2) (rI ds 3) (rI ds 4) (rB ds 5)).2])}
def ngN:Ctx:=[(139,uY),(140,vj),(143,oy),(331,nkh),(332,RF)]
theorem nwI:bF Tryz.prog ngN:=Ic So (Ic Wz (Ic oC (Ic nyW (Ic ngS JA))))
def ngM:List (Nat×lE):=[(8, {ca:=[(0,.mN),(2,.mN),(3,.mN),(4,.mN),(5,.mN),(7,.mN),(14,.mN)],boxes:=[(448,[])]})]
def ngO:Rows→Bool→kM:=(fun r0 r1=>((true,[.sl r0]++[.bool r1]):kM))
def ntV (list_:Rows) (domain ug n_1:Int) (write:Bool) (qH nV:Rows):St:= {n:=75,sl:=[(0,.sl [.i,.i,.i,.bool] list_),(2,.int .i64 domain),(3,.int .i64 ug),(4,.int .i64 n_1),(5,.bool write),(7,.ptr 448 0),(14,.own 640896)],hp:=[(448,.box 59 [.sl [.str] qH]),(640896,.row 352 [.i,.i] nV false true)],ok:=true,ls:=[],lm:=[]}
theorem nwH:D8 Tryz.prog 320 X6:=by
 refine nO (A:=ngM) nwI Tryz.func320 fun ds hw _=> ?_
 replace hw:kc ((.sl [.i,.i,.i,.bool])::(na.ct++(.i::(.i::(.i::(.bool::([]))))))) ds:=hw
 obtain⟨list_,ds,rfl,_,hw⟩:=nH hw
 obtain⟨m,ds,rfl,_,hw⟩:=na.nA (r:=_) hw
 obtain⟨domain,ds,rfl,_,hw⟩:=nj hw
 obtain⟨at_,ds,rfl,ndm,hw⟩:=nj hw
 obtain⟨n,ds,rfl,_,hw⟩:=nj hw
 obtain⟨write,ds,rfl,_,hw⟩:=Rh hw
 obtain rfl:=nc hw
 obtain⟨N,hN⟩:=nwG Vm.ke ngO list_ m domain at_ n write ndm
 exact⟨N,eL (fun l_=>X7 Vm.ke ngO l_ list_ m domain at_ n write) (funext fun qH=>nL3 (LQ Tryz.prog ngN ngM N Tryz.f320 X6 [true,true,true,true,true,false,false] []) (fun ug n_1 nV=>ntV list_ domain ug n_1 write qH nV) _ N) hN⟩
def naz:Sum:= {ps:=[⟨[.sl [.i,.i,.i,.bool]],false⟩,⟨na.ct,true⟩,⟨[.i],false⟩,⟨[.i],false⟩,⟨[.str],false⟩,⟨[.bool],false⟩],rs:=[⟨[.own 9 [.str]],true⟩,⟨[.d7 .bool],false⟩],fn:=fun ds=>(noa (rR ds 0) (na.nd ds 1) (rI ds 2) (rI ds 3) (rS ds 4) (rB ds 5),na.enc (put (rR ds 0) (na.nd ds 1) (rI ds 2) (rI ds 3) (rS ds 4) (rB ds 5)).1++[.bool (put (rR ds 0) (na.nd ds 1) (rI ds 2) (rI ds 3) (rS ds 4) (rB ds 5)).2])}
def ntR:Ctx:=[(130,sG),(320,X6),(321,Oh)]
theorem nAt:bF Tryz.prog ntR:=Ic tE (Ic nwH (Ic nhV JA))
def ntQ:List (Nat×lE):=[(6, {ca:=[(4,.mN),(12,.mN),(14,.mN),(35,.mN),(36,.mN),(37,.mN)],boxes:=[(448,[]),(768,[]),(896,[])]})]
def nif:na→Bool→kM:=(fun r0 r1=>((true,na.enc r0++[.bool r1]):kM))
def nzR (tw:Bytes) (x nX:Int) (qH oc nU:Rows):St:= {n:=58,sl:=[(4,.str tw),(12,.ptr 768 0),(14,.ptr 896 0),(35,.own 642240),(36,.int .i64 x),(37,.int .i64 nX)],hp:=[(448,.box 59 [.sl [.str] qH]),(768,.box 59 [.nil]),(896,.box 59 [.own 1509376]),(642240,.row 352 [.i,.i] oc false true),(1509376,.row 9 [.str] nU false true)],ok:=true,ls:=[],lm:=[]}
theorem ntT:D8 Tryz.prog 279 naz:=by
 refine nO (A:=ntQ) nAt Tryz.func279 fun ds hw aJ=> ?_
 replace hw:kc ((.sl [.i,.i,.i,.bool])::(na.ct++(.i::(.i::(.str::(.bool::([]))))))) ds:=hw
 obtain⟨list_,ds,rfl,_,hw⟩:=nH hw
 obtain⟨m,ds,rfl,h_m,hw⟩:=na.nA (r:=_) hw
 obtain⟨domain,ds,rfl,_,hw⟩:=nj hw
 obtain⟨at_,ds,rfl,_,hw⟩:=nj hw
 obtain⟨s,ds,rfl,RQ,hw⟩:=qj hw
 obtain⟨write,ds,rfl,_,hw⟩:=Rh hw
 obtain rfl:=nc hw
 obtain⟨N,hN⟩:=nAs Vm.ke nif list_ m domain at_ s write h_m RQ aJ
 exact⟨N,Eq.trans (b:=naA Vm.ke nif (fun x oc tw nX nU=>LR (LQ Tryz.prog ntR ntQ N Tryz.f279 naz [true,true,true,true,false,true,false] []) N (nzR tw x nX m.nE oc nU)) list_ m domain at_ s write) (by kernel_rfl) (Eq.trans (congrArg (fun l_=>naA Vm.ke nif l_ list_ m domain at_ s write) (by funext x oc;exact nL3 _ _ _ N)) (hN.trans (by kernel_rfl)))⟩
def na6:Sum:= {ps:=[⟨[.sl [.i,.i,.i,.bool]],false⟩,⟨na.ct,true⟩,⟨[.i],false⟩,⟨[.i],false⟩,⟨[.str],false⟩],rs:=[⟨[.own 9 [.str]],true⟩,⟨[.d7 .bool],false⟩],fn:=fun ds=>(ua (rR ds 0) (na.nd ds 1) (rI ds 2) (rI ds 3) (rS ds 4),na.enc (rD (rR ds 0) (na.nd ds 1) (rI ds 2) (rI ds 3) (rS ds 4)).1++[.bool (rD (rR ds 0) (na.nd ds 1) (rI ds 2) (rI ds 3) (rS ds 4)).2])}
def npf:Ctx:=[(279,naz)]
theorem npi:bF Tryz.prog npf:=Ic ntT JA
theorem nph:D8 Tryz.prog 280 na6:=by
 refine nO (A:=[]) npi Tryz.func280 fun ds hw aJ=> ?_
 replace hw:kc ((.sl [.i,.i,.i,.bool])::(na.ct++(.i::(.i::(.str::([])))))) ds:=hw
 obtain⟨list_,ds,rfl,_,hw⟩:=nH hw
 obtain⟨m,ds,rfl,_,hw⟩:=na.nA (r:=_) hw
 obtain⟨domain,ds,rfl,_,hw⟩:=nj hw
 obtain⟨at_,ds,rfl,_,hw⟩:=nj hw
 obtain⟨s,ds,rfl,_,hw⟩:=qj hw
 obtain rfl:=nc hw
 exact⟨0,eT (npg Vm.ke (fun r0 r1=>((true,na.enc r0++[.bool r1]):kM)) list_ m domain at_ s aJ)⟩
def We:Sum:= {ps:=[⟨[.sl [.i,.i,.i,.bool]],false⟩,⟨[.i],false⟩,⟨[.i],false⟩,⟨[.bool],false⟩],rs:=[⟨[.d7 .i],false⟩],fn:=fun ds=>(true,[.int (vZ (rR ds 0) (rI ds 1) (rI ds 2) (rB ds 3))])}
def nfb:List (Nat×lE):=[(2, {ca:=[(0,.mN),(1,.mN),(2,.mN),(3,.mN),(9,.mN)],boxes:=[]})]
def nfc:Int→kM:=(fun r0=>((true,[.int r0]):kM))
def nsI (list_:Rows) (domain oV:Int) (write:Bool) (k:Int):St:= {n:=48,sl:=[(0,.sl [.i,.i,.i,.bool] list_),(1,.int .i64 domain),(2,.int .i64 oV),(3,.bool write),(9,.int .i64 k)],hp:=[],ok:=true,ls:=[],lm:=[]}
theorem nvP:D8 Tryz.prog 312 We:=by
 refine nO (A:=nfb) JA Tryz.func312 fun ds (hw:kc ((.sl [.i,.i,.i,.bool])::(.i::(.i::(.bool::([]))))) ds) _=> ?_
 obtain⟨list_,ds,rfl,pE,hw⟩:=nH hw
 obtain⟨domain,ds,rfl,_,hw⟩:=nj hw
 obtain⟨oV,ds,rfl,_,hw⟩:=nj hw
 obtain⟨write,ds,rfl,_,hw⟩:=Rh hw
 obtain rfl:=nc hw
 obtain⟨N,hN⟩:=nvO Vm.ke nfc list_ domain oV write pE
 exact⟨N,eL (fun l_=>Wf Vm.ke nfc l_ list_ domain oV write) (nL1 (LQ Tryz.prog [] nfb N Tryz.f312 We [true,false,true,false] []) (nsI list_ domain oV write) _ N) hN⟩
def Ta:Sum:= {ps:=[⟨[.sl [.i,.i,.i,.bool]],false⟩,⟨na.ct,true⟩,⟨[.i],false⟩,⟨[.i],false⟩,⟨[.i],false⟩,⟨[.bool],false⟩],rs:=[⟨[.own 3 [.i]],false⟩,⟨[.own 3 [.i]],false⟩,⟨[.d7 .bool],false⟩],fn:=fun ds=>(true,[.sl (PB (rR ds 0) (na.nd ds 1) (rI ds 2) (rI ds 3) (rI ds 4) (rB ds 5)).1]++[.sl (PB (rR ds 0) (na.nd ds 1) (rI ds 2) (rI ds 3) (rI ds 4) (rB ds 5)).2.1]++[.bool (PB (rR ds 0) (na.nd ds 1) (rI ds 2) (rI ds 3) (rI ds 4) (rB ds 5)).2.2])}
def nc0:Ctx:=[(102,xw),(103,vy),(106,oP),(312,We),(313,Rs)]
theorem nsL:bF Tryz.prog nc0:=Ic S0 (Ic XG (Ic oW (Ic nvP (Ic naa JA))))
def ncZ:List (Nat×lE):=[(5, {ca:=[(0,.mN),(2,.mN),(3,.mN),(4,.mN),(5,.mN),(7,.mN),(15,.mN),(16,.mN)],boxes:=[(448,[])]})]
def nc1:Rows→Rows→Bool→kM:=(fun r0 r1 r2=>((true,[.sl r0]++[.sl r1]++[.bool r2]):kM))
def noy (list_:Rows) (domain ug n_1:Int) (write:Bool) (qH starts rb:Rows):St:= {n:=83,sl:=[(0,.sl [.i,.i,.i,.bool] list_),(2,.int .i64 domain),(3,.int .i64 ug),(4,.int .i64 n_1),(5,.bool write),(7,.ptr 448 0),(15,.own 640960),(16,.own 641024)],hp:=[(448,.box 59 [.sl [.str] qH]),(640960,.row 3 [.i] starts false true),(641024,.row 3 [.i] rb false true)],ok:=true,ls:=[],lm:=[]}
theorem nsK:D8 Tryz.prog 263 Ta:=by
 refine nO (A:=ncZ) nsL Tryz.func263 fun ds hw _=> ?_
 replace hw:kc ((.sl [.i,.i,.i,.bool])::(na.ct++(.i::(.i::(.i::(.bool::([]))))))) ds:=hw
 obtain⟨list_,ds,rfl,_,hw⟩:=nH hw
 obtain⟨m,ds,rfl,h_m,hw⟩:=na.nA (r:=_) hw
 obtain⟨domain,ds,rfl,_,hw⟩:=nj hw
 obtain⟨at_,ds,rfl,ndm,hw⟩:=nj hw
 obtain⟨n,ds,rfl,_,hw⟩:=nj hw
 obtain⟨write,ds,rfl,_,hw⟩:=Rh hw
 obtain rfl:=nc hw
 obtain⟨N,hN⟩:=nsJ Vm.ke nc1 list_ m domain at_ n write h_m ndm
 exact⟨N,eL (fun l_=>Tb Vm.ke nc1 l_ list_ m domain at_ n write) (funext fun qH=>nL4 (LQ Tryz.prog nc0 ncZ N Tryz.f263 Ta [true,true,true,true,false,false] []) (fun ug n_1 starts rb=>noy list_ domain ug n_1 write qH starts rb) _ N) hN⟩
def uQ:Sum:= {ps:=[⟨na.ct,true⟩],rs:=[⟨[.own 9 [.str]],true⟩],fn:=fun ds=>(sb (na.nd ds 0),na.enc (oE (na.nd ds 0)))}
theorem wC:D8 Tryz.prog 97 uQ:=by
 refine nO (A:=[]) JA Tryz.func97 fun ds (hw:kc (na.ct++([])) ds) aJ=> ?_
 obtain⟨m,ds,rfl,_,hw⟩:=na.nA (r:=_) hw
 obtain rfl:=nc hw
 exact⟨0,eT (nvN Vm.ke (fun r0=>((true,na.enc r0):kM)) m aJ)⟩
def OA:Sum:= {ps:=[⟨na.ct,true⟩,⟨[.i],false⟩,⟨[.str],false⟩],rs:=[⟨[.own 9 [.str]],true⟩,⟨[.d7 .bool],false⟩],fn:=fun ds=>(rF (na.nd ds 0) (rI ds 1) (rS ds 2),na.enc (qh (na.nd ds 0) (rI ds 1) (rS ds 2)).1++[.bool (qh (na.nd ds 0) (rI ds 1) (rS ds 2)).2])}
def V6:Ctx:=[(97,uQ),(196,xx),(313,Rs)]
theorem njv:bF Tryz.prog V6:=Ic wC (Ic N3 (Ic naa JA))
def V5:List (Nat×lE):=[(4, {ca:=[(1,.mN),(2,.mN),(6,.mN),(8,.mN)],boxes:=[(192,[]),(384,[]),(512,[])]})]
def V7:na→Bool→kM:=(fun r0 r1=>((true,na.enc r0++[.bool r1]):kM))
def ngz (ug:Int) (tw:Bytes) (qH nU:Rows):St:= {n:=53,sl:=[(1,.int .i64 ug),(2,.str tw),(6,.ptr 384 0),(8,.ptr 512 0)],hp:=[(192,.box 59 [.sl [.str] qH]),(384,.box 59 [.nil]),(512,.box 59 [.own 1411072]),(1411072,.row 9 [.str] nU false true)],ok:=true,ls:=[],lm:=[]}
theorem nju:D8 Tryz.prog 264 OA:=by
 refine nO (A:=V5) njv Tryz.func264 fun ds hw aJ=> ?_
 replace hw:kc (na.ct++(.i::(.str::([])))) ds:=hw
 obtain⟨m,ds,rfl,h_m,hw⟩:=na.nA (r:=_) hw
 obtain⟨at_,ds,rfl,_,hw⟩:=nj hw
 obtain⟨s,ds,rfl,_,hw⟩:=qj hw
 obtain rfl:=nc hw
 obtain⟨N,hN⟩:=njt Vm.ke V7 m at_ s h_m aJ
 exact⟨N,eL (fun l_=>OB Vm.ke V7 l_ m at_ s) (nL3 (LQ Tryz.prog V6 V5 N Tryz.f264 OA [true,true,true,false,false] []) (fun ug tw nU=>ngz ug tw m.nE nU) _ N) hN⟩
def NY:Sum:= {ps:=[⟨[.sl [.i,.i,.i,.bool]],false⟩,⟨na.ct,true⟩,⟨[.i],false⟩,⟨[.i],false⟩,⟨[.str],false⟩],rs:=[⟨[.own 9 [.str]],true⟩,⟨[.d7 .bool],false⟩],fn:=fun ds=>(ua (rR ds 0) (na.nd ds 1) (rI ds 2) (rI ds 3) (rS ds 4),na.enc (rD (rR ds 0) (na.nd ds 1) (rI ds 2) (rI ds 3) (rS ds 4)).1++[.bool (rD (rR ds 0) (na.nd ds 1) (rI ds 2) (rI ds 3) (rS ds 4)).2])}
def ncq:Ctx:=[(97,uQ),(263,Ta),(264,OA)]
theorem nrY:bF Tryz.prog ncq:=Ic wC (Ic nsK (Ic nju JA))
def ncp:List (Nat×lE):=[(6, {ca:=[(4,.mN),(10,.mN),(12,.mN),(13,.mN),(15,.mN),(16,.mN)],boxes:=[(384,[]),(640,[]),(960,[])]})]
def SU:na→Bool→kM:=(fun r0 r1=>((true,na.enc r0++[.bool r1]):kM))
def noe (tw:Bytes) (k:Int) (qH starts rb nU:Rows):St:= {n:=61,sl:=[(4,.str tw),(10,.ptr 640 0),(12,.own 640768),(13,.own 640832),(15,.ptr 960 0),(16,.int .i64 k)],hp:=[(384,.box 59 [.sl [.str] qH]),(640,.box 59 [.nil]),(960,.box 59 [.own 1525760]),(640768,.row 3 [.i] starts false true),(640832,.row 3 [.i] rb false true),(1525760,.row 9 [.str] nU false true)],ok:=true,ls:=[],lm:=[]}
theorem ncs:D8 Tryz.prog 199 NY:=by
 refine nO (A:=ncp) nrY Tryz.func199 fun ds hw aJ=> ?_
 replace hw:kc ((.sl [.i,.i,.i,.bool])::(na.ct++(.i::(.i::(.str::([])))))) ds:=hw
 obtain⟨list_,ds,rfl,_,hw⟩:=nH hw
 obtain⟨m,ds,rfl,h_m,hw⟩:=na.nA (r:=_) hw
 obtain⟨domain,ds,rfl,_,hw⟩:=nj hw
 obtain⟨at_,ds,rfl,_,hw⟩:=nj hw
 obtain⟨s,ds,rfl,RQ,hw⟩:=qj hw
 obtain rfl:=nc hw
 obtain⟨N,hN⟩:=nrX Vm.ke SU list_ m domain at_ s h_m RQ aJ
 exact⟨N,Eq.trans (b:=NZ Vm.ke SU (fun starts rb tw k nU=>LR (LQ Tryz.prog ncq ncp N Tryz.f199 NY [true,true,true,true,false,true,false] []) N (noe tw k m.nE starts rb nU)) list_ m domain at_ s) (by kernel_rfl) (Eq.trans (congrArg (fun l_=>NZ Vm.ke SU l_ list_ m domain at_ s) (by funext starts rb;exact nL3 _ _ _ N)) (hN.trans (by kernel_rfl)))⟩
def QC:Sum:= {ps:=[⟨[.sl [.i,.i,.i,.bool]],false⟩,⟨na.ct,true⟩,⟨[.i],false⟩,⟨[.i],false⟩,⟨[.str],false⟩],rs:=[⟨[.own 9 [.str]],true⟩,⟨[.d7 .bool],false⟩],fn:=fun ds=>(sn (rR ds 0) (na.nd ds 1) (rI ds 2) (rI ds 3) (rS ds 4),na.enc (rp (rR ds 0) (na.nd ds 1) (rI ds 2) (rI ds 3) (rS ds 4)).1++[.bool (rp (rR ds 0) (na.nd ds 1) (rI ds 2) (rI ds 3) (rS ds 4)).2])}
def nmm:Ctx:=[(279,naz)]
theorem nmp:bF Tryz.prog nmm:=Ic ntT JA
theorem nmo:D8 Tryz.prog 226 QC:=by
 refine nO (A:=[]) nmp Tryz.func226 fun ds hw aJ=> ?_
 replace hw:kc ((.sl [.i,.i,.i,.bool])::(na.ct++(.i::(.i::(.str::([])))))) ds:=hw
 obtain⟨list_,ds,rfl,_,hw⟩:=nH hw
 obtain⟨m,ds,rfl,_,hw⟩:=na.nA (r:=_) hw
 obtain⟨domain,ds,rfl,_,hw⟩:=nj hw
 obtain⟨at_,ds,rfl,_,hw⟩:=nj hw
 obtain⟨s,ds,rfl,_,hw⟩:=qj hw
 obtain rfl:=nc hw
 exact⟨0,eT (nmn Vm.ke (fun r0 r1=>((true,na.enc r0++[.bool r1]):kM)) list_ m domain at_ s aJ)⟩
abbrev Rm:Sum:=QC
def Z4:Ctx:=[(199,NY)]
theorem noj:bF Tryz.prog Z4:=Ic ncs JA
def Z3:List (Nat×lE):=[(3, {ca:=[(0,.mN),(2,.mN),(3,.mN),(4,.mN),(6,.mN),(10,.mN),(12,.mN),(13,.mN)],boxes:=[(384,[]),(640,[])]})]
def Z5:na→Bool→kM:=(fun r0 r1=>((true,na.enc r0++[.bool r1]):kM))
def nlQ (list_:Rows) (domain at_:Int) (s:Bytes) (k:Int) (qH open_:Rows):St:= {n:=39,sl:=[(0,.sl [.i,.i,.i,.bool] list_),(2,.int .i64 domain),(3,.int .i64 at_),(4,.str s),(6,.ptr 384 0),(10,.ptr 640 0),(12,.own 640768),(13,.int .i64 k)],hp:=[(384,.box 59 [.sl [.str] qH]),(640,.box 59 [.nil]),(640768,.row 209 [.i,.i,.i,.bool] open_ false true)],ok:=true,ls:=[],lm:=[]}
theorem noi:D8 Tryz.prog 116 Rm:=by
 refine nO (A:=Z3) noj Tryz.func116 fun ds hw aJ=> ?_
 replace hw:kc ((.sl [.i,.i,.i,.bool])::(na.ct++(.i::(.i::(.str::([])))))) ds:=hw
 obtain⟨list_,ds,rfl,pE,hw⟩:=nH hw
 obtain⟨m,ds,rfl,_,hw⟩:=na.nA (r:=_) hw
 obtain⟨domain,ds,rfl,_,hw⟩:=nj hw
 obtain⟨at_,ds,rfl,_,hw⟩:=nj hw
 obtain⟨s,ds,rfl,_,hw⟩:=qj hw
 obtain rfl:=nc hw
 obtain⟨N,hN⟩:=noh Vm.ke Z5 list_ m domain at_ s pE aJ
 exact⟨N,eL (fun l_=>Ro Vm.ke Z5 l_ list_ m domain at_ s) (funext fun qH=>Wq (LQ Tryz.prog Z4 Z3 N Tryz.f116 Rm [true,true,false,true,false] []) (fun k open_=>nlQ list_ domain at_ s k qH open_) _ N) hN⟩
def Wj:Sum:= {ps:=[⟨nC.ct,true⟩],rs:=[⟨[.d7 .i,.d7 .bool,.own 3 [.i]],true⟩],fn:=fun ds=>(njK (nC.nd ds 0),nC.enc (oE (nC.nd ds 0)))}
theorem nv0:D8 Tryz.prog 100 Wj:=by
 refine nO (A:=[]) JA Tryz.func100 fun ds (hw:kc (nC.ct++([])) ds) aJ=> ?_
 obtain⟨f,ds,rfl,_,hw⟩:=nC.nA (r:=_) hw
 obtain rfl:=nc hw
 exact⟨0,eT (nvZ Vm.ke (fun r0=>((true,nC.enc r0):kM)) f aJ)⟩
abbrev WL:Sum:=Wj
def nj7:Ctx:=[(138,tP)]
theorem nj_:bF Tryz.prog nj7:=Ic u0 JA
theorem nj9:D8 Tryz.prog 134 WL:=by
 refine nO (A:=[]) nj_ Tryz.func134 fun ds (hw:kc (nC.ct++([])) ds) aJ=> ?_
 obtain⟨f,ds,rfl,_,hw⟩:=nC.nA (r:=_) hw
 obtain rfl:=nc hw
 exact⟨0,eT (nj8 Vm.ke (fun r0=>((true,nC.enc r0):kM)) f aJ)⟩
def Wa:Sum:= {ps:=[⟨ni.ct,true⟩],rs:=[⟨[.own 262 [.i,.i,.i,.i,.i,.i,.i]],true⟩],fn:=fun ds=>(nl9 (ni.nd ds 0),ni.enc (oE (ni.nd ds 0)))}
theorem nvF:D8 Tryz.prog 186 Wa:=by
 refine nO (A:=[]) JA Tryz.func186 fun ds (hw:kc (ni.ct++([])) ds) aJ=> ?_
 obtain⟨t,ds,rfl,_,hw⟩:=ni.nA (r:=_) hw
 obtain rfl:=nc hw
 exact⟨0,eT (nvE Vm.ke (fun r0=>((true,ni.enc r0):kM)) t aJ)⟩
abbrev YD:Sum:=Wa
theorem nmA:D8 Tryz.prog 210 YD:=by
 refine nO (A:=[]) JA Tryz.func210 fun ds (hw:kc (ni.ct++([])) ds) aJ=> ?_
 obtain⟨t,ds,rfl,_,hw⟩:=ni.nA (r:=_) hw
 obtain rfl:=nc hw
 exact⟨0,eT (nmz Vm.ke (fun r0=>((true,ni.enc r0):kM)) t aJ)⟩
def WO:Sum:= {ps:=[⟨nG.ct,true⟩],rs:=[⟨[.d7 .str,.own 3 [.i]],true⟩],fn:=fun ds=>(nAe (nG.nd ds 0),nG.enc (oE (nG.nd ds 0)))}
def nkd:Ctx:=[(138,tP)]
theorem nkg:bF Tryz.prog nkd:=Ic u0 JA
theorem nkf:D8 Tryz.prog 211 WO:=by
 refine nO (A:=[]) nkg Tryz.func211 fun ds (hw:kc (nG.ct++([])) ds) aJ=> ?_
 obtain⟨s,ds,rfl,_,hw⟩:=nG.nA (r:=_) hw
 obtain rfl:=nc hw
 exact⟨0,eT (nke Vm.ke (fun r0=>((true,nG.enc r0):kM)) s aJ)⟩
def Wd:Sum:= {ps:=[⟨nk.ct,true⟩],rs:=[⟨[.own 260 [.i,.i,.i,.i,.i,.i,.i,.i,.i],.own 262 [.i,.i,.i,.i,.i,.i,.i],.d7 .str,.own 3 [.i]],true⟩],fn:=fun ds=>(nac (nk.nd ds 0),nk.enc (oE (nk.nd ds 0)))}
def nvJ:Ctx:=[(186,Wa)]
theorem nvM:bF Tryz.prog nvJ:=Ic nvF JA
theorem nvL:D8 Tryz.prog 101 Wd:=by
 refine nO (A:=[]) nvM Tryz.func101 fun ds (hw:kc (nk.ct++([])) ds) aJ=> ?_
 obtain⟨s,ds,rfl,_,hw⟩:=nk.nA (r:=_) hw
 obtain rfl:=nc hw
 exact⟨0,eT (nvK Vm.ke (fun r0=>((true,nk.enc r0):kM)) s aJ)⟩
abbrev Tk:Sum:=Wd
def nfV:Ctx:=[(210,YD),(211,WO)]
theorem nfY:bF Tryz.prog nfV:=Ic nmA (Ic nkf JA)
theorem nfX:D8 Tryz.prog 135 Tk:=by
 refine nO (A:=[]) nfY Tryz.func135 fun ds (hw:kc (nk.ct++([])) ds) aJ=> ?_
 obtain⟨s,ds,rfl,_,hw⟩:=nk.nA (r:=_) hw
 obtain rfl:=nc hw
 exact⟨0,eT (nfW Vm.ke (fun r0=>((true,nk.enc r0):kM)) s aJ)⟩
def Ti:Sum:= {ps:=[⟨[.sl [.i,.i,.i,.bool]],false⟩],rs:=[⟨[.own 209 [.i,.i,.i,.bool]],false⟩],fn:=fun ds=>(sm (rR ds 0),[.sl (oE (rR ds 0))])}
theorem nfU:D8 Tryz.prog 131 Ti:=by
 refine nO (A:=[]) JA Tryz.func131 fun ds (hw:kc ((.sl [.i,.i,.i,.bool])::([])) ds) aJ=> ?_
 obtain⟨list_,ds,rfl,_,hw⟩:=nH hw
 obtain rfl:=nc hw
 exact⟨0,eT (nfT Vm.ke (fun r0=>((true,[.sl r0]):kM)) list_ aJ)⟩
def UJ:Sum:= {ps:=[⟨[.sl [.i,.i,.i,.i,.i,.i,.str,.bool]],false⟩],rs:=[⟨[.own 223 [.i,.i,.i,.i,.i,.i,.str,.bool]],false⟩],fn:=fun ds=>(sm (rR ds 0),[.sl (oE (rR ds 0))])}
theorem nh8:D8 Tryz.prog 136 UJ:=by
 refine nO (A:=[]) JA Tryz.func136 fun ds (hw:kc ((.sl [.i,.i,.i,.i,.i,.i,.str,.bool])::([])) ds) aJ=> ?_
 obtain⟨list_,ds,rfl,_,hw⟩:=nH hw
 obtain rfl:=nc hw
 exact⟨0,eT (nh7 Vm.ke (fun r0=>((true,[.sl r0]):kM)) list_ aJ)⟩
def Sy:Sum:= {ps:=[⟨[.sl [.i,.i,.sl [.i]]],false⟩],rs:=[⟨[.deep 207 [.i,.i,.sl [.i]] [3]],false⟩],fn:=fun ds=>(w4 (rR ds 0),[.sl (oE (rR ds 0))])}
def nbE:Ctx:=[(1125899906842630,J3),(1125899906842646,J3),(1125899906842647,J3),(138,tP)]
theorem np_:bF Tryz.prog nbE:=Ic Lq (Ic Lq (Ic Lq (Ic u0 JA)))
def nbD:List (Nat×lE):=[(3, {ca:=[(3,.mN),(7,.mN),(8,.mN),(9,.mN)],boxes:=[]})]
def nbF:Rows→kM:=(fun r0=>((true,[.sl r0]):kM))
def nmy (list_:Rows) (nX oc:Int) (nV:Rows):St:= {n:=26,sl:=[(3,.own 640192),(7,.sl [.i,.i,.sl [.i]] list_),(8,.int .i64 nX),(9,.int .i64 oc)],hp:=[(640192,.deep 207 [.i,.i,.sl [.i]] [3] nV none)],ok:=true,ls:=[],lm:=[]}
theorem np9:D8 Tryz.prog 182 Sy:=by
 refine nO (A:=nbD) np_ Tryz.func182 fun ds (hw:kc ((.sl [.i,.i,.sl [.i]])::([])) ds) aJ=> ?_
 obtain⟨list_,ds,rfl,pE,hw⟩:=nH hw
 obtain rfl:=nc hw
 obtain⟨N,hN⟩:=np8 Vm.ke nbF list_ pE aJ
 exact⟨N,eL (fun l_=>Sz Vm.ke nbF l_ list_) (funext fun nX=>Wq (LQ Tryz.prog nbE nbD N Tryz.f182 Sy [true,true,false,true,false] []) (nmy list_ nX) _ N) hN⟩
def Qg:Sum:= {ps:=[⟨nh.ct,true⟩],rs:=[⟨[.d7 .i,.d7 .i,.d7 .i,.d7 .i,.d7 .i,.d7 .i,.d7 .i,.own 3 [.i],.own 207 [.i,.i,.sl [.i]],.d7 .i],true⟩],fn:=fun ds=>(zH (nh.nd ds 0),nh.enc (oE (nh.nd ds 0)))}
def nfg:Ctx:=[(99,yI)]
theorem nvU:bF Tryz.prog nfg:=Ic Qf JA
def nff:List (Nat×lE):=[(3, {ca:=[(1,.mN),(2,.mN),(3,.mN),(4,.mN)],boxes:=[(64,[]),(128,[]),(192,[(8,.own 207)])]})]
def Wh:nh→kM:=(fun r0=>((true,nh.enc r0):kM))
def nsM (k xt uX xu xv vc vd ve:Int) (vf sX:Rows) (qR b2 nBu nBC nBD nBE nBF nBG nBH nV pY pZ p6 pw px py p7:Int) (re wz:Rows):St:= {n:=41,sl:=[(1,.ptr 64 0),(2,.ptr 128 0),(3,.ptr 192 0),(4,.int .i64 k)],hp:=[(64,.box 65 [.int .i64 xt,.int .i64 uX,.int .i64 xu,.int .i64 xv,.int .i64 vc,.int .i64 vd,.int .i64 ve,.sl [.i] vf,.sl [.i,.i,.sl [.i]] sX,.int .i64 qR]),(128,.box 65 [.int .i64 b2,.int .i64 nBu,.int .i64 nBC,.int .i64 nBD,.int .i64 nBE,.int .i64 nBF,.int .i64 nBG,.nil,.nil,.int .i64 nBH]),(192,.box 65 [.int .i64 nV,.int .i64 pY,.int .i64 pZ,.int .i64 p6,.int .i64 pw,.int .i64 px,.int .i64 py,.own 1329159,.own 1329160,.int .i64 p7]),(1329159,.row 3 [.i] re false true),(1329160,.row 207 [.i,.i,.sl [.i]] wz false true)],ok:=true,ls:=[],lm:=[]}
theorem nfi:D8 Tryz.prog 98 Qg:=by
 refine nO (A:=nff) nvU Tryz.func98 fun ds (hw:kc (nh.ct++([])) ds) aJ=> ?_
 obtain⟨q,ds,rfl,h_q,hw⟩:=nh.nA (r:=_) hw
 obtain rfl:=nc hw
 obtain⟨N,hN⟩:=nvT Vm.ke Wh q h_q aJ
 exact⟨N,Eq.trans (b:=Qh Vm.ke Wh (fun sX nV pY pZ p6 pw px py p7 re k wz=>LR (LQ Tryz.prog nfg nff N Tryz.f98 Qg [true,true,false,true,false] []) N (nsM k q.Ring.oG q.Ring.nL q.Ring.Head q.Ring.qG q.nI.oG q.nI.nL q.nI.Count q.nI.oB sX q.Next 0 0 0 0 0 0 0 0 nV pY pZ p6 pw px py p7 re wz)) q) (by kernel_rfl) (Eq.trans (congrArg (fun l_=>Qh Vm.ke Wh l_ q) (by funext sX nV pY pZ p6 pw px py p7 re;exact Wq _ _ _ N)) (hN.trans (by kernel_rfl)))⟩
def X2:Sum:= {ps:=[⟨nh.ct,true⟩],rs:=[⟨[.d7 .i,.d7 .i,.d7 .i,.d7 .i,.d7 .i,.d7 .i,.d7 .i,.own 3 [.i],.deep 207 [.i,.i,.sl [.i]] [3],.d7 .i],true⟩],fn:=fun ds=>(zH (nh.nd ds 0),nh.enc (oE (nh.nd ds 0)))}
def nwA:Ctx:=[(133,u4),(182,Sy)]
theorem nwC:bF Tryz.prog nwA:=Ic NH (Ic np9 JA)
theorem ngF:D8 Tryz.prog 132 X2:=by
 refine nO (A:=[]) nwC Tryz.func132 fun ds (hw:kc (nh.ct++([])) ds) aJ=> ?_
 obtain⟨q,ds,rfl,_,hw⟩:=nh.nA (r:=_) hw
 obtain rfl:=nc hw
 exact⟨0,eT (nwB Vm.ke (fun r0=>((true,nh.enc r0):kM)) q aJ)⟩
def Sx:Sum:= {ps:=[⟨ny.ct,true⟩],rs:=[⟨[.own 9 [.str],.own 209 [.i,.i,.i,.bool],.d7 .i,.d7 .i,.d7 .i,.d7 .i,.d7 .i,.d7 .i,.d7 .i,.own 3 [.i],.deep 207 [.i,.i,.sl [.i]] [3],.d7 .i,.own 182 [.i,.i,.i,.i,.i,.i,.i,.i,.i,.i,.i,.i,.i,.i,.i,.i,.i,.i,.i,.i,.i,.i,.i,.i,.i,.str,.i,.i,.bool,.i],.deep 62 [.i,.i,.i,.sl [.i]] [3],.own 186 [.i,.i,.i,.i,.bool,.bool],.own 4 [.bool],.d7 .i,.d7 .bool,.own 3 [.i],.own 260 [.i,.i,.i,.i,.i,.i,.i,.i,.i],.own 262 [.i,.i,.i,.i,.i,.i,.i],.d7 .str,.own 3 [.i],.own 223 [.i,.i,.i,.i,.i,.i,.str,.bool],.d7 .bool,.own 9 [.str],.own 3 [.i],.own 3 [.i],.d7 .i,.d7 .i,.d7 .i,.d7 .i,.d7 .i],true⟩],fn:=fun ds=>(t6 (ny.nd ds 0),ny.enc (oE (ny.nd ds 0)))}
def nbz:Ctx:=[(1125899906842648,J3),(1125899906842661,J3),(1125899906842662,J3),(130,sG),(131,Ti),(132,X2),(133,u4),(134,WL),(135,Tk),(136,UJ),(137,Oj),(138,tP)]
theorem np3:bF Tryz.prog nbz:=Ic Lq (Ic Lq (Ic Lq (Ic tE (Ic nfU (Ic ngF (Ic NH (Ic nj9 (Ic nfX (Ic nh8 (Ic UL (Ic u0 JA)))))))))))
def nby:List (Nat×lE):=[(8, {ca:=[(1,.mN),(2,.mN),(3,.mN),(27,.mN),(28,.mN),(29,.mN)],boxes:=[(64,[]),(128,[]),(192,[])]})]
def Sw:ny→kM:=(fun r0=>((true,ny.enc r0):kM))
def nmx (x:Rows) (nX oc:Int) (h_1 h_2:Rows) (h_3 h_4 h_5 h_6 h_7 h_8 h_9:Int) (wH wI:Rows) (wJ:Int) (qI pT pb qq:Rows) (qC:Int) (qD:Bool) (qs pn po:Rows) (pr:Bytes) (pq qt:Rows) (wK:Bool) (qu qv qw:Rows) (qM qN qO qP qQ b2 nBu nBC nBD nBE nBF nBG nBH nCz:Int) (nCA:Bool) (nBv:Bytes) (nBw:Bool) (nBx nBy nBz nBA nBB nV pY pZ p6 pw px py p7:Int) (wz nBX:Rows) (nAx:Int) (nAy:Bool) (nAz nAA nAB:Rows) (nAC:Bytes) (nAD nAE:Rows) (p_:Bool) (nAF nAG nAH:Rows) (qb qc qd qe qf:Int) (nU pj pk oT oU uD:Rows):St:= {n:=76,sl:=[(1,.ptr 64 0),(2,.ptr 128 0),(3,.ptr 192 0),(27,.sl [.i,.i,.i,.sl [.i]] x),(28,.int .i64 nX),(29,.int .i64 oc)],hp:=[(64,.box 80 [.sl [.str] h_1,.sl [.i,.i,.i,.bool] h_2,.int .i64 h_3,.int .i64 h_4,.int .i64 h_5,.int .i64 h_6,.int .i64 h_7,.int .i64 h_8,.int .i64 h_9,.sl [.i] wH,.sl [.i,.i,.sl [.i]] wI,.int .i64 wJ,.sl [.i,.i,.i,.i,.i,.i,.i,.i,.i,.i,.i,.i,.i,.i,.i,.i,.i,.i,.i,.i,.i,.i,.i,.i,.i,.str,.i,.i,.bool,.i] qI,.sl [.i,.i,.i,.sl [.i]] pT,.sl [.i,.i,.i,.i,.bool,.bool] pb,.sl [.bool] qq,.int .i64 qC,.bool qD,.sl [.i] qs,.sl [.i,.i,.i,.i,.i,.i,.i,.i,.i] pn,.sl [.i,.i,.i,.i,.i,.i,.i] po,.str pr,.sl [.i] pq,.sl [.i,.i,.i,.i,.i,.i,.str,.bool] qt,.bool wK,.sl [.str] qu,.sl [.i] qv,.sl [.i] qw,.int .i64 qM,.int .i64 qN,.int .i64 qO,.int .i64 qP,.int .i64 qQ]),(128,.box 80 [.nil,.nil,.int .i64 b2,.int .i64 nBu,.int .i64 nBC,.int .i64 nBD,.int .i64 nBE,.int .i64 nBF,.int .i64 nBG,.nil,.nil,.int .i64 nBH,.nil,.nil,.nil,.nil,.int .i64 nCz,.bool nCA,.nil,.nil,.nil,.str nBv,.nil,.nil,.bool nBw,.nil,.nil,.nil,.int .i64 nBx,.int .i64 nBy,.int .i64 nBz,.int .i64 nBA,.int .i64 nBB]),(192,.box 80 [.own 1329152,.own 1329153,.int .i64 nV,.int .i64 pY,.int .i64 pZ,.int .i64 p6,.int .i64 pw,.int .i64 px,.int .i64 py,.own 1329161,.own 1329162,.int .i64 p7,.own 1329164,.own 1329165,.sl [.i,.i,.i,.i,.bool,.bool] wz,.sl [.bool] nBX,.int .i64 nAx,.bool nAy,.sl [.i] nAz,.sl [.i,.i,.i,.i,.i,.i,.i,.i,.i] nAA,.sl [.i,.i,.i,.i,.i,.i,.i] nAB,.str nAC,.sl [.i] nAD,.sl [.i,.i,.i,.i,.i,.i,.str,.bool] nAE,.bool p_,.sl [.str] nAF,.sl [.i] nAG,.sl [.i] nAH,.int .i64 qb,.int .i64 qc,.int .i64 qd,.int .i64 qe,.int .i64 qf]),(1329152,.row 9 [.str] nU false true),(1329153,.row 209 [.i,.i,.i,.bool] pj false true),(1329161,.row 3 [.i] pk false true),(1329162,.deep 207 [.i,.i,.sl [.i]] [3] oT none),(1329164,.row 182 [.i,.i,.i,.i,.i,.i,.i,.i,.i,.i,.i,.i,.i,.i,.i,.i,.i,.i,.i,.i,.i,.i,.i,.i,.i,.str,.i,.i,.bool,.i] oU false true),(1329165,.deep 62 [.i,.i,.i,.sl [.i]] [3] uD none)],ok:=true,ls:=[],lm:=[]}
theorem np2:D8 Tryz.prog 46 Sx:=by
 refine nO (A:=nby) np3 Tryz.func46 fun ds (hw:kc (ny.ct++([])) ds) aJ=> ?_
 obtain⟨h,ds,rfl,h_h,hw⟩:=ny.nA (r:=_) hw
 obtain rfl:=nc hw
 obtain⟨N,hN⟩:=np1 Vm.ke Sw h h_h aJ
 exact⟨N,Eq.trans (b:=NG Vm.ke Sw (fun x nX pb qq qC qD qs pn po pr pq qt qu qv qw nV pY pZ p6 pw px py p7 p_ qb qc qd qe qf nU pj pk oT oU oc uD=>LR (LQ Tryz.prog nbz nby N Tryz.f46 Sx [true,true,true,true,true,true,true,false,true,false] []) N (nmx x nX oc h.ov.nE h.Maps h.Tx.Ring.oG h.Tx.Ring.nL h.Tx.Ring.Head h.Tx.Ring.qG h.Tx.nI.oG h.Tx.nI.nL h.Tx.nI.Count h.Tx.nI.oB h.Tx.nr h.Tx.Next h.Rx h.ot pb qq qC qD qs pn po pr pq qt h.sj qu qv qw h.Counters.Frames h.Counters.Bad h.Counters.sk h.Counters.t5 h.Counters.OV 0 0 0 0 0 0 0 0 0 false [] false 0 0 0 0 0 nV pY pZ p6 pw px py p7 h.og h.pd h.Filter.Mac h.Filter.pS h.Filter.pH h.nz.oO h.nz.Table.nF h.nz.oF.Key h.nz.oF.Table h.pG p_ h.wE h.oX h.pC qb qc qd qe qf nU pj pk oT oU uD)) h) (by kernel_rfl) (Eq.trans (congrArg (fun l_=>NG Vm.ke Sw l_ h) (by funext x nX pb qq qC qD qs pn po pr pq qt qu qv qw nV pY pZ p6 pw px py p7 p_ qb qc qd qe qf nU pj pk oT oU;exact Wq _ _ _ N)) (hN.trans (by kernel_rfl)))⟩
def Wl:Sum:= {ps:=[⟨ny.ct,true⟩],rs:=[⟨[.own 9 [.str],.own 209 [.i,.i,.i,.bool],.d7 .i,.d7 .i,.d7 .i,.d7 .i,.d7 .i,.d7 .i,.d7 .i,.own 3 [.i],.own 207 [.i,.i,.sl [.i]],.d7 .i,.own 182 [.i,.i,.i,.i,.i,.i,.i,.i,.i,.i,.i,.i,.i,.i,.i,.i,.i,.i,.i,.i,.i,.i,.i,.i,.i,.str,.i,.i,.bool,.i],.own 62 [.i,.i,.i,.sl [.i]],.own 186 [.i,.i,.i,.i,.bool,.bool],.own 4 [.bool],.d7 .i,.d7 .bool,.own 3 [.i],.own 260 [.i,.i,.i,.i,.i,.i,.i,.i,.i],.own 262 [.i,.i,.i,.i,.i,.i,.i],.d7 .str,.own 3 [.i],.own 223 [.i,.i,.i,.i,.i,.i,.str,.bool],.d7 .bool,.own 9 [.str],.own 3 [.i],.own 3 [.i],.d7 .i,.d7 .i,.d7 .i,.d7 .i,.d7 .i],true⟩],fn:=fun ds=>(t6 (ny.nd ds 0),ny.enc (oE (ny.nd ds 0)))}
def nfn:Ctx:=[(97,uQ),(98,Qg),(99,yI),(100,Wj),(101,Wd)]
theorem nv3:bF Tryz.prog nfn:=Ic wC (Ic nfi (Ic Qf (Ic nv0 (Ic nvL JA))))
def nfm:List (Nat×lE):=[(8, {ca:=[(1,.mN),(2,.mN),(3,.mN),(4,.mN)],boxes:=[(64,[]),(128,[]),(192,[])]})]
def Wk:ny→kM:=(fun r0=>((true,ny.enc r0):kM))
def nsP (k:Int) (h_1 h_2:Rows) (h_3 h_4 h_5 h_6 h_7 h_8 h_9:Int) (wH wI:Rows) (wJ:Int) (qI pT pb qq:Rows) (qC:Int) (qD:Bool) (qs pn po:Rows) (pr:Bytes) (pq qt:Rows) (wK:Bool) (qu qv qw:Rows) (qM qN qO qP qQ b2 nBu nBC nBD nBE nBF nBG nBH nCz:Int) (nCA:Bool) (nBv:Bytes) (nBw:Bool) (nBx nBy nBz nBA nBB nV pY pZ p6 pw px py p7:Int) (wz nBX:Rows) (nAx:Int) (nAy:Bool) (nAz nAA nAB:Rows) (nAC:Bytes) (nAD nAE:Rows) (p_:Bool) (nAF nAG nAH:Rows) (qb qc qd qe qf:Int) (nU pj pk oT oU uD:Rows):St:= {n:=83,sl:=[(1,.ptr 64 0),(2,.ptr 128 0),(3,.ptr 192 0),(4,.int .i64 k)],hp:=[(64,.box 80 [.sl [.str] h_1,.sl [.i,.i,.i,.bool] h_2,.int .i64 h_3,.int .i64 h_4,.int .i64 h_5,.int .i64 h_6,.int .i64 h_7,.int .i64 h_8,.int .i64 h_9,.sl [.i] wH,.sl [.i,.i,.sl [.i]] wI,.int .i64 wJ,.sl [.i,.i,.i,.i,.i,.i,.i,.i,.i,.i,.i,.i,.i,.i,.i,.i,.i,.i,.i,.i,.i,.i,.i,.i,.i,.str,.i,.i,.bool,.i] qI,.sl [.i,.i,.i,.sl [.i]] pT,.sl [.i,.i,.i,.i,.bool,.bool] pb,.sl [.bool] qq,.int .i64 qC,.bool qD,.sl [.i] qs,.sl [.i,.i,.i,.i,.i,.i,.i,.i,.i] pn,.sl [.i,.i,.i,.i,.i,.i,.i] po,.str pr,.sl [.i] pq,.sl [.i,.i,.i,.i,.i,.i,.str,.bool] qt,.bool wK,.sl [.str] qu,.sl [.i] qv,.sl [.i] qw,.int .i64 qM,.int .i64 qN,.int .i64 qO,.int .i64 qP,.int .i64 qQ]),(128,.box 80 [.nil,.nil,.int .i64 b2,.int .i64 nBu,.int .i64 nBC,.int .i64 nBD,.int .i64 nBE,.int .i64 nBF,.int .i64 nBG,.nil,.nil,.int .i64 nBH,.nil,.nil,.nil,.nil,.int .i64 nCz,.bool nCA,.nil,.nil,.nil,.str nBv,.nil,.nil,.bool nBw,.nil,.nil,.nil,.int .i64 nBx,.int .i64 nBy,.int .i64 nBz,.int .i64 nBA,.int .i64 nBB]),(192,.box 80 [.own 1329152,.own 1329153,.int .i64 nV,.int .i64 pY,.int .i64 pZ,.int .i64 p6,.int .i64 pw,.int .i64 px,.int .i64 py,.own 1329161,.own 1329162,.int .i64 p7,.own 1329164,.own 1329165,.sl [.i,.i,.i,.i,.bool,.bool] wz,.sl [.bool] nBX,.int .i64 nAx,.bool nAy,.sl [.i] nAz,.sl [.i,.i,.i,.i,.i,.i,.i,.i,.i] nAA,.sl [.i,.i,.i,.i,.i,.i,.i] nAB,.str nAC,.sl [.i] nAD,.sl [.i,.i,.i,.i,.i,.i,.str,.bool] nAE,.bool p_,.sl [.str] nAF,.sl [.i] nAG,.sl [.i] nAH,.int .i64 qb,.int .i64 qc,.int .i64 qd,.int .i64 qe,.int .i64 qf]),(1329152,.row 9 [.str] nU false true),(1329153,.row 209 [.i,.i,.i,.bool] pj false true),(1329161,.row 3 [.i] pk false true),(1329162,.row 207 [.i,.i,.sl [.i]] oT false true),(1329164,.row 182 [.i,.i,.i,.i,.i,.i,.i,.i,.i,.i,.i,.i,.i,.i,.i,.i,.i,.i,.i,.i,.i,.i,.i,.i,.i,.str,.i,.i,.bool,.i] oU false true),(1329165,.row 62 [.i,.i,.i,.sl [.i]] uD false true)],ok:=true,ls:=[],lm:=[]}
theorem nv2:D8 Tryz.prog 29 Wl:=by
 refine nO (A:=nfm) nv3 Tryz.func29 fun ds (hw:kc (ny.ct++([])) ds) aJ=> ?_
 obtain⟨h,ds,rfl,h_h,hw⟩:=ny.nA (r:=_) hw
 obtain rfl:=nc hw
 obtain⟨N,hN⟩:=nv1 Vm.ke Wk h h_h aJ
 exact⟨N,Eq.trans (b:=Qi Vm.ke Wk (fun pT pb qq qC qD qs pn po pr pq qt qu qv qw nV pY pZ p6 pw px py p7 p_ qb qc qd qe qf nU pj pk oT oU k uD=>LR (LQ Tryz.prog nfn nfm N Tryz.f29 Wl [true,true,true,true,true,true,true,false,true,false] []) N (nsP k h.ov.nE h.Maps h.Tx.Ring.oG h.Tx.Ring.nL h.Tx.Ring.Head h.Tx.Ring.qG h.Tx.nI.oG h.Tx.nI.nL h.Tx.nI.Count h.Tx.nI.oB h.Tx.nr h.Tx.Next h.Rx pT pb qq qC qD qs pn po pr pq qt h.sj qu qv qw h.Counters.Frames h.Counters.Bad h.Counters.sk h.Counters.t5 h.Counters.OV 0 0 0 0 0 0 0 0 0 false [] false 0 0 0 0 0 nV pY pZ p6 pw px py p7 h.og h.pd h.Filter.Mac h.Filter.pS h.Filter.pH h.nz.oO h.nz.Table.nF h.nz.oF.Key h.nz.oF.Table h.pG p_ h.wE h.oX h.pC qb qc qd qe qf nU pj pk oT oU uD)) h) (by kernel_rfl) (Eq.trans (congrArg (fun l_=>Qi Vm.ke Wk l_ h) (by funext pT pb qq qC qD qs pn po pr pq qt qu qv qw nV pY pZ p6 pw px py p7 p_ qb qc qd qe qf nU pj pk oT oU;exact Wq _ _ _ N)) (hN.trans (by kernel_rfl)))⟩
def naV:Sum:= {ps:=[⟨[.str],false⟩,⟨[.i],false⟩],rs:=[⟨[.d7 .i],false⟩],fn:=fun ds=>(true,[.int (Wt (rS ds 0) (rI ds 1))])}
def nzd:Ctx:=[(262,Rq)]
theorem nzg:bF Tryz.prog nzd:=Ic Z_ JA
theorem nzf:D8 Tryz.prog 261 naV:=by
 refine nO (A:=[]) nzg Tryz.func261 fun ds (hw:kc (.str::(.i::([]))) ds) _=> ?_
 obtain⟨s,ds,rfl,RQ,hw⟩:=qj hw
 obtain⟨at_,ds,rfl,_,hw⟩:=nj hw
 obtain rfl:=nc hw
 exact⟨0,eT (nze Vm.ke (fun r0=>((true,[.int r0]):kM)) s at_ RQ)⟩
abbrev njT:Sum:=naV
theorem nyS:D8 Tryz.prog 276 njT:=by
 refine nO (A:=[]) JA Tryz.func276 fun ds (hw:kc (.str::(.i::([]))) ds) _=> ?_
 obtain⟨s,ds,rfl,RQ,hw⟩:=qj hw
 obtain⟨at_,ds,rfl,_,hw⟩:=nj hw
 obtain rfl:=nc hw
 exact⟨0,eT (nyR Vm.ke (fun r0=>((true,[.int r0]):kM)) s at_ RQ)⟩
def YJ:Sum:= {ps:=[⟨[.str],false⟩],rs:=[⟨[.d7 .i],false⟩,⟨[.d7 .i],false⟩],fn:=fun ds=>(true,[.int (nad (rS ds 0)).1]++[.int (nad (rS ds 0)).2])}
def nmE:Ctx:=[(276,njT),(277,SD)]
theorem nmH:bF Tryz.prog nmE:=Ic nyS (Ic nbI JA)
theorem nmG:D8 Tryz.prog 222 YJ:=by
 refine nO (A:=[]) nmH Tryz.func222 fun ds (hw:kc (.str::([])) ds) _=> ?_
 obtain⟨image,ds,rfl,nyK,hw⟩:=qj hw
 obtain rfl:=nc hw
 exact⟨0,eT (nmF Vm.ke (fun r0 r1=>((true,[.int r0]++[.int r1]):kM)) image nyK)⟩
def nfj:Sum:= {ps:=[⟨[.str],false⟩],rs:=[⟨[.d7 .i],false⟩,⟨[.d7 .i],false⟩],fn:=fun ds=>(true,[.int (PC (rS ds 0)).1]++[.int (PC (rS ds 0)).2])}
def nvV:Ctx:=[(261,naV)]
theorem nvY:bF Tryz.prog nvV:=Ic nzf JA
theorem nvX:D8 Tryz.prog 195 nfj:=by
 refine nO (A:=[]) nvY Tryz.func195 fun ds (hw:kc (.str::([])) ds) _=> ?_
 obtain⟨s,ds,rfl,RQ,hw⟩:=qj hw
 obtain rfl:=nc hw
 exact⟨0,eT (nvW Vm.ke (fun r0 r1=>((true,[.int r0]++[.int r1]):kM)) s RQ)⟩
def Su:Sum:= {ps:=[⟨nx.ct,true⟩],rs:=[⟨[.d7 .str],false⟩,⟨[.d7 .bool],false⟩],fn:=fun ds=>(true,[.str (nR (nx.nd ds 0)).1]++[.bool (nR (nx.nd ds 0)).2])}
def npT:Ctx:=[(221,Pb),(222,YJ),(223,xj),(224,se)]
theorem npW:bF Tryz.prog npT:=Ic njN (Ic nmG (Ic Sq (Ic ud JA)))
theorem npV:D8 Tryz.prog 149 Su:=by
 refine nO (A:=[]) npW Tryz.func149 fun ds (hw:kc (nx.ct++([])) ds) _=> ?_
 obtain⟨p,ds,rfl,_,hw⟩:=nx.nA (r:=_) hw
 obtain rfl:=nc hw
 exact⟨0,eT (npU Vm.ke (fun r0 r1=>((true,[.str r0]++[.bool r1]):kM)) p)⟩
abbrev ncW:Sum:=Su
def nsx:Ctx:=[(194,XC),(195,nfj),(196,xx),(197,uf)]
theorem nsA:bF Tryz.prog nsx:=Ic nlI (Ic nvX (Ic N3 (Ic vP JA)))
theorem nsz:D8 Tryz.prog 111 ncW:=by
 refine nO (A:=[]) nsA Tryz.func111 fun ds (hw:kc (nx.ct++([])) ds) _=> ?_
 obtain⟨p,ds,rfl,_,hw⟩:=nx.nA (r:=_) hw
 obtain rfl:=nc hw
 exact⟨0,eT (nsy Vm.ke (fun r0 r1=>((true,[.str r0]++[.bool r1]):kM)) p)⟩
def Nv:Sum:= {ps:=[⟨nB.ct,true⟩],rs:=[⟨[.d7 .i],false⟩],fn:=fun ds=>(true,[.int (xh (nB.nd ds 0))])}
def npC:Ctx:=[(213,xz),(225,Nx)]
theorem npE:bF Tryz.prog npC:=Ic RD (Ic nbn JA)
theorem nbm:D8 Tryz.prog 150 Nv:=by
 refine nO (A:=[]) npE Tryz.func150 fun ds (hw:kc (nB.ct++([])) ds) _=> ?_
 obtain⟨r,ds,rfl,_,hw⟩:=nB.nA (r:=_) hw
 obtain rfl:=nc hw
 exact⟨0,eT (npD (fun r0=>((true,[.int r0]):kM)) r)⟩
abbrev S4:Sum:=Nv
def nsi:Ctx:=[(187,Nk),(198,S5)]
theorem nsl:bF Tryz.prog nsi:=Ic RP (Ic ncM JA)
theorem ncL:D8 Tryz.prog 113 S4:=by
 refine nO (A:=[]) nsl Tryz.func113 fun ds (hw:kc (nB.ct++([])) ds) _=> ?_
 obtain⟨r,ds,rfl,_,hw⟩:=nB.nA (r:=_) hw
 obtain rfl:=nc hw
 exact⟨0,eT (nsj (fun r0=>((true,[.int r0]):kM)) r)⟩
def yr:Sum:= {ps:=[⟨nv.ct,true⟩,⟨[.i],false⟩],rs:=[⟨[.d7 .i],false⟩],fn:=fun ds=>(true,[.int (pI (nv.nd ds 0) (rI ds 4))])}
def ndo:Ctx:=[(143,oy),(145,uc)]
theorem ndr:bF Tryz.prog ndo:=Ic oC (Ic zR JA)
theorem ndq:D8 Tryz.prog 227 yr:=by
 refine nO (A:=[]) ndr Tryz.func227 fun ds (hw:kc (nv.ct++(.i::([]))) ds) _=> ?_
 obtain⟨p,ds,rfl,_,hw⟩:=nv.nA (r:=_) hw
 obtain⟨k,ds,rfl,_,hw⟩:=nj hw
 obtain rfl:=nc hw
 exact⟨0,eT (ndp (fun r0=>((true,[.int r0]):kM)) p k)⟩
abbrev R7:Sum:=yr
def neE:Ctx:=[(106,oP),(109,vO)]
theorem neI:bF Tryz.prog neE:=Ic oW (Ic Nj JA)
theorem neG:D8 Tryz.prog 115 R7:=by
 refine nO (A:=[]) neI Tryz.func115 fun ds (hw:kc (nv.ct++(.i::([]))) ds) _=> ?_
 obtain⟨p,ds,rfl,_,hw⟩:=nv.nA (r:=_) hw
 obtain⟨k,ds,rfl,_,hw⟩:=nj hw
 obtain rfl:=nc hw
 exact⟨0,eT (neF (fun r0=>((true,[.int r0]):kM)) p k)⟩
def Ry:Sum:= {ps:=[⟨qo.ct,true⟩],rs:=[⟨[.d7 .bool],false⟩],fn:=fun ds=>(true,[.bool (OR (qo.nd ds 0))])}
def nwe:Ctx:=[(143,oy)]
theorem nwg:bF Tryz.prog nwe:=Ic oC JA
theorem ngB:D8 Tryz.prog 229 Ry:=by
 refine nO (A:=[]) nwg Tryz.func229 fun ds (hw:kc (qo.ct++([])) ds) _=> ?_
 obtain⟨x,ds,rfl,_,hw⟩:=qo.nA (r:=_) hw
 obtain rfl:=nc hw
 exact⟨0,eT (nwf (fun r0=>((true,[.bool r0]):kM)) x)⟩
abbrev Ys:Sum:=Ry
def nxL:Ctx:=[(106,oP)]
theorem nxO:bF Tryz.prog nxL:=Ic oW JA
theorem nhn:D8 Tryz.prog 201 Ys:=by
 refine nO (A:=[]) nxO Tryz.func201 fun ds (hw:kc (qo.ct++([])) ds) _=> ?_
 obtain⟨x,ds,rfl,_,hw⟩:=qo.nA (r:=_) hw
 obtain rfl:=nc hw
 exact⟨0,eT (nxM (fun r0=>((true,[.bool r0]):kM)) x)⟩
def vX:Sum:= {ps:=[⟨nh.ct,true⟩],rs:=[⟨[.d7 .i],false⟩],fn:=fun ds=>(true,[.int (zh (nh.nd ds 0))])}
def Tm:List (Nat×lE):=[(3, {ca:=[(3,.mN),(7,.mN),(8,.mN),(9,.mN)],boxes:=[(64,[])]})]
def zB:Int→kM:=(fun r0=>((true,[.int r0]):kM))
def ndE (n:Int) (x:Rows) (nX oc xt uX xu xv vc vd ve:Int) (vf sX:Rows) (qR:Int):St:= {n:=19,sl:=[(3,.int .i64 n),(7,.sl [.i,.i,.sl [.i]] x),(8,.int .i64 nX),(9,.int .i64 oc)],hp:=[(64,.box 65 [.int .i64 xt,.int .i64 uX,.int .i64 xu,.int .i64 xv,.int .i64 vc,.int .i64 vd,.int .i64 ve,.sl [.i] vf,.sl [.i,.i,.sl [.i]] sX,.int .i64 qR])],ok:=true,ls:=[],lm:=[]}
theorem nf2:D8 Tryz.prog 151 vX:=by
 refine nO (A:=Tm) JA Tryz.func151 fun ds (hw:kc (nh.ct++([])) ds) _=> ?_
 obtain⟨q,ds,rfl,h_q,hw⟩:=nh.nA (r:=_) hw
 obtain rfl:=nc hw
 obtain⟨N,hN⟩:=nf1 Vm.ke zB q h_q
 exact⟨N,Eq.trans (b:=vY Vm.ke zB (fun x nX n oc=>LR (LQ Tryz.prog [] Tm N Tryz.f151 vX [true,true,false,true,false] []) N (ndE n x nX oc q.Ring.oG q.Ring.nL q.Ring.Head q.Ring.qG q.nI.oG q.nI.nL q.nI.Count q.nI.oB q.nr q.Next)) q) (by kernel_rfl) (Eq.trans (congrArg (fun l_=>vY Vm.ke zB l_ q) (by funext x nX;exact Wq _ _ _ N)) (hN.trans (by kernel_rfl)))⟩
abbrev Tc:Sum:=vX
def nc3:List (Nat×lE):=[(3, {ca:=[(1,.mN),(3,.mN),(4,.mN)],boxes:=[(64,[])]})]
def nc4:Int→kM:=(fun r0=>((true,[.int r0]):kM))
def noz (n k xt uX xu xv vc vd ve:Int) (vf sX:Rows) (qR:Int):St:= {n:=21,sl:=[(1,.ptr 64 0),(3,.int .i64 n),(4,.int .i64 k)],hp:=[(64,.box 65 [.int .i64 xt,.int .i64 uX,.int .i64 xu,.int .i64 xv,.int .i64 vc,.int .i64 vd,.int .i64 ve,.sl [.i] vf,.sl [.i,.i,.sl [.i]] sX,.int .i64 qR])],ok:=true,ls:=[],lm:=[]}
theorem nsO:D8 Tryz.prog 114 Tc:=by
 refine nO (A:=nc3) JA Tryz.func114 fun ds (hw:kc (nh.ct++([])) ds) _=> ?_
 obtain⟨q,ds,rfl,h_q,hw⟩:=nh.nA (r:=_) hw
 obtain rfl:=nc hw
 obtain⟨N,hN⟩:=nsN Vm.ke nc4 q h_q
 exact⟨N,eL (fun l_=>Td Vm.ke nc4 l_ q) (funext fun sX=>Wq (LQ Tryz.prog [] nc3 N Tryz.f114 Tc [true,true,false,true,false] []) (fun n k=>noz n k q.Ring.oG q.Ring.nL q.Ring.Head q.Ring.qG q.nI.oG q.nI.nL q.nI.Count q.nI.oB sX q.Next) _ N) hN⟩
def Nt:Sum:= {ps:=[⟨[.sl [.i,.i]],false⟩],rs:=[⟨[.d7 .bool],false⟩],fn:=fun ds=>(true,[.bool (vi (rR ds 0))])}
def nbj:Ctx:=[(143,oy)]
theorem npA:bF Tryz.prog nbj:=Ic oC JA
def nbi:List (Nat×lE):=[(2, {ca:=[(0,.mN),(5,.mN),(6,.mN),(7,.mN)],boxes:=[]})]
def Sp:Bool→kM:=(fun r0=>((true,[.bool r0]):kM))
def nmr (list_ x:Rows) (nX oc:Int):St:= {n:=24,sl:=[(0,.sl [.i,.i] list_),(5,.sl [.i,.i] x),(6,.int .i64 nX),(7,.int .i64 oc)],hp:=[],ok:=true,ls:=[],lm:=[]}
theorem npz:D8 Tryz.prog 228 Nt:=by
 refine nO (A:=nbi) npA Tryz.func228 fun ds (hw:kc ((.sl [.i,.i])::([])) ds) _=> ?_
 obtain⟨list_,ds,rfl,pE,hw⟩:=nH hw
 obtain rfl:=nc hw
 obtain⟨N,hN⟩:=npy Vm.ke Sp list_ pE
 exact⟨N,Eq.trans (b:=Nu Vm.ke Sp (fun x nX oc=>LR (LQ Tryz.prog nbj nbi N Tryz.f228 Nt [true,false,true,false] []) N (nmr list_ x nX oc)) list_) (by kernel_rfl) (Eq.trans (congrArg (fun l_=>Nu Vm.ke Sp l_ list_) (by funext x nX;exact nL1 _ _ _ N)) (hN.trans (by kernel_rfl)))⟩
abbrev S2:Sum:=Nt
def ncH:Ctx:=[(106,oP)]
theorem nse:bF Tryz.prog ncH:=Ic oW JA
def ncG:List (Nat×lE):=[(2, {ca:=[(0,.mN),(3,.mN)],boxes:=[]})]
def ncI:Bool→kM:=(fun r0=>((true,[.bool r0]):kM))
def nol (list_:Rows) (k:Int):St:= {n:=28,sl:=[(0,.sl [.i,.i] list_),(3,.int .i64 k)],hp:=[],ok:=true,ls:=[],lm:=[]}
theorem nsd:D8 Tryz.prog 200 S2:=by
 refine nO (A:=ncG) nse Tryz.func200 fun ds (hw:kc ((.sl [.i,.i])::([])) ds) _=> ?_
 obtain⟨list_,ds,rfl,pE,hw⟩:=nH hw
 obtain rfl:=nc hw
 obtain⟨N,hN⟩:=nsc Vm.ke ncI list_ pE
 exact⟨N,eL (fun l_=>S3 Vm.ke ncI l_ list_) (nL1 (LQ Tryz.prog ncH ncG N Tryz.f200 S2 [true,false,true,false] []) (nol list_) _ N) hN⟩
def Of:Sum:= {ps:=[⟨nB.ct,true⟩,⟨[.i],false⟩],rs:=[⟨[.d7 .i],false⟩],fn:=fun ds=>(true,[.int (rA (nB.nd ds 0) (rI ds 4))])}
def nhI:Ctx:=[(213,xz)]
theorem nhL:bF Tryz.prog nhI:=Ic RD JA
theorem nhK:D8 Tryz.prog 281 Of:=by
 refine nO (A:=[]) nhL Tryz.func281 fun ds (hw:kc (nB.ct++(.i::([]))) ds) _=> ?_
 obtain⟨r,ds,rfl,_,hw⟩:=nB.nA (r:=_) hw
 obtain⟨count,ds,rfl,_,hw⟩:=nj hw
 obtain rfl:=nc hw
 exact⟨0,eT (nhJ Vm.ke (fun r0=>((true,[.int r0]):kM)) r count)⟩
abbrev VW:Sum:=Of
def njh:Ctx:=[(187,Nk)]
theorem njk:bF Tryz.prog njh:=Ic RP JA
theorem njj:D8 Tryz.prog 265 VW:=by
 refine nO (A:=[]) njk Tryz.func265 fun ds (hw:kc (nB.ct++(.i::([]))) ds) _=> ?_
 obtain⟨r,ds,rfl,_,hw⟩:=nB.nA (r:=_) hw
 obtain⟨count,ds,rfl,_,hw⟩:=nj hw
 obtain rfl:=nc hw
 exact⟨0,eT (nji Vm.ke (fun r0=>((true,[.int r0]):kM)) r count)⟩
def Og:Sum:= {ps:=[⟨nv.ct,true⟩,⟨[.i],false⟩],rs:=[⟨[.d7 .i,.d7 .i,.d7 .i,.own 3 [.i]],true⟩,⟨[.own 3 [.i]],false⟩,⟨[.d7 .bool],false⟩],fn:=fun ds=>(uq (nv.nd ds 0) (rI ds 4),nv.enc (n7 (nv.nd ds 0) (rI ds 4)).1++[.sl (n7 (nv.nd ds 0) (rI ds 4)).2.1]++[.bool (n7 (nv.nd ds 0) (rI ds 4)).2.2])}
def nhQ:Ctx:=[(133,u4),(138,tP),(143,oy),(145,uc)]
theorem nhT:bF Tryz.prog nhQ:=Ic NH (Ic u0 (Ic oC (Ic zR JA)))
theorem nhS:D8 Tryz.prog 152 Og:=by
 refine nO (A:=[]) nhT Tryz.func152 fun ds (hw:kc (nv.ct++(.i::([]))) ds) aJ=> ?_
 obtain⟨p,ds,rfl,_,hw⟩:=nv.nA (r:=_) hw
 obtain⟨n,ds,rfl,_,hw⟩:=nj hw
 obtain rfl:=nc hw
 exact⟨0,eT (nhR Vm.ke (fun r0 r1 r2=>((true,nv.enc r0++[.sl r1]++[.bool r2]):kM)) p n aJ)⟩
abbrev V3:Sum:=Og
def njp:Ctx:=[(99,yI),(106,oP),(109,vO)]
theorem njs:bF Tryz.prog njp:=Ic Qf (Ic oW (Ic Nj JA))
theorem njr:D8 Tryz.prog 112 V3:=by
 refine nO (A:=[]) njs Tryz.func112 fun ds (hw:kc (nv.ct++(.i::([]))) ds) aJ=> ?_
 obtain⟨p,ds,rfl,_,hw⟩:=nv.nA (r:=_) hw
 obtain⟨n,ds,rfl,_,hw⟩:=nj hw
 obtain rfl:=nc hw
 exact⟨0,eT (njq Vm.ke (fun r0 r1 r2=>((true,nv.enc r0++[.sl r1]++[.bool r2]):kM)) p n aJ)⟩
def Pc:Sum:= {ps:=[⟨qo.ct,true⟩],rs:=[⟨[.d7 .str],false⟩],fn:=fun ds=>(true,[.str (vE (qo.nd ds 0))])}
def njP:Ctx:=[(224,se),(229,Ry),(230,vG)]
theorem njS:bF Tryz.prog njP:=Ic ud (Ic ngB (Ic zS JA))
theorem njR:D8 Tryz.prog 155 Pc:=by
 refine nO (A:=[]) njS Tryz.func155 fun ds (hw:kc (qo.ct++([])) ds) _=> ?_
 obtain⟨x,ds,rfl,_,hw⟩:=qo.nA (r:=_) hw
 obtain rfl:=nc hw
 exact⟨0,eT (njQ Vm.ke (fun r0=>((true,[.str r0]):kM)) x)⟩
abbrev XE:Sum:=Pc
def nlK:Ctx:=[(197,uf),(201,Ys),(202,xD)]
theorem nlN:bF Tryz.prog nlK:=Ic vP (Ic nhn (Ic Nl JA))
theorem nlM:D8 Tryz.prog 118 XE:=by
 refine nO (A:=[]) nlN Tryz.func118 fun ds (hw:kc (qo.ct++([])) ds) _=> ?_
 obtain⟨x,ds,rfl,_,hw⟩:=qo.nA (r:=_) hw
 obtain rfl:=nc hw
 exact⟨0,eT (nlL Vm.ke (fun r0=>((true,[.str r0]):kM)) x)⟩
def rC:Sum:= {ps:=[⟨[.sl [.i,.i]],false⟩,⟨[.i],false⟩,⟨[.i],false⟩],rs:=[⟨[.d7 (.sl [.i,.i,.i,.i,.i,.i])],false⟩],fn:=fun ds=>(true,[.sl (pN (rR ds 0) (rI ds 1) (rI ds 2))])}
def ta:Ctx:=[(143,oy),(228,Nt),(229,Ry)]
theorem nda:bF Tryz.prog ta:=Ic oC (Ic npz (Ic ngB JA))
def s_:List (Nat×lE):=[(5, {ca:=[(0,.mN),(2,.mN),(7,.mN),(30,.mN),(31,.mN),(32,.mN)],boxes:=[]}),(13, {ca:=[(7,.d7 203),(54,.d7 203),(55,.mN),(56,.mN)],boxes:=[]})]
def qg:Rows→kM:=(fun r0=>((true,[.sl r0]):kM))
def sC (pieces:Rows) (cookie:Int) (x:Rows) (nX oc:Int) (nV:Rows):St:= {n:=65,sl:=[(0,.sl [.i,.i] pieces),(2,.int .i64 cookie),(7,.own 640448),(30,.sl [.i,.i] x),(31,.int .i64 nX),(32,.int .i64 oc)],hp:=[(640448,.row 203 [.i,.i,.i,.i,.i,.i] nV false true)],ok:=true,ls:=[],lm:=[]}
def t8 (nV OO:Rows) (xf OD:Int):St:= {n:=65,sl:=[(7,.sl [.i,.i,.i,.i,.i,.i] nV),(54,.sl [.i,.i,.i,.i,.i,.i] OO),(55,.int .i64 xf),(56,.int .i64 OD)],hp:=[],ok:=true,ls:=[],lm:=[]}
noncomputable def t7 (N:Nat):(St→kM)→St→kM:=LQ Tryz.prog ta s_ N Tryz.f154 rC [true,true,true,true,false,true,false] []
noncomputable def sw (N:Nat):(St→kM)→St→kM:=LQ Tryz.prog ta s_ N Tryz.f154 rC [true,true,true,false,true,false] []
theorem nav (N:Nat) (nV OO:Rows) (xf:Int) (ih:St→kM) (OD:Int):t7 N ih (t8 nV OO xf OD)=sB Vm.ke qg nV OO xf (fun OD=>ih (t8 nV OO xf OD)) OD:=by kernel_rfl
theorem nax (N:Nat) (nV OO:Rows) (xf:Int) (m_:Nat):(fun OD=>LR (t7 N) m_ (t8 nV OO xf OD))=pR Vm.ke qg N nV OO xf m_:=by
 induction m_ with
 | zero=>rfl
 | succ m_ ih=>
  funext OD
  refine (nav N nV OO xf (LR (t7 N) m_) OD).trans ?_
  rw[ih]
  rfl
theorem nau (N:Nat) (pieces:Rows) (cookie:Int) (x:Rows) (nX:Int) (ih:St→kM) (oc:Int) (nV:Rows):sw N ih (sC pieces cookie x nX oc nV)=sA Vm.ke qg (fun nV OO xf OD=>LR (t7 N) N (t8 nV OO xf OD)) pieces cookie x nX (fun oc nV=>ih (sC pieces cookie x nX oc nV)) oc nV:=by kernel_rfl
theorem naw (N:Nat) (pieces:Rows) (cookie:Int) (x:Rows) (nX:Int) (m_:Nat):(fun oc nV=>LR (sw N) m_ (sC pieces cookie x nX oc nV))=qx Vm.ke qg N pieces cookie x nX m_:=by
 induction m_ with
 | zero=>rfl
 | succ m_ ih=>
  funext oc nV
  refine (nau N pieces cookie x nX (LR (sw N) m_) oc nV).trans ?_
  have e1:=funext fun nV=>funext fun OO=>funext fun xf=>nax N nV OO xf N
  rw[e1]
  rw[ih]
  rfl
theorem nc_ (N:Nat) (pieces:Rows) (size cookie:Int):HT Tryz.prog ta s_ N Tryz.f154 rC (.sl pieces::(.int size::(.int cookie::([]))))=uR Vm.ke qg N pieces size cookie:=by
 have nob:HT Tryz.prog ta s_ N Tryz.f154 rC (.sl pieces::(.int size::(.int cookie::([]))))=uS Vm.ke qg (fun x nX oc nV=>LR (sw N) N (sC pieces cookie x nX oc nV)) pieces size cookie:=by kernel_rfl
 refine nob.trans ?_
 unfold uR
 have e0:(fun x nX oc nV=>LR (sw N) N (sC pieces cookie x nX oc nV))=(fun x nX=>qx Vm.ke qg N pieces cookie x nX N):=by
  funext x nX
  exact naw N pieces cookie x nX N
 exact congrArg (fun l_=>uS Vm.ke qg l_ pieces size cookie) e0
theorem nc9:D8 Tryz.prog 154 rC:=by
 refine nO (A:=s_) nda Tryz.func154 fun ds (hw:kc ((.sl [.i,.i])::(.i::(.i::([])))) ds) _=> ?_
 obtain⟨pieces,ds,rfl,Ug,hw⟩:=nH hw
 obtain⟨size,ds,rfl,_,hw⟩:=nj hw
 obtain⟨cookie,ds,rfl,_,hw⟩:=nj hw
 obtain rfl:=nc hw
 obtain⟨N,hN⟩:=nc8 Vm.ke qg pieces size cookie Ug
 exact⟨N,((nc_ N pieces size cookie).trans hN).trans (by kernel_rfl)⟩
def xE:Sum:= {ps:=[⟨[.sl [.i,.i]],false⟩,⟨[.i],false⟩,⟨[.i],false⟩],rs:=[⟨[.own 203 [.i,.i,.i,.i,.i,.i]],false⟩],fn:=fun ds=>(true,[.sl (pN (rR ds 0) (rI ds 1) (rI ds 2))])}
def Qt:Ctx:=[(106,oP),(200,S2),(201,Ys)]
theorem nde:bF Tryz.prog Qt:=Ic oW (Ic nsd (Ic nhn JA))
def Qs:List (Nat×lE):=[(5, {ca:=[(0,.mN),(2,.mN),(7,.mN),(8,.mN)],boxes:=[]})]
def Qu:Rows→kM:=(fun r0=>((true,[.sl r0]):kM))
def naU (pieces:Rows) (cookie k:Int) (nV:Rows):St:= {n:=68,sl:=[(0,.sl [.i,.i] pieces),(2,.int .i64 cookie),(7,.own 640448),(8,.int .i64 k)],hp:=[(640448,.row 203 [.i,.i,.i,.i,.i,.i] nV false true)],ok:=true,ls:=[],lm:=[]}
theorem ndd:D8 Tryz.prog 117 xE:=by
 refine nO (A:=Qs) nde Tryz.func117 fun ds (hw:kc ((.sl [.i,.i])::(.i::(.i::([])))) ds) _=> ?_
 obtain⟨pieces,ds,rfl,Ug,hw⟩:=nH hw
 obtain⟨size,ds,rfl,_,hw⟩:=nj hw
 obtain⟨cookie,ds,rfl,_,hw⟩:=nj hw
 obtain rfl:=nc hw
 obtain⟨N,hN⟩:=ndc Vm.ke Qu pieces size cookie Ug
 exact⟨N,eL (fun l_=>xF Vm.ke Qu l_ pieces size cookie) (Wq (LQ Tryz.prog Qt Qs N Tryz.f117 xE [true,true,true,false,true,false] []) (naU pieces cookie) _ N) hN⟩
def Ut:Sum:= {ps:=[⟨[.sl [.i,.i,.i,.bool]],false⟩,⟨na.ct,true⟩,⟨[.i],false⟩,⟨nB.ct,true⟩,⟨[.str],false⟩],rs:=[⟨[.own 9 [.str]],true⟩,⟨[.d7 .i,.d7 .i,.d7 .i,.d7 .i],true⟩,⟨[.d7 .bool],false⟩],fn:=fun ds=>(sr (rR ds 0) (na.nd ds 1) (rI ds 2) (nB.nd ds 3) (rS ds 7),na.enc (tr (rR ds 0) (na.nd ds 1) (rI ds 2) (nB.nd ds 3) (rS ds 7)).1++nB.enc (tr (rR ds 0) (na.nd ds 1) (rI ds 2) (nB.nd ds 3) (rS ds 7)).2.1++[.bool (tr (rR ds 0) (na.nd ds 1) (rI ds 2) (nB.nd ds 3) (rS ds 7)).2.2])}
def ntA:Ctx:=[(130,sG),(150,Nv),(280,na6),(281,Of)]
theorem ntD:bF Tryz.prog ntA:=Ic tE (Ic nbm (Ic nph (Ic nhK JA)))
theorem ntC:D8 Tryz.prog 231 Ut:=by
 refine nO (A:=[]) ntD Tryz.func231 fun ds hw aJ=> ?_
 replace hw:kc ((.sl [.i,.i,.i,.bool])::(na.ct++(.i::(nB.ct++(.str::([])))))) ds:=hw
 obtain⟨list_,ds,rfl,_,hw⟩:=nH hw
 obtain⟨m,ds,rfl,_,hw⟩:=na.nA (r:=_) hw
 obtain⟨domain,ds,rfl,_,hw⟩:=nj hw
 obtain⟨r,ds,rfl,_,hw⟩:=nB.nA (r:=_) hw
 obtain⟨entry,ds,rfl,_,hw⟩:=qj hw
 obtain rfl:=nc hw
 exact⟨0,eT (ntB Vm.ke (fun r0 r1 r2=>((true,na.enc r0++nB.enc r1++[.bool r2]):kM)) list_ m domain r entry aJ)⟩
abbrev neO:Sum:=Ut
def nvm:Ctx:=[(97,uQ),(113,S4),(199,NY),(265,VW)]
theorem nvp:bF Tryz.prog nvm:=Ic wC (Ic ncL (Ic ncs (Ic njj JA)))
theorem nvo:D8 Tryz.prog 203 neO:=by
 refine nO (A:=[]) nvp Tryz.func203 fun ds hw aJ=> ?_
 replace hw:kc ((.sl [.i,.i,.i,.bool])::(na.ct++(.i::(nB.ct++(.str::([])))))) ds:=hw
 obtain⟨list_,ds,rfl,_,hw⟩:=nH hw
 obtain⟨m,ds,rfl,_,hw⟩:=na.nA (r:=_) hw
 obtain⟨domain,ds,rfl,_,hw⟩:=nj hw
 obtain⟨r,ds,rfl,_,hw⟩:=nB.nA (r:=_) hw
 obtain⟨entry,ds,rfl,_,hw⟩:=qj hw
 obtain rfl:=nc hw
 exact⟨0,eT (nvn Vm.ke (fun r0 r1 r2=>((true,na.enc r0++nB.enc r1++[.bool r2]):kM)) list_ m domain r entry aJ)⟩
def xI:Sum:= {ps:=[⟨[.sl [.i,.i,.i,.bool]],false⟩,⟨na.ct,true⟩,⟨[.i],false⟩,⟨nB.ct,true⟩,⟨[.sl [.str]],false⟩],rs:=[⟨[.own 9 [.str]],true⟩,⟨[.d7 .i,.d7 .i,.d7 .i,.d7 .i],true⟩,⟨[.d7 .bool],false⟩],fn:=fun ds=>(sr (rR ds 0) (na.nd ds 1) (rI ds 2) (nB.nd ds 3) (rR ds 7),na.enc (pK (rR ds 0) (na.nd ds 1) (rI ds 2) (nB.nd ds 3) (rR ds 7)).1++nB.enc (pK (rR ds 0) (na.nd ds 1) (rI ds 2) (nB.nd ds 3) (rR ds 7)).2.1++[.bool (pK (rR ds 0) (na.nd ds 1) (rI ds 2) (nB.nd ds 3) (rR ds 7)).2.2])}
def WB:Ctx:=[(130,sG),(231,Ut)]
theorem njZ:bF Tryz.prog WB:=Ic tE (Ic ntC JA)
def WA:List (Nat×lE):=[(3, {ca:=[(0,.mN),(2,.mN),(6,.mN),(8,.mN),(10,.mN),(11,.mN),(13,.mN),(14,.mN),(21,.mN),(22,.mN),(23,.mN)],boxes:=[(384,[]),(512,[]),(640,[]),(704,[]),(832,[]),(896,[])]})]
def Pn:na→nB→Bool→kM:=(fun r0 r1 r2=>((true,na.enc r0++nB.enc r1++[.bool r2]):kM))
def nhG (list_:Rows) (domain:Int) (entries:Rows) (nX oc:Int) (qH:Rows) (r_1 r_2 r_3 r_4 b11 nBr nBs nBt next niV niW niX:Int) (nU:Rows):St:= {n:=45,sl:=[(0,.sl [.i,.i,.i,.bool] list_),(2,.int .i64 domain),(6,.ptr 384 0),(8,.ptr 512 0),(10,.ptr 640 0),(11,.ptr 704 0),(13,.ptr 832 0),(14,.ptr 896 0),(21,.sl [.str] entries),(22,.int .i64 nX),(23,.int .i64 oc)],hp:=[(384,.box 59 [.sl [.str] qH]),(512,.box 61 [.int .i64 r_1,.int .i64 r_2,.int .i64 r_3,.int .i64 r_4]),(640,.box 59 [.nil]),(704,.box 61 [.int .i64 b11,.int .i64 nBr,.int .i64 nBs,.int .i64 nBt]),(832,.box 59 [.own 1492992]),(896,.box 61 [.int .i64 next,.int .i64 niV,.int .i64 niW,.int .i64 niX]),(1492992,.row 9 [.str] nU false true)],ok:=true,ls:=[],lm:=[]}
theorem njY:D8 Tryz.prog 156 xI:=by
 refine nO (A:=WA) njZ Tryz.func156 fun ds hw aJ=> ?_
 replace hw:kc ((.sl [.i,.i,.i,.bool])::(na.ct++(.i::(nB.ct++((.sl [.str])::([])))))) ds:=hw
 obtain⟨list_,ds,rfl,_,hw⟩:=nH hw
 obtain⟨m,ds,rfl,_,hw⟩:=na.nA (r:=_) hw
 obtain⟨domain,ds,rfl,_,hw⟩:=nj hw
 obtain⟨r,ds,rfl,_,hw⟩:=nB.nA (r:=_) hw
 obtain⟨entries,ds,rfl,Qz,hw⟩:=nH hw
 obtain rfl:=nc hw
 obtain⟨N,hN⟩:=njX Vm.ke Pn list_ m domain r entries Qz aJ
 exact⟨N,Eq.trans (b:=xJ Vm.ke Pn (fun nX qH r_1 r_2 r_3 r_4 oc next niV niW niX nU=>LR (LQ Tryz.prog WB WA N Tryz.f156 xI [true,true,false,true,false] []) N (nhG list_ domain entries nX oc qH r_1 r_2 r_3 r_4 0 0 0 0 next niV niW niX nU)) list_ m domain r entries) (by kernel_rfl) (Eq.trans (congrArg (fun l_=>xJ Vm.ke Pn l_ list_ m domain r entries) (by funext nX qH r_1 r_2 r_3 r_4;exact nL6 _ _ _ N)) (hN.trans (by kernel_rfl)))⟩
abbrev Qc:Sum:=xI
def XJ:Ctx:=[(97,uQ),(203,neO)]
theorem nlV:bF Tryz.prog XJ:=Ic wC (Ic nvo JA)
def XI:List (Nat×lE):=[(4, {ca:=[(0,.mN),(2,.mN),(4,.mN),(6,.mN),(8,.mN),(10,.mN),(11,.mN),(13,.mN),(14,.mN),(15,.mN)],boxes:=[(384,[]),(512,[]),(640,[]),(704,[]),(832,[]),(896,[])]})]
def Qb:na→nB→Bool→kM:=(fun r0 r1 r2=>((true,na.enc r0++nB.enc r1++[.bool r2]):kM))
def njc (list_:Rows) (domain:Int) (entries:Rows) (k:Int) (qH:Rows) (r_1 r_2 r_3 r_4 b11 nBr nBs nBt x nX oc OO:Int) (nU:Rows):St:= {n:=46,sl:=[(0,.sl [.i,.i,.i,.bool] list_),(2,.int .i64 domain),(4,.sl [.str] entries),(6,.ptr 384 0),(8,.ptr 512 0),(10,.ptr 640 0),(11,.ptr 704 0),(13,.ptr 832 0),(14,.ptr 896 0),(15,.int .i64 k)],hp:=[(384,.box 59 [.sl [.str] qH]),(512,.box 61 [.int .i64 r_1,.int .i64 r_2,.int .i64 r_3,.int .i64 r_4]),(640,.box 59 [.nil]),(704,.box 61 [.int .i64 b11,.int .i64 nBr,.int .i64 nBs,.int .i64 nBt]),(832,.box 59 [.own 1492992]),(896,.box 61 [.int .i64 x,.int .i64 nX,.int .i64 oc,.int .i64 OO]),(1492992,.row 9 [.str] nU false true)],ok:=true,ls:=[],lm:=[]}
theorem nlU:D8 Tryz.prog 119 Qc:=by
 refine nO (A:=XI) nlV Tryz.func119 fun ds hw aJ=> ?_
 replace hw:kc ((.sl [.i,.i,.i,.bool])::(na.ct++(.i::(nB.ct++((.sl [.str])::([])))))) ds:=hw
 obtain⟨list_,ds,rfl,_,hw⟩:=nH hw
 obtain⟨m,ds,rfl,_,hw⟩:=na.nA (r:=_) hw
 obtain⟨domain,ds,rfl,_,hw⟩:=nj hw
 obtain⟨r,ds,rfl,_,hw⟩:=nB.nA (r:=_) hw
 obtain⟨entries,ds,rfl,Qz,hw⟩:=nH hw
 obtain rfl:=nc hw
 obtain⟨N,hN⟩:=nlT Vm.ke Qb list_ m domain r entries Qz aJ
 exact⟨N,Eq.trans (b:=yg Vm.ke Qb (fun qH r_1 r_2 r_3 r_4 k x nX oc OO nU=>LR (LQ Tryz.prog XJ XI N Tryz.f119 Qc [true,true,true,false,true,false] []) N (njc list_ domain entries k qH r_1 r_2 r_3 r_4 0 0 0 0 x nX oc OO nU)) list_ m domain r entries) (by kernel_rfl) (Eq.trans (congrArg (fun l_=>yg Vm.ke Qb l_ list_ m domain r entries) (by funext qH r_1 r_2 r_3 r_4;exact nL6 _ _ _ N)) (hN.trans (by kernel_rfl)))⟩
def Ol:Sum:= {ps:=[⟨[.sl [.i,.i,.i,.bool]],false⟩,⟨na.ct,true⟩,⟨[.i],false⟩,⟨nv.ct,true⟩,⟨[.sl [.i]],false⟩,⟨[.str],false⟩,⟨[.i],false⟩],rs:=[⟨[.own 9 [.str]],true⟩,⟨[.own 198 [.i,.i]],false⟩,⟨[.d7 .bool],false⟩],fn:=fun ds=>(nfD (rR ds 0) (na.nd ds 1) (rI ds 2) (nv.nd ds 3) (rR ds 7) (rS ds 8) (rI ds 9),na.enc (qi (rR ds 0) (na.nd ds 1) (rI ds 2) (nv.nd ds 3) (rR ds 7) (rS ds 8) (rI ds 9)).1++[.sl (qi (rR ds 0) (na.nd ds 1) (rI ds 2) (nv.nd ds 3) (rR ds 7) (rS ds 8) (rI ds 9)).2.1]++[.bool (qi (rR ds 0) (na.nd ds 1) (rI ds 2) (nv.nd ds 3) (rR ds 7) (rS ds 8) (rI ds 9)).2.2]),ms:=[none,some (.jC [.flat 9]),none,none,none,none,none]}
def UO:Ctx:=[(226,QC),(227,yr)]
theorem nic:bF Tryz.prog UO:=Ic nmo (Ic ndq JA)
def UN:List (Nat×lE):=[(3, {ca:=[(0,.mN),(1,.mN),(2,.mN),(5,.mN),(6,.mN),(8,.mN),(10,.mN),(14,.mN),(17,.mN),(24,.mN),(25,.mN),(26,.mN)],boxes:=[(512,[]),(640,[]),(896,[])]})]
def Ok:na→Rows→Bool→kM:=(fun r0 r1 r2=>((true,na.enc r0++[.sl r1]++[.bool r2]):kM))
def nfZ (list_:Rows) (domain:Int) (tq:Bytes) (cut:Int) (oH:Rows) (nX oc p_1 p_2 NX:Int) (Ql pieces m_0:Rows):St:= {n:=2199023255619,sl:=[(0,.sl [.i,.i,.i,.bool] list_),(1,.fw),(2,.int .i64 domain),(5,.str tq),(6,.int .i64 cut),(8,.ptr 512 0),(10,.ptr 640 0),(14,.ptr 896 0),(17,.own 641088),(24,.sl [.i] oH),(25,.int .i64 nX),(26,.int .i64 oc)],hp:=[(512,.box 59 [.own 1411072]),(640,.box 62 [.int .i64 p_1,.int .i64 p_2,.int .i64 NX,.sl [.i] Ql]),(896,.box 59 [.nil]),(641088,.row 198 [.i,.i] pieces false true),(1411072,.row 9 [.str] m_0 false true)],ok:=true,ls:=[],lm:=[]}
theorem nib:Cm Tryz.prog 153 Ol:=by
 refine OH (A:=UN) nic Tryz.func153 fun ds hw aJ=> ?_
 replace hw:kc ((.sl [.i,.i,.i,.bool])::(na.ct++(.i::(nv.ct++((.sl [.i])::(.str::(.i::([])))))))) ds:=hw
 obtain⟨list_,ds,rfl,_,hw⟩:=nH hw
 obtain⟨m,ds,rfl,_,hw⟩:=na.nA (r:=_) hw
 obtain⟨domain,ds,rfl,_,hw⟩:=nj hw
 obtain⟨p,ds,rfl,_,hw⟩:=nv.nA (r:=_) hw
 obtain⟨oH,ds,rfl,nmi,hw⟩:=nH hw
 obtain⟨t,ds,rfl,h_t,hw⟩:=qj hw
 obtain⟨cut,ds,rfl,nBQ,hw⟩:=nj hw
 obtain rfl:=nc hw
 obtain⟨N,hN⟩:=nia Vm.ke Ok list_ m domain p oH t cut nmi h_t nBQ aJ
 exact⟨N,Eq.trans (b:=wS Vm.ke Ok (fun nX p_1 p_2 NX Ql tq oc pieces m_0=>LR (Lj Tryz.prog UO UN N Tryz.f153 Ol [true,true,false,true,false] []) N (nfZ list_ domain tq cut oH nX oc p_1 p_2 NX Ql pieces m_0)) list_ m domain p oH t cut) (by kernel_rfl) (Eq.trans (congrArg (fun l_=>wS Vm.ke Ok l_ list_ m domain p oH t cut) (by funext nX p_1 p_2 NX Ql;exact nL4 _ _ _ N)) (hN.trans (by kernel_rfl)))⟩
def Pr:Sum:= {ps:=[⟨[.sl [.i,.i,.i,.bool]],false⟩,⟨na.ct,true⟩,⟨[.i],false⟩,⟨nh.ct,true⟩,⟨nx.ct,true⟩,⟨[.i],false⟩,⟨[.i],false⟩],rs:=[⟨[.own 9 [.str]],true⟩,⟨[.d7 .i,.d7 .i,.d7 .i,.d7 .i,.d7 .i,.d7 .i,.d7 .i,.own 3 [.i],.deep 207 [.i,.i,.sl [.i]] [3],.d7 .i],true⟩,⟨[.d7 .bool],false⟩],fn:=fun ds=>(rm (rR ds 0) (na.nd ds 1) (rI ds 2) (nh.nd ds 3) (nx.nd ds 13) (rI ds 29) (rI ds 30),na.enc (qm (rR ds 0) (na.nd ds 1) (rI ds 2) (nh.nd ds 3) (nx.nd ds 13) (rI ds 29) (rI ds 30)).1++nh.enc (qm (rR ds 0) (na.nd ds 1) (rI ds 2) (nh.nd ds 3) (nx.nd ds 13) (rI ds 29) (rI ds 30)).2.1++[.bool (qm (rR ds 0) (na.nd ds 1) (rI ds 2) (nh.nd ds 3) (nx.nd ds 13) (rI ds 29) (rI ds 30)).2.2])}
def WG:Ctx:=[(1125899906842800,J3),(1125899906842801,J3),(130,sG),(132,X2),(141,R0),(143,oy),(148,yx),(149,Su),(150,Nv),(151,vX),(152,Og),(153,Ol),(154,rC),(155,Pc),(156,xI)]
theorem nj2:bF Tryz.prog WG:=Ic Lq (Ic Lq (Ic tE (Ic ngF (Ic noS (Ic oC (Ic Uy (Ic npV (Ic nbm (Ic nf2 (Ic nhS (Ic nib (Ic nc9 (Ic njR (Ic njY JA))))))))))))))
def WE:List (Nat×lE):=[(19, {ca:=[(0,.mN),(2,.mN),(10,.mN),(14,.mN),(15,.mN),(17,.mN),(18,.mN),(22,.mN),(24,.mN),(26,.mN),(28,.mN),(29,.mN),(139,.mN),(140,.mN),(141,.mN)],boxes:=[(512,[]),(640,[]),(704,[]),(896,[]),(960,[]),(1088,[]),(1152,[]),(1408,[]),(1664,[])]})]
def Pq:na→nh→Bool→kM:=(fun r0 r1 r2=>((true,na.enc r0++nh.enc r1++[.bool r2]):kM))
def nhH (list_:Rows) (domain:Int) (qW x:Rows) (nX oc:Int) (qH:Rows) (xt uX xu xv vc vd ve:Int) (vf sX:Rows) (qR p_1 p_2 NX Ql p_5 p_6 p_7 p_8 p_9 naL naM naN naO naP naQ:Int) (naR:Bytes) (b15 OW OX OY OZ O0 O1 O2 lN Xu Xv Xw Xx Xy Xz XA nV pY pZ p6 pw px py p7:Int) (oH entries PT ye XB re wz Oz:Rows):St:= {n:=186,sl:=[(0,.sl [.i,.i,.i,.bool] list_),(2,.int .i64 domain),(10,.ptr 640 0),(14,.ptr 896 0),(15,.ptr 960 0),(17,.ptr 1088 0),(18,.ptr 1152 0),(22,.ptr 1408 0),(24,.own 641536),(26,.ptr 1664 0),(28,.sl [.i,.i,.i,.i,.i,.i] qW),(29,.own 641856),(139,.sl [.i,.i,.i,.i,.i,.i] x),(140,.int .i64 nX),(141,.int .i64 oc)],hp:=[(512,.box 59 [.sl [.str] qH]),(640,.box 65 [.int .i64 xt,.int .i64 uX,.int .i64 xu,.int .i64 xv,.int .i64 vc,.int .i64 vd,.int .i64 ve,.sl [.i] vf,.sl [.i,.i,.sl [.i]] sX,.int .i64 qR]),(704,.box 86 [.int .i64 p_1,.int .i64 p_2,.int .i64 NX,.int .i64 Ql,.int .i64 p_5,.int .i64 p_6,.int .i64 p_7,.int .i64 p_8,.int .i64 p_9,.int .i64 naL,.int .i64 naM,.int .i64 naN,.int .i64 naO,.int .i64 naP,.int .i64 naQ,.str naR]),(896,.box 59 [.nil]),(960,.box 65 [.int .i64 b15,.int .i64 OW,.int .i64 OX,.int .i64 OY,.int .i64 OZ,.int .i64 O0,.int .i64 O1,.nil,.nil,.int .i64 O2]),(1088,.box 59 [.own 1558528]),(1152,.box 65 [.int .i64 lN,.int .i64 Xu,.int .i64 Xv,.int .i64 Xw,.int .i64 Xx,.int .i64 Xy,.int .i64 Xz,.own 1574919,.own 1574920,.int .i64 XA]),(1408,.box 65 [.int .i64 nV,.int .i64 pY,.int .i64 pZ,.int .i64 p6,.int .i64 pw,.int .i64 px,.int .i64 py,.own 1640455,.own 1640456,.int .i64 p7]),(1664,.box 59 [.own 1705984]),(641536,.row 3 [.i] oH false true),(641856,.row 9 [.str] entries false true),(1558528,.row 9 [.str] PT false true),(1574919,.row 3 [.i] ye false true),(1574920,.deep 207 [.i,.i,.sl [.i]] [3] XB none),(1640455,.row 3 [.i] re false true),(1640456,.deep 207 [.i,.i,.sl [.i]] [3] wz none),(1705984,.row 9 [.str] Oz false true)],ok:=true,ls:=[],lm:=[]}
theorem nj1:D8 Tryz.prog 48 Pr:=by
 refine nO (A:=WE) nj2 Tryz.func48 fun ds hw aJ=> ?_
 replace hw:kc ((.sl [.i,.i,.i,.bool])::(na.ct++(.i::(nh.ct++(nx.ct++(.i::(.i::([])))))))) ds:=hw
 obtain⟨list_,ds,rfl,_,hw⟩:=nH hw
 obtain⟨m,ds,rfl,_,hw⟩:=na.nA (r:=_) hw
 obtain⟨domain,ds,rfl,_,hw⟩:=nj hw
 obtain⟨q,ds,rfl,_,hw⟩:=nh.nA (r:=_) hw
 obtain⟨p,ds,rfl,_,hw⟩:=nx.nA (r:=_) hw
 obtain⟨size,ds,rfl,_,hw⟩:=nj hw
 obtain⟨cut,ds,rfl,_,hw⟩:=nj hw
 obtain rfl:=nc hw
 obtain⟨N,hN⟩:=nj0 Vm.ke Pq list_ m domain q p size cut aJ
 exact⟨N,Eq.trans (b:=xK Vm.ke Pq (fun qW x nX xt uX xu xv qR lN Xu Xv Xw Xx Xy Xz XA pw px py oH PT ye XB re wz Oz oc entries=>LR (LQ Tryz.prog WG WE N Tryz.f48 Pr [true,true,true,true,true,true,true,true,true,true,true,true,true,true,false,true,false] []) N (nhH list_ domain qW x nX oc m.nE xt uX xu xv q.nI.oG q.nI.nL q.nI.Count q.nI.oB q.nr qR p.we p.wg p.sQ p.Tos p.Id p.Ttl p.ql p.qK p.tU.Kind p.tU.oN p.tU.oM p.tU.Seq p.tU.Ack p.tU.Flags p.tU.tM p.tU.Body 0 0 0 0 0 0 0 0 lN Xu Xv Xw Xx Xy Xz XA (((oE q).Ring).oG) (((oE q).Ring).nL) (((oE q).Ring).Head) (((oE q).Ring).qG) pw px py ((oE q).Next) oH entries PT ye XB re wz Oz)) list_ m domain q p size cut) (by kernel_rfl) (Eq.trans (congrArg (fun l_=>xK Vm.ke Pq l_ list_ m domain q p size cut) (by funext qW x nX xt uX xu xv qR lN Xu Xv Xw Xx Xy Xz XA pw px py oH PT ye XB re wz Oz;exact Wq _ _ _ N)) (hN.trans (by kernel_rfl)))⟩
def tK:Sum:= {ps:=[⟨[.sl [.i,.i,.i,.bool]],false⟩,⟨na.ct,true⟩,⟨[.i],false⟩,⟨nh.ct,true⟩,⟨nx.ct,true⟩,⟨[.i],false⟩,⟨[.i],false⟩],rs:=[⟨[.own 9 [.str]],true⟩,⟨[.d7 .i,.d7 .i,.d7 .i,.d7 .i,.d7 .i,.d7 .i,.d7 .i,.own 3 [.i],.own 207 [.i,.i,.sl [.i]],.d7 .i],true⟩,⟨[.d7 .bool],false⟩],fn:=fun ds=>(rm (rR ds 0) (na.nd ds 1) (rI ds 2) (nh.nd ds 3) (nx.nd ds 13) (rI ds 29) (rI ds 30),na.enc (qm (rR ds 0) (na.nd ds 1) (rI ds 2) (nh.nd ds 3) (nx.nd ds 13) (rI ds 29) (rI ds 30)).1++nh.enc (qm (rR ds 0) (na.nd ds 1) (rI ds 2) (nh.nd ds 3) (nx.nd ds 13) (rI ds 29) (rI ds 30)).2.1++[.bool (qm (rR ds 0) (na.nd ds 1) (rI ds 2) (nh.nd ds 3) (nx.nd ds 13) (rI ds 29) (rI ds 30)).2.2])}
def vA:Ctx:=[(97,uQ),(98,Qg),(104,XN),(106,oP),(111,ncW),(112,V3),(113,S4),(114,Tc),(115,R7),(116,Rm),(117,xE),(118,XE),(119,Qc)]
theorem nlZ:bF Tryz.prog vA:=Ic wC (Ic nfi (Ic no3 (Ic oW (Ic nsz (Ic njr (Ic ncL (Ic nsO (Ic neG (Ic noi (Ic ndd (Ic nlM (Ic nlU JA))))))))))))
def vz:List (Nat×lE):=[(11, {ca:=[(0,.mN),(2,.mN),(5,.mN),(6,.mN),(8,.mN),(10,.mN),(14,.mN),(15,.mN),(17,.mN),(19,.mN),(20,.mN),(21,.mN),(22,.mN),(23,.mN),(24,.mN)],boxes:=[(512,[]),(640,[]),(704,[]),(896,[]),(960,[]),(1280,[]),(1408,[])]}),(23, {ca:=[(0,.mN),(2,.mN),(8,.mN),(10,.mN),(14,.mN),(15,.mN),(19,.mN),(20,.mN),(21,.mN),(22,.mN),(29,.mN),(30,.mN),(31,.mN)],boxes:=[(512,[]),(640,[]),(704,[]),(896,[]),(960,[]),(1280,[]),(1408,[])]})]
def ri:na→nh→Bool→kM:=(fun r0 r1 r2=>((true,na.enc r0++nh.enc r1++[.bool r2]):kM))
def uL (list_:Rows) (domain size cut:Int) (t:Bytes) (n k:Int) (qH:Rows) (xt uX xu xv vc vd ve:Int) (vf sX:Rows) (qR p_1 p_2 NX Ql p_5 p_6 p_7 p_8 p_9 naL naM naN naO naP naQ:Int) (naR:Bytes) (b15 OW OX OY OZ O0 O1 O2 qU pV pW:Int) (taken pieces pX nU:Rows):St:= {n:=223,sl:=[(0,.sl [.i,.i,.i,.bool] list_),(2,.int .i64 domain),(5,.int .i64 size),(6,.int .i64 cut),(8,.ptr 512 0),(10,.ptr 640 0),(14,.ptr 896 0),(15,.ptr 960 0),(17,.str t),(19,.int .i64 n),(20,.ptr 1280 0),(21,.own 641344),(22,.ptr 1408 0),(23,.own 641472),(24,.int .i64 k)],hp:=[(512,.box 59 [.sl [.str] qH]),(640,.box 65 [.int .i64 xt,.int .i64 uX,.int .i64 xu,.int .i64 xv,.int .i64 vc,.int .i64 vd,.int .i64 ve,.sl [.i] vf,.sl [.i,.i,.sl [.i]] sX,.int .i64 qR]),(704,.box 86 [.int .i64 p_1,.int .i64 p_2,.int .i64 NX,.int .i64 Ql,.int .i64 p_5,.int .i64 p_6,.int .i64 p_7,.int .i64 p_8,.int .i64 p_9,.int .i64 naL,.int .i64 naM,.int .i64 naN,.int .i64 naO,.int .i64 naP,.int .i64 naQ,.str naR]),(896,.box 59 [.nil]),(960,.box 65 [.int .i64 b15,.int .i64 OW,.int .i64 OX,.int .i64 OY,.int .i64 OZ,.int .i64 O0,.int .i64 O1,.nil,.nil,.int .i64 O2]),(1280,.box 62 [.int .i64 qU,.int .i64 pV,.int .i64 pW,.own 1607683]),(1408,.box 59 [.own 1640448]),(641344,.row 3 [.i] taken false true),(641472,.row 198 [.i,.i] pieces false true),(1607683,.row 3 [.i] pX false true),(1640448,.row 9 [.str] nU false true)],ok:=true,ls:=[],lm:=[]}
def xb (list_:Rows) (domain n qE:Int) (qH:Rows) (xt uX xu xv vc vd ve:Int) (vf sX:Rows) (qR p_1 p_2 NX Ql p_5 p_6 p_7 p_8 p_9 naL naM naN naO naP naQ:Int) (naR:Bytes) (b15 OW OX OY OZ O0 O1 O2 qU pV pW:Int) (taken entries qW pX nU:Rows):St:= {n:=223,sl:=[(0,.sl [.i,.i,.i,.bool] list_),(2,.int .i64 domain),(8,.ptr 512 0),(10,.ptr 640 0),(14,.ptr 896 0),(15,.ptr 960 0),(19,.int .i64 n),(20,.ptr 1280 0),(21,.own 641344),(22,.ptr 1408 0),(29,.own 641856),(30,.own 641920),(31,.int .i64 qE)],hp:=[(512,.box 59 [.sl [.str] qH]),(640,.box 65 [.int .i64 xt,.int .i64 uX,.int .i64 xu,.int .i64 xv,.int .i64 vc,.int .i64 vd,.int .i64 ve,.sl [.i] vf,.sl [.i,.i,.sl [.i]] sX,.int .i64 qR]),(704,.box 86 [.int .i64 p_1,.int .i64 p_2,.int .i64 NX,.int .i64 Ql,.int .i64 p_5,.int .i64 p_6,.int .i64 p_7,.int .i64 p_8,.int .i64 p_9,.int .i64 naL,.int .i64 naM,.int .i64 naN,.int .i64 naO,.int .i64 naP,.int .i64 naQ,.str naR]),(896,.box 59 [.nil]),(960,.box 65 [.int .i64 b15,.int .i64 OW,.int .i64 OX,.int .i64 OY,.int .i64 OZ,.int .i64 O0,.int .i64 O1,.nil,.nil,.int .i64 O2]),(1280,.box 62 [.int .i64 qU,.int .i64 pV,.int .i64 pW,.own 1607683]),(1408,.box 59 [.own 1640448]),(641344,.row 3 [.i] taken false true),(641856,.row 9 [.str] entries false true),(641920,.row 203 [.i,.i,.i,.i,.i,.i] qW false true),(1607683,.row 3 [.i] pX false true),(1640448,.row 9 [.str] nU false true)],ok:=true,ls:=[],lm:=[]}
noncomputable def xa (N:Nat):(St→kM)→St→kM:=LQ Tryz.prog vA vz N Tryz.f31 tK [true,true,true,true,true,true,true,true,true,true,true,false,true,false] []
noncomputable def uI (N:Nat):(St→kM)→St→kM:=LQ Tryz.prog vA vz N Tryz.f31 tK [true,true,true,true,true,true,true,true,false,true,false] []
theorem nje (N:Nat) (list_:Rows) (domain n:Int) (qH:Rows) (xt uX xu xv vc vd ve:Int) (vf sX:Rows) (qR p_1 p_2 NX Ql p_5 p_6 p_7 p_8 p_9 naL naM naN naO naP naQ:Int) (naR:Bytes) (b15 OW OX OY OZ O0 O1 O2 qU pV pW:Int) (taken qW pX nU:Rows) (ih:St→kM) (qE:Int) (entries:Rows):xa N ih (xb list_ domain n qE qH xt uX xu xv vc vd ve vf sX qR p_1 p_2 NX Ql p_5 p_6 p_7 p_8 p_9 naL naM naN naO naP naQ naR b15 OW OX OY OZ O0 O1 O2 qU pV pW taken entries qW pX nU)=uK Vm.ke ri list_ domain n qH xt uX xu xv vc vd ve vf sX qR qU pV pW taken qW pX nU (fun qE entries=>ih (xb list_ domain n qE qH xt uX xu xv vc vd ve vf sX qR p_1 p_2 NX Ql p_5 p_6 p_7 p_8 p_9 naL naM naN naO naP naQ naR b15 OW OX OY OZ O0 O1 O2 qU pV pW taken entries qW pX nU)) qE entries:=by kernel_rfl
theorem njg (N:Nat) (list_:Rows) (domain n:Int) (qH:Rows) (xt uX xu xv vc vd ve:Int) (vf sX:Rows) (qR p_1 p_2 NX Ql p_5 p_6 p_7 p_8 p_9 naL naM naN naO naP naQ:Int) (naR:Bytes) (b15 OW OX OY OZ O0 O1 O2 qU pV pW:Int) (taken qW pX nU:Rows) (m_:Nat):(fun qE entries=>LR (xa N) m_ (xb list_ domain n qE qH xt uX xu xv vc vd ve vf sX qR p_1 p_2 NX Ql p_5 p_6 p_7 p_8 p_9 naL naM naN naO naP naQ naR b15 OW OX OY OZ O0 O1 O2 qU pV pW taken entries qW pX nU))=rP Vm.ke ri N list_ domain n qH xt uX xu xv vc vd ve vf sX qR qU pV pW taken qW pX nU m_:=by
 induction m_ with
 | zero=>rfl
 | succ m_ ih=>
  funext qE entries
  refine (nje N list_ domain n qH xt uX xu xv vc vd ve vf sX qR p_1 p_2 NX Ql p_5 p_6 p_7 p_8 p_9 naL naM naN naO naP naQ naR b15 OW OX OY OZ O0 O1 O2 qU pV pW taken qW pX nU (LR (xa N) m_) qE entries).trans ?_
  rw[ih]
  rfl
theorem njd (N:Nat) (list_:Rows) (domain size cut:Int) (t:Bytes) (n:Int) (qH:Rows) (xt uX xu xv vc vd ve:Int) (vf sX:Rows) (qR p_1 p_2 NX Ql p_5 p_6 p_7 p_8 p_9 naL naM naN naO naP naQ:Int) (naR:Bytes) (b15 OW OX OY OZ O0 O1 O2 qU pV pW:Int) (taken pX:Rows) (ih:St→kM) (k:Int) (pieces nU:Rows):uI N ih (uL list_ domain size cut t n k qH xt uX xu xv vc vd ve vf sX qR p_1 p_2 NX Ql p_5 p_6 p_7 p_8 p_9 naL naM naN naO naP naQ naR b15 OW OX OY OZ O0 O1 O2 qU pV pW taken pieces pX nU)=uJ Vm.ke ri (fun qW nU qE entries=>LR (xa N) N (xb list_ domain n qE qH xt uX xu xv vc vd ve vf sX qR p_1 p_2 NX Ql p_5 p_6 p_7 p_8 p_9 naL naM naN naO naP naQ naR b15 OW OX OY OZ O0 O1 O2 qU pV pW taken entries qW pX nU)) list_ domain size cut t n qH xt uX xu xv vc vd ve vf sX qR qU pV pW taken pX (fun k pieces nU=>ih (uL list_ domain size cut t n k qH xt uX xu xv vc vd ve vf sX qR p_1 p_2 NX Ql p_5 p_6 p_7 p_8 p_9 naL naM naN naO naP naQ naR b15 OW OX OY OZ O0 O1 O2 qU pV pW taken pieces pX nU)) k pieces nU:=by kernel_rfl
theorem njf (N:Nat) (list_:Rows) (domain size cut:Int) (t:Bytes) (n:Int) (qH:Rows) (xt uX xu xv vc vd ve:Int) (vf sX:Rows) (qR p_1 p_2 NX Ql p_5 p_6 p_7 p_8 p_9 naL naM naN naO naP naQ:Int) (naR:Bytes) (b15 OW OX OY OZ O0 O1 O2 qU pV pW:Int) (taken pX:Rows) (m_:Nat):(fun k pieces nU=>LR (uI N) m_ (uL list_ domain size cut t n k qH xt uX xu xv vc vd ve vf sX qR p_1 p_2 NX Ql p_5 p_6 p_7 p_8 p_9 naL naM naN naO naP naQ naR b15 OW OX OY OZ O0 O1 O2 qU pV pW taken pieces pX nU))=tn Vm.ke ri N list_ domain size cut t n qH xt uX xu xv vc vd ve vf sX qR qU pV pW taken pX m_:=by
 induction m_ with
 | zero=>rfl
 | succ m_ ih=>
  funext k pieces nU
  refine (njd N list_ domain size cut t n qH xt uX xu xv vc vd ve vf sX qR p_1 p_2 NX Ql p_5 p_6 p_7 p_8 p_9 naL naM naN naO naP naQ naR b15 OW OX OY OZ O0 O1 O2 qU pV pW taken pX (LR (uI N) m_) k pieces nU).trans ?_
  have e1:=funext fun qW=>funext fun nU=>njg N list_ domain n qH xt uX xu xv vc vd ve vf sX qR p_1 p_2 NX Ql p_5 p_6 p_7 p_8 p_9 naL naM naN naO naP naQ naR b15 OW OX OY OZ O0 O1 O2 qU pV pW taken qW pX nU N
  rw[e1]
  rw[ih]
  rfl
theorem nlY (N:Nat) (list_:Rows) (m:na) (domain:Int) (q:nh) (p:nx) (size cut:Int):HT Tryz.prog vA vz N Tryz.f31 tK (.sl list_::(m.enc++(.int domain::(q.enc++(p.enc++(.int size::(.int cut::([]))))))))=yh Vm.ke ri N list_ m domain q p size cut:=by
 have nob:HT Tryz.prog vA vz N Tryz.f31 tK (.sl list_::(m.enc++(.int domain::(q.enc++(p.enc++(.int size::(.int cut::([]))))))))=yi Vm.ke ri (fun t n qH xt uX xu xv vc vd ve vf sX qR qU pV pW taken pX k pieces nU=>LR (uI N) N (uL list_ domain size cut t n k qH xt uX xu xv vc vd ve vf sX qR p.we p.wg p.sQ p.Tos p.Id p.Ttl p.ql p.qK p.tU.Kind p.tU.oN p.tU.oM p.tU.Seq p.tU.Ack p.tU.Flags p.tU.tM p.tU.Body 0 0 0 0 0 0 0 0 qU pV pW taken pieces pX nU)) list_ m domain q p size cut:=by kernel_rfl
 refine nob.trans ?_
 unfold yh
 have e0:(fun t n qH xt uX xu xv vc vd ve vf sX qR qU pV pW taken pX k pieces nU=>LR (uI N) N (uL list_ domain size cut t n k qH xt uX xu xv vc vd ve vf sX qR p.we p.wg p.sQ p.Tos p.Id p.Ttl p.ql p.qK p.tU.Kind p.tU.oN p.tU.oM p.tU.Seq p.tU.Ack p.tU.Flags p.tU.tM p.tU.Body 0 0 0 0 0 0 0 0 qU pV pW taken pieces pX nU))=(fun t n qH xt uX xu xv vc vd ve vf sX qR qU pV pW taken pX=>tn Vm.ke ri N list_ domain size cut t n qH xt uX xu xv vc vd ve vf sX qR qU pV pW taken pX N):=by
  funext t n qH xt uX xu xv vc vd ve vf sX qR qU pV pW taken pX
  exact njf N list_ domain size cut t n qH xt uX xu xv vc vd ve vf sX qR p.we p.wg p.sQ p.Tos p.Id p.Ttl p.ql p.qK p.tU.Kind p.tU.oN p.tU.oM p.tU.Seq p.tU.Ack p.tU.Flags p.tU.tM p.tU.Body 0 0 0 0 0 0 0 0 qU pV pW taken pX N
 exact congrArg (fun l_=>yi Vm.ke ri l_ list_ m domain q p size cut) e0
theorem nlX:D8 Tryz.prog 31 tK:=by
 refine nO (A:=vz) nlZ Tryz.func31 fun ds hw aJ=> ?_
 replace hw:kc ((.sl [.i,.i,.i,.bool])::(na.ct++(.i::(nh.ct++(nx.ct++(.i::(.i::([])))))))) ds:=hw
 obtain⟨list_,ds,rfl,_,hw⟩:=nH hw
 obtain⟨m,ds,rfl,_,hw⟩:=na.nA (r:=_) hw
 obtain⟨domain,ds,rfl,_,hw⟩:=nj hw
 obtain⟨q,ds,rfl,_,hw⟩:=nh.nA (r:=_) hw
 obtain⟨p,ds,rfl,_,hw⟩:=nx.nA (r:=_) hw
 obtain⟨size,ds,rfl,_,hw⟩:=nj hw
 obtain⟨cut,ds,rfl,_,hw⟩:=nj hw
 obtain rfl:=nc hw
 obtain⟨N,hN⟩:=nlW Vm.ke ri list_ m domain q p size cut aJ
 exact⟨N,((nlY N list_ m domain q p size cut).trans hN).trans (by kernel_rfl)⟩
def nbd:Sum:= {ps:=[⟨ny.ct,true⟩,⟨nx.ct,true⟩,⟨[.i],false⟩,⟨[.i],false⟩],rs:=[⟨[.own 9 [.str],.own 209 [.i,.i,.i,.bool],.d7 .i,.d7 .i,.d7 .i,.d7 .i,.d7 .i,.d7 .i,.d7 .i,.own 3 [.i],.deep 207 [.i,.i,.sl [.i]] [3],.d7 .i,.own 182 [.i,.i,.i,.i,.i,.i,.i,.i,.i,.i,.i,.i,.i,.i,.i,.i,.i,.i,.i,.i,.i,.i,.i,.i,.i,.str,.i,.i,.bool,.i],.deep 62 [.i,.i,.i,.sl [.i]] [3],.own 186 [.i,.i,.i,.i,.bool,.bool],.own 4 [.bool],.d7 .i,.d7 .bool,.own 3 [.i],.own 260 [.i,.i,.i,.i,.i,.i,.i,.i,.i],.own 262 [.i,.i,.i,.i,.i,.i,.i],.d7 .str,.own 3 [.i],.own 223 [.i,.i,.i,.i,.i,.i,.str,.bool],.d7 .bool,.own 9 [.str],.own 3 [.i],.own 3 [.i],.d7 .i,.d7 .i,.d7 .i,.d7 .i,.d7 .i],true⟩,⟨[.d7 .bool],false⟩],fn:=fun ds=>(yo (ny.nd ds 0) (nx.nd ds 33) (rI ds 49) (rI ds 50),ny.enc (vh (ny.nd ds 0) (nx.nd ds 33) (rI ds 49) (rI ds 50)).1++[.bool (vh (ny.nd ds 0) (nx.nd ds 33) (rI ds 49) (rI ds 50)).2])}
def npp:Ctx:=[(46,Sx),(47,vF),(48,Pr)]
theorem nps:bF Tryz.prog npp:=Ic np2 (Ic nwi (Ic nj1 JA))
theorem npr:D8 Tryz.prog 10 nbd:=by
 refine nO (A:=[]) nps Tryz.func10 fun ds hw aJ=> ?_
 replace hw:kc (ny.ct++(nx.ct++(.i::(.i::([]))))) ds:=hw
 obtain⟨h,ds,rfl,_,hw⟩:=ny.nA (r:=_) hw
 obtain⟨p,ds,rfl,_,hw⟩:=nx.nA (r:=_) hw
 obtain⟨size,ds,rfl,_,hw⟩:=nj hw
 obtain⟨cut,ds,rfl,_,hw⟩:=nj hw
 obtain rfl:=nc hw
 exact⟨0,eT (npq Vm.ke (fun r0 r1=>((true,ny.enc r0++[.bool r1]):kM)) h p size cut aJ)⟩
def ncz:Sum:= {ps:=[⟨ny.ct,true⟩,⟨nx.ct,true⟩,⟨[.i],false⟩,⟨[.i],false⟩],rs:=[⟨[.own 9 [.str],.own 209 [.i,.i,.i,.bool],.d7 .i,.d7 .i,.d7 .i,.d7 .i,.d7 .i,.d7 .i,.d7 .i,.own 3 [.i],.own 207 [.i,.i,.sl [.i]],.d7 .i,.own 182 [.i,.i,.i,.i,.i,.i,.i,.i,.i,.i,.i,.i,.i,.i,.i,.i,.i,.i,.i,.i,.i,.i,.i,.i,.i,.str,.i,.i,.bool,.i],.own 62 [.i,.i,.i,.sl [.i]],.own 186 [.i,.i,.i,.i,.bool,.bool],.own 4 [.bool],.d7 .i,.d7 .bool,.own 3 [.i],.own 260 [.i,.i,.i,.i,.i,.i,.i,.i,.i],.own 262 [.i,.i,.i,.i,.i,.i,.i],.d7 .str,.own 3 [.i],.own 223 [.i,.i,.i,.i,.i,.i,.str,.bool],.d7 .bool,.own 9 [.str],.own 3 [.i],.own 3 [.i],.d7 .i,.d7 .i,.d7 .i,.d7 .i,.d7 .i],true⟩,⟨[.d7 .bool],false⟩],fn:=fun ds=>(yo (ny.nd ds 0) (nx.nd ds 33) (rI ds 49) (rI ds 50),ny.enc (vh (ny.nd ds 0) (nx.nd ds 33) (rI ds 49) (rI ds 50)).1++[.bool (vh (ny.nd ds 0) (nx.nd ds 33) (rI ds 49) (rI ds 50)).2])}
def nr4:Ctx:=[(29,Wl),(30,xC),(31,tK)]
theorem nr7:bF Tryz.prog nr4:=Ic nv2 (Ic nxQ (Ic nlX JA))
theorem nr6:D8 Tryz.prog 7 ncz:=by
 refine nO (A:=[]) nr7 Tryz.func7 fun ds hw aJ=> ?_
 replace hw:kc (ny.ct++(nx.ct++(.i::(.i::([]))))) ds:=hw
 obtain⟨h,ds,rfl,_,hw⟩:=ny.nA (r:=_) hw
 obtain⟨p,ds,rfl,_,hw⟩:=nx.nA (r:=_) hw
 obtain⟨size,ds,rfl,_,hw⟩:=nj hw
 obtain⟨cut,ds,rfl,_,hw⟩:=nj hw
 obtain rfl:=nc hw
 exact⟨0,eT (nr5 Vm.ke (fun r0 r1=>((true,ny.enc r0++[.bool r1]):kM)) h p size cut aJ)⟩
def naH:Sum:= {ps:=[⟨ny.ct,true⟩,⟨nx.ct,true⟩,⟨[.i],false⟩,⟨[.i],false⟩],rs:=[⟨[.d7 .bool],false⟩],fn:=fun ds=>(Ws (ny.ct++(nx.ct++(.i::(.i::([]))))) ds,[.bool true])}
def naE:Ctx:=[(5,ng_),(6,SK),(7,ncz),(8,nhd),(9,SQ),(10,nbd),(11,ngV),(12,nb1),(13,nbW)]
theorem naI:bF Tryz.prog naE:=Ic nxa (Ic nca (Ic nr6 (Ic nxp (Ic ncg (Ic npr (Ic nwS (Ic nqS (Ic nqJ JA))))))))
theorem naG:D8 Tryz.prog 3 naH:=by
 refine nO (A:=[]) naI Tryz.func3 fun ds hw aJ=> ?_
 replace hw:kc (ny.ct++(nx.ct++(.i::(.i::([]))))) ds:=hw
 obtain⟨aH,ds,rfl,nBP,hw⟩:=ny.nA (r:=_) hw
 obtain⟨aP,ds,rfl,nCI,hw⟩:=nx.nA (r:=_) hw
 obtain⟨ngA,ds,rfl,nAS,hw⟩:=nj hw
 obtain⟨nwc,ds,rfl,nBO,hw⟩:=nj hw
 obtain rfl:=nc hw
 exact⟨0,eT (naF Vm.ke (fun r0=>((true,[.bool r0]):kM)) aH aP ngA nwc nBP nCI nAS nBO aJ)⟩
end
end Go.Proofs.YtngbcccnjiaddaaGreat.Pl
