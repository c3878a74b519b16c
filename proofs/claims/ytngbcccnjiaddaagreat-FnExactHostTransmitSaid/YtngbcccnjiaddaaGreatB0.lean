/- Contracts. Conditions: as each says. -/
import Derived.Test.YtngbcccnjiaddaaGreatP0
import Derived.Test.YtngbcccnjiaddaaGreatRows
import Derived.Test.YtngbcccnjiaddaaGreatP1
set_option linter.unusedVariables false
set_option linter.unusedSimpArgs false
set_option maxRecDepth 100000
namespace Go.Proofs.YtngbcccnjiaddaaGreat.Pl
open Vm
noncomputable section
def Y8:Sum:= {ps:=[⟨nS.ct,true⟩],rs:=[⟨[.dQ .i,.dQ .i,.dQ .i,.dQ .i,.dQ .i],true⟩],fn:=fun ds=>(true,nS.enc (oQ (nS.na ds 0)))}
theorem niG:DA Tryz.prog 209 Y8:=by
 refine nM IU Tryz.func209 fun ds (hw:jI (nS.ct++[]) ds) _=> ?_
 obtain⟨a,ds,rfl,_,hw⟩:=nS.nB (r:=_) hw
 obtain rfl:=nm hw
 exact⟨0,eT (nu1 (fun r0=>((true,nS.enc r0):ke)) a)⟩
def niO:Sum:= {ps:=[⟨ra.ct,true⟩],rs:=[⟨[.dQ .i,.dQ .i,.dQ .i,.dQ .i,.dQ .i,.dQ .i,.dQ .i],true⟩],fn:=fun ds=>(true,ra.enc (oQ (ra.na ds 0)))}
theorem nve:DA Tryz.prog 266 niO:=by
 refine nM (Γ:=[(209,Y8)]) (Hx niG IU) Tryz.func266 fun ds (hw:jI (ra.ct++[]) ds) _=> ?_
 obtain⟨a,ds,rfl,_,hw⟩:=ra.nB (r:=_) hw
 obtain rfl:=nm hw
 exact⟨0,eT (nvd (fun r0=>((true,ra.enc r0):ke)) a)⟩
def Ng:Sum:= {ps:=[⟨[.sl [.str]],false⟩,⟨[.i],false⟩],rs:=[⟨[.dQ .i],false⟩],fn:=fun ds=>(true,[.int (qp (rR ds 0) (rI ds 1))])}
def naz:List (Nat×kW):=[(5, {bN:=[(0,.mh),(1,.mh),(5,.mh)],boxes:=[]})]
def naA:Int→ke:=(fun r0=>((true,[.int r0]):ke))
def nlP (a:Rows) (uU i:Int):St:= {n:=28,sl:=[(0,.sl [.str] a),(1,.int .i64 uU),(5,.int .i64 i)],hp:=[],ok:=true,ls:=[],lm:=[]}
theorem naC:DA Tryz.prog 26 Ng:=by
 refine qh (A:=naz) IU Tryz.func26 fun ds (hw:jI ([.sl [.str],.i]) ds) _=> ?_
 obtain⟨a,ds,rfl,qj,hw⟩:=oh hw
 obtain⟨left,rfl,_⟩:=nt hw
 obtain⟨N,hN⟩:=nnM Vm.jK naA a left qj
 exact⟨N,eL (fun l_=>Sf Vm.jK naA l_ a left) (Tm (KR Tryz.prog [] naz N Tryz.f26 Ng [true,true,true,false,true,false] []) (nlP a) _ N) hN⟩
def ndh:Sum:= {ps:=[⟨nd.ct,true⟩,⟨[.i],false⟩],rs:=[⟨[.dQ .i],false⟩],fn:=fun ds=>(true,[.int (oa (nd.na ds 0) (rI ds 1))])}
theorem nqv:DA Tryz.prog 16 ndh:=by
 refine nM (Γ:=[(26,Ng)]) (Hx naC IU) Tryz.func16 fun ds (hw:jI (nd.ct++[.i]) ds) _=> ?_
 obtain⟨a,ds,rfl,_,hw⟩:=nd.nB (r:=_) hw
 obtain⟨left,rfl,_⟩:=nt hw
 exact⟨0,eT (nqu (fun r0=>((true,[.int r0]):ke)) a left)⟩
def X7:Sum:= {ps:=[⟨[.sl [.i,.i,.i,.bool]],false⟩,⟨[.i],false⟩],rs:=[⟨[.dQ .i],false⟩],fn:=fun ds=>(true,[.int (oe (rR ds 0) (rI ds 1))])}
theorem nlF:DA Tryz.prog 17 X7:=by
 refine nM IU Tryz.func17 fun ds (hw:jI ([.sl [.i,.i,.i,.bool],.i]) ds) _=> ?_
 obtain⟨a,ds,rfl,_,hw⟩:=oh hw
 obtain⟨left,rfl,_⟩:=nt hw
 exact⟨0,eT (uz (fun r0=>((true,[.int r0]):ke)) a left)⟩
def yy:Sum:= {ps:=[⟨[.sl [.i]],false⟩,⟨[.i],false⟩],rs:=[⟨[.dQ .i],false⟩],fn:=fun ds=>(true,[.int (oe (rR ds 0) (rI ds 1))])}
theorem Og:DA Tryz.prog 27 yy:=by
 refine nM IU Tryz.func27 fun ds (hw:jI ([.sl [.i],.i]) ds) _=> ?_
 obtain⟨a,ds,rfl,_,hw⟩:=oh hw
 obtain⟨left,rfl,_⟩:=nt hw
 exact⟨0,eT (uz (fun r0=>((true,[.int r0]):ke)) a left)⟩
def Y4:Sum:= {ps:=[⟨nE.ct,true⟩,⟨[.i],false⟩],rs:=[⟨[.dQ .i],false⟩],fn:=fun ds=>(true,[.int (qF (nE.na ds 0) (rI ds 4))])}
theorem niE:DA Tryz.prog 90 Y4:=by
 refine nM (Γ:=[(27,yy)]) (Hx Og IU) Tryz.func90 fun ds (hw:jI (nE.ct++[.i]) ds) _=> ?_
 obtain⟨a,ds,rfl,_,hw⟩:=nE.nB (r:=_) hw
 obtain⟨left,rfl,_⟩:=nt hw
 exact⟨0,eT (nuY (fun r0=>((true,[.int r0]):ke)) a left)⟩
def niF:Sum:= {ps:=[⟨pe.ct,true⟩,⟨[.i],false⟩],rs:=[⟨[.dQ .i],false⟩],fn:=fun ds=>(true,[.int (rO (pe.na ds 0) (rI ds 3))])}
theorem nu0:DA Tryz.prog 183 niF:=by
 refine nM (Γ:=[(27,yy)]) (Hx Og IU) Tryz.func183 fun ds (hw:jI (pe.ct++[.i]) ds) _=> ?_
 obtain⟨a,ds,rfl,_,hw⟩:=pe.nB (r:=_) hw
 obtain⟨left,rfl,_⟩:=nt hw
 exact⟨0,eT (nuZ (fun r0=>((true,[.int r0]):ke)) a left)⟩
def Wx:Sum:= {ps:=[⟨[.sl [.i,.i,.sl [.i]]],false⟩,⟨[.i],false⟩],rs:=[⟨[.dQ .i],false⟩],fn:=fun ds=>(true,[.int (tc (rR ds 0) (rI ds 1))])}
def nfA:Ctx:=[(183,niF)]
theorem nsY:bt Tryz.prog nfA:=Hx nu0 IU
def nfz:List (Nat×kW):=[(5, {bN:=[(0,.mh),(1,.mh),(5,.mh)],boxes:=[]})]
def nfB:Int→ke:=(fun r0=>((true,[.int r0]):ke))
def nqz (a:Rows) (uU i:Int):St:= {n:=27,sl:=[(0,.sl [.i,.i,.sl [.i]] a),(1,.int .i64 uU),(5,.int .i64 i)],hp:=[],ok:=true,ls:=[],lm:=[]}
theorem nsX:DA Tryz.prog 91 Wx:=by
 refine qh (A:=nfz) nsY Tryz.func91 fun ds (hw:jI ([.sl [.i,.i,.sl [.i]],.i]) ds) _=> ?_
 obtain⟨a,ds,rfl,qj,hw⟩:=oh hw
 obtain⟨left,rfl,_⟩:=nt hw
 obtain⟨N,hN⟩:=nsW Vm.jK nfB a left qj
 exact⟨N,eL (fun l_=>Wy Vm.jK nfB l_ a left) (Tm (KR Tryz.prog nfA nfz N Tryz.f91 Wx [true,true,true,false,true,false] []) (nqz a) _ N) hN⟩
def naD:Sum:= {ps:=[⟨ng.ct,true⟩,⟨[.i],false⟩],rs:=[⟨[.dQ .i],false⟩],fn:=fun ds=>(true,[.int (n8 (ng.na ds 0) (rI ds 10))])}
theorem nnO:DA Tryz.prog 18 naD:=by
 refine nM (Γ:=[(90,Y4),(91,Wx)]) (Hx niE (Hx nsX IU)) Tryz.func18 fun ds (hw:jI (ng.ct++[.i]) ds) _=> ?_
 obtain⟨a,ds,rfl,_,hw⟩:=ng.nB (r:=_) hw
 obtain⟨left,rfl,_⟩:=nt hw
 exact⟨0,eT (nnN (fun r0=>((true,[.int r0]):ke)) a left)⟩
def nau:Sum:= {ps:=[⟨nz.ct,true⟩,⟨[.i],false⟩],rs:=[⟨[.dQ .i],false⟩],fn:=fun ds=>(true,[.int (uu (nz.na ds 0) (rI ds 8))])}
theorem nnG:DA Tryz.prog 28 nau:=by
 refine nM IU Tryz.func28 fun ds (hw:jI (nz.ct++[.i]) ds) _=> ?_
 obtain⟨a,ds,rfl,_,hw⟩:=nz.nB (r:=_) hw
 obtain⟨left,rfl,_⟩:=nt hw
 exact⟨0,eT (nnF (fun r0=>((true,[.int r0]):ke)) a left)⟩
def ndi:Sum:= {ps:=[⟨nk.ct,true⟩,⟨[.i],false⟩],rs:=[⟨[.dQ .i],false⟩],fn:=fun ds=>(true,[.int (uY (nk.na ds 0) (rI ds 16))])}
theorem nqx:DA Tryz.prog 6 ndi:=by
 refine nM (Γ:=[(28,nau)]) (Hx nnG IU) Tryz.func6 fun ds (hw:jI (nk.ct++[.i]) ds) _=> ?_
 obtain⟨a,ds,rfl,_,hw⟩:=nk.nB (r:=_) hw
 obtain⟨left,rfl,_⟩:=nt hw
 exact⟨0,eT (nqw (fun r0=>((true,[.int r0]):ke)) a left)⟩
def nfE:Sum:= {ps:=[⟨pA.ct,true⟩,⟨[.i],false⟩],rs:=[⟨[.dQ .i],false⟩],fn:=fun ds=>(true,[.int (wF (pA.na ds 0) (rI ds 18))])}
theorem ns2:DA Tryz.prog 184 nfE:=by
 refine nM (Γ:=[(6,ndi)]) (Hx nqx IU) Tryz.func184 fun ds (hw:jI (pA.ct++[.i]) ds) _=> ?_
 obtain⟨a,ds,rfl,_,hw⟩:=pA.nB (r:=_) hw
 obtain⟨left,rfl,_⟩:=nt hw
 exact⟨0,eT (ns1 (fun r0=>((true,[.int r0]):ke)) a left)⟩
def nas:Sum:= {ps:=[⟨nP.ct,true⟩,⟨[.i],false⟩],rs:=[⟨[.dQ .i],false⟩],fn:=fun ds=>(true,[.int (sn (nP.na ds 0) (rI ds 30))])}
theorem nnE:DA Tryz.prog 92 nas:=by
 refine nM (Γ:=[(184,nfE)]) (Hx ns2 IU) Tryz.func92 fun ds (hw:jI (nP.ct++[.i]) ds) _=> ?_
 obtain⟨a,ds,rfl,_,hw⟩:=nP.nB (r:=_) hw
 obtain⟨left,rfl,_⟩:=nt hw
 exact⟨0,eT (nnD (fun r0=>((true,[.int r0]):ke)) a left)⟩
def QQ:Sum:= {ps:=[⟨[.sl [.i,.i,.i,.i,.i,.i,.i,.i,.i,.i,.i,.i,.i,.i,.i,.i,.i,.i,.i,.i,.i,.i,.i,.i,.i,.str,.i,.i,.bool,.i]],false⟩,⟨[.i],false⟩],rs:=[⟨[.dQ .i],false⟩],fn:=fun ds=>(true,[.int (oF (rR ds 0) (rI ds 1))])}
def X_:Ctx:=[(92,nas)]
theorem nlJ:bt Tryz.prog X_:=Hx nnE IU
def X9:List (Nat×kW):=[(5, {bN:=[(0,.mh),(1,.mh),(5,.mh)],boxes:=[]})]
def Ya:Int→ke:=(fun r0=>((true,[.int r0]):ke))
def njL (a:Rows) (uU i:Int):St:= {n:=27,sl:=[(0,.sl [.i,.i,.i,.i,.i,.i,.i,.i,.i,.i,.i,.i,.i,.i,.i,.i,.i,.i,.i,.i,.i,.i,.i,.i,.i,.str,.i,.i,.bool,.i] a),(1,.int .i64 uU),(5,.int .i64 i)],hp:=[],ok:=true,ls:=[],lm:=[]}
theorem nlI:DA Tryz.prog 19 QQ:=by
 refine qh (A:=X9) nlJ Tryz.func19 fun ds (hw:jI ([.sl [.i,.i,.i,.i,.i,.i,.i,.i,.i,.i,.i,.i,.i,.i,.i,.i,.i,.i,.i,.i,.i,.i,.i,.i,.i,.str,.i,.i,.bool,.i],.i]) ds) _=> ?_
 obtain⟨a,ds,rfl,qj,hw⟩:=oh hw
 obtain⟨left,rfl,_⟩:=nt hw
 obtain⟨N,hN⟩:=nlH Vm.jK Ya a left qj
 exact⟨N,eL (fun l_=>QR Vm.jK Ya l_ a left) (Tm (KR Tryz.prog X_ X9 N Tryz.f19 QQ [true,true,true,false,true,false] []) (njL a) _ N) hN⟩
def Wu:Sum:= {ps:=[⟨[.sl [.i,.i,.i,.sl [.i]]],false⟩,⟨[.i],false⟩],rs:=[⟨[.dQ .i],false⟩],fn:=fun ds=>(true,[.int (pD (rR ds 0) (rI ds 1))])}
def nfv:Ctx:=[(90,Y4)]
theorem nsU:bt Tryz.prog nfv:=Hx niE IU
def nfu:List (Nat×kW):=[(5, {bN:=[(0,.mh),(1,.mh),(5,.mh)],boxes:=[]})]
def nfw:Int→ke:=(fun r0=>((true,[.int r0]):ke))
def nqy (a:Rows) (uU i:Int):St:= {n:=27,sl:=[(0,.sl [.i,.i,.i,.sl [.i]] a),(1,.int .i64 uU),(5,.int .i64 i)],hp:=[],ok:=true,ls:=[],lm:=[]}
theorem nsT:DA Tryz.prog 20 Wu:=by
 refine qh (A:=nfu) nsU Tryz.func20 fun ds (hw:jI ([.sl [.i,.i,.i,.sl [.i]],.i]) ds) _=> ?_
 obtain⟨a,ds,rfl,qj,hw⟩:=oh hw
 obtain⟨left,rfl,_⟩:=nt hw
 obtain⟨N,hN⟩:=nsS Vm.jK nfw a left qj
 exact⟨N,eL (fun l_=>Wv Vm.jK nfw l_ a left) (Tm (KR Tryz.prog nfv nfu N Tryz.f20 Wu [true,true,true,false,true,false] []) (nqy a) _ N) hN⟩
def naE:Sum:= {ps:=[⟨[.sl [.i,.i,.i,.i,.bool,.bool]],false⟩,⟨[.i],false⟩],rs:=[⟨[.dQ .i],false⟩],fn:=fun ds=>(true,[.int (oe (rR ds 0) (rI ds 1))])}
theorem nnP:DA Tryz.prog 21 naE:=by
 refine nM IU Tryz.func21 fun ds (hw:jI ([.sl [.i,.i,.i,.i,.bool,.bool],.i]) ds) _=> ?_
 obtain⟨a,ds,rfl,_,hw⟩:=oh hw
 obtain⟨left,rfl,_⟩:=nt hw
 exact⟨0,eT (uz (fun r0=>((true,[.int r0]):ke)) a left)⟩
def nft:Sum:= {ps:=[⟨[.sl [.bool]],false⟩,⟨[.i],false⟩],rs:=[⟨[.dQ .i],false⟩],fn:=fun ds=>(true,[.int (oe (rR ds 0) (rI ds 1))])}
theorem nsQ:DA Tryz.prog 22 nft:=by
 refine nM IU Tryz.func22 fun ds (hw:jI ([.sl [.bool],.i]) ds) _=> ?_
 obtain⟨a,ds,rfl,_,hw⟩:=oh hw
 obtain⟨left,rfl,_⟩:=nt hw
 exact⟨0,eT (uz (fun r0=>((true,[.int r0]):ke)) a left)⟩
def ndg:Sum:= {ps:=[⟨nH.ct,true⟩,⟨[.i],false⟩],rs:=[⟨[.dQ .i],false⟩],fn:=fun ds=>(true,[.int (qe (nH.na ds 0) (rI ds 3))])}
theorem nqs:DA Tryz.prog 23 ndg:=by
 refine nM (Γ:=[(27,yy)]) (Hx Og IU) Tryz.func23 fun ds (hw:jI (nH.ct++[.i]) ds) _=> ?_
 obtain⟨a,ds,rfl,_,hw⟩:=nH.nB (r:=_) hw
 obtain⟨left,rfl,_⟩:=nt hw
 exact⟨0,eT (nqr (fun r0=>((true,[.int r0]):ke)) a left)⟩
def nfy:Sum:= {ps:=[⟨[.sl [.i,.i,.i,.i,.i,.i,.i,.i,.i]],false⟩,⟨[.i],false⟩],rs:=[⟨[.dQ .i],false⟩],fn:=fun ds=>(true,[.int (oe (rR ds 0) (rI ds 1))])}
theorem nsV:DA Tryz.prog 93 nfy:=by
 refine nM IU Tryz.func93 fun ds (hw:jI ([.sl [.i,.i,.i,.i,.i,.i,.i,.i,.i],.i]) ds) _=> ?_
 obtain⟨a,ds,rfl,_,hw⟩:=oh hw
 obtain⟨left,rfl,_⟩:=nt hw
 exact⟨0,eT (uz (fun r0=>((true,[.int r0]):ke)) a left)⟩
def nfD:Sum:= {ps:=[⟨[.sl [.i,.i,.i,.i,.i,.i,.i]],false⟩,⟨[.i],false⟩],rs:=[⟨[.dQ .i],false⟩],fn:=fun ds=>(true,[.int (oe (rR ds 0) (rI ds 1))])}
theorem ns0:DA Tryz.prog 185 nfD:=by
 refine nM IU Tryz.func185 fun ds (hw:jI ([.sl [.i,.i,.i,.i,.i,.i,.i],.i]) ds) _=> ?_
 obtain⟨a,ds,rfl,_,hw⟩:=oh hw
 obtain⟨left,rfl,_⟩:=nt hw
 exact⟨0,eT (uz (fun r0=>((true,[.int r0]):ke)) a left)⟩
def Wt:Sum:= {ps:=[⟨nh.ct,true⟩,⟨[.i],false⟩],rs:=[⟨[.dQ .i],false⟩],fn:=fun ds=>(true,[.int (sK (nh.na ds 0) (rI ds 1))])}
theorem njK:DA Tryz.prog 94 Wt:=by
 refine nM (Γ:=[(185,nfD)]) (Hx ns0 IU) Tryz.func94 fun ds (hw:jI (nh.ct++[.i]) ds) _=> ?_
 obtain⟨a,ds,rfl,_,hw⟩:=nh.nB (r:=_) hw
 obtain⟨left,rfl,_⟩:=nt hw
 exact⟨0,eT (njJ (fun r0=>((true,[.int r0]):ke)) a left)⟩
def ndk:Sum:= {ps:=[⟨nJ.ct,true⟩,⟨[.i],false⟩],rs:=[⟨[.dQ .i],false⟩],fn:=fun ds=>(true,[.int (wQ (nJ.na ds 0) (rI ds 2))])}
theorem nqB:DA Tryz.prog 95 ndk:=by
 refine nM (Γ:=[(27,yy)]) (Hx Og IU) Tryz.func95 fun ds (hw:jI (nJ.ct++[.i]) ds) _=> ?_
 obtain⟨a,ds,rfl,_,hw⟩:=nJ.nB (r:=_) hw
 obtain⟨left,rfl,_⟩:=nt hw
 exact⟨0,eT (nqA (fun r0=>((true,[.int r0]):ke)) a left)⟩
def Yd:Sum:= {ps:=[⟨nj.ct,true⟩,⟨[.i],false⟩],rs:=[⟨[.dQ .i],false⟩],fn:=fun ds=>(true,[.int (pZ (nj.na ds 0) (rI ds 4))])}
theorem nlN:DA Tryz.prog 24 Yd:=by
 refine nM (Γ:=[(93,nfy),(94,Wt),(95,ndk)]) (Hx nsV (Hx njK (Hx nqB IU))) Tryz.func24 fun ds (hw:jI (nj.ct++[.i]) ds) _=> ?_
 obtain⟨a,ds,rfl,_,hw⟩:=nj.nB (r:=_) hw
 obtain⟨left,rfl,_⟩:=nt hw
 exact⟨0,eT (nlM (fun r0=>((true,[.int r0]):ke)) a left)⟩
def ndl:Sum:= {ps:=[⟨oz.ct,true⟩,⟨[.i],false⟩],rs:=[⟨[.dQ .i],false⟩],fn:=fun ds=>(true,[.int (sQ (oz.na ds 0) (rI ds 8))])}
theorem nqD:DA Tryz.prog 96 ndl:=by
 refine nM IU Tryz.func96 fun ds (hw:jI (oz.ct++[.i]) ds) _=> ?_
 obtain⟨a,ds,rfl,_,hw⟩:=oz.nB (r:=_) hw
 obtain⟨left,rfl,_⟩:=nt hw
 exact⟨0,eT (nqC (fun r0=>((true,[.int r0]):ke)) a left)⟩
def Sd:Sum:= {ps:=[⟨[.sl [.i,.i,.i,.i,.i,.i,.str,.bool]],false⟩,⟨[.i],false⟩],rs:=[⟨[.dQ .i],false⟩],fn:=fun ds=>(true,[.int (qG (rR ds 0) (rI ds 1))])}
def naw:Ctx:=[(96,ndl)]
theorem nnK:bt Tryz.prog naw:=Hx nqD IU
def nav:List (Nat×kW):=[(5, {bN:=[(0,.mh),(1,.mh),(5,.mh)],boxes:=[]})]
def nax:Int→ke:=(fun r0=>((true,[.int r0]):ke))
def nlO (a:Rows) (uU i:Int):St:= {n:=27,sl:=[(0,.sl [.i,.i,.i,.i,.i,.i,.str,.bool] a),(1,.int .i64 uU),(5,.int .i64 i)],hp:=[],ok:=true,ls:=[],lm:=[]}
theorem nnJ:DA Tryz.prog 25 Sd:=by
 refine qh (A:=nav) nnK Tryz.func25 fun ds (hw:jI ([.sl [.i,.i,.i,.i,.i,.i,.str,.bool],.i]) ds) _=> ?_
 obtain⟨a,ds,rfl,qj,hw⟩:=oh hw
 obtain⟨left,rfl,_⟩:=nt hw
 obtain⟨N,hN⟩:=nnI Vm.jK nax a left qj
 exact⟨N,eL (fun l_=>Se Vm.jK nax l_ a left) (Tm (KR Tryz.prog naw nav N Tryz.f25 Sd [true,true,true,false,true,false] []) (nlO a) _ N) hN⟩
def niD:Sum:= {ps:=[⟨nx.ct,true⟩,⟨[.i],false⟩],rs:=[⟨[.dQ .i],false⟩],fn:=fun ds=>(true,[.int (ur (nx.na ds 0) (rI ds 33))])}
theorem nuX:DA Tryz.prog 5 niD:=by
 refine nM (Γ:=[(16,ndh),(17,X7),(18,naD),(19,QQ),(20,Wu),(21,naE),(22,nft),(23,ndg),(24,Yd),(25,Sd),(26,Ng),(27,yy)]) (Hx nqv (Hx nlF (Hx nnO (Hx nlI (Hx nsT (Hx nnP (Hx nsQ (Hx nqs (Hx nlN (Hx nnJ (Hx naC (Hx Og IU)))))))))))) Tryz.func5 fun ds (hw:jI (nx.ct++[.i]) ds) _=> ?_
 obtain⟨a,ds,rfl,_,hw⟩:=nx.nB (r:=_) hw
 obtain⟨left,rfl,_⟩:=nt hw
 exact⟨0,eT (nuW (fun r0=>((true,[.int r0]):ke)) a left)⟩
def wP:Sum:= {ps:=[⟨[.sl [.i]],false⟩,⟨[.sl [.i]],false⟩],rs:=[⟨[.dQ .bool],false⟩],fn:=fun ds=>(same (rR ds 0) (rR ds 1),[.bool (px (rR ds 0) (rR ds 1))])}
def niq:List (Nat×kW):=[(4, {bN:=[(0,.mh),(1,.mh),(5,.mh)],boxes:=[]})]
def nir:Bool→ke:=(fun r0=>((true,[.bool r0]):ke))
def nsB (a b:Rows) (i:Int):St:= {n:=26,sl:=[(0,.sl [.i] a),(1,.sl [.i] b),(5,.int .i64 i)],hp:=[],ok:=true,ls:=[],lm:=[]}
theorem Oe:DA Tryz.prog 60 wP:=by
 refine qh (A:=niq) IU Tryz.func60 fun ds (hw:jI ([.sl [.i],.sl [.i]]) ds) aF=> ?_
 obtain⟨a,ds,rfl,qj,hw⟩:=oh hw
 obtain⟨b,rfl,_⟩:=oU hw
 obtain⟨N,hN⟩:=nuN Vm.jK nir a b qj aF
 exact⟨N,eL (fun l_=>Y1 Vm.jK nir l_ a b) (nL1 (KR Tryz.prog [] niq N Tryz.f60 wP [true,true,false,true,false] []) (nsB a b) _ N) hN⟩
def Y2:Sum:= {ps:=[⟨nE.ct,true⟩,⟨nE.ct,true⟩],rs:=[⟨[.dQ .bool],false⟩],fn:=fun ds=>(same (nE.na ds 0) (nE.na ds 4),[.bool (px (nE.na ds 0) (nE.na ds 4))])}
theorem nit:DA Tryz.prog 159 Y2:=by
 refine nM (Γ:=[(60,wP)]) (Hx Oe IU) Tryz.func159 fun ds (hw:jI (nE.ct++(nE.ct++[])) ds) aF=> ?_
 obtain⟨a,ds,rfl,_,hw⟩:=nE.nB (r:=_) hw
 obtain⟨b,ds,rfl,_,hw⟩:=nE.nB (r:=_) hw
 obtain rfl:=nm hw
 exact⟨0,eT (nuO Vm.jK (fun r0=>((true,[.bool r0]):ke)) a b aF)⟩
def V1:Sum:= {ps:=[⟨[.sl [.i,.i,.i,.sl [.i]]],false⟩,⟨[.sl [.i,.i,.i,.sl [.i]]],false⟩],rs:=[⟨[.dQ .bool],false⟩],fn:=fun ds=>(same (rR ds 0) (rR ds 1),[.bool (px (rR ds 0) (rR ds 1))])}
def ne7:Ctx:=[(159,Y2)]
theorem nsE:bt Tryz.prog ne7:=Hx nit IU
def ne6:List (Nat×kW):=[(4, {bN:=[(0,.mh),(1,.mh),(5,.mh)],boxes:=[]})]
def ne8:Bool→ke:=(fun r0=>((true,[.bool r0]):ke))
def np3 (a b:Rows) (i:Int):St:= {n:=27,sl:=[(0,.sl [.i,.i,.i,.sl [.i]] a),(1,.sl [.i,.i,.i,.sl [.i]] b),(5,.int .i64 i)],hp:=[],ok:=true,ls:=[],lm:=[]}
theorem nsD:DA Tryz.prog 53 V1:=by
 refine qh (A:=ne6) nsE Tryz.func53 fun ds (hw:jI ([.sl [.i,.i,.i,.sl [.i]],.sl [.i,.i,.i,.sl [.i]]]) ds) aF=> ?_
 obtain⟨a,ds,rfl,qj,hw⟩:=oh hw
 obtain⟨b,rfl,_⟩:=oU hw
 obtain⟨N,hN⟩:=nsC Vm.jK ne8 a b qj aF
 have e0:(fun i=>KS (KR Tryz.prog ne7 ne6 N Tryz.f53 V1 [true,true,false,true,false] []) N (np3 a b i))=(npc (fun r=>nE.na r 0) Vm.jK ne8 N a b N):=nL1 _ _ _ N
 refine⟨N,Eq.trans ?_ (hN.trans (by kernel_rfl))⟩
 unfold nd8
 rw[←e0]
 kernel_rfl
def Y0:Sum:= {ps:=[⟨nS.ct,true⟩,⟨nS.ct,true⟩],rs:=[⟨[.dQ .bool],false⟩],fn:=fun ds=>(same (nS.na ds 0) (nS.na ds 5),[.bool (px (nS.na ds 0) (nS.na ds 5))])}
theorem nim:DA Tryz.prog 237 Y0:=by
 refine nM IU Tryz.func237 fun ds (hw:jI (nS.ct++(nS.ct++[])) ds) aF=> ?_
 obtain⟨a,ds,rfl,_,hw⟩:=nS.nB (r:=_) hw
 obtain⟨b,ds,rfl,_,hw⟩:=nS.nB (r:=_) hw
 obtain rfl:=nm hw
 exact⟨0,eT (nuK (fun r0=>((true,[.bool r0]):ke)) a b aF)⟩
def niB:Sum:= {ps:=[⟨ra.ct,true⟩,⟨ra.ct,true⟩],rs:=[⟨[.dQ .bool],false⟩],fn:=fun ds=>(same (ra.na ds 0) (ra.na ds 7),[.bool (px (ra.na ds 0) (ra.na ds 7))])}
theorem nuV:DA Tryz.prog 283 niB:=by
 refine nM (Γ:=[(237,Y0)]) (Hx nim IU) Tryz.func283 fun ds (hw:jI (ra.ct++(ra.ct++[])) ds) aF=> ?_
 obtain⟨a,ds,rfl,_,hw⟩:=ra.nB (r:=_) hw
 obtain⟨b,ds,rfl,_,hw⟩:=ra.nB (r:=_) hw
 obtain rfl:=nm hw
 exact⟨0,eT (nuU Vm.jK (fun r0=>((true,[.bool r0]):ke)) a b aF)⟩
def V4:Sum:= {ps:=[⟨[.sl [.i,.i,.i,.i,.i,.i,.i]],false⟩,⟨[.sl [.i,.i,.i,.i,.i,.i,.i]],false⟩],rs:=[⟨[.dQ .bool],false⟩],fn:=fun ds=>(same (rR ds 0) (rR ds 1),[.bool (px (rR ds 0) (rR ds 1))])}
def nff:Ctx:=[(283,niB)]
theorem nsN:bt Tryz.prog nff:=Hx nuV IU
def nfe:List (Nat×kW):=[(4, {bN:=[(0,.mh),(1,.mh),(5,.mh)],boxes:=[]})]
def nfg:Bool→ke:=(fun r0=>((true,[.bool r0]):ke))
def np6 (a b:Rows) (i:Int):St:= {n:=27,sl:=[(0,.sl [.i,.i,.i,.i,.i,.i,.i] a),(1,.sl [.i,.i,.i,.i,.i,.i,.i] b),(5,.int .i64 i)],hp:=[],ok:=true,ls:=[],lm:=[]}
theorem nsM:DA Tryz.prog 236 V4:=by
 refine qh (A:=nfe) nsN Tryz.func236 fun ds (hw:jI ([.sl [.i,.i,.i,.i,.i,.i,.i],.sl [.i,.i,.i,.i,.i,.i,.i]]) ds) aF=> ?_
 obtain⟨a,ds,rfl,qj,hw⟩:=oh hw
 obtain⟨b,rfl,_⟩:=oU hw
 obtain⟨N,hN⟩:=nsL Vm.jK nfg a b qj aF
 have e0:(fun i=>KS (KR Tryz.prog nff nfe N Tryz.f236 V4 [true,true,false,true,false] []) N (np6 a b i))=(npc (fun r=>ra.na r 0) Vm.jK nfg N a b N):=nL1 _ _ _ N
 refine⟨N,Eq.trans ?_ (hN.trans (by kernel_rfl))⟩
 unfold nd8
 rw[←e0]
 kernel_rfl
def VZ:Sum:= {ps:=[⟨nh.ct,true⟩,⟨nh.ct,true⟩],rs:=[⟨[.dQ .bool],false⟩],fn:=fun ds=>(same (nh.na ds 0) (nh.na ds 1),[.bool (px (nh.na ds 0) (nh.na ds 1))])}
theorem njm:DA Tryz.prog 164 VZ:=by
 refine nM (Γ:=[(236,V4)]) (Hx nsM IU) Tryz.func164 fun ds (hw:jI (nh.ct++(nh.ct++[])) ds) aF=> ?_
 obtain⟨a,ds,rfl,_,hw⟩:=nh.nB (r:=_) hw
 obtain⟨b,ds,rfl,_,hw⟩:=nh.nB (r:=_) hw
 obtain rfl:=nm hw
 exact⟨0,eT (njl Vm.jK (fun r0=>((true,[.bool r0]):ke)) a b aF)⟩
def ndr:Sum:= {ps:=[⟨oc.ct,true⟩],rs:=[⟨[.dQ .i,.dQ .i,.dQ .i,.dQ .i,.dQ .bool,.dQ .bool],true⟩],fn:=fun ds=>(true,oc.enc (oQ (oc.na ds 0)))}
theorem nqX:DA Tryz.prog 125 ndr:=by
 refine nM IU Tryz.func125 fun ds (hw:jI (oc.ct++[]) ds) _=> ?_
 obtain⟨a,ds,rfl,_,hw⟩:=oc.nB (r:=_) hw
 obtain rfl:=nm hw
 exact⟨0,eT (nqW (fun r0=>((true,oc.enc r0):ke)) a)⟩
def Sh:Sum:= {ps:=[⟨[.sl [.i,.i,.i,.i,.bool,.bool]],false⟩],rs:=[⟨[.own 186 [.i,.i,.i,.i,.bool,.bool]],false⟩],fn:=fun ds=>(sm (rR ds 0),[.sl (oQ (rR ds 0))])}
def naQ:Ctx:=[(125,ndr)]
theorem nn7:bt Tryz.prog naQ:=Hx nqX IU
def naP:List (Nat×kW):=[(3, {bN:=[(0,.mh),(3,.mh),(4,.mh)],boxes:=[]})]
def naR:Rows→ke:=(fun r0=>((true,[.sl r0]):ke))
def nl3 (a:Rows) (i:Int) (nD:Rows):St:= {n:=23,sl:=[(0,.sl [.i,.i,.i,.i,.bool,.bool] a),(3,.own 640192),(4,.int .i64 i)],hp:=[(640192,.row 186 [.i,.i,.i,.i,.bool,.bool] nD false true)],ok:=true,ls:=[],lm:=[]}
theorem nn6:DA Tryz.prog 37 Sh:=by
 refine qh (A:=naP) nn7 Tryz.func37 fun ds (hw:jI ([.sl [.i,.i,.i,.i,.bool,.bool]]) ds) aF=> ?_
 obtain⟨a,rfl,qj⟩:=oU hw
 obtain⟨N,hN⟩:=nn5 Vm.jK naR a qj aF
 have e0:(fun i nD=>KS (KR Tryz.prog naQ naP N Tryz.f37 Sh [true,true,false,true,false] []) N (nl3 a i nD))=(noB ngR Vm.jK naR N a N):=Tm _ _ _ N
 refine⟨N,Eq.trans ?_ (hN.trans (by kernel_rfl))⟩
 unfold na_
 rw[←e0]
 kernel_rfl
def nc2:Sum:= {ps:=[⟨oc.ct,true⟩,⟨oc.ct,true⟩],rs:=[⟨[.dQ .bool],false⟩],fn:=fun ds=>(same (oc.na ds 0) (oc.na ds 6),[.bool (px (oc.na ds 0) (oc.na ds 6))])}
theorem nqb:DA Tryz.prog 162 nc2:=by
 refine nM IU Tryz.func162 fun ds (hw:jI (oc.ct++(oc.ct++[])) ds) aF=> ?_
 obtain⟨a,ds,rfl,_,hw⟩:=oc.nB (r:=_) hw
 obtain⟨b,ds,rfl,_,hw⟩:=oc.nB (r:=_) hw
 obtain rfl:=nm hw
 exact⟨0,eT (nqa (fun r0=>((true,[.bool r0]):ke)) a b aF)⟩
def ZJ:Sum:= {ps:=[⟨nz.ct,true⟩,⟨nz.ct,true⟩],rs:=[⟨[.dQ .bool],false⟩],fn:=fun ds=>(same (nz.na ds 0) (nz.na ds 8),[.bool (px (nz.na ds 0) (nz.na ds 8))])}
theorem nm2:DA Tryz.prog 322 ZJ:=by
 refine nM IU Tryz.func322 fun ds (hw:jI (nz.ct++(nz.ct++[])) ds) aF=> ?_
 obtain⟨a,ds,rfl,_,hw⟩:=nz.nB (r:=_) hw
 obtain⟨b,ds,rfl,_,hw⟩:=nz.nB (r:=_) hw
 obtain rfl:=nm hw
 exact⟨0,eT (nm1 (fun r0=>((true,[.bool r0]):ke)) a b aF)⟩
def ncW:Sum:= {ps:=[⟨nk.ct,true⟩,⟨nk.ct,true⟩],rs:=[⟨[.dQ .bool],false⟩],fn:=fun ds=>(same (nk.na ds 0) (nk.na ds 16),[.bool (px (nk.na ds 0) (nk.na ds 16))])}
theorem np2:DA Tryz.prog 282 ncW:=by
 refine nM (Γ:=[(322,ZJ)]) (Hx nm2 IU) Tryz.func282 fun ds (hw:jI (nk.ct++(nk.ct++[])) ds) aF=> ?_
 obtain⟨a,ds,rfl,_,hw⟩:=nk.nB (r:=_) hw
 obtain⟨b,ds,rfl,_,hw⟩:=nk.nB (r:=_) hw
 obtain rfl:=nm hw
 exact⟨0,eT (np1 Vm.jK (fun r0=>((true,[.bool r0]):ke)) a b aF)⟩
def Yg:Sum:= {ps:=[⟨oC.ct,true⟩],rs:=[⟨[.dQ .i,.dQ .i,.dQ .i,.dQ .i,.dQ .i],true⟩],fn:=fun ds=>(true,oC.enc (oQ (oC.na ds 0)))}
theorem nlR:DA Tryz.prog 44 Yg:=by
 refine nM IU Tryz.func44 fun ds (hw:jI (oC.ct++[]) ds) _=> ?_
 obtain⟨a,ds,rfl,_,hw⟩:=oC.nB (r:=_) hw
 obtain rfl:=nm hw
 exact⟨0,eT (nlQ (fun r0=>((true,oC.enc r0):ke)) a)⟩
def z_:Sum:= {ps:=[⟨[.sl [.str]],false⟩,⟨[.sl [.str]],false⟩],rs:=[⟨[.dQ .bool],false⟩],fn:=fun ds=>(same (rR ds 0) (rR ds 1),[.bool (px (rR ds 0) (rR ds 1))])}
def ZO:List (Nat×kW):=[(4, {bN:=[(0,.mh),(1,.mh),(5,.mh)],boxes:=[]})]
def ZP:Bool→ke:=(fun r0=>((true,[.bool r0]):ke))
def nlb (a b:Rows) (i:Int):St:= {n:=26,sl:=[(0,.sl [.str] a),(1,.sl [.str] b),(5,.int .i64 i)],hp:=[],ok:=true,ls:=[],lm:=[]}
theorem ZR:DA Tryz.prog 59 z_:=by
 refine qh (A:=ZO) IU Tryz.func59 fun ds (hw:jI ([.sl [.str],.sl [.str]]) ds) aF=> ?_
 obtain⟨a,ds,rfl,qj,hw⟩:=oh hw
 obtain⟨b,rfl,_⟩:=oU hw
 obtain⟨N,hN⟩:=nm6 Vm.jK ZP a b qj aF
 exact⟨N,eL (fun l_=>RT Vm.jK ZP l_ a b) (nL1 (KR Tryz.prog [] ZO N Tryz.f59 z_ [true,true,false,true,false] []) (nlb a b) _ N) hN⟩
def Oh:Sum:= {ps:=[⟨nr.ct,true⟩],rs:=[⟨[.dQ .i,.dQ .i,.dQ .i],true⟩],fn:=fun ds=>(true,nr.enc (oQ (nr.na ds 0)))}
theorem Y6:DA Tryz.prog 205 Oh:=by
 refine nM IU Tryz.func205 fun ds (hw:jI (nr.ct++[]) ds) _=> ?_
 obtain⟨a,ds,rfl,_,hw⟩:=nr.nB (r:=_) hw
 obtain rfl:=nm hw
 exact⟨0,eT (Y5 (fun r0=>((true,nr.enc r0):ke)) a)⟩
def nc0:Sum:= {ps:=[⟨oz.ct,true⟩,⟨oz.ct,true⟩],rs:=[⟨[.dQ .bool],false⟩],fn:=fun ds=>(same (oz.na ds 0) (oz.na ds 8),[.bool (px (oz.na ds 0) (oz.na ds 8))])}
theorem np_:DA Tryz.prog 166 nc0:=by
 refine nM (Γ:=[(237,Y0)]) (Hx nim IU) Tryz.func166 fun ds (hw:jI (oz.ct++(oz.ct++[])) ds) aF=> ?_
 obtain⟨a,ds,rfl,_,hw⟩:=oz.nB (r:=_) hw
 obtain⟨b,ds,rfl,_,hw⟩:=oz.nB (r:=_) hw
 obtain rfl:=nm hw
 exact⟨0,eT (np9 Vm.jK (fun r0=>((true,[.bool r0]):ke)) a b aF)⟩
def VX:Sum:= {ps:=[⟨[.sl [.bool]],false⟩,⟨[.sl [.bool]],false⟩],rs:=[⟨[.dQ .bool],false⟩],fn:=fun ds=>(same (rR ds 0) (rR ds 1),[.bool (px (rR ds 0) (rR ds 1))])}
def ne3:List (Nat×kW):=[(4, {bN:=[(0,.mh),(1,.mh),(5,.mh)],boxes:=[]})]
def ne4:Bool→ke:=(fun r0=>((true,[.bool r0]):ke))
def npW (a b:Rows) (i:Int):St:= {n:=26,sl:=[(0,.sl [.bool] a),(1,.sl [.bool] b),(5,.int .i64 i)],hp:=[],ok:=true,ls:=[],lm:=[]}
theorem nsA:DA Tryz.prog 55 VX:=by
 refine qh (A:=ne3) IU Tryz.func55 fun ds (hw:jI ([.sl [.bool],.sl [.bool]]) ds) aF=> ?_
 obtain⟨a,ds,rfl,qj,hw⟩:=oh hw
 obtain⟨b,rfl,_⟩:=oU hw
 obtain⟨N,hN⟩:=nsz Vm.jK ne4 a b qj aF
 exact⟨N,eL (fun l_=>VY Vm.jK ne4 l_ a b) (nL1 (KR Tryz.prog [] ne3 N Tryz.f55 VX [true,true,false,true,false] []) (npW a b) _ N) hN⟩
def ZF:Sum:= {ps:=[⟨oZ.ct,true⟩,⟨oZ.ct,true⟩],rs:=[⟨[.dQ .bool],false⟩],fn:=fun ds=>(same (oZ.na ds 0) (oZ.na ds 4),[.bool (px (oZ.na ds 0) (oZ.na ds 4))])}
theorem nmY:DA Tryz.prog 157 ZF:=by
 refine nM IU Tryz.func157 fun ds (hw:jI (oZ.ct++(oZ.ct++[])) ds) aF=> ?_
 obtain⟨a,ds,rfl,_,hw⟩:=oZ.nB (r:=_) hw
 obtain⟨b,ds,rfl,_,hw⟩:=oZ.nB (r:=_) hw
 obtain rfl:=nm hw
 exact⟨0,eT (nmX (fun r0=>((true,[.bool r0]):ke)) a b aF)⟩
def QN:Sum:= {ps:=[⟨[.sl [.i,.i,.i,.bool]],false⟩,⟨[.sl [.i,.i,.i,.bool]],false⟩],rs:=[⟨[.dQ .bool],false⟩],fn:=fun ds=>(same (rR ds 0) (rR ds 1),[.bool (px (rR ds 0) (rR ds 1))])}
def XU:Ctx:=[(157,ZF)]
theorem nk5:bt Tryz.prog XU:=Hx nmY IU
def XT:List (Nat×kW):=[(4, {bN:=[(0,.mh),(1,.mh),(5,.mh)],boxes:=[]})]
def XV:Bool→ke:=(fun r0=>((true,[.bool r0]):ke))
def njn (a b:Rows) (i:Int):St:= {n:=27,sl:=[(0,.sl [.i,.i,.i,.bool] a),(1,.sl [.i,.i,.i,.bool] b),(5,.int .i64 i)],hp:=[],ok:=true,ls:=[],lm:=[]}
theorem nk4:DA Tryz.prog 50 QN:=by
 refine qh (A:=XT) nk5 Tryz.func50 fun ds (hw:jI ([.sl [.i,.i,.i,.bool],.sl [.i,.i,.i,.bool]]) ds) aF=> ?_
 obtain⟨a,ds,rfl,qj,hw⟩:=oh hw
 obtain⟨b,rfl,_⟩:=oU hw
 obtain⟨N,hN⟩:=nk3 Vm.jK XV a b qj aF
 have e0:(fun i=>KS (KR Tryz.prog XU XT N Tryz.f50 QN [true,true,false,true,false] []) N (njn a b i))=(npc (fun r=>oZ.na r 0) Vm.jK XV N a b N):=nL1 _ _ _ N
 refine⟨N,Eq.trans ?_ (hN.trans (by kernel_rfl))⟩
 unfold nd8
 rw[←e0]
 kernel_rfl
def WJ:Sum:= {ps:=[⟨[.sl [.i,.i,.i,.i,.i,.i,.i]],false⟩],rs:=[⟨[.own 262 [.i,.i,.i,.i,.i,.i,.i]],false⟩],fn:=fun ds=>(sm (rR ds 0),[.sl (oQ (rR ds 0))])}
def nfT:Ctx:=[(266,niO)]
theorem ntg:bt Tryz.prog nfT:=Hx nve IU
def nfS:List (Nat×kW):=[(3, {bN:=[(0,.mh),(3,.mh),(4,.mh)],boxes:=[]})]
def nfU:Rows→ke:=(fun r0=>((true,[.sl r0]):ke))
def nqQ (a:Rows) (i:Int) (nD:Rows):St:= {n:=23,sl:=[(0,.sl [.i,.i,.i,.i,.i,.i,.i] a),(3,.own 640192),(4,.int .i64 i)],hp:=[(640192,.row 262 [.i,.i,.i,.i,.i,.i,.i] nD false true)],ok:=true,ls:=[],lm:=[]}
theorem ntf:DA Tryz.prog 208 WJ:=by
 refine qh (A:=nfS) ntg Tryz.func208 fun ds (hw:jI ([.sl [.i,.i,.i,.i,.i,.i,.i]]) ds) aF=> ?_
 obtain⟨a,rfl,qj⟩:=oU hw
 obtain⟨N,hN⟩:=nte Vm.jK nfU a qj aF
 have e0:(fun i nD=>KS (KR Tryz.prog nfT nfS N Tryz.f208 WJ [true,true,false,true,false] []) N (nqQ a i nD))=(noB noD Vm.jK nfU N a N):=Tm _ _ _ N
 refine⟨N,Eq.trans ?_ (hN.trans (by kernel_rfl))⟩
 unfold na_
 rw[←e0]
 kernel_rfl
def WC:Sum:= {ps:=[⟨nh.ct,true⟩],rs:=[⟨[.own 262 [.i,.i,.i,.i,.i,.i,.i]],true⟩],fn:=fun ds=>(tu (nh.na ds 0),nh.enc (oQ (nh.na ds 0)))}
theorem njO:DA Tryz.prog 127 WC:=by
 refine nM (Γ:=[(208,WJ)]) (Hx ntf IU) Tryz.func127 fun ds (hw:jI (nh.ct++[]) ds) aF=> ?_
 obtain⟨a,ds,rfl,_,hw⟩:=nh.nB (r:=_) hw
 obtain rfl:=nm hw
 exact⟨0,eT (njN Vm.jK (fun r0=>((true,nh.enc r0):ke)) a aF)⟩
def Nh:Sum:= {ps:=[⟨[.sl [.str]],false⟩],rs:=[⟨[.own 9 [.str]],false⟩],fn:=fun ds=>(sm (rR ds 0),[.sl (oQ (rR ds 0))])}
def naL:List (Nat×kW):=[(3, {bN:=[(0,.mh),(3,.mh),(4,.mh)],boxes:=[]})]
def naM:Rows→ke:=(fun r0=>((true,[.sl r0]):ke))
def nl2 (a:Rows) (i:Int) (nD:Rows):St:= {n:=22,sl:=[(0,.sl [.str] a),(3,.own 640192),(4,.int .i64 i)],hp:=[(640192,.row 9 [.str] nD false true)],ok:=true,ls:=[],lm:=[]}
theorem naN:DA Tryz.prog 42 Nh:=by
 refine qh (A:=naL) IU Tryz.func42 fun ds (hw:jI ([.sl [.str]]) ds) aF=> ?_
 obtain⟨a,rfl,qj⟩:=oU hw
 obtain⟨N,hN⟩:=nn2 Vm.jK naM a qj aF
 have e0:(fun i nD=>KS (KR Tryz.prog [] naL N Tryz.f42 Nh [true,true,false,true,false] []) N (nl2 a i nD))=(noB ngQ Vm.jK naM N a N):=Tm _ _ _ N
 refine⟨N,Eq.trans ?_ (hN.trans (by kernel_rfl))⟩
 unfold na_
 rw[←e0]
 kernel_rfl
def ndn:Sum:= {ps:=[⟨nd.ct,true⟩],rs:=[⟨[.own 9 [.str]],true⟩],fn:=fun ds=>(vi (nd.na ds 0),nd.enc (oQ (nd.na ds 0)))}
theorem nqJ:DA Tryz.prog 32 ndn:=by
 refine nM (Γ:=[(42,Nh)]) (Hx naN IU) Tryz.func32 fun ds (hw:jI (nd.ct++[]) ds) aF=> ?_
 obtain⟨a,ds,rfl,_,hw⟩:=nd.nB (r:=_) hw
 obtain rfl:=nm hw
 exact⟨0,eT (nqI Vm.jK (fun r0=>((true,nd.enc r0):ke)) a aF)⟩
def naF:Sum:= {ps:=[⟨oZ.ct,true⟩],rs:=[⟨[.dQ .i,.dQ .i,.dQ .i,.dQ .bool],true⟩],fn:=fun ds=>(true,oZ.enc (oQ (oZ.na ds 0)))}
theorem nnR:DA Tryz.prog 120 naF:=by
 refine nM IU Tryz.func120 fun ds (hw:jI (oZ.ct++[]) ds) _=> ?_
 obtain⟨a,ds,rfl,_,hw⟩:=oZ.nB (r:=_) hw
 obtain rfl:=nm hw
 exact⟨0,eT (nnQ (fun r0=>((true,oZ.enc r0):ke)) a)⟩
def QU:Sum:= {ps:=[⟨[.sl [.i,.i,.i,.bool]],false⟩],rs:=[⟨[.own 209 [.i,.i,.i,.bool]],false⟩],fn:=fun ds=>(sm (rR ds 0),[.sl (oQ (rR ds 0))])}
def Yi:Ctx:=[(120,naF)]
theorem nlV:bt Tryz.prog Yi:=Hx nnR IU
def Yh:List (Nat×kW):=[(3, {bN:=[(0,.mh),(3,.mh),(4,.mh)],boxes:=[]})]
def Yj:Rows→ke:=(fun r0=>((true,[.sl r0]):ke))
def njP (a:Rows) (i:Int) (nD:Rows):St:= {n:=23,sl:=[(0,.sl [.i,.i,.i,.bool] a),(3,.own 640192),(4,.int .i64 i)],hp:=[(640192,.row 209 [.i,.i,.i,.bool] nD false true)],ok:=true,ls:=[],lm:=[]}
theorem nlU:DA Tryz.prog 33 QU:=by
 refine qh (A:=Yh) nlV Tryz.func33 fun ds (hw:jI ([.sl [.i,.i,.i,.bool]]) ds) aF=> ?_
 obtain⟨a,rfl,qj⟩:=oU hw
 obtain⟨N,hN⟩:=nlT Vm.jK Yj a qj aF
 have e0:(fun i nD=>KS (KR Tryz.prog Yi Yh N Tryz.f33 QU [true,true,false,true,false] []) N (njP a i nD))=(noB nbN Vm.jK Yj N a N):=Tm _ _ _ N
 refine⟨N,Eq.trans ?_ (hN.trans (by kernel_rfl))⟩
 unfold na_
 rw[←e0]
 kernel_rfl
def Y_:Sum:= {ps:=[⟨ny.ct,true⟩],rs:=[⟨[.dQ .i,.dQ .i,.dQ .i,.dQ .i],true⟩],fn:=fun ds=>(true,ny.enc (oQ (ny.na ds 0)))}
theorem niL:DA Tryz.prog 121 Y_:=by
 refine nM IU Tryz.func121 fun ds (hw:jI (ny.ct++[]) ds) _=> ?_
 obtain⟨a,ds,rfl,_,hw⟩:=ny.nB (r:=_) hw
 obtain rfl:=nm hw
 exact⟨0,eT (nu7 (fun r0=>((true,ny.enc r0):ke)) a)⟩
def wR:Sum:= {ps:=[⟨[.sl [.i]],false⟩],rs:=[⟨[.own 3 [.i]],false⟩],fn:=fun ds=>(sm (rR ds 0),[.sl (oQ (rR ds 0))])}
def niI:List (Nat×kW):=[(3, {bN:=[(0,.mh),(3,.mh),(4,.mh)],boxes:=[]})]
def niJ:Rows→ke:=(fun r0=>((true,[.sl r0]):ke))
def ns5 (a:Rows) (i:Int) (nD:Rows):St:= {n:=22,sl:=[(0,.sl [.i] a),(3,.own 640192),(4,.int .i64 i)],hp:=[(640192,.row 3 [.i] nD false true)],ok:=true,ls:=[],lm:=[]}
theorem Oi:DA Tryz.prog 43 wR:=by
 refine qh (A:=niI) IU Tryz.func43 fun ds (hw:jI ([.sl [.i]]) ds) aF=> ?_
 obtain⟨a,rfl,qj⟩:=oU hw
 obtain⟨N,hN⟩:=nu5 Vm.jK niJ a qj aF
 have e0:(fun i nD=>KS (KR Tryz.prog [] niI N Tryz.f43 wR [true,true,false,true,false] []) N (ns5 a i nD))=(noB nuf Vm.jK niJ N a N):=Tm _ _ _ N
 refine⟨N,Eq.trans ?_ (hN.trans (by kernel_rfl))⟩
 unfold na_
 rw[←e0]
 kernel_rfl
def Y9:Sum:= {ps:=[⟨nE.ct,true⟩],rs:=[⟨[.dQ .i,.dQ .i,.dQ .i,.own 3 [.i]],true⟩],fn:=fun ds=>(tf (nE.na ds 0),nE.enc (oQ (nE.na ds 0)))}
theorem niK:DA Tryz.prog 122 Y9:=by
 refine nM (Γ:=[(43,wR)]) (Hx Oi IU) Tryz.func122 fun ds (hw:jI (nE.ct++[]) ds) aF=> ?_
 obtain⟨a,ds,rfl,_,hw⟩:=nE.nB (r:=_) hw
 obtain rfl:=nm hw
 exact⟨0,eT (nu6 Vm.jK (fun r0=>((true,nE.enc r0):ke)) a aF)⟩
def niN:Sum:= {ps:=[⟨pe.ct,true⟩],rs:=[⟨[.dQ .i,.dQ .i,.own 3 [.i]],true⟩],fn:=fun ds=>(uv (pe.na ds 0),pe.enc (oQ (pe.na ds 0)))}
theorem nvc:DA Tryz.prog 204 niN:=by
 refine nM (Γ:=[(43,wR)]) (Hx Oi IU) Tryz.func204 fun ds (hw:jI (pe.ct++[]) ds) aF=> ?_
 obtain⟨a,ds,rfl,_,hw⟩:=pe.nB (r:=_) hw
 obtain rfl:=nm hw
 exact⟨0,eT (nvb Vm.jK (fun r0=>((true,pe.enc r0):ke)) a aF)⟩
def WH:Sum:= {ps:=[⟨[.sl [.i,.i,.sl [.i]]],false⟩],rs:=[⟨[.deep 207 [.i,.i,.sl [.i]] [3]],false⟩],fn:=fun ds=>(tG (rR ds 0),[.sl (oQ (rR ds 0))])}
def nfP:Ctx:=[(1125899906842631,Jh),(204,niN)]
theorem ntd:bt Tryz.prog nfP:=Hx Ku (Hx nvc IU)
def nfO:List (Nat×kW):=[(3, {bN:=[(0,.mh),(3,.mh),(4,.mh)],boxes:=[]})]
def nfQ:Rows→ke:=(fun r0=>((true,[.sl r0]):ke))
def nqP (a:Rows) (i:Int) (nD:Rows):St:= {n:=23,sl:=[(0,.sl [.i,.i,.sl [.i]] a),(3,.own 640192),(4,.int .i64 i)],hp:=[(640192,.deep 207 [.i,.i,.sl [.i]] [3] nD none)],ok:=true,ls:=[],lm:=[]}
theorem ntc:DA Tryz.prog 123 WH:=by
 refine qh (A:=nfO) ntd Tryz.func123 fun ds (hw:jI ([.sl [.i,.i,.sl [.i]]]) ds) aF=> ?_
 obtain⟨a,rfl,qj⟩:=oU hw
 obtain⟨N,hN⟩:=ntb Vm.jK nfQ a qj aF
 exact⟨N,eL (fun l_=>WI Vm.jK nfQ l_ a) (Tm (KR Tryz.prog nfP nfO N Tryz.f123 WH [true,true,false,true,false] []) (nqP a) _ N) hN⟩
def naO:Sum:= {ps:=[⟨ng.ct,true⟩],rs:=[⟨[.dQ .i,.dQ .i,.dQ .i,.dQ .i,.dQ .i,.dQ .i,.dQ .i,.own 3 [.i],.deep 207 [.i,.i,.sl [.i]] [3],.dQ .i],true⟩],fn:=fun ds=>(uA (ng.na ds 0),ng.enc (oQ (ng.na ds 0)))}
theorem nn4:DA Tryz.prog 34 naO:=by
 refine nM (Γ:=[(121,Y_),(122,Y9),(123,WH)]) (Hx niL (Hx niK (Hx ntc IU))) Tryz.func34 fun ds (hw:jI (ng.ct++[]) ds) aF=> ?_
 obtain⟨a,ds,rfl,_,hw⟩:=ng.nB (r:=_) hw
 obtain rfl:=nm hw
 exact⟨0,eT (nn3 Vm.jK (fun r0=>((true,ng.enc r0):ke)) a aF)⟩
def naH:Sum:= {ps:=[⟨nz.ct,true⟩],rs:=[⟨[.dQ .i,.dQ .i,.dQ .i,.dQ .i,.dQ .i,.dQ .i,.dQ .i,.dQ .str],true⟩],fn:=fun ds=>(true,nz.enc (oQ (nz.na ds 0)))}
theorem nnX:DA Tryz.prog 45 naH:=by
 refine nM IU Tryz.func45 fun ds (hw:jI (nz.ct++[]) ds) _=> ?_
 obtain⟨a,ds,rfl,_,hw⟩:=nz.nB (r:=_) hw
 obtain rfl:=nm hw
 exact⟨0,eT (nnW (fun r0=>((true,nz.enc r0):ke)) a)⟩
def ndo:Sum:= {ps:=[⟨nk.ct,true⟩],rs:=[⟨[.dQ .i,.dQ .i,.dQ .i,.dQ .i,.dQ .i,.dQ .i,.dQ .i,.dQ .i,.dQ .i,.dQ .i,.dQ .i,.dQ .i,.dQ .i,.dQ .i,.dQ .i,.dQ .str],true⟩],fn:=fun ds=>(true,nk.enc (oQ (nk.na ds 0)))}
theorem nqL:DA Tryz.prog 9 ndo:=by
 refine nM (Γ:=[(45,naH)]) (Hx nnX IU) Tryz.func9 fun ds (hw:jI (nk.ct++[]) ds) _=> ?_
 obtain⟨a,ds,rfl,_,hw⟩:=nk.nB (r:=_) hw
 obtain rfl:=nm hw
 exact⟨0,eT (nqK (fun r0=>((true,nk.enc r0):ke)) a)⟩
def nfV:Sum:= {ps:=[⟨pA.ct,true⟩],rs:=[⟨[.dQ .i,.dQ .i,.dQ .i,.dQ .i,.dQ .i,.dQ .i,.dQ .i,.dQ .i,.dQ .i,.dQ .i,.dQ .i,.dQ .i,.dQ .i,.dQ .i,.dQ .i,.dQ .str,.dQ .i,.dQ .i],true⟩],fn:=fun ds=>(true,pA.enc (oQ (pA.na ds 0)))}
theorem ntj:DA Tryz.prog 206 nfV:=by
 refine nM (Γ:=[(9,ndo)]) (Hx nqL IU) Tryz.func206 fun ds (hw:jI (pA.ct++[]) ds) _=> ?_
 obtain⟨a,ds,rfl,_,hw⟩:=pA.nB (r:=_) hw
 obtain rfl:=nm hw
 exact⟨0,eT (nti (fun r0=>((true,pA.enc r0):ke)) a)⟩
def naG:Sum:= {ps:=[⟨nP.ct,true⟩],rs:=[⟨[.dQ .i,.dQ .i,.dQ .i,.dQ .i,.dQ .i,.dQ .i,.dQ .i,.dQ .i,.dQ .i,.dQ .i,.dQ .i,.dQ .i,.dQ .i,.dQ .i,.dQ .i,.dQ .i,.dQ .i,.dQ .i,.dQ .i,.dQ .i,.dQ .i,.dQ .i,.dQ .i,.dQ .i,.dQ .i,.dQ .str,.dQ .i,.dQ .i,.dQ .bool,.dQ .i],true⟩],fn:=fun ds=>(true,nP.enc (oQ (nP.na ds 0)))}
theorem nnU:DA Tryz.prog 124 naG:=by
 refine nM (Γ:=[(121,Y_),(205,Oh),(206,nfV)]) (Hx niL (Hx Y6 (Hx ntj IU))) Tryz.func124 fun ds (hw:jI (nP.ct++[]) ds) _=> ?_
 obtain⟨a,ds,rfl,_,hw⟩:=nP.nB (r:=_) hw
 obtain rfl:=nm hw
 exact⟨0,eT (nnT (fun r0=>((true,nP.enc r0):ke)) a)⟩
def QV:Sum:= {ps:=[⟨[.sl [.i,.i,.i,.i,.i,.i,.i,.i,.i,.i,.i,.i,.i,.i,.i,.i,.i,.i,.i,.i,.i,.i,.i,.i,.i,.str,.i,.i,.bool,.i]],false⟩],rs:=[⟨[.own 182 [.i,.i,.i,.i,.i,.i,.i,.i,.i,.i,.i,.i,.i,.i,.i,.i,.i,.i,.i,.i,.i,.i,.i,.i,.i,.str,.i,.i,.bool,.i]],false⟩],fn:=fun ds=>(sm (rR ds 0),[.sl (oQ (rR ds 0))])}
def Ym:Ctx:=[(124,naG)]
theorem nlY:bt Tryz.prog Ym:=Hx nnU IU
def Yl:List (Nat×kW):=[(3, {bN:=[(0,.mh),(3,.mh),(4,.mh)],boxes:=[]})]
def Yn:Rows→ke:=(fun r0=>((true,[.sl r0]):ke))
def njQ (a:Rows) (i:Int) (nD:Rows):St:= {n:=23,sl:=[(0,.sl [.i,.i,.i,.i,.i,.i,.i,.i,.i,.i,.i,.i,.i,.i,.i,.i,.i,.i,.i,.i,.i,.i,.i,.i,.i,.str,.i,.i,.bool,.i] a),(3,.own 640192),(4,.int .i64 i)],hp:=[(640192,.row 182 [.i,.i,.i,.i,.i,.i,.i,.i,.i,.i,.i,.i,.i,.i,.i,.i,.i,.i,.i,.i,.i,.i,.i,.i,.i,.str,.i,.i,.bool,.i] nD false true)],ok:=true,ls:=[],lm:=[]}
theorem nlX:DA Tryz.prog 35 QV:=by
 refine qh (A:=Yl) nlY Tryz.func35 fun ds (hw:jI ([.sl [.i,.i,.i,.i,.i,.i,.i,.i,.i,.i,.i,.i,.i,.i,.i,.i,.i,.i,.i,.i,.i,.i,.i,.i,.i,.str,.i,.i,.bool,.i]]) ds) aF=> ?_
 obtain⟨a,rfl,qj⟩:=oU hw
 obtain⟨N,hN⟩:=nlW Vm.jK Yn a qj aF
 have e0:(fun i nD=>KS (KR Tryz.prog Ym Yl N Tryz.f35 QV [true,true,false,true,false] []) N (njQ a i nD))=(noB nbO Vm.jK Yn N a N):=Tm _ _ _ N
 refine⟨N,Eq.trans ?_ (hN.trans (by kernel_rfl))⟩
 unfold na_
 rw[←e0]
 kernel_rfl
def WD:Sum:= {ps:=[⟨[.sl [.i,.i,.i,.sl [.i]]],false⟩],rs:=[⟨[.deep 62 [.i,.i,.i,.sl [.i]] [3]],false⟩],fn:=fun ds=>(uH (rR ds 0),[.sl (oQ (rR ds 0))])}
def nfI:Ctx:=[(1125899906842631,Jh),(122,Y9)]
theorem ns8:bt Tryz.prog nfI:=Hx Ku (Hx niK IU)
def nfH:List (Nat×kW):=[(3, {bN:=[(0,.mh),(3,.mh),(4,.mh)],boxes:=[]})]
def nfJ:Rows→ke:=(fun r0=>((true,[.sl r0]):ke))
def nqN (a:Rows) (i:Int) (nD:Rows):St:= {n:=23,sl:=[(0,.sl [.i,.i,.i,.sl [.i]] a),(3,.own 640192),(4,.int .i64 i)],hp:=[(640192,.deep 62 [.i,.i,.i,.sl [.i]] [3] nD none)],ok:=true,ls:=[],lm:=[]}
theorem ns7:DA Tryz.prog 36 WD:=by
 refine qh (A:=nfH) ns8 Tryz.func36 fun ds (hw:jI ([.sl [.i,.i,.i,.sl [.i]]]) ds) aF=> ?_
 obtain⟨a,rfl,qj⟩:=oU hw
 obtain⟨N,hN⟩:=ns6 Vm.jK nfJ a qj aF
 exact⟨N,eL (fun l_=>WE Vm.jK nfJ l_ a) (Tm (KR Tryz.prog nfI nfH N Tryz.f36 WD [true,true,false,true,false] []) (nqN a) _ N) hN⟩
def WB:Sum:= {ps:=[⟨[.sl [.bool]],false⟩],rs:=[⟨[.own 4 [.bool]],false⟩],fn:=fun ds=>(sm (rR ds 0),[.sl (oQ (rR ds 0))])}
def nfF:List (Nat×kW):=[(3, {bN:=[(0,.mh),(3,.mh),(4,.mh)],boxes:=[]})]
def nfG:Rows→ke:=(fun r0=>((true,[.sl r0]):ke))
def nqF (a:Rows) (i:Int) (nD:Rows):St:= {n:=22,sl:=[(0,.sl [.bool] a),(3,.own 640192),(4,.int .i64 i)],hp:=[(640192,.row 4 [.bool] nD false true)],ok:=true,ls:=[],lm:=[]}
theorem ns4:DA Tryz.prog 38 WB:=by
 refine qh (A:=nfF) IU Tryz.func38 fun ds (hw:jI ([.sl [.bool]]) ds) aF=> ?_
 obtain⟨a,rfl,qj⟩:=oU hw
 obtain⟨N,hN⟩:=ns3 Vm.jK nfG a qj aF
 have e0:(fun i nD=>KS (KR Tryz.prog [] nfF N Tryz.f38 WB [true,true,false,true,false] []) N (nqF a i nD))=(noB noA Vm.jK nfG N a N):=Tm _ _ _ N
 refine⟨N,Eq.trans ?_ (hN.trans (by kernel_rfl))⟩
 unfold na_
 rw[←e0]
 kernel_rfl
def ndm:Sum:= {ps:=[⟨nH.ct,true⟩],rs:=[⟨[.dQ .i,.dQ .bool,.own 3 [.i]],true⟩],fn:=fun ds=>(vh (nH.na ds 0),nH.enc (oQ (nH.na ds 0)))}
theorem nqH:DA Tryz.prog 39 ndm:=by
 refine nM (Γ:=[(43,wR)]) (Hx Oi IU) Tryz.func39 fun ds (hw:jI (nH.ct++[]) ds) aF=> ?_
 obtain⟨a,ds,rfl,_,hw⟩:=nH.nB (r:=_) hw
 obtain rfl:=nm hw
 exact⟨0,eT (nqG Vm.jK (fun r0=>((true,nH.enc r0):ke)) a aF)⟩
def niM:Sum:= {ps:=[⟨pF.ct,true⟩],rs:=[⟨[.dQ .i,.dQ .i,.dQ .i,.dQ .i,.dQ .i,.dQ .i,.dQ .i,.dQ .i,.dQ .i],true⟩],fn:=fun ds=>(true,pF.enc (oQ (pF.na ds 0)))}
theorem nu_:DA Tryz.prog 207 niM:=by
 refine nM IU Tryz.func207 fun ds (hw:jI (pF.ct++[]) ds) _=> ?_
 obtain⟨a,ds,rfl,_,hw⟩:=pF.nB (r:=_) hw
 obtain rfl:=nm hw
 exact⟨0,eT (nu9 (fun r0=>((true,pF.enc r0):ke)) a)⟩
def WG:Sum:= {ps:=[⟨[.sl [.i,.i,.i,.i,.i,.i,.i,.i,.i]],false⟩],rs:=[⟨[.own 260 [.i,.i,.i,.i,.i,.i,.i,.i,.i]],false⟩],fn:=fun ds=>(sm (rR ds 0),[.sl (oQ (rR ds 0))])}
def nfM:Ctx:=[(207,niM)]
theorem nta:bt Tryz.prog nfM:=Hx nu_ IU
def nfL:List (Nat×kW):=[(3, {bN:=[(0,.mh),(3,.mh),(4,.mh)],boxes:=[]})]
def nfN:Rows→ke:=(fun r0=>((true,[.sl r0]):ke))
def nqO (a:Rows) (i:Int) (nD:Rows):St:= {n:=23,sl:=[(0,.sl [.i,.i,.i,.i,.i,.i,.i,.i,.i] a),(3,.own 640192),(4,.int .i64 i)],hp:=[(640192,.row 260 [.i,.i,.i,.i,.i,.i,.i,.i,.i] nD false true)],ok:=true,ls:=[],lm:=[]}
theorem ns_:DA Tryz.prog 126 WG:=by
 refine qh (A:=nfL) nta Tryz.func126 fun ds (hw:jI ([.sl [.i,.i,.i,.i,.i,.i,.i,.i,.i]]) ds) aF=> ?_
 obtain⟨a,rfl,qj⟩:=oU hw
 obtain⟨N,hN⟩:=ns9 Vm.jK nfN a qj aF
 have e0:(fun i nD=>KS (KR Tryz.prog nfM nfL N Tryz.f126 WG [true,true,false,true,false] []) N (nqO a i nD))=(noB noC Vm.jK nfN N a N):=Tm _ _ _ N
 refine⟨N,Eq.trans ?_ (hN.trans (by kernel_rfl))⟩
 unfold na_
 rw[←e0]
 kernel_rfl
def ndp:Sum:= {ps:=[⟨nJ.ct,true⟩],rs:=[⟨[.dQ .str,.own 3 [.i]],true⟩],fn:=fun ds=>(vj (nJ.na ds 0),nJ.enc (oQ (nJ.na ds 0)))}
theorem nqS:DA Tryz.prog 128 ndp:=by
 refine nM (Γ:=[(43,wR)]) (Hx Oi IU) Tryz.func128 fun ds (hw:jI (nJ.ct++[]) ds) aF=> ?_
 obtain⟨a,ds,rfl,_,hw⟩:=nJ.nB (r:=_) hw
 obtain rfl:=nm hw
 exact⟨0,eT (nqR Vm.jK (fun r0=>((true,nJ.enc r0):ke)) a aF)⟩
def Yp:Sum:= {ps:=[⟨nj.ct,true⟩],rs:=[⟨[.own 260 [.i,.i,.i,.i,.i,.i,.i,.i,.i],.own 262 [.i,.i,.i,.i,.i,.i,.i],.dQ .str,.own 3 [.i]],true⟩],fn:=fun ds=>(tX (nj.na ds 0),nj.enc (oQ (nj.na ds 0)))}
theorem nl0:DA Tryz.prog 40 Yp:=by
 refine nM (Γ:=[(126,WG),(127,WC),(128,ndp)]) (Hx ns_ (Hx njO (Hx nqS IU))) Tryz.func40 fun ds (hw:jI (nj.ct++[]) ds) aF=> ?_
 obtain⟨a,ds,rfl,_,hw⟩:=nj.nB (r:=_) hw
 obtain rfl:=nm hw
 exact⟨0,eT (nlZ Vm.jK (fun r0=>((true,nj.enc r0):ke)) a aF)⟩
def ndq:Sum:= {ps:=[⟨oz.ct,true⟩],rs:=[⟨[.dQ .i,.dQ .i,.dQ .i,.dQ .i,.dQ .i,.dQ .i,.dQ .str,.dQ .bool],true⟩],fn:=fun ds=>(true,oz.enc (oQ (oz.na ds 0)))}
theorem nqU:DA Tryz.prog 129 ndq:=by
 refine nM (Γ:=[(209,Y8)]) (Hx niG IU) Tryz.func129 fun ds (hw:jI (oz.ct++[]) ds) _=> ?_
 obtain⟨a,ds,rfl,_,hw⟩:=oz.nB (r:=_) hw
 obtain rfl:=nm hw
 exact⟨0,eT (nqT (fun r0=>((true,oz.enc r0):ke)) a)⟩
def Sg:Sum:= {ps:=[⟨[.sl [.i,.i,.i,.i,.i,.i,.str,.bool]],false⟩],rs:=[⟨[.own 223 [.i,.i,.i,.i,.i,.i,.str,.bool]],false⟩],fn:=fun ds=>(sm (rR ds 0),[.sl (oQ (rR ds 0))])}
def naJ:Ctx:=[(129,ndq)]
theorem nn1:bt Tryz.prog naJ:=Hx nqU IU
def naI:List (Nat×kW):=[(3, {bN:=[(0,.mh),(3,.mh),(4,.mh)],boxes:=[]})]
def naK:Rows→ke:=(fun r0=>((true,[.sl r0]):ke))
def nl1 (a:Rows) (i:Int) (nD:Rows):St:= {n:=23,sl:=[(0,.sl [.i,.i,.i,.i,.i,.i,.str,.bool] a),(3,.own 640192),(4,.int .i64 i)],hp:=[(640192,.row 223 [.i,.i,.i,.i,.i,.i,.str,.bool] nD false true)],ok:=true,ls:=[],lm:=[]}
theorem nn0:DA Tryz.prog 41 Sg:=by
 refine qh (A:=naI) nn1 Tryz.func41 fun ds (hw:jI ([.sl [.i,.i,.i,.i,.i,.i,.str,.bool]]) ds) aF=> ?_
 obtain⟨a,rfl,qj⟩:=oU hw
 obtain⟨N,hN⟩:=nnZ Vm.jK naK a qj aF
 have e0:(fun i nD=>KS (KR Tryz.prog naJ naI N Tryz.f41 Sg [true,true,false,true,false] []) N (nl1 a i nD))=(noB ngP Vm.jK naK N a N):=Tm _ _ _ N
 refine⟨N,Eq.trans ?_ (hN.trans (by kernel_rfl))⟩
 unfold na_
 rw[←e0]
 kernel_rfl
def niH:Sum:= {ps:=[⟨nx.ct,true⟩],rs:=[⟨[.own 9 [.str],.own 209 [.i,.i,.i,.bool],.dQ .i,.dQ .i,.dQ .i,.dQ .i,.dQ .i,.dQ .i,.dQ .i,.own 3 [.i],.deep 207 [.i,.i,.sl [.i]] [3],.dQ .i,.own 182 [.i,.i,.i,.i,.i,.i,.i,.i,.i,.i,.i,.i,.i,.i,.i,.i,.i,.i,.i,.i,.i,.i,.i,.i,.i,.str,.i,.i,.bool,.i],.deep 62 [.i,.i,.i,.sl [.i]] [3],.own 186 [.i,.i,.i,.i,.bool,.bool],.own 4 [.bool],.dQ .i,.dQ .bool,.own 3 [.i],.own 260 [.i,.i,.i,.i,.i,.i,.i,.i,.i],.own 262 [.i,.i,.i,.i,.i,.i,.i],.dQ .str,.own 3 [.i],.own 223 [.i,.i,.i,.i,.i,.i,.str,.bool],.dQ .bool,.own 9 [.str],.own 3 [.i],.own 3 [.i],.dQ .i,.dQ .i,.dQ .i,.dQ .i,.dQ .i],true⟩],fn:=fun ds=>(te (nx.na ds 0),nx.enc (oQ (nx.na ds 0)))}
theorem nu4:DA Tryz.prog 8 niH:=by
 refine nM (Γ:=[(32,ndn),(33,QU),(34,naO),(35,QV),(36,WD),(37,Sh),(38,WB),(39,ndm),(40,Yp),(41,Sg),(42,Nh),(43,wR),(44,Yg)]) (Hx nqJ (Hx nlU (Hx nn4 (Hx nlX (Hx ns7 (Hx nn6 (Hx ns4 (Hx nqH (Hx nl0 (Hx nn0 (Hx naN (Hx Oi (Hx nlR IU))))))))))))) Tryz.func8 fun ds (hw:jI (nx.ct++[]) ds) aF=> ?_
 obtain⟨a,ds,rfl,_,hw⟩:=nx.nB (r:=_) hw
 obtain rfl:=nm hw
 exact⟨0,eT (nu3 Vm.jK (fun r0=>((true,nx.enc r0):ke)) a aF)⟩
def niz:Sum:= {ps:=[⟨pe.ct,true⟩,⟨pe.ct,true⟩],rs:=[⟨[.dQ .bool],false⟩],fn:=fun ds=>(same (pe.na ds 0) (pe.na ds 3),[.bool (px (pe.na ds 0) (pe.na ds 3))])}
theorem nuT:DA Tryz.prog 232 niz:=by
 refine nM (Γ:=[(60,wP)]) (Hx Oe IU) Tryz.func232 fun ds (hw:jI (pe.ct++(pe.ct++[])) ds) aF=> ?_
 obtain⟨a,ds,rfl,_,hw⟩:=pe.nB (r:=_) hw
 obtain⟨b,ds,rfl,_,hw⟩:=pe.nB (r:=_) hw
 obtain rfl:=nm hw
 exact⟨0,eT (nuS Vm.jK (fun r0=>((true,[.bool r0]):ke)) a b aF)⟩
def V3:Sum:= {ps:=[⟨[.sl [.i,.i,.sl [.i]]],false⟩,⟨[.sl [.i,.i,.sl [.i]]],false⟩],rs:=[⟨[.dQ .bool],false⟩],fn:=fun ds=>(same (rR ds 0) (rR ds 1),[.bool (px (rR ds 0) (rR ds 1))])}
def nfc:Ctx:=[(232,niz)]
theorem nsK:bt Tryz.prog nfc:=Hx nuT IU
def nfb:List (Nat×kW):=[(4, {bN:=[(0,.mh),(1,.mh),(5,.mh)],boxes:=[]})]
def nfd:Bool→ke:=(fun r0=>((true,[.bool r0]):ke))
def np5 (a b:Rows) (i:Int):St:= {n:=27,sl:=[(0,.sl [.i,.i,.sl [.i]] a),(1,.sl [.i,.i,.sl [.i]] b),(5,.int .i64 i)],hp:=[],ok:=true,ls:=[],lm:=[]}
theorem nsJ:DA Tryz.prog 160 V3:=by
 refine qh (A:=nfb) nsK Tryz.func160 fun ds (hw:jI ([.sl [.i,.i,.sl [.i]],.sl [.i,.i,.sl [.i]]]) ds) aF=> ?_
 obtain⟨a,ds,rfl,qj,hw⟩:=oh hw
 obtain⟨b,rfl,_⟩:=oU hw
 obtain⟨N,hN⟩:=nsI Vm.jK nfd a b qj aF
 have e0:(fun i=>KS (KR Tryz.prog nfc nfb N Tryz.f160 V3 [true,true,false,true,false] []) N (np5 a b i))=(npc (fun r=>pe.na r 0) Vm.jK nfd N a b N):=nL1 _ _ _ N
 refine⟨N,Eq.trans ?_ (hN.trans (by kernel_rfl))⟩
 unfold nd8
 rw[←e0]
 kernel_rfl
def nix:Sum:= {ps:=[⟨pF.ct,true⟩,⟨pF.ct,true⟩],rs:=[⟨[.dQ .bool],false⟩],fn:=fun ds=>(same (pF.na ds 0) (pF.na ds 9),[.bool (px (pF.na ds 0) (pF.na ds 9))])}
theorem nuR:DA Tryz.prog 235 nix:=by
 refine nM IU Tryz.func235 fun ds (hw:jI (pF.ct++(pF.ct++[])) ds) aF=> ?_
 obtain⟨a,ds,rfl,_,hw⟩:=pF.nB (r:=_) hw
 obtain⟨b,ds,rfl,_,hw⟩:=pF.nB (r:=_) hw
 obtain rfl:=nm hw
 exact⟨0,eT (nuQ (fun r0=>((true,[.bool r0]):ke)) a b aF)⟩
def V2:Sum:= {ps:=[⟨[.sl [.i,.i,.i,.i,.i,.i,.i,.i,.i]],false⟩,⟨[.sl [.i,.i,.i,.i,.i,.i,.i,.i,.i]],false⟩],rs:=[⟨[.dQ .bool],false⟩],fn:=fun ds=>(same (rR ds 0) (rR ds 1),[.bool (px (rR ds 0) (rR ds 1))])}
def ne_:Ctx:=[(235,nix)]
theorem nsH:bt Tryz.prog ne_:=Hx nuR IU
def ne9:List (Nat×kW):=[(4, {bN:=[(0,.mh),(1,.mh),(5,.mh)],boxes:=[]})]
def nfa:Bool→ke:=(fun r0=>((true,[.bool r0]):ke))
def np4 (a b:Rows) (i:Int):St:= {n:=27,sl:=[(0,.sl [.i,.i,.i,.i,.i,.i,.i,.i,.i] a),(1,.sl [.i,.i,.i,.i,.i,.i,.i,.i,.i] b),(5,.int .i64 i)],hp:=[],ok:=true,ls:=[],lm:=[]}
theorem nsG:DA Tryz.prog 163 V2:=by
 refine qh (A:=ne9) nsH Tryz.func163 fun ds (hw:jI ([.sl [.i,.i,.i,.i,.i,.i,.i,.i,.i],.sl [.i,.i,.i,.i,.i,.i,.i,.i,.i]]) ds) aF=> ?_
 obtain⟨a,ds,rfl,qj,hw⟩:=oh hw
 obtain⟨b,rfl,_⟩:=oU hw
 obtain⟨N,hN⟩:=nsF Vm.jK nfa a b qj aF
 have e0:(fun i=>KS (KR Tryz.prog ne_ ne9 N Tryz.f163 V2 [true,true,false,true,false] []) N (np4 a b i))=(npc (fun r=>pF.na r 0) Vm.jK nfa N a b N):=nL1 _ _ _ N
 refine⟨N,Eq.trans ?_ (hN.trans (by kernel_rfl))⟩
 unfold nd8
 rw[←e0]
 kernel_rfl
def ncY:Sum:= {ps:=[⟨nJ.ct,true⟩,⟨nJ.ct,true⟩],rs:=[⟨[.dQ .bool],false⟩],fn:=fun ds=>(same (nJ.na ds 0) (nJ.na ds 2),[.bool (px (nJ.na ds 0) (nJ.na ds 2))])}
theorem np8:DA Tryz.prog 165 ncY:=by
 refine nM (Γ:=[(60,wP)]) (Hx Oe IU) Tryz.func165 fun ds (hw:jI (nJ.ct++(nJ.ct++[])) ds) aF=> ?_
 obtain⟨a,ds,rfl,_,hw⟩:=nJ.nB (r:=_) hw
 obtain⟨b,ds,rfl,_,hw⟩:=nJ.nB (r:=_) hw
 obtain rfl:=nm hw
 exact⟨0,eT (np7 Vm.jK (fun r0=>((true,[.bool r0]):ke)) a b aF)⟩
def XZ:Sum:= {ps:=[⟨nj.ct,true⟩,⟨nj.ct,true⟩],rs:=[⟨[.dQ .bool],false⟩],fn:=fun ds=>(same (nj.na ds 0) (nj.na ds 4),[.bool (px (nj.na ds 0) (nj.na ds 4))])}
theorem nk_:DA Tryz.prog 57 XZ:=by
 refine nM (Γ:=[(163,V2),(164,VZ),(165,ncY)]) (Hx nsG (Hx njm (Hx np8 IU))) Tryz.func57 fun ds (hw:jI (nj.ct++(nj.ct++[])) ds) aF=> ?_
 obtain⟨a,ds,rfl,_,hw⟩:=nj.nB (r:=_) hw
 obtain⟨b,ds,rfl,_,hw⟩:=nj.nB (r:=_) hw
 obtain rfl:=nm hw
 exact⟨0,eT (nk9 Vm.jK (fun r0=>((true,[.bool r0]):ke)) a b aF)⟩
def Y3:Sum:= {ps:=[⟨ny.ct,true⟩,⟨ny.ct,true⟩],rs:=[⟨[.dQ .bool],false⟩],fn:=fun ds=>(same (ny.na ds 0) (ny.na ds 4),[.bool (px (ny.na ds 0) (ny.na ds 4))])}
theorem niv:DA Tryz.prog 158 Y3:=by
 refine nM IU Tryz.func158 fun ds (hw:jI (ny.ct++(ny.ct++[])) ds) aF=> ?_
 obtain⟨a,ds,rfl,_,hw⟩:=ny.nB (r:=_) hw
 obtain⟨b,ds,rfl,_,hw⟩:=ny.nB (r:=_) hw
 obtain rfl:=nm hw
 exact⟨0,eT (nuP (fun r0=>((true,[.bool r0]):ke)) a b aF)⟩
def Oc:Sum:= {ps:=[⟨nr.ct,true⟩,⟨nr.ct,true⟩],rs:=[⟨[.dQ .bool],false⟩],fn:=fun ds=>(same (nr.na ds 0) (nr.na ds 3),[.bool (px (nr.na ds 0) (nr.na ds 3))])}
theorem YZ:DA Tryz.prog 233 Oc:=by
 refine nM IU Tryz.func233 fun ds (hw:jI (nr.ct++(nr.ct++[])) ds) aF=> ?_
 obtain⟨a,ds,rfl,_,hw⟩:=nr.nB (r:=_) hw
 obtain⟨b,ds,rfl,_,hw⟩:=nr.nB (r:=_) hw
 obtain rfl:=nm hw
 exact⟨0,eT (YY (fun r0=>((true,[.bool r0]):ke)) a b aF)⟩
def nfh:Sum:= {ps:=[⟨pA.ct,true⟩,⟨pA.ct,true⟩],rs:=[⟨[.dQ .bool],false⟩],fn:=fun ds=>(same (pA.na ds 0) (pA.na ds 18),[.bool (px (pA.na ds 0) (pA.na ds 18))])}
theorem nsP:DA Tryz.prog 234 nfh:=by
 refine nM (Γ:=[(282,ncW)]) (Hx np2 IU) Tryz.func234 fun ds (hw:jI (pA.ct++(pA.ct++[])) ds) aF=> ?_
 obtain⟨a,ds,rfl,_,hw⟩:=pA.nB (r:=_) hw
 obtain⟨b,ds,rfl,_,hw⟩:=pA.nB (r:=_) hw
 obtain rfl:=nm hw
 exact⟨0,eT (nsO Vm.jK (fun r0=>((true,[.bool r0]):ke)) a b aF)⟩
def ZH:Sum:= {ps:=[⟨nP.ct,true⟩,⟨nP.ct,true⟩],rs:=[⟨[.dQ .bool],false⟩],fn:=fun ds=>(same (nP.na ds 0) (nP.na ds 30),[.bool (px (nP.na ds 0) (nP.na ds 30))])}
theorem nm0:DA Tryz.prog 161 ZH:=by
 refine nM (Γ:=[(158,Y3),(233,Oc),(234,nfh)]) (Hx niv (Hx YZ (Hx nsP IU))) Tryz.func161 fun ds (hw:jI (nP.ct++(nP.ct++[])) ds) aF=> ?_
 obtain⟨a,ds,rfl,_,hw⟩:=nP.nB (r:=_) hw
 obtain⟨b,ds,rfl,_,hw⟩:=nP.nB (r:=_) hw
 obtain rfl:=nm hw
 exact⟨0,eT (nmZ Vm.jK (fun r0=>((true,[.bool r0]):ke)) a b aF)⟩
def QO:Sum:= {ps:=[⟨[.sl [.i,.i,.i,.i,.i,.i,.i,.i,.i,.i,.i,.i,.i,.i,.i,.i,.i,.i,.i,.i,.i,.i,.i,.i,.i,.str,.i,.i,.bool,.i]],false⟩,⟨[.sl [.i,.i,.i,.i,.i,.i,.i,.i,.i,.i,.i,.i,.i,.i,.i,.i,.i,.i,.i,.i,.i,.i,.i,.i,.i,.str,.i,.i,.bool,.i]],false⟩],rs:=[⟨[.dQ .bool],false⟩],fn:=fun ds=>(same (rR ds 0) (rR ds 1),[.bool (px (rR ds 0) (rR ds 1))])}
def XX:Ctx:=[(161,ZH)]
theorem nk8:bt Tryz.prog XX:=Hx nm0 IU
def XW:List (Nat×kW):=[(4, {bN:=[(0,.mh),(1,.mh),(5,.mh)],boxes:=[]})]
def XY:Bool→ke:=(fun r0=>((true,[.bool r0]):ke))
def njo (a b:Rows) (i:Int):St:= {n:=27,sl:=[(0,.sl [.i,.i,.i,.i,.i,.i,.i,.i,.i,.i,.i,.i,.i,.i,.i,.i,.i,.i,.i,.i,.i,.i,.i,.i,.i,.str,.i,.i,.bool,.i] a),(1,.sl [.i,.i,.i,.i,.i,.i,.i,.i,.i,.i,.i,.i,.i,.i,.i,.i,.i,.i,.i,.i,.i,.i,.i,.i,.i,.str,.i,.i,.bool,.i] b),(5,.int .i64 i)],hp:=[],ok:=true,ls:=[],lm:=[]}
theorem nk7:DA Tryz.prog 52 QO:=by
 refine qh (A:=XW) nk8 Tryz.func52 fun ds (hw:jI ([.sl [.i,.i,.i,.i,.i,.i,.i,.i,.i,.i,.i,.i,.i,.i,.i,.i,.i,.i,.i,.i,.i,.i,.i,.i,.i,.str,.i,.i,.bool,.i],.sl [.i,.i,.i,.i,.i,.i,.i,.i,.i,.i,.i,.i,.i,.i,.i,.i,.i,.i,.i,.i,.i,.i,.i,.i,.i,.str,.i,.i,.bool,.i]]) ds) aF=> ?_
 obtain⟨a,ds,rfl,qj,hw⟩:=oh hw
 obtain⟨b,rfl,_⟩:=oU hw
 obtain⟨N,hN⟩:=nk6 Vm.jK XY a b qj aF
 have e0:(fun i=>KS (KR Tryz.prog XX XW N Tryz.f52 QO [true,true,false,true,false] []) N (njo a b i))=(npc (fun r=>nP.na r 0) Vm.jK XY N a b N):=nL1 _ _ _ N
 refine⟨N,Eq.trans ?_ (hN.trans (by kernel_rfl))⟩
 unfold nd8
 rw[←e0]
 kernel_rfl
def ZS:Sum:= {ps:=[⟨ng.ct,true⟩,⟨ng.ct,true⟩],rs:=[⟨[.dQ .bool],false⟩],fn:=fun ds=>(same (ng.na ds 0) (ng.na ds 10),[.bool (px (ng.na ds 0) (ng.na ds 10))])}
theorem nm8:DA Tryz.prog 51 ZS:=by
 refine nM (Γ:=[(158,Y3),(159,Y2),(160,V3)]) (Hx niv (Hx nit (Hx nsJ IU))) Tryz.func51 fun ds (hw:jI (ng.ct++(ng.ct++[])) ds) aF=> ?_
 obtain⟨a,ds,rfl,_,hw⟩:=ng.nB (r:=_) hw
 obtain⟨b,ds,rfl,_,hw⟩:=ng.nB (r:=_) hw
 obtain rfl:=nm hw
 exact⟨0,eT (nm7 Vm.jK (fun r0=>((true,[.bool r0]):ke)) a b aF)⟩
def ncU:Sum:= {ps:=[⟨nd.ct,true⟩,⟨nd.ct,true⟩],rs:=[⟨[.dQ .bool],false⟩],fn:=fun ds=>(same (nd.na ds 0) (nd.na ds 1),[.bool (px (nd.na ds 0) (nd.na ds 1))])}
theorem np0:DA Tryz.prog 49 ncU:=by
 refine nM (Γ:=[(59,z_)]) (Hx ZR IU) Tryz.func49 fun ds (hw:jI (nd.ct++(nd.ct++[])) ds) aF=> ?_
 obtain⟨a,ds,rfl,_,hw⟩:=nd.nB (r:=_) hw
 obtain⟨b,ds,rfl,_,hw⟩:=nd.nB (r:=_) hw
 obtain rfl:=nm hw
 exact⟨0,eT (npZ Vm.jK (fun r0=>((true,[.bool r0]):ke)) a b aF)⟩
def RS:Sum:= {ps:=[⟨[.sl [.i,.i,.i,.i,.i,.i,.str,.bool]],false⟩,⟨[.sl [.i,.i,.i,.i,.i,.i,.str,.bool]],false⟩],rs:=[⟨[.dQ .bool],false⟩],fn:=fun ds=>(same (rR ds 0) (rR ds 1),[.bool (px (rR ds 0) (rR ds 1))])}
def ZM:Ctx:=[(166,nc0)]
theorem nm5:bt Tryz.prog ZM:=Hx np_ IU
def ZL:List (Nat×kW):=[(4, {bN:=[(0,.mh),(1,.mh),(5,.mh)],boxes:=[]})]
def ZN:Bool→ke:=(fun r0=>((true,[.bool r0]):ke))
def nla (a b:Rows) (i:Int):St:= {n:=27,sl:=[(0,.sl [.i,.i,.i,.i,.i,.i,.str,.bool] a),(1,.sl [.i,.i,.i,.i,.i,.i,.str,.bool] b),(5,.int .i64 i)],hp:=[],ok:=true,ls:=[],lm:=[]}
theorem nm4:DA Tryz.prog 58 RS:=by
 refine qh (A:=ZL) nm5 Tryz.func58 fun ds (hw:jI ([.sl [.i,.i,.i,.i,.i,.i,.str,.bool],.sl [.i,.i,.i,.i,.i,.i,.str,.bool]]) ds) aF=> ?_
 obtain⟨a,ds,rfl,qj,hw⟩:=oh hw
 obtain⟨b,rfl,_⟩:=oU hw
 obtain⟨N,hN⟩:=nm3 Vm.jK ZN a b qj aF
 have e0:(fun i=>KS (KR Tryz.prog ZM ZL N Tryz.f58 RS [true,true,false,true,false] []) N (nla a b i))=(npc (fun r=>oz.na r 0) Vm.jK ZN N a b N):=nL1 _ _ _ N
 refine⟨N,Eq.trans ?_ (hN.trans (by kernel_rfl))⟩
 unfold nd8
 rw[←e0]
 kernel_rfl
def RU:Sum:= {ps:=[⟨[.sl [.i,.i,.i,.i,.bool,.bool]],false⟩,⟨[.sl [.i,.i,.i,.i,.bool,.bool]],false⟩],rs:=[⟨[.dQ .bool],false⟩],fn:=fun ds=>(same (rR ds 0) (rR ds 1),[.bool (px (rR ds 0) (rR ds 1))])}
def ZV:Ctx:=[(162,nc2)]
theorem nna:bt Tryz.prog ZV:=Hx nqb IU
def ZU:List (Nat×kW):=[(4, {bN:=[(0,.mh),(1,.mh),(5,.mh)],boxes:=[]})]
def ZW:Bool→ke:=(fun r0=>((true,[.bool r0]):ke))
def nlc (a b:Rows) (i:Int):St:= {n:=27,sl:=[(0,.sl [.i,.i,.i,.i,.bool,.bool] a),(1,.sl [.i,.i,.i,.i,.bool,.bool] b),(5,.int .i64 i)],hp:=[],ok:=true,ls:=[],lm:=[]}
theorem nm_:DA Tryz.prog 54 RU:=by
 refine qh (A:=ZU) nna Tryz.func54 fun ds (hw:jI ([.sl [.i,.i,.i,.i,.bool,.bool],.sl [.i,.i,.i,.i,.bool,.bool]]) ds) aF=> ?_
 obtain⟨a,ds,rfl,qj,hw⟩:=oh hw
 obtain⟨b,rfl,_⟩:=oU hw
 obtain⟨N,hN⟩:=nm9 Vm.jK ZW a b qj aF
 have e0:(fun i=>KS (KR Tryz.prog ZV ZU N Tryz.f54 RU [true,true,false,true,false] []) N (nlc a b i))=(npc (fun r=>oc.na r 0) Vm.jK ZW N a b N):=nL1 _ _ _ N
 refine⟨N,Eq.trans ?_ (hN.trans (by kernel_rfl))⟩
 unfold nd8
 rw[←e0]
 kernel_rfl
def XR:Sum:= {ps:=[⟨oC.ct,true⟩,⟨oC.ct,true⟩],rs:=[⟨[.dQ .bool],false⟩],fn:=fun ds=>(same (oC.na ds 0) (oC.na ds 5),[.bool (px (oC.na ds 0) (oC.na ds 5))])}
theorem nk2:DA Tryz.prog 61 XR:=by
 refine nM IU Tryz.func61 fun ds (hw:jI (oC.ct++(oC.ct++[])) ds) aF=> ?_
 obtain⟨a,ds,rfl,_,hw⟩:=oC.nB (r:=_) hw
 obtain⟨b,ds,rfl,_,hw⟩:=oC.nB (r:=_) hw
 obtain rfl:=nm hw
 exact⟨0,eT (nk1 (fun r0=>((true,[.bool r0]):ke)) a b aF)⟩
def ncS:Sum:= {ps:=[⟨nH.ct,true⟩,⟨nH.ct,true⟩],rs:=[⟨[.dQ .bool],false⟩],fn:=fun ds=>(same (nH.na ds 0) (nH.na ds 3),[.bool (px (nH.na ds 0) (nH.na ds 3))])}
theorem npY:DA Tryz.prog 56 ncS:=by
 refine nM (Γ:=[(60,wP)]) (Hx Oe IU) Tryz.func56 fun ds (hw:jI (nH.ct++(nH.ct++[])) ds) aF=> ?_
 obtain⟨a,ds,rfl,_,hw⟩:=nH.nB (r:=_) hw
 obtain⟨b,ds,rfl,_,hw⟩:=nH.nB (r:=_) hw
 obtain rfl:=nm hw
 exact⟨0,eT (npX Vm.jK (fun r0=>((true,[.bool r0]):ke)) a b aF)⟩
def nio:Sum:= {ps:=[⟨nx.ct,true⟩,⟨nx.ct,true⟩],rs:=[⟨[.dQ .bool],false⟩],fn:=fun ds=>(same (nx.na ds 0) (nx.na ds 33),[.bool (px (nx.na ds 0) (nx.na ds 33))])}
theorem nuM:DA Tryz.prog 11 nio:=by
 refine nM (Γ:=[(49,ncU),(50,QN),(51,ZS),(52,QO),(53,V1),(54,RU),(55,VX),(56,ncS),(57,XZ),(58,RS),(59,z_),(60,wP),(61,XR)]) (Hx np0 (Hx nk4 (Hx nm8 (Hx nk7 (Hx nsD (Hx nm_ (Hx nsA (Hx npY (Hx nk_ (Hx nm4 (Hx ZR (Hx Oe (Hx nk2 IU))))))))))))) Tryz.func11 fun ds (hw:jI (nx.ct++(nx.ct++[])) ds) aF=> ?_
 obtain⟨a,ds,rfl,_,hw⟩:=nx.nB (r:=_) hw
 obtain⟨b,ds,rfl,_,hw⟩:=nx.nB (r:=_) hw
 obtain rfl:=nm hw
 exact⟨0,eT (nuL Vm.jK (fun r0=>((true,[.bool r0]):ke)) a b aF)⟩
def tD:Sum:= {ps:=[⟨[.sl [.i]],false⟩,⟨[.i],false⟩],rs:=[⟨[.dQ .i],false⟩],fn:=fun ds=>(PO 1 (rR ds 0) (rI ds 1),[.int (rX (rR ds 0) (rI ds 1)).1]++[.sl (rX (rR ds 0) (rI ds 1)).2]),ms:=[some (.rows [.flat 3]),none]}
def nc_:List (Nat×kW):=[(2, {bN:=[(0,.mh),(1,.mh),(5,.mh)],boxes:=[]})]
def nda:Int→Rows→ke:=(fun r0 r1=>((true,[.int r0]++[.sl r1]):ke))
def nnq (rv i:Int) (ND:Rows):St:= {n:=1099511627795,sl:=[(0,.own 640000),(1,.int .i64 rv),(5,.int .i64 i)],hp:=[(640000,.row 3 [.i] ND false true)],ok:=true,ls:=[],lm:=[]}
theorem v7:BO Tryz.prog 73 tD:=by
 refine Qd (A:=nc_) IU Tryz.func73 fun ds (hw:jI ([.sl [.i],.i]) ds) aF=> ?_
 obtain⟨a,ds,rfl,qj,hw⟩:=oh hw
 obtain⟨k,rfl,_⟩:=nt hw
 obtain⟨N,hN⟩:=nql Vm.jK nda a k qj aF
 exact⟨N,eL (fun l_=>TM Vm.jK nda l_ a k) (nL3 (Kn Tryz.prog [] nc_ N Tryz.f73 tD [true,false,true,false] []) (nnq) _ N) hN⟩
def tC:Sum:= {ps:=[⟨[.sl [.i]],false⟩,⟨[.i],false⟩],rs:=[⟨[.dQ .i],false⟩],fn:=fun ds=>(Ry rJ 1 (rR ds 0) (rI ds 1),[.int (rq (rR ds 0) (rI ds 1))])}
def nc5:List (Nat×kW):=[(2, {bN:=[(0,.mh),(1,.mh),(5,.mh)],boxes:=[]})]
def nc6:Int→ke:=(fun r0=>((true,[.int r0]):ke))
def nnd (a:Rows) (rv i:Int):St:= {n:=21,sl:=[(0,.sl [.i] a),(1,.int .i64 rv),(5,.int .i64 i)],hp:=[],ok:=true,ls:=[],lm:=[]}
theorem vZ:DA Tryz.prog 85 tC:=by
 refine qh (A:=nc5) IU Tryz.func85 fun ds (hw:jI ([.sl [.i],.i]) ds) aF=> ?_
 obtain⟨a,ds,rfl,qj,hw⟩:=oh hw
 obtain⟨k,rfl,_⟩:=nt hw
 obtain⟨N,hN⟩:=nqe Vm.jK nc6 a k qj aF
 exact⟨N,eL (fun l_=>TL Vm.jK nc6 l_ a k) (Tm (KR Tryz.prog [] nc5 N Tryz.f85 tC [true,false,true,false] []) (nnd a) _ N) hN⟩
def R3:Sum:= {ps:=[⟨[.sl [.bool]],false⟩,⟨[.i],false⟩],rs:=[⟨[.dQ .i],false⟩],fn:=fun ds=>(PO 1 (rR ds 0) (rI ds 1),[.int (Si (rR ds 0) (rI ds 1)).1]++[.sl (Si (rR ds 0) (rI ds 1)).2]),ms:=[some (.rows [.flat 4]),none]}
def nab:List (Nat×kW):=[(2, {bN:=[(0,.mh),(1,.mh),(5,.mh)],boxes:=[]})]
def nac:Int→Rows→ke:=(fun r0 r1=>((true,[.int r0]++[.sl r1]):ke))
def nlo (rv i:Int) (ND:Rows):St:= {n:=1099511627797,sl:=[(0,.own 640000),(1,.int .i64 rv),(5,.int .i64 i)],hp:=[(640000,.row 4 [.bool] ND false true)],ok:=true,ls:=[],lm:=[]}
theorem nnp:BO Tryz.prog 68 R3:=by
 refine Qd (A:=nab) IU Tryz.func68 fun ds (hw:jI ([.sl [.bool],.i]) ds) aF=> ?_
 obtain⟨a,ds,rfl,qj,hw⟩:=oh hw
 obtain⟨k,rfl,_⟩:=nt hw
 obtain⟨N,hN⟩:=nno Vm.jK nac a k qj aF
 exact⟨N,eL (fun l_=>R4 Vm.jK nac l_ a k) (nL3 (Kn Tryz.prog [] nab N Tryz.f68 R3 [true,false,true,false] []) (nlo) _ N) hN⟩
def RV:Sum:= {ps:=[⟨[.sl [.bool]],false⟩,⟨[.i],false⟩],rs:=[⟨[.dQ .i],false⟩],fn:=fun ds=>(Ry PZ 1 (rR ds 0) (rI ds 1),[.int (U7 (rR ds 0) (rI ds 1))])}
def ZX:List (Nat×kW):=[(2, {bN:=[(0,.mh),(1,.mh),(5,.mh)],boxes:=[]})]
def ZY:Int→ke:=(fun r0=>((true,[.int r0]):ke))
def nld (a:Rows) (rv i:Int):St:= {n:=23,sl:=[(0,.sl [.bool] a),(1,.int .i64 rv),(5,.int .i64 i)],hp:=[],ok:=true,ls:=[],lm:=[]}
theorem nnc:DA Tryz.prog 80 RV:=by
 refine qh (A:=ZX) IU Tryz.func80 fun ds (hw:jI ([.sl [.bool],.i]) ds) aF=> ?_
 obtain⟨a,ds,rfl,qj,hw⟩:=oh hw
 obtain⟨k,rfl,_⟩:=nt hw
 obtain⟨N,hN⟩:=nnb Vm.jK ZY a k qj aF
 exact⟨N,eL (fun l_=>RW Vm.jK ZY l_ a k) (Tm (KR Tryz.prog [] ZX N Tryz.f80 RV [true,false,true,false] []) (nld a) _ N) hN⟩
def tE:Sum:= {ps:=[⟨[.i],false⟩],rs:=[⟨[.dQ .str],false⟩],fn:=fun ds=>(true,[.str (S_ (rI ds 0))])}
def ndd:List (Nat×kW):=[(4, {bN:=[(0,.mh),(3,.mh)],boxes:=[]})]
def nde:Bytes→ke:=(fun r0=>((true,[.str r0]):ke))
def nnB (rv:Int) (nD:Bytes):St:= {n:=20,sl:=[(0,.int .i64 rv),(3,.str nD)],hp:=[],ok:=true,ls:=[],lm:=[]}
theorem v8:DA Tryz.prog 169 tE:=by
 refine qh (A:=ndd) IU Tryz.func169 fun ds (hw:jI ([.i]) ds) _=> ?_
 obtain⟨k,rfl,h_k⟩:=nt hw
 obtain⟨N,hN⟩:=nqq Vm.jK nde k h_k
 exact⟨N,eL (fun l_=>TN Vm.jK nde l_ k) (Tm (KR Tryz.prog [] ndd N Tryz.f169 tE [true,true,true,false,false] []) (nnB) _ N) hN⟩
def xR:Sum:= {ps:=[⟨[.sl [.str]],false⟩,⟨[.i],false⟩],rs:=[⟨[.dQ .i],false⟩],fn:=fun ds=>(PO 1 (rR ds 0) (rI ds 1),[.int (uZ (rR ds 0) (rI ds 1)).1]++[.sl (uZ (rR ds 0) (rI ds 1)).2]),ms:=[some (.rows [.flat 9]),none]}
def Wl:Ctx:=[(169,tE)]
theorem njC:bt Tryz.prog Wl:=Hx v8 IU
def Wk:List (Nat×kW):=[(2, {bN:=[(0,.mh),(1,.mh),(5,.mh)],boxes:=[]})]
def Wm:Int→Rows→ke:=(fun r0 r1=>((true,[.int r0]++[.sl r1]):ke))
def nhC (rv i:Int) (ND:Rows):St:= {n:=1099511627796,sl:=[(0,.own 640000),(1,.int .i64 rv),(5,.int .i64 i)],hp:=[(640000,.row 9 [.str] ND false true)],ok:=true,ls:=[],lm:=[]}
theorem Wo:BO Tryz.prog 72 xR:=by
 refine Qd (A:=Wk) njC Tryz.func72 fun ds (hw:jI ([.sl [.str],.i]) ds) aF=> ?_
 obtain⟨a,ds,rfl,qj,hw⟩:=oh hw
 obtain⟨k,rfl,_⟩:=nt hw
 obtain⟨N,hN⟩:=njB Vm.jK Wm a k qj aF
 exact⟨N,eL (fun l_=>Pv Vm.jK Wm l_ a k) (nL3 (Kn Tryz.prog Wl Wk N Tryz.f72 xR [true,false,true,false] []) (nhC) _ N) hN⟩
def xQ:Sum:= {ps:=[⟨[.sl [.str]],false⟩,⟨[.i],false⟩],rs:=[⟨[.dQ .i],false⟩],fn:=fun ds=>(Ry sG 1 (rR ds 0) (rI ds 1),[.int (uW (rR ds 0) (rI ds 1))])}
def V_:Ctx:=[(169,tE)]
theorem njt:bt Tryz.prog V_:=Hx v8 IU
def V9:List (Nat×kW):=[(2, {bN:=[(0,.mh),(1,.mh),(5,.mh)],boxes:=[]})]
def Wa:Int→ke:=(fun r0=>((true,[.int r0]):ke))
def nhq (a:Rows) (rv i:Int):St:= {n:=22,sl:=[(0,.sl [.str] a),(1,.int .i64 rv),(5,.int .i64 i)],hp:=[],ok:=true,ls:=[],lm:=[]}
theorem Wc:DA Tryz.prog 84 xQ:=by
 refine qh (A:=V9) njt Tryz.func84 fun ds (hw:jI ([.sl [.str],.i]) ds) aF=> ?_
 obtain⟨a,ds,rfl,qj,hw⟩:=oh hw
 obtain⟨k,rfl,_⟩:=nt hw
 obtain⟨N,hN⟩:=njs Vm.jK Wa a k qj aF
 exact⟨N,eL (fun l_=>Ps Vm.jK Wa l_ a k) (Tm (KR Tryz.prog V_ V9 N Tryz.f84 xQ [true,false,true,false] []) (nhq a) _ N) hN⟩
def R8:Sum:= {ps:=[⟨[.sl [.i,.i,.sl [.i]]],false⟩,⟨[.i],false⟩],rs:=[⟨[.dQ .i],false⟩],fn:=fun ds=>(y9 sk Ts (rR ds 0) (rI ds 1),[.int (Nn (rR ds 0) (rI ds 1)).1]++[.sl (Nn (rR ds 0) (rI ds 1)).2]),ms:=[some (.rows [.deep 207 [3]]),none]}
def nal:Ctx:=[(1125899906842654,Jh),(73,tD)]
theorem nny:bt Tryz.prog nal:=Hx Ku (Hx v7 IU)
def nak:List (Nat×kW):=[(2, {bN:=[(0,.mh),(1,.mh),(5,.mh)],boxes:=[]})]
def nam:Int→Rows→ke:=(fun r0 r1=>((true,[.int r0]++[.sl r1]):ke))
def nlz (rv i:Int) (ND:Rows):St:= {n:=1099511627810,sl:=[(0,.own 640000),(1,.int .i64 rv),(5,.int .i64 i)],hp:=[(640000,.deep 207 [.i,.i,.sl [.i]] [3] ND none)],ok:=true,ls:=[],lm:=[]}
theorem nnx:BO Tryz.prog 168 R8:=by
 refine Qd (A:=nak) nny Tryz.func168 fun ds (hw:jI ([.sl [.i,.i,.sl [.i]],.i]) ds) aF=> ?_
 obtain⟨a,ds,rfl,qj,hw⟩:=oh hw
 obtain⟨k,rfl,_⟩:=nt hw
 obtain⟨N,hN⟩:=nnw Vm.jK nam a k qj aF
 exact⟨N,eL (fun l_=>R9 Vm.jK nam l_ a k) (nL3 (Kn Tryz.prog nal nak N Tryz.f168 R8 [true,false,true,false] []) (nlz) _ N) hN⟩
def R0:Sum:= {ps:=[⟨[.sl [.i,.i,.sl [.i]]],false⟩,⟨[.i],false⟩],rs:=[⟨[.dQ .i],false⟩],fn:=fun ds=>(ngY (rR ds 0) (rI ds 1),[.int (Zj (rR ds 0) (rI ds 1))])}
def Z7:Ctx:=[(85,tC)]
theorem nnl:bt Tryz.prog Z7:=Hx vZ IU
def Z6:List (Nat×kW):=[(2, {bN:=[(0,.mh),(1,.mh),(5,.mh)],boxes:=[]})]
def Z8:Int→ke:=(fun r0=>((true,[.int r0]):ke))
def nlk (a:Rows) (rv i:Int):St:= {n:=40,sl:=[(0,.sl [.i,.i,.sl [.i]] a),(1,.int .i64 rv),(5,.int .i64 i)],hp:=[],ok:=true,ls:=[],lm:=[]}
theorem nnk:DA Tryz.prog 174 R0:=by
 refine qh (A:=Z6) nnl Tryz.func174 fun ds (hw:jI ([.sl [.i,.i,.sl [.i]],.i]) ds) aF=> ?_
 obtain⟨a,ds,rfl,qj,hw⟩:=oh hw
 obtain⟨k,rfl,_⟩:=nt hw
 obtain⟨N,hN⟩:=nnj Vm.jK Z8 a k qj aF
 exact⟨N,eL (fun l_=>R1 Vm.jK Z8 l_ a k) (Tm (KR Tryz.prog Z7 Z6 N Tryz.f174 R0 [true,false,true,false] []) (nlk a) _ N) hN⟩
def Pw:Sum:= {ps:=[⟨[.sl [.i,.i,.i,.i,.bool,.bool]],false⟩,⟨[.i],false⟩],rs:=[⟨[.dQ .i],false⟩],fn:=fun ds=>(PO 6 (rR ds 0) (rI ds 1),[.int (PN (rR ds 0) (rI ds 1)).1]++[.sl (PN (rR ds 0) (rI ds 1)).2]),ms:=[some (.rows [.flat 186]),none]}
def Wr:List (Nat×kW):=[(2, {bN:=[(0,.mh),(1,.mh),(5,.mh)],boxes:=[]})]
def Ws:Int→Rows→ke:=(fun r0 r1=>((true,[.int r0]++[.sl r1]):ke))
def nhD (rv i:Int) (ND:Rows):St:= {n:=1099511627835,sl:=[(0,.own 640000),(1,.int .i64 rv),(5,.int .i64 i)],hp:=[(640000,.row 186 [.i,.i,.i,.i,.bool,.bool] ND false true)],ok:=true,ls:=[],lm:=[]}
theorem njI:BO Tryz.prog 67 Pw:=by
 refine Qd (A:=Wr) IU Tryz.func67 fun ds (hw:jI ([.sl [.i,.i,.i,.i,.bool,.bool],.i]) ds) aF=> ?_
 obtain⟨a,ds,rfl,qj,hw⟩:=oh hw
 obtain⟨k,rfl,_⟩:=nt hw
 obtain⟨N,hN⟩:=njH Vm.jK Ws a k qj aF
 have e0:(fun rv i ND=>KS (Kn Tryz.prog [] Wr N Tryz.f67 Pw [true,false,true,false] []) N (nhD rv i ND))=(nvg WM Vm.jK Ws N N):=nL3 _ _ _ N
 refine⟨N,Eq.trans ?_ (hN.trans (by kernel_rfl))⟩
 unfold nn8
 rw[←e0]
 kernel_rfl
def Pt:Sum:= {ps:=[⟨[.sl [.i,.i,.i,.i,.bool,.bool]],false⟩,⟨[.i],false⟩],rs:=[⟨[.dQ .i],false⟩],fn:=fun ds=>(Ry Qa 6 (rR ds 0) (rI ds 1),[.int (S1 (rR ds 0) (rI ds 1))])}
def We:List (Nat×kW):=[(2, {bN:=[(0,.mh),(1,.mh),(5,.mh)],boxes:=[]})]
def Wf:Int→ke:=(fun r0=>((true,[.int r0]):ke))
def nhr (a:Rows) (rv i:Int):St:= {n:=71,sl:=[(0,.sl [.i,.i,.i,.i,.bool,.bool] a),(1,.int .i64 rv),(5,.int .i64 i)],hp:=[],ok:=true,ls:=[],lm:=[]}
theorem njx:DA Tryz.prog 79 Pt:=by
 refine qh (A:=We) IU Tryz.func79 fun ds (hw:jI ([.sl [.i,.i,.i,.i,.bool,.bool],.i]) ds) aF=> ?_
 obtain⟨a,ds,rfl,qj,hw⟩:=oh hw
 obtain⟨k,rfl,_⟩:=nt hw
 obtain⟨N,hN⟩:=njw Vm.jK Wf a k qj aF
 have e0:(fun rv i=>KS (KR Tryz.prog [] We N Tryz.f79 Pt [true,false,true,false] []) N (nhr a rv i))=(nul WM Vm.jK Wf N a N):=Tm _ _ _ N
 refine⟨N,Eq.trans ?_ (hN.trans (by kernel_rfl))⟩
 unfold nmC
 rw[←e0]
 kernel_rfl
def R7:Sum:= {ps:=[⟨[.sl [.i,.i,.i,.i,.i,.i,.i,.i,.i]],false⟩,⟨[.i],false⟩],rs:=[⟨[.dQ .i],false⟩],fn:=fun ds=>(PO 9 (rR ds 0) (rI ds 1),[.int (PL (rR ds 0) (rI ds 1)).1]++[.sl (PL (rR ds 0) (rI ds 1)).2]),ms:=[some (.rows [.flat 260]),none]}
def nai:List (Nat×kW):=[(2, {bN:=[(0,.mh),(1,.mh),(5,.mh)],boxes:=[]})]
def naj:Int→Rows→ke:=(fun r0 r1=>((true,[.int r0]++[.sl r1]):ke))
def nly (rv i:Int) (ND:Rows):St:= {n:=1099511627852,sl:=[(0,.own 640000),(1,.int .i64 rv),(5,.int .i64 i)],hp:=[(640000,.row 260 [.i,.i,.i,.i,.i,.i,.i,.i,.i] ND false true)],ok:=true,ls:=[],lm:=[]}
theorem nnv:BO Tryz.prog 170 R7:=by
 refine Qd (A:=nai) IU Tryz.func170 fun ds (hw:jI ([.sl [.i,.i,.i,.i,.i,.i,.i,.i,.i],.i]) ds) aF=> ?_
 obtain⟨a,ds,rfl,qj,hw⟩:=oh hw
 obtain⟨k,rfl,_⟩:=nt hw
 obtain⟨N,hN⟩:=nnu Vm.jK naj a k qj aF
 have e0:(fun rv i ND=>KS (Kn Tryz.prog [] nai N Tryz.f170 R7 [true,false,true,false] []) N (nly rv i ND))=(nvg njS Vm.jK naj N N):=nL3 _ _ _ N
 refine⟨N,Eq.trans ?_ (hN.trans (by kernel_rfl))⟩
 unfold nn8
 rw[←e0]
 kernel_rfl
def RZ:Sum:= {ps:=[⟨[.sl [.i,.i,.i,.i,.i,.i,.i,.i,.i]],false⟩,⟨[.i],false⟩],rs:=[⟨[.dQ .i],false⟩],fn:=fun ds=>(Ry nbf 9 (rR ds 0) (rI ds 1),[.int (RM (rR ds 0) (rI ds 1))])}
def Z4:List (Nat×kW):=[(2, {bN:=[(0,.mh),(1,.mh),(5,.mh)],boxes:=[]})]
def Z5:Int→ke:=(fun r0=>((true,[.int r0]):ke))
def nlj (a:Rows) (rv i:Int):St:= {n:=94,sl:=[(0,.sl [.i,.i,.i,.i,.i,.i,.i,.i,.i] a),(1,.int .i64 rv),(5,.int .i64 i)],hp:=[],ok:=true,ls:=[],lm:=[]}
theorem nni:DA Tryz.prog 175 RZ:=by
 refine qh (A:=Z4) IU Tryz.func175 fun ds (hw:jI ([.sl [.i,.i,.i,.i,.i,.i,.i,.i,.i],.i]) ds) aF=> ?_
 obtain⟨a,ds,rfl,qj,hw⟩:=oh hw
 obtain⟨k,rfl,_⟩:=nt hw
 obtain⟨N,hN⟩:=nnh Vm.jK Z5 a k qj aF
 have e0:(fun rv i=>KS (KR Tryz.prog [] Z4 N Tryz.f175 RZ [true,false,true,false] []) N (nlj a rv i))=(nul njS Vm.jK Z5 N a N):=Tm _ _ _ N
 refine⟨N,Eq.trans ?_ (hN.trans (by kernel_rfl))⟩
 unfold nmC
 rw[←e0]
 kernel_rfl
def R_:Sum:= {ps:=[⟨[.sl [.i,.i,.i,.i,.i,.i,.i]],false⟩,⟨[.i],false⟩],rs:=[⟨[.dQ .i],false⟩],fn:=fun ds=>(PO 7 (rR ds 0) (rI ds 1),[.int (Sj (rR ds 0) (rI ds 1)).1]++[.sl (Sj (rR ds 0) (rI ds 1)).2]),ms:=[some (.rows [.flat 262]),none]}
def nap:List (Nat×kW):=[(2, {bN:=[(0,.mh),(1,.mh),(5,.mh)],boxes:=[]})]
def naq:Int→Rows→ke:=(fun r0 r1=>((true,[.int r0]++[.sl r1]):ke))
def nlA (rv i:Int) (ND:Rows):St:= {n:=1099511627843,sl:=[(0,.own 640000),(1,.int .i64 rv),(5,.int .i64 i)],hp:=[(640000,.row 262 [.i,.i,.i,.i,.i,.i,.i] ND false true)],ok:=true,ls:=[],lm:=[]}
theorem nnA:BO Tryz.prog 238 R_:=by
 refine Qd (A:=nap) IU Tryz.func238 fun ds (hw:jI ([.sl [.i,.i,.i,.i,.i,.i,.i],.i]) ds) aF=> ?_
 obtain⟨a,ds,rfl,qj,hw⟩:=oh hw
 obtain⟨k,rfl,_⟩:=nt hw
 obtain⟨N,hN⟩:=nnz Vm.jK naq a k qj aF
 have e0:(fun rv i ND=>KS (Kn Tryz.prog [] nap N Tryz.f238 R_ [true,false,true,false] []) N (nlA rv i ND))=(nvg njT Vm.jK naq N N):=nL3 _ _ _ N
 refine⟨N,Eq.trans ?_ (hN.trans (by kernel_rfl))⟩
 unfold nn8
 rw[←e0]
 kernel_rfl
def R2:Sum:= {ps:=[⟨[.sl [.i,.i,.i,.i,.i,.i,.i]],false⟩,⟨[.i],false⟩],rs:=[⟨[.dQ .i],false⟩],fn:=fun ds=>(Ry nbg 7 (rR ds 0) (rI ds 1),[.int (U8 (rR ds 0) (rI ds 1))])}
def Z_:List (Nat×kW):=[(2, {bN:=[(0,.mh),(1,.mh),(5,.mh)],boxes:=[]})]
def naa:Int→ke:=(fun r0=>((true,[.int r0]):ke))
def nll (a:Rows) (rv i:Int):St:= {n:=81,sl:=[(0,.sl [.i,.i,.i,.i,.i,.i,.i] a),(1,.int .i64 rv),(5,.int .i64 i)],hp:=[],ok:=true,ls:=[],lm:=[]}
theorem nnn:DA Tryz.prog 239 R2:=by
 refine qh (A:=Z_) IU Tryz.func239 fun ds (hw:jI ([.sl [.i,.i,.i,.i,.i,.i,.i],.i]) ds) aF=> ?_
 obtain⟨a,ds,rfl,qj,hw⟩:=oh hw
 obtain⟨k,rfl,_⟩:=nt hw
 obtain⟨N,hN⟩:=nnm Vm.jK naa a k qj aF
 have e0:(fun rv i=>KS (KR Tryz.prog [] Z_ N Tryz.f239 R2 [true,false,true,false] []) N (nll a rv i))=(nul njT Vm.jK naa N a N):=Tm _ _ _ N
 refine⟨N,Eq.trans ?_ (hN.trans (by kernel_rfl))⟩
 unfold nmC
 rw[←e0]
 kernel_rfl
def NM:Sum:= {ps:=[⟨[.sl [.i,.i,.i,.bool]],false⟩,⟨[.i],false⟩],rs:=[⟨[.dQ .i],false⟩],fn:=fun ds=>(PO 4 (rR ds 0) (rI ds 1),[.int (Nk (rR ds 0) (rI ds 1)).1]++[.sl (Nk (rR ds 0) (rI ds 1)).2]),ms:=[some (.rows [.flat 209]),none]}
def UF:List (Nat×kW):=[(2, {bN:=[(0,.mh),(1,.mh),(5,.mh)],boxes:=[]})]
def UG:Int→Rows→ke:=(fun r0 r1=>((true,[.int r0]++[.sl r1]):ke))
def nfr (rv i:Int) (ND:Rows):St:= {n:=1099511627819,sl:=[(0,.own 640000),(1,.int .i64 rv),(5,.int .i64 i)],hp:=[(640000,.row 209 [.i,.i,.i,.bool] ND false true)],ok:=true,ls:=[],lm:=[]}
theorem nht:BO Tryz.prog 63 NM:=by
 refine Qd (A:=UF) IU Tryz.func63 fun ds (hw:jI ([.sl [.i,.i,.i,.bool],.i]) ds) aF=> ?_
 obtain⟨a,ds,rfl,qj,hw⟩:=oh hw
 obtain⟨k,rfl,_⟩:=nt hw
 obtain⟨N,hN⟩:=nhs Vm.jK UG a k qj aF
 have e0:(fun rv i ND=>KS (Kn Tryz.prog [] UF N Tryz.f63 NM [true,false,true,false] []) N (nfr rv i ND))=(nvg Sk Vm.jK UG N N):=nL3 _ _ _ N
 refine⟨N,Eq.trans ?_ (hN.trans (by kernel_rfl))⟩
 unfold nn8
 rw[←e0]
 kernel_rfl
def NK:Sum:= {ps:=[⟨[.sl [.i,.i,.i,.bool]],false⟩,⟨[.i],false⟩],rs:=[⟨[.dQ .i],false⟩],fn:=fun ds=>(Ry zI 4 (rR ds 0) (rI ds 1),[.int (Qg (rR ds 0) (rI ds 1))])}
def Uw:List (Nat×kW):=[(2, {bN:=[(0,.mh),(1,.mh),(5,.mh)],boxes:=[]})]
def Ux:Int→ke:=(fun r0=>((true,[.int r0]):ke))
def nfl (a:Rows) (rv i:Int):St:= {n:=51,sl:=[(0,.sl [.i,.i,.i,.bool] a),(1,.int .i64 rv),(5,.int .i64 i)],hp:=[],ok:=true,ls:=[],lm:=[]}
theorem nhj:DA Tryz.prog 75 NK:=by
 refine qh (A:=Uw) IU Tryz.func75 fun ds (hw:jI ([.sl [.i,.i,.i,.bool],.i]) ds) aF=> ?_
 obtain⟨a,ds,rfl,qj,hw⟩:=oh hw
 obtain⟨k,rfl,_⟩:=nt hw
 obtain⟨N,hN⟩:=nhi Vm.jK Ux a k qj aF
 have e0:(fun rv i=>KS (KR Tryz.prog [] Uw N Tryz.f75 NK [true,false,true,false] []) N (nfl a rv i))=(nul Sk Vm.jK Ux N a N):=Tm _ _ _ N
 refine⟨N,Eq.trans ?_ (hN.trans (by kernel_rfl))⟩
 unfold nmC
 rw[←e0]
 kernel_rfl
def Pu:Sum:= {ps:=[⟨[.sl [.i,.i,.i,.i,.i,.i,.str,.bool]],false⟩,⟨[.i],false⟩],rs:=[⟨[.dQ .i],false⟩],fn:=fun ds=>(PO 8 (rR ds 0) (rI ds 1),[.int (PM (rR ds 0) (rI ds 1)).1]++[.sl (PM (rR ds 0) (rI ds 1)).2]),ms:=[some (.rows [.flat 223]),none]}
def Wi:Ctx:=[(169,tE)]
theorem njA:bt Tryz.prog Wi:=Hx v8 IU
def Wh:List (Nat×kW):=[(2, {bN:=[(0,.mh),(1,.mh),(5,.mh)],boxes:=[]})]
def Wj:Int→Rows→ke:=(fun r0 r1=>((true,[.int r0]++[.sl r1]):ke))
def nhB (rv i:Int) (ND:Rows):St:= {n:=1099511627853,sl:=[(0,.own 640000),(1,.int .i64 rv),(5,.int .i64 i)],hp:=[(640000,.row 223 [.i,.i,.i,.i,.i,.i,.str,.bool] ND false true)],ok:=true,ls:=[],lm:=[]}
theorem njz:BO Tryz.prog 71 Pu:=by
 refine Qd (A:=Wh) njA Tryz.func71 fun ds (hw:jI ([.sl [.i,.i,.i,.i,.i,.i,.str,.bool],.i]) ds) aF=> ?_
 obtain⟨a,ds,rfl,qj,hw⟩:=oh hw
 obtain⟨k,rfl,_⟩:=nt hw
 obtain⟨N,hN⟩:=njy Vm.jK Wj a k qj aF
 have e0:(fun rv i ND=>KS (Kn Tryz.prog Wi Wh N Tryz.f71 Pu [true,false,true,false] []) N (nhB rv i ND))=(nvg WL Vm.jK Wj N N):=nL3 _ _ _ N
 refine⟨N,Eq.trans ?_ (hN.trans (by kernel_rfl))⟩
 unfold nn8
 rw[←e0]
 kernel_rfl
def Pr:Sum:= {ps:=[⟨[.sl [.i,.i,.i,.i,.i,.i,.str,.bool]],false⟩,⟨[.i],false⟩],rs:=[⟨[.dQ .i],false⟩],fn:=fun ds=>(Ry P_ 8 (rR ds 0) (rI ds 1),[.int (SZ (rR ds 0) (rI ds 1))])}
def V7:Ctx:=[(169,tE)]
theorem njr:bt Tryz.prog V7:=Hx v8 IU
def V6:List (Nat×kW):=[(2, {bN:=[(0,.mh),(1,.mh),(5,.mh)],boxes:=[]})]
def V8:Int→ke:=(fun r0=>((true,[.int r0]):ke))
def nhp (a:Rows) (rv i:Int):St:= {n:=93,sl:=[(0,.sl [.i,.i,.i,.i,.i,.i,.str,.bool] a),(1,.int .i64 rv),(5,.int .i64 i)],hp:=[],ok:=true,ls:=[],lm:=[]}
theorem njq:DA Tryz.prog 83 Pr:=by
 refine qh (A:=V6) njr Tryz.func83 fun ds (hw:jI ([.sl [.i,.i,.i,.i,.i,.i,.str,.bool],.i]) ds) aF=> ?_
 obtain⟨a,ds,rfl,qj,hw⟩:=oh hw
 obtain⟨k,rfl,_⟩:=nt hw
 obtain⟨N,hN⟩:=njp Vm.jK V8 a k qj aF
 have e0:(fun rv i=>KS (KR Tryz.prog V7 V6 N Tryz.f83 Pr [true,false,true,false] []) N (nhp a rv i))=(nul WL Vm.jK V8 N a N):=Tm _ _ _ N
 refine⟨N,Eq.trans ?_ (hN.trans (by kernel_rfl))⟩
 unfold nmC
 rw[←e0]
 kernel_rfl
def NN:Sum:= {ps:=[⟨[.sl [.i,.i,.i,.i,.i,.i,.i,.i,.i,.i,.i,.i,.i,.i,.i,.i,.i,.i,.i,.i,.i,.i,.i,.i,.i,.str,.i,.i,.bool,.i]],false⟩,⟨[.i],false⟩],rs:=[⟨[.dQ .i],false⟩],fn:=fun ds=>(PO 30 (rR ds 0) (rI ds 1),[.int (Nm (rR ds 0) (rI ds 1)).1]++[.sl (Nm (rR ds 0) (rI ds 1)).2]),ms:=[some (.rows [.flat 182]),none]}
def UJ:Ctx:=[(169,tE)]
theorem nhw:bt Tryz.prog UJ:=Hx v8 IU
def UI:List (Nat×kW):=[(2, {bN:=[(0,.mh),(1,.mh),(5,.mh)],boxes:=[]})]
def UK:Int→Rows→ke:=(fun r0 r1=>((true,[.int r0]++[.sl r1]):ke))
def nfs (rv i:Int) (ND:Rows):St:= {n:=1099511628054,sl:=[(0,.own 640000),(1,.int .i64 rv),(5,.int .i64 i)],hp:=[(640000,.row 182 [.i,.i,.i,.i,.i,.i,.i,.i,.i,.i,.i,.i,.i,.i,.i,.i,.i,.i,.i,.i,.i,.i,.i,.i,.i,.str,.i,.i,.bool,.i] ND false true)],ok:=true,ls:=[],lm:=[]}
theorem nhv:BO Tryz.prog 65 NN:=by
 refine Qd (A:=UI) nhw Tryz.func65 fun ds (hw:jI ([.sl [.i,.i,.i,.i,.i,.i,.i,.i,.i,.i,.i,.i,.i,.i,.i,.i,.i,.i,.i,.i,.i,.i,.i,.i,.i,.str,.i,.i,.bool,.i],.i]) ds) aF=> ?_
 obtain⟨a,ds,rfl,qj,hw⟩:=oh hw
 obtain⟨k,rfl,_⟩:=nt hw
 obtain⟨N,hN⟩:=nhu Vm.jK UK a k qj aF
 have e0:(fun rv i ND=>KS (Kn Tryz.prog UJ UI N Tryz.f65 NN [true,false,true,false] []) N (nfs rv i ND))=(nvg Sl Vm.jK UK N N):=nL3 _ _ _ N
 refine⟨N,Eq.trans ?_ (hN.trans (by kernel_rfl))⟩
 unfold nn8
 rw[←e0]
 kernel_rfl
def NL:Sum:= {ps:=[⟨[.sl [.i,.i,.i,.i,.i,.i,.i,.i,.i,.i,.i,.i,.i,.i,.i,.i,.i,.i,.i,.i,.i,.i,.i,.i,.i,.str,.i,.i,.bool,.i]],false⟩,⟨[.i],false⟩],rs:=[⟨[.dQ .i],false⟩],fn:=fun ds=>(Ry zJ 30 (rR ds 0) (rI ds 1),[.int (Qh (rR ds 0) (rI ds 1))])}
def UA:Ctx:=[(169,tE)]
theorem nhm:bt Tryz.prog UA:=Hx v8 IU
def Uz:List (Nat×kW):=[(2, {bN:=[(0,.mh),(1,.mh),(5,.mh)],boxes:=[]})]
def UB:Int→ke:=(fun r0=>((true,[.int r0]):ke))
def nfm (a:Rows) (rv i:Int):St:= {n:=338,sl:=[(0,.sl [.i,.i,.i,.i,.i,.i,.i,.i,.i,.i,.i,.i,.i,.i,.i,.i,.i,.i,.i,.i,.i,.i,.i,.i,.i,.str,.i,.i,.bool,.i] a),(1,.int .i64 rv),(5,.int .i64 i)],hp:=[],ok:=true,ls:=[],lm:=[]}
theorem nhl:DA Tryz.prog 77 NL:=by
 refine qh (A:=Uz) nhm Tryz.func77 fun ds (hw:jI ([.sl [.i,.i,.i,.i,.i,.i,.i,.i,.i,.i,.i,.i,.i,.i,.i,.i,.i,.i,.i,.i,.i,.i,.i,.i,.i,.str,.i,.i,.bool,.i],.i]) ds) aF=> ?_
 obtain⟨a,ds,rfl,qj,hw⟩:=oh hw
 obtain⟨k,rfl,_⟩:=nt hw
 obtain⟨N,hN⟩:=nhk Vm.jK UB a k qj aF
 have e0:(fun rv i=>KS (KR Tryz.prog UA Uz N Tryz.f77 NL [true,false,true,false] []) N (nfm a rv i))=(nul Sl Vm.jK UB N a N):=Tm _ _ _ N
 refine⟨N,Eq.trans ?_ (hN.trans (by kernel_rfl))⟩
 unfold nmC
 rw[←e0]
 kernel_rfl
def R5:Sum:= {ps:=[⟨[.sl [.i,.i,.i,.sl [.i]]],false⟩,⟨[.i],false⟩],rs:=[⟨[.dQ .i],false⟩],fn:=fun ds=>(y9 sj Tq (rR ds 0) (rI ds 1),[.int (Nl (rR ds 0) (rI ds 1)).1]++[.sl (Nl (rR ds 0) (rI ds 1)).2]),ms:=[some (.rows [.deep 62 [3]]),none]}
def naf:Ctx:=[(1125899906842661,Jh),(73,tD)]
theorem nnt:bt Tryz.prog naf:=Hx Ku (Hx v7 IU)
def nae:List (Nat×kW):=[(2, {bN:=[(0,.mh),(1,.mh),(5,.mh)],boxes:=[]})]
def nag:Int→Rows→ke:=(fun r0 r1=>((true,[.int r0]++[.sl r1]):ke))
def nlx (rv i:Int) (ND:Rows):St:= {n:=1099511627817,sl:=[(0,.own 640000),(1,.int .i64 rv),(5,.int .i64 i)],hp:=[(640000,.deep 62 [.i,.i,.i,.sl [.i]] [3] ND none)],ok:=true,ls:=[],lm:=[]}
theorem nns:BO Tryz.prog 66 R5:=by
 refine Qd (A:=nae) nnt Tryz.func66 fun ds (hw:jI ([.sl [.i,.i,.i,.sl [.i]],.i]) ds) aF=> ?_
 obtain⟨a,ds,rfl,qj,hw⟩:=oh hw
 obtain⟨k,rfl,_⟩:=nt hw
 obtain⟨N,hN⟩:=nnr Vm.jK nag a k qj aF
 exact⟨N,eL (fun l_=>R6 Vm.jK nag l_ a k) (nL3 (Kn Tryz.prog naf nae N Tryz.f66 R5 [true,false,true,false] []) (nlx) _ N) hN⟩
def RX:Sum:= {ps:=[⟨[.sl [.i,.i,.i,.sl [.i]]],false⟩,⟨[.i],false⟩],rs:=[⟨[.dQ .i],false⟩],fn:=fun ds=>(ngX (rR ds 0) (rI ds 1),[.int (Zi (rR ds 0) (rI ds 1))])}
def Z1:Ctx:=[(85,tC)]
theorem nng:bt Tryz.prog Z1:=Hx vZ IU
def Z0:List (Nat×kW):=[(2, {bN:=[(0,.mh),(1,.mh),(5,.mh)],boxes:=[]})]
def Z2:Int→ke:=(fun r0=>((true,[.int r0]):ke))
def nli (a:Rows) (rv i:Int):St:= {n:=49,sl:=[(0,.sl [.i,.i,.i,.sl [.i]] a),(1,.int .i64 rv),(5,.int .i64 i)],hp:=[],ok:=true,ls:=[],lm:=[]}
theorem nnf:DA Tryz.prog 78 RX:=by
 refine qh (A:=Z0) nng Tryz.func78 fun ds (hw:jI ([.sl [.i,.i,.i,.sl [.i]],.i]) ds) aF=> ?_
 obtain⟨a,ds,rfl,qj,hw⟩:=oh hw
 obtain⟨k,rfl,_⟩:=nt hw
 obtain⟨N,hN⟩:=nne Vm.jK Z2 a k qj aF
 exact⟨N,eL (fun l_=>RY Vm.jK Z2 l_ a k) (Tm (KR Tryz.prog Z1 Z0 N Tryz.f78 RX [true,false,true,false] []) (nli a) _ N) hN⟩
def nG:Sum:= {ps:=[⟨[.i],false⟩,⟨[.i],false⟩,⟨[.i],false⟩],rs:=[⟨[.dQ .bool],false⟩],fn:=fun ds=>(true,[.bool (nf (rI ds 0) (rI ds 1) (rI ds 2))])}
theorem oN:DA Tryz.prog 143 nG:=by
 refine nM IU Tryz.func143 fun ds (hw:jI ([.i,.i,.i]) ds) _=> ?_
 obtain⟨n,ds,rfl,_,hw⟩:=nX hw
 obtain⟨low,ds,rfl,_,hw⟩:=nX hw
 obtain⟨high,rfl,_⟩:=nt hw
 exact⟨0,eT (ne2 (fun r0=>((true,[.bool r0]):ke)) n low high)⟩
theorem ph:DA Tryz.prog 106 nG:=by
 refine nM IU Tryz.func106 fun ds (hw:jI ([.i,.i,.i]) ds) _=> ?_
 obtain⟨x,ds,rfl,_,hw⟩:=nX hw
 obtain⟨least,ds,rfl,_,hw⟩:=nX hw
 obtain⟨most,rfl,_⟩:=nt hw
 exact⟨0,eT (ne2 (fun r0=>((true,[.bool r0]):ke)) x least most)⟩
def vS:Sum:= {ps:=[⟨nH.ct,true⟩],rs:=[⟨[.dQ .bool],false⟩],fn:=fun ds=>(true,[.bool (wc (nH.na ds 0))])}
def nbZ:Ctx:=[(143,nG)]
theorem npk:bt Tryz.prog nbZ:=Hx oN IU
def nbY:List (Nat×kW):=[(2, {bN:=[(1,.mh),(6,.mh),(7,.mh),(8,.mh)],boxes:=[(64,[])]})]
def nb0:Bool→ke:=(fun r0=>((true,[.bool r0]):ke))
def nmD (x:Rows) (nZ om yA:Int) (Tp:Bool) (wW:Rows):St:= {n:=40,sl:=[(1,.ptr 64 0),(6,.sl [.i] x),(7,.int .i64 nZ),(8,.int .i64 om)],hp:=[(64,.box 69 [.int .i64 yA,.bool Tp,.sl [.i] wW])],ok:=true,ls:=[],lm:=[]}
theorem npj:DA Tryz.prog 142 vS:=by
 refine qh (A:=nbY) npk Tryz.func142 fun ds (hw:jI (nH.ct++[]) ds) _=> ?_
 obtain⟨f,ds,rfl,h_f,hw⟩:=nH.nB (r:=_) hw
 obtain rfl:=nm hw
 obtain⟨N,hN⟩:=npi Vm.jK nb0 f h_f
 exact⟨N,eL (fun l_=>Tu Vm.jK nb0 l_ f) (funext fun x=>funext fun nZ=>funext fun yA=>funext fun wW=>nL1 (KR Tryz.prog nbZ nbY N Tryz.f142 vS [true,false,true,false] []) (fun om=>nmD x nZ om yA f.ql wW) _ N) hN⟩
def ndy:Ctx:=[(106,nG)]
theorem nq9:bt Tryz.prog ndy:=Hx ph IU
def ndx:List (Nat×kW):=[(2, {bN:=[(1,.mh),(3,.mh)],boxes:=[(64,[])]})]
def ndz:Bool→ke:=(fun r0=>((true,[.bool r0]):ke))
def noh (k yA:Int) (Tp:Bool) (wW:Rows):St:= {n:=45,sl:=[(1,.ptr 64 0),(3,.int .i64 k)],hp:=[(64,.box 69 [.int .i64 yA,.bool Tp,.sl [.i] wW])],ok:=true,ls:=[],lm:=[]}
theorem nq8:DA Tryz.prog 105 vS:=by
 refine qh (A:=ndx) nq9 Tryz.func105 fun ds (hw:jI (nH.ct++[]) ds) _=> ?_
 obtain⟨f,ds,rfl,h_f,hw⟩:=nH.nB (r:=_) hw
 obtain rfl:=nm hw
 obtain⟨N,hN⟩:=nq7 Vm.jK ndz f h_f
 exact⟨N,eL (fun l_=>TX Vm.jK ndz l_ f) (funext fun yA=>funext fun wW=>nL1 (KR Tryz.prog ndy ndx N Tryz.f105 vS [true,false,true,false] []) (fun k=>noh k yA f.ql wW) _ N) hN⟩
def ve:Sum:= {ps:=[⟨nz.ct,true⟩],rs:=[⟨[.dQ .bool],false⟩],fn:=fun ds=>(true,[.bool (sd (nz.na ds 0))])}
theorem Zq:DA Tryz.prog 219 ve:=by
 refine nM (Γ:=[(143,nG)]) (Hx oN IU) Tryz.func219 fun ds (hw:jI (nz.ct++[]) ds) _=> ?_
 obtain⟨g,ds,rfl,_,hw⟩:=nz.nB (r:=_) hw
 obtain rfl:=nm hw
 exact⟨0,eT (nmI (fun r0=>((true,[.bool r0]):ke)) g)⟩
theorem naZ:DA Tryz.prog 256 ve:=by
 refine nM (Γ:=[(106,nG)]) (Hx ph IU) Tryz.func256 fun ds (hw:jI (nz.ct++[]) ds) _=> ?_
 obtain⟨g,ds,rfl,_,hw⟩:=nz.nB (r:=_) hw
 obtain rfl:=nm hw
 exact⟨0,eT (nom (fun r0=>((true,[.bool r0]):ke)) g)⟩
def Zy:Sum:= {ps:=[⟨[.i],false⟩],rs:=[⟨[.dQ .bool],false⟩],fn:=fun ds=>(true,[.bool (Va (rI ds 0))])}
theorem nmU:DA Tryz.prog 220 Zy:=by
 refine nM IU Tryz.func220 fun ds (hw:jI ([.i]) ds) _=> ?_
 obtain⟨flags,rfl,_⟩:=nt hw
 exact⟨0,eT (nmT (fun r0=>((true,[.bool r0]):ke)) flags)⟩
def ru:Sum:= {ps:=[⟨nk.ct,true⟩],rs:=[⟨[.dQ .bool],false⟩],fn:=fun ds=>(true,[.bool (rA (nk.na ds 0))])}
theorem zn:DA Tryz.prog 148 ru:=by
 refine nM (Γ:=[(143,nG),(219,ve),(220,Zy)]) (Hx oN (Hx Zq (Hx nmU IU))) Tryz.func148 fun ds (hw:jI (nk.ct++[]) ds) _=> ?_
 obtain⟨p,ds,rfl,_,hw⟩:=nk.nB (r:=_) hw
 obtain rfl:=nm hw
 exact⟨0,eT (nsn (fun r0=>((true,[.bool r0]):ke)) p)⟩
theorem zD:DA Tryz.prog 192 ru:=by
 refine nM (Γ:=[(106,nG),(256,ve)]) (Hx ph (Hx naZ IU)) Tryz.func192 fun ds (hw:jI (nk.ct++[]) ds) _=> ?_
 obtain⟨p,ds,rfl,_,hw⟩:=nk.nB (r:=_) hw
 obtain rfl:=nm hw
 exact⟨0,eT (ntK (fun r0=>((true,[.bool r0]):ke)) p)⟩
def xP:Sum:= {ps:=[⟨[.sl [.i,.i,.i,.bool]],false⟩,⟨[.i],false⟩,⟨[.i],false⟩],rs:=[⟨[.dQ .i],false⟩],fn:=fun ds=>(true,[.int (tI (rR ds 0) (rI ds 1) (rI ds 2))])}
def VQ:List (Nat×kW):=[(2, {bN:=[(1,.mh),(2,.mh),(9,.mh),(10,.mh),(11,.mh)],boxes:=[]})]
def VR:Int→ke:=(fun r0=>((true,[.int r0]):ke))
def nhh (domain o_:Int) (list_:Rows) (nZ om:Int):St:= {n:=28,sl:=[(1,.int .i64 domain),(2,.int .i64 o_),(9,.sl [.i,.i,.i,.bool] list_),(10,.int .i64 nZ),(11,.int .i64 om)],hp:=[],ok:=true,ls:=[],lm:=[]}
theorem VT:DA Tryz.prog 212 xP:=by
 refine qh (A:=VQ) IU Tryz.func212 fun ds (hw:jI ([.sl [.i,.i,.i,.bool],.i,.i]) ds) _=> ?_
 obtain⟨list_,ds,rfl,pg,hw⟩:=oh hw
 obtain⟨domain,ds,rfl,_,hw⟩:=nX hw
 obtain⟨o_,rfl,_⟩:=nt hw
 obtain⟨N,hN⟩:=njk Vm.jK VR list_ domain o_ pg
 exact⟨N,eL (fun l_=>Pq Vm.jK VR l_ list_ domain o_) (funext fun nZ=>nL1 (KR Tryz.prog [] VQ N Tryz.f212 xP [true,false,true,false] []) (nhh domain o_ list_ nZ) _ N) hN⟩
def rD:Sum:= {ps:=[⟨[.sl [.i,.i,.i,.bool]],false⟩],rs:=[⟨[.dQ .bool],false⟩],fn:=fun ds=>(true,[.bool (pC (rR ds 0))])}
def Xx:Ctx:=[(143,nG),(212,xP)]
theorem nkB:bt Tryz.prog Xx:=Hx oN (Hx VT IU)
def Xw:List (Nat×kW):=[(2, {bN:=[(0,.mh),(5,.mh),(6,.mh),(7,.mh)],boxes:=[]})]
def Xy:Bool→ke:=(fun r0=>((true,[.bool r0]):ke))
def ni5 (list_ x:Rows) (nZ om:Int):St:= {n:=42,sl:=[(0,.sl [.i,.i,.i,.bool] list_),(5,.sl [.i,.i,.i,.bool] x),(6,.int .i64 nZ),(7,.int .i64 om)],hp:=[],ok:=true,ls:=[],lm:=[]}
theorem XA:DA Tryz.prog 140 rD:=by
 refine qh (A:=Xw) nkB Tryz.func140 fun ds (hw:jI ([.sl [.i,.i,.i,.bool]]) ds) _=> ?_
 obtain⟨list_,rfl,pg⟩:=oU hw
 obtain⟨N,hN⟩:=nkA Vm.jK Xy list_ pg
 exact⟨N,eL (fun l_=>Qv Vm.jK Xy l_ list_) (funext fun x=>funext fun nZ=>nL1 (KR Tryz.prog Xx Xw N Tryz.f140 rD [true,false,true,false] []) (ni5 list_ x nZ) _ N) hN⟩
def Rl:Ctx:=[(106,nG)]
theorem nmg:bt Tryz.prog Rl:=Hx ph IU
def Rk:List (Nat×kW):=[(4, {bN:=[(0,.mh),(3,.mh)],boxes:=[]}),(10, {bN:=[(0,.mh),(3,.mh),(4,.mh),(5,.mh)],boxes:=[(256,[])]})]
def wJ:Bool→ke:=(fun r0=>((true,[.bool r0]):ke))
def vB (list_:Rows) (k:Int):St:= {n:=58,sl:=[(0,.sl [.i,.i,.i,.bool] list_),(3,.int .i64 k)],hp:=[],ok:=true,ls:=[],lm:=[]}
def x_ (list_:Rows) (k i x nZ om:Int) (yf:Bool):St:= {n:=58,sl:=[(0,.sl [.i,.i,.i,.bool] list_),(3,.int .i64 k),(4,.ptr 256 0),(5,.int .i64 i)],hp:=[(256,.box 209 [.int .i64 x,.int .i64 nZ,.int .i64 om,.bool yf])],ok:=true,ls:=[],lm:=[]}
noncomputable def x9 (N:Nat) (o0:St→ke):(St→ke)→St→ke:=KR Tryz.prog Rl Rk N Tryz.f103 rD [true,true,false,true,false,false,true,false,false,true,true,true,false] [o0]
noncomputable def x8 (N:Nat):(St→ke)→St→ke:=KR Tryz.prog Rl Rk N Tryz.f103 rD [true,true,false,true,false] []
theorem njY (N:Nat) (o0:St→ke) (list_:Rows) (k x nZ om:Int) (yf:Bool) (ih:St→ke) (i:Int):x9 N o0 ih (x_ list_ k i x nZ om yf)=vA Vm.jK wJ (fun k=>o0 (vB list_ k)) list_ k x nZ (fun i=>ih (x_ list_ k i x nZ om yf)) i:=by kernel_rfl
theorem nj0 (N:Nat) (o0:St→ke) (list_:Rows) (k x nZ om:Int) (yf:Bool) (m_:Nat):(fun i=>KS (x9 N o0) m_ (x_ list_ k i x nZ om yf))=rn Vm.jK wJ N (fun k=>o0 (vB list_ k)) list_ k x nZ m_:=by
 induction m_ with
 | zero=>rfl
 | succ m_ ih=>
  funext i
  refine (njY N o0 list_ k x nZ om yf (KS (x9 N o0) m_) i).trans ?_
  rw[ih]
  rfl
theorem njX (N:Nat) (list_:Rows) (ih:St→ke) (k:Int):x8 N ih (vB list_ k)=vz Vm.jK wJ (fun k x nZ i=>KS (x9 N ih) N (x_ list_ k i x nZ (rI (nth list_ (Int.toNat k)) 2) (rB (nth list_ (Int.toNat k)) 3))) list_ (fun k=>ih (vB list_ k)) k:=by kernel_rfl
theorem njZ (N:Nat) (list_:Rows) (m_:Nat):(fun k=>KS (x8 N) m_ (vB list_ k))=tZ Vm.jK wJ N list_ m_:=by
 induction m_ with
 | zero=>rfl
 | succ m_ ih=>
  funext k
  refine (njX N list_ (KS (x8 N) m_) k).trans ?_
  have e1:=funext fun k=>funext fun x=>funext fun nZ=>nj0 N (KS (x8 N) m_) list_ k x nZ (rI (nth list_ (Int.toNat k)) 2) (rB (nth list_ (Int.toNat k)) 3) N
  rw[e1]
  rw[ih]
  rfl
theorem Yt:DA Tryz.prog 103 rD:=by
 refine qh (A:=Rk) nmg Tryz.func103 fun ds (hw:jI ([.sl [.i,.i,.i,.bool]]) ds) _=> ?_
 obtain⟨list_,rfl,pg⟩:=oU hw
 obtain⟨N,hN⟩:=nmf Vm.jK wJ list_ pg
 refine⟨N,Eq.trans ?_ (hN.trans (by kernel_rfl))⟩
 unfold Rm
 rw[←njZ N list_ N]
 kernel_rfl
def Pp:Sum:= {ps:=[⟨[.sl [.str]],false⟩],rs:=[⟨[.own 9 [.str]],false⟩],fn:=fun ds=>(sm (rR ds 0),[.sl (oQ (rR ds 0))])}
theorem VO:DA Tryz.prog 137 Pp:=by
 refine nM IU Tryz.func137 fun ds (hw:jI ([.sl [.str]]) ds) aF=> ?_
 obtain⟨l,rfl,_⟩:=oU hw
 exact⟨0,eT (njj Vm.jK (fun r0=>((true,[.sl r0]):ke)) l aF)⟩
def XM:Sum:= {ps:=[⟨nd.ct,true⟩],rs:=[⟨[.own 9 [.str]],true⟩],fn:=fun ds=>(nl5 (nd.na ds 0),nd.enc (oQ (nd.na ds 0)))}
theorem nkS:DA Tryz.prog 130 XM:=by
 refine nM (Γ:=[(137,Pp)]) (Hx VO IU) Tryz.func130 fun ds (hw:jI (nd.ct++[]) ds) aF=> ?_
 obtain⟨m,ds,rfl,_,hw⟩:=nd.nB (r:=_) hw
 obtain rfl:=nm hw
 exact⟨0,eT (nkR Vm.jK (fun r0=>((true,nd.enc r0):ke)) m aF)⟩
def rQ:Sum:= {ps:=[⟨nd.ct,true⟩],rs:=[⟨[.dQ .bool],false⟩],fn:=fun ds=>(true,[.bool (qc (nd.na ds 0))])}
def ncc:List (Nat×kW):=[(2, {bN:=[(1,.mh),(6,.mh),(7,.mh),(8,.mh)],boxes:=[(64,[])]})]
def ncd:Bool→ke:=(fun r0=>((true,[.bool r0]):ke))
def nmG (x:Rows) (nZ om:Int) (qi:Rows):St:= {n:=20,sl:=[(1,.ptr 64 0),(6,.sl [.str] x),(7,.int .i64 nZ),(8,.int .i64 om)],hp:=[(64,.box 59 [.sl [.str] qi])],ok:=true,ls:=[],lm:=[]}
theorem Tw:DA Tryz.prog 139 rQ:=by
 refine qh (A:=ncc) IU Tryz.func139 fun ds (hw:jI (nd.ct++[]) ds) _=> ?_
 obtain⟨m,ds,rfl,Vk,hw⟩:=nd.nB (r:=_) hw
 obtain rfl:=nm hw
 obtain⟨N,hN⟩:=npr Vm.jK ncd m Vk
 exact⟨N,eL (fun l_=>Ty Vm.jK ncd l_ m) (funext fun x=>funext fun nZ=>funext fun qi=>nL1 (KR Tryz.prog [] ncc N Tryz.f139 rQ [true,false,true,false] []) (fun om=>nmG x nZ om qi) _ N) hN⟩
def ndH:List (Nat×kW):=[(2, {bN:=[(1,.mh),(3,.mh)],boxes:=[(64,[])]})]
def ndI:Bool→ke:=(fun r0=>((true,[.bool r0]):ke))
def nok (k:Int) (qi:Rows):St:= {n:=22,sl:=[(1,.ptr 64 0),(3,.int .i64 k)],hp:=[(64,.box 59 [.sl [.str] qi])],ok:=true,ls:=[],lm:=[]}
theorem TZ:DA Tryz.prog 102 rQ:=by
 refine qh (A:=ndH) IU Tryz.func102 fun ds (hw:jI (nd.ct++[]) ds) _=> ?_
 obtain⟨m,ds,rfl,Vk,hw⟩:=nd.nB (r:=_) hw
 obtain rfl:=nm hw
 obtain⟨N,hN⟩:=nre Vm.jK ndI m Vk
 exact⟨N,eL (fun l_=>T0 Vm.jK ndI l_ m) (funext fun qi=>nL1 (KR Tryz.prog [] ndH N Tryz.f102 rQ [true,false,true,false] []) (fun k=>nok k qi) _ N) hN⟩
def tB:Sum:= {ps:=[⟨[.i],false⟩],rs:=[⟨[.dQ .bool],false⟩],fn:=fun ds=>(true,[.bool (vx (rI ds 0))])}
theorem TH:DA Tryz.prog 267 tB:=by
 refine nM IU Tryz.func267 fun ds (hw:jI ([.i]) ds) _=> ?_
 obtain⟨n,rfl,_⟩:=nt hw
 exact⟨0,eT (ncQ (fun r0=>((true,[.bool r0]):ke)) n)⟩
theorem Xb:DA Tryz.prog 252 tB:=by
 refine nM IU Tryz.func252 fun ds (hw:jI ([.i]) ds) _=> ?_
 obtain⟨n,rfl,_⟩:=nt hw
 exact⟨0,eT (ncQ (fun r0=>((true,[.bool r0]):ke)) n)⟩
def zZ:Sum:= {ps:=[⟨[.i],false⟩],rs:=[⟨[.dQ .bool],false⟩],fn:=fun ds=>(true,[.bool (na9 (rI ds 0))])}
theorem nmW:DA Tryz.prog 271 zZ:=by
 refine nM IU Tryz.func271 fun ds (hw:jI ([.i]) ds) _=> ?_
 obtain⟨n,rfl,_⟩:=nt hw
 exact⟨0,eT (ZC (fun r0=>((true,[.bool r0]):ke)) n)⟩
theorem ntR:DA Tryz.prog 255 zZ:=by
 refine nM IU Tryz.func255 fun ds (hw:jI ([.i]) ds) _=> ?_
 obtain⟨n,rfl,_⟩:=nt hw
 exact⟨0,eT (ZC (fun r0=>((true,[.bool r0]):ke)) n)⟩
def YP:Sum:= {ps:=[⟨[.i],false⟩,⟨[.i],false⟩],rs:=[⟨[.dQ .i],false⟩],fn:=fun ds=>(PQ (rI ds 0) (rI ds 1),[.int (nbz (rI ds 0) (rI ds 1))])}
theorem nh9:DA Tryz.prog 278 YP:=by
 refine nM IU Tryz.func278 fun ds (hw:jI ([.i,.i]) ds) aF=> ?_
 obtain⟨x,ds,rfl,_,hw⟩:=nX hw
 obtain⟨n,rfl,_⟩:=nt hw
 exact⟨0,eT (nuA Vm.jK (fun r0=>((true,[.int r0]):ke)) x n aF)⟩
def rU:Sum:= {ps:=[⟨ny.ct,true⟩],rs:=[⟨[.dQ .i],false⟩],fn:=fun ds=>(true,[.int (og (ny.na ds 0))])}
theorem OD:DA Tryz.prog 225 rU:=by
 refine nM (Γ:=[(267,tB),(278,YP)]) (Hx TH (Hx nh9 IU)) Tryz.func225 fun ds (hw:jI (ny.ct++[]) ds) _=> ?_
 obtain⟨r,ds,rfl,h_r,hw⟩:=ny.nB (r:=_) hw
 obtain rfl:=nm hw
 exact⟨0,eT (npy Vm.jK (fun r0=>((true,[.int r0]):ke)) r h_r)⟩
theorem O5:DA Tryz.prog 198 rU:=by
 refine nM (Γ:=[(252,tB)]) (Hx Xb IU) Tryz.func198 fun ds (hw:jI (ny.ct++[]) ds) _=> ?_
 obtain⟨r,ds,rfl,_,hw⟩:=ny.nB (r:=_) hw
 obtain rfl:=nm hw
 exact⟨0,eT (nrn (fun r0=>((true,[.int r0]):ke)) r)⟩
def rb:Sum:= {ps:=[⟨ny.ct,true⟩],rs:=[⟨[.dQ .bool],false⟩],fn:=fun ds=>(true,[.bool (pJ (ny.na ds 0))])}
theorem yv:DA Tryz.prog 213 rb:=by
 refine nM (Γ:=[(143,nG),(225,rU),(267,tB)]) (Hx oN (Hx OD (Hx TH IU))) Tryz.func213 fun ds (hw:jI (ny.ct++[]) ds) _=> ?_
 obtain⟨r,ds,rfl,_,hw⟩:=ny.nB (r:=_) hw
 obtain rfl:=nm hw
 exact⟨0,eT (nhX (fun r0=>((true,[.bool r0]):ke)) r)⟩
theorem yz:DA Tryz.prog 187 rb:=by
 refine nM (Γ:=[(106,nG),(198,rU),(252,tB)]) (Hx ph (Hx O5 (Hx Xb IU))) Tryz.func187 fun ds (hw:jI (ny.ct++[]) ds) _=> ?_
 obtain⟨r,ds,rfl,_,hw⟩:=ny.nB (r:=_) hw
 obtain rfl:=nm hw
 exact⟨0,eT (nhX (fun r0=>((true,[.bool r0]):ke)) r)⟩
def QA:Sum:= {ps:=[⟨nr.ct,true⟩],rs:=[⟨[.dQ .bool],false⟩],fn:=fun ds=>(true,[.bool (nrI (nr.na ds 0))])}
theorem nsj:DA Tryz.prog 214 QA:=by
 refine nM (Γ:=[(143,nG),(267,tB)]) (Hx oN (Hx TH IU)) Tryz.func214 fun ds (hw:jI (nr.ct++[]) ds) _=> ?_
 obtain⟨q,ds,rfl,_,hw⟩:=nr.nB (r:=_) hw
 obtain rfl:=nm hw
 exact⟨0,eT (neS (fun r0=>((true,[.bool r0]):ke)) q)⟩
theorem ntG:DA Tryz.prog 191 QA:=by
 refine nM (Γ:=[(106,nG),(252,tB)]) (Hx ph (Hx Xb IU)) Tryz.func191 fun ds (hw:jI (nr.ct++[]) ds) _=> ?_
 obtain⟨q,ds,rfl,_,hw⟩:=nr.nB (r:=_) hw
 obtain rfl:=nm hw
 exact⟨0,eT (neS (fun r0=>((true,[.bool r0]):ke)) q)⟩
def nbt:Sum:= {ps:=[⟨oc.ct,true⟩],rs:=[⟨[.dQ .bool],false⟩],fn:=fun ds=>(true,[.bool (due (oc.na ds 0))])}
theorem nxl:DA Tryz.prog 215 nbt:=by
 refine nM IU Tryz.func215 fun ds (hw:jI (oc.ct++[]) ds) _=> ?_
 obtain⟨v,ds,rfl,_,hw⟩:=oc.nB (r:=_) hw
 obtain rfl:=nm hw
 exact⟨0,eT (nst (fun r0=>((true,[.bool r0]):ke)) v)⟩
theorem nvt:DA Tryz.prog 193 nbt:=by
 refine nM IU Tryz.func193 fun ds (hw:jI (oc.ct++[]) ds) _=> ?_
 obtain⟨v,ds,rfl,_,hw⟩:=oc.nB (r:=_) hw
 obtain rfl:=nm hw
 exact⟨0,eT (nst (fun r0=>((true,[.bool r0]):ke)) v)⟩
def OK:Sum:= {ps:=[⟨oc.ct,true⟩],rs:=[⟨[.dQ .bool],false⟩],fn:=fun ds=>(true,[.bool (wg (oc.na ds 0))])}
theorem npM:DA Tryz.prog 146 OK:=by
 refine nM (Γ:=[(143,nG),(215,nbt)]) (Hx oN (Hx nxl IU)) Tryz.func146 fun ds (hw:jI (oc.ct++[]) ds) _=> ?_
 obtain⟨v,ds,rfl,_,hw⟩:=oc.nB (r:=_) hw
 obtain rfl:=nm hw
 exact⟨0,eT (ncB (fun r0=>((true,[.bool r0]):ke)) v)⟩
theorem nry:DA Tryz.prog 110 OK:=by
 refine nM (Γ:=[(106,nG),(193,nbt)]) (Hx ph (Hx nvt IU)) Tryz.func110 fun ds (hw:jI (oc.ct++[]) ds) _=> ?_
 obtain⟨v,ds,rfl,_,hw⟩:=oc.nB (r:=_) hw
 obtain rfl:=nm hw
 exact⟨0,eT (ncB (fun r0=>((true,[.bool r0]):ke)) v)⟩
def XG:Sum:= {ps:=[⟨nP.ct,true⟩],rs:=[⟨[.dQ .bool],false⟩],fn:=fun ds=>(true,[.bool (nkm (nP.na ds 0))])}
theorem nwS:DA Tryz.prog 144 XG:=by
 refine nM (Γ:=[(143,nG),(148,ru),(213,rb),(214,QA)]) (Hx oN (Hx zn (Hx yv (Hx nsj IU)))) Tryz.func144 fun ds (hw:jI (nP.ct++[]) ds) _=> ?_
 obtain⟨q,ds,rfl,_,hw⟩:=nP.nB (r:=_) hw
 obtain rfl:=nm hw
 exact⟨0,eT (noQ (fun r0=>((true,[.bool r0]):ke)) q)⟩
theorem nw6:DA Tryz.prog 108 XG:=by
 refine nM (Γ:=[(106,nG),(187,rb),(191,QA),(192,ru)]) (Hx ph (Hx yz (Hx ntG (Hx zD IU)))) Tryz.func108 fun ds (hw:jI (nP.ct++[]) ds) _=> ?_
 obtain⟨q,ds,rfl,_,hw⟩:=nP.nB (r:=_) hw
 obtain rfl:=nm hw
 exact⟨0,eT (noQ (fun r0=>((true,[.bool r0]):ke)) q)⟩
def SD:Sum:= {ps:=[⟨pF.ct,true⟩],rs:=[⟨[.dQ .bool],false⟩],fn:=fun ds=>(true,[.bool (RL (pF.na ds 0))])}
theorem nux:DA Tryz.prog 268 SD:=by
 refine nM (Γ:=[(143,nG)]) (Hx oN IU) Tryz.func268 fun ds (hw:jI (pF.ct++[]) ds) _=> ?_
 obtain⟨r,ds,rfl,_,hw⟩:=pF.nB (r:=_) hw
 obtain rfl:=nm hw
 exact⟨0,eT (nhY (fun r0=>((true,[.bool r0]):ke)) r)⟩
theorem nvr:DA Tryz.prog 253 SD:=by
 refine nM (Γ:=[(106,nG)]) (Hx ph IU) Tryz.func253 fun ds (hw:jI (pF.ct++[]) ds) _=> ?_
 obtain⟨r,ds,rfl,_,hw⟩:=pF.nB (r:=_) hw
 obtain rfl:=nm hw
 exact⟨0,eT (nhY (fun r0=>((true,[.bool r0]):ke)) r)⟩
def xj:Sum:= {ps:=[⟨[.sl [.i,.i,.i,.i,.i,.i,.i,.i,.i]],false⟩],rs:=[⟨[.dQ .bool],false⟩],fn:=fun ds=>(true,[.bool (U3 (rR ds 0))])}
def neV:Ctx:=[(268,SD)]
theorem nsm:bt Tryz.prog neV:=Hx nux IU
def neU:List (Nat×kW):=[(2, {bN:=[(0,.mh),(5,.mh),(6,.mh),(7,.mh)],boxes:=[]})]
def neW:Bool→ke:=(fun r0=>((true,[.bool r0]):ke))
def npz (list_ x:Rows) (nZ om:Int):St:= {n:=18,sl:=[(0,.sl [.i,.i,.i,.i,.i,.i,.i,.i,.i] list_),(5,.sl [.i,.i,.i,.i,.i,.i,.i,.i,.i] x),(6,.int .i64 nZ),(7,.int .i64 om)],hp:=[],ok:=true,ls:=[],lm:=[]}
theorem nsl:DA Tryz.prog 216 xj:=by
 refine qh (A:=neU) nsm Tryz.func216 fun ds (hw:jI ([.sl [.i,.i,.i,.i,.i,.i,.i,.i,.i]]) ds) _=> ?_
 obtain⟨list_,rfl,pg⟩:=oU hw
 obtain⟨N,hN⟩:=nsk Vm.jK neW list_ pg
 exact⟨N,eL (fun l_=>Vz Vm.jK neW l_ list_) (funext fun x=>funext fun nZ=>nL1 (KR Tryz.prog neV neU N Tryz.f216 xj [true,false,true,false] []) (npz list_ x nZ) _ N) hN⟩
def nf9:Ctx:=[(253,SD)]
theorem ntJ:bt Tryz.prog nf9:=Hx nvr IU
def nf8:List (Nat×kW):=[(2, {bN:=[(0,.mh),(3,.mh)],boxes:=[]})]
def nf_:Bool→ke:=(fun r0=>((true,[.bool r0]):ke))
def nro (list_:Rows) (k:Int):St:= {n:=19,sl:=[(0,.sl [.i,.i,.i,.i,.i,.i,.i,.i,.i] list_),(3,.int .i64 k)],hp:=[],ok:=true,ls:=[],lm:=[]}
theorem ntI:DA Tryz.prog 188 xj:=by
 refine qh (A:=nf8) ntJ Tryz.func188 fun ds (hw:jI ([.sl [.i,.i,.i,.i,.i,.i,.i,.i,.i]]) ds) _=> ?_
 obtain⟨list_,rfl,pg⟩:=oU hw
 obtain⟨N,hN⟩:=ntH Vm.jK nf_ list_ pg
 exact⟨N,eL (fun l_=>WV Vm.jK nf_ l_ list_) (nL1 (KR Tryz.prog nf9 nf8 N Tryz.f188 xj [true,false,true,false] []) (nro list_) _ N) hN⟩
def vY:Sum:= {ps:=[⟨[.sl [.i]],false⟩],rs:=[⟨[.own 3 [.i]],false⟩],fn:=fun ds=>(sm (rR ds 0),[.sl (oQ (rR ds 0))])}
theorem yl:DA Tryz.prog 138 vY:=by
 refine nM IU Tryz.func138 fun ds (hw:jI ([.sl [.i]]) ds) aF=> ?_
 obtain⟨l,rfl,_⟩:=oU hw
 exact⟨0,eT (npQ Vm.jK (fun r0=>((true,[.sl r0]):ke)) l aF)⟩
def tA:Sum:= {ps:=[⟨nE.ct,true⟩],rs:=[⟨[.dQ .i,.dQ .i,.dQ .i,.own 3 [.i]],true⟩],fn:=fun ds=>(QZ (nE.na ds 0),nE.enc (oQ (nE.na ds 0)))}
theorem TF:DA Tryz.prog 133 tA:=by
 refine nM (Γ:=[(138,vY)]) (Hx yl IU) Tryz.func133 fun ds (hw:jI (nE.ct++[]) ds) aF=> ?_
 obtain⟨p,ds,rfl,_,hw⟩:=nE.nB (r:=_) hw
 obtain rfl:=nm hw
 exact⟨0,eT (npR Vm.jK (fun r0=>((true,nE.enc r0):ke)) p aF)⟩
theorem Xc:DA Tryz.prog 99 tA:=by
 refine nM IU Tryz.func99 fun ds (hw:jI (nE.ct++[]) ds) aF=> ?_
 obtain⟨p,ds,rfl,_,hw⟩:=nE.nB (r:=_) hw
 obtain rfl:=nm hw
 exact⟨0,eT (nt5 Vm.jK (fun r0=>((true,nE.enc r0):ke)) p aF)⟩
def sP:Sum:= {ps:=[⟨nE.ct,true⟩],rs:=[⟨[.dQ .bool],false⟩],fn:=fun ds=>(true,[.bool (sg (nE.na ds 0))])}
def nhU:Ctx:=[(143,nG)]
theorem nuw:bt Tryz.prog nhU:=Hx oN IU
def nhT:List (Nat×kW):=[(5, {bN:=[(1,.mh),(3,.mh),(26,.mh),(27,.mh),(28,.mh)],boxes:=[(64,[])]})]
def nhV:Bool→ke:=(fun r0=>((true,[.bool r0]):ke))
def nsi (x:Rows) (nZ om p_1 p_2 PT:Int) (RD seen:Rows):St:= {n:=48,sl:=[(1,.ptr 64 0),(3,.own 640192),(26,.sl [.i] x),(27,.int .i64 nZ),(28,.int .i64 om)],hp:=[(64,.box 62 [.int .i64 p_1,.int .i64 p_2,.int .i64 PT,.sl [.i] RD]),(640192,.row 4 [.bool] seen false true)],ok:=true,ls:=[],lm:=[]}
theorem YL:DA Tryz.prog 145 sP:=by
 refine qh (A:=nhT) nuw Tryz.func145 fun ds (hw:jI (nE.ct++[]) ds) _=> ?_
 obtain⟨p,ds,rfl,h_p,hw⟩:=nE.nB (r:=_) hw
 obtain rfl:=nm hw
 obtain⟨N,hN⟩:=nuv Vm.jK nhV p h_p
 exact⟨N,eL (fun l_=>YM Vm.jK nhV l_ p) (funext fun x=>funext fun nZ=>funext fun PT=>Tm (KR Tryz.prog nhU nhT N Tryz.f145 sP [true,true,true,false,true,false] []) (fun om seen=>nsi x nZ om p.oR p.nR PT p.py seen) _ N) hN⟩
def niS:Ctx:=[(106,nG)]
theorem nvq:bt Tryz.prog niS:=Hx ph IU
def niR:List (Nat×kW):=[(5, {bN:=[(1,.mh),(3,.mh),(4,.mh)],boxes:=[(64,[])]})]
def niT:Bool→ke:=(fun r0=>((true,[.bool r0]):ke))
def ntF (k p_1 p_2 PT:Int) (RD seen:Rows):St:= {n:=58,sl:=[(1,.ptr 64 0),(3,.own 640192),(4,.int .i64 k)],hp:=[(64,.box 62 [.int .i64 p_1,.int .i64 p_2,.int .i64 PT,.sl [.i] RD]),(640192,.row 4 [.bool] seen false true)],ok:=true,ls:=[],lm:=[]}
theorem Zc:DA Tryz.prog 109 sP:=by
 refine qh (A:=niR) nvq Tryz.func109 fun ds (hw:jI (nE.ct++[]) ds) _=> ?_
 obtain⟨p,ds,rfl,h_p,hw⟩:=nE.nB (r:=_) hw
 obtain rfl:=nm hw
 obtain⟨N,hN⟩:=nvp Vm.jK niT p h_p
 exact⟨N,eL (fun l_=>Zd Vm.jK niT l_ p) (funext fun PT=>funext fun RD=>Tm (KR Tryz.prog niS niR N Tryz.f109 sP [true,true,true,false,true,false] []) (fun k seen=>ntF k p.oR p.nR PT RD seen) _ N) hN⟩
def tT:Sum:= {ps:=[⟨nE.ct,true⟩,⟨[.sl [.i]],false⟩],rs:=[⟨[.dQ .i,.dQ .i,.dQ .i,.own 3 [.i]],true⟩,⟨[.dQ .bool],false⟩],fn:=fun ds=>(Qc (nE.na ds 0) (rR ds 4),nE.enc (pK (nE.na ds 0) (rR ds 4)).1++[.bool (pK (nE.na ds 0) (rR ds 4)).2])}
theorem Vu:DA Tryz.prog 181 tT:=by
 refine nM (Γ:=[(133,tA),(145,sP)]) (Hx TF (Hx YL IU)) Tryz.func181 fun ds (hw:jI (nE.ct++[.sl [.i]]) ds) aF=> ?_
 obtain⟨p,ds,rfl,_,hw⟩:=nE.nB (r:=_) hw
 obtain⟨list_,rfl,_⟩:=oU hw
 exact⟨0,eT (Vt Vm.jK (fun r0 r1=>((true,nE.enc r0++[.bool r1]):ke)) p list_ aF)⟩
theorem WR:DA Tryz.prog 179 tT:=by
 refine nM (Γ:=[(99,tA),(109,sP)]) (Hx Xc (Hx Zc IU)) Tryz.func179 fun ds (hw:jI (nE.ct++[.sl [.i]]) ds) aF=> ?_
 obtain⟨p,ds,rfl,_,hw⟩:=nE.nB (r:=_) hw
 obtain⟨list_,rfl,_⟩:=oU hw
 exact⟨0,eT (Vt Vm.jK (fun r0 r1=>((true,nE.enc r0++[.bool r1]):ke)) p list_ aF)⟩
def X5:Sum:= {ps:=[⟨nd.ct,true⟩,⟨[.i],false⟩],rs:=[⟨[.dQ .i],false⟩],fn:=fun ds=>(Ok (nd.na ds 0) (rI ds 1),[.int (xW (nd.na ds 0) (rI ds 1)).1]++[.sl (xW (nd.na ds 0) (rI ds 1)).2]),ms:=[some (.rows [.flat 9]),none]}
def nlt:Ctx:=[(72,xR)]
theorem nlw:bt Tryz.prog nlt:=Hx Wo IU
theorem nlv:BO Tryz.prog 62 X5:=by
 refine Qd (A:=[]) nlw Tryz.func62 fun ds (hw:jI (nd.ct++[.i]) ds) aF=> ?_
 obtain⟨a,ds,rfl,_,hw⟩:=nd.nB (r:=_) hw
 obtain⟨k,rfl,_⟩:=nt hw
 exact⟨0,eT (nlu Vm.jK (fun r0 r1=>((true,[.int r0]++[.sl r1]):ke)) a k aF)⟩
def X2:Sum:= {ps:=[⟨nd.ct,true⟩,⟨[.i],false⟩],rs:=[⟨[.dQ .i],false⟩],fn:=fun ds=>(N0 (nd.na ds 0) (rI ds 1),[.int (Pn (nd.na ds 0) (rI ds 1))])}
theorem nlh:DA Tryz.prog 74 X2:=by
 refine nM (Γ:=[(84,xQ)]) (Hx Wc IU) Tryz.func74 fun ds (hw:jI (nd.ct++[.i]) ds) aF=> ?_
 obtain⟨a,ds,rfl,_,hw⟩:=nd.nB (r:=_) hw
 obtain⟨k,rfl,_⟩:=nt hw
 exact⟨0,eT (nlg Vm.jK (fun r0=>((true,[.int r0]):ke)) a k aF)⟩
def ndc:Sum:= {ps:=[⟨nE.ct,true⟩,⟨[.i],false⟩],rs:=[⟨[.dQ .i],false⟩],fn:=fun ds=>(S9 (nE.na ds 0) (rI ds 4),[.int (QW (nE.na ds 0) (rI ds 4)).1]++[.sl (QW (nE.na ds 0) (rI ds 4)).2]),ms:=[some (.rows [.flat 3]),none]}
def nqm:Ctx:=[(73,tD)]
theorem nqp:bt Tryz.prog nqm:=Hx v7 IU
theorem nqo:BO Tryz.prog 167 ndc:=by
 refine Qd (A:=[]) nqp Tryz.func167 fun ds (hw:jI (nE.ct++[.i]) ds) aF=> ?_
 obtain⟨a,ds,rfl,_,hw⟩:=nE.nB (r:=_) hw
 obtain⟨k,rfl,_⟩:=nt hw
 exact⟨0,eT (nqn Vm.jK (fun r0 r1=>((true,[.int r0]++[.sl r1]):ke)) a k aF)⟩
def nc8:Sum:= {ps:=[⟨nE.ct,true⟩,⟨[.i],false⟩],rs:=[⟨[.dQ .i],false⟩],fn:=fun ds=>(SY (nE.na ds 0) (rI ds 4),[.int (Vn (nE.na ds 0) (rI ds 4))])}
theorem nqg:DA Tryz.prog 173 nc8:=by
 refine nM (Γ:=[(85,tC)]) (Hx vZ IU) Tryz.func173 fun ds (hw:jI (nE.ct++[.i]) ds) aF=> ?_
 obtain⟨a,ds,rfl,_,hw⟩:=nE.nB (r:=_) hw
 obtain⟨k,rfl,_⟩:=nt hw
 exact⟨0,eT (nqf Vm.jK (fun r0=>((true,[.int r0]):ke)) a k aF)⟩
def X4:Sum:= {ps:=[⟨nH.ct,true⟩,⟨[.i],false⟩],rs:=[⟨[.dQ .i],false⟩],fn:=fun ds=>(Oj (nH.na ds 0) (rI ds 3),[.int (Py (nH.na ds 0) (rI ds 3)).1]++[.sl (Py (nH.na ds 0) (rI ds 3)).2]),ms:=[some (.rows [.flat 3]),none]}
def nlp:Ctx:=[(73,tD)]
theorem nls:bt Tryz.prog nlp:=Hx v7 IU
theorem nlr:BO Tryz.prog 69 X4:=by
 refine Qd (A:=[]) nls Tryz.func69 fun ds (hw:jI (nH.ct++[.i]) ds) aF=> ?_
 obtain⟨a,ds,rfl,_,hw⟩:=nH.nB (r:=_) hw
 obtain⟨k,rfl,_⟩:=nt hw
 exact⟨0,eT (nlq Vm.jK (fun r0 r1=>((true,[.int r0]++[.sl r1]):ke)) a k aF)⟩
def X1:Sum:= {ps:=[⟨nH.ct,true⟩,⟨[.i],false⟩],rs:=[⟨[.dQ .i],false⟩],fn:=fun ds=>(NY (nH.na ds 0) (rI ds 3),[.int (Vl (nH.na ds 0) (rI ds 3))])}
theorem nlf:DA Tryz.prog 81 X1:=by
 refine nM (Γ:=[(85,tC)]) (Hx vZ IU) Tryz.func81 fun ds (hw:jI (nH.ct++[.i]) ds) aF=> ?_
 obtain⟨a,ds,rfl,_,hw⟩:=nH.nB (r:=_) hw
 obtain⟨k,rfl,_⟩:=nt hw
 exact⟨0,eT (nle Vm.jK (fun r0=>((true,[.int r0]):ke)) a k aF)⟩
def S7:Sum:= {ps:=[⟨nh.ct,true⟩,⟨[.i],false⟩],rs:=[⟨[.dQ .i],false⟩],fn:=fun ds=>(xp (nh.na ds 0) (rI ds 1),[.int (wS (nh.na ds 0) (rI ds 1)).1]++[.sl (wS (nh.na ds 0) (rI ds 1)).2]),ms:=[some (.rows [.flat 262]),none]}
def nfn:Ctx:=[(238,R_)]
theorem nfq:bt Tryz.prog nfn:=Hx nnA IU
theorem nfp:BO Tryz.prog 171 S7:=by
 refine Qd (A:=[]) nfq Tryz.func171 fun ds (hw:jI (nh.ct++[.i]) ds) aF=> ?_
 obtain⟨a,ds,rfl,_,hw⟩:=nh.nB (r:=_) hw
 obtain⟨k,rfl,_⟩:=nt hw
 exact⟨0,eT (nfo Vm.jK (fun r0 r1=>((true,[.int r0]++[.sl r1]):ke)) a k aF)⟩
def S6:Sum:= {ps:=[⟨nh.ct,true⟩,⟨[.i],false⟩],rs:=[⟨[.dQ .i],false⟩],fn:=fun ds=>(xg (nh.na ds 0) (rI ds 1),[.int (NZ (nh.na ds 0) (rI ds 1))])}
theorem nfk:DA Tryz.prog 176 S6:=by
 refine nM (Γ:=[(239,R2)]) (Hx nnn IU) Tryz.func176 fun ds (hw:jI (nh.ct++[.i]) ds) aF=> ?_
 obtain⟨a,ds,rfl,_,hw⟩:=nh.nB (r:=_) hw
 obtain⟨k,rfl,_⟩:=nt hw
 exact⟨0,eT (nfj Vm.jK (fun r0=>((true,[.int r0]):ke)) a k aF)⟩
def X6:Sum:= {ps:=[⟨nJ.ct,true⟩,⟨[.i],false⟩],rs:=[⟨[.dQ .i],false⟩],fn:=fun ds=>(Ol (nJ.na ds 0) (rI ds 2),[.int (Pz (nJ.na ds 0) (rI ds 2)).1]++[.sl (Pz (nJ.na ds 0) (rI ds 2)).2]),ms:=[some (.rows [.flat 3]),none]}
def nlB:Ctx:=[(73,tD)]
theorem nlE:bt Tryz.prog nlB:=Hx v7 IU
theorem nlD:BO Tryz.prog 172 X6:=by
 refine Qd (A:=[]) nlE Tryz.func172 fun ds (hw:jI (nJ.ct++[.i]) ds) aF=> ?_
 obtain⟨a,ds,rfl,_,hw⟩:=nJ.nB (r:=_) hw
 obtain⟨k,rfl,_⟩:=nt hw
 exact⟨0,eT (nlC Vm.jK (fun r0 r1=>((true,[.int r0]++[.sl r1]):ke)) a k aF)⟩
def X3:Sum:= {ps:=[⟨nJ.ct,true⟩,⟨[.i],false⟩],rs:=[⟨[.dQ .i],false⟩],fn:=fun ds=>(N3 (nJ.na ds 0) (rI ds 2),[.int (Vo (nJ.na ds 0) (rI ds 2))])}
theorem nln:DA Tryz.prog 177 X3:=by
 refine nM (Γ:=[(85,tC)]) (Hx vZ IU) Tryz.func177 fun ds (hw:jI (nJ.ct++[.i]) ds) aF=> ?_
 obtain⟨a,ds,rfl,_,hw⟩:=nJ.nB (r:=_) hw
 obtain⟨k,rfl,_⟩:=nt hw
 exact⟨0,eT (nlm Vm.jK (fun r0=>((true,[.int r0]):ke)) a k aF)⟩
def Wq:Sum:= {ps:=[⟨ng.ct,true⟩,⟨[.i],false⟩],rs:=[⟨[.dQ .i],false⟩],fn:=fun ds=>(zu (ng.na ds 0) (rI ds 10),[.int (wG (ng.na ds 0) (rI ds 10)).1]++[.sl (wG (ng.na ds 0) (rI ds 10)).2.1]++[.sl (wG (ng.na ds 0) (rI ds 10)).2.2]),ms:=[some (.rows [.flat 3,.deep 207 [3]]),none]}
def njD:Ctx:=[(167,ndc),(168,R8)]
theorem njG:bt Tryz.prog njD:=Hx nqo (Hx nnx IU)
theorem njF:BO Tryz.prog 64 Wq:=by
 refine Qd (A:=[]) njG Tryz.func64 fun ds (hw:jI (ng.ct++[.i]) ds) aF=> ?_
 obtain⟨a,ds,rfl,_,hw⟩:=ng.nB (r:=_) hw
 obtain⟨k,rfl,_⟩:=nt hw
 exact⟨0,eT (njE Vm.jK (fun r0 r1 r2=>((true,[.int r0]++[.sl r1]++[.sl r2]):ke)) a k aF)⟩
def Wd:Sum:= {ps:=[⟨ng.ct,true⟩,⟨[.i],false⟩],rs:=[⟨[.dQ .i],false⟩],fn:=fun ds=>(zj (ng.na ds 0) (rI ds 10),[.int (S0 (ng.na ds 0) (rI ds 10))])}
theorem njv:DA Tryz.prog 76 Wd:=by
 refine nM (Γ:=[(173,nc8),(174,R0)]) (Hx nqg (Hx nnk IU)) Tryz.func76 fun ds (hw:jI (ng.ct++[.i]) ds) aF=> ?_
 obtain⟨a,ds,rfl,_,hw⟩:=ng.nB (r:=_) hw
 obtain⟨k,rfl,_⟩:=nt hw
 exact⟨0,eT (nju Vm.jK (fun r0=>((true,[.int r0]):ke)) a k aF)⟩
def UM:Sum:= {ps:=[⟨nj.ct,true⟩,⟨[.i],false⟩],rs:=[⟨[.dQ .i],false⟩],fn:=fun ds=>(yr (nj.na ds 0) (rI ds 4),[.int (th (nj.na ds 0) (rI ds 4)).1]++[.sl (th (nj.na ds 0) (rI ds 4)).2.1]++[.sl (th (nj.na ds 0) (rI ds 4)).2.2.1]++[.sl (th (nj.na ds 0) (rI ds 4)).2.2.2]),ms:=[some (.rows [.flat 260,.flat 262,.flat 3]),none]}
def nhx:Ctx:=[(170,R7),(171,S7),(172,X6)]
theorem nhA:bt Tryz.prog nhx:=Hx nnv (Hx nfp (Hx nlD IU))
theorem nhz:BO Tryz.prog 70 UM:=by
 refine Qd (A:=[]) nhA Tryz.func70 fun ds (hw:jI (nj.ct++[.i]) ds) aF=> ?_
 obtain⟨a,ds,rfl,_,hw⟩:=nj.nB (r:=_) hw
 obtain⟨k,rfl,_⟩:=nt hw
 exact⟨0,eT (nhy Vm.jK (fun r0 r1 r2 r3=>((true,[.int r0]++[.sl r1]++[.sl r2]++[.sl r3]):ke)) a k aF)⟩
def UD:Sum:= {ps:=[⟨nj.ct,true⟩,⟨[.i],false⟩],rs:=[⟨[.dQ .i],false⟩],fn:=fun ds=>(yh (nj.na ds 0) (rI ds 4),[.int (Qi (nj.na ds 0) (rI ds 4))])}
theorem nho:DA Tryz.prog 82 UD:=by
 refine nM (Γ:=[(175,RZ),(176,S6),(177,X3)]) (Hx nni (Hx nfk (Hx nln IU))) Tryz.func82 fun ds (hw:jI (nj.ct++[.i]) ds) aF=> ?_
 obtain⟨a,ds,rfl,_,hw⟩:=nj.nB (r:=_) hw
 obtain⟨k,rfl,_⟩:=nt hw
 exact⟨0,eT (nhn Vm.jK (fun r0=>((true,[.int r0]):ke)) a k aF)⟩
def nc9:Sum:= {ps:=[⟨nx.ct,true⟩,⟨[.i],false⟩],rs:=[⟨[.dQ .i],false⟩],fn:=fun ds=>(zt (nx.na ds 0) (rI ds 33),[.int (oL (nx.na ds 0) (rI ds 33)).1]++[.sl (oL (nx.na ds 0) (rI ds 33)).2.1]++[.sl (oL (nx.na ds 0) (rI ds 33)).2.2.1]++[.sl (oL (nx.na ds 0) (rI ds 33)).2.2.2.1]++[.sl (oL (nx.na ds 0) (rI ds 33)).2.2.2.2.1]++[.sl (oL (nx.na ds 0) (rI ds 33)).2.2.2.2.2.1]++[.sl (oL (nx.na ds 0) (rI ds 33)).2.2.2.2.2.2.1]++[.sl (oL (nx.na ds 0) (rI ds 33)).2.2.2.2.2.2.2.1]++[.sl (oL (nx.na ds 0) (rI ds 33)).2.2.2.2.2.2.2.2.1]++[.sl (oL (nx.na ds 0) (rI ds 33)).2.2.2.2.2.2.2.2.2.1]++[.sl (oL (nx.na ds 0) (rI ds 33)).2.2.2.2.2.2.2.2.2.2.1]++[.sl (oL (nx.na ds 0) (rI ds 33)).2.2.2.2.2.2.2.2.2.2.2.1]++[.sl (oL (nx.na ds 0) (rI ds 33)).2.2.2.2.2.2.2.2.2.2.2.2.1]++[.sl (oL (nx.na ds 0) (rI ds 33)).2.2.2.2.2.2.2.2.2.2.2.2.2.1]++[.sl (oL (nx.na ds 0) (rI ds 33)).2.2.2.2.2.2.2.2.2.2.2.2.2.2.1]++[.sl (oL (nx.na ds 0) (rI ds 33)).2.2.2.2.2.2.2.2.2.2.2.2.2.2.2.1]++[.sl (oL (nx.na ds 0) (rI ds 33)).2.2.2.2.2.2.2.2.2.2.2.2.2.2.2.2]),ms:=[some (.rows [.flat 9,.flat 209,.flat 3,.deep 207 [3],.flat 182,.deep 62 [3],.flat 186,.flat 4,.flat 3,.flat 260,.flat 262,.flat 3,.flat 223,.flat 9,.flat 3,.flat 3]),none]}
def nqh:Ctx:=[(62,X5),(63,NM),(64,Wq),(65,NN),(66,R5),(67,Pw),(68,R3),(69,X4),(70,UM),(71,Pu),(72,xR),(73,tD)]
theorem nqk:bt Tryz.prog nqh:=Hx nlv (Hx nht (Hx njF (Hx nhv (Hx nns (Hx njI (Hx nnp (Hx nlr (Hx nhz (Hx njz (Hx Wo (Hx v7 IU)))))))))))
theorem nqj:BO Tryz.prog 12 nc9:=by
 refine Qd (A:=[]) nqk Tryz.func12 fun ds (hw:jI (nx.ct++[.i]) ds) aF=> ?_
 obtain⟨a,ds,rfl,_,hw⟩:=nx.nB (r:=_) hw
 obtain⟨k,rfl,_⟩:=nt hw
 exact⟨0,eT (nqi Vm.jK (fun r0 r1 r2 r3 r4 r5 r6 r7 r8 r9 r10 r11 r12 r13 r14 r15 r16=>((true,[.int r0]++[.sl r1]++[.sl r2]++[.sl r3]++[.sl r4]++[.sl r5]++[.sl r6]++[.sl r7]++[.sl r8]++[.sl r9]++[.sl r10]++[.sl r11]++[.sl r12]++[.sl r13]++[.sl r14]++[.sl r15]++[.sl r16]):ke)) a k aF)⟩
def nc4:Sum:= {ps:=[⟨nx.ct,true⟩,⟨[.i],false⟩],rs:=[⟨[.dQ .i],false⟩],fn:=fun ds=>(PI (nx.na ds 0) (rI ds 33),[.int (Zh (nx.na ds 0) (rI ds 33))])}
theorem nqd:DA Tryz.prog 13 nc4:=by
 refine nM (Γ:=[(74,X2),(75,NK),(76,Wd),(77,NL),(78,RX),(79,Pt),(80,RV),(81,X1),(82,UD),(83,Pr),(84,xQ),(85,tC)]) (Hx nlh (Hx nhj (Hx njv (Hx nhl (Hx nnf (Hx njx (Hx nnc (Hx nlf (Hx nho (Hx njq (Hx Wc (Hx vZ IU)))))))))))) Tryz.func13 fun ds (hw:jI (nx.ct++[.i]) ds) aF=> ?_
 obtain⟨a,ds,rfl,_,hw⟩:=nx.nB (r:=_) hw
 obtain⟨k,rfl,_⟩:=nt hw
 exact⟨0,eT (nqc Vm.jK (fun r0=>((true,[.int r0]):ke)) a k aF)⟩
def xx:Sum:= {ps:=[⟨ng.ct,true⟩],rs:=[⟨[.dQ .bool],false⟩],fn:=fun ds=>(NX (ng.na ds 0),[.bool (To (ng.na ds 0))])}
def noU:Ctx:=[(143,nG),(145,sP),(181,tT),(213,rb)]
theorem nwU:bt Tryz.prog noU:=Hx oN (Hx YL (Hx Vu (Hx yv IU)))
def noS:List (Nat×kW):=[(6, {bN:=[(1,.mh),(3,.mh),(4,.mh),(30,.mh),(31,.mh),(32,.mh)],boxes:=[(64,[])]})]
def noV:Bool→ke:=(fun r0=>((true,[.bool r0]):ke))
def nv8 (left:Int) (x:Rows) (nZ om q_1 q_2 q_3 q_4 q_5 q_6 q_7:Int) (q_8 yg:Rows) (nwi:Int) (all:Rows):St:= {n:=68,sl:=[(1,.ptr 64 0),(3,.int .i64 left),(4,.own 640256),(30,.sl [.i,.i,.sl [.i]] x),(31,.int .i64 nZ),(32,.int .i64 om)],hp:=[(64,.box 65 [.int .i64 q_1,.int .i64 q_2,.int .i64 q_3,.int .i64 q_4,.int .i64 q_5,.int .i64 q_6,.int .i64 q_7,.sl [.i] q_8,.sl [.i,.i,.sl [.i]] yg,.int .i64 nwi]),(640256,.row 3 [.i] all false true)],ok:=true,ls:=[],lm:=[]}
theorem noX:DA Tryz.prog 141 xx:=by
 refine qh (A:=noS) nwU Tryz.func141 fun ds (hw:jI (ng.ct++[]) ds) aF=> ?_
 obtain⟨q,ds,rfl,h_q,hw⟩:=ng.nB (r:=_) hw
 obtain rfl:=nm hw
 obtain⟨N,hN⟩:=nwT Vm.jK noV q h_q aF
 exact⟨N,eL (fun l_=>neZ Vm.jK noV l_ q) (funext fun x=>funext fun nZ=>funext fun q_5=>funext fun q_6=>funext fun q_7=>funext fun q_8=>nL3 (KR Tryz.prog noU noS N Tryz.f141 xx [true,true,true,true,false,true,false] []) (fun left om all=>nv8 left x nZ om q.Ring.oR q.Ring.nR q.Ring.Head q.Ring.pV q_5 q_6 q_7 q_8 q.ni q.Next all) _ N) hN⟩
def no4:Ctx:=[(106,nG),(109,sP),(179,tT),(187,rb)]
theorem nw8:bt Tryz.prog no4:=Hx ph (Hx Zc (Hx WR (Hx yz IU)))
def no3:List (Nat×kW):=[(6, {bN:=[(1,.mh),(3,.mh),(4,.mh),(5,.mh)],boxes:=[(64,[])]})]
def no5:Bool→ke:=(fun r0=>((true,[.bool r0]):ke))
def nws (bN k q_1 q_2 q_3 q_4 q_5 q_6 q_7:Int) (q_8 yg:Rows) (nwi:Int) (all:Rows):St:= {n:=74,sl:=[(1,.ptr 64 0),(3,.int .i64 bN),(4,.own 640256),(5,.int .i64 k)],hp:=[(64,.box 65 [.int .i64 q_1,.int .i64 q_2,.int .i64 q_3,.int .i64 q_4,.int .i64 q_5,.int .i64 q_6,.int .i64 q_7,.sl [.i] q_8,.sl [.i,.i,.sl [.i]] yg,.int .i64 nwi]),(640256,.row 3 [.i] all false true)],ok:=true,ls:=[],lm:=[]}
theorem no7:DA Tryz.prog 104 xx:=by
 refine qh (A:=no3) nw8 Tryz.func104 fun ds (hw:jI (ng.ct++[]) ds) aF=> ?_
 obtain⟨q,ds,rfl,h_q,hw⟩:=ng.nB (r:=_) hw
 obtain rfl:=nm hw
 obtain⟨N,hN⟩:=nw7 Vm.jK no5 q h_q aF
 exact⟨N,eL (fun l_=>ngh Vm.jK no5 l_ q) (funext fun q_2=>funext fun q_5=>funext fun q_6=>funext fun q_7=>funext fun q_8=>funext fun yg=>nL3 (KR Tryz.prog no4 no3 N Tryz.f104 xx [true,true,true,true,false,true,false] []) (fun bN k all=>nws bN k q.Ring.oR q_2 q.Ring.Head q.Ring.pV q_5 q_6 q_7 q_8 yg q.Next all) _ N) hN⟩
def vU:Sum:= {ps:=[⟨nS.ct,true⟩],rs:=[⟨[.dQ .i],false⟩],fn:=fun ds=>(true,[.int (qP (nS.na ds 0))])}
def nb8:Ctx:=[(278,YP)]
theorem npp:bt Tryz.prog nb8:=Hx nh9 IU
def nb7:List (Nat×kW):=[(3, {bN:=[(3,.mh),(16,.mh),(17,.mh),(18,.mh)],boxes:=[(64,[])]})]
def nb9:Int→ke:=(fun r0=>((true,[.int r0]):ke))
def nmF (n x nZ yA Tp wW Vi Vj:Int) (om:Rows):St:= {n:=29,sl:=[(3,.int .i64 n),(16,.own 641024),(17,.int .i64 x),(18,.int .i64 nZ)],hp:=[(64,.box 221 [.int .i64 yA,.int .i64 Tp,.int .i64 wW,.int .i64 Vi,.int .i64 Vj]),(641024,.row 3 [.i] om false true)],ok:=true,ls:=[],lm:=[]}
theorem npo:DA Tryz.prog 314 vU:=by
 refine qh (A:=nb7) npp Tryz.func314 fun ds (hw:jI (nS.ct++[]) ds) _=> ?_
 obtain⟨f,ds,rfl,h_f,hw⟩:=nS.nB (r:=_) hw
 obtain rfl:=nm hw
 obtain⟨N,hN⟩:=npn Vm.jK nb9 f h_f
 exact⟨N,eL (fun l_=>Tv Vm.jK nb9 l_ f) (funext fun x=>funext fun om=>Tm (KR Tryz.prog nb8 nb7 N Tryz.f314 vU [true,true,false,true,false] []) (fun n nZ=>nmF n x nZ f.Kind f.qC f.rl f.oX f.oW om) _ N) hN⟩
def ndE:List (Nat×kW):=[(4, {bN:=[(3,.mh),(4,.mh),(5,.mh)],boxes:=[(64,[])]})]
def ndF:Int→ke:=(fun r0=>((true,[.int r0]):ke))
def noj (n k yA Tp wW Vi Vj:Int) (list_:Rows):St:= {n:=32,sl:=[(3,.int .i64 n),(4,.own 640256),(5,.int .i64 k)],hp:=[(64,.box 221 [.int .i64 yA,.int .i64 Tp,.int .i64 wW,.int .i64 Vi,.int .i64 Vj]),(640256,.row 3 [.i] list_ false true)],ok:=true,ls:=[],lm:=[]}
theorem nrc:DA Tryz.prog 307 vU:=by
 refine qh (A:=ndE) IU Tryz.func307 fun ds (hw:jI (nS.ct++[]) ds) _=> ?_
 obtain⟨f,ds,rfl,h_f,hw⟩:=nS.nB (r:=_) hw
 obtain rfl:=nm hw
 obtain⟨N,hN⟩:=nrb Vm.jK ndF f h_f
 exact⟨N,eL (fun l_=>TY Vm.jK ndF l_ f) (funext fun list_=>Tm (KR Tryz.prog [] ndE N Tryz.f307 vU [true,true,true,false,true,false] []) (fun n k=>noj n k f.Kind f.qC f.rl f.oX f.oW list_) _ N) hN⟩
def YU:Sum:= {ps:=[⟨nh.ct,true⟩,⟨nS.ct,true⟩],rs:=[⟨[.dQ .i],false⟩],fn:=fun ds=>(true,[.int (njW (nh.na ds 0) (nS.na ds 1))])}
def nih:List (Nat×kW):=[(2, {bN:=[(3,.mh),(8,.mh),(9,.mh),(10,.mh)],boxes:=[(128,[]),(192,[])]})]
def nii:Int→ke:=(fun r0=>((true,[.int r0]):ke))
def nsx (x:Rows) (nZ om:Int) (u_:Rows) (yA Tp wW Vi Vj:Int):St:= {n:=26,sl:=[(3,.ptr 192 0),(8,.sl [.i,.i,.i,.i,.i,.i,.i] x),(9,.int .i64 nZ),(10,.int .i64 om)],hp:=[(128,.box 73 [.sl [.i,.i,.i,.i,.i,.i,.i] u_]),(192,.box 221 [.int .i64 yA,.int .i64 Tp,.int .i64 wW,.int .i64 Vi,.int .i64 Vj])],ok:=true,ls:=[],lm:=[]}
theorem nuH:DA Tryz.prog 269 YU:=by
 refine qh (A:=nih) IU Tryz.func269 fun ds (hw:jI (nh.ct++(nS.ct++[])) ds) _=> ?_
 obtain⟨t,ds,rfl,h_t,hw⟩:=nh.nB (r:=_) hw
 obtain⟨f,ds,rfl,_,hw⟩:=nS.nB (r:=_) hw
 obtain rfl:=nm hw
 obtain⟨N,hN⟩:=nuG Vm.jK nii t f h_t
 exact⟨N,eL (fun l_=>YV Vm.jK nii l_ t f) (funext fun x=>funext fun nZ=>funext fun yA=>funext fun Tp=>funext fun wW=>funext fun Vi=>funext fun Vj=>nL1 (KR Tryz.prog [] nih N Tryz.f269 YU [true,false,true,false] []) (fun om=>nsx x nZ om t.nI yA Tp wW Vi Vj) _ N) hN⟩
def W6:Sum:= {ps:=[⟨nh.ct,true⟩,⟨nS.ct,true⟩],rs:=[⟨[.dQ .i],false⟩],fn:=fun ds=>(nxL (nh.na ds 0) (nS.na ds 1),[.int (nbw (nh.na ds 0) (nS.na ds 1))])}
def ngn:Ctx:=[(307,vU)]
theorem ntW:bt Tryz.prog ngn:=Hx nrc IU
def ngm:List (Nat×kW):=[(2, {bN:=[(2,.mh),(3,.mh),(5,.mh)],boxes:=[(128,[]),(192,[])]})]
def ngo:Int→ke:=(fun r0=>((true,[.int r0]):ke))
def nrA (k:Int) (u_:Rows) (yA Tp wW Vi Vj:Int):St:= {n:=41,sl:=[(2,.ptr 128 0),(3,.ptr 192 0),(5,.int .i64 k)],hp:=[(128,.box 73 [.sl [.i,.i,.i,.i,.i,.i,.i] u_]),(192,.box 221 [.int .i64 yA,.int .i64 Tp,.int .i64 wW,.int .i64 Vi,.int .i64 Vj])],ok:=true,ls:=[],lm:=[]}
theorem ntV:DA Tryz.prog 254 W6:=by
 refine qh (A:=ngm) ntW Tryz.func254 fun ds (hw:jI (nh.ct++(nS.ct++[])) ds) aF=> ?_
 obtain⟨t,ds,rfl,_,hw⟩:=nh.nB (r:=_) hw
 obtain⟨f,ds,rfl,_,hw⟩:=nS.nB (r:=_) hw
 obtain rfl:=nm hw
 obtain⟨N,hN⟩:=ntU Vm.jK ngo t f aF
 exact⟨N,eL (fun l_=>W7 Vm.jK ngo l_ t f) (funext fun u_=>funext fun yA=>funext fun Tp=>funext fun wW=>funext fun Vi=>funext fun Vj=>nL1 (KR Tryz.prog ngn ngm N Tryz.f254 W6 [true,false,true,false] []) (fun k=>nrA k u_ yA Tp wW Vi Vj) _ N) hN⟩
def nbu:Sum:= {ps:=[⟨nS.ct,true⟩],rs:=[⟨[.own 3 [.i]],false⟩],fn:=fun ds=>(true,[.sl (U2 (nS.na ds 0))])}
def nkY:Ctx:=[(314,vU)]
theorem nwc:bt Tryz.prog nkY:=Hx npo IU
def nkX:List (Nat×kW):=[(3, {bN:=[(1,.mh),(3,.mh),(4,.mh)],boxes:=[(64,[])]})]
def nkZ:Rows→ke:=(fun r0=>((true,[.sl r0]):ke))
def nuI (i yA Tp wW Vi Vj:Int) (nD:Rows):St:= {n:=19,sl:=[(1,.ptr 64 0),(3,.own 640192),(4,.int .i64 i)],hp:=[(64,.box 221 [.int .i64 yA,.int .i64 Tp,.int .i64 wW,.int .i64 Vi,.int .i64 Vj]),(640192,.row 3 [.i] nD false true)],ok:=true,ls:=[],lm:=[]}
theorem nwb:DA Tryz.prog 270 nbu:=by
 refine qh (A:=nkX) nwc Tryz.func270 fun ds (hw:jI (nS.ct++[]) ds) _=> ?_
 obtain⟨f,ds,rfl,_,hw⟩:=nS.nB (r:=_) hw
 obtain rfl:=nm hw
 obtain⟨N,hN⟩:=nwa Vm.jK nkZ f
 exact⟨N,eL (fun l_=>nbv Vm.jK nkZ l_ f) (funext fun yA=>funext fun Tp=>funext fun wW=>funext fun Vi=>funext fun Vj=>Tm (KR Tryz.prog nkY nkX N Tryz.f270 nbu [true,true,false,true,false] []) (fun i nD=>nuI i yA Tp wW Vi Vj nD) _ N) hN⟩
def tb:Sum:= {ps:=[⟨nh.ct,true⟩],rs:=[⟨[.dQ .bool],false⟩],fn:=fun ds=>(true,[.bool (zG (nh.na ds 0))])}
def zq:Ctx:=[(143,nG),(269,YU),(270,nbu)]
theorem nsr:bt Tryz.prog zq:=Hx oN (Hx nuH (Hx nwb IU))
def zp:List (Nat×kW):=[(4, {bN:=[(1,.mh),(12,.mh),(13,.mh),(14,.mh)],boxes:=[(64,[])]}),(14, {bN:=[(1,.mh),(3,.mh),(12,.mh),(13,.mh),(14,.mh),(49,.mh),(50,.mh),(51,.mh)],boxes:=[(64,[]),(256,[])]})]
def ta:Bool→ke:=(fun r0=>((true,[.bool r0]):ke))
def uG (x:Rows) (nZ om:Int) (u_:Rows):St:= {n:=67,sl:=[(1,.ptr 64 0),(12,.sl [.i,.i,.i,.i,.i,.i,.i] x),(13,.int .i64 nZ),(14,.int .i64 om)],hp:=[(64,.box 73 [.sl [.i,.i,.i,.i,.i,.i,.i] u_])],ok:=true,ls:=[],lm:=[]}
def OI (om:Int) (x:Rows) (nZ PC x_6 x_7:Int) (u_:Rows) (s Nq sq Za Zb s_5 s_6:Int) (x_8:Rows):St:= {n:=67,sl:=[(1,.ptr 64 0),(3,.int .i64 om),(12,.sl [.i,.i,.i,.i,.i,.i,.i] x),(13,.int .i64 nZ),(14,.int .i64 PC),(49,.own 643136),(50,.int .i64 x_6),(51,.int .i64 x_7)],hp:=[(64,.box 73 [.sl [.i,.i,.i,.i,.i,.i,.i] u_]),(256,.box 262 [.int .i64 s,.int .i64 Nq,.int .i64 sq,.int .i64 Za,.int .i64 Zb,.int .i64 s_5,.int .i64 s_6]),(643136,.row 3 [.i] x_8 false true)],ok:=true,ls:=[],lm:=[]}
noncomputable def OH (N:Nat) (o0:St→ke):(St→ke)→St→ke:=KR Tryz.prog zq zp N Tryz.f217 tb [true,true,false,true,false,false,true,true,false,false,true,true,true,true,true,false] [o0]
noncomputable def vX (N:Nat):(St→ke)→St→ke:=KR Tryz.prog zq zp N Tryz.f217 tb [true,true,false,true,false] []
theorem npH (N:Nat) (o0:St→ke) (om:Int) (x:Rows) (nZ PC x_6:Int) (u_:Rows) (s Nq sq Za Zb s_5 s_6:Int) (x_8:Rows) (ih:St→ke) (x_7:Int):OH N o0 ih (OI om x nZ PC x_6 x_7 u_ s Nq sq Za Zb s_5 s_6 x_8)=yk Vm.jK ta (fun om=>o0 (uG x nZ om u_)) om PC x_6 u_ x_8 (fun x_7=>ih (OI om x nZ PC x_6 x_7 u_ s Nq sq Za Zb s_5 s_6 x_8)) x_7:=by kernel_rfl
theorem npJ (N:Nat) (o0:St→ke) (om:Int) (x:Rows) (nZ PC x_6:Int) (u_:Rows) (s Nq sq Za Zb s_5 s_6:Int) (x_8:Rows) (m_:Nat):(fun x_7=>KS (OH N o0) m_ (OI om x nZ PC x_6 x_7 u_ s Nq sq Za Zb s_5 s_6 x_8))=uF Vm.jK ta N (fun om=>o0 (uG x nZ om u_)) om PC x_6 u_ x_8 m_:=by
 induction m_ with
 | zero=>rfl
 | succ m_ ih=>
  funext x_7
  refine (npH N o0 om x nZ PC x_6 u_ s Nq sq Za Zb s_5 s_6 x_8 (KS (OH N o0) m_) x_7).trans ?_
  rw[ih]
  rfl
theorem npG (N:Nat) (x:Rows) (nZ:Int) (u_:Rows) (ih:St→ke) (om:Int):vX N ih (uG x nZ om u_)=yj Vm.jK ta (fun om PC x_6 x_8 x_7=>KS (OH N ih) N (OI om x nZ PC x_6 x_7 u_ (rI (nth x (Int.toNat om)) 0) (rI (nth x (Int.toNat om)) 1) (rI (nth x (Int.toNat om)) 2) (rI (nth x (Int.toNat om)) 3) (rI (nth x (Int.toNat om)) 4) (rI (nth x (Int.toNat om)) 5) (rI (nth x (Int.toNat om)) 6) x_8)) x nZ u_ (fun om=>ih (uG x nZ om u_)) om:=by kernel_rfl
theorem npI (N:Nat) (x:Rows) (nZ:Int) (u_:Rows) (m_:Nat):(fun om=>KS (vX N) m_ (uG x nZ om u_))=tz Vm.jK ta N x nZ u_ m_:=by
 induction m_ with
 | zero=>rfl
 | succ m_ ih=>
  funext om
  refine (npG N x nZ u_ (KS (vX N) m_) om).trans ?_
  have e1:=funext fun om=>funext fun PC=>funext fun x_6=>funext fun x_8=>npJ N (KS (vX N) m_) om x nZ PC x_6 u_ (rI (nth x (Int.toNat om)) 0) (rI (nth x (Int.toNat om)) 1) (rI (nth x (Int.toNat om)) 2) (rI (nth x (Int.toNat om)) 3) (rI (nth x (Int.toNat om)) 4) (rI (nth x (Int.toNat om)) 5) (rI (nth x (Int.toNat om)) 6) x_8 N
  rw[e1]
  rw[ih]
  rfl
theorem nsq (N:Nat) (t:nh):Hc Tryz.prog zq zp N Tryz.f217 tb (t.enc++([]))=QC Vm.jK ta N t:=by
 have noe:Hc Tryz.prog zq zp N Tryz.f217 tb (t.enc++([]))=QD Vm.jK ta (fun x nZ u_ om=>KS (vX N) N (uG x nZ om u_)) t:=by kernel_rfl
 refine noe.trans ?_
 unfold QC
 have e0:(fun x nZ u_ om=>KS (vX N) N (uG x nZ om u_))=(fun x nZ u_=>tz Vm.jK ta N x nZ u_ N):=by
  funext x nZ u_
  exact npI N x nZ u_ N
 exact congrArg (fun l_=>QD Vm.jK ta l_ t) e0
theorem nsp:DA Tryz.prog 217 tb:=by
 refine qh (A:=zp) nsr Tryz.func217 fun ds (hw:jI (nh.ct++[]) ds) _=> ?_
 obtain⟨t,ds,rfl,h_t,hw⟩:=nh.nB (r:=_) hw
 obtain rfl:=nm hw
 obtain⟨N,hN⟩:=nso Vm.jK ta t h_t
 exact⟨N,((nsq N t).trans hN).trans (by kernel_rfl)⟩
def ngd:Ctx:=[(106,nG),(254,W6)]
theorem ntN:bt Tryz.prog ngd:=Hx ph (Hx ntV IU)
def ngc:List (Nat×kW):=[(4, {bN:=[(1,.mh),(3,.mh)],boxes:=[(64,[])]})]
def nge:Bool→ke:=(fun r0=>((true,[.bool r0]):ke))
def nrv (k:Int) (u_:Rows):St:= {n:=49,sl:=[(1,.ptr 64 0),(3,.int .i64 k)],hp:=[(64,.box 73 [.sl [.i,.i,.i,.i,.i,.i,.i] u_])],ok:=true,ls:=[],lm:=[]}
theorem ntM:DA Tryz.prog 189 tb:=by
 refine qh (A:=ngc) ntN Tryz.func189 fun ds (hw:jI (nh.ct++[]) ds) _=> ?_
 obtain⟨t,ds,rfl,h_t,hw⟩:=nh.nB (r:=_) hw
 obtain rfl:=nm hw
 obtain⟨N,hN⟩:=ntL Vm.jK nge t h_t
 exact⟨N,eL (fun l_=>WZ Vm.jK nge l_ t) (funext fun u_=>nL1 (KR Tryz.prog ngd ngc N Tryz.f189 tb [true,true,false,true,false] []) (fun k=>nrv k u_) _ N) hN⟩
def vV:Sum:= {ps:=[⟨nJ.ct,true⟩,⟨[.i],false⟩],rs:=[⟨[.dQ .bool],false⟩],fn:=fun ds=>(true,[.bool (zg (nJ.na ds 0) (rI ds 2))])}
def nct:Ctx:=[(143,nG),(271,zZ)]
theorem npC:bt Tryz.prog nct:=Hx oN (Hx nmW IU)
def ncs:List (Nat×kW):=[(4, {bN:=[(1,.mh),(24,.mh),(25,.mh),(26,.mh)],boxes:=[(128,[])]})]
def ncu:Bool→ke:=(fun r0=>((true,[.bool r0]):ke))
def nmJ (nv:Int) (x:Rows) (nZ om:Int) (Nq:Bytes) (sq:Rows):St:= {n:=36,sl:=[(1,.int .i64 nv),(24,.sl [.i] x),(25,.int .i64 nZ),(26,.int .i64 om)],hp:=[(128,.box 74 [.str Nq,.sl [.i] sq])],ok:=true,ls:=[],lm:=[]}
theorem npB:DA Tryz.prog 218 vV:=by
 refine qh (A:=ncs) npC Tryz.func218 fun ds (hw:jI (nJ.ct++[.i]) ds) _=> ?_
 obtain⟨s,ds,rfl,xw,hw⟩:=nJ.nB (r:=_) hw
 obtain⟨nv,rfl,_⟩:=nt hw
 obtain⟨N,hN⟩:=npA Vm.jK ncu s nv xw
 exact⟨N,eL (fun l_=>TB Vm.jK ncu l_ s nv) (funext fun x=>funext fun nZ=>nL1 (KR Tryz.prog nct ncs N Tryz.f218 vV [true,true,false,true,false] []) (fun om=>nmJ nv x nZ om s.Key s.Table) _ N) hN⟩
def ndU:Ctx:=[(106,nG),(255,zZ)]
theorem nrr:bt Tryz.prog ndU:=Hx ph (Hx ntR IU)
def ndT:List (Nat×kW):=[(4, {bN:=[(1,.mh),(2,.mh),(5,.mh)],boxes:=[(128,[])]})]
def ndV:Bool→ke:=(fun r0=>((true,[.bool r0]):ke))
def noo (nv k:Int) (Nq:Bytes) (sq:Rows):St:= {n:=38,sl:=[(1,.int .i64 nv),(2,.ptr 128 0),(5,.int .i64 k)],hp:=[(128,.box 74 [.str Nq,.sl [.i] sq])],ok:=true,ls:=[],lm:=[]}
theorem nrq:DA Tryz.prog 190 vV:=by
 refine qh (A:=ndT) nrr Tryz.func190 fun ds (hw:jI (nJ.ct++[.i]) ds) _=> ?_
 obtain⟨s,ds,rfl,xw,hw⟩:=nJ.nB (r:=_) hw
 obtain⟨nv,rfl,_⟩:=nt hw
 obtain⟨N,hN⟩:=nrp Vm.jK ndV s nv xw
 exact⟨N,eL (fun l_=>T4 Vm.jK ndV l_ s nv) (funext fun sq=>nL1 (KR Tryz.prog ndU ndT N Tryz.f190 vV [true,true,false,true,false] []) (fun k=>noo nv k s.Key sq) _ N) hN⟩
def qn:Sum:= {ps:=[⟨nj.ct,true⟩,⟨[.i],false⟩],rs:=[⟨[.dQ .bool],false⟩],fn:=fun ds=>(true,[.bool (sa (nj.na ds 0) (rI ds 4))])}
def wx:Ctx:=[(216,xj),(217,tb),(218,vV)]
theorem nkN:bt Tryz.prog wx:=Hx nsl (Hx nsp (Hx npB IU))
def wu:List (Nat×kW):=[(4, {bN:=[(1,.mh),(2,.mh),(27,.mh),(28,.mh),(29,.mh)],boxes:=[(128,[])]}),(10, {bN:=[(1,.mh),(45,.mh),(46,.mh),(47,.mh)],boxes:=[(128,[])]})]
def rE:Bool→ke:=(fun r0=>((true,[.bool r0]):ke))
def vr (nv:Int) (x:Rows) (nZ om:Int) (Nq sq:Rows) (Za:Bytes) (Zb:Rows):St:= {n:=61,sl:=[(1,.int .i64 nv),(2,.ptr 128 0),(27,.sl [.i,.i,.i,.i,.i,.i,.i,.i,.i] x),(28,.int .i64 nZ),(29,.int .i64 om)],hp:=[(128,.box 76 [.sl [.i,.i,.i,.i,.i,.i,.i,.i,.i] Nq,.sl [.i,.i,.i,.i,.i,.i,.i] sq,.str Za,.sl [.i] Zb])],ok:=true,ls:=[],lm:=[]}
def xN (nv:Int) (sq:Rows) (ui PC:Int) (Nq s_6:Rows) (Za:Bytes) (Zb:Rows):St:= {n:=61,sl:=[(1,.int .i64 nv),(45,.sl [.i,.i,.i,.i,.i,.i,.i] sq),(46,.int .i64 ui),(47,.int .i64 PC)],hp:=[(128,.box 76 [.sl [.i,.i,.i,.i,.i,.i,.i,.i,.i] Nq,.sl [.i,.i,.i,.i,.i,.i,.i] s_6,.str Za,.sl [.i] Zb])],ok:=true,ls:=[],lm:=[]}
noncomputable def xM (N:Nat):(St→ke)→St→ke:=KR Tryz.prog wx wu N Tryz.f147 qn [true,true,true,false,true,false] []
noncomputable def vo (N:Nat):(St→ke)→St→ke:=KR Tryz.prog wx wu N Tryz.f147 qn [true,true,false,true,false] []
theorem ni_ (N:Nat) (nv:Int) (sq:Rows) (ui:Int) (Nq s_6:Rows) (Za:Bytes) (Zb:Rows) (ih:St→ke) (PC:Int):xM N ih (xN nv sq ui PC Nq s_6 Za Zb)=vq Vm.jK rE nv sq ui (fun PC=>ih (xN nv sq ui PC Nq s_6 Za Zb)) PC:=by kernel_rfl
theorem njb (N:Nat) (nv:Int) (sq:Rows) (ui:Int) (Nq s_6:Rows) (Za:Bytes) (Zb:Rows) (m_:Nat):(fun PC=>KS (xM N) m_ (xN nv sq ui PC Nq s_6 Za Zb))=sA Vm.jK rE N nv sq ui m_:=by
 induction m_ with
 | zero=>rfl
 | succ m_ ih=>
  funext PC
  refine (ni_ N nv sq ui Nq s_6 Za Zb (KS (xM N) m_) PC).trans ?_
  rw[ih]
  rfl
theorem ni9 (N:Nat) (nv:Int) (x:Rows) (nZ:Int) (Nq sq:Rows) (Za:Bytes) (Zb:Rows) (ih:St→ke) (om:Int):vo N ih (vr nv x nZ om Nq sq Za Zb)=vp Vm.jK rE (fun ui PC=>KS (xM N) N (xN nv sq ui PC Nq sq Za Zb)) nv x nZ sq (fun om=>ih (vr nv x nZ om Nq sq Za Zb)) om:=by kernel_rfl
theorem nja (N:Nat) (nv:Int) (x:Rows) (nZ:Int) (Nq sq:Rows) (Za:Bytes) (Zb:Rows) (m_:Nat):(fun om=>KS (vo N) m_ (vr nv x nZ om Nq sq Za Zb))=sw Vm.jK rE N nv x nZ sq m_:=by
 induction m_ with
 | zero=>rfl
 | succ m_ ih=>
  funext om
  refine (ni9 N nv x nZ Nq sq Za Zb (KS (vo N) m_) om).trans ?_
  have e1:=funext fun ui=>njb N nv sq ui Nq sq Za Zb N
  rw[e1]
  rw[ih]
  rfl
theorem nkM (N:Nat) (s:nj) (nv:Int):Hc Tryz.prog wx wu N Tryz.f147 qn (s.enc++(.int nv::([])))=yK Vm.jK rE N s nv:=by
 have noe:Hc Tryz.prog wx wu N Tryz.f147 qn (s.enc++(.int nv::([])))=yL Vm.jK rE (fun x nZ sq om=>KS (vo N) N (vr nv x nZ om s.oY sq s.oO.Key s.oO.Table)) s nv:=by kernel_rfl
 refine noe.trans ?_
 unfold yK
 have e0:(fun x nZ sq om=>KS (vo N) N (vr nv x nZ om s.oY sq s.oO.Key s.oO.Table))=(fun x nZ sq=>sw Vm.jK rE N nv x nZ sq N):=by
  funext x nZ sq
  exact nja N nv x nZ s.oY sq s.oO.Key s.oO.Table N
 exact congrArg (fun l_=>yL Vm.jK rE l_ s nv) e0
theorem nkL:DA Tryz.prog 147 qn:=by
 refine qh (A:=wu) nkN Tryz.func147 fun ds (hw:jI (nj.ct++[.i]) ds) _=> ?_
 obtain⟨s,ds,rfl,xw,hw⟩:=nj.nB (r:=_) hw
 obtain⟨nv,rfl,_⟩:=nt hw
 obtain⟨N,hN⟩:=nkK Vm.jK rE s nv xw
 exact⟨N,((nkM N s nv).trans hN).trans (by kernel_rfl)⟩
def wL:Ctx:=[(188,xj),(189,tb),(190,vV)]
theorem nms:bt Tryz.prog wL:=Hx ntI (Hx ntM (Hx nrq IU))
def wK:List (Nat×kW):=[(4, {bN:=[(1,.mh),(2,.mh),(5,.mh)],boxes:=[(128,[])]}),(9, {bN:=[(1,.mh),(2,.mh),(6,.mh)],boxes:=[(128,[])]})]
def rH:Bool→ke:=(fun r0=>((true,[.bool r0]):ke))
def vG (nv k:Int) (Nq sq:Rows) (Za:Bytes) (Zb:Rows):St:= {n:=56,sl:=[(1,.int .i64 nv),(2,.ptr 128 0),(5,.int .i64 k)],hp:=[(128,.box 76 [.sl [.i,.i,.i,.i,.i,.i,.i,.i,.i] Nq,.sl [.i,.i,.i,.i,.i,.i,.i] sq,.str Za,.sl [.i] Zb])],ok:=true,ls:=[],lm:=[]}
def yc (nv rv:Int) (Nq sq:Rows) (Za:Bytes) (Zb:Rows):St:= {n:=56,sl:=[(1,.int .i64 nv),(2,.ptr 128 0),(6,.int .i64 rv)],hp:=[(128,.box 76 [.sl [.i,.i,.i,.i,.i,.i,.i,.i,.i] Nq,.sl [.i,.i,.i,.i,.i,.i,.i] sq,.str Za,.sl [.i] Zb])],ok:=true,ls:=[],lm:=[]}
noncomputable def yb (N:Nat):(St→ke)→St→ke:=KR Tryz.prog wL wK N Tryz.f107 qn [true,true,true,false,true,false] []
noncomputable def vD (N:Nat):(St→ke)→St→ke:=KR Tryz.prog wL wK N Tryz.f107 qn [true,true,false,true,false] []
theorem nj5 (N:Nat) (nv:Int) (Nq sq:Rows) (Za:Bytes) (Zb:Rows) (ih:St→ke) (rv:Int):yb N ih (yc nv rv Nq sq Za Zb)=vF Vm.jK rH nv sq (fun rv=>ih (yc nv rv Nq sq Za Zb)) rv:=by kernel_rfl
theorem nj7 (N:Nat) (nv:Int) (Nq sq:Rows) (Za:Bytes) (Zb:Rows) (m_:Nat):(fun rv=>KS (yb N) m_ (yc nv rv Nq sq Za Zb))=sE Vm.jK rH N nv sq m_:=by
 induction m_ with
 | zero=>rfl
 | succ m_ ih=>
  funext rv
  refine (nj5 N nv Nq sq Za Zb (KS (yb N) m_) rv).trans ?_
  rw[ih]
  rfl
theorem nj4 (N:Nat) (nv:Int) (Nq sq:Rows) (Za:Bytes) (Zb:Rows) (ih:St→ke) (k:Int):vD N ih (vG nv k Nq sq Za Zb)=vE Vm.jK rH (fun rv=>KS (yb N) N (yc nv rv Nq sq Za Zb)) nv Nq sq (fun k=>ih (vG nv k Nq sq Za Zb)) k:=by kernel_rfl
theorem nj6 (N:Nat) (nv:Int) (Nq sq:Rows) (Za:Bytes) (Zb:Rows) (m_:Nat):(fun k=>KS (vD N) m_ (vG nv k Nq sq Za Zb))=sD Vm.jK rH N nv Nq sq m_:=by
 induction m_ with
 | zero=>rfl
 | succ m_ ih=>
  funext k
  refine (nj4 N nv Nq sq Za Zb (KS (vD N) m_) k).trans ?_
  have e1:=nj7 N nv Nq sq Za Zb N
  rw[e1]
  rw[ih]
  rfl
theorem nmr (N:Nat) (s:nj) (nv:Int):Hc Tryz.prog wL wK N Tryz.f107 qn (s.enc++(.int nv::([])))=y_ Vm.jK rH N s nv:=by
 have noe:Hc Tryz.prog wL wK N Tryz.f107 qn (s.enc++(.int nv::([])))=za Vm.jK rH (fun Nq sq k=>KS (vD N) N (vG nv k Nq sq s.oO.Key s.oO.Table)) s nv:=by kernel_rfl
 refine noe.trans ?_
 unfold y_
 have e0:(fun Nq sq k=>KS (vD N) N (vG nv k Nq sq s.oO.Key s.oO.Table))=(fun Nq sq=>sD Vm.jK rH N nv Nq sq N):=by
  funext Nq sq
  exact nj6 N nv Nq sq s.oO.Key s.oO.Table N
 exact congrArg (fun l_=>za Vm.jK rH l_ s nv) e0
theorem nmq:DA Tryz.prog 107 qn:=by
 refine qh (A:=wK) nms Tryz.func107 fun ds (hw:jI (nj.ct++[.i]) ds) _=> ?_
 obtain⟨s,ds,rfl,xw,hw⟩:=nj.nB (r:=_) hw
 obtain⟨nv,rfl,_⟩:=nt hw
 obtain⟨N,hN⟩:=nmp Vm.jK rH s nv xw
 exact⟨N,((nmr N s nv).trans hN).trans (by kernel_rfl)⟩
def rP:Sum:= {ps:=[⟨nx.ct,true⟩],rs:=[⟨[.dQ .bool],false⟩],fn:=fun ds=>(Vp (nx.na ds 0),[.bool (nbc (nx.na ds 0))])}
def N9:Ctx:=[(139,rQ),(140,rD),(141,xx),(142,vS),(143,nG),(144,XG),(145,sP),(146,OK),(147,qn)]
theorem nuu:bt Tryz.prog N9:=Hx Tw (Hx XA (Hx noX (Hx npj (Hx oN (Hx nwS (Hx YL (Hx npM (Hx nkL IU))))))))
def N8:List (Nat×kW):=[(5, {bN:=[(1,.mh),(3,.mh),(61,.mh),(62,.mh)],boxes:=[(64,[])]}),(12, {bN:=[(1,.mh),(3,.mh),(103,.mh),(104,.mh),(105,.mh)],boxes:=[(64,[]),(320,[])]})]
def uc:Bool→ke:=(fun r0=>((true,[.bool r0]):ke))
def zm (n x nZ:Int) (h_1 h_2:Rows) (h_3 h_4 h_5 h_6 h_7 h_8 h_9:Int) (xA xB:Rows) (xC:Int) (qV qm pB qJ:Rows) (qR:Int) (qS:Bool) (qK pL pM:Rows) (pR:Bytes) (pN qL:Rows) (xD:Bool) (qM qN qO:Rows) (re rh ri rj rk:Int):St:= {n:=117,sl:=[(1,.ptr 64 0),(3,.int .i64 n),(61,.int .i64 x),(62,.int .i64 nZ)],hp:=[(64,.box 80 [.sl [.str] h_1,.sl [.i,.i,.i,.bool] h_2,.int .i64 h_3,.int .i64 h_4,.int .i64 h_5,.int .i64 h_6,.int .i64 h_7,.int .i64 h_8,.int .i64 h_9,.sl [.i] xA,.sl [.i,.i,.sl [.i]] xB,.int .i64 xC,.sl [.i,.i,.i,.i,.i,.i,.i,.i,.i,.i,.i,.i,.i,.i,.i,.i,.i,.i,.i,.i,.i,.i,.i,.i,.i,.str,.i,.i,.bool,.i] qV,.sl [.i,.i,.i,.sl [.i]] qm,.sl [.i,.i,.i,.i,.bool,.bool] pB,.sl [.bool] qJ,.int .i64 qR,.bool qS,.sl [.i] qK,.sl [.i,.i,.i,.i,.i,.i,.i,.i,.i] pL,.sl [.i,.i,.i,.i,.i,.i,.i] pM,.str pR,.sl [.i] pN,.sl [.i,.i,.i,.i,.i,.i,.str,.bool] qL,.bool xD,.sl [.str] qM,.sl [.i] qN,.sl [.i] qO,.int .i64 re,.int .i64 rh,.int .i64 ri,.int .i64 rj,.int .i64 rk])],ok:=true,ls:=[],lm:=[]}
def Qu (n om yf:Int) (h_1 h_2:Rows) (h_3 h_4 h_5 h_6 h_7 h_8 h_9:Int) (xA xB:Rows) (xC:Int) (qV qm pB qJ:Rows) (qR:Int) (qS:Bool) (qK pL pM:Rows) (pR:Bytes) (pN qL:Rows) (xD:Bool) (qM qN qO:Rows) (re rh ri rj rk c U4 c_2 c_3 c_4:Int) (ui:Rows):St:= {n:=117,sl:=[(1,.ptr 64 0),(3,.int .i64 n),(103,.own 646592),(104,.int .i64 om),(105,.int .i64 yf)],hp:=[(64,.box 80 [.sl [.str] h_1,.sl [.i,.i,.i,.bool] h_2,.int .i64 h_3,.int .i64 h_4,.int .i64 h_5,.int .i64 h_6,.int .i64 h_7,.int .i64 h_8,.int .i64 h_9,.sl [.i] xA,.sl [.i,.i,.sl [.i]] xB,.int .i64 xC,.sl [.i,.i,.i,.i,.i,.i,.i,.i,.i,.i,.i,.i,.i,.i,.i,.i,.i,.i,.i,.i,.i,.i,.i,.i,.i,.str,.i,.i,.bool,.i] qV,.sl [.i,.i,.i,.sl [.i]] qm,.sl [.i,.i,.i,.i,.bool,.bool] pB,.sl [.bool] qJ,.int .i64 qR,.bool qS,.sl [.i] qK,.sl [.i,.i,.i,.i,.i,.i,.i,.i,.i] pL,.sl [.i,.i,.i,.i,.i,.i,.i] pM,.str pR,.sl [.i] pN,.sl [.i,.i,.i,.i,.i,.i,.str,.bool] qL,.bool xD,.sl [.str] qM,.sl [.i] qN,.sl [.i] qO,.int .i64 re,.int .i64 rh,.int .i64 ri,.int .i64 rj,.int .i64 rk]),(320,.box 78 [.int .i64 c,.int .i64 U4,.int .i64 c_2,.int .i64 c_3,.int .i64 c_4]),(646592,.row 3 [.i] ui false true)],ok:=true,ls:=[],lm:=[]}
noncomputable def Qs (N:Nat):(St→ke)→St→ke:=KR Tryz.prog N9 N8 N Tryz.f47 rP [true,true,true,true,true,false,true,false] []
noncomputable def zk (N:Nat):(St→ke)→St→ke:=KR Tryz.prog N9 N8 N Tryz.f47 rP [true,true,true,false,true,false] []
theorem nsc (N:Nat) (n om:Int) (h_1 h_2:Rows) (h_3 h_4 h_5 h_6 h_7 h_8 h_9:Int) (xA xB:Rows) (xC:Int) (qV qm pB qJ:Rows) (qR:Int) (qS:Bool) (qK pL pM:Rows) (pR:Bytes) (pN qL:Rows) (xD:Bool) (qM qN qO:Rows) (re rh ri rj rk c U4 c_2 c_3 c_4:Int) (ui:Rows) (ih:St→ke) (yf:Int):Qs N ih (Qu n om yf h_1 h_2 h_3 h_4 h_5 h_6 h_7 h_8 h_9 xA xB xC qV qm pB qJ qR qS qK pL pM pR pN qL xD qM qN qO re rh ri rj rk c U4 c_2 c_3 c_4 ui)=Qt Vm.jK uc n om pL pM pR pN ui (fun yf=>ih (Qu n om yf h_1 h_2 h_3 h_4 h_5 h_6 h_7 h_8 h_9 xA xB xC qV qm pB qJ qR qS qK pL pM pR pN qL xD qM qN qO re rh ri rj rk c U4 c_2 c_3 c_4 ui)) yf:=by kernel_rfl
theorem nse (N:Nat) (n om:Int) (h_1 h_2:Rows) (h_3 h_4 h_5 h_6 h_7 h_8 h_9:Int) (xA xB:Rows) (xC:Int) (qV qm pB qJ:Rows) (qR:Int) (qS:Bool) (qK pL pM:Rows) (pR:Bytes) (pN qL:Rows) (xD:Bool) (qM qN qO:Rows) (re rh ri rj rk c U4 c_2 c_3 c_4:Int) (ui:Rows) (m_:Nat):(fun yf=>KS (Qs N) m_ (Qu n om yf h_1 h_2 h_3 h_4 h_5 h_6 h_7 h_8 h_9 xA xB xC qV qm pB qJ qR qS qK pL pM pR pN qL xD qM qN qO re rh ri rj rk c U4 c_2 c_3 c_4 ui))=vm Vm.jK uc N n om pL pM pR pN ui m_:=by
 induction m_ with
 | zero=>rfl
 | succ m_ ih=>
  funext yf
  refine (nsc N n om h_1 h_2 h_3 h_4 h_5 h_6 h_7 h_8 h_9 xA xB xC qV qm pB qJ qR qS qK pL pM pR pN qL xD qM qN qO re rh ri rj rk c U4 c_2 c_3 c_4 ui (KS (Qs N) m_) yf).trans ?_
  rw[ih]
  rfl
theorem nsb (N:Nat) (n x:Int) (h_1 h_2:Rows) (h_3 h_4 h_5 h_6 h_7 h_8 h_9:Int) (xA xB:Rows) (xC:Int) (qV qm pB qJ:Rows) (qR:Int) (qS:Bool) (qK pL pM:Rows) (pR:Bytes) (pN qL:Rows) (xD:Bool) (qM qN qO:Rows) (re rh ri rj rk:Int) (ih:St→ke) (nZ:Int):zk N ih (zm n x nZ h_1 h_2 h_3 h_4 h_5 h_6 h_7 h_8 h_9 xA xB xC qV qm pB qJ qR qS qK pL pM pR pN qL xD qM qN qO re rh ri rj rk)=zl Vm.jK uc (fun om ui yf=>KS (Qs N) N (Qu n om yf h_1 h_2 h_3 h_4 h_5 h_6 h_7 h_8 h_9 xA xB xC qV qm pB qJ qR qS qK pL pM pR pN qL xD qM qN qO re rh ri rj rk re rh ri rj rk ui)) n x qV qm pB pL pM pR pN re rh ri rj rk (fun nZ=>ih (zm n x nZ h_1 h_2 h_3 h_4 h_5 h_6 h_7 h_8 h_9 xA xB xC qV qm pB qJ qR qS qK pL pM pR pN qL xD qM qN qO re rh ri rj rk)) nZ:=by kernel_rfl
theorem nsd (N:Nat) (n x:Int) (h_1 h_2:Rows) (h_3 h_4 h_5 h_6 h_7 h_8 h_9:Int) (xA xB:Rows) (xC:Int) (qV qm pB qJ:Rows) (qR:Int) (qS:Bool) (qK pL pM:Rows) (pR:Bytes) (pN qL:Rows) (xD:Bool) (qM qN qO:Rows) (re rh ri rj rk:Int) (m_:Nat):(fun nZ=>KS (zk N) m_ (zm n x nZ h_1 h_2 h_3 h_4 h_5 h_6 h_7 h_8 h_9 xA xB xC qV qm pB qJ qR qS qK pL pM pR pN qL xD qM qN qO re rh ri rj rk))=s_ Vm.jK uc N n x qV qm pB pL pM pR pN re rh ri rj rk m_:=by
 induction m_ with
 | zero=>rfl
 | succ m_ ih=>
  funext nZ
  refine (nsb N n x h_1 h_2 h_3 h_4 h_5 h_6 h_7 h_8 h_9 xA xB xC qV qm pB qJ qR qS qK pL pM pR pN qL xD qM qN qO re rh ri rj rk (KS (zk N) m_) nZ).trans ?_
  have e1:=funext fun om=>funext fun ui=>nse N n om h_1 h_2 h_3 h_4 h_5 h_6 h_7 h_8 h_9 xA xB xC qV qm pB qJ qR qS qK pL pM pR pN qL xD qM qN qO re rh ri rj rk re rh ri rj rk ui N
  rw[e1]
  rw[ih]
  rfl
theorem nut (N:Nat) (h:nx):Hc Tryz.prog N9 N8 N Tryz.f47 rP (h.enc++([]))=SB Vm.jK uc N h:=by
 have noe:Hc Tryz.prog N9 N8 N Tryz.f47 rP (h.enc++([]))=SC Vm.jK uc (fun n x qV qm pB pL pM pR pN re rh ri rj rk nZ=>KS (zk N) N (zm n x nZ h.oB.nV h.Maps h.Tx.Ring.oR h.Tx.Ring.nR h.Tx.Ring.Head h.Tx.Ring.pV h.Tx.n7.oR h.Tx.n7.nR h.Tx.n7.Count h.Tx.n7.py h.Tx.ni h.Tx.Next qV qm pB h.pk h.Filter.Mac h.Filter.ql h.Filter.qd pL pM pR pN h.p6 h.sF h.vN h.oP h.pU re rh ri rj rk)) h:=by kernel_rfl
 refine noe.trans ?_
 unfold SB
 have e0:(fun n x qV qm pB pL pM pR pN re rh ri rj rk nZ=>KS (zk N) N (zm n x nZ h.oB.nV h.Maps h.Tx.Ring.oR h.Tx.Ring.nR h.Tx.Ring.Head h.Tx.Ring.pV h.Tx.n7.oR h.Tx.n7.nR h.Tx.n7.Count h.Tx.n7.py h.Tx.ni h.Tx.Next qV qm pB h.pk h.Filter.Mac h.Filter.ql h.Filter.qd pL pM pR pN h.p6 h.sF h.vN h.oP h.pU re rh ri rj rk))=(fun n x qV qm pB pL pM pR pN re rh ri rj rk=>s_ Vm.jK uc N n x qV qm pB pL pM pR pN re rh ri rj rk N):=by
  funext n x qV qm pB pL pM pR pN re rh ri rj rk
  exact nsd N n x h.oB.nV h.Maps h.Tx.Ring.oR h.Tx.Ring.nR h.Tx.Ring.Head h.Tx.Ring.pV h.Tx.n7.oR h.Tx.n7.nR h.Tx.n7.Count h.Tx.n7.py h.Tx.ni h.Tx.Next qV qm pB h.pk h.Filter.Mac h.Filter.ql h.Filter.qd pL pM pR pN h.p6 h.sF h.vN h.oP h.pU re rh ri rj rk N
 exact congrArg (fun l_=>SC Vm.jK uc l_ h) e0
theorem nus:DA Tryz.prog 47 rP:=by
 refine qh (A:=N8) nuu Tryz.func47 fun ds (hw:jI (nx.ct++[]) ds) aF=> ?_
 obtain⟨h,ds,rfl,_,hw⟩:=nx.nB (r:=_) hw
 obtain rfl:=nm hw
 obtain⟨N,hN⟩:=nur Vm.jK uc h aF
 exact⟨N,((nut N h).trans hN).trans (by kernel_rfl)⟩
def Ot:Ctx:=[(102,rQ),(103,rD),(104,xx),(105,vS),(106,nG),(107,qn),(108,XG),(109,sP),(110,OK)]
theorem nvo:bt Tryz.prog Ot:=Hx TZ (Hx Yt (Hx no7 (Hx nq8 (Hx ph (Hx nmq (Hx nw6 (Hx Zc (Hx nry IU))))))))
def Oq:List (Nat×kW):=[(5, {bN:=[(1,.mh),(3,.mh),(4,.mh)],boxes:=[(64,[])]}),(11, {bN:=[(5,.mh),(6,.mh)],boxes:=[(64,[])]})]
def uh:Bool→ke:=(fun r0=>((true,[.bool r0]):ke))
def zA (n k:Int) (h_1 h_2:Rows) (h_3 h_4 h_5 h_6 h_7 h_8 h_9:Int) (xA xB:Rows) (xC:Int) (qV qm pB qJ:Rows) (qR:Int) (qS:Bool) (qK pL pM:Rows) (pR:Bytes) (pN qL:Rows) (xD:Bool) (qM qN qO:Rows) (re rh ri rj rk:Int):St:= {n:=123,sl:=[(1,.ptr 64 0),(3,.int .i64 n),(4,.int .i64 k)],hp:=[(64,.box 80 [.sl [.str] h_1,.sl [.i,.i,.i,.bool] h_2,.int .i64 h_3,.int .i64 h_4,.int .i64 h_5,.int .i64 h_6,.int .i64 h_7,.int .i64 h_8,.int .i64 h_9,.sl [.i] xA,.sl [.i,.i,.sl [.i]] xB,.int .i64 xC,.sl [.i,.i,.i,.i,.i,.i,.i,.i,.i,.i,.i,.i,.i,.i,.i,.i,.i,.i,.i,.i,.i,.i,.i,.i,.i,.str,.i,.i,.bool,.i] qV,.sl [.i,.i,.i,.sl [.i]] qm,.sl [.i,.i,.i,.i,.bool,.bool] pB,.sl [.bool] qJ,.int .i64 qR,.bool qS,.sl [.i] qK,.sl [.i,.i,.i,.i,.i,.i,.i,.i,.i] pL,.sl [.i,.i,.i,.i,.i,.i,.i] pM,.str pR,.sl [.i] pN,.sl [.i,.i,.i,.i,.i,.i,.str,.bool] qL,.bool xD,.sl [.str] qM,.sl [.i] qN,.sl [.i] qO,.int .i64 re,.int .i64 rh,.int .i64 ri,.int .i64 rj,.int .i64 rk])],ok:=true,ls:=[],lm:=[]}
def Rj (rv:Int) (h_1 h_2:Rows) (h_3 h_4 h_5 h_6 h_7 h_8 h_9:Int) (xA xB:Rows) (xC:Int) (qV qm pB qJ:Rows) (qR:Int) (qS:Bool) (qK pL pM:Rows) (pR:Bytes) (pN qL:Rows) (xD:Bool) (qM qN qO:Rows) (re rh ri rj rk:Int) (list_:Rows):St:= {n:=123,sl:=[(5,.own 640320),(6,.int .i64 rv)],hp:=[(64,.box 80 [.sl [.str] h_1,.sl [.i,.i,.i,.bool] h_2,.int .i64 h_3,.int .i64 h_4,.int .i64 h_5,.int .i64 h_6,.int .i64 h_7,.int .i64 h_8,.int .i64 h_9,.sl [.i] xA,.sl [.i,.i,.sl [.i]] xB,.int .i64 xC,.sl [.i,.i,.i,.i,.i,.i,.i,.i,.i,.i,.i,.i,.i,.i,.i,.i,.i,.i,.i,.i,.i,.i,.i,.i,.i,.str,.i,.i,.bool,.i] qV,.sl [.i,.i,.i,.sl [.i]] qm,.sl [.i,.i,.i,.i,.bool,.bool] pB,.sl [.bool] qJ,.int .i64 qR,.bool qS,.sl [.i] qK,.sl [.i,.i,.i,.i,.i,.i,.i,.i,.i] pL,.sl [.i,.i,.i,.i,.i,.i,.i] pM,.str pR,.sl [.i] pN,.sl [.i,.i,.i,.i,.i,.i,.str,.bool] qL,.bool xD,.sl [.str] qM,.sl [.i] qN,.sl [.i] qO,.int .i64 re,.int .i64 rh,.int .i64 ri,.int .i64 rj,.int .i64 rk]),(640320,.row 3 [.i] list_ false true)],ok:=true,ls:=[],lm:=[]}
noncomputable def Rh (N:Nat):(St→ke)→St→ke:=KR Tryz.prog Ot Oq N Tryz.f30 rP [true,true,true,true,true,false,true,false] []
noncomputable def zy (N:Nat):(St→ke)→St→ke:=KR Tryz.prog Ot Oq N Tryz.f30 rP [true,true,true,false,true,false] []
theorem ntz (N:Nat) (h_1 h_2:Rows) (h_3 h_4 h_5 h_6 h_7 h_8 h_9:Int) (xA xB:Rows) (xC:Int) (qV qm pB qJ:Rows) (qR:Int) (qS:Bool) (qK pL pM:Rows) (pR:Bytes) (pN qL:Rows) (xD:Bool) (qM qN qO:Rows) (re rh ri rj rk:Int) (list_:Rows) (ih:St→ke) (rv:Int):Rh N ih (Rj rv h_1 h_2 h_3 h_4 h_5 h_6 h_7 h_8 h_9 xA xB xC qV qm pB qJ qR qS qK pL pM pR pN qL xD qM qN qO re rh ri rj rk list_)=Ri Vm.jK uh list_ (fun rv=>ih (Rj rv h_1 h_2 h_3 h_4 h_5 h_6 h_7 h_8 h_9 xA xB xC qV qm pB qJ qR qS qK pL pM pR pN qL xD qM qN qO re rh ri rj rk list_)) rv:=by kernel_rfl
theorem ntB (N:Nat) (h_1 h_2:Rows) (h_3 h_4 h_5 h_6 h_7 h_8 h_9:Int) (xA xB:Rows) (xC:Int) (qV qm pB qJ:Rows) (qR:Int) (qS:Bool) (qK pL pM:Rows) (pR:Bytes) (pN qL:Rows) (xD:Bool) (qM qN qO:Rows) (re rh ri rj rk:Int) (list_:Rows) (m_:Nat):(fun rv=>KS (Rh N) m_ (Rj rv h_1 h_2 h_3 h_4 h_5 h_6 h_7 h_8 h_9 xA xB xC qV qm pB qJ qR qS qK pL pM pR pN qL xD qM qN qO re rh ri rj rk list_))=vy Vm.jK uh N list_ m_:=by
 induction m_ with
 | zero=>rfl
 | succ m_ ih=>
  funext rv
  refine (ntz N h_1 h_2 h_3 h_4 h_5 h_6 h_7 h_8 h_9 xA xB xC qV qm pB qJ qR qS qK pL pM pR pN qL xD qM qN qO re rh ri rj rk list_ (KS (Rh N) m_) rv).trans ?_
  rw[ih]
  rfl
theorem nty (N:Nat) (n:Int) (h_1 h_2:Rows) (h_3 h_4 h_5 h_6 h_7 h_8 h_9:Int) (xA xB:Rows) (xC:Int) (qV qm pB qJ:Rows) (qR:Int) (qS:Bool) (qK pL pM:Rows) (pR:Bytes) (pN qL:Rows) (xD:Bool) (qM qN qO:Rows) (re rh ri rj rk:Int) (ih:St→ke) (k:Int):zy N ih (zA n k h_1 h_2 h_3 h_4 h_5 h_6 h_7 h_8 h_9 xA xB xC qV qm pB qJ qR qS qK pL pM pR pN qL xD qM qN qO re rh ri rj rk)=zz Vm.jK uh (fun list_ rv=>KS (Rh N) N (Rj rv h_1 h_2 h_3 h_4 h_5 h_6 h_7 h_8 h_9 xA xB xC qV qm pB qJ qR qS qK pL pM pR pN qL xD qM qN qO re rh ri rj rk list_)) n qV qm pB re rh ri rj rk (fun k=>ih (zA n k h_1 h_2 h_3 h_4 h_5 h_6 h_7 h_8 h_9 xA xB xC qV qm pB qJ qR qS qK pL pM pR pN qL xD qM qN qO re rh ri rj rk)) k:=by kernel_rfl
theorem ntA (N:Nat) (n:Int) (h_1 h_2:Rows) (h_3 h_4 h_5 h_6 h_7 h_8 h_9:Int) (xA xB:Rows) (xC:Int) (qV qm pB qJ:Rows) (qR:Int) (qS:Bool) (qK pL pM:Rows) (pR:Bytes) (pN qL:Rows) (xD:Bool) (qM qN qO:Rows) (re rh ri rj rk:Int) (m_:Nat):(fun k=>KS (zy N) m_ (zA n k h_1 h_2 h_3 h_4 h_5 h_6 h_7 h_8 h_9 xA xB xC qV qm pB qJ qR qS qK pL pM pR pN qL xD qM qN qO re rh ri rj rk))=tk Vm.jK uh N n qV qm pB re rh ri rj rk m_:=by
 induction m_ with
 | zero=>rfl
 | succ m_ ih=>
  funext k
  refine (nty N n h_1 h_2 h_3 h_4 h_5 h_6 h_7 h_8 h_9 xA xB xC qV qm pB qJ qR qS qK pL pM pR pN qL xD qM qN qO re rh ri rj rk (KS (zy N) m_) k).trans ?_
  have e1:=funext fun list_=>ntB N h_1 h_2 h_3 h_4 h_5 h_6 h_7 h_8 h_9 xA xB xC qV qm pB qJ qR qS qK pL pM pR pN qL xD qM qN qO re rh ri rj rk list_ N
  rw[e1]
  rw[ih]
  rfl
theorem nvn (N:Nat) (h:nx):Hc Tryz.prog Ot Oq N Tryz.f30 rP (h.enc++([]))=SQ Vm.jK uh N h:=by
 have noe:Hc Tryz.prog Ot Oq N Tryz.f30 rP (h.enc++([]))=SR Vm.jK uh (fun n qV qm pB re rh ri rj rk k=>KS (zy N) N (zA n k h.oB.nV h.Maps h.Tx.Ring.oR h.Tx.Ring.nR h.Tx.Ring.Head h.Tx.Ring.pV h.Tx.n7.oR h.Tx.n7.nR h.Tx.n7.Count h.Tx.n7.py h.Tx.ni h.Tx.Next qV qm pB h.pk h.Filter.Mac h.Filter.ql h.Filter.qd h.nA.oY h.nA.Table.nI h.nA.oO.Key h.nA.oO.Table h.p6 h.sF h.vN h.oP h.pU re rh ri rj rk)) h:=by kernel_rfl
 refine noe.trans ?_
 unfold SQ
 have e0:(fun n qV qm pB re rh ri rj rk k=>KS (zy N) N (zA n k h.oB.nV h.Maps h.Tx.Ring.oR h.Tx.Ring.nR h.Tx.Ring.Head h.Tx.Ring.pV h.Tx.n7.oR h.Tx.n7.nR h.Tx.n7.Count h.Tx.n7.py h.Tx.ni h.Tx.Next qV qm pB h.pk h.Filter.Mac h.Filter.ql h.Filter.qd h.nA.oY h.nA.Table.nI h.nA.oO.Key h.nA.oO.Table h.p6 h.sF h.vN h.oP h.pU re rh ri rj rk))=(fun n qV qm pB re rh ri rj rk=>tk Vm.jK uh N n qV qm pB re rh ri rj rk N):=by
  funext n qV qm pB re rh ri rj rk
  exact ntA N n h.oB.nV h.Maps h.Tx.Ring.oR h.Tx.Ring.nR h.Tx.Ring.Head h.Tx.Ring.pV h.Tx.n7.oR h.Tx.n7.nR h.Tx.n7.Count h.Tx.n7.py h.Tx.ni h.Tx.Next qV qm pB h.pk h.Filter.Mac h.Filter.ql h.Filter.qd h.nA.oY h.nA.Table.nI h.nA.oO.Key h.nA.oO.Table h.p6 h.sF h.vN h.oP h.pU re rh ri rj rk N
 exact congrArg (fun l_=>SR Vm.jK uh l_ h) e0
theorem nvm:DA Tryz.prog 30 rP:=by
 refine qh (A:=Oq) nvo Tryz.func30 fun ds (hw:jI (nx.ct++[]) ds) aF=> ?_
 obtain⟨h,ds,rfl,_,hw⟩:=nx.nB (r:=_) hw
 obtain rfl:=nm hw
 obtain⟨N,hN⟩:=nvl Vm.jK uh h aF
 exact⟨N,((nvn N h).trans hN).trans (by kernel_rfl)⟩
def W4:Sum:= {ps:=[⟨[.i],false⟩,⟨[.int .u8],false⟩],rs:=[⟨[.dQ .str],false⟩],fn:=fun ds=>(RR (rI ds 0) (rI ds 1),[.str (OO (rI ds 0) (rI ds 1))])}
def ngi:List (Nat×kW):=[(3, {bN:=[(0,.mh),(1,.mh),(5,.mh),(6,.mh)],boxes:=[]})]
def ngj:Bytes→ke:=(fun r0=>((true,[.str r0]):ke))
def nrz (n x i:Int) (nD:Rows):St:= {n:=20,sl:=[(0,.int .i64 n),(1,.int .u8 x),(5,.own 640320),(6,.int .i64 i)],hp:=[(640320,.row 5 [.int .u8] nD false true)],ok:=true,ls:=[],lm:=[]}
theorem ntQ:DA Tryz.prog 311 W4:=by
 refine qh (A:=ngi) IU Tryz.func311 fun ds (hw:jI ([.i,.int .u8]) ds) aF=> ?_
 obtain⟨n,ds,rfl,_,hw⟩:=nX hw
 obtain⟨x,rfl,h_x⟩:=nt hw
 obtain⟨N,hN⟩:=ntP Vm.jK ngj n x h_x aF
 exact⟨N,eL (fun l_=>W5 Vm.jK ngj l_ n x) (Tm (KR Tryz.prog [] ngi N Tryz.f311 W4 [true,true,false,true,false] []) (nrz n x) _ N) hN⟩
def YQ:Sum:= {ps:=[⟨[.int .u8],false⟩,⟨[.i],false⟩],rs:=[⟨[.dQ .str],false⟩],fn:=fun ds=>(ng1 (rI ds 0) (rI ds 1),[.str (nl7 (rI ds 0) (rI ds 1))])}
def nh_:List (Nat×kW):=[(3, {bN:=[(0,.mh),(5,.mh),(10,.mh),(11,.mh)],boxes:=[]})]
def nia:Bytes→ke:=(fun r0=>((true,[.str r0]):ke))
def nsv (b x nZ:Int) (nD:Rows):St:= {n:=21,sl:=[(0,.int .u8 b),(5,.own 640320),(10,.int .i64 x),(11,.int .i64 nZ)],hp:=[(640320,.row 5 [.int .u8] nD false true)],ok:=true,ls:=[],lm:=[]}
theorem nuC:DA Tryz.prog 319 YQ:=by
 refine qh (A:=nh_) IU Tryz.func319 fun ds (hw:jI ([.int .u8,.i]) ds) aF=> ?_
 obtain⟨b,ds,rfl,h_b,hw⟩:=nX hw
 obtain⟨n,rfl,_⟩:=nt hw
 obtain⟨N,hN⟩:=nuB Vm.jK nia b n h_b aF
 exact⟨N,eL (fun l_=>YR Vm.jK nia l_ b n) (funext fun x=>Tm (KR Tryz.prog [] nh_ N Tryz.f319 YQ [true,true,false,true,false] []) (nsv b x) _ N) hN⟩
def su:Sum:= {ps:=[⟨[.str],false⟩,⟨[.i],false⟩],rs:=[⟨[.dQ .i],false⟩],fn:=fun ds=>(true,[.int (q_ (rS ds 0) (rI ds 1))])}
theorem Qr:DA Tryz.prog 301 su:=by
 refine nM IU Tryz.func301 fun ds (hw:jI ([.str,.i]) ds) _=> ?_
 obtain⟨s,ds,rfl,xw,hw⟩:=Np hw
 obtain⟨at_,rfl,Qe⟩:=nt hw
 exact⟨0,eT (nv4 Vm.jK (fun r0=>((true,[.int r0]):ke)) s at_ xw Qe)⟩
def NA:Sum:= {ps:=[⟨[.str],false⟩,⟨[.i],false⟩,⟨[.i],false⟩],rs:=[⟨[.dQ .bool],false⟩],fn:=fun ds=>(true,[.bool (qB (rS ds 0) (rI ds 1) (rI ds 2))])}
theorem Sr:DA Tryz.prog 262 NA:=by
 refine nM IU Tryz.func262 fun ds (hw:jI ([.str,.i,.i]) ds) _=> ?_
 obtain⟨s,ds,rfl,_,hw⟩:=Np hw
 obtain⟨at_,ds,rfl,_,hw⟩:=nX hw
 obtain⟨n,rfl,_⟩:=nt hw
 exact⟨0,eT (nou (fun r0=>((true,[.bool r0]):ke)) s at_ n)⟩
def wI:Sum:= {ps:=[⟨[.str],false⟩,⟨[.i],false⟩],rs:=[⟨[.dQ .i],false⟩],fn:=fun ds=>(true,[.int (oM (rS ds 0) (rI ds 1))])}
theorem xZ:DA Tryz.prog 261 wI:=by
 refine nM (Γ:=[(262,NA)]) (Hx Sr IU) Tryz.func261 fun ds (hw:jI ([.str,.i]) ds) _=> ?_
 obtain⟨s,ds,rfl,xw,hw⟩:=Np hw
 obtain⟨at_,rfl,_⟩:=nt hw
 exact⟨0,eT (nwn Vm.jK (fun r0=>((true,[.int r0]):ke)) s at_ xw)⟩
theorem Rg:DA Tryz.prog 290 su:=by
 refine nM (Γ:=[(261,wI),(262,NA)]) (Hx xZ (Hx Sr IU)) Tryz.func290 fun ds (hw:jI ([.str,.i]) ds) _=> ?_
 obtain⟨s,ds,rfl,xw,hw⟩:=Np hw
 obtain⟨at_,rfl,Qe⟩:=nt hw
 exact⟨0,eT (nwo (fun r0=>((true,[.int r0]):ke)) s at_ xw Qe)⟩
def rV:Sum:= {ps:=[⟨[.i],false⟩],rs:=[⟨[.dQ .str],false⟩],fn:=fun ds=>(true,[.str (qb (rI ds 0))])}
theorem N_:DA Tryz.prog 230 rV:=by
 refine nM (Γ:=[(143,nG)]) (Hx oN IU) Tryz.func230 fun ds (hw:jI ([.i]) ds) _=> ?_
 obtain⟨v,rfl,_⟩:=nt hw
 exact⟨0,eT (nh6 (fun r0=>((true,[.str r0]):ke)) v)⟩
theorem Ou:DA Tryz.prog 202 rV:=by
 refine nM (Γ:=[(106,nG)]) (Hx ph IU) Tryz.func202 fun ds (hw:jI ([.i]) ds) _=> ?_
 obtain⟨v,rfl,_⟩:=nt hw
 exact⟨0,eT (nh6 (fun r0=>((true,[.str r0]):ke)) v)⟩
def wh:Sum:= {ps:=[⟨[.str],false⟩],rs:=[⟨[.dQ .i],false⟩],fn:=fun ds=>(true,[.int (neo (rS ds 0))])}
def nbm:List (Nat×kW):=[(3, {bN:=[(0,.mh),(3,.mh),(4,.mh)],boxes:=[]}),(7, {bN:=[(0,.mh),(3,.mh),(4,.mh),(5,.mh)],boxes:=[]})]
def Qp:Int→ke:=(fun r0=>((true,[.int r0]):ke))
def N5 (s:Bytes) (c i:Int):St:= {n:=34,sl:=[(0,.str s),(3,.int .u32 c),(4,.int .i64 i)],hp:=[],ok:=true,ls:=[],lm:=[]}
def SA (s:Bytes) (U4 i k:Int):St:= {n:=34,sl:=[(0,.str s),(3,.int .u32 U4),(4,.int .i64 i),(5,.int .i64 k)],hp:=[],ok:=true,ls:=[],lm:=[]}
noncomputable def Sy (N:Nat) (o0:St→ke):(St→ke)→St→ke:=KR Tryz.prog [] nbm N Tryz.f340 wh [true,true,false,true,false,false,true,false,false,true,true,false] [o0]
noncomputable def Sx (N:Nat):(St→ke)→St→ke:=KR Tryz.prog [] nbm N Tryz.f340 wh [true,true,false,true,false] []
theorem nuo (N:Nat) (o0:St→ke) (s:Bytes) (i:Int) (ih:St→ke) (U4 k:Int):Sy N o0 ih (SA s U4 i k)=Sz Vm.jK Qp (fun c i=>o0 (N5 s c i)) i (fun U4 k=>ih (SA s U4 i k)) U4 k:=by kernel_rfl
theorem nuq (N:Nat) (o0:St→ke) (s:Bytes) (i:Int) (m_:Nat):(fun U4 k=>KS (Sy N o0) m_ (SA s U4 i k))=ub Vm.jK Qp N (fun c i=>o0 (N5 s c i)) i m_:=by
 induction m_ with
 | zero=>rfl
 | succ m_ ih=>
  funext U4 k
  refine (nuo N o0 s i (KS (Sy N o0) m_) U4 k).trans ?_
  rw[ih]
  rfl
theorem nun (N:Nat) (s:Bytes) (ih:St→ke) (c i:Int):Sx N ih (N5 s c i)=N4 Vm.jK Qp (fun i U4 k=>KS (Sy N ih) N (SA s U4 i k)) s (fun c i=>ih (N5 s c i)) c i:=by kernel_rfl
theorem nup (N:Nat) (s:Bytes) (m_:Nat):(fun c i=>KS (Sx N) m_ (N5 s c i))=uX Vm.jK Qp N s m_:=by
 induction m_ with
 | zero=>rfl
 | succ m_ ih=>
  funext c i
  refine (nun N s (KS (Sx N) m_) c i).trans ?_
  have e1:=funext fun i=>nuq N (KS (Sx N) m_) s i N
  rw[e1]
  rw[ih]
  rfl
theorem nv2:DA Tryz.prog 340 wh:=by
 refine qh (A:=nbm) IU Tryz.func340 fun ds (hw:jI ([.str]) ds) _=> ?_
 obtain⟨s,rfl,xw⟩:=p9 hw
 obtain⟨N,hN⟩:=nv1 Vm.jK Qp s xw
 refine⟨N,Eq.trans ?_ (hN.trans (by kernel_rfl))⟩
 unfold nbn
 rw[←nup N s N]
 kernel_rfl
def nbJ:List (Nat×kW):=[(3, {bN:=[(0,.mh),(3,.mh),(4,.mh)],boxes:=[]}),(7, {bN:=[(0,.mh),(3,.mh),(4,.mh),(5,.mh)],boxes:=[]})]
def Re:Int→ke:=(fun r0=>((true,[.int r0]):ke))
def On (s:Bytes) (c i:Int):St:= {n:=32,sl:=[(0,.str s),(3,.int .i64 c),(4,.int .i64 i)],hp:=[],ok:=true,ls:=[],lm:=[]}
def SP (s:Bytes) (U4 i k:Int):St:= {n:=32,sl:=[(0,.str s),(3,.int .i64 U4),(4,.int .i64 i),(5,.int .i64 k)],hp:=[],ok:=true,ls:=[],lm:=[]}
noncomputable def SM (N:Nat) (o0:St→ke):(St→ke)→St→ke:=KR Tryz.prog [] nbJ N Tryz.f339 wh [true,true,false,true,false,false,true,false,false,true,true,false] [o0]
noncomputable def SL (N:Nat):(St→ke)→St→ke:=KR Tryz.prog [] nbJ N Tryz.f339 wh [true,true,false,true,false] []
theorem nvi (N:Nat) (o0:St→ke) (s:Bytes) (i:Int) (ih:St→ke) (U4 k:Int):SM N o0 ih (SP s U4 i k)=SN Vm.jK Re (fun c i=>o0 (On s c i)) i (fun U4 k=>ih (SP s U4 i k)) U4 k:=by kernel_rfl
theorem nvk (N:Nat) (o0:St→ke) (s:Bytes) (i:Int) (m_:Nat):(fun U4 k=>KS (SM N o0) m_ (SP s U4 i k))=ug Vm.jK Re N (fun c i=>o0 (On s c i)) i m_:=by
 induction m_ with
 | zero=>rfl
 | succ m_ ih=>
  funext U4 k
  refine (nvi N o0 s i (KS (SM N o0) m_) U4 k).trans ?_
  rw[ih]
  rfl
theorem nvh (N:Nat) (s:Bytes) (ih:St→ke) (c i:Int):SL N ih (On s c i)=Om Vm.jK Re (fun i U4 k=>KS (SM N ih) N (SP s U4 i k)) s (fun c i=>ih (On s c i)) c i:=by kernel_rfl
theorem nvj (N:Nat) (s:Bytes) (m_:Nat):(fun c i=>KS (SL N) m_ (On s c i))=u0 Vm.jK Re N s m_:=by
 induction m_ with
 | zero=>rfl
 | succ m_ ih=>
  funext c i
  refine (nvh N s (KS (SL N) m_) c i).trans ?_
  have e1:=funext fun i=>nvk N (KS (SL N) m_) s i N
  rw[e1]
  rw[ih]
  rfl
theorem nwm:DA Tryz.prog 339 wh:=by
 refine qh (A:=nbJ) IU Tryz.func339 fun ds (hw:jI ([.str]) ds) _=> ?_
 obtain⟨s,rfl,xw⟩:=p9 hw
 obtain⟨N,hN⟩:=nwl Vm.jK Re s xw
 refine⟨N,Eq.trans ?_ (hN.trans (by kernel_rfl))⟩
 unfold nbK
 rw[←nvj N s N]
 kernel_rfl
def p7:Sum:= {ps:=[⟨[.i],false⟩],rs:=[⟨[.dQ .str],false⟩],fn:=fun ds=>(true,[.str (nO (rI ds 0))])}
theorem ud:DA Tryz.prog 224 p7:=by
 refine nM (Γ:=[(143,nG)]) (Hx oN IU) Tryz.func224 fun ds (hw:jI ([.i]) ds) _=> ?_
 obtain⟨v,rfl,_⟩:=nt hw
 exact⟨0,eT (nhZ (fun r0=>((true,[.str r0]):ke)) v)⟩
theorem u4:DA Tryz.prog 197 p7:=by
 refine nM (Γ:=[(106,nG)]) (Hx ph IU) Tryz.func197 fun ds (hw:jI ([.i]) ds) _=> ?_
 obtain⟨v,rfl,_⟩:=nt hw
 exact⟨0,eT (nhZ (fun r0=>((true,[.str r0]):ke)) v)⟩
def Qj:Sum:= {ps:=[⟨[.i],false⟩,⟨[.i],false⟩],rs:=[⟨[.dQ .i],false⟩],fn:=fun ds=>(true,[.int (nkg (rI ds 0) (rI ds 1))])}
theorem nr9:DA Tryz.prog 336 Qj:=by
 refine nM (Γ:=[(143,nG)]) (Hx oN IU) Tryz.func336 fun ds (hw:jI ([.i,.i]) ds) _=> ?_
 obtain⟨a,ds,rfl,_,hw⟩:=nX hw
 obtain⟨b,rfl,_⟩:=nt hw
 exact⟨0,eT (nez (fun r0=>((true,[.int r0]):ke)) a b)⟩
theorem ntv:DA Tryz.prog 333 Qj:=by
 refine nM (Γ:=[(106,nG)]) (Hx ph IU) Tryz.func333 fun ds (hw:jI ([.i,.i]) ds) _=> ?_
 obtain⟨a,ds,rfl,_,hw⟩:=nX hw
 obtain⟨b,rfl,_⟩:=nt hw
 exact⟨0,eT (nez (fun r0=>((true,[.int r0]):ke)) a b)⟩
def vW:Sum:= {ps:=[⟨[.str],false⟩],rs:=[⟨[.dQ .i],false⟩],fn:=fun ds=>(ss (rS ds 0),[.int (Zg (rS ds 0))])}
def ncx:Ctx:=[(336,Qj)]
theorem npF:bt Tryz.prog ncx:=Hx nr9 IU
def ncw:List (Nat×kW):=[(3, {bN:=[(0,.mh),(3,.mh),(4,.mh)],boxes:=[]})]
def ncy:Int→ke:=(fun r0=>((true,[.int r0]):ke))
def nmK (s:Bytes) (sum i:Int):St:= {n:=33,sl:=[(0,.str s),(3,.int .i64 sum),(4,.int .i64 i)],hp:=[],ok:=true,ls:=[],lm:=[]}
theorem npE:DA Tryz.prog 327 vW:=by
 refine qh (A:=ncw) npF Tryz.func327 fun ds (hw:jI ([.str]) ds) aF=> ?_
 obtain⟨s,rfl,xw⟩:=p9 hw
 obtain⟨N,hN⟩:=npD Vm.jK ncy s xw aF
 exact⟨N,eL (fun l_=>TC Vm.jK ncy l_ s) (Tm (KR Tryz.prog ncx ncw N Tryz.f327 vW [true,true,false,true,false] []) (nmK s) _ N) hN⟩
def ndY:Ctx:=[(333,Qj)]
theorem nru:bt Tryz.prog ndY:=Hx ntv IU
def ndX:List (Nat×kW):=[(3, {bN:=[(0,.mh),(3,.mh),(4,.mh)],boxes:=[]})]
def ndZ:Int→ke:=(fun r0=>((true,[.int r0]):ke))
def nop (s:Bytes) (sum i:Int):St:= {n:=33,sl:=[(0,.str s),(3,.int .i64 sum),(4,.int .i64 i)],hp:=[],ok:=true,ls:=[],lm:=[]}
theorem nrt:DA Tryz.prog 324 vW:=by
 refine qh (A:=ndX) nru Tryz.func324 fun ds (hw:jI ([.str]) ds) aF=> ?_
 obtain⟨s,rfl,xw⟩:=p9 hw
 obtain⟨N,hN⟩:=nrs Vm.jK ndZ s xw aF
 exact⟨N,eL (fun l_=>T5 Vm.jK ndZ l_ s) (Tm (KR Tryz.prog ndY ndX N Tryz.f324 vW [true,true,false,true,false] []) (nop s) _ N) hN⟩
def tw:Sum:= {ps:=[⟨[.str],false⟩],rs:=[⟨[.dQ .i],false⟩],fn:=fun ds=>(ss (rS ds 0),[.int (rM (rS ds 0))])}
theorem Tt:DA Tryz.prog 302 tw:=by
 refine nM (Γ:=[(327,vW)]) (Hx npE IU) Tryz.func302 fun ds (hw:jI ([.str]) ds) aF=> ?_
 obtain⟨s,rfl,_⟩:=p9 hw
 exact⟨0,eT (nbT Vm.jK (fun r0=>((true,[.int r0]):ke)) s aF)⟩
theorem TW:DA Tryz.prog 288 tw:=by
 refine nM (Γ:=[(324,vW)]) (Hx nrt IU) Tryz.func288 fun ds (hw:jI ([.str]) ds) aF=> ?_
 obtain⟨s,rfl,_⟩:=p9 hw
 exact⟨0,eT (nbT Vm.jK (fun r0=>((true,[.int r0]):ke)) s aF)⟩
def rT:Sum:= {ps:=[⟨[.str],false⟩,⟨[.i],false⟩,⟨[.str],false⟩],rs:=[⟨[.dQ .str],false⟩],fn:=fun ds=>(oE (rS ds 0) (rI ds 1) (rS ds 2),[.str (pH (rS ds 0) (rI ds 1) (rS ds 2))])}
theorem OB:DA Tryz.prog 223 rT:=by
 refine nM IU Tryz.func223 fun ds (hw:jI ([.str,.i,.str]) ds) aF=> ?_
 obtain⟨s,ds,rfl,_,hw⟩:=Np hw
 obtain⟨at_,ds,rfl,_,hw⟩:=nX hw
 obtain⟨part,rfl,_⟩:=p9 hw
 exact⟨0,eT (npw Vm.jK (fun r0=>((true,[.str r0]):ke)) s at_ part aF)⟩
theorem O4:DA Tryz.prog 196 rT:=by
 refine nM (Γ:=[(262,NA)]) (Hx Sr IU) Tryz.func196 fun ds (hw:jI ([.str,.i,.str]) ds) aF=> ?_
 obtain⟨s,ds,rfl,_,hw⟩:=Np hw
 obtain⟨at_,ds,rfl,_,hw⟩:=nX hw
 obtain⟨part,rfl,_⟩:=p9 hw
 exact⟨0,eT (nrk Vm.jK (fun r0=>((true,[.str r0]):ke)) s at_ part aF)⟩
def tr:Sum:= {ps:=[⟨[.i],false⟩,⟨[.i],false⟩,⟨[.i],false⟩,⟨[.i],false⟩],rs:=[⟨[.dQ .str],false⟩,⟨[.dQ .bool],false⟩],fn:=fun ds=>(true,[.str (pz (rI ds 0) (rI ds 1) (rI ds 2) (rI ds 3)).1]++[.bool (pz (rI ds 0) (rI ds 1) (rI ds 2) (rI ds 3)).2])}
theorem Un:DA Tryz.prog 300 tr:=by
 refine nM (Γ:=[(143,nG),(224,p7),(230,rV)]) (Hx oN (Hx ud (Hx N_ IU))) Tryz.func300 fun ds (hw:jI ([.i,.i,.i,.i]) ds) _=> ?_
 obtain⟨src,ds,rfl,_,hw⟩:=nX hw
 obtain⟨dst,ds,rfl,_,hw⟩:=nX hw
 obtain⟨kind,ds,rfl,_,hw⟩:=nX hw
 obtain⟨length,rfl,_⟩:=nt hw
 exact⟨0,eT (Um Vm.jK (fun r0 r1=>((true,[.str r0]++[.bool r1]):ke)) src dst kind length)⟩
theorem UY:DA Tryz.prog 289 tr:=by
 refine nM (Γ:=[(106,nG),(197,p7),(202,rV)]) (Hx ph (Hx u4 (Hx Ou IU))) Tryz.func289 fun ds (hw:jI ([.i,.i,.i,.i]) ds) _=> ?_
 obtain⟨src,ds,rfl,_,hw⟩:=nX hw
 obtain⟨dst,ds,rfl,_,hw⟩:=nX hw
 obtain⟨kind,ds,rfl,_,hw⟩:=nX hw
 obtain⟨length,rfl,_⟩:=nt hw
 exact⟨0,eT (Um Vm.jK (fun r0 r1=>((true,[.str r0]++[.bool r1]):ke)) src dst kind length)⟩
def ON:Sum:= {ps:=[⟨[.i],false⟩],rs:=[⟨[.dQ .i],false⟩],fn:=fun ds=>(true,[.int (p_ (rI ds 0))])}
theorem TJ:DA Tryz.prog 277 ON:=by
 refine nM IU Tryz.func277 fun ds (hw:jI ([.i]) ds) _=> ?_
 obtain⟨kind,rfl,_⟩:=nt hw
 exact⟨0,eT (npV (fun r0=>((true,[.int r0]):ke)) kind)⟩
def VH:Sum:= {ps:=[⟨nz.ct,true⟩],rs:=[⟨[.dQ .str],false⟩],fn:=fun ds=>(nvV (nz.na ds 0),[.str (pf (nz.na ds 0))])}
theorem njg:DA Tryz.prog 315 VH:=by
 refine nM (Γ:=[(224,p7),(230,rV)]) (Hx ud (Hx N_ IU)) Tryz.func315 fun ds (hw:jI (nz.ct++[]) ds) aF=> ?_
 obtain⟨g,ds,rfl,_,hw⟩:=nz.nB (r:=_) hw
 obtain rfl:=nm hw
 exact⟨0,eT (njf Vm.jK (fun r0=>((true,[.str r0]):ke)) g aF)⟩
def tn:Sum:= {ps:=[⟨[.i],false⟩,⟨[.i],false⟩,⟨nz.ct,true⟩],rs:=[⟨[.dQ .str],false⟩,⟨[.dQ .bool],false⟩],fn:=fun ds=>(true,[.str (rm (rI ds 0) (rI ds 1) (nz.na ds 2)).1]++[.bool (rm (rI ds 0) (rI ds 1) (nz.na ds 2)).2])}
theorem Uc:DA Tryz.prog 272 tn:=by
 refine nM (Γ:=[(219,ve),(223,rT),(224,p7),(277,ON),(300,tr),(302,tw),(315,VH)]) (Hx Zq (Hx OB (Hx ud (Hx TJ (Hx Un (Hx Tt (Hx njg IU))))))) Tryz.func272 fun ds (hw:jI (.i::(.i::(nz.ct++[]))) ds) _=> ?_
 obtain⟨src,ds,rfl,_,hw⟩:=nX hw
 obtain⟨dst,ds,rfl,_,hw⟩:=nX hw
 obtain⟨g,ds,rfl,_,hw⟩:=nz.nB (r:=_) hw
 obtain rfl:=nm hw
 exact⟨0,eT (ng4 Vm.jK (fun r0 r1=>((true,[.str r0]++[.bool r1]):ke)) src dst g)⟩
theorem UP:DA Tryz.prog 257 tn:=by
 refine nM (Γ:=[(196,rT),(197,p7),(202,rV),(256,ve),(288,tw),(289,tr)]) (Hx O4 (Hx u4 (Hx Ou (Hx naZ (Hx TW (Hx UY IU)))))) Tryz.func257 fun ds (hw:jI (.i::(.i::(nz.ct++[]))) ds) _=> ?_
 obtain⟨src,ds,rfl,_,hw⟩:=nX hw
 obtain⟨dst,ds,rfl,_,hw⟩:=nX hw
 obtain⟨g,ds,rfl,_,hw⟩:=nz.nB (r:=_) hw
 obtain rfl:=nm hw
 exact⟨0,eT (nhF Vm.jK (fun r0 r1=>((true,[.str r0]++[.bool r1]):ke)) src dst g)⟩
def Xv:Sum:= {ps:=[⟨wV.ct,true⟩],rs:=[⟨[.dQ .bool],false⟩],fn:=fun ds=>(true,[.bool (nvO (wV.na ds 0))])}
theorem nwR:DA Tryz.prog 330 Xv:=by
 refine nM (Γ:=[(143,nG)]) (Hx oN IU) Tryz.func330 fun ds (hw:jI (wV.ct++[]) ds) _=> ?_
 obtain⟨d,ds,rfl,_,hw⟩:=wV.nB (r:=_) hw
 obtain rfl:=nm hw
 exact⟨0,eT (noP (fun r0=>((true,[.bool r0]):ke)) d)⟩
theorem nw5:DA Tryz.prog 329 Xv:=by
 refine nM (Γ:=[(106,nG)]) (Hx ph IU) Tryz.func329 fun ds (hw:jI (wV.ct++[]) ds) _=> ?_
 obtain⟨d,ds,rfl,_,hw⟩:=wV.nB (r:=_) hw
 obtain rfl:=nm hw
 exact⟨0,eT (noP (fun r0=>((true,[.bool r0]):ke)) d)⟩
def Oz:Sum:= {ps:=[⟨wV.ct,true⟩],rs:=[⟨[.dQ .str],false⟩,⟨[.dQ .bool],false⟩],fn:=fun ds=>(true,[.str (vk (wV.na ds 0)).1]++[.bool (vk (wV.na ds 0)).2])}
theorem npq:DA Tryz.prog 316 Oz:=by
 refine nM (Γ:=[(223,rT),(224,p7),(230,rV),(302,tw),(330,Xv)]) (Hx OB (Hx ud (Hx N_ (Hx Tt (Hx nwR IU))))) Tryz.func316 fun ds (hw:jI (wV.ct++[]) ds) _=> ?_
 obtain⟨d,ds,rfl,_,hw⟩:=wV.nB (r:=_) hw
 obtain rfl:=nm hw
 exact⟨0,eT (nca Vm.jK (fun r0 r1=>((true,[.str r0]++[.bool r1]):ke)) d)⟩
theorem nrd:DA Tryz.prog 308 Oz:=by
 refine nM (Γ:=[(196,rT),(197,p7),(202,rV),(288,tw),(329,Xv)]) (Hx O4 (Hx u4 (Hx Ou (Hx TW (Hx nw5 IU))))) Tryz.func308 fun ds (hw:jI (wV.ct++[]) ds) _=> ?_
 obtain⟨d,ds,rfl,_,hw⟩:=wV.nB (r:=_) hw
 obtain rfl:=nm hw
 exact⟨0,eT (nca Vm.jK (fun r0 r1=>((true,[.str r0]++[.bool r1]):ke)) d)⟩
def xi:Sum:= {ps:=[⟨wV.ct,true⟩],rs:=[⟨[.dQ .str],false⟩,⟨[.dQ .bool],false⟩],fn:=fun ds=>(true,[.str (Ov (wV.na ds 0)).1]++[.bool (Ov (wV.na ds 0)).2])}
theorem neC:DA Tryz.prog 273 xi:=by
 refine nM (Γ:=[(316,Oz)]) (Hx npq IU) Tryz.func273 fun ds (hw:jI (wV.ct++[]) ds) _=> ?_
 obtain⟨d,ds,rfl,_,hw⟩:=wV.nB (r:=_) hw
 obtain rfl:=nm hw
 exact⟨0,eT (neB Vm.jK (fun r0 r1=>((true,[.str r0]++[.bool r1]):ke)) d)⟩
theorem nfX:DA Tryz.prog 258 xi:=by
 refine nM (Γ:=[(308,Oz)]) (Hx nrd IU) Tryz.func258 fun ds (hw:jI (wV.ct++[]) ds) _=> ?_
 obtain⟨d,ds,rfl,_,hw⟩:=wV.nB (r:=_) hw
 obtain rfl:=nm hw
 exact⟨0,eT (neB Vm.jK (fun r0 r1=>((true,[.str r0]++[.bool r1]):ke)) d)⟩
def Qw:Sum:= {ps:=[⟨[.str],false⟩],rs:=[⟨[.dQ .str],false⟩],fn:=fun ds=>(true,[.str (Ss (rS ds 0))])}
theorem nsg:DA Tryz.prog 275 Qw:=by
 refine nM (Γ:=[(319,YQ)]) (Hx nuC IU) Tryz.func275 fun ds (hw:jI ([.str]) ds) _=> ?_
 obtain⟨s,rfl,xw⟩:=p9 hw
 exact⟨0,eT (nsf Vm.jK (fun r0=>((true,[.str r0]):ke)) s xw)⟩
theorem ntD:DA Tryz.prog 260 Qw:=by
 refine nM (Γ:=[(311,W4)]) (Hx ntQ IU) Tryz.func260 fun ds (hw:jI ([.str]) ds) _=> ?_
 obtain⟨s,rfl,xw⟩:=p9 hw
 exact⟨0,eT (ntC Vm.jK (fun r0=>((true,[.str r0]):ke)) s xw)⟩
def zK:Sum:= {ps:=[⟨qI.ct,true⟩],rs:=[⟨[.dQ .bool],false⟩],fn:=fun ds=>(true,[.bool (vP (qI.na ds 0))])}
theorem nkx:DA Tryz.prog 317 zK:=by
 refine nM (Γ:=[(143,nG)]) (Hx oN IU) Tryz.func317 fun ds (hw:jI (qI.ct++[]) ds) _=> ?_
 obtain⟨e,ds,rfl,_,hw⟩:=qI.nB (r:=_) hw
 obtain rfl:=nm hw
 exact⟨0,eT (nkw (fun r0=>((true,[.bool r0]):ke)) e)⟩
theorem nmc:DA Tryz.prog 309 zK:=by
 refine nM (Γ:=[(106,nG)]) (Hx ph IU) Tryz.func309 fun ds (hw:jI (qI.ct++[]) ds) _=> ?_
 obtain⟨e,ds,rfl,_,hw⟩:=qI.nB (r:=_) hw
 obtain rfl:=nm hw
 exact⟨0,eT (nkw (fun r0=>((true,[.bool r0]):ke)) e)⟩
def OM:Sum:= {ps:=[⟨[.i],false⟩],rs:=[⟨[.dQ .str],false⟩],fn:=fun ds=>(true,[.str (pb (rI ds 0))])}
theorem npU:DA Tryz.prog 318 OM:=by
 refine nM (Γ:=[(224,p7),(230,rV)]) (Hx ud (Hx N_ IU)) Tryz.func318 fun ds (hw:jI ([.i]) ds) _=> ?_
 obtain⟨a,rfl,_⟩:=nt hw
 exact⟨0,eT (ncO Vm.jK (fun r0=>((true,[.str r0]):ke)) a)⟩
theorem nmu:DA Tryz.prog 310 OM:=by
 refine nM (Γ:=[(197,p7),(202,rV)]) (Hx u4 (Hx Ou IU)) Tryz.func310 fun ds (hw:jI ([.i]) ds) _=> ?_
 obtain⟨x,rfl,_⟩:=nt hw
 exact⟨0,eT (ncO Vm.jK (fun r0=>((true,[.str r0]):ke)) x)⟩
def Ow:Sum:= {ps:=[⟨qI.ct,true⟩],rs:=[⟨[.dQ .str],false⟩,⟨[.dQ .bool],false⟩],fn:=fun ds=>(true,[.str (v_ (qI.na ds 0)).1]++[.bool (v_ (qI.na ds 0)).2])}
theorem npe:DA Tryz.prog 274 Ow:=by
 refine nM (Γ:=[(224,p7),(317,zK),(318,OM)]) (Hx ud (Hx nkx (Hx npU IU))) Tryz.func274 fun ds (hw:jI (qI.ct++[]) ds) _=> ?_
 obtain⟨e,ds,rfl,_,hw⟩:=qI.nB (r:=_) hw
 obtain rfl:=nm hw
 exact⟨0,eT (npd Vm.jK (fun r0 r1=>((true,[.str r0]++[.bool r1]):ke)) e)⟩
theorem nq3:DA Tryz.prog 259 Ow:=by
 refine nM (Γ:=[(197,p7),(309,zK),(310,OM)]) (Hx u4 (Hx nmc (Hx nmu IU))) Tryz.func259 fun ds (hw:jI (qI.ct++[]) ds) _=> ?_
 obtain⟨e,ds,rfl,_,hw⟩:=qI.nB (r:=_) hw
 obtain rfl:=nm hw
 exact⟨0,eT (nq2 Vm.jK (fun r0 r1=>((true,[.str r0]++[.bool r1]):ke)) e)⟩
def sb:Sum:= {ps:=[⟨nk.ct,true⟩],rs:=[⟨[.dQ .str],false⟩,⟨[.dQ .bool],false⟩],fn:=fun ds=>(true,[.str (nU (nk.na ds 0)).1]++[.bool (nU (nk.na ds 0)).2])}
theorem Qk:DA Tryz.prog 221 sb:=by
 refine nM (Γ:=[(148,ru),(272,tn),(273,xi),(274,Ow),(275,Qw)]) (Hx zn (Hx Uc (Hx neC (Hx npe (Hx nsg IU))))) Tryz.func221 fun ds (hw:jI (nk.ct++[]) ds) _=> ?_
 obtain⟨p,ds,rfl,_,hw⟩:=nk.nB (r:=_) hw
 obtain rfl:=nm hw
 exact⟨0,eT (Xn (fun r0 r1=>((true,[.str r0]++[.bool r1]):ke)) p)⟩
theorem Q_:DA Tryz.prog 194 sb:=by
 refine nM (Γ:=[(192,ru),(257,tn),(258,xi),(259,Ow),(260,Qw)]) (Hx zD (Hx UP (Hx nfX (Hx nq3 (Hx ntD IU))))) Tryz.func194 fun ds (hw:jI (nk.ct++[]) ds) _=> ?_
 obtain⟨p,ds,rfl,_,hw⟩:=nk.nB (r:=_) hw
 obtain rfl:=nm hw
 exact⟨0,eT (Xn (fun r0 r1=>((true,[.str r0]++[.bool r1]):ke)) p)⟩
def OA:Sum:= {ps:=[⟨nk.ct,true⟩],rs:=[⟨[.dQ .bool],false⟩],fn:=fun ds=>(true,[.bool (Ve (nk.na ds 0))])}
theorem nps:DA Tryz.prog 337 OA:=by
 refine nM (Γ:=[(148,ru)]) (Hx zn IU) Tryz.func337 fun ds (hw:jI (nk.ct++[]) ds) _=> ?_
 obtain⟨p,ds,rfl,_,hw⟩:=nk.nB (r:=_) hw
 obtain rfl:=nm hw
 exact⟨0,eT (ncf (fun r0=>((true,[.bool r0]):ke)) p)⟩
theorem nrf:DA Tryz.prog 334 OA:=by
 refine nM (Γ:=[(192,ru)]) (Hx zD IU) Tryz.func334 fun ds (hw:jI (nk.ct++[]) ds) _=> ?_
 obtain⟨p,ds,rfl,_,hw⟩:=nk.nB (r:=_) hw
 obtain rfl:=nm hw
 exact⟨0,eT (ncf (fun r0=>((true,[.bool r0]):ke)) p)⟩
def nkV:Sum:= {ps:=[⟨[.sl [.i,.i,.i,.bool]],false⟩,⟨[.i],false⟩,⟨[.i],false⟩,⟨[.bool],false⟩],rs:=[⟨[.dQ .i],false⟩],fn:=fun ds=>(true,[.int (place (rR ds 0) (rI ds 1) (rI ds 2) (rB ds 3))])}
theorem nv_:DA Tryz.prog 331 nkV:=by
 refine nM (Γ:=[(212,xP)]) (Hx VT IU) Tryz.func331 fun ds (hw:jI ([.sl [.i,.i,.i,.bool],.i,.i,.bool]) ds) _=> ?_
 obtain⟨list_,ds,rfl,pg,hw⟩:=oh hw
 obtain⟨domain,ds,rfl,_,hw⟩:=nX hw
 obtain⟨address,ds,rfl,_,hw⟩:=nX hw
 obtain⟨write,rfl,_⟩:=Yq hw
 exact⟨0,eT (nv9 Vm.jK (fun r0=>((true,[.int r0]):ke)) list_ domain address write pg)⟩
def yx:Sum:= {ps:=[⟨nd.ct,true⟩,⟨[.i],false⟩,⟨[.i],false⟩],rs:=[⟨[.dQ .bool],false⟩],fn:=fun ds=>(true,[.bool (within (nd.na ds 0) (rI ds 1) (rI ds 2))])}
theorem nik:DA Tryz.prog 332 yx:=by
 refine nM (Γ:=[(139,rQ)]) (Hx Tw IU) Tryz.func332 fun ds hw _=> ?_
 replace hw:jI (nd.ct++[.i,.i]) ds:=hw
 obtain⟨m,ds,rfl,_,hw⟩:=nd.nB (r:=_) hw
 obtain⟨at_,ds,rfl,_,hw⟩:=nX hw
 obtain⟨n,rfl,_⟩:=nt hw
 exact⟨0,eT (nuJ (fun r0=>((true,[.bool r0]):ke)) m at_ n)⟩
theorem na5:DA Tryz.prog 313 yx:=by
 refine nM (Γ:=[(102,rQ)]) (Hx TZ IU) Tryz.func313 fun ds hw _=> ?_
 replace hw:jI (nd.ct++[.i,.i]) ds:=hw
 obtain⟨m,ds,rfl,Vk,hw⟩:=nd.nB (r:=_) hw
 obtain⟨at_,ds,rfl,Qe,hw⟩:=nX hw
 obtain⟨n,rfl,h_n⟩:=nt hw
 exact⟨0,eT (nov (fun r0=>((true,[.bool r0]):ke)) m at_ n Vk Qe h_n)⟩
def YS:Sum:= {ps:=[⟨[.sl [.i,.i,.i,.bool]],false⟩,⟨nd.ct,true⟩,⟨[.i],false⟩,⟨[.i],false⟩,⟨[.i],false⟩,⟨[.bool],false⟩],rs:=[⟨[.own 352 [.i,.i]],false⟩,⟨[.dQ .bool],false⟩],fn:=fun ds=>(true,[.sl (uI (rR ds 0) (nd.na ds 1) (rI ds 2) (rI ds 3) (rI ds 4) (rB ds 5)).1]++[.bool (uI (rR ds 0) (nd.na ds 1) (rI ds 2) (rI ds 3) (rI ds 4) (rB ds 5)).2])}
def nie:Ctx:=[(139,rQ),(140,rD),(143,nG),(331,nkV),(332,yx)]
theorem nuF:bt Tryz.prog nie:=Hx Tw (Hx XA (Hx oN (Hx nv_ (Hx nik IU))))
def nic:List (Nat×kW):=[(8, {bN:=[(0,.mh),(2,.mh),(3,.mh),(4,.mh),(5,.mh),(7,.mh),(14,.mh)],boxes:=[(448,[])]})]
def nif:Rows→Bool→ke:=(fun r0 r1=>((true,[.sl r0]++[.bool r1]):ke))
def nsw (list_:Rows) (domain vO n_1:Int) (write:Bool) (qi nD:Rows):St:= {n:=75,sl:=[(0,.sl [.i,.i,.i,.bool] list_),(2,.int .i64 domain),(3,.int .i64 vO),(4,.int .i64 n_1),(5,.bool write),(7,.ptr 448 0),(14,.own 640896)],hp:=[(448,.box 59 [.sl [.str] qi]),(640896,.row 352 [.i,.i] nD false true)],ok:=true,ls:=[],lm:=[]}
theorem nuE:DA Tryz.prog 320 YS:=by
 refine qh (A:=nic) nuF Tryz.func320 fun ds hw _=> ?_
 replace hw:jI ((.sl [.i,.i,.i,.bool])::(nd.ct++[.i,.i,.i,.bool])) ds:=hw
 obtain⟨list_,ds,rfl,_,hw⟩:=oh hw
 obtain⟨m,ds,rfl,_,hw⟩:=nd.nB (r:=_) hw
 obtain⟨domain,ds,rfl,_,hw⟩:=nX hw
 obtain⟨at_,ds,rfl,Qe,hw⟩:=nX hw
 obtain⟨n,ds,rfl,_,hw⟩:=nX hw
 obtain⟨write,rfl,_⟩:=Yq hw
 obtain⟨N,hN⟩:=nuD Vm.jK nif list_ m domain at_ n write Qe
 exact⟨N,eL (fun l_=>YT Vm.jK nif l_ list_ m domain at_ n write) (funext fun qi=>nL3 (KR Tryz.prog nie nic N Tryz.f320 YS [true,true,true,true,true,false,false] []) (fun vO n_1 nD=>nsw list_ domain vO n_1 write qi nD) _ N) hN⟩
def W8:Sum:= {ps:=[⟨[.sl [.i,.i,.i,.bool]],false⟩,⟨[.i],false⟩,⟨[.i],false⟩,⟨[.bool],false⟩],rs:=[⟨[.dQ .i],false⟩],fn:=fun ds=>(true,[.int (w7 (rR ds 0) (rI ds 1) (rI ds 2) (rB ds 3))])}
def ngt:List (Nat×kW):=[(2, {bN:=[(0,.mh),(1,.mh),(2,.mh),(3,.mh),(9,.mh)],boxes:=[]})]
def ngu:Int→ke:=(fun r0=>((true,[.int r0]):ke))
def nrB (list_:Rows) (domain o_:Int) (write:Bool) (k:Int):St:= {n:=48,sl:=[(0,.sl [.i,.i,.i,.bool] list_),(1,.int .i64 domain),(2,.int .i64 o_),(3,.bool write),(9,.int .i64 k)],hp:=[],ok:=true,ls:=[],lm:=[]}
theorem nt2:DA Tryz.prog 312 W8:=by
 refine qh (A:=ngt) IU Tryz.func312 fun ds (hw:jI ([.sl [.i,.i,.i,.bool],.i,.i,.bool]) ds) _=> ?_
 obtain⟨list_,ds,rfl,pg,hw⟩:=oh hw
 obtain⟨domain,ds,rfl,_,hw⟩:=nX hw
 obtain⟨o_,ds,rfl,_,hw⟩:=nX hw
 obtain⟨write,rfl,_⟩:=Yq hw
 obtain⟨N,hN⟩:=nt1 Vm.jK ngu list_ domain o_ write pg
 exact⟨N,eL (fun l_=>W9 Vm.jK ngu l_ list_ domain o_ write) (nL1 (KR Tryz.prog [] ngt N Tryz.f312 W8 [true,false,true,false] []) (nrB list_ domain o_ write) _ N) hN⟩
def T7:Sum:= {ps:=[⟨[.sl [.i,.i,.i,.bool]],false⟩,⟨nd.ct,true⟩,⟨[.i],false⟩,⟨[.i],false⟩,⟨[.i],false⟩,⟨[.bool],false⟩],rs:=[⟨[.own 3 [.i]],false⟩,⟨[.own 3 [.i]],false⟩,⟨[.dQ .bool],false⟩],fn:=fun ds=>(true,[.sl (QK (rR ds 0) (nd.na ds 1) (rI ds 2) (rI ds 3) (rI ds 4) (rB ds 5)).1]++[.sl (QK (rR ds 0) (nd.na ds 1) (rI ds 2) (rI ds 3) (rI ds 4) (rB ds 5)).2.1]++[.bool (QK (rR ds 0) (nd.na ds 1) (rI ds 2) (rI ds 3) (rI ds 4) (rB ds 5)).2.2])}
def nd3:Ctx:=[(102,rQ),(103,rD),(106,nG),(312,W8),(313,yx)]
theorem nrE:bt Tryz.prog nd3:=Hx TZ (Hx Yt (Hx ph (Hx nt2 (Hx na5 IU))))
def nd2:List (Nat×kW):=[(5, {bN:=[(0,.mh),(2,.mh),(3,.mh),(4,.mh),(5,.mh),(7,.mh),(15,.mh),(16,.mh)],boxes:=[(448,[])]})]
def nd4:Rows→Rows→Bool→ke:=(fun r0 r1 r2=>((true,[.sl r0]++[.sl r1]++[.bool r2]):ke))
def nox (list_:Rows) (domain vO n_1:Int) (write:Bool) (qi starts tg:Rows):St:= {n:=83,sl:=[(0,.sl [.i,.i,.i,.bool] list_),(2,.int .i64 domain),(3,.int .i64 vO),(4,.int .i64 n_1),(5,.bool write),(7,.ptr 448 0),(15,.own 640960),(16,.own 641024)],hp:=[(448,.box 59 [.sl [.str] qi]),(640960,.row 3 [.i] starts false true),(641024,.row 3 [.i] tg false true)],ok:=true,ls:=[],lm:=[]}
theorem nrD:DA Tryz.prog 263 T7:=by
 refine qh (A:=nd2) nrE Tryz.func263 fun ds hw _=> ?_
 replace hw:jI ((.sl [.i,.i,.i,.bool])::(nd.ct++[.i,.i,.i,.bool])) ds:=hw
 obtain⟨list_,ds,rfl,_,hw⟩:=oh hw
 obtain⟨m,ds,rfl,Vk,hw⟩:=nd.nB (r:=_) hw
 obtain⟨domain,ds,rfl,_,hw⟩:=nX hw
 obtain⟨at_,ds,rfl,Qe,hw⟩:=nX hw
 obtain⟨n,ds,rfl,_,hw⟩:=nX hw
 obtain⟨write,rfl,_⟩:=Yq hw
 obtain⟨N,hN⟩:=nrC Vm.jK nd4 list_ m domain at_ n write Vk Qe
 exact⟨N,eL (fun l_=>T8 Vm.jK nd4 l_ list_ m domain at_ n write) (funext fun qi=>nL4 (KR Tryz.prog nd3 nd2 N Tryz.f263 T7 [true,true,true,true,false,false] []) (fun vO n_1 starts tg=>nox list_ domain vO n_1 write qi starts tg) _ N) hN⟩
def uy:Sum:= {ps:=[⟨nd.ct,true⟩,⟨[.i],false⟩,⟨[.i],false⟩],rs:=[⟨[.dQ .str],false⟩,⟨[.dQ .bool],false⟩],fn:=fun ds=>(true,[.str (qu (nd.na ds 0) (rI ds 1) (rI ds 2)).1]++[.bool (qu (nd.na ds 0) (rI ds 1) (rI ds 2)).2])}
def XC:Ctx:=[(332,yx)]
theorem nkE:bt Tryz.prog XC:=Hx nik IU
def XB:List (Nat×kW):=[(4, {bN:=[(1,.mh),(2,.mh),(3,.mh),(8,.mh)],boxes:=[(192,[])]})]
def XD:Bytes→Bool→ke:=(fun r0 r1=>((true,[.str r0]++[.bool r1]):ke))
def ni6 (vO n:Int) (qi nD:Rows):St:= {n:=50,sl:=[(1,.int .i64 vO),(2,.int .i64 n),(3,.ptr 192 0),(8,.own 640512)],hp:=[(192,.box 59 [.sl [.str] qi]),(640512,.row 5 [.int .u8] nD false true)],ok:=true,ls:=[],lm:=[]}
theorem nkD:DA Tryz.prog 326 uy:=by
 refine qh (A:=XB) nkE Tryz.func326 fun ds hw _=> ?_
 replace hw:jI (nd.ct++[.i,.i]) ds:=hw
 obtain⟨m,ds,rfl,Vk,hw⟩:=nd.nB (r:=_) hw
 obtain⟨at_,ds,rfl,_,hw⟩:=nX hw
 obtain⟨n,rfl,_⟩:=nt hw
 obtain⟨N,hN⟩:=nkC Vm.jK XD m at_ n Vk
 exact⟨N,eL (fun l_=>QB Vm.jK XD l_ m at_ n) (funext fun qi=>Tm (KR Tryz.prog XC XB N Tryz.f326 uy [true,true,true,false,false] []) (fun vO nD=>ni6 vO n qi nD) _ N) hN⟩
def Yw:Ctx:=[(313,yx)]
theorem nmj:bt Tryz.prog Yw:=Hx na5 IU
def Yv:List (Nat×kW):=[(4, {bN:=[(1,.mh),(2,.mh),(3,.mh),(8,.mh)],boxes:=[(192,[])]})]
def Yx:Bytes→Bool→ke:=(fun r0 r1=>((true,[.str r0]++[.bool r1]):ke))
def nj1 (vO n_1:Int) (nD:Bytes) (qi:Rows):St:= {n:=44,sl:=[(1,.int .i64 vO),(2,.int .i64 n_1),(3,.ptr 192 0),(8,.str nD)],hp:=[(192,.box 59 [.sl [.str] qi])],ok:=true,ls:=[],lm:=[]}
theorem nmi:DA Tryz.prog 323 uy:=by
 refine qh (A:=Yv) nmj Tryz.func323 fun ds hw _=> ?_
 replace hw:jI (nd.ct++[.i,.i]) ds:=hw
 obtain⟨m,ds,rfl,Vk,hw⟩:=nd.nB (r:=_) hw
 obtain⟨at_,ds,rfl,_,hw⟩:=nX hw
 obtain⟨n,rfl,_⟩:=nt hw
 obtain⟨N,hN⟩:=nmh Vm.jK Yx m at_ n Vk
 exact⟨N,eL (fun l_=>Rq Vm.jK Yx l_ m at_ n) (funext fun qi=>nL3 (KR Tryz.prog Yw Yv N Tryz.f323 uy [true,true,true,false,false] []) (fun vO n_1 nD=>nj1 vO n_1 nD qi) _ N) hN⟩
def uj:Sum:= {ps:=[⟨[.sl [.i,.i,.i,.bool]],false⟩,⟨nd.ct,true⟩,⟨[.i],false⟩,⟨[.i],false⟩,⟨[.i],false⟩],rs:=[⟨[.dQ .str],false⟩,⟨[.dQ .bool],false⟩],fn:=fun ds=>(true,[.str (ua (rR ds 0) (nd.na ds 1) (rI ds 2) (rI ds 3) (rI ds 4)).1]++[.bool (ua (rR ds 0) (nd.na ds 1) (rI ds 2) (rI ds 3) (rI ds 4)).2])}
def neF:Ctx:=[(320,YS),(326,uy)]
theorem nsa:bt Tryz.prog neF:=Hx nuE (Hx nkD IU)
def neE:List (Nat×kW):=[(6, {bN:=[(6,.mh),(14,.mh),(30,.mh),(31,.mh),(32,.mh)],boxes:=[(384,[])]})]
def neG:Bytes→Bool→ke:=(fun r0 r1=>((true,[.str r0]++[.bool r1]):ke))
def npf (nD:Bytes) (x nZ:Int) (qi om:Rows):St:= {n:=50,sl:=[(6,.ptr 384 0),(14,.str nD),(30,.own 641920),(31,.int .i64 x),(32,.int .i64 nZ)],hp:=[(384,.box 59 [.sl [.str] qi]),(641920,.row 352 [.i,.i] om false true)],ok:=true,ls:=[],lm:=[]}
theorem neI:DA Tryz.prog 298 uj:=by
 refine qh (A:=neE) nsa Tryz.func298 fun ds hw _=> ?_
 replace hw:jI ((.sl [.i,.i,.i,.bool])::(nd.ct++[.i,.i,.i])) ds:=hw
 obtain⟨list_,ds,rfl,_,hw⟩:=oh hw
 obtain⟨m,ds,rfl,Vk,hw⟩:=nd.nB (r:=_) hw
 obtain⟨domain,ds,rfl,_,hw⟩:=nX hw
 obtain⟨at_,ds,rfl,_,hw⟩:=nX hw
 obtain⟨n,rfl,_⟩:=nt hw
 obtain⟨N,hN⟩:=nr_ Vm.jK neG list_ m domain at_ n Vk
 exact⟨N,eL (fun l_=>Vq Vm.jK neG l_ list_ m domain at_ n) (funext fun x=>funext fun qi=>funext fun om=>Tm (KR Tryz.prog neF neE N Tryz.f298 uj [true,true,true,true,false,true,false] []) (fun nD nZ=>npf nD x nZ qi om) _ N) hN⟩
def nfZ:Ctx:=[(263,T7),(323,uy)]
theorem ntx:bt Tryz.prog nfZ:=Hx nrD (Hx nmi IU)
def nfY:List (Nat×kW):=[(6, {bN:=[(6,.mh),(12,.mh),(13,.mh),(15,.mh),(16,.mh)],boxes:=[(384,[])]})]
def nf0:Bytes→Bool→ke:=(fun r0 r1=>((true,[.str r0]++[.bool r1]):ke))
def nq4 (nD:Bytes) (k:Int) (qi starts tg:Rows):St:= {n:=54,sl:=[(6,.ptr 384 0),(12,.own 640768),(13,.own 640832),(15,.str nD),(16,.int .i64 k)],hp:=[(384,.box 59 [.sl [.str] qi]),(640768,.row 3 [.i] starts false true),(640832,.row 3 [.i] tg false true)],ok:=true,ls:=[],lm:=[]}
theorem nf2:DA Tryz.prog 287 uj:=by
 refine qh (A:=nfY) ntx Tryz.func287 fun ds hw _=> ?_
 replace hw:jI ((.sl [.i,.i,.i,.bool])::(nd.ct++[.i,.i,.i])) ds:=hw
 obtain⟨list_,ds,rfl,_,hw⟩:=oh hw
 obtain⟨m,ds,rfl,Vk,hw⟩:=nd.nB (r:=_) hw
 obtain⟨domain,ds,rfl,_,hw⟩:=nX hw
 obtain⟨at_,ds,rfl,_,hw⟩:=nX hw
 obtain⟨n,rfl,_⟩:=nt hw
 obtain⟨N,hN⟩:=ntw Vm.jK nf0 list_ m domain at_ n Vk
 exact⟨N,eL (fun l_=>WO Vm.jK nf0 l_ list_ m domain at_ n) (funext fun qi=>funext fun starts=>funext fun tg=>Tm (KR Tryz.prog nfZ nfY N Tryz.f287 uj [true,true,true,true,false,true,false] []) (fun nD k=>nq4 nD k qi starts tg) _ N) hN⟩
def ngr:Sum:= {ps:=[⟨nd.ct,true⟩],rs:=[⟨[.own 9 [.str]],true⟩],fn:=fun ds=>(nl5 (nd.na ds 0),nd.enc (oQ (nd.na ds 0)))}
theorem nt0:DA Tryz.prog 97 ngr:=by
 refine nM IU Tryz.func97 fun ds (hw:jI (nd.ct++[]) ds) aF=> ?_
 obtain⟨m,ds,rfl,_,hw⟩:=nd.nB (r:=_) hw
 obtain rfl:=nm hw
 exact⟨0,eT (ntZ Vm.jK (fun r0=>((true,nd.enc r0):ke)) m aF)⟩
def Ru:Sum:= {ps:=[⟨nH.ct,true⟩],rs:=[⟨[.dQ .i,.dQ .bool,.own 3 [.i]],true⟩],fn:=fun ds=>(nkq (nH.na ds 0),nH.enc (oQ (nH.na ds 0)))}
theorem nt_:DA Tryz.prog 100 Ru:=by
 refine nM IU Tryz.func100 fun ds (hw:jI (nH.ct++[]) ds) aF=> ?_
 obtain⟨f,ds,rfl,_,hw⟩:=nH.nB (r:=_) hw
 obtain rfl:=nm hw
 exact⟨0,eT (nt9 Vm.jK (fun r0=>((true,nH.enc r0):ke)) f aF)⟩
theorem nkQ:DA Tryz.prog 134 Ru:=by
 refine nM (Γ:=[(138,vY)]) (Hx yl IU) Tryz.func134 fun ds (hw:jI (nH.ct++[]) ds) aF=> ?_
 obtain⟨f,ds,rfl,_,hw⟩:=nH.nB (r:=_) hw
 obtain rfl:=nm hw
 exact⟨0,eT (nkP Vm.jK (fun r0=>((true,nH.enc r0):ke)) f aF)⟩
def Rr:Sum:= {ps:=[⟨nh.ct,true⟩],rs:=[⟨[.own 262 [.i,.i,.i,.i,.i,.i,.i]],true⟩],fn:=fun ds=>(nmw (nh.na ds 0),nh.enc (oQ (nh.na ds 0)))}
theorem ntT:DA Tryz.prog 186 Rr:=by
 refine nM IU Tryz.func186 fun ds (hw:jI (nh.ct++[]) ds) aF=> ?_
 obtain⟨t,ds,rfl,_,hw⟩:=nh.nB (r:=_) hw
 obtain rfl:=nm hw
 exact⟨0,eT (ntS Vm.jK (fun r0=>((true,nh.enc r0):ke)) t aF)⟩
theorem nmR:DA Tryz.prog 210 Rr:=by
 refine nM IU Tryz.func210 fun ds (hw:jI (nh.ct++[]) ds) aF=> ?_
 obtain⟨t,ds,rfl,_,hw⟩:=nh.nB (r:=_) hw
 obtain rfl:=nm hw
 exact⟨0,eT (nmQ Vm.jK (fun r0=>((true,nh.enc r0):ke)) t aF)⟩
def XO:Sum:= {ps:=[⟨nJ.ct,true⟩],rs:=[⟨[.dQ .str,.own 3 [.i]],true⟩],fn:=fun ds=>(nw9 (nJ.na ds 0),nJ.enc (oQ (nJ.na ds 0)))}
theorem nkU:DA Tryz.prog 211 XO:=by
 refine nM (Γ:=[(138,vY)]) (Hx yl IU) Tryz.func211 fun ds (hw:jI (nJ.ct++[]) ds) aF=> ?_
 obtain⟨s,ds,rfl,_,hw⟩:=nJ.nB (r:=_) hw
 obtain rfl:=nm hw
 exact⟨0,eT (nkT Vm.jK (fun r0=>((true,nJ.enc r0):ke)) s aF)⟩
def Rs:Sum:= {ps:=[⟨nj.ct,true⟩],rs:=[⟨[.own 260 [.i,.i,.i,.i,.i,.i,.i,.i,.i],.own 262 [.i,.i,.i,.i,.i,.i,.i],.dQ .str,.own 3 [.i]],true⟩],fn:=fun ds=>(na7 (nj.na ds 0),nj.enc (oQ (nj.na ds 0)))}
theorem ntY:DA Tryz.prog 101 Rs:=by
 refine nM (Γ:=[(186,Rr)]) (Hx ntT IU) Tryz.func101 fun ds (hw:jI (nj.ct++[]) ds) aF=> ?_
 obtain⟨s,ds,rfl,_,hw⟩:=nj.nB (r:=_) hw
 obtain rfl:=nm hw
 exact⟨0,eT (ntX Vm.jK (fun r0=>((true,nj.enc r0):ke)) s aF)⟩
theorem nhg:DA Tryz.prog 135 Rs:=by
 refine nM (Γ:=[(210,Rr),(211,XO)]) (Hx nmR (Hx nkU IU)) Tryz.func135 fun ds (hw:jI (nj.ct++[]) ds) aF=> ?_
 obtain⟨s,ds,rfl,_,hw⟩:=nj.nB (r:=_) hw
 obtain rfl:=nm hw
 exact⟨0,eT (nhf Vm.jK (fun r0=>((true,nj.enc r0):ke)) s aF)⟩
def Ur:Sum:= {ps:=[⟨[.sl [.i,.i,.i,.bool]],false⟩],rs:=[⟨[.own 209 [.i,.i,.i,.bool]],false⟩],fn:=fun ds=>(sm (rR ds 0),[.sl (oQ (rR ds 0))])}
theorem nhe:DA Tryz.prog 131 Ur:=by
 refine nM IU Tryz.func131 fun ds (hw:jI ([.sl [.i,.i,.i,.bool]]) ds) aF=> ?_
 obtain⟨list_,rfl,_⟩:=oU hw
 exact⟨0,eT (nhd Vm.jK (fun r0=>((true,[.sl r0]):ke)) list_ aF)⟩
def VM:Sum:= {ps:=[⟨[.sl [.i,.i,.i,.i,.i,.i,.str,.bool]],false⟩],rs:=[⟨[.own 223 [.i,.i,.i,.i,.i,.i,.str,.bool]],false⟩],fn:=fun ds=>(sm (rR ds 0),[.sl (oQ (rR ds 0))])}
theorem nji:DA Tryz.prog 136 VM:=by
 refine nM IU Tryz.func136 fun ds (hw:jI ([.sl [.i,.i,.i,.i,.i,.i,.str,.bool]]) ds) aF=> ?_
 obtain⟨list_,rfl,_⟩:=oU hw
 exact⟨0,eT (njh Vm.jK (fun r0=>((true,[.sl r0]):ke)) list_ aF)⟩
def OL:Sum:= {ps:=[⟨[.sl [.i,.i,.sl [.i]]],false⟩],rs:=[⟨[.deep 207 [.i,.i,.sl [.i]] [3]],false⟩],fn:=fun ds=>(uf (rR ds 0),[.sl (oQ (rR ds 0))])}
def ncK:Ctx:=[(1125899906842630,Jh),(1125899906842646,Jh),(1125899906842647,Jh),(138,vY)]
theorem npT:bt Tryz.prog ncK:=Hx Ku (Hx Ku (Hx Ku (Hx yl IU)))
def ncJ:List (Nat×kW):=[(3, {bN:=[(3,.mh),(7,.mh),(8,.mh),(9,.mh)],boxes:=[]})]
def ncL:Rows→ke:=(fun r0=>((true,[.sl r0]):ke))
def nmP (list_:Rows) (nZ om:Int) (nD:Rows):St:= {n:=26,sl:=[(3,.own 640192),(7,.sl [.i,.i,.sl [.i]] list_),(8,.int .i64 nZ),(9,.int .i64 om)],hp:=[(640192,.deep 207 [.i,.i,.sl [.i]] [3] nD none)],ok:=true,ls:=[],lm:=[]}
theorem ncN:DA Tryz.prog 182 OL:=by
 refine qh (A:=ncJ) npT Tryz.func182 fun ds (hw:jI ([.sl [.i,.i,.sl [.i]]]) ds) aF=> ?_
 obtain⟨list_,rfl,pg⟩:=oU hw
 obtain⟨N,hN⟩:=npS Vm.jK ncL list_ pg aF
 exact⟨N,eL (fun l_=>TG Vm.jK ncL l_ list_) (funext fun nZ=>Tm (KR Tryz.prog ncK ncJ N Tryz.f182 OL [true,true,false,true,false] []) (nmP list_ nZ) _ N) hN⟩
def Rt:Sum:= {ps:=[⟨ng.ct,true⟩],rs:=[⟨[.dQ .i,.dQ .i,.dQ .i,.dQ .i,.dQ .i,.dQ .i,.dQ .i,.own 3 [.i],.own 207 [.i,.i,.sl [.i]],.dQ .i],true⟩],fn:=fun ds=>(nbP (ng.na ds 0),ng.enc (oQ (ng.na ds 0)))}
def ngB:Ctx:=[(99,tA)]
theorem nt7:bt Tryz.prog ngB:=Hx Xc IU
def ngA:List (Nat×kW):=[(3, {bN:=[(1,.mh),(2,.mh),(3,.mh),(4,.mh)],boxes:=[(64,[]),(128,[]),(192,[(8,.own 207)])]})]
def ngC:ng→ke:=(fun r0=>((true,ng.enc r0):ke))
def nrG (k q_1 q_2 q_3 q_4 q_5 q_6 q_7:Int) (q_8 yg:Rows) (nwi b2 nyj nyr nys nyt nyu nyv nyw nD po pq pr pW pX pY pw:Int) (rF wX:Rows):St:= {n:=41,sl:=[(1,.ptr 64 0),(2,.ptr 128 0),(3,.ptr 192 0),(4,.int .i64 k)],hp:=[(64,.box 65 [.int .i64 q_1,.int .i64 q_2,.int .i64 q_3,.int .i64 q_4,.int .i64 q_5,.int .i64 q_6,.int .i64 q_7,.sl [.i] q_8,.sl [.i,.i,.sl [.i]] yg,.int .i64 nwi]),(128,.box 65 [.int .i64 b2,.int .i64 nyj,.int .i64 nyr,.int .i64 nys,.int .i64 nyt,.int .i64 nyu,.int .i64 nyv,.nil,.nil,.int .i64 nyw]),(192,.box 65 [.int .i64 nD,.int .i64 po,.int .i64 pq,.int .i64 pr,.int .i64 pW,.int .i64 pX,.int .i64 pY,.own 1329159,.own 1329160,.int .i64 pw]),(1329159,.row 3 [.i] rF false true),(1329160,.row 207 [.i,.i,.sl [.i]] wX false true)],ok:=true,ls:=[],lm:=[]}
theorem ngE:DA Tryz.prog 98 Rt:=by
 refine qh (A:=ngA) nt7 Tryz.func98 fun ds (hw:jI (ng.ct++[]) ds) aF=> ?_
 obtain⟨q,ds,rfl,h_q,hw⟩:=ng.nB (r:=_) hw
 obtain rfl:=nm hw
 obtain⟨N,hN⟩:=nt6 Vm.jK ngC q h_q aF
 exact⟨N,eL (fun l_=>Xd Vm.jK ngC l_ q) (funext fun yg=>funext fun nD=>funext fun po=>funext fun pq=>funext fun pr=>funext fun pW=>funext fun pX=>funext fun pY=>funext fun pw=>funext fun rF=>Tm (KR Tryz.prog ngB ngA N Tryz.f98 Rt [true,true,false,true,false] []) (fun k wX=>nrG k q.Ring.oR q.Ring.nR q.Ring.Head q.Ring.pV q.n7.oR q.n7.nR q.n7.Count q.n7.py yg q.Next 0 0 0 0 0 0 0 0 nD po pq pr pW pX pY pw rF wX) _ N) hN⟩
def YO:Sum:= {ps:=[⟨ng.ct,true⟩],rs:=[⟨[.dQ .i,.dQ .i,.dQ .i,.dQ .i,.dQ .i,.dQ .i,.dQ .i,.own 3 [.i],.deep 207 [.i,.i,.sl [.i]] [3],.dQ .i],true⟩],fn:=fun ds=>(nbP (ng.na ds 0),ng.enc (oQ (ng.na ds 0)))}
theorem nh7:DA Tryz.prog 132 YO:=by
 refine nM (Γ:=[(133,tA),(182,OL)]) (Hx TF (Hx ncN IU)) Tryz.func132 fun ds (hw:jI (ng.ct++[]) ds) aF=> ?_
 obtain⟨q,ds,rfl,_,hw⟩:=ng.nB (r:=_) hw
 obtain rfl:=nm hw
 exact⟨0,eT (nuz Vm.jK (fun r0=>((true,ng.enc r0):ke)) q aF)⟩
def TD:Sum:= {ps:=[⟨nx.ct,true⟩],rs:=[⟨[.own 9 [.str],.own 209 [.i,.i,.i,.bool],.dQ .i,.dQ .i,.dQ .i,.dQ .i,.dQ .i,.dQ .i,.dQ .i,.own 3 [.i],.deep 207 [.i,.i,.sl [.i]] [3],.dQ .i,.own 182 [.i,.i,.i,.i,.i,.i,.i,.i,.i,.i,.i,.i,.i,.i,.i,.i,.i,.i,.i,.i,.i,.i,.i,.i,.i,.str,.i,.i,.bool,.i],.deep 62 [.i,.i,.i,.sl [.i]] [3],.own 186 [.i,.i,.i,.i,.bool,.bool],.own 4 [.bool],.dQ .i,.dQ .bool,.own 3 [.i],.own 260 [.i,.i,.i,.i,.i,.i,.i,.i,.i],.own 262 [.i,.i,.i,.i,.i,.i,.i],.dQ .str,.own 3 [.i],.own 223 [.i,.i,.i,.i,.i,.i,.str,.bool],.dQ .bool,.own 9 [.str],.own 3 [.i],.own 3 [.i],.dQ .i,.dQ .i,.dQ .i,.dQ .i,.dQ .i],true⟩],fn:=fun ds=>(uR (nx.na ds 0),nx.enc (oQ (nx.na ds 0)))}
def ncE:Ctx:=[(1125899906842648,Jh),(1125899906842661,Jh),(1125899906842662,Jh),(130,XM),(131,Ur),(132,YO),(133,tA),(134,Ru),(135,Rs),(136,VM),(137,Pp),(138,vY)]
theorem npP:bt Tryz.prog ncE:=Hx Ku (Hx Ku (Hx Ku (Hx nkS (Hx nhe (Hx nh7 (Hx TF (Hx nkQ (Hx nhg (Hx nji (Hx VO (Hx yl IU)))))))))))
def ncD:List (Nat×kW):=[(8, {bN:=[(1,.mh),(2,.mh),(3,.mh),(27,.mh),(28,.mh),(29,.mh)],boxes:=[(64,[]),(128,[]),(192,[])]})]
def ncF:nx→ke:=(fun r0=>((true,nx.enc r0):ke))
def nmO (x:Rows) (nZ om:Int) (h_1 h_2:Rows) (h_3 h_4 h_5 h_6 h_7 h_8 h_9:Int) (xA xB:Rows) (xC:Int) (qV qm pB qJ:Rows) (qR:Int) (qS:Bool) (qK pL pM:Rows) (pR:Bytes) (pN qL:Rows) (xD:Bool) (qM qN qO:Rows) (re rh ri rj rk b2 nyj nyr nys nyt nyu nyv nyw nzt:Int) (nzu:Bool) (nyk:Bytes) (nyl:Bool) (nym nyn nyo nyp nyq nD po pq pr pW pX pY pw:Int) (wX nyK:Rows) (nxo:Int) (nxp:Bool) (nxq nxr nxs:Rows) (nxt:Bytes) (nxu nxv:Rows) (qv:Bool) (nxw nxx nxy:Rows) (qw qx qy qz qA:Int) (rY pS pT pc pd vw:Rows):St:= {n:=76,sl:=[(1,.ptr 64 0),(2,.ptr 128 0),(3,.ptr 192 0),(27,.sl [.i,.i,.i,.sl [.i]] x),(28,.int .i64 nZ),(29,.int .i64 om)],hp:=[(64,.box 80 [.sl [.str] h_1,.sl [.i,.i,.i,.bool] h_2,.int .i64 h_3,.int .i64 h_4,.int .i64 h_5,.int .i64 h_6,.int .i64 h_7,.int .i64 h_8,.int .i64 h_9,.sl [.i] xA,.sl [.i,.i,.sl [.i]] xB,.int .i64 xC,.sl [.i,.i,.i,.i,.i,.i,.i,.i,.i,.i,.i,.i,.i,.i,.i,.i,.i,.i,.i,.i,.i,.i,.i,.i,.i,.str,.i,.i,.bool,.i] qV,.sl [.i,.i,.i,.sl [.i]] qm,.sl [.i,.i,.i,.i,.bool,.bool] pB,.sl [.bool] qJ,.int .i64 qR,.bool qS,.sl [.i] qK,.sl [.i,.i,.i,.i,.i,.i,.i,.i,.i] pL,.sl [.i,.i,.i,.i,.i,.i,.i] pM,.str pR,.sl [.i] pN,.sl [.i,.i,.i,.i,.i,.i,.str,.bool] qL,.bool xD,.sl [.str] qM,.sl [.i] qN,.sl [.i] qO,.int .i64 re,.int .i64 rh,.int .i64 ri,.int .i64 rj,.int .i64 rk]),(128,.box 80 [.nil,.nil,.int .i64 b2,.int .i64 nyj,.int .i64 nyr,.int .i64 nys,.int .i64 nyt,.int .i64 nyu,.int .i64 nyv,.nil,.nil,.int .i64 nyw,.nil,.nil,.nil,.nil,.int .i64 nzt,.bool nzu,.nil,.nil,.nil,.str nyk,.nil,.nil,.bool nyl,.nil,.nil,.nil,.int .i64 nym,.int .i64 nyn,.int .i64 nyo,.int .i64 nyp,.int .i64 nyq]),(192,.box 80 [.own 1329152,.own 1329153,.int .i64 nD,.int .i64 po,.int .i64 pq,.int .i64 pr,.int .i64 pW,.int .i64 pX,.int .i64 pY,.own 1329161,.own 1329162,.int .i64 pw,.own 1329164,.own 1329165,.sl [.i,.i,.i,.i,.bool,.bool] wX,.sl [.bool] nyK,.int .i64 nxo,.bool nxp,.sl [.i] nxq,.sl [.i,.i,.i,.i,.i,.i,.i,.i,.i] nxr,.sl [.i,.i,.i,.i,.i,.i,.i] nxs,.str nxt,.sl [.i] nxu,.sl [.i,.i,.i,.i,.i,.i,.str,.bool] nxv,.bool qv,.sl [.str] nxw,.sl [.i] nxx,.sl [.i] nxy,.int .i64 qw,.int .i64 qx,.int .i64 qy,.int .i64 qz,.int .i64 qA]),(1329152,.row 9 [.str] rY false true),(1329153,.row 209 [.i,.i,.i,.bool] pS false true),(1329161,.row 3 [.i] pT false true),(1329162,.deep 207 [.i,.i,.sl [.i]] [3] pc none),(1329164,.row 182 [.i,.i,.i,.i,.i,.i,.i,.i,.i,.i,.i,.i,.i,.i,.i,.i,.i,.i,.i,.i,.i,.i,.i,.i,.i,.str,.i,.i,.bool,.i] pd false true),(1329165,.deep 62 [.i,.i,.i,.sl [.i]] [3] vw none)],ok:=true,ls:=[],lm:=[]}
theorem npO:DA Tryz.prog 46 TD:=by
 refine qh (A:=ncD) npP Tryz.func46 fun ds (hw:jI (nx.ct++[]) ds) aF=> ?_
 obtain⟨h,ds,rfl,h_h,hw⟩:=nx.nB (r:=_) hw
 obtain rfl:=nm hw
 obtain⟨N,hN⟩:=npN Vm.jK ncF h h_h aF
 exact⟨N,eL (fun l_=>TE Vm.jK ncF l_ h) (funext fun x=>funext fun nZ=>funext fun pB=>funext fun qJ=>funext fun qR=>funext fun qS=>funext fun qK=>funext fun pL=>funext fun pM=>funext fun pR=>funext fun pN=>funext fun qL=>funext fun qM=>funext fun qN=>funext fun qO=>funext fun nD=>funext fun po=>funext fun pq=>funext fun pr=>funext fun pW=>funext fun pX=>funext fun pY=>funext fun pw=>funext fun qv=>funext fun qw=>funext fun qx=>funext fun qy=>funext fun qz=>funext fun qA=>funext fun rY=>funext fun pS=>funext fun pT=>funext fun pc=>funext fun pd=>Tm (KR Tryz.prog ncE ncD N Tryz.f46 TD [true,true,true,true,true,true,true,false,true,false] []) (fun om vw=>nmO x nZ om h.oB.nV h.Maps h.Tx.Ring.oR h.Tx.Ring.nR h.Tx.Ring.Head h.Tx.Ring.pV h.Tx.n7.oR h.Tx.n7.nR h.Tx.n7.Count h.Tx.n7.py h.Tx.ni h.Tx.Next h.Rx h.oA pB qJ qR qS qK pL pM pR pN qL h.sF qM qN qO h.Counters.Frames h.Counters.Bad h.Counters.sR h.Counters.uQ h.Counters.PW 0 0 0 0 0 0 0 0 0 false [] false 0 0 0 0 0 nD po pq pr pW pX pY pw h.ou h.pk h.Filter.Mac h.Filter.ql h.Filter.qd h.nA.oY h.nA.Table.nI h.nA.oO.Key h.nA.oO.Table h.p6 qv h.vN h.oP h.pU qw qx qy qz qA rY pS pT pc pd vw) _ N) hN⟩
def Xf:Sum:= {ps:=[⟨nx.ct,true⟩],rs:=[⟨[.own 9 [.str],.own 209 [.i,.i,.i,.bool],.dQ .i,.dQ .i,.dQ .i,.dQ .i,.dQ .i,.dQ .i,.dQ .i,.own 3 [.i],.own 207 [.i,.i,.sl [.i]],.dQ .i,.own 182 [.i,.i,.i,.i,.i,.i,.i,.i,.i,.i,.i,.i,.i,.i,.i,.i,.i,.i,.i,.i,.i,.i,.i,.i,.i,.str,.i,.i,.bool,.i],.own 62 [.i,.i,.i,.sl [.i]],.own 186 [.i,.i,.i,.i,.bool,.bool],.own 4 [.bool],.dQ .i,.dQ .bool,.own 3 [.i],.own 260 [.i,.i,.i,.i,.i,.i,.i,.i,.i],.own 262 [.i,.i,.i,.i,.i,.i,.i],.dQ .str,.own 3 [.i],.own 223 [.i,.i,.i,.i,.i,.i,.str,.bool],.dQ .bool,.own 9 [.str],.own 3 [.i],.own 3 [.i],.dQ .i,.dQ .i,.dQ .i,.dQ .i,.dQ .i],true⟩],fn:=fun ds=>(uR (nx.na ds 0),nx.enc (oQ (nx.na ds 0)))}
def ngJ:Ctx:=[(97,ngr),(98,Rt),(99,tA),(100,Ru),(101,Rs)]
theorem nuc:bt Tryz.prog ngJ:=Hx nt0 (Hx ngE (Hx Xc (Hx nt_ (Hx ntY IU))))
def ngI:List (Nat×kW):=[(8, {bN:=[(1,.mh),(2,.mh),(3,.mh),(4,.mh)],boxes:=[(64,[]),(128,[]),(192,[])]})]
def ngK:nx→ke:=(fun r0=>((true,nx.enc r0):ke))
def nrH (k:Int) (h_1 h_2:Rows) (h_3 h_4 h_5 h_6 h_7 h_8 h_9:Int) (xA xB:Rows) (xC:Int) (qV qm pB qJ:Rows) (qR:Int) (qS:Bool) (qK pL pM:Rows) (pR:Bytes) (pN qL:Rows) (xD:Bool) (qM qN qO:Rows) (re rh ri rj rk b2 nyj nyr nys nyt nyu nyv nyw nzt:Int) (nzu:Bool) (nyk:Bytes) (nyl:Bool) (nym nyn nyo nyp nyq nD po pq pr pW pX pY pw:Int) (wX nyK:Rows) (nxo:Int) (nxp:Bool) (nxq nxr nxs:Rows) (nxt:Bytes) (nxu nxv:Rows) (qv:Bool) (nxw nxx nxy:Rows) (qw qx qy qz qA:Int) (rY pS pT pc pd vw:Rows):St:= {n:=83,sl:=[(1,.ptr 64 0),(2,.ptr 128 0),(3,.ptr 192 0),(4,.int .i64 k)],hp:=[(64,.box 80 [.sl [.str] h_1,.sl [.i,.i,.i,.bool] h_2,.int .i64 h_3,.int .i64 h_4,.int .i64 h_5,.int .i64 h_6,.int .i64 h_7,.int .i64 h_8,.int .i64 h_9,.sl [.i] xA,.sl [.i,.i,.sl [.i]] xB,.int .i64 xC,.sl [.i,.i,.i,.i,.i,.i,.i,.i,.i,.i,.i,.i,.i,.i,.i,.i,.i,.i,.i,.i,.i,.i,.i,.i,.i,.str,.i,.i,.bool,.i] qV,.sl [.i,.i,.i,.sl [.i]] qm,.sl [.i,.i,.i,.i,.bool,.bool] pB,.sl [.bool] qJ,.int .i64 qR,.bool qS,.sl [.i] qK,.sl [.i,.i,.i,.i,.i,.i,.i,.i,.i] pL,.sl [.i,.i,.i,.i,.i,.i,.i] pM,.str pR,.sl [.i] pN,.sl [.i,.i,.i,.i,.i,.i,.str,.bool] qL,.bool xD,.sl [.str] qM,.sl [.i] qN,.sl [.i] qO,.int .i64 re,.int .i64 rh,.int .i64 ri,.int .i64 rj,.int .i64 rk]),(128,.box 80 [.nil,.nil,.int .i64 b2,.int .i64 nyj,.int .i64 nyr,.int .i64 nys,.int .i64 nyt,.int .i64 nyu,.int .i64 nyv,.nil,.nil,.int .i64 nyw,.nil,.nil,.nil,.nil,.int .i64 nzt,.bool nzu,.nil,.nil,.nil,.str nyk,.nil,.nil,.bool nyl,.nil,.nil,.nil,.int .i64 nym,.int .i64 nyn,.int .i64 nyo,.int .i64 nyp,.int .i64 nyq]),(192,.box 80 [.own 1329152,.own 1329153,.int .i64 nD,.int .i64 po,.int .i64 pq,.int .i64 pr,.int .i64 pW,.int .i64 pX,.int .i64 pY,.own 1329161,.own 1329162,.int .i64 pw,.own 1329164,.own 1329165,.sl [.i,.i,.i,.i,.bool,.bool] wX,.sl [.bool] nyK,.int .i64 nxo,.bool nxp,.sl [.i] nxq,.sl [.i,.i,.i,.i,.i,.i,.i,.i,.i] nxr,.sl [.i,.i,.i,.i,.i,.i,.i] nxs,.str nxt,.sl [.i] nxu,.sl [.i,.i,.i,.i,.i,.i,.str,.bool] nxv,.bool qv,.sl [.str] nxw,.sl [.i] nxx,.sl [.i] nxy,.int .i64 qw,.int .i64 qx,.int .i64 qy,.int .i64 qz,.int .i64 qA]),(1329152,.row 9 [.str] rY false true),(1329153,.row 209 [.i,.i,.i,.bool] pS false true),(1329161,.row 3 [.i] pT false true),(1329162,.row 207 [.i,.i,.sl [.i]] pc false true),(1329164,.row 182 [.i,.i,.i,.i,.i,.i,.i,.i,.i,.i,.i,.i,.i,.i,.i,.i,.i,.i,.i,.i,.i,.i,.i,.i,.i,.str,.i,.i,.bool,.i] pd false true),(1329165,.row 62 [.i,.i,.i,.sl [.i]] vw false true)],ok:=true,ls:=[],lm:=[]}
theorem nub:DA Tryz.prog 29 Xf:=by
 refine qh (A:=ngI) nuc Tryz.func29 fun ds (hw:jI (nx.ct++[]) ds) aF=> ?_
 obtain⟨h,ds,rfl,h_h,hw⟩:=nx.nB (r:=_) hw
 obtain rfl:=nm hw
 obtain⟨N,hN⟩:=nua Vm.jK ngK h h_h aF
 exact⟨N,eL (fun l_=>Xg Vm.jK ngK l_ h) (funext fun qm=>funext fun pB=>funext fun qJ=>funext fun qR=>funext fun qS=>funext fun qK=>funext fun pL=>funext fun pM=>funext fun pR=>funext fun pN=>funext fun qL=>funext fun qM=>funext fun qN=>funext fun qO=>funext fun nD=>funext fun po=>funext fun pq=>funext fun pr=>funext fun pW=>funext fun pX=>funext fun pY=>funext fun pw=>funext fun qv=>funext fun qw=>funext fun qx=>funext fun qy=>funext fun qz=>funext fun qA=>funext fun rY=>funext fun pS=>funext fun pT=>funext fun pc=>funext fun pd=>Tm (KR Tryz.prog ngJ ngI N Tryz.f29 Xf [true,true,true,true,true,true,true,false,true,false] []) (fun k vw=>nrH k h.oB.nV h.Maps h.Tx.Ring.oR h.Tx.Ring.nR h.Tx.Ring.Head h.Tx.Ring.pV h.Tx.n7.oR h.Tx.n7.nR h.Tx.n7.Count h.Tx.n7.py h.Tx.ni h.Tx.Next h.Rx qm pB qJ qR qS qK pL pM pR pN qL h.sF qM qN qO h.Counters.Frames h.Counters.Bad h.Counters.sR h.Counters.uQ h.Counters.PW 0 0 0 0 0 0 0 0 0 false [] false 0 0 0 0 0 nD po pq pr pW pX pY pw h.ou h.pk h.Filter.Mac h.Filter.ql h.Filter.qd h.nA.oY h.nA.Table.nI h.nA.oO.Key h.nA.oO.Table h.p6 qv h.vN h.oP h.pU qw qx qy qz qA rY pS pT pc pd vw) _ N) hN⟩
def xH:Sum:= {ps:=[⟨[.str],false⟩,⟨[.i],false⟩],rs:=[⟨[.dQ .i],false⟩],fn:=fun ds=>(true,[.int (oM (rS ds 0) (rI ds 1))])}
theorem zO:DA Tryz.prog 276 xH:=by
 refine nM IU Tryz.func276 fun ds (hw:jI ([.str,.i]) ds) _=> ?_
 obtain⟨s,ds,rfl,xw,hw⟩:=Np hw
 obtain⟨at_,rfl,_⟩:=nt hw
 exact⟨0,eT (nv3 Vm.jK (fun r0=>((true,[.int r0]):ke)) s at_ xw)⟩
def RQ:Sum:= {ps:=[⟨[.str],false⟩],rs:=[⟨[.dQ .i],false⟩,⟨[.dQ .i],false⟩],fn:=fun ds=>(true,[.int (NH (rS ds 0)).1]++[.int (NH (rS ds 0)).2])}
theorem ZA:DA Tryz.prog 222 RQ:=by
 refine nM (Γ:=[(276,xH),(277,ON)]) (Hx zO (Hx TJ IU)) Tryz.func222 fun ds (hw:jI ([.str]) ds) _=> ?_
 obtain⟨image,rfl,nvY⟩:=p9 hw
 exact⟨0,eT (nmV Vm.jK (fun r0 r1=>((true,[.int r0]++[.int r1]):ke)) image nvY)⟩
def Xe:Sum:= {ps:=[⟨[.str],false⟩],rs:=[⟨[.dQ .i],false⟩,⟨[.dQ .i],false⟩],fn:=fun ds=>(true,[.int (sN (rS ds 0)).1]++[.int (sN (rS ds 0)).2])}
theorem ngF:DA Tryz.prog 195 Xe:=by
 refine nM (Γ:=[(261,wI)]) (Hx xZ IU) Tryz.func195 fun ds (hw:jI ([.str]) ds) _=> ?_
 obtain⟨s,rfl,xw⟩:=p9 hw
 exact⟨0,eT (nt8 Vm.jK (fun r0 r1=>((true,[.int r0]++[.int r1]):ke)) s xw)⟩
def OJ:Sum:= {ps:=[⟨nk.ct,true⟩],rs:=[⟨[.dQ .str],false⟩,⟨[.dQ .bool],false⟩],fn:=fun ds=>(true,[.str (sU (nk.na ds 0)).1]++[.bool (sU (nk.na ds 0)).2])}
theorem npL:DA Tryz.prog 149 OJ:=by
 refine nM (Γ:=[(221,sb),(222,RQ),(223,rT),(224,p7)]) (Hx Qk (Hx ZA (Hx OB (Hx ud IU)))) Tryz.func149 fun ds (hw:jI (nk.ct++[]) ds) _=> ?_
 obtain⟨p,ds,rfl,_,hw⟩:=nk.nB (r:=_) hw
 obtain rfl:=nm hw
 exact⟨0,eT (npK Vm.jK (fun r0 r1=>((true,[.str r0]++[.bool r1]):ke)) p)⟩
theorem nrx:DA Tryz.prog 111 OJ:=by
 refine nM (Γ:=[(194,sb),(195,Xe),(196,rT),(197,p7)]) (Hx Q_ (Hx ngF (Hx O4 (Hx u4 IU)))) Tryz.func111 fun ds (hw:jI (nk.ct++[]) ds) _=> ?_
 obtain⟨p,ds,rfl,_,hw⟩:=nk.nB (r:=_) hw
 obtain rfl:=nm hw
 exact⟨0,eT (nrw Vm.jK (fun r0 r1=>((true,[.str r0]++[.bool r1]):ke)) p)⟩
def yu:Sum:= {ps:=[⟨pE.ct,true⟩],rs:=[⟨[.dQ .bool],false⟩],fn:=fun ds=>(true,[.bool (YJ (pE.na ds 0))])}
theorem nhR:DA Tryz.prog 229 yu:=by
 refine nM (Γ:=[(143,nG)]) (Hx oN IU) Tryz.func229 fun ds (hw:jI (pE.ct++[]) ds) _=> ?_
 obtain⟨x,ds,rfl,_,hw⟩:=pE.nB (r:=_) hw
 obtain rfl:=nm hw
 exact⟨0,eT (nhQ (fun r0=>((true,[.bool r0]):ke)) x)⟩
theorem niQ:DA Tryz.prog 201 yu:=by
 refine nM (Γ:=[(106,nG)]) (Hx ph IU) Tryz.func201 fun ds (hw:jI (pE.ct++[]) ds) _=> ?_
 obtain⟨x,ds,rfl,_,hw⟩:=pE.nB (r:=_) hw
 obtain rfl:=nm hw
 exact⟨0,eT (nhQ (fun r0=>((true,[.bool r0]):ke)) x)⟩
def tx:Sum:= {ps:=[⟨[.sl [.i,.i]],false⟩],rs:=[⟨[.dQ .bool],false⟩],fn:=fun ds=>(true,[.bool (uM (rR ds 0))])}
def ncj:Ctx:=[(143,nG)]
theorem npv:bt Tryz.prog ncj:=Hx oN IU
def nci:List (Nat×kW):=[(2, {bN:=[(0,.mh),(5,.mh),(6,.mh),(7,.mh)],boxes:=[]})]
def nck:Bool→ke:=(fun r0=>((true,[.bool r0]):ke))
def nmH (list_ x:Rows) (nZ om:Int):St:= {n:=24,sl:=[(0,.sl [.i,.i] list_),(5,.sl [.i,.i] x),(6,.int .i64 nZ),(7,.int .i64 om)],hp:=[],ok:=true,ls:=[],lm:=[]}
theorem ncm:DA Tryz.prog 228 tx:=by
 refine qh (A:=nci) npv Tryz.func228 fun ds (hw:jI ([.sl [.i,.i]]) ds) _=> ?_
 obtain⟨list_,rfl,pg⟩:=oU hw
 obtain⟨N,hN⟩:=npu Vm.jK nck list_ pg
 exact⟨N,eL (fun l_=>TA Vm.jK nck l_ list_) (funext fun x=>funext fun nZ=>nL1 (KR Tryz.prog ncj nci N Tryz.f228 tx [true,false,true,false] []) (nmH list_ x nZ) _ N) hN⟩
def ndM:Ctx:=[(106,nG)]
theorem nrj:bt Tryz.prog ndM:=Hx ph IU
def ndL:List (Nat×kW):=[(2, {bN:=[(0,.mh),(3,.mh)],boxes:=[]})]
def ndN:Bool→ke:=(fun r0=>((true,[.bool r0]):ke))
def nol (list_:Rows) (k:Int):St:= {n:=28,sl:=[(0,.sl [.i,.i] list_),(3,.int .i64 k)],hp:=[],ok:=true,ls:=[],lm:=[]}
theorem ndP:DA Tryz.prog 200 tx:=by
 refine qh (A:=ndL) nrj Tryz.func200 fun ds (hw:jI ([.sl [.i,.i]]) ds) _=> ?_
 obtain⟨list_,rfl,pg⟩:=oU hw
 obtain⟨N,hN⟩:=nri Vm.jK ndN list_ pg
 exact⟨N,eL (fun l_=>T3 Vm.jK ndN l_ list_) (nL1 (KR Tryz.prog ndM ndL N Tryz.f200 tx [true,false,true,false] []) (nol list_) _ N) hN⟩
def xL:Sum:= {ps:=[⟨ny.ct,true⟩,⟨[.i],false⟩],rs:=[⟨[.dQ .i],false⟩],fn:=fun ds=>(true,[.int (we (ny.na ds 0) (rI ds 4))])}
theorem ni8:DA Tryz.prog 281 xL:=by
 refine nM (Γ:=[(213,rb)]) (Hx yv IU) Tryz.func281 fun ds (hw:jI (ny.ct++[.i]) ds) _=> ?_
 obtain⟨r,ds,rfl,_,hw⟩:=ny.nB (r:=_) hw
 obtain⟨count,rfl,_⟩:=nt hw
 exact⟨0,eT (ni7 Vm.jK (fun r0=>((true,[.int r0]):ke)) r count)⟩
theorem nj3:DA Tryz.prog 265 xL:=by
 refine nM (Γ:=[(187,rb)]) (Hx yz IU) Tryz.func265 fun ds (hw:jI (ny.ct++[.i]) ds) _=> ?_
 obtain⟨r,ds,rfl,_,hw⟩:=ny.nB (r:=_) hw
 obtain⟨count,rfl,_⟩:=nt hw
 exact⟨0,eT (nj2 Vm.jK (fun r0=>((true,[.int r0]):ke)) r count)⟩
def yI:Sum:= {ps:=[⟨pE.ct,true⟩],rs:=[⟨[.dQ .str],false⟩],fn:=fun ds=>(true,[.str (Vb (pE.na ds 0))])}
theorem nkv:DA Tryz.prog 155 yI:=by
 refine nM (Γ:=[(224,p7),(229,yu),(230,rV)]) (Hx ud (Hx nhR (Hx N_ IU))) Tryz.func155 fun ds (hw:jI (pE.ct++[]) ds) _=> ?_
 obtain⟨x,ds,rfl,_,hw⟩:=pE.nB (r:=_) hw
 obtain rfl:=nm hw
 exact⟨0,eT (Xt Vm.jK (fun r0=>((true,[.str r0]):ke)) x)⟩
theorem nmb:DA Tryz.prog 118 yI:=by
 refine nM (Γ:=[(197,p7),(201,yu),(202,rV)]) (Hx u4 (Hx niQ (Hx Ou IU))) Tryz.func118 fun ds (hw:jI (pE.ct++[]) ds) _=> ?_
 obtain⟨x,ds,rfl,_,hw⟩:=pE.nB (r:=_) hw
 obtain rfl:=nm hw
 exact⟨0,eT (Xt Vm.jK (fun r0=>((true,[.str r0]):ke)) x)⟩
def se:Sum:= {ps:=[⟨[.sl [.i,.i]],false⟩,⟨[.i],false⟩,⟨[.i],false⟩],rs:=[⟨[.dQ (.sl [.i,.i,.i,.i,.i,.i])],false⟩],fn:=fun ds=>(true,[.sl (rN (rR ds 0) (rI ds 1) (rI ds 2))])}
def tM:Ctx:=[(143,nG),(228,tx),(229,yu)]
theorem neb:bt Tryz.prog tM:=Hx oN (Hx ncm (Hx nhR IU))
def tL:List (Nat×kW):=[(5, {bN:=[(0,.mh),(2,.mh),(7,.mh),(30,.mh),(31,.mh),(32,.mh)],boxes:=[]}),(13, {bN:=[(7,.dQ 203),(54,.dQ 203),(55,.mh),(56,.mh)],boxes:=[]})]
def qq:Rows→ke:=(fun r0=>((true,[.sl r0]):ke))
def sZ (pieces:Rows) (nL:Int) (x:Rows) (nZ om:Int) (nD:Rows):St:= {n:=65,sl:=[(0,.sl [.i,.i] pieces),(2,.int .i64 nL),(7,.own 640448),(30,.sl [.i,.i] x),(31,.int .i64 nZ),(32,.int .i64 om)],hp:=[(640448,.row 203 [.i,.i,.i,.i,.i,.i] nD false true)],ok:=true,ls:=[],lm:=[]}
def uT (nD yf:Rows) (ui PC:Int):St:= {n:=65,sl:=[(7,.sl [.i,.i,.i,.i,.i,.i] nD),(54,.sl [.i,.i,.i,.i,.i,.i] yf),(55,.int .i64 ui),(56,.int .i64 PC)],hp:=[],ok:=true,ls:=[],lm:=[]}
noncomputable def uS (N:Nat):(St→ke)→St→ke:=KR Tryz.prog tM tL N Tryz.f154 se [true,true,true,true,false,true,false] []
noncomputable def sW (N:Nat):(St→ke)→St→ke:=KR Tryz.prog tM tL N Tryz.f154 se [true,true,true,false,true,false] []
theorem nbp (N:Nat) (nD yf:Rows) (ui:Int) (ih:St→ke) (PC:Int):uS N ih (uT nD yf ui PC)=sY Vm.jK qq nD yf ui (fun PC=>ih (uT nD yf ui PC)) PC:=by kernel_rfl
theorem nbr (N:Nat) (nD yf:Rows) (ui:Int) (m_:Nat):(fun PC=>KS (uS N) m_ (uT nD yf ui PC))=qk Vm.jK qq N nD yf ui m_:=by
 induction m_ with
 | zero=>rfl
 | succ m_ ih=>
  funext PC
  refine (nbp N nD yf ui (KS (uS N) m_) PC).trans ?_
  rw[ih]
  rfl
theorem nbo (N:Nat) (pieces:Rows) (nL:Int) (x:Rows) (nZ:Int) (ih:St→ke) (om:Int) (nD:Rows):sW N ih (sZ pieces nL x nZ om nD)=sX Vm.jK qq (fun nD yf ui PC=>KS (uS N) N (uT nD yf ui PC)) pieces nL x nZ (fun om nD=>ih (sZ pieces nL x nZ om nD)) om nD:=by kernel_rfl
theorem nbq (N:Nat) (pieces:Rows) (nL:Int) (x:Rows) (nZ:Int) (m_:Nat):(fun om nD=>KS (sW N) m_ (sZ pieces nL x nZ om nD))=qD Vm.jK qq N pieces nL x nZ m_:=by
 induction m_ with
 | zero=>rfl
 | succ m_ ih=>
  funext om nD
  refine (nbo N pieces nL x nZ (KS (sW N) m_) om nD).trans ?_
  have e1:=funext fun nD=>funext fun yf=>funext fun ui=>nbr N nD yf ui N
  rw[e1]
  rw[ih]
  rfl
theorem nea (N:Nat) (pieces:Rows) (size nL:Int):Hc Tryz.prog tM tL N Tryz.f154 se (.sl pieces::(.int size::(.int nL::([]))))=vH Vm.jK qq N pieces size nL:=by
 have noe:Hc Tryz.prog tM tL N Tryz.f154 se (.sl pieces::(.int size::(.int nL::([]))))=vI Vm.jK qq (fun x nZ om nD=>KS (sW N) N (sZ pieces nL x nZ om nD)) pieces size nL:=by kernel_rfl
 refine noe.trans ?_
 unfold vH
 have e0:(fun x nZ om nD=>KS (sW N) N (sZ pieces nL x nZ om nD))=(fun x nZ=>qD Vm.jK qq N pieces nL x nZ N):=by
  funext x nZ
  exact nbq N pieces nL x nZ N
 exact congrArg (fun l_=>vI Vm.jK qq l_ pieces size nL) e0
theorem nd_:DA Tryz.prog 154 se:=by
 refine qh (A:=tL) neb Tryz.func154 fun ds (hw:jI ([.sl [.i,.i],.i,.i]) ds) _=> ?_
 obtain⟨pieces,ds,rfl,vl,hw⟩:=oh hw
 obtain⟨size,ds,rfl,_,hw⟩:=nX hw
 obtain⟨nL,rfl,_⟩:=nt hw
 obtain⟨N,hN⟩:=nd9 Vm.jK qq pieces size nL vl
 exact⟨N,((nea N pieces size nL).trans hN).trans (by kernel_rfl)⟩
def yB:Sum:= {ps:=[⟨[.sl [.i,.i]],false⟩,⟨[.i],false⟩,⟨[.i],false⟩],rs:=[⟨[.own 203 [.i,.i,.i,.i,.i,.i]],false⟩],fn:=fun ds=>(true,[.sl (rN (rR ds 0) (rI ds 1) (rI ds 2))])}
def RF:Ctx:=[(106,nG),(200,tx),(201,yu)]
theorem nel:bt Tryz.prog RF:=Hx ph (Hx ndP (Hx niQ IU))
def RE:List (Nat×kW):=[(5, {bN:=[(0,.mh),(2,.mh),(7,.mh),(8,.mh)],boxes:=[]})]
def RG:Rows→ke:=(fun r0=>((true,[.sl r0]):ke))
def nbL (pieces:Rows) (nL k:Int) (nD:Rows):St:= {n:=68,sl:=[(0,.sl [.i,.i] pieces),(2,.int .i64 nL),(7,.own 640448),(8,.int .i64 k)],hp:=[(640448,.row 203 [.i,.i,.i,.i,.i,.i] nD false true)],ok:=true,ls:=[],lm:=[]}
theorem nek:DA Tryz.prog 117 yB:=by
 refine qh (A:=RE) nel Tryz.func117 fun ds (hw:jI ([.sl [.i,.i],.i,.i]) ds) _=> ?_
 obtain⟨pieces,ds,rfl,vl,hw⟩:=oh hw
 obtain⟨size,ds,rfl,_,hw⟩:=nX hw
 obtain⟨nL,rfl,_⟩:=nt hw
 obtain⟨N,hN⟩:=nej Vm.jK RG pieces size nL vl
 exact⟨N,eL (fun l_=>yC Vm.jK RG l_ pieces size nL) (Tm (KR Tryz.prog RF RE N Tryz.f117 yB [true,true,true,false,true,false] []) (nbL pieces nL) _ N) hN⟩
def yH:Sum:= {ps:=[⟨[.str],false⟩],rs:=[⟨[.dQ .i,.dQ .i,.dQ .i,.dQ .i,.dQ .i,.dQ .i],true⟩,⟨[.dQ .bool],false⟩],fn:=fun ds=>(true,pE.enc (p8 (rS ds 0)).1++[.bool (p8 (rS ds 0)).2])}
theorem nku:DA Tryz.prog 297 yH:=by
 refine nM (Γ:=[(155,yI),(276,xH),(301,su)]) (Hx nkv (Hx zO (Hx Qr IU))) Tryz.func297 fun ds (hw:jI ([.str]) ds) _=> ?_
 obtain⟨s,rfl,_⟩:=p9 hw
 exact⟨0,eT (Xp Vm.jK (fun r0 r1=>((true,pE.enc r0++[.bool r1]):ke)) s)⟩
theorem nma:DA Tryz.prog 285 yH:=by
 refine nM (Γ:=[(118,yI),(261,wI),(290,su)]) (Hx nmb (Hx xZ (Hx Rg IU))) Tryz.func285 fun ds (hw:jI ([.str]) ds) _=> ?_
 obtain⟨s,rfl,_⟩:=p9 hw
 exact⟨0,eT (Xp Vm.jK (fun r0 r1=>((true,pE.enc r0++[.bool r1]):ke)) s)⟩
def OC:Sum:= {ps:=[⟨[.sl [.i,.i,.i,.bool]],false⟩,⟨nd.ct,true⟩,⟨[.i],false⟩,⟨ny.ct,true⟩],rs:=[⟨[.dQ .str],false⟩,⟨[.dQ .i,.dQ .i,.dQ .i,.dQ .i],true⟩,⟨[.dQ .bool],false⟩],fn:=fun ds=>(true,[.str (oJ (rR ds 0) (nd.na ds 1) (rI ds 2) (ny.na ds 3)).1]++ny.enc (oJ (rR ds 0) (nd.na ds 1) (rI ds 2) (ny.na ds 3)).2.1++[.bool (oJ (rR ds 0) (nd.na ds 1) (rI ds 2) (ny.na ds 3)).2.2])}
theorem npx:DA Tryz.prog 296 OC:=by
 refine nM (Γ:=[(213,rb),(225,rU),(281,xL),(298,uj)]) (Hx yv (Hx OD (Hx ni8 (Hx neI IU)))) Tryz.func296 fun ds hw _=> ?_
 replace hw:jI ((.sl [.i,.i,.i,.bool])::(nd.ct++(.i::(ny.ct++[])))) ds:=hw
 obtain⟨list_,ds,rfl,_,hw⟩:=oh hw
 obtain⟨m,ds,rfl,_,hw⟩:=nd.nB (r:=_) hw
 obtain⟨domain,ds,rfl,_,hw⟩:=nX hw
 obtain⟨r,ds,rfl,_,hw⟩:=ny.nB (r:=_) hw
 obtain rfl:=nm hw
 exact⟨0,eT (nco Vm.jK (fun r0 r1 r2=>((true,[.str r0]++ny.enc r1++[.bool r2]):ke)) list_ m domain r)⟩
theorem nrl:DA Tryz.prog 284 OC:=by
 refine nM (Γ:=[(187,rb),(198,rU),(265,xL),(287,uj)]) (Hx yz (Hx O5 (Hx nj3 (Hx nf2 IU)))) Tryz.func284 fun ds hw _=> ?_
 replace hw:jI ((.sl [.i,.i,.i,.bool])::(nd.ct++(.i::(ny.ct++[])))) ds:=hw
 obtain⟨list_,ds,rfl,_,hw⟩:=oh hw
 obtain⟨m,ds,rfl,_,hw⟩:=nd.nB (r:=_) hw
 obtain⟨domain,ds,rfl,_,hw⟩:=nX hw
 obtain⟨r,ds,rfl,_,hw⟩:=ny.nB (r:=_) hw
 obtain rfl:=nm hw
 exact⟨0,eT (nco Vm.jK (fun r0 r1 r2=>((true,[.str r0]++ny.enc r1++[.bool r2]):ke)) list_ m domain r)⟩
def vf:Sum:= {ps:=[⟨[.sl [.i,.i,.i,.bool]],false⟩,⟨nd.ct,true⟩,⟨[.i],false⟩,⟨ny.ct,true⟩],rs:=[⟨[.own 203 [.i,.i,.i,.i,.i,.i]],false⟩,⟨[.dQ .i,.dQ .i,.dQ .i,.dQ .i],true⟩,⟨[.dQ .bool],false⟩],fn:=fun ds=>(true,[.sl (oI (rR ds 0) (nd.na ds 1) (rI ds 2) (ny.na ds 3)).1]++ny.enc (oI (rR ds 0) (nd.na ds 1) (rI ds 2) (ny.na ds 3)).2.1++[.bool (oI (rR ds 0) (nd.na ds 1) (rI ds 2) (ny.na ds 3)).2.2])}
def Zs:Ctx:=[(213,rb),(225,rU),(296,OC),(297,yH)]
theorem nmN:bt Tryz.prog Zs:=Hx yv (Hx OD (Hx npx (Hx nku IU)))
def Zr:List (Nat×kW):=[(6, {bN:=[(0,.mh),(2,.mh),(5,.mh),(7,.mh),(9,.mh),(11,.mh),(12,.mh)],boxes:=[(320,[]),(448,[]),(576,[]),(704,[])]})]
def Zt:Rows→ny→Bool→ke:=(fun r0 r1 r2=>((true,[.sl r0]++ny.enc r1++[.bool r2]):ke))
def nkO (list_:Rows) (domain:Int) (qi:Rows) (r_1 r_2 r_3 r_4 b9 nzF nzG nzH empty yD yE yF:Int) (nD:Rows):St:= {n:=70,sl:=[(0,.sl [.i,.i,.i,.bool] list_),(2,.int .i64 domain),(5,.ptr 320 0),(7,.ptr 448 0),(9,.ptr 576 0),(11,.ptr 704 0),(12,.own 640768)],hp:=[(320,.box 59 [.sl [.str] qi]),(448,.box 61 [.int .i64 r_1,.int .i64 r_2,.int .i64 r_3,.int .i64 r_4]),(576,.box 61 [.int .i64 b9,.int .i64 nzF,.int .i64 nzG,.int .i64 nzH]),(704,.box 61 [.int .i64 empty,.int .i64 yD,.int .i64 yE,.int .i64 yF]),(640768,.row 203 [.i,.i,.i,.i,.i,.i] nD false true)],ok:=true,ls:=[],lm:=[]}
theorem nmM:DA Tryz.prog 246 vf:=by
 refine qh (A:=Zr) nmN Tryz.func246 fun ds hw _=> ?_
 replace hw:jI ((.sl [.i,.i,.i,.bool])::(nd.ct++(.i::(ny.ct++[])))) ds:=hw
 obtain⟨list_,ds,rfl,_,hw⟩:=oh hw
 obtain⟨m,ds,rfl,_,hw⟩:=nd.nB (r:=_) hw
 obtain⟨domain,ds,rfl,_,hw⟩:=nX hw
 obtain⟨r,ds,rfl,_,hw⟩:=ny.nB (r:=_) hw
 obtain rfl:=nm hw
 obtain⟨N,hN⟩:=nmL Vm.jK Zt list_ m domain r
 exact⟨N,eL (fun l_=>RP Vm.jK Zt l_ list_ m domain r) (funext fun qi=>funext fun empty=>funext fun yD=>funext fun yE=>funext fun yF=>nL5 (KR Tryz.prog Zs Zr N Tryz.f246 vf [true,true,true,true,true,false,false] []) (fun r_1 r_2 r_3 r_4 nD=>nkO list_ domain qi r_1 r_2 r_3 r_4 0 0 0 0 empty yD yE yF nD) _ N) hN⟩
def na2:Ctx:=[(187,rb),(198,rU),(284,OC),(285,yH)]
theorem nos:bt Tryz.prog na2:=Hx yz (Hx O5 (Hx nrl (Hx nma IU)))
def na1:List (Nat×kW):=[(4, {bN:=[(0,.mh),(2,.mh),(5,.mh),(7,.mh),(9,.mh),(11,.mh)],boxes:=[(320,[]),(448,[]),(576,[])]})]
def na3:Rows→ny→Bool→ke:=(fun r0 r1 r2=>((true,[.sl r0]++ny.enc r1++[.bool r2]):ke))
def nmt (list_:Rows) (domain:Int) (qi:Rows) (r_1 r_2 r_3 r_4 b9 nzF nzG nzH:Int) (nD:Rows):St:= {n:=72,sl:=[(0,.sl [.i,.i,.i,.bool] list_),(2,.int .i64 domain),(5,.ptr 320 0),(7,.ptr 448 0),(9,.ptr 576 0),(11,.own 640704)],hp:=[(320,.box 59 [.sl [.str] qi]),(448,.box 61 [.int .i64 r_1,.int .i64 r_2,.int .i64 r_3,.int .i64 r_4]),(576,.box 61 [.int .i64 b9,.int .i64 nzF,.int .i64 nzG,.int .i64 nzH]),(640704,.row 203 [.i,.i,.i,.i,.i,.i] nD false true)],ok:=true,ls:=[],lm:=[]}
theorem nor:DA Tryz.prog 240 vf:=by
 refine qh (A:=na1) nos Tryz.func240 fun ds hw _=> ?_
 replace hw:jI ((.sl [.i,.i,.i,.bool])::(nd.ct++(.i::(ny.ct++[])))) ds:=hw
 obtain⟨list_,ds,rfl,_,hw⟩:=oh hw
 obtain⟨m,ds,rfl,_,hw⟩:=nd.nB (r:=_) hw
 obtain⟨domain,ds,rfl,_,hw⟩:=nX hw
 obtain⟨r,ds,rfl,_,hw⟩:=ny.nB (r:=_) hw
 obtain rfl:=nm hw
 obtain⟨N,hN⟩:=noq Vm.jK na3 list_ m domain r
 exact⟨N,eL (fun l_=>Sq Vm.jK na3 l_ list_ m domain r) (funext fun qi=>nL5 (KR Tryz.prog na2 na1 N Tryz.f240 vf [true,true,true,false,false] []) (fun r_1 r_2 r_3 r_4 nD=>nmt list_ domain qi r_1 r_2 r_3 r_4 0 0 0 0 nD) _ N) hN⟩
def W_:Sum:= {ps:=[⟨[.sl [.i,.i,.i,.i,.i,.i]],false⟩,⟨[.sl [.i,.i,.i,.i,.i,.i]],false⟩],rs:=[⟨[.dQ .bool],false⟩],fn:=fun ds=>(true,[.bool (nbx (rR ds 0) (rR ds 1))])}
def ngw:List (Nat×kW):=[(4, {bN:=[(0,.mh),(1,.mh),(5,.mh)],boxes:=[]})]
def ngx:Bool→ke:=(fun r0=>((true,[.bool r0]):ke))
def nrF (a b:Rows) (k:Int):St:= {n:=26,sl:=[(0,.sl [.i,.i,.i,.i,.i,.i] a),(1,.sl [.i,.i,.i,.i,.i,.i] b),(5,.int .i64 k)],hp:=[],ok:=true,ls:=[],lm:=[]}
theorem nt4:DA Tryz.prog 286 W_:=by
 refine qh (A:=ngw) IU Tryz.func286 fun ds (hw:jI ([.sl [.i,.i,.i,.i,.i,.i],.sl [.i,.i,.i,.i,.i,.i]]) ds) _=> ?_
 obtain⟨a,ds,rfl,qj,hw⟩:=oh hw
 obtain⟨b,rfl,_⟩:=oU hw
 obtain⟨N,hN⟩:=nt3 Vm.jK ngx a b qj
 exact⟨N,eL (fun l_=>Xa Vm.jK ngx l_ a b) (nL1 (KR Tryz.prog [] ngw N Tryz.f286 W_ [true,true,false,true,false] []) (nrF a b) _ N) hN⟩
def zB:Sum:= {ps:=[⟨[.sl [.i,.i,.i,.i,.i,.i]],false⟩],rs:=[⟨[.own 198 [.i,.i]],false⟩,⟨[.dQ .i],false⟩,⟨[.dQ .i],false⟩,⟨[.dQ .bool],false⟩],fn:=fun ds=>(nfW (rR ds 0),[.sl (ot (rR ds 0)).1]++[.int (ot (rR ds 0)).2.1]++[.int (ot (rR ds 0)).2.2.1]++[.bool (ot (rR ds 0)).2.2.2])}
def Te:Ctx:=[(117,yB),(286,W_)]
theorem nf7:bt Tryz.prog Te:=Hx nek (Hx nt4 IU)
def Td:List (Nat×kW):=[(3, {bN:=[(0,.mh),(6,.mh),(7,.mh)],boxes:=[]})]
def Tf:Rows→Int→Int→Bool→ke:=(fun r0 r1 r2 r3=>((true,[.sl r0]++[.int r1]++[.int r2]++[.bool r3]):ke))
def nem (list_:Rows) (k:Int) (nD:Rows):St:= {n:=57,sl:=[(0,.sl [.i,.i,.i,.i,.i,.i] list_),(6,.own 640384),(7,.int .i64 k)],hp:=[(640384,.row 198 [.i,.i] nD false true)],ok:=true,ls:=[],lm:=[]}
theorem nf6:DA Tryz.prog 241 zB:=by
 refine qh (A:=Td) nf7 Tryz.func241 fun ds (hw:jI ([.sl [.i,.i,.i,.i,.i,.i]]) ds) aF=> ?_
 obtain⟨list_,rfl,pg⟩:=oU hw
 obtain⟨N,hN⟩:=nf5 Vm.jK Tf list_ pg aF
 exact⟨N,eL (fun l_=>zC Vm.jK Tf l_ list_) (Tm (KR Tryz.prog Te Td N Tryz.f241 zB [true,true,false,true,false] []) (nem list_) _ N) hN⟩
def sJ:Sum:= {ps:=[⟨[.sl [.i,.i,.i,.i,.i,.i]],false⟩],rs:=[⟨[.dQ (.sl [.i,.i])],false⟩,⟨[.dQ .i],false⟩,⟨[.dQ .i],false⟩,⟨[.dQ .bool],false⟩],fn:=fun ds=>(nfW (rR ds 0),[.sl (ot (rR ds 0)).1]++[.int (ot (rR ds 0)).2.1]++[.int (ot (rR ds 0)).2.2.1]++[.bool (ot (rR ds 0)).2.2.2])}
def um:Ctx:=[(154,se)]
theorem neR:bt Tryz.prog um:=Hx nd_ IU
def uk:List (Nat×kW):=[(5, {bN:=[(0,.mh),(6,.mh),(18,.mh),(19,.mh),(20,.mh)],boxes:=[]}),(14, {bN:=[(0,.mh),(6,.mh),(9,.mh),(10,.mh),(11,.mh),(51,.mh),(52,.mh)],boxes:=[]})]
def qE:Rows→Int→Int→Bool→ke:=(fun r0 r1 r2 r3=>((true,[.sl r0]++[.int r1]++[.int r2]++[.bool r3]):ke))
def tQ (list_ x:Rows) (nZ om:Int) (pieces:Rows):St:= {n:=68,sl:=[(0,.sl [.i,.i,.i,.i,.i,.i] list_),(6,.own 640384),(18,.sl [.i,.i,.i,.i,.i,.i] x),(19,.int .i64 nZ),(20,.int .i64 om)],hp:=[(640384,.row 198 [.i,.i] pieces false true)],ok:=true,ls:=[],lm:=[]}
def vK (list_ pieces:Rows) (size nL:Int) (want:Rows) (yf ui:Int):St:= {n:=68,sl:=[(0,.sl [.i,.i,.i,.i,.i,.i] list_),(6,.sl [.i,.i] pieces),(9,.int .i64 size),(10,.int .i64 nL),(11,.sl [.i,.i,.i,.i,.i,.i] want),(51,.int .i64 yf),(52,.int .i64 ui)],hp:=[],ok:=true,ls:=[],lm:=[]}
noncomputable def vJ (N:Nat):(St→ke)→St→ke:=KR Tryz.prog um uk N Tryz.f247 sJ [true,true,true,true,true,true,true,false,true,false] []
noncomputable def tN (N:Nat):(St→ke)→St→ke:=KR Tryz.prog um uk N Tryz.f247 sJ [true,true,true,false,true,false] []
theorem ned (N:Nat) (list_ pieces:Rows) (size nL:Int) (want:Rows) (yf:Int) (ih:St→ke) (ui:Int):vJ N ih (vK list_ pieces size nL want yf ui)=tP Vm.jK qE list_ pieces size nL want yf (fun ui=>ih (vK list_ pieces size nL want yf ui)) ui:=by kernel_rfl
theorem nef (N:Nat) (list_ pieces:Rows) (size nL:Int) (want:Rows) (yf:Int) (m_:Nat):(fun ui=>KS (vJ N) m_ (vK list_ pieces size nL want yf ui))=qT Vm.jK qE N list_ pieces size nL want yf m_:=by
 induction m_ with
 | zero=>rfl
 | succ m_ ih=>
  funext ui
  refine (ned N list_ pieces size nL want yf (KS (vJ N) m_) ui).trans ?_
  rw[ih]
  rfl
theorem nec (N:Nat) (list_ x:Rows) (nZ:Int) (ih:St→ke) (om:Int) (pieces:Rows):tN N ih (tQ list_ x nZ om pieces)=tO Vm.jK qE (fun pieces size nL want yf ui=>KS (vJ N) N (vK list_ pieces size nL want yf ui)) list_ x nZ (fun om pieces=>ih (tQ list_ x nZ om pieces)) om pieces:=by kernel_rfl
theorem nee (N:Nat) (list_ x:Rows) (nZ:Int) (m_:Nat):(fun om pieces=>KS (tN N) m_ (tQ list_ x nZ om pieces))=sf Vm.jK qE N list_ x nZ m_:=by
 induction m_ with
 | zero=>rfl
 | succ m_ ih=>
  funext om pieces
  refine (nec N list_ x nZ (KS (tN N) m_) om pieces).trans ?_
  have e1:=funext fun pieces=>funext fun size=>funext fun nL=>funext fun want=>funext fun yf=>nef N list_ pieces size nL want yf N
  rw[e1]
  rw[ih]
  rfl
theorem neQ (N:Nat) (list_:Rows):Hc Tryz.prog um uk N Tryz.f247 sJ (.sl list_::([]))=wj Vm.jK qE N list_:=by
 have noe:Hc Tryz.prog um uk N Tryz.f247 sJ (.sl list_::([]))=wq Vm.jK qE (fun x nZ om pieces=>KS (tN N) N (tQ list_ x nZ om pieces)) list_:=by kernel_rfl
 refine noe.trans ?_
 unfold wj
 have e0:(fun x nZ om pieces=>KS (tN N) N (tQ list_ x nZ om pieces))=(fun x nZ=>sf Vm.jK qE N list_ x nZ N):=by
  funext x nZ
  exact nee N list_ x nZ N
 exact congrArg (fun l_=>wq Vm.jK qE l_ list_) e0
theorem neP:DA Tryz.prog 247 sJ:=by
 refine qh (A:=uk) neR Tryz.func247 fun ds (hw:jI ([.sl [.i,.i,.i,.i,.i,.i]]) ds) aF=> ?_
 obtain⟨list_,rfl,pg⟩:=oU hw
 obtain⟨N,hN⟩:=neO Vm.jK qE list_ pg aF
 exact⟨N,((neQ N list_).trans hN).trans (by kernel_rfl)⟩
def tq:Sum:= {ps:=[⟨[.sl [.i,.i,.i,.bool]],false⟩,⟨nd.ct,true⟩,⟨[.i],false⟩,⟨[.sl [.i,.i]],false⟩],rs:=[⟨[.dQ .str],false⟩,⟨[.dQ .bool],false⟩],fn:=fun ds=>(true,[.str (pQ (rR ds 0) (nd.na ds 1) (rI ds 2) (rR ds 3)).1]++[.bool (pQ (rR ds 0) (nd.na ds 1) (rI ds 2) (rR ds 3)).2])}
def Uf:Ctx:=[(228,tx),(298,uj)]
theorem ng7:bt Tryz.prog Uf:=Hx ncm (Hx neI IU)
def Ue:List (Nat×kW):=[(5, {bN:=[(0,.mh),(2,.mh),(5,.mh),(10,.mh),(18,.mh),(19,.mh),(20,.mh)],boxes:=[(320,[])]})]
def Ug:Bytes→Bool→ke:=(fun r0 r1=>((true,[.str r0]++[.bool r1]):ke))
def neJ (list_:Rows) (domain:Int) (nD:Bytes) (pieces:Rows) (nZ om:Int) (qi:Rows):St:= {n:=42,sl:=[(0,.sl [.i,.i,.i,.bool] list_),(2,.int .i64 domain),(5,.ptr 320 0),(10,.str nD),(18,.sl [.i,.i] pieces),(19,.int .i64 nZ),(20,.int .i64 om)],hp:=[(320,.box 59 [.sl [.str] qi])],ok:=true,ls:=[],lm:=[]}
theorem ng6:DA Tryz.prog 248 tq:=by
 refine qh (A:=Ue) ng7 Tryz.func248 fun ds hw _=> ?_
 replace hw:jI ((.sl [.i,.i,.i,.bool])::(nd.ct++[.i,.sl [.i,.i]])) ds:=hw
 obtain⟨list_,ds,rfl,_,hw⟩:=oh hw
 obtain⟨m,ds,rfl,Vk,hw⟩:=nd.nB (r:=_) hw
 obtain⟨domain,ds,rfl,_,hw⟩:=nX hw
 obtain⟨pieces,rfl,vl⟩:=oU hw
 obtain⟨N,hN⟩:=ng5 Vm.jK Ug list_ m domain pieces Vk vl
 exact⟨N,eL (fun l_=>NI Vm.jK Ug l_ list_ m domain pieces) (funext fun nZ=>funext fun qi=>Tm (KR Tryz.prog Uf Ue N Tryz.f248 tq [true,true,true,false,true,false] []) (fun nD om=>neJ list_ domain nD pieces nZ om qi) _ N) hN⟩
def US:Ctx:=[(200,tx),(287,uj)]
theorem nhI:bt Tryz.prog US:=Hx ndP (Hx nf2 IU)
def UR:List (Nat×kW):=[(5, {bN:=[(0,.mh),(2,.mh),(3,.mh),(5,.mh),(10,.mh),(11,.mh)],boxes:=[(320,[])]})]
def UT:Bytes→Bool→ke:=(fun r0 r1=>((true,[.str r0]++[.bool r1]):ke))
def nf3 (list_:Rows) (domain:Int) (pieces:Rows) (nD:Bytes) (k:Int) (qi:Rows):St:= {n:=46,sl:=[(0,.sl [.i,.i,.i,.bool] list_),(2,.int .i64 domain),(3,.sl [.i,.i] pieces),(5,.ptr 320 0),(10,.str nD),(11,.int .i64 k)],hp:=[(320,.box 59 [.sl [.str] qi])],ok:=true,ls:=[],lm:=[]}
theorem nhH:DA Tryz.prog 242 tq:=by
 refine qh (A:=UR) nhI Tryz.func242 fun ds hw _=> ?_
 replace hw:jI ((.sl [.i,.i,.i,.bool])::(nd.ct++[.i,.sl [.i,.i]])) ds:=hw
 obtain⟨list_,ds,rfl,_,hw⟩:=oh hw
 obtain⟨m,ds,rfl,Vk,hw⟩:=nd.nB (r:=_) hw
 obtain⟨domain,ds,rfl,_,hw⟩:=nX hw
 obtain⟨pieces,rfl,vl⟩:=oU hw
 obtain⟨N,hN⟩:=nhG Vm.jK UT list_ m domain pieces Vk vl
 exact⟨N,eL (fun l_=>NV Vm.jK UT l_ list_ m domain pieces) (funext fun qi=>Tm (KR Tryz.prog US UR N Tryz.f242 tq [true,true,true,false,true,false] []) (fun nD k=>nf3 list_ domain pieces nD k qi) _ N) hN⟩
def yi:Sum:= {ps:=[⟨[.str],false⟩],rs:=[⟨[.dQ .i,.dQ .i,.dQ .i,.dQ .i,.dQ .str],true⟩,⟨[.dQ .bool],false⟩],fn:=fun ds=>(true,qI.enc (oH (rS ds 0)).1++[.bool (oH (rS ds 0)).2])}
theorem ncg:DA Tryz.prog 299 yi:=by
 refine nM (Γ:=[(276,xH),(301,su),(317,zK)]) (Hx zO (Hx Qr (Hx nkx IU))) Tryz.func299 fun ds (hw:jI ([.str]) ds) _=> ?_
 obtain⟨s,rfl,xw⟩:=p9 hw
 exact⟨0,eT (npt Vm.jK (fun r0 r1=>((true,qI.enc r0++[.bool r1]):ke)) s xw)⟩
theorem nrh:DA Tryz.prog 291 yi:=by
 refine nM (Γ:=[(261,wI),(290,su),(309,zK)]) (Hx xZ (Hx Rg (Hx nmc IU))) Tryz.func291 fun ds (hw:jI ([.str]) ds) _=> ?_
 obtain⟨s,rfl,xw⟩:=p9 hw
 exact⟨0,eT (nrg Vm.jK (fun r0 r1=>((true,qI.enc r0++[.bool r1]):ke)) s xw)⟩
def Qx:Sum:= {ps:=[⟨[.str],false⟩],rs:=[⟨[.dQ .i,.dQ .i,.dQ .i,.dQ .i,.dQ .i,.dQ .i,.dQ .str],true⟩,⟨[.dQ .bool],false⟩],fn:=fun ds=>(true,wV.enc (sr (rS ds 0)).1++[.bool (sr (rS ds 0)).2])}
theorem nsh:DA Tryz.prog 303 Qx:=by
 refine nM (Γ:=[(273,xi),(276,xH),(301,su)]) (Hx neC (Hx zO (Hx Qr IU))) Tryz.func303 fun ds (hw:jI ([.str]) ds) _=> ?_
 obtain⟨s,rfl,xw⟩:=p9 hw
 exact⟨0,eT (neM Vm.jK (fun r0 r1=>((true,wV.enc r0++[.bool r1]):ke)) s xw)⟩
theorem ntE:DA Tryz.prog 292 Qx:=by
 refine nM (Γ:=[(258,xi),(261,wI),(290,su)]) (Hx nfX (Hx xZ (Hx Rg IU))) Tryz.func292 fun ds (hw:jI ([.str]) ds) _=> ?_
 obtain⟨s,rfl,xw⟩:=p9 hw
 exact⟨0,eT (neM Vm.jK (fun r0 r1=>((true,wV.enc r0++[.bool r1]):ke)) s xw)⟩
def wY:Sum:= {ps:=[⟨[.i],false⟩,⟨[.i],false⟩,⟨[.i],false⟩,⟨[.str],false⟩],rs:=[⟨[.dQ .i,.dQ .i,.dQ .i,.dQ .i,.dQ .i,.dQ .i,.dQ .i,.dQ .str],true⟩,⟨[.dQ .bool],false⟩],fn:=fun ds=>(true,nz.enc (xy (rI ds 0) (rI ds 1) (rI ds 2) (rS ds 3)).1++[.bool (xy (rI ds 0) (rI ds 1) (rI ds 2) (rS ds 3)).2])}
theorem ng_:DA Tryz.prog 304 wY:=by
 refine nM (Γ:=[(272,tn),(276,xH),(301,su)]) (Hx Uc (Hx zO (Hx Qr IU))) Tryz.func304 fun ds (hw:jI ([.i,.i,.i,.str]) ds) _=> ?_
 obtain⟨src,ds,rfl,_,hw⟩:=nX hw
 obtain⟨dst,ds,rfl,_,hw⟩:=nX hw
 obtain⟨kind,ds,rfl,_,hw⟩:=nX hw
 obtain⟨s,rfl,xw⟩:=p9 hw
 exact⟨0,eT (Uk Vm.jK (fun r0 r1=>((true,nz.enc r0++[.bool r1]):ke)) src dst kind s xw)⟩
theorem nhL:DA Tryz.prog 293 wY:=by
 refine nM (Γ:=[(257,tn),(261,wI),(290,su)]) (Hx UP (Hx xZ (Hx Rg IU))) Tryz.func293 fun ds (hw:jI ([.i,.i,.i,.str]) ds) _=> ?_
 obtain⟨src,ds,rfl,_,hw⟩:=nX hw
 obtain⟨dst,ds,rfl,_,hw⟩:=nX hw
 obtain⟨kind,ds,rfl,_,hw⟩:=nX hw
 obtain⟨s,rfl,xw⟩:=p9 hw
 exact⟨0,eT (Uk Vm.jK (fun r0 r1=>((true,nz.enc r0++[.bool r1]):ke)) src dst kind s xw)⟩
def vd:Sum:= {ps:=[⟨[.str],false⟩],rs:=[⟨[.dQ .i,.dQ .i,.dQ .i,.dQ .i,.dQ .i,.dQ .i,.dQ .i,.dQ .i,.dQ .i,.dQ .i,.dQ .i,.dQ .i,.dQ .i,.dQ .i,.dQ .i,.dQ .str],true⟩,⟨[.dQ .i],false⟩],fn:=fun ds=>(true,nk.enc (pG (rS ds 0)).1++[.int (pG (rS ds 0)).2])}
theorem Zp:DA Tryz.prog 250 vd:=by
 refine nM (Γ:=[(148,ru),(299,yi),(303,Qx),(304,wY)]) (Hx zn (Hx ncg (Hx nsh (Hx ng_ IU)))) Tryz.func250 fun ds (hw:jI ([.str]) ds) _=> ?_
 obtain⟨s,rfl,_⟩:=p9 hw
 exact⟨0,eT (Zo (fun r0 r1=>((true,nk.enc r0++[.int r1]):ke)) s)⟩
theorem naY:DA Tryz.prog 244 vd:=by
 refine nM (Γ:=[(192,ru),(291,yi),(292,Qx),(293,wY)]) (Hx zD (Hx nrh (Hx ntE (Hx nhL IU)))) Tryz.func244 fun ds (hw:jI ([.str]) ds) _=> ?_
 obtain⟨s,rfl,_⟩:=p9 hw
 exact⟨0,eT (Zo (fun r0 r1=>((true,nk.enc r0++[.int r1]):ke)) s)⟩
def QE:Sum:= {ps:=[⟨[.str],false⟩],rs:=[⟨[.dQ .str],false⟩],fn:=fun ds=>(ss (rS ds 0),[.str (nkn (rS ds 0))])}
theorem nss:DA Tryz.prog 338 QE:=by
 refine nM (Γ:=[(340,wh)]) (Hx nv2 IU) Tryz.func338 fun ds (hw:jI ([.str]) ds) aF=> ?_
 obtain⟨s,rfl,_⟩:=p9 hw
 exact⟨0,eT (ne0 Vm.jK (fun r0=>((true,[.str r0]):ke)) s aF)⟩
theorem ntO:DA Tryz.prog 335 QE:=by
 refine nM (Γ:=[(339,wh)]) (Hx nwm IU) Tryz.func335 fun ds (hw:jI ([.str]) ds) aF=> ?_
 obtain⟨s,rfl,_⟩:=p9 hw
 exact⟨0,eT (ne0 Vm.jK (fun r0=>((true,[.str r0]):ke)) s aF)⟩
def yG:Sum:= {ps:=[⟨nk.ct,true⟩],rs:=[⟨[.dQ .str],false⟩,⟨[.dQ .bool],false⟩],fn:=fun ds=>(true,[.str (r_ (nk.na ds 0)).1]++[.bool (r_ (nk.na ds 0)).2])}
theorem nks:DA Tryz.prog 328 yG:=by
 refine nM (Γ:=[(221,sb),(337,OA),(338,QE)]) (Hx Qk (Hx nps (Hx nss IU))) Tryz.func328 fun ds (hw:jI (nk.ct++[]) ds) _=> ?_
 obtain⟨p,ds,rfl,_,hw⟩:=nk.nB (r:=_) hw
 obtain rfl:=nm hw
 exact⟨0,eT (nkr Vm.jK (fun r0 r1=>((true,[.str r0]++[.bool r1]):ke)) p)⟩
theorem nl9:DA Tryz.prog 325 yG:=by
 refine nM (Γ:=[(194,sb),(334,OA),(335,QE)]) (Hx Q_ (Hx nrf (Hx ntO IU))) Tryz.func325 fun ds (hw:jI (nk.ct++[]) ds) _=> ?_
 obtain⟨p,ds,rfl,_,hw⟩:=nk.nB (r:=_) hw
 obtain rfl:=nm hw
 exact⟨0,eT (nl8 Vm.jK (fun r0 r1=>((true,[.str r0]++[.bool r1]):ke)) p)⟩
def vT:Sum:= {ps:=[⟨[.sl [.i,.i,.i,.i,.i,.i,.i,.i,.i,.i,.i,.i,.i,.i,.i,.str]],false⟩],rs:=[⟨[.own 9 [.str]],false⟩],fn:=fun ds=>(nwh (rR ds 0),[.sl (nep (rR ds 0))])}
def nb3:Ctx:=[(328,yG)]
theorem npm:bt Tryz.prog nb3:=Hx nks IU
def nb2:List (Nat×kW):=[(3, {bN:=[(3,.mh),(9,.mh),(10,.mh),(11,.mh)],boxes:=[]})]
def nb4:Rows→ke:=(fun r0=>((true,[.sl r0]):ke))
def nmE (list_:Rows) (nZ om:Int) (nD:Rows):St:= {n:=27,sl:=[(3,.own 640192),(9,.sl [.i,.i,.i,.i,.i,.i,.i,.i,.i,.i,.i,.i,.i,.i,.i,.str] list_),(10,.int .i64 nZ),(11,.int .i64 om)],hp:=[(640192,.row 9 [.str] nD false true)],ok:=true,ls:=[],lm:=[]}
theorem npl:DA Tryz.prog 305 vT:=by
 refine qh (A:=nb2) npm Tryz.func305 fun ds (hw:jI ([.sl [.i,.i,.i,.i,.i,.i,.i,.i,.i,.i,.i,.i,.i,.i,.i,.str]]) ds) aF=> ?_
 obtain⟨list_,rfl,pg⟩:=oU hw
 obtain⟨N,hN⟩:=nb5 Vm.jK nb4 list_ pg aF
 exact⟨N,eL (fun l_=>Oy Vm.jK nb4 l_ list_) (funext fun nZ=>Tm (KR Tryz.prog nb3 nb2 N Tryz.f305 vT [true,true,false,true,false] []) (nmE list_ nZ) _ N) hN⟩
def ndC:Ctx:=[(325,yG)]
theorem nra:bt Tryz.prog ndC:=Hx nl9 IU
def ndB:List (Nat×kW):=[(3, {bN:=[(0,.mh),(3,.mh),(4,.mh)],boxes:=[]})]
def ndD:Rows→ke:=(fun r0=>((true,[.sl r0]):ke))
def noi (list_:Rows) (k:Int) (nD:Rows):St:= {n:=28,sl:=[(0,.sl [.i,.i,.i,.i,.i,.i,.i,.i,.i,.i,.i,.i,.i,.i,.i,.str] list_),(3,.own 640192),(4,.int .i64 k)],hp:=[(640192,.row 9 [.str] nD false true)],ok:=true,ls:=[],lm:=[]}
theorem nq_:DA Tryz.prog 294 vT:=by
 refine qh (A:=ndB) nra Tryz.func294 fun ds (hw:jI ([.sl [.i,.i,.i,.i,.i,.i,.i,.i,.i,.i,.i,.i,.i,.i,.i,.str]]) ds) aF=> ?_
 obtain⟨list_,rfl,pg⟩:=oU hw
 obtain⟨N,hN⟩:=nb5 Vm.jK ndD list_ pg aF
 exact⟨N,eL (fun l_=>Oy Vm.jK ndD (fun _=>l_) list_) (Tm (KR Tryz.prog ndC ndB N Tryz.f294 vT [true,true,false,true,false] []) (noi list_) _ N) hN⟩
def zT:Sum:= {ps:=[⟨nk.ct,true⟩,⟨[.i],false⟩],rs:=[⟨[.own 86 [.i,.i,.i,.i,.i,.i,.i,.i,.i,.i,.i,.i,.i,.i,.i,.str]],false⟩],fn:=fun ds=>(true,[.sl (Split (nk.na ds 0) (rI ds 16))])}
def nkH:Ctx:=[(143,nG),(148,ru)]
theorem nv7:bt Tryz.prog nkH:=Hx oN (Hx zn IU)
def nkG:List (Nat×kW):=[(8, {bN:=[(1,.mh),(2,.mh),(5,.mh),(6,.mh),(7,.mh)],boxes:=[(128,[])]})]
def nkI:Rows→ke:=(fun r0=>((true,[.sl r0]):ke))
def nuy (size:Int) (body:Bytes) (k p_1 p_2 PT RD p_5 p_6 p_7 p_8 p_9 NP NQ NR NS NT NU:Int) (nbC:Bytes) (nD:Rows):St:= {n:=88,sl:=[(1,.int .i64 size),(2,.ptr 128 0),(5,.str body),(6,.own 640384),(7,.int .i64 k)],hp:=[(128,.box 86 [.int .i64 p_1,.int .i64 p_2,.int .i64 PT,.int .i64 RD,.int .i64 p_5,.int .i64 p_6,.int .i64 p_7,.int .i64 p_8,.int .i64 p_9,.int .i64 NP,.int .i64 NQ,.int .i64 NR,.int .i64 NS,.int .i64 NT,.int .i64 NU,.str nbC]),(640384,.row 86 [.i,.i,.i,.i,.i,.i,.i,.i,.i,.i,.i,.i,.i,.i,.i,.str] nD false true)],ok:=true,ls:=[],lm:=[]}
theorem nv6:DA Tryz.prog 306 zT:=by
 refine qh (A:=nkG) nv7 Tryz.func306 fun ds (hw:jI (nk.ct++[.i]) ds) _=> ?_
 obtain⟨p,ds,rfl,_,hw⟩:=nk.nB (r:=_) hw
 obtain⟨size,rfl,_⟩:=nt hw
 obtain⟨N,hN⟩:=nv5 Vm.jK nkI p size
 exact⟨N,eL (fun l_=>nbs Vm.jK nkI l_ p size) (funext fun body=>funext fun p_1=>funext fun p_2=>funext fun PT=>funext fun RD=>funext fun p_5=>funext fun p_6=>funext fun p_7=>funext fun p_8=>funext fun p_9=>funext fun NP=>funext fun NQ=>funext fun NR=>funext fun NS=>funext fun NT=>funext fun NU=>Tm (KR Tryz.prog nkH nkG N Tryz.f306 zT [true,true,true,true,true,false,true,false] []) (fun k nD=>nuy size body k p_1 p_2 PT RD p_5 p_6 p_7 p_8 p_9 NP NQ NR NS NT NU p.rZ.Body nD) _ N) hN⟩
def nmm:Ctx:=[(106,nG),(192,ru)]
theorem nwr:bt Tryz.prog nmm:=Hx ph (Hx zD IU)
def nml:List (Nat×kW):=[(8, {bN:=[(1,.mh),(2,.mh),(5,.mh),(6,.mh),(7,.mh)],boxes:=[(128,[])]})]
def nmn:Rows→ke:=(fun r0=>((true,[.sl r0]):ke))
def nvs (size n k p_1 p_2 PT RD p_5 p_6 p_7 p_8 p_9 NP NQ NR NS NT NU:Int) (nbC:Bytes) (nD:Rows):St:= {n:=92,sl:=[(1,.int .i64 size),(2,.ptr 128 0),(5,.own 640320),(6,.int .i64 n),(7,.int .i64 k)],hp:=[(128,.box 86 [.int .i64 p_1,.int .i64 p_2,.int .i64 PT,.int .i64 RD,.int .i64 p_5,.int .i64 p_6,.int .i64 p_7,.int .i64 p_8,.int .i64 p_9,.int .i64 NP,.int .i64 NQ,.int .i64 NR,.int .i64 NS,.int .i64 NT,.int .i64 NU,.str nbC]),(640320,.row 86 [.i,.i,.i,.i,.i,.i,.i,.i,.i,.i,.i,.i,.i,.i,.i,.str] nD false true)],ok:=true,ls:=[],lm:=[]}
theorem nwq:DA Tryz.prog 295 zT:=by
 refine qh (A:=nml) nwr Tryz.func295 fun ds (hw:jI (nk.ct++[.i]) ds) _=> ?_
 obtain⟨p,ds,rfl,_,hw⟩:=nk.nB (r:=_) hw
 obtain⟨size,rfl,_⟩:=nt hw
 obtain⟨N,hN⟩:=nwp Vm.jK nmn p size
 exact⟨N,eL (fun l_=>nbM Vm.jK nmn l_ p size) (funext fun n=>funext fun p_1=>funext fun p_2=>funext fun PT=>funext fun RD=>funext fun p_5=>funext fun p_6=>funext fun p_7=>funext fun p_8=>funext fun p_9=>funext fun NP=>funext fun NQ=>funext fun NR=>funext fun NS=>funext fun NT=>funext fun NU=>funext fun nbC=>Tm (KR Tryz.prog nmm nml N Tryz.f295 zT [true,true,true,true,true,false,true,false] []) (fun k nD=>nvs size n k p_1 p_2 PT RD p_5 p_6 p_7 p_8 p_9 NP NQ NR NS NT NU nbC nD) _ N) hN⟩
def yJ:Sum:= {ps:=[⟨nk.ct,true⟩,⟨[.i],false⟩],rs:=[⟨[.own 9 [.str]],false⟩],fn:=fun ds=>(true,[.sl (Pk (nk.na ds 0) (rI ds 16))])}
theorem nkF:DA Tryz.prog 251 yJ:=by
 refine nM (Γ:=[(305,vT),(306,zT)]) (Hx npl (Hx nv6 IU)) Tryz.func251 fun ds (hw:jI (nk.ct++[.i]) ds) _=> ?_
 obtain⟨p,ds,rfl,_,hw⟩:=nk.nB (r:=_) hw
 obtain⟨size,rfl,_⟩:=nt hw
 exact⟨0,eT (XH Vm.jK (fun r0=>((true,[.sl r0]):ke)) p size)⟩
theorem nmk:DA Tryz.prog 245 yJ:=by
 refine nM (Γ:=[(294,vT),(295,zT)]) (Hx nq_ (Hx nwq IU)) Tryz.func245 fun ds (hw:jI (nk.ct++[.i]) ds) _=> ?_
 obtain⟨p,ds,rfl,_,hw⟩:=nk.nB (r:=_) hw
 obtain⟨size,rfl,_⟩:=nt hw
 exact⟨0,eT (XH Vm.jK (fun r0=>((true,[.sl r0]):ke)) p size)⟩
def O3:Sum:= {ps:=[⟨[.str],false⟩],rs:=[⟨[.dQ .str],false⟩,⟨[.dQ .bool],false⟩],fn:=fun ds=>(ss (rS ds 0),[.str (rz (rS ds 0)).1]++[.bool (rz (rS ds 0)).2])}
theorem nq6:DA Tryz.prog 243 O3:=by
 refine nM (Γ:=[(111,OJ),(194,sb),(195,Xe),(196,rT),(197,p7),(244,vd),(261,wI),(288,tw),(289,tr),(290,su)]) (Hx nrx (Hx Q_ (Hx ngF (Hx O4 (Hx u4 (Hx naY (Hx xZ (Hx TW (Hx UY (Hx Rg IU)))))))))) Tryz.func243 fun ds (hw:jI ([.str]) ds) aF=> ?_
 obtain⟨t,rfl,_⟩:=p9 hw
 exact⟨0,eT (nq5 Vm.jK (fun r0 r1=>((true,[.str r0]++[.bool r1]):ke)) t aF)⟩
theorem nph:DA Tryz.prog 249 O3:=by
 refine nM (Γ:=[(149,OJ),(221,sb),(222,RQ),(223,rT),(224,p7),(250,vd),(276,xH),(277,ON),(299,yi),(300,tr),(301,su),(302,tw)]) (Hx npL (Hx Qk (Hx ZA (Hx OB (Hx ud (Hx Zp (Hx zO (Hx TJ (Hx ncg (Hx Un (Hx Qr (Hx Tt IU)))))))))))) Tryz.func249 fun ds (hw:jI ([.str]) ds) aF=> ?_
 obtain⟨t,rfl,_⟩:=p9 hw
 exact⟨0,eT (npg Vm.jK (fun r0 r1=>((true,[.str r0]++[.bool r1]):ke)) t aF)⟩
def w4:Sum:= {ps:=[⟨[.sl [.i,.i,.i,.bool]],false⟩,⟨nd.ct,true⟩,⟨[.i],false⟩,⟨ny.ct,true⟩],rs:=[⟨[.dQ .i,.dQ .i,.dQ .i,.dQ .i],true⟩,⟨[.own 9 [.str]],false⟩,⟨[.dQ .i],false⟩],fn:=fun ds=>(true,ny.enc (oG (rR ds 0) (nd.na ds 1) (rI ds 2) (ny.na ds 3)).1++[.sl (oG (rR ds 0) (nd.na ds 1) (rI ds 2) (ny.na ds 3)).2.1]++[.int (oG (rR ds 0) (nd.na ds 1) (rI ds 2) (ny.na ds 3)).2.2])}
theorem nhc:DA Tryz.prog 180 w4:=by
 refine nM (Γ:=[(213,rb),(225,rU),(246,vf),(247,sJ),(248,tq),(249,O3),(250,vd),(251,yJ)]) (Hx yv (Hx OD (Hx nmM (Hx neP (Hx ng6 (Hx nph (Hx Zp (Hx nkF IU)))))))) Tryz.func180 fun ds hw _=> ?_
 replace hw:jI ((.sl [.i,.i,.i,.bool])::(nd.ct++(.i::(ny.ct++[])))) ds:=hw
 obtain⟨list_,ds,rfl,_,hw⟩:=oh hw
 obtain⟨m,ds,rfl,Vk,hw⟩:=nd.nB (r:=_) hw
 obtain⟨domain,ds,rfl,_,hw⟩:=nX hw
 obtain⟨r,ds,rfl,_,hw⟩:=ny.nB (r:=_) hw
 obtain rfl:=nm hw
 exact⟨0,eT (nhb Vm.jK (fun r0 r1 r2=>((true,ny.enc r0++[.sl r1]++[.int r2]):ke)) list_ m domain r Vk)⟩
theorem nhO:DA Tryz.prog 178 w4:=by
 refine nM (Γ:=[(187,rb),(198,rU),(240,vf),(241,zB),(242,tq),(243,O3),(244,vd),(245,yJ)]) (Hx yz (Hx O5 (Hx nor (Hx nf6 (Hx nhH (Hx nq6 (Hx naY (Hx nmk IU)))))))) Tryz.func178 fun ds hw _=> ?_
 replace hw:jI ((.sl [.i,.i,.i,.bool])::(nd.ct++(.i::(ny.ct++[])))) ds:=hw
 obtain⟨list_,ds,rfl,_,hw⟩:=oh hw
 obtain⟨m,ds,rfl,Vk,hw⟩:=nd.nB (r:=_) hw
 obtain⟨domain,ds,rfl,_,hw⟩:=nX hw
 obtain⟨r,ds,rfl,_,hw⟩:=ny.nB (r:=_) hw
 obtain rfl:=nm hw
 exact⟨0,eT (nhN Vm.jK (fun r0 r1 r2=>((true,ny.enc r0++[.sl r1]++[.int r2]):ke)) list_ m domain r Vk)⟩
def tV:Sum:= {ps:=[⟨[.sl [.i,.i,.i,.bool]],false⟩,⟨nd.ct,true⟩,⟨[.i],false⟩,⟨ny.ct,true⟩],rs:=[⟨[.dQ .i,.dQ .i,.dQ .i,.dQ .i],true⟩,⟨[.own 9 [.str]],false⟩,⟨[.dQ .i],false⟩,⟨[.dQ .i],false⟩],fn:=fun ds=>(true,ny.enc (qs (rR ds 0) (nd.na ds 1) (rI ds 2) (ny.na ds 3)).1++[.sl (qs (rR ds 0) (nd.na ds 1) (rI ds 2) (ny.na ds 3)).2.1]++[.int (qs (rR ds 0) (nd.na ds 1) (rI ds 2) (ny.na ds 3)).2.2.1]++[.int (qs (rR ds 0) (nd.na ds 1) (rI ds 2) (ny.na ds 3)).2.2.2])}
def VE:Ctx:=[(180,w4)]
theorem nje:bt Tryz.prog VE:=Hx nhc IU
def VD:List (Nat×kW):=[(3, {bN:=[(0,.mh),(2,.mh),(5,.mh),(7,.mh),(8,.mh),(12,.mh),(13,.mh),(14,.mh)],boxes:=[(320,[]),(448,[]),(512,[])]})]
def VF:ny→Rows→Int→Int→ke:=(fun r0 r1 r2 r3=>((true,ny.enc r0++[.sl r1]++[.int r2]++[.int r3]):ke))
def nha (list_:Rows) (domain done ni0:Int) (qi:Rows) (r_1 r_2 r_3 r_4 b8 nzC nzD nzE:Int) (ni4:Rows):St:= {n:=45,sl:=[(0,.sl [.i,.i,.i,.bool] list_),(2,.int .i64 domain),(5,.ptr 320 0),(7,.ptr 448 0),(8,.ptr 512 0),(12,.own 640768),(13,.int .i64 done),(14,.int .i64 ni0)],hp:=[(320,.box 59 [.sl [.str] qi]),(448,.box 61 [.int .i64 r_1,.int .i64 r_2,.int .i64 r_3,.int .i64 r_4]),(512,.box 61 [.int .i64 b8,.int .i64 nzC,.int .i64 nzD,.int .i64 nzE]),(640768,.row 9 [.str] ni4 false true)],ok:=true,ls:=[],lm:=[]}
theorem njd:DA Tryz.prog 88 tV:=by
 refine qh (A:=VD) nje Tryz.func88 fun ds hw _=> ?_
 replace hw:jI ((.sl [.i,.i,.i,.bool])::(nd.ct++(.i::(ny.ct++[])))) ds:=hw
 obtain⟨list_,ds,rfl,_,hw⟩:=oh hw
 obtain⟨m,ds,rfl,_,hw⟩:=nd.nB (r:=_) hw
 obtain⟨domain,ds,rfl,_,hw⟩:=nX hw
 obtain⟨r,ds,rfl,_,hw⟩:=ny.nB (r:=_) hw
 obtain rfl:=nm hw
 obtain⟨N,hN⟩:=njc Vm.jK VF list_ m domain r
 exact⟨N,eL (fun l_=>Po Vm.jK VF l_ list_ m domain r) (funext fun qi=>nL7 (KR Tryz.prog VE VD N Tryz.f88 tV [true,true,true,false] []) (fun done ni0 r_1 r_2 r_3 r_4 ni4=>nha list_ domain done ni0 qi r_1 r_2 r_3 r_4 0 0 0 0 ni4) _ N) hN⟩
def W1:Ctx:=[(178,w4)]
theorem nj_:bt Tryz.prog W1:=Hx nhO IU
def W0:List (Nat×kW):=[(4, {bN:=[(0,.mh),(2,.mh),(5,.mh),(7,.mh),(8,.mh),(12,.mh),(13,.mh),(14,.mh)],boxes:=[(320,[]),(448,[]),(512,[])]})]
def W2:ny→Rows→Int→Int→ke:=(fun r0 r1 r2 r3=>((true,ny.enc r0++[.sl r1]++[.int r2]++[.int r3]):ke))
def nhM (list_:Rows) (domain done ni0:Int) (qi:Rows) (r_1 r_2 r_3 r_4 b8 nzC nzD nzE:Int) (nD:Rows):St:= {n:=44,sl:=[(0,.sl [.i,.i,.i,.bool] list_),(2,.int .i64 domain),(5,.ptr 320 0),(7,.ptr 448 0),(8,.ptr 512 0),(12,.own 640768),(13,.int .i64 done),(14,.int .i64 ni0)],hp:=[(320,.box 59 [.sl [.str] qi]),(448,.box 61 [.int .i64 r_1,.int .i64 r_2,.int .i64 r_3,.int .i64 r_4]),(512,.box 61 [.int .i64 b8,.int .i64 nzC,.int .i64 nzD,.int .i64 nzE]),(640768,.row 9 [.str] nD false true)],ok:=true,ls:=[],lm:=[]}
theorem nj9:DA Tryz.prog 86 tV:=by
 refine qh (A:=W0) nj_ Tryz.func86 fun ds hw _=> ?_
 replace hw:jI ((.sl [.i,.i,.i,.bool])::(nd.ct++(.i::(ny.ct++[])))) ds:=hw
 obtain⟨list_,ds,rfl,_,hw⟩:=oh hw
 obtain⟨m,ds,rfl,_,hw⟩:=nd.nB (r:=_) hw
 obtain⟨domain,ds,rfl,_,hw⟩:=nX hw
 obtain⟨r,ds,rfl,_,hw⟩:=ny.nB (r:=_) hw
 obtain rfl:=nm hw
 obtain⟨N,hN⟩:=nj8 Vm.jK W2 list_ m domain r
 exact⟨N,eL (fun l_=>PB Vm.jK W2 l_ list_ m domain r) (funext fun qi=>nL7 (KR Tryz.prog W1 W0 N Tryz.f86 tV [true,true,true,true,false] []) (fun done ni0 r_1 r_2 r_3 r_4 nD=>nhM list_ domain done ni0 qi r_1 r_2 r_3 r_4 0 0 0 0 nD) _ N) hN⟩
def xE:Sum:= {ps:=[⟨ng.ct,true⟩,⟨[.i],false⟩],rs:=[⟨[.dQ .i,.dQ .i,.dQ .i,.dQ .i,.dQ .i,.dQ .i,.dQ .i,.own 3 [.i],.deep 207 [.i,.i,.sl [.i]] [3],.dQ .i],true⟩,⟨[.own 3 [.i]],false⟩],fn:=fun ds=>(qf (ng.na ds 0) (rI ds 10),ng.enc (oS (ng.na ds 0) (rI ds 10)).1++[.sl (oS (ng.na ds 0) (rI ds 10)).2])}
def Qm:Ctx:=[(132,YO),(141,xx),(143,nG),(181,tT),(182,OL)]
theorem nbl:bt Tryz.prog Qm:=Hx nh7 (Hx noX (Hx oN (Hx Vu (Hx ncN IU))))
def Ql:List (Nat×kW):=[(6, {bN:=[(1,.mh),(2,.mh),(4,.mh),(6,.mh),(7,.mh),(28,.mh),(29,.mh),(30,.mh)],boxes:=[(128,[]),(256,[]),(384,[])]})]
def Qn:ng→Rows→ke:=(fun r0 r1=>((true,ng.enc r0++[.sl r1]):ke))
def Zk (n:Int) (x:Rows) (nZ om q_1 q_2 q_3 q_4 q_5 q_6 q_7:Int) (q_8 yg:Rows) (nwi b4 nzv nzw nzx nzy nzz nzA nzB nD po pq pr pW pX pY pw:Int) (xz rF wX:Rows):St:= {n:=57,sl:=[(1,.int .i64 n),(2,.ptr 128 0),(4,.ptr 256 0),(6,.ptr 384 0),(7,.own 640448),(28,.sl [.i,.i,.sl [.i]] x),(29,.int .i64 nZ),(30,.int .i64 om)],hp:=[(128,.box 65 [.int .i64 q_1,.int .i64 q_2,.int .i64 q_3,.int .i64 q_4,.int .i64 q_5,.int .i64 q_6,.int .i64 q_7,.sl [.i] q_8,.sl [.i,.i,.sl [.i]] yg,.int .i64 nwi]),(256,.box 65 [.int .i64 b4,.int .i64 nzv,.int .i64 nzw,.int .i64 nzx,.int .i64 nzy,.int .i64 nzz,.int .i64 nzA,.nil,.nil,.int .i64 nzB]),(384,.box 65 [.int .i64 nD,.int .i64 po,.int .i64 pq,.int .i64 pr,.int .i64 pW,.int .i64 pX,.int .i64 pY,.own 1378311,.own 1378312,.int .i64 pw]),(640448,.row 3 [.i] xz false true),(1378311,.row 3 [.i] rF false true),(1378312,.deep 207 [.i,.i,.sl [.i]] [3] wX none)],ok:=true,ls:=[],lm:=[]}
theorem nbk:DA Tryz.prog 89 xE:=by
 refine qh (A:=Ql) nbl Tryz.func89 fun ds (hw:jI (ng.ct++[.i]) ds) aF=> ?_
 obtain⟨q,ds,rfl,_,hw⟩:=ng.nB (r:=_) hw
 obtain⟨n,rfl,_⟩:=nt hw
 obtain⟨N,hN⟩:=nbj Vm.jK Qn q n aF
 exact⟨N,eL (fun l_=>xF Vm.jK Qn l_ q n) (funext fun x=>funext fun nZ=>funext fun yg=>funext fun nD=>funext fun po=>funext fun pq=>funext fun pr=>funext fun pw=>nL6 (KR Tryz.prog Qm Ql N Tryz.f89 xE [true,true,true,true,false,true,false] []) (fun om pW pX pY xz rF=>Zk n x nZ om q.Ring.oR q.Ring.nR q.Ring.Head q.Ring.pV q.n7.oR q.n7.nR q.n7.Count q.n7.py yg q.Next 0 0 0 0 0 0 0 0 nD po pq pr pW pX pY pw xz rF ((oQ q).ni)) _ N) hN⟩
def xX:Sum:= {ps:=[⟨ng.ct,true⟩,⟨[.i],false⟩],rs:=[⟨[.dQ .i,.dQ .i,.dQ .i,.dQ .i,.dQ .i,.dQ .i,.dQ .i,.own 3 [.i],.dQ (.sl [.i,.i,.sl [.i]]),.dQ .i],true⟩,⟨[.own 3 [.i]],false⟩],fn:=fun ds=>(qf (ng.na ds 0) (rI ds 10),ng.enc (oS (ng.na ds 0) (rI ds 10)).1++[.sl (oS (ng.na ds 0) (rI ds 10)).2])}
def Rb:Ctx:=[(98,Rt),(104,xx),(106,nG),(179,tT)]
theorem nbI:bt Tryz.prog Rb:=Hx ngE (Hx no7 (Hx ph (Hx WR IU)))
def Ra:List (Nat×kW):=[(6, {bN:=[(1,.mh),(2,.mh),(4,.mh),(6,.mh),(7,.mh),(8,.mh)],boxes:=[(128,[]),(256,[]),(384,[])]})]
def Rc:ng→Rows→ke:=(fun r0 r1=>((true,ng.enc r0++[.sl r1]):ke))
def naU (n k q_1 q_2 q_3 q_4 q_5 q_6 q_7:Int) (q_8 yg:Rows) (nwi b4 nzv nzw nzx nzy nzz nzA nzB nD po pq pr pW pX pY pw:Int) (xz rF wX:Rows):St:= {n:=59,sl:=[(1,.int .i64 n),(2,.ptr 128 0),(4,.ptr 256 0),(6,.ptr 384 0),(7,.own 640448),(8,.int .i64 k)],hp:=[(128,.box 65 [.int .i64 q_1,.int .i64 q_2,.int .i64 q_3,.int .i64 q_4,.int .i64 q_5,.int .i64 q_6,.int .i64 q_7,.sl [.i] q_8,.sl [.i,.i,.sl [.i]] yg,.int .i64 nwi]),(256,.box 65 [.int .i64 b4,.int .i64 nzv,.int .i64 nzw,.int .i64 nzx,.int .i64 nzy,.int .i64 nzz,.int .i64 nzA,.nil,.nil,.int .i64 nzB]),(384,.box 65 [.int .i64 nD,.int .i64 po,.int .i64 pq,.int .i64 pr,.int .i64 pW,.int .i64 pX,.int .i64 pY,.own 1378311,.own 1378312,.int .i64 pw]),(640448,.row 3 [.i] xz false true),(1378311,.row 3 [.i] rF false true),(1378312,.row 207 [.i,.i,.sl [.i]] wX false true)],ok:=true,ls:=[],lm:=[]}
theorem nbH:DA Tryz.prog 87 xX:=by
 refine qh (A:=Ra) nbI Tryz.func87 fun ds (hw:jI (ng.ct++[.i]) ds) aF=> ?_
 obtain⟨q,ds,rfl,_,hw⟩:=ng.nB (r:=_) hw
 obtain⟨n,rfl,_⟩:=nt hw
 obtain⟨N,hN⟩:=nbG Vm.jK Rc q n aF
 exact⟨N,eL (fun l_=>xY Vm.jK Rc l_ q n) (funext fun yg=>funext fun nD=>funext fun po=>funext fun pq=>funext fun pr=>funext fun pw=>funext fun wX=>nL6 (KR Tryz.prog Rb Ra N Tryz.f87 xX [true,true,true,true,false,true,false] []) (fun k pW pX pY xz rF=>naU n k q.Ring.oR q.Ring.nR q.Ring.Head q.Ring.pV q.n7.oR q.n7.nR q.n7.Count q.n7.py yg q.Next 0 0 0 0 0 0 0 0 nD po pq pr pW pX pY pw xz rF wX) _ N) hN⟩
def Ui:Sum:= {ps:=[⟨nx.ct,true⟩],rs:=[⟨[.own 9 [.str],.own 209 [.i,.i,.i,.bool],.dQ .i,.dQ .i,.dQ .i,.dQ .i,.dQ .i,.dQ .i,.dQ .i,.own 3 [.i],.deep 207 [.i,.i,.sl [.i]] [3],.dQ .i,.own 182 [.i,.i,.i,.i,.i,.i,.i,.i,.i,.i,.i,.i,.i,.i,.i,.i,.i,.i,.i,.i,.i,.i,.i,.i,.i,.str,.i,.i,.bool,.i],.deep 62 [.i,.i,.i,.sl [.i]] [3],.own 186 [.i,.i,.i,.i,.bool,.bool],.own 4 [.bool],.dQ .i,.dQ .bool,.own 3 [.i],.own 260 [.i,.i,.i,.i,.i,.i,.i,.i,.i],.own 262 [.i,.i,.i,.i,.i,.i,.i],.dQ .str,.own 3 [.i],.own 223 [.i,.i,.i,.i,.i,.i,.str,.bool],.dQ .bool,.own 9 [.str],.own 3 [.i],.own 3 [.i],.dQ .i,.dQ .i,.dQ .i,.dQ .i,.dQ .i],true⟩],fn:=fun ds=>(tv (nx.na ds 0),nx.enc (nY (nx.na ds 0)))}
theorem ng9:DA Tryz.prog 15 Ui:=by
 refine nM (Γ:=[(46,TD),(47,rP),(88,tV),(89,xE)]) (Hx npO (Hx nus (Hx njd (Hx nbk IU)))) Tryz.func15 fun ds (hw:jI (nx.ct++[]) ds) aF=> ?_
 obtain⟨h,ds,rfl,_,hw⟩:=nx.nB (r:=_) hw
 obtain rfl:=nm hw
 exact⟨0,eT (ng8 Vm.jK (fun r0=>((true,nx.enc r0):ke)) h aF)⟩
def UW:Sum:= {ps:=[⟨nx.ct,true⟩],rs:=[⟨[.own 9 [.str],.own 209 [.i,.i,.i,.bool],.dQ .i,.dQ .i,.dQ .i,.dQ .i,.dQ .i,.dQ .i,.dQ .i,.own 3 [.i],.dQ (.sl [.i,.i,.sl [.i]]),.dQ .i,.own 182 [.i,.i,.i,.i,.i,.i,.i,.i,.i,.i,.i,.i,.i,.i,.i,.i,.i,.i,.i,.i,.i,.i,.i,.i,.i,.str,.i,.i,.bool,.i],.own 62 [.i,.i,.i,.sl [.i]],.own 186 [.i,.i,.i,.i,.bool,.bool],.own 4 [.bool],.dQ .i,.dQ .bool,.own 3 [.i],.own 260 [.i,.i,.i,.i,.i,.i,.i,.i,.i],.own 262 [.i,.i,.i,.i,.i,.i,.i],.dQ .str,.own 3 [.i],.own 223 [.i,.i,.i,.i,.i,.i,.str,.bool],.dQ .bool,.own 9 [.str],.own 3 [.i],.own 3 [.i],.dQ .i,.dQ .i,.dQ .i,.dQ .i,.dQ .i],true⟩],fn:=fun ds=>(tv (nx.na ds 0),nx.enc (nY (nx.na ds 0)))}
theorem nhK:DA Tryz.prog 14 UW:=by
 refine nM (Γ:=[(29,Xf),(30,rP),(86,tV),(87,xX)]) (Hx nub (Hx nvm (Hx nj9 (Hx nbH IU)))) Tryz.func14 fun ds (hw:jI (nx.ct++[]) ds) aF=> ?_
 obtain⟨h,ds,rfl,_,hw⟩:=nx.nB (r:=_) hw
 obtain rfl:=nm hw
 exact⟨0,eT (nhJ Vm.jK (fun r0=>((true,nx.enc r0):ke)) h aF)⟩
def VW:Sum:= {ps:=[⟨nx.ct,true⟩],rs:=[⟨[.dQ .bool],false⟩],fn:=fun ds=>(Xl (nx.ct++([])) ds,[.bool true])}
theorem VV:DA Tryz.prog 4 VW:=by
 refine nM (Γ:=[(5,niD),(8,niH),(11,nio),(12,nc9),(13,nc4),(14,UW),(15,Ui)]) (Hx nuX (Hx nu4 (Hx nuM (Hx nqj (Hx nqd (Hx nhK (Hx ng9 IU))))))) Tryz.func4 fun ds (hw:jI (nx.ct++[]) ds) aF=> ?_
 obtain⟨aH,ds,rfl,nyE,hw⟩:=nx.nB (r:=_) hw
 obtain rfl:=nm hw
 exact⟨0,eT (VU Vm.jK (fun r0=>((true,[.bool r0]):ke)) aH nyE aF)⟩
end
end Go.Proofs.YtngbcccnjiaddaaGreat.Pl
