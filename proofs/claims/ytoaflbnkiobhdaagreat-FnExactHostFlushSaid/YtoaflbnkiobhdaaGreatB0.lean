/- Contracts. Conditions: as each says. -/
import Derived.Test.YtoaflbnkiobhdaaGreatP0
import Derived.Test.YtoaflbnkiobhdaaGreatRows
import Derived.Test.YtoaflbnkiobhdaaGreatP1
set_option linter.unusedVariables false
set_option linter.unusedSimpArgs false
set_option maxRecDepth 100000
namespace Go.Proofs.YtoaflbnkiobhdaaGreat.Pl
open Vm
noncomputable section
def ndI:Sum:= {ps:=[⟨[.sl [.i,.i,.i,.i,.i,.i,.i]],false⟩,⟨[.i],false⟩],rs:=[⟨[.d_ .i],false⟩],fn:=fun ds=>(true,[.int (pF (rR ds 0) (rI ds 1))])}
theorem nqZ:D9 Tryz.prog 135 ndI:=by
 refine nN JB Tryz.func135 fun ds (hw:ka ([.sl [.i,.i,.i,.i,.i,.i,.i],.i]) ds) _=> ?_
 obtain⟨a,ds,rfl,_,hw⟩:=og hw
 obtain⟨left,rfl,_⟩:=nw hw
 exact⟨0,eT (wV (fun r0=>((true,[.int r0]):kK)) a left)⟩
def U6:Sum:= {ps:=[⟨ni.ct,true⟩,⟨[.i],false⟩],rs:=[⟨[.d_ .i],false⟩],fn:=fun ds=>(true,[.int (tl (ni.nd ds 0) (rI ds 1))])}
theorem nhD:D9 Tryz.prog 30 U6:=by
 refine nN (Γ:=[(135,ndI)]) (Ie nqZ JB) Tryz.func30 fun ds (hw:ka (ni.ct++[.i]) ds) _=> ?_
 obtain⟨a,ds,rfl,_,hw⟩:=ni.nz (r:=_) hw
 obtain⟨left,rfl,_⟩:=nw hw
 exact⟨0,eT (nhC (fun r0=>((true,[.int r0]):kK)) a left)⟩
def YB:Sum:= {ps:=[⟨pn.ct,true⟩,⟨pn.ct,true⟩],rs:=[⟨[.d_ .bool],false⟩],fn:=fun ds=>(same (pn.nd ds 0) (pn.nd ds 4),[.bool (pK (pn.nd ds 0) (pn.nd ds 4))])}
theorem nk5:D9 Tryz.prog 164 YB:=by
 refine nN JB Tryz.func164 fun ds (hw:ka (pn.ct++(pn.ct++[])) ds) aJ=> ?_
 obtain⟨a,ds,rfl,_,hw⟩:=pn.nz (r:=_) hw
 obtain⟨b,ds,rfl,_,hw⟩:=pn.nz (r:=_) hw
 obtain rfl:=nr hw
 exact⟨0,eT (nk4 (fun r0=>((true,[.bool r0]):kK)) a b aJ)⟩
def wq:Sum:= {ps:=[⟨[.sl [.i]],false⟩],rs:=[⟨[.own 3 [.i]],false⟩],fn:=fun ds=>(sm (rR ds 0),[.sl (oB (rR ds 0))])}
def ngr:List (Nat×lB):=[(3, {bZ:=[(0,.mK),(3,.mK),(4,.mK)],boxes:=[]})]
def ngs:Rows→kK:=(fun r0=>((true,[.sl r0]):kK))
def nq5 (a:Rows) (i:Int) (n7:Rows):St:= {n:=22,sl:=[(0,.sl [.i] a),(3,.own 640192),(4,.int .i64 i)],hp:=[(640192,.row 3 [.i] n7 false true)],ok:=true,ls:=[],lm:=[]}
theorem NG:D9 Tryz.prog 41 wq:=by
 refine ra (A:=ngr) JB Tryz.func41 fun ds (hw:ka ([.sl [.i]]) ds) aJ=> ?_
 obtain⟨a,rfl,qV⟩:=qm hw
 obtain⟨N,hN⟩:=nsV Vm.kd ngs a qV aJ
 have e0:(fun i n7=>LR (LQ Tryz.prog [] ngr N Tryz.f41 wq [true,true,false,true,false] []) N (nq5 a i n7))=(nmO nr7 Vm.kd ngs N a N):=To _ _ _ N
 refine⟨N,Eq.trans ?_ (hN.trans (by kernel_rfl))⟩
 unfold Z9
 rw[←e0]
 kernel_rfl
def nbV:Sum:= {ps:=[⟨nD.ct,true⟩],rs:=[⟨[.d_ .str,.own 3 [.i]],true⟩],fn:=fun ds=>(uY (nD.nd ds 0),nD.enc (oB (nD.nd ds 0)))}
theorem noS:D9 Tryz.prog 44 nbV:=by
 refine nN (Γ:=[(41,wq)]) (Ie NG JB) Tryz.func44 fun ds (hw:ka (nD.ct++[]) ds) aJ=> ?_
 obtain⟨a,ds,rfl,_,hw⟩:=nD.nz (r:=_) hw
 obtain rfl:=nr hw
 exact⟨0,eT (noR Vm.kd (fun r0=>((true,nD.enc r0):kK)) a aJ)⟩
def wk:Sum:= {ps:=[⟨[.sl [.i]],false⟩,⟨[.sl [.i]],false⟩],rs:=[⟨[.d_ .bool],false⟩],fn:=fun ds=>(same (rR ds 0) (rR ds 1),[.bool (pK (rR ds 0) (rR ds 1))])}
def nf_:List (Nat×lB):=[(4, {bZ:=[(0,.mK),(1,.mK),(5,.mK)],boxes:=[]})]
def nga:Bool→kK:=(fun r0=>((true,[.bool r0]):kK))
def nqA (a b:Rows) (i:Int):St:= {n:=26,sl:=[(0,.sl [.i] a),(1,.sl [.i] b),(5,.int .i64 i)],hp:=[],ok:=true,ls:=[],lm:=[]}
theorem NC:D9 Tryz.prog 64 wk:=by
 refine ra (A:=nf_) JB Tryz.func64 fun ds (hw:ka ([.sl [.i],.sl [.i]]) ds) aJ=> ?_
 obtain⟨a,ds,rfl,qV,hw⟩:=og hw
 obtain⟨b,rfl,_⟩:=qm hw
 obtain⟨N,hN⟩:=nsD Vm.kd nga a b qV aJ
 exact⟨N,eL (fun l_=>XG Vm.kd nga l_ a b) (nL1 (LQ Tryz.prog [] nf_ N Tryz.f64 wk [true,true,false,true,false] []) (nqA a b) _ N) hN⟩
def XH:Sum:= {ps:=[⟨nE.ct,true⟩,⟨nE.ct,true⟩],rs:=[⟨[.d_ .bool],false⟩],fn:=fun ds=>(same (nE.nd ds 0) (nE.nd ds 4),[.bool (pK (nE.nd ds 0) (nE.nd ds 4))])}
theorem ngc:D9 Tryz.prog 166 XH:=by
 refine nN (Γ:=[(64,wk)]) (Ie NC JB) Tryz.func166 fun ds (hw:ka (nE.ct++(nE.ct++[])) ds) aJ=> ?_
 obtain⟨a,ds,rfl,_,hw⟩:=nE.nz (r:=_) hw
 obtain⟨b,ds,rfl,_,hw⟩:=nE.nz (r:=_) hw
 obtain rfl:=nr hw
 exact⟨0,eT (nsE Vm.kd (fun r0=>((true,[.bool r0]):kK)) a b aJ)⟩
def UC:Sum:= {ps:=[⟨[.sl [.i,.i,.i,.sl [.i]]],false⟩,⟨[.sl [.i,.i,.i,.sl [.i]]],false⟩],rs:=[⟨[.d_ .bool],false⟩],fn:=fun ds=>(same (rR ds 0) (rR ds 1),[.bool (pK (rR ds 0) (rR ds 1))])}
def ndb:Ctx:=[(166,XH)]
theorem nqD:bE Tryz.prog ndb:=Ie ngc JB
def nda:List (Nat×lB):=[(4, {bZ:=[(0,.mK),(1,.mK),(5,.mK)],boxes:=[]})]
def ndc:Bool→kK:=(fun r0=>((true,[.bool r0]):kK))
def nn0 (a b:Rows) (i:Int):St:= {n:=27,sl:=[(0,.sl [.i,.i,.i,.sl [.i]] a),(1,.sl [.i,.i,.i,.sl [.i]] b),(5,.int .i64 i)],hp:=[],ok:=true,ls:=[],lm:=[]}
theorem nqC:D9 Tryz.prog 59 UC:=by
 refine ra (A:=nda) nqD Tryz.func59 fun ds (hw:ka ([.sl [.i,.i,.i,.sl [.i]],.sl [.i,.i,.i,.sl [.i]]]) ds) aJ=> ?_
 obtain⟨a,ds,rfl,qV,hw⟩:=og hw
 obtain⟨b,rfl,_⟩:=qm hw
 obtain⟨N,hN⟩:=nqB Vm.kd ndc a b qV aJ
 have e0:(fun i=>LR (LQ Tryz.prog ndb nda N Tryz.f59 UC [true,true,false,true,false] []) N (nn0 a b i))=(nng (fun r=>nE.nd r 0) Vm.kd ndc N a b N):=nL1 _ _ _ N
 refine⟨N,Eq.trans ?_ (hN.trans (by kernel_rfl))⟩
 unfold ncC
 rw[←e0]
 kernel_rfl
def zK:Sum:= {ps:=[⟨[.sl [.str]],false⟩],rs:=[⟨[.own 9 [.str]],false⟩],fn:=fun ds=>(sm (rR ds 0),[.sl (oB (rR ds 0))])}
def ZF:List (Nat×lB):=[(3, {bZ:=[(0,.mK),(3,.mK),(4,.mK)],boxes:=[]})]
def ZG:Rows→kK:=(fun r0=>((true,[.sl r0]):kK))
def njV (a:Rows) (i:Int) (n7:Rows):St:= {n:=22,sl:=[(0,.sl [.str] a),(3,.own 640192),(4,.int .i64 i)],hp:=[(640192,.row 9 [.str] n7 false true)],ok:=true,ls:=[],lm:=[]}
theorem ZH:D9 Tryz.prog 115 zK:=by
 refine ra (A:=ZF) JB Tryz.func115 fun ds (hw:ka ([.sl [.str]]) ds) aJ=> ?_
 obtain⟨a,rfl,qV⟩:=qm hw
 obtain⟨N,hN⟩:=nl_ Vm.kd ZG a qV aJ
 have e0:(fun i n7=>LR (LQ Tryz.prog [] ZF N Tryz.f115 zK [true,true,false,true,false] []) N (njV a i n7))=(nmO neQ Vm.kd ZG N a N):=To _ _ _ N
 refine⟨N,Eq.trans ?_ (hN.trans (by kernel_rfl))⟩
 unfold Z9
 rw[←e0]
 kernel_rfl
def Zo:Sum:= {ps:=[⟨nF.ct,true⟩,⟨[.i],false⟩],rs:=[⟨[.d_ .i],false⟩],fn:=fun ds=>(true,[.int (uh (nF.nd ds 0) (rI ds 8))])}
theorem nlO:D9 Tryz.prog 371 Zo:=by
 refine nN JB Tryz.func371 fun ds (hw:ka (nF.ct++[.i]) ds) _=> ?_
 obtain⟨a,ds,rfl,_,hw⟩:=nF.nz (r:=_) hw
 obtain⟨left,rfl,_⟩:=nw hw
 exact⟨0,eT (nlN (fun r0=>((true,[.int r0]):kK)) a left)⟩
def nbO:Sum:= {ps:=[⟨nQ.ct,true⟩,⟨[.i],false⟩],rs:=[⟨[.d_ .i],false⟩],fn:=fun ds=>(true,[.int (uN (nQ.nd ds 0) (rI ds 16))])}
theorem nov:D9 Tryz.prog 332 nbO:=by
 refine nN (Γ:=[(371,Zo)]) (Ie nlO JB) Tryz.func332 fun ds (hw:ka (nQ.ct++[.i]) ds) _=> ?_
 obtain⟨a,ds,rfl,_,hw⟩:=nQ.nz (r:=_) hw
 obtain⟨left,rfl,_⟩:=nw hw
 exact⟨0,eT (nou (fun r0=>((true,[.int r0]):kK)) a left)⟩
def ndJ:Sum:= {ps:=[⟨po.ct,true⟩,⟨[.i],false⟩],rs:=[⟨[.d_ .i],false⟩],fn:=fun ds=>(true,[.int (v7 (po.nd ds 0) (rI ds 18))])}
theorem nq2:D9 Tryz.prog 278 ndJ:=by
 refine nN (Γ:=[(332,nbO)]) (Ie nov JB) Tryz.func278 fun ds (hw:ka (po.ct++[.i]) ds) _=> ?_
 obtain⟨a,ds,rfl,_,hw⟩:=po.nz (r:=_) hw
 obtain⟨left,rfl,_⟩:=nw hw
 exact⟨0,eT (nq1 (fun r0=>((true,[.int r0]):kK)) a left)⟩
def zC:Sum:= {ps:=[⟨[.sl [.str]],false⟩,⟨[.sl [.str]],false⟩],rs:=[⟨[.d_ .bool],false⟩],fn:=fun ds=>(same (rR ds 0) (rR ds 1),[.bool (pK (rR ds 0) (rR ds 1))])}
def YK:List (Nat×lB):=[(4, {bZ:=[(0,.mK),(1,.mK),(5,.mK)],boxes:=[]})]
def YL:Bool→kK:=(fun r0=>((true,[.bool r0]):kK))
def ni4 (a b:Rows) (i:Int):St:= {n:=26,sl:=[(0,.sl [.str] a),(1,.sl [.str] b),(5,.int .i64 i)],hp:=[],ok:=true,ls:=[],lm:=[]}
theorem YN:D9 Tryz.prog 63 zC:=by
 refine ra (A:=YK) JB Tryz.func63 fun ds (hw:ka ([.sl [.str],.sl [.str]]) ds) aJ=> ?_
 obtain⟨a,ds,rfl,qV,hw⟩:=og hw
 obtain⟨b,rfl,_⟩:=qm hw
 obtain⟨N,hN⟩:=nlc Vm.kd YL a b qV aJ
 exact⟨N,eL (fun l_=>QB Vm.kd YL l_ a b) (nL1 (LQ Tryz.prog [] YK N Tryz.f63 zC [true,true,false,true,false] []) (ni4 a b) _ N) hN⟩
def nbp:Sum:= {ps:=[⟨na.ct,true⟩,⟨na.ct,true⟩],rs:=[⟨[.d_ .bool],false⟩],fn:=fun ds=>(same (na.nd ds 0) (na.nd ds 1),[.bool (pK (na.nd ds 0) (na.nd ds 1))])}
theorem nnX:D9 Tryz.prog 55 nbp:=by
 refine nN (Γ:=[(63,zC)]) (Ie YN JB) Tryz.func55 fun ds (hw:ka (na.ct++(na.ct++[])) ds) aJ=> ?_
 obtain⟨a,ds,rfl,_,hw⟩:=na.nz (r:=_) hw
 obtain⟨b,ds,rfl,_,hw⟩:=na.nz (r:=_) hw
 obtain rfl:=nr hw
 exact⟨0,eT (nnW Vm.kd (fun r0=>((true,[.bool r0]):kK)) a b aJ)⟩
def XO:Sum:= {ps:=[⟨nE.ct,true⟩],rs:=[⟨[.d_ .i,.d_ .i,.d_ .i,.own 3 [.i]],true⟩],fn:=fun ds=>(tD (nE.nd ds 0),nE.enc (oB (nE.nd ds 0)))}
theorem ngt:D9 Tryz.prog 199 XO:=by
 refine nN (Γ:=[(41,wq)]) (Ie NG JB) Tryz.func199 fun ds (hw:ka (nE.ct++[]) ds) aJ=> ?_
 obtain⟨a,ds,rfl,_,hw⟩:=nE.nz (r:=_) hw
 obtain rfl:=nr hw
 exact⟨0,eT (nsW Vm.kd (fun r0=>((true,nE.enc r0):kK)) a aJ)⟩
def ndD:Sum:= {ps:=[⟨[.sl [.i,.i,.i,.i,.i,.i,.i,.i,.i]],false⟩,⟨[.i],false⟩],rs:=[⟨[.d_ .i],false⟩],fn:=fun ds=>(true,[.int (pF (rR ds 0) (rI ds 1))])}
theorem nqU:D9 Tryz.prog 29 ndD:=by
 refine nN JB Tryz.func29 fun ds (hw:ka ([.sl [.i,.i,.i,.i,.i,.i,.i,.i,.i],.i]) ds) _=> ?_
 obtain⟨a,ds,rfl,_,hw⟩:=og hw
 obtain⟨left,rfl,_⟩:=nw hw
 exact⟨0,eT (wV (fun r0=>((true,[.int r0]):kK)) a left)⟩
def xP:Sum:= {ps:=[⟨[.sl [.i]],false⟩,⟨[.i],false⟩],rs:=[⟨[.d_ .i],false⟩],fn:=fun ds=>(true,[.int (pF (rR ds 0) (rI ds 1))])}
theorem ND:D9 Tryz.prog 28 xP:=by
 refine nN JB Tryz.func28 fun ds (hw:ka ([.sl [.i],.i]) ds) _=> ?_
 obtain⟨a,ds,rfl,_,hw⟩:=og hw
 obtain⟨left,rfl,_⟩:=nw hw
 exact⟨0,eT (wV (fun r0=>((true,[.int r0]):kK)) a left)⟩
def nbQ:Sum:= {ps:=[⟨nD.ct,true⟩,⟨[.i],false⟩],rs:=[⟨[.d_ .i],false⟩],fn:=fun ds=>(true,[.int (wm (nD.nd ds 0) (rI ds 2))])}
theorem noB:D9 Tryz.prog 31 nbQ:=by
 refine nN (Γ:=[(28,xP)]) (Ie ND JB) Tryz.func31 fun ds (hw:ka (nD.ct++[.i]) ds) _=> ?_
 obtain⟨a,ds,rfl,_,hw⟩:=nD.nz (r:=_) hw
 obtain⟨left,rfl,_⟩:=nw hw
 exact⟨0,eT (noA (fun r0=>((true,[.int r0]):kK)) a left)⟩
def WM:Sum:= {ps:=[⟨nm.ct,true⟩,⟨[.i],false⟩],rs:=[⟨[.d_ .i],false⟩],fn:=fun ds=>(true,[.int (rO (nm.nd ds 0) (rI ds 4))])}
theorem njE:D9 Tryz.prog 8 WM:=by
 refine nN (Γ:=[(29,ndD),(30,U6),(31,nbQ)]) (Ie nqU (Ie nhD (Ie noB JB))) Tryz.func8 fun ds (hw:ka (nm.ct++[.i]) ds) _=> ?_
 obtain⟨a,ds,rfl,_,hw⟩:=nm.nz (r:=_) hw
 obtain⟨left,rfl,_⟩:=nw hw
 exact⟨0,eT (njD (fun r0=>((true,[.int r0]):kK)) a left)⟩
def XI:Sum:= {ps:=[⟨oc.ct,true⟩,⟨oc.ct,true⟩],rs:=[⟨[.d_ .bool],false⟩],fn:=fun ds=>(same (oc.nd ds 0) (oc.nd ds 4),[.bool (pK (oc.nd ds 0) (oc.nd ds 4))])}
theorem nge:D9 Tryz.prog 165 XI:=by
 refine nN JB Tryz.func165 fun ds (hw:ka (oc.ct++(oc.ct++[])) ds) aJ=> ?_
 obtain⟨a,ds,rfl,_,hw⟩:=oc.nz (r:=_) hw
 obtain⟨b,ds,rfl,_,hw⟩:=oc.nz (r:=_) hw
 obtain rfl:=nr hw
 exact⟨0,eT (nsF (fun r0=>((true,[.bool r0]):kK)) a b aJ)⟩
def NA:Sum:= {ps:=[⟨nf.ct,true⟩,⟨nf.ct,true⟩],rs:=[⟨[.d_ .bool],false⟩],fn:=fun ds=>(same (nf.nd ds 0) (nf.nd ds 3),[.bool (pK (nf.nd ds 0) (nf.nd ds 3))])}
theorem XE:D9 Tryz.prog 272 NA:=by
 refine nN JB Tryz.func272 fun ds (hw:ka (nf.ct++(nf.ct++[])) ds) aJ=> ?_
 obtain⟨a,ds,rfl,_,hw⟩:=nf.nz (r:=_) hw
 obtain⟨b,ds,rfl,_,hw⟩:=nf.nz (r:=_) hw
 obtain rfl:=nr hw
 exact⟨0,eT (XD (fun r0=>((true,[.bool r0]):kK)) a b aJ)⟩
def YF:Sum:= {ps:=[⟨nF.ct,true⟩,⟨nF.ct,true⟩],rs:=[⟨[.d_ .bool],false⟩],fn:=fun ds=>(same (nF.nd ds 0) (nF.nd ds 8),[.bool (pK (nF.nd ds 0) (nF.nd ds 8))])}
theorem nk9:D9 Tryz.prog 370 YF:=by
 refine nN JB Tryz.func370 fun ds (hw:ka (nF.ct++(nF.ct++[])) ds) aJ=> ?_
 obtain⟨a,ds,rfl,_,hw⟩:=nF.nz (r:=_) hw
 obtain⟨b,ds,rfl,_,hw⟩:=nF.nz (r:=_) hw
 obtain rfl:=nr hw
 exact⟨0,eT (nk8 (fun r0=>((true,[.bool r0]):kK)) a b aJ)⟩
def nbr:Sum:= {ps:=[⟨nQ.ct,true⟩,⟨nQ.ct,true⟩],rs:=[⟨[.d_ .bool],false⟩],fn:=fun ds=>(same (nQ.nd ds 0) (nQ.nd ds 16),[.bool (pK (nQ.nd ds 0) (nQ.nd ds 16))])}
theorem nnZ:D9 Tryz.prog 331 nbr:=by
 refine nN (Γ:=[(370,YF)]) (Ie nk9 JB) Tryz.func331 fun ds (hw:ka (nQ.ct++(nQ.ct++[])) ds) aJ=> ?_
 obtain⟨a,ds,rfl,_,hw⟩:=nQ.nz (r:=_) hw
 obtain⟨b,ds,rfl,_,hw⟩:=nQ.nz (r:=_) hw
 obtain rfl:=nr hw
 exact⟨0,eT (nnY Vm.kd (fun r0=>((true,[.bool r0]):kK)) a b aJ)⟩
def ndm:Sum:= {ps:=[⟨po.ct,true⟩,⟨po.ct,true⟩],rs:=[⟨[.d_ .bool],false⟩],fn:=fun ds=>(same (po.nd ds 0) (po.nd ds 18),[.bool (pK (po.nd ds 0) (po.nd ds 18))])}
theorem nqO:D9 Tryz.prog 273 ndm:=by
 refine nN (Γ:=[(331,nbr)]) (Ie nnZ JB) Tryz.func273 fun ds (hw:ka (po.ct++(po.ct++[])) ds) aJ=> ?_
 obtain⟨a,ds,rfl,_,hw⟩:=po.nz (r:=_) hw
 obtain⟨b,ds,rfl,_,hw⟩:=po.nz (r:=_) hw
 obtain rfl:=nr hw
 exact⟨0,eT (nqN Vm.kd (fun r0=>((true,[.bool r0]):kK)) a b aJ)⟩
def YD:Sum:= {ps:=[⟨nk.ct,true⟩,⟨nk.ct,true⟩],rs:=[⟨[.d_ .bool],false⟩],fn:=fun ds=>(same (nk.nd ds 0) (nk.nd ds 30),[.bool (pK (nk.nd ds 0) (nk.nd ds 30))])}
theorem nk7:D9 Tryz.prog 168 YD:=by
 refine nN (Γ:=[(165,XI),(272,NA),(273,ndm)]) (Ie nge (Ie XE (Ie nqO JB))) Tryz.func168 fun ds (hw:ka (nk.ct++(nk.ct++[])) ds) aJ=> ?_
 obtain⟨a,ds,rfl,_,hw⟩:=nk.nz (r:=_) hw
 obtain⟨b,ds,rfl,_,hw⟩:=nk.nz (r:=_) hw
 obtain rfl:=nr hw
 exact⟨0,eT (nk6 Vm.kd (fun r0=>((true,[.bool r0]):kK)) a b aJ)⟩
def ngi:Sum:= {ps:=[⟨pG.ct,true⟩,⟨pG.ct,true⟩],rs:=[⟨[.d_ .bool],false⟩],fn:=fun ds=>(same (pG.nd ds 0) (pG.nd ds 3),[.bool (pK (pG.nd ds 0) (pG.nd ds 3))])}
theorem nsJ:D9 Tryz.prog 271 ngi:=by
 refine nN (Γ:=[(64,wk)]) (Ie NC JB) Tryz.func271 fun ds (hw:ka (pG.ct++(pG.ct++[])) ds) aJ=> ?_
 obtain⟨a,ds,rfl,_,hw⟩:=pG.nz (r:=_) hw
 obtain⟨b,ds,rfl,_,hw⟩:=pG.nz (r:=_) hw
 obtain rfl:=nr hw
 exact⟨0,eT (nsI Vm.kd (fun r0=>((true,[.bool r0]):kK)) a b aJ)⟩
def UE:Sum:= {ps:=[⟨[.sl [.i,.i,.sl [.i]]],false⟩,⟨[.sl [.i,.i,.sl [.i]]],false⟩],rs:=[⟨[.d_ .bool],false⟩],fn:=fun ds=>(same (rR ds 0) (rR ds 1),[.bool (pK (rR ds 0) (rR ds 1))])}
def ndh:Ctx:=[(271,ngi)]
theorem nqJ:bE Tryz.prog ndh:=Ie nsJ JB
def ndg:List (Nat×lB):=[(4, {bZ:=[(0,.mK),(1,.mK),(5,.mK)],boxes:=[]})]
def ndi:Bool→kK:=(fun r0=>((true,[.bool r0]):kK))
def nn2 (a b:Rows) (i:Int):St:= {n:=27,sl:=[(0,.sl [.i,.i,.sl [.i]] a),(1,.sl [.i,.i,.sl [.i]] b),(5,.int .i64 i)],hp:=[],ok:=true,ls:=[],lm:=[]}
theorem nqI:D9 Tryz.prog 167 UE:=by
 refine ra (A:=ndg) nqJ Tryz.func167 fun ds (hw:ka ([.sl [.i,.i,.sl [.i]],.sl [.i,.i,.sl [.i]]]) ds) aJ=> ?_
 obtain⟨a,ds,rfl,qV,hw⟩:=og hw
 obtain⟨b,rfl,_⟩:=qm hw
 obtain⟨N,hN⟩:=nqH Vm.kd ndi a b qV aJ
 have e0:(fun i=>LR (LQ Tryz.prog ndh ndg N Tryz.f167 UE [true,true,false,true,false] []) N (nn2 a b i))=(nng (fun r=>pG.nd r 0) Vm.kd ndi N a b N):=nL1 _ _ _ N
 refine⟨N,Eq.trans ?_ (hN.trans (by kernel_rfl))⟩
 unfold ncC
 rw[←e0]
 kernel_rfl
def YO:Sum:= {ps:=[⟨nn.ct,true⟩,⟨nn.ct,true⟩],rs:=[⟨[.d_ .bool],false⟩],fn:=fun ds=>(same (nn.nd ds 0) (nn.nd ds 10),[.bool (pK (nn.nd ds 0) (nn.nd ds 10))])}
theorem nle:D9 Tryz.prog 57 YO:=by
 refine nN (Γ:=[(165,XI),(166,XH),(167,UE)]) (Ie nge (Ie ngc (Ie nqI JB))) Tryz.func57 fun ds (hw:ka (nn.ct++(nn.ct++[])) ds) aJ=> ?_
 obtain⟨a,ds,rfl,_,hw⟩:=nn.nz (r:=_) hw
 obtain⟨b,ds,rfl,_,hw⟩:=nn.nz (r:=_) hw
 obtain rfl:=nr hw
 exact⟨0,eT (nld Vm.kd (fun r0=>((true,[.bool r0]):kK)) a b aJ)⟩
def XN:Sum:= {ps:=[⟨nO.ct,true⟩],rs:=[⟨[.d_ .i,.d_ .i,.d_ .i,.d_ .i,.d_ .i],true⟩],fn:=fun ds=>(true,nO.enc (oB (nO.nd ds 0)))}
theorem ngp:D9 Tryz.prog 289 XN:=by
 refine nN JB Tryz.func289 fun ds (hw:ka (nO.ct++[]) ds) _=> ?_
 obtain⟨a,ds,rfl,_,hw⟩:=nO.nz (r:=_) hw
 obtain rfl:=nr hw
 exact⟨0,eT (nsR (fun r0=>((true,nO.enc r0):kK)) a)⟩
def ngx:Sum:= {ps:=[⟨ry.ct,true⟩],rs:=[⟨[.d_ .i,.d_ .i,.d_ .i,.d_ .i,.d_ .i,.d_ .i,.d_ .i],true⟩],fn:=fun ds=>(true,ry.enc (oB (ry.nd ds 0)))}
theorem ns5:D9 Tryz.prog 257 ngx:=by
 refine nN (Γ:=[(289,XN)]) (Ie ngp JB) Tryz.func257 fun ds (hw:ka (ry.ct++[]) ds) _=> ?_
 obtain⟨a,ds,rfl,_,hw⟩:=ry.nz (r:=_) hw
 obtain rfl:=nr hw
 exact⟨0,eT (ns4 (fun r0=>((true,ry.enc r0):kK)) a)⟩
def Vj:Sum:= {ps:=[⟨[.sl [.i,.i,.i,.i,.i,.i,.i]],false⟩],rs:=[⟨[.own 201 [.i,.i,.i,.i,.i,.i,.i]],false⟩],fn:=fun ds=>(sm (rR ds 0),[.sl (oB (rR ds 0))])}
def ndY:Ctx:=[(257,ngx)]
theorem nrg:bE Tryz.prog ndY:=Ie ns5 JB
def ndX:List (Nat×lB):=[(3, {bZ:=[(0,.mK),(3,.mK),(4,.mK)],boxes:=[]})]
def ndZ:Rows→kK:=(fun r0=>((true,[.sl r0]):kK))
def noQ (a:Rows) (i:Int) (n7:Rows):St:= {n:=23,sl:=[(0,.sl [.i,.i,.i,.i,.i,.i,.i] a),(3,.own 640192),(4,.int .i64 i)],hp:=[(640192,.row 201 [.i,.i,.i,.i,.i,.i,.i] n7 false true)],ok:=true,ls:=[],lm:=[]}
theorem nrf:D9 Tryz.prog 146 Vj:=by
 refine ra (A:=ndX) nrg Tryz.func146 fun ds (hw:ka ([.sl [.i,.i,.i,.i,.i,.i,.i]]) ds) aJ=> ?_
 obtain⟨a,rfl,qV⟩:=qm hw
 obtain⟨N,hN⟩:=nre Vm.kd ndZ a qV aJ
 have e0:(fun i n7=>LR (LQ Tryz.prog ndY ndX N Tryz.f146 Vj [true,true,false,true,false] []) N (noQ a i n7))=(nmO nmQ Vm.kd ndZ N a N):=To _ _ _ N
 refine⟨N,Eq.trans ?_ (hN.trans (by kernel_rfl))⟩
 unfold Z9
 rw[←e0]
 kernel_rfl
def Vd:Sum:= {ps:=[⟨ni.ct,true⟩],rs:=[⟨[.own 201 [.i,.i,.i,.i,.i,.i,.i]],true⟩],fn:=fun ds=>(tL (ni.nd ds 0),ni.enc (oB (ni.nd ds 0)))}
theorem nhI:D9 Tryz.prog 43 Vd:=by
 refine nN (Γ:=[(146,Vj)]) (Ie nrf JB) Tryz.func43 fun ds (hw:ka (ni.ct++[]) ds) aJ=> ?_
 obtain⟨a,ds,rfl,_,hw⟩:=ni.nz (r:=_) hw
 obtain rfl:=nr hw
 exact⟨0,eT (nhH Vm.kd (fun r0=>((true,ni.enc r0):kK)) a aJ)⟩
def ngo:Sum:= {ps:=[⟨pG.ct,true⟩,⟨[.i],false⟩],rs:=[⟨[.d_ .i],false⟩],fn:=fun ds=>(true,[.int (sH (pG.nd ds 0) (rI ds 3))])}
theorem nsQ:D9 Tryz.prog 277 ngo:=by
 refine nN (Γ:=[(28,xP)]) (Ie ND JB) Tryz.func277 fun ds (hw:ka (pG.ct++[.i]) ds) _=> ?_
 obtain⟨a,ds,rfl,_,hw⟩:=pG.nz (r:=_) hw
 obtain⟨left,rfl,_⟩:=nw hw
 exact⟨0,eT (nsP (fun r0=>((true,[.int r0]):kK)) a left)⟩
def U_:Sum:= {ps:=[⟨[.sl [.i,.i,.sl [.i]]],false⟩,⟨[.i],false⟩],rs:=[⟨[.d_ .i],false⟩],fn:=fun ds=>(true,[.int (t9 (rR ds 0) (rI ds 1))])}
def ndF:Ctx:=[(277,ngo)]
theorem nqX:bE Tryz.prog ndF:=Ie nsQ JB
def ndE:List (Nat×lB):=[(5, {bZ:=[(0,.mK),(1,.mK),(5,.mK)],boxes:=[]})]
def ndG:Int→kK:=(fun r0=>((true,[.int r0]):kK))
def noz (a:Rows) (uK i:Int):St:= {n:=27,sl:=[(0,.sl [.i,.i,.sl [.i]] a),(1,.int .i64 uK),(5,.int .i64 i)],hp:=[],ok:=true,ls:=[],lm:=[]}
theorem nqW:D9 Tryz.prog 183 U_:=by
 refine ra (A:=ndE) nqX Tryz.func183 fun ds (hw:ka ([.sl [.i,.i,.sl [.i]],.i]) ds) _=> ?_
 obtain⟨a,ds,rfl,qV,hw⟩:=og hw
 obtain⟨left,rfl,_⟩:=nw hw
 obtain⟨N,hN⟩:=nqV Vm.kd ndG a left qV
 exact⟨N,eL (fun l_=>Va Vm.kd ndG l_ a left) (To (LQ Tryz.prog ndF ndE N Tryz.f183 U_ [true,true,true,false,true,false] []) (noz a) _ N) hN⟩
def ngw:Sum:= {ps:=[⟨pG.ct,true⟩],rs:=[⟨[.d_ .i,.d_ .i,.own 3 [.i]],true⟩],fn:=fun ds=>(ui (pG.nd ds 0),pG.enc (oB (pG.nd ds 0)))}
theorem ns3:D9 Tryz.prog 286 ngw:=by
 refine nN (Γ:=[(41,wq)]) (Ie NG JB) Tryz.func286 fun ds (hw:ka (pG.ct++[]) ds) aJ=> ?_
 obtain⟨a,ds,rfl,_,hw⟩:=pG.nz (r:=_) hw
 obtain rfl:=nr hw
 exact⟨0,eT (ns2 Vm.kd (fun r0=>((true,pG.enc r0):kK)) a aJ)⟩
def WE:Sum:= {ps:=[⟨[.sl [.i,.i,.i,.bool]],false⟩,⟨[.i],false⟩],rs:=[⟨[.d_ .i],false⟩],fn:=fun ds=>(true,[.int (pF (rR ds 0) (rI ds 1))])}
theorem njx:D9 Tryz.prog 95 WE:=by
 refine nN JB Tryz.func95 fun ds (hw:ka ([.sl [.i,.i,.i,.bool],.i]) ds) _=> ?_
 obtain⟨a,ds,rfl,_,hw⟩:=og hw
 obtain⟨left,rfl,_⟩:=nw hw
 exact⟨0,eT (wV (fun r0=>((true,[.int r0]):kK)) a left)⟩
def Ve:Sum:= {ps:=[⟨[.sl [.i,.i,.i,.sl [.i]]],false⟩],rs:=[⟨[.deep 42 [.i,.i,.i,.sl [.i]] [3]],false⟩],fn:=fun ds=>(uz (rR ds 0),[.sl (oB (rR ds 0))])}
def ndN:Ctx:=[(1125899906842631,J3),(199,XO)]
theorem nq8:bE Tryz.prog ndN:=Ie Lq (Ie ngt JB)
def ndM:List (Nat×lB):=[(3, {bZ:=[(0,.mK),(3,.mK),(4,.mK)],boxes:=[]})]
def ndO:Rows→kK:=(fun r0=>((true,[.sl r0]):kK))
def noN (a:Rows) (i:Int) (n7:Rows):St:= {n:=23,sl:=[(0,.sl [.i,.i,.i,.sl [.i]] a),(3,.own 640192),(4,.int .i64 i)],hp:=[(640192,.deep 42 [.i,.i,.i,.sl [.i]] [3] n7 none)],ok:=true,ls:=[],lm:=[]}
theorem nq7:D9 Tryz.prog 111 Ve:=by
 refine ra (A:=ndM) nq8 Tryz.func111 fun ds (hw:ka ([.sl [.i,.i,.i,.sl [.i]]]) ds) aJ=> ?_
 obtain⟨a,rfl,qV⟩:=qm hw
 obtain⟨N,hN⟩:=nq6 Vm.kd ndO a qV aJ
 exact⟨N,eL (fun l_=>Vf Vm.kd ndO l_ a) (To (LQ Tryz.prog ndN ndM N Tryz.f111 Ve [true,true,false,true,false] []) (noN a) _ N) hN⟩
def zI:Sum:= {ps:=[⟨[.sl [.str]],false⟩,⟨[.i],false⟩],rs:=[⟨[.d_ .i],false⟩],fn:=fun ds=>(true,[.int (rP (rR ds 0) (rI ds 1))])}
def Zt:List (Nat×lB):=[(5, {bZ:=[(0,.mK),(1,.mK),(5,.mK)],boxes:=[]})]
def Zu:Int→kK:=(fun r0=>((true,[.int r0]):kK))
def njH (a:Rows) (uK i:Int):St:= {n:=28,sl:=[(0,.sl [.str] a),(1,.int .i64 uK),(5,.int .i64 i)],hp:=[],ok:=true,ls:=[],lm:=[]}
theorem Zw:D9 Tryz.prog 102 zI:=by
 refine ra (A:=Zt) JB Tryz.func102 fun ds (hw:ka ([.sl [.str],.i]) ds) _=> ?_
 obtain⟨a,ds,rfl,qV,hw⟩:=og hw
 obtain⟨left,rfl,_⟩:=nw hw
 obtain⟨N,hN⟩:=nlU Vm.kd Zu a left qV
 exact⟨N,eL (fun l_=>QX Vm.kd Zu l_ a left) (To (LQ Tryz.prog [] Zt N Tryz.f102 zI [true,true,true,false,true,false] []) (njH a) _ N) hN⟩
def nbN:Sum:= {ps:=[⟨na.ct,true⟩,⟨[.i],false⟩],rs:=[⟨[.d_ .i],false⟩],fn:=fun ds=>(true,[.int (pJ (na.nd ds 0) (rI ds 1))])}
theorem nos:D9 Tryz.prog 94 nbN:=by
 refine nN (Γ:=[(102,zI)]) (Ie Zw JB) Tryz.func94 fun ds (hw:ka (na.ct++[.i]) ds) _=> ?_
 obtain⟨a,ds,rfl,_,hw⟩:=na.nz (r:=_) hw
 obtain⟨left,rfl,_⟩:=nw hw
 exact⟨0,eT (nor (fun r0=>((true,[.int r0]):kK)) a left)⟩
def XJ:Sum:= {ps:=[⟨nE.ct,true⟩,⟨[.i],false⟩],rs:=[⟨[.d_ .i],false⟩],fn:=fun ds=>(true,[.int (rD (nE.nd ds 0) (rI ds 4))])}
theorem ngn:D9 Tryz.prog 182 XJ:=by
 refine nN (Γ:=[(28,xP)]) (Ie ND JB) Tryz.func182 fun ds (hw:ka (nE.ct++[.i]) ds) _=> ?_
 obtain⟨a,ds,rfl,_,hw⟩:=nE.nz (r:=_) hw
 obtain⟨left,rfl,_⟩:=nw hw
 exact⟨0,eT (nsO (fun r0=>((true,[.int r0]):kK)) a left)⟩
def Zx:Sum:= {ps:=[⟨nn.ct,true⟩,⟨[.i],false⟩],rs:=[⟨[.d_ .i],false⟩],fn:=fun ds=>(true,[.int (qc (nn.nd ds 0) (rI ds 10))])}
theorem nlW:D9 Tryz.prog 96 Zx:=by
 refine nN (Γ:=[(182,XJ),(183,U_)]) (Ie ngn (Ie nqW JB)) Tryz.func96 fun ds (hw:ka (nn.ct++[.i]) ds) _=> ?_
 obtain⟨a,ds,rfl,_,hw⟩:=nn.nz (r:=_) hw
 obtain⟨left,rfl,_⟩:=nw hw
 exact⟨0,eT (nlV (fun r0=>((true,[.int r0]):kK)) a left)⟩
def Zn:Sum:= {ps:=[⟨nk.ct,true⟩,⟨[.i],false⟩],rs:=[⟨[.d_ .i],false⟩],fn:=fun ds=>(true,[.int (sY (nk.nd ds 0) (rI ds 30))])}
theorem nlM:D9 Tryz.prog 184 Zn:=by
 refine nN (Γ:=[(278,ndJ)]) (Ie nq2 JB) Tryz.func184 fun ds (hw:ka (nk.ct++[.i]) ds) _=> ?_
 obtain⟨a,ds,rfl,_,hw⟩:=nk.nz (r:=_) hw
 obtain⟨left,rfl,_⟩:=nw hw
 exact⟨0,eT (nlL (fun r0=>((true,[.int r0]):kK)) a left)⟩
def PN:Sum:= {ps:=[⟨[.sl [.i,.i,.i,.i,.i,.i,.i,.i,.i,.i,.i,.i,.i,.i,.i,.i,.i,.i,.i,.i,.i,.i,.i,.i,.i,.str,.i,.i,.bool,.i]],false⟩,⟨[.i],false⟩],rs:=[⟨[.d_ .i],false⟩],fn:=fun ds=>(true,[.int (qG (rR ds 0) (rI ds 1))])}
def WI:Ctx:=[(184,Zn)]
theorem njA:bE Tryz.prog WI:=Ie nlM JB
def WH:List (Nat×lB):=[(5, {bZ:=[(0,.mK),(1,.mK),(5,.mK)],boxes:=[]})]
def WJ:Int→kK:=(fun r0=>((true,[.int r0]):kK))
def nhE (a:Rows) (uK i:Int):St:= {n:=27,sl:=[(0,.sl [.i,.i,.i,.i,.i,.i,.i,.i,.i,.i,.i,.i,.i,.i,.i,.i,.i,.i,.i,.i,.i,.i,.i,.i,.i,.str,.i,.i,.bool,.i] a),(1,.int .i64 uK),(5,.int .i64 i)],hp:=[],ok:=true,ls:=[],lm:=[]}
theorem njz:D9 Tryz.prog 97 PN:=by
 refine ra (A:=WH) njA Tryz.func97 fun ds (hw:ka ([.sl [.i,.i,.i,.i,.i,.i,.i,.i,.i,.i,.i,.i,.i,.i,.i,.i,.i,.i,.i,.i,.i,.i,.i,.i,.i,.str,.i,.i,.bool,.i],.i]) ds) _=> ?_
 obtain⟨a,ds,rfl,qV,hw⟩:=og hw
 obtain⟨left,rfl,_⟩:=nw hw
 obtain⟨N,hN⟩:=njy Vm.kd WJ a left qV
 exact⟨N,eL (fun l_=>PO Vm.kd WJ l_ a left) (To (LQ Tryz.prog WI WH N Tryz.f97 PN [true,true,true,false,true,false] []) (nhE a) _ N) hN⟩
def U7:Sum:= {ps:=[⟨[.sl [.i,.i,.i,.sl [.i]]],false⟩,⟨[.i],false⟩],rs:=[⟨[.d_ .i],false⟩],fn:=fun ds=>(true,[.int (rG (rR ds 0) (rI ds 1))])}
def ndA:Ctx:=[(182,XJ)]
theorem nqT:bE Tryz.prog ndA:=Ie ngn JB
def ndz:List (Nat×lB):=[(5, {bZ:=[(0,.mK),(1,.mK),(5,.mK)],boxes:=[]})]
def ndB:Int→kK:=(fun r0=>((true,[.int r0]):kK))
def nox (a:Rows) (uK i:Int):St:= {n:=27,sl:=[(0,.sl [.i,.i,.i,.sl [.i]] a),(1,.int .i64 uK),(5,.int .i64 i)],hp:=[],ok:=true,ls:=[],lm:=[]}
theorem nqS:D9 Tryz.prog 98 U7:=by
 refine ra (A:=ndz) nqT Tryz.func98 fun ds (hw:ka ([.sl [.i,.i,.i,.sl [.i]],.i]) ds) _=> ?_
 obtain⟨a,ds,rfl,qV,hw⟩:=og hw
 obtain⟨left,rfl,_⟩:=nw hw
 obtain⟨N,hN⟩:=nqR Vm.kd ndB a left qV
 exact⟨N,eL (fun l_=>U8 Vm.kd ndB l_ a left) (To (LQ Tryz.prog ndA ndz N Tryz.f98 U7 [true,true,true,false,true,false] []) (nox a) _ N) hN⟩
def Zy:Sum:= {ps:=[⟨[.sl [.i,.i,.i,.i,.bool,.bool]],false⟩,⟨[.i],false⟩],rs:=[⟨[.d_ .i],false⟩],fn:=fun ds=>(true,[.int (pF (rR ds 0) (rI ds 1))])}
theorem nlX:D9 Tryz.prog 99 Zy:=by
 refine nN JB Tryz.func99 fun ds (hw:ka ([.sl [.i,.i,.i,.i,.bool,.bool],.i]) ds) _=> ?_
 obtain⟨a,ds,rfl,_,hw⟩:=og hw
 obtain⟨left,rfl,_⟩:=nw hw
 exact⟨0,eT (wV (fun r0=>((true,[.int r0]):kK)) a left)⟩
def ndy:Sum:= {ps:=[⟨[.sl [.bool]],false⟩,⟨[.i],false⟩],rs:=[⟨[.d_ .i],false⟩],fn:=fun ds=>(true,[.int (pF (rR ds 0) (rI ds 1))])}
theorem nqP:D9 Tryz.prog 100 ndy:=by
 refine nN JB Tryz.func100 fun ds (hw:ka ([.sl [.bool],.i]) ds) _=> ?_
 obtain⟨a,ds,rfl,_,hw⟩:=og hw
 obtain⟨left,rfl,_⟩:=nw hw
 exact⟨0,eT (wV (fun r0=>((true,[.int r0]):kK)) a left)⟩
def nbM:Sum:= {ps:=[⟨nB.ct,true⟩,⟨[.i],false⟩],rs:=[⟨[.d_ .i],false⟩],fn:=fun ds=>(true,[.int (sP (nB.nd ds 0) (rI ds 3))])}
theorem noq:D9 Tryz.prog 7 nbM:=by
 refine nN (Γ:=[(28,xP)]) (Ie ND JB) Tryz.func7 fun ds (hw:ka (nB.ct++[.i]) ds) _=> ?_
 obtain⟨a,ds,rfl,_,hw⟩:=nB.nz (r:=_) hw
 obtain⟨left,rfl,_⟩:=nw hw
 exact⟨0,eT (nop (fun r0=>((true,[.int r0]):kK)) a left)⟩
def nbR:Sum:= {ps:=[⟨oy.ct,true⟩,⟨[.i],false⟩],rs:=[⟨[.d_ .i],false⟩],fn:=fun ds=>(true,[.int (tv (oy.nd ds 0) (rI ds 8))])}
theorem noD:D9 Tryz.prog 185 nbR:=by
 refine nN JB Tryz.func185 fun ds (hw:ka (oy.ct++[.i]) ds) _=> ?_
 obtain⟨a,ds,rfl,_,hw⟩:=oy.nz (r:=_) hw
 obtain⟨left,rfl,_⟩:=nw hw
 exact⟨0,eT (noC (fun r0=>((true,[.int r0]):kK)) a left)⟩
def QV:Sum:= {ps:=[⟨[.sl [.i,.i,.i,.i,.i,.i,.str,.bool]],false⟩,⟨[.i],false⟩],rs:=[⟨[.d_ .i],false⟩],fn:=fun ds=>(true,[.int (sZ (rR ds 0) (rI ds 1))])}
def Zq:Ctx:=[(185,nbR)]
theorem nlS:bE Tryz.prog Zq:=Ie noD JB
def Zp:List (Nat×lB):=[(5, {bZ:=[(0,.mK),(1,.mK),(5,.mK)],boxes:=[]})]
def Zr:Int→kK:=(fun r0=>((true,[.int r0]):kK))
def njF (a:Rows) (uK i:Int):St:= {n:=27,sl:=[(0,.sl [.i,.i,.i,.i,.i,.i,.str,.bool] a),(1,.int .i64 uK),(5,.int .i64 i)],hp:=[],ok:=true,ls:=[],lm:=[]}
theorem nlR:D9 Tryz.prog 101 QV:=by
 refine ra (A:=Zp) nlS Tryz.func101 fun ds (hw:ka ([.sl [.i,.i,.i,.i,.i,.i,.str,.bool],.i]) ds) _=> ?_
 obtain⟨a,ds,rfl,qV,hw⟩:=og hw
 obtain⟨left,rfl,_⟩:=nw hw
 obtain⟨N,hN⟩:=nlQ Vm.kd Zr a left qV
 exact⟨N,eL (fun l_=>QW Vm.kd Zr l_ a left) (To (LQ Tryz.prog Zq Zp N Tryz.f101 QV [true,true,true,false,true,false] []) (njF a) _ N) hN⟩
def ngm:Sum:= {ps:=[⟨nt.ct,true⟩,⟨[.i],false⟩],rs:=[⟨[.d_ .i],false⟩],fn:=fun ds=>(true,[.int (vZ (nt.nd ds 0) (rI ds 33))])}
theorem nsN:D9 Tryz.prog 20 ngm:=by
 refine nN (Γ:=[(7,nbM),(8,WM),(28,xP),(94,nbN),(95,WE),(96,Zx),(97,PN),(98,U7),(99,Zy),(100,ndy),(101,QV),(102,zI)]) (Ie noq (Ie njE (Ie ND (Ie nos (Ie njx (Ie nlW (Ie njz (Ie nqS (Ie nlX (Ie nqP (Ie nlR (Ie Zw JB)))))))))))) Tryz.func20 fun ds (hw:ka (nt.ct++[.i]) ds) _=> ?_
 obtain⟨a,ds,rfl,_,hw⟩:=nt.nz (r:=_) hw
 obtain⟨left,rfl,_⟩:=nw hw
 exact⟨0,eT (nsM (fun r0=>((true,[.int r0]):kK)) a left)⟩
def nbT:Sum:= {ps:=[⟨na.ct,true⟩],rs:=[⟨[.own 9 [.str]],true⟩],fn:=fun ds=>(uX (na.nd ds 0),na.enc (oB (na.nd ds 0)))}
theorem noJ:D9 Tryz.prog 107 nbT:=by
 refine nN (Γ:=[(115,zK)]) (Ie ZH JB) Tryz.func107 fun ds (hw:ka (na.ct++[]) ds) aJ=> ?_
 obtain⟨a,ds,rfl,_,hw⟩:=na.nz (r:=_) hw
 obtain rfl:=nr hw
 exact⟨0,eT (noI Vm.kd (fun r0=>((true,na.enc r0):kK)) a aJ)⟩
def nbW:Sum:= {ps:=[⟨oy.ct,true⟩],rs:=[⟨[.d_ .i,.d_ .i,.d_ .i,.d_ .i,.d_ .i,.d_ .i,.d_ .str,.d_ .bool],true⟩],fn:=fun ds=>(true,oy.enc (oB (oy.nd ds 0)))}
theorem noV:D9 Tryz.prog 203 nbW:=by
 refine nN (Γ:=[(289,XN)]) (Ie ngp JB) Tryz.func203 fun ds (hw:ka (oy.ct++[]) ds) _=> ?_
 obtain⟨a,ds,rfl,_,hw⟩:=oy.nz (r:=_) hw
 obtain rfl:=nr hw
 exact⟨0,eT (noU (fun r0=>((true,oy.enc r0):kK)) a)⟩
def QY:Sum:= {ps:=[⟨[.sl [.i,.i,.i,.i,.i,.i,.str,.bool]],false⟩],rs:=[⟨[.own 232 [.i,.i,.i,.i,.i,.i,.str,.bool]],false⟩],fn:=fun ds=>(sm (rR ds 0),[.sl (oB (rR ds 0))])}
def ZD:Ctx:=[(203,nbW)]
theorem nl9:bE Tryz.prog ZD:=Ie noV JB
def ZC:List (Nat×lB):=[(3, {bZ:=[(0,.mK),(3,.mK),(4,.mK)],boxes:=[]})]
def ZE:Rows→kK:=(fun r0=>((true,[.sl r0]):kK))
def njU (a:Rows) (i:Int) (n7:Rows):St:= {n:=23,sl:=[(0,.sl [.i,.i,.i,.i,.i,.i,.str,.bool] a),(3,.own 640192),(4,.int .i64 i)],hp:=[(640192,.row 232 [.i,.i,.i,.i,.i,.i,.str,.bool] n7 false true)],ok:=true,ls:=[],lm:=[]}
theorem nl8:D9 Tryz.prog 114 QY:=by
 refine ra (A:=ZC) nl9 Tryz.func114 fun ds (hw:ka ([.sl [.i,.i,.i,.i,.i,.i,.str,.bool]]) ds) aJ=> ?_
 obtain⟨a,rfl,qV⟩:=qm hw
 obtain⟨N,hN⟩:=nl7 Vm.kd ZE a qV aJ
 have e0:(fun i n7=>LR (LQ Tryz.prog ZD ZC N Tryz.f114 QY [true,true,false,true,false] []) N (njU a i n7))=(nmO neP Vm.kd ZE N a N):=To _ _ _ N
 refine⟨N,Eq.trans ?_ (hN.trans (by kernel_rfl))⟩
 unfold Z9
 rw[←e0]
 kernel_rfl
def XP:Sum:= {ps:=[⟨oc.ct,true⟩],rs:=[⟨[.d_ .i,.d_ .i,.d_ .i,.d_ .i],true⟩],fn:=fun ds=>(true,oc.enc (oB (oc.nd ds 0)))}
theorem ngu:D9 Tryz.prog 198 XP:=by
 refine nN JB Tryz.func198 fun ds (hw:ka (oc.ct++[]) ds) _=> ?_
 obtain⟨a,ds,rfl,_,hw⟩:=oc.nz (r:=_) hw
 obtain rfl:=nr hw
 exact⟨0,eT (nsX (fun r0=>((true,oc.enc r0):kK)) a)⟩
def NF:Sum:= {ps:=[⟨nf.ct,true⟩],rs:=[⟨[.d_ .i,.d_ .i,.d_ .i],true⟩],fn:=fun ds=>(true,nf.enc (oB (nf.nd ds 0)))}
theorem XL:D9 Tryz.prog 287 NF:=by
 refine nN JB Tryz.func287 fun ds (hw:ka (nf.ct++[]) ds) _=> ?_
 obtain⟨a,ds,rfl,_,hw⟩:=nf.nz (r:=_) hw
 obtain rfl:=nr hw
 exact⟨0,eT (XK (fun r0=>((true,nf.enc r0):kK)) a)⟩
def ZB:Sum:= {ps:=[⟨nF.ct,true⟩],rs:=[⟨[.d_ .i,.d_ .i,.d_ .i,.d_ .i,.d_ .i,.d_ .i,.d_ .i,.d_ .str],true⟩],fn:=fun ds=>(true,nF.enc (oB (nF.nd ds 0)))}
theorem nl5:D9 Tryz.prog 379 ZB:=by
 refine nN JB Tryz.func379 fun ds (hw:ka (nF.ct++[]) ds) _=> ?_
 obtain⟨a,ds,rfl,_,hw⟩:=nF.nz (r:=_) hw
 obtain rfl:=nr hw
 exact⟨0,eT (nl4 (fun r0=>((true,nF.enc r0):kK)) a)⟩
def nbU:Sum:= {ps:=[⟨nQ.ct,true⟩],rs:=[⟨[.d_ .i,.d_ .i,.d_ .i,.d_ .i,.d_ .i,.d_ .i,.d_ .i,.d_ .i,.d_ .i,.d_ .i,.d_ .i,.d_ .i,.d_ .i,.d_ .i,.d_ .i,.d_ .str],true⟩],fn:=fun ds=>(true,nQ.enc (oB (nQ.nd ds 0)))}
theorem noL:D9 Tryz.prog 343 nbU:=by
 refine nN (Γ:=[(379,ZB)]) (Ie nl5 JB) Tryz.func343 fun ds (hw:ka (nQ.ct++[]) ds) _=> ?_
 obtain⟨a,ds,rfl,_,hw⟩:=nQ.nz (r:=_) hw
 obtain rfl:=nr hw
 exact⟨0,eT (noK (fun r0=>((true,nQ.enc r0):kK)) a)⟩
def nd0:Sum:= {ps:=[⟨po.ct,true⟩],rs:=[⟨[.d_ .i,.d_ .i,.d_ .i,.d_ .i,.d_ .i,.d_ .i,.d_ .i,.d_ .i,.d_ .i,.d_ .i,.d_ .i,.d_ .i,.d_ .i,.d_ .i,.d_ .i,.d_ .str,.d_ .i,.d_ .i],true⟩],fn:=fun ds=>(true,po.enc (oB (po.nd ds 0)))}
theorem nri:D9 Tryz.prog 288 nd0:=by
 refine nN (Γ:=[(343,nbU)]) (Ie noL JB) Tryz.func288 fun ds (hw:ka (po.ct++[]) ds) _=> ?_
 obtain⟨a,ds,rfl,_,hw⟩:=po.nz (r:=_) hw
 obtain rfl:=nr hw
 exact⟨0,eT (nrh (fun r0=>((true,po.enc r0):kK)) a)⟩
def ZA:Sum:= {ps:=[⟨nk.ct,true⟩],rs:=[⟨[.d_ .i,.d_ .i,.d_ .i,.d_ .i,.d_ .i,.d_ .i,.d_ .i,.d_ .i,.d_ .i,.d_ .i,.d_ .i,.d_ .i,.d_ .i,.d_ .i,.d_ .i,.d_ .i,.d_ .i,.d_ .i,.d_ .i,.d_ .i,.d_ .i,.d_ .i,.d_ .i,.d_ .i,.d_ .i,.d_ .str,.d_ .i,.d_ .i,.d_ .bool,.d_ .i],true⟩],fn:=fun ds=>(true,nk.enc (oB (nk.nd ds 0)))}
theorem nl2:D9 Tryz.prog 201 ZA:=by
 refine nN (Γ:=[(198,XP),(287,NF),(288,nd0)]) (Ie ngu (Ie XL (Ie nri JB))) Tryz.func201 fun ds (hw:ka (nk.ct++[]) ds) _=> ?_
 obtain⟨a,ds,rfl,_,hw⟩:=nk.nz (r:=_) hw
 obtain rfl:=nr hw
 exact⟨0,eT (nl1 (fun r0=>((true,nk.enc r0):kK)) a)⟩
def PT:Sum:= {ps:=[⟨[.sl [.i,.i,.i,.i,.i,.i,.i,.i,.i,.i,.i,.i,.i,.i,.i,.i,.i,.i,.i,.i,.i,.i,.i,.i,.i,.str,.i,.i,.bool,.i]],false⟩],rs:=[⟨[.own 123 [.i,.i,.i,.i,.i,.i,.i,.i,.i,.i,.i,.i,.i,.i,.i,.i,.i,.i,.i,.i,.i,.i,.i,.i,.i,.str,.i,.i,.bool,.i]],false⟩],fn:=fun ds=>(sm (rR ds 0),[.sl (oB (rR ds 0))])}
def WV:Ctx:=[(201,ZA)]
theorem njR:bE Tryz.prog WV:=Ie nl2 JB
def WU:List (Nat×lB):=[(3, {bZ:=[(0,.mK),(3,.mK),(4,.mK)],boxes:=[]})]
def WW:Rows→kK:=(fun r0=>((true,[.sl r0]):kK))
def nhK (a:Rows) (i:Int) (n7:Rows):St:= {n:=23,sl:=[(0,.sl [.i,.i,.i,.i,.i,.i,.i,.i,.i,.i,.i,.i,.i,.i,.i,.i,.i,.i,.i,.i,.i,.i,.i,.i,.i,.str,.i,.i,.bool,.i] a),(3,.own 640192),(4,.int .i64 i)],hp:=[(640192,.row 123 [.i,.i,.i,.i,.i,.i,.i,.i,.i,.i,.i,.i,.i,.i,.i,.i,.i,.i,.i,.i,.i,.i,.i,.i,.i,.str,.i,.i,.bool,.i] n7 false true)],ok:=true,ls:=[],lm:=[]}
theorem njQ:D9 Tryz.prog 110 PT:=by
 refine ra (A:=WU) njR Tryz.func110 fun ds (hw:ka ([.sl [.i,.i,.i,.i,.i,.i,.i,.i,.i,.i,.i,.i,.i,.i,.i,.i,.i,.i,.i,.i,.i,.i,.i,.i,.i,.str,.i,.i,.bool,.i]]) ds) aJ=> ?_
 obtain⟨a,rfl,qV⟩:=qm hw
 obtain⟨N,hN⟩:=njP Vm.kd WW a qV aJ
 have e0:(fun i n7=>LR (LQ Tryz.prog WV WU N Tryz.f110 PT [true,true,false,true,false] []) N (nhK a i n7))=(nmO nar Vm.kd WW N a N):=To _ _ _ N
 refine⟨N,Eq.trans ?_ (hN.trans (by kernel_rfl))⟩
 unfold Z9
 rw[←e0]
 kernel_rfl
def ngg:Sum:= {ps:=[⟨qj.ct,true⟩,⟨qj.ct,true⟩],rs:=[⟨[.d_ .bool],false⟩],fn:=fun ds=>(same (qj.nd ds 0) (qj.nd ds 9),[.bool (pK (qj.nd ds 0) (qj.nd ds 9))])}
theorem nsH:D9 Tryz.prog 171 ngg:=by
 refine nN JB Tryz.func171 fun ds (hw:ka (qj.ct++(qj.ct++[])) ds) aJ=> ?_
 obtain⟨a,ds,rfl,_,hw⟩:=qj.nz (r:=_) hw
 obtain⟨b,ds,rfl,_,hw⟩:=qj.nz (r:=_) hw
 obtain rfl:=nr hw
 exact⟨0,eT (nsG (fun r0=>((true,[.bool r0]):kK)) a b aJ)⟩
def XF:Sum:= {ps:=[⟨nO.ct,true⟩,⟨nO.ct,true⟩],rs:=[⟨[.d_ .bool],false⟩],fn:=fun ds=>(same (nO.nd ds 0) (nO.nd ds 5),[.bool (pK (nO.nd ds 0) (nO.nd ds 5))])}
theorem nf6:D9 Tryz.prog 274 XF:=by
 refine nN JB Tryz.func274 fun ds (hw:ka (nO.ct++(nO.ct++[])) ds) aJ=> ?_
 obtain⟨a,ds,rfl,_,hw⟩:=nO.nz (r:=_) hw
 obtain⟨b,ds,rfl,_,hw⟩:=nO.nz (r:=_) hw
 obtain rfl:=nr hw
 exact⟨0,eT (nsA (fun r0=>((true,[.bool r0]):kK)) a b aJ)⟩
def ngk:Sum:= {ps:=[⟨ry.ct,true⟩,⟨ry.ct,true⟩],rs:=[⟨[.d_ .bool],false⟩],fn:=fun ds=>(same (ry.nd ds 0) (ry.nd ds 7),[.bool (pK (ry.nd ds 0) (ry.nd ds 7))])}
theorem nsL:D9 Tryz.prog 275 ngk:=by
 refine nN (Γ:=[(274,XF)]) (Ie nf6 JB) Tryz.func275 fun ds (hw:ka (ry.ct++(ry.ct++[])) ds) aJ=> ?_
 obtain⟨a,ds,rfl,_,hw⟩:=ry.nz (r:=_) hw
 obtain⟨b,ds,rfl,_,hw⟩:=ry.nz (r:=_) hw
 obtain rfl:=nr hw
 exact⟨0,eT (nsK Vm.kd (fun r0=>((true,[.bool r0]):kK)) a b aJ)⟩
def UF:Sum:= {ps:=[⟨[.sl [.i,.i,.i,.i,.i,.i,.i]],false⟩,⟨[.sl [.i,.i,.i,.i,.i,.i,.i]],false⟩],rs:=[⟨[.d_ .bool],false⟩],fn:=fun ds=>(same (rR ds 0) (rR ds 1),[.bool (pK (rR ds 0) (rR ds 1))])}
def ndk:Ctx:=[(275,ngk)]
theorem nqM:bE Tryz.prog ndk:=Ie nsL JB
def ndj:List (Nat×lB):=[(4, {bZ:=[(0,.mK),(1,.mK),(5,.mK)],boxes:=[]})]
def ndl:Bool→kK:=(fun r0=>((true,[.bool r0]):kK))
def nn3 (a b:Rows) (i:Int):St:= {n:=27,sl:=[(0,.sl [.i,.i,.i,.i,.i,.i,.i] a),(1,.sl [.i,.i,.i,.i,.i,.i,.i] b),(5,.int .i64 i)],hp:=[],ok:=true,ls:=[],lm:=[]}
theorem nqL:D9 Tryz.prog 172 UF:=by
 refine ra (A:=ndj) nqM Tryz.func172 fun ds (hw:ka ([.sl [.i,.i,.i,.i,.i,.i,.i],.sl [.i,.i,.i,.i,.i,.i,.i]]) ds) aJ=> ?_
 obtain⟨a,ds,rfl,qV,hw⟩:=og hw
 obtain⟨b,rfl,_⟩:=qm hw
 obtain⟨N,hN⟩:=nqK Vm.kd ndl a b qV aJ
 have e0:(fun i=>LR (LQ Tryz.prog ndk ndj N Tryz.f172 UF [true,true,false,true,false] []) N (nn3 a b i))=(nng (fun r=>ry.nd r 0) Vm.kd ndl N a b N):=nL1 _ _ _ N
 refine⟨N,Eq.trans ?_ (hN.trans (by kernel_rfl))⟩
 unfold ncC
 rw[←e0]
 kernel_rfl
def UA:Sum:= {ps:=[⟨ni.ct,true⟩,⟨ni.ct,true⟩],rs:=[⟨[.d_ .bool],false⟩],fn:=fun ds=>(same (ni.nd ds 0) (ni.nd ds 1),[.bool (pK (ni.nd ds 0) (ni.nd ds 1))])}
theorem nhf:D9 Tryz.prog 67 UA:=by
 refine nN (Γ:=[(172,UF)]) (Ie nqL JB) Tryz.func67 fun ds (hw:ka (ni.ct++(ni.ct++[])) ds) aJ=> ?_
 obtain⟨a,ds,rfl,_,hw⟩:=ni.nz (r:=_) hw
 obtain⟨b,ds,rfl,_,hw⟩:=ni.nz (r:=_) hw
 obtain rfl:=nr hw
 exact⟨0,eT (nhe Vm.kd (fun r0=>((true,[.bool r0]):kK)) a b aJ)⟩
def nbt:Sum:= {ps:=[⟨nD.ct,true⟩,⟨nD.ct,true⟩],rs:=[⟨[.d_ .bool],false⟩],fn:=fun ds=>(same (nD.nd ds 0) (nD.nd ds 2),[.bool (pK (nD.nd ds 0) (nD.nd ds 2))])}
theorem nn5:D9 Tryz.prog 68 nbt:=by
 refine nN (Γ:=[(64,wk)]) (Ie NC JB) Tryz.func68 fun ds (hw:ka (nD.ct++(nD.ct++[])) ds) aJ=> ?_
 obtain⟨a,ds,rfl,_,hw⟩:=nD.nz (r:=_) hw
 obtain⟨b,ds,rfl,_,hw⟩:=nD.nz (r:=_) hw
 obtain rfl:=nr hw
 exact⟨0,eT (nn4 Vm.kd (fun r0=>((true,[.bool r0]):kK)) a b aJ)⟩
def nbv:Sum:= {ps:=[⟨oy.ct,true⟩,⟨oy.ct,true⟩],rs:=[⟨[.d_ .bool],false⟩],fn:=fun ds=>(same (oy.nd ds 0) (oy.nd ds 8),[.bool (pK (oy.nd ds 0) (oy.nd ds 8))])}
theorem nn7:D9 Tryz.prog 170 nbv:=by
 refine nN (Γ:=[(274,XF)]) (Ie nf6 JB) Tryz.func170 fun ds (hw:ka (oy.ct++(oy.ct++[])) ds) aJ=> ?_
 obtain⟨a,ds,rfl,_,hw⟩:=oy.nz (r:=_) hw
 obtain⟨b,ds,rfl,_,hw⟩:=oy.nz (r:=_) hw
 obtain rfl:=nr hw
 exact⟨0,eT (nn6 Vm.kd (fun r0=>((true,[.bool r0]):kK)) a b aJ)⟩
def PL:Sum:= {ps:=[⟨[.sl [.i,.i,.i,.bool]],false⟩,⟨[.sl [.i,.i,.i,.bool]],false⟩],rs:=[⟨[.d_ .bool],false⟩],fn:=fun ds=>(same (rR ds 0) (rR ds 1),[.bool (pK (rR ds 0) (rR ds 1))])}
def Wr:Ctx:=[(164,YB)]
theorem niX:bE Tryz.prog Wr:=Ie nk5 JB
def Wq:List (Nat×lB):=[(4, {bZ:=[(0,.mK),(1,.mK),(5,.mK)],boxes:=[]})]
def Ws:Bool→kK:=(fun r0=>((true,[.bool r0]):kK))
def nhg (a b:Rows) (i:Int):St:= {n:=27,sl:=[(0,.sl [.i,.i,.i,.bool] a),(1,.sl [.i,.i,.i,.bool] b),(5,.int .i64 i)],hp:=[],ok:=true,ls:=[],lm:=[]}
theorem niW:D9 Tryz.prog 56 PL:=by
 refine ra (A:=Wq) niX Tryz.func56 fun ds (hw:ka ([.sl [.i,.i,.i,.bool],.sl [.i,.i,.i,.bool]]) ds) aJ=> ?_
 obtain⟨a,ds,rfl,qV,hw⟩:=og hw
 obtain⟨b,rfl,_⟩:=qm hw
 obtain⟨N,hN⟩:=niV Vm.kd Ws a b qV aJ
 have e0:(fun i=>LR (LQ Tryz.prog Wr Wq N Tryz.f56 PL [true,true,false,true,false] []) N (nhg a b i))=(nng (fun r=>pn.nd r 0) Vm.kd Ws N a b N):=nL1 _ _ _ N
 refine⟨N,Eq.trans ?_ (hN.trans (by kernel_rfl))⟩
 unfold ncC
 rw[←e0]
 kernel_rfl
def PM:Sum:= {ps:=[⟨[.sl [.i,.i,.i,.i,.i,.i,.i,.i,.i,.i,.i,.i,.i,.i,.i,.i,.i,.i,.i,.i,.i,.i,.i,.i,.i,.str,.i,.i,.bool,.i]],false⟩,⟨[.sl [.i,.i,.i,.i,.i,.i,.i,.i,.i,.i,.i,.i,.i,.i,.i,.i,.i,.i,.i,.i,.i,.i,.i,.i,.i,.str,.i,.i,.bool,.i]],false⟩],rs:=[⟨[.d_ .bool],false⟩],fn:=fun ds=>(same (rR ds 0) (rR ds 1),[.bool (pK (rR ds 0) (rR ds 1))])}
def Wu:Ctx:=[(168,YD)]
theorem ni0:bE Tryz.prog Wu:=Ie nk7 JB
def Wt:List (Nat×lB):=[(4, {bZ:=[(0,.mK),(1,.mK),(5,.mK)],boxes:=[]})]
def Wv:Bool→kK:=(fun r0=>((true,[.bool r0]):kK))
def nhh (a b:Rows) (i:Int):St:= {n:=27,sl:=[(0,.sl [.i,.i,.i,.i,.i,.i,.i,.i,.i,.i,.i,.i,.i,.i,.i,.i,.i,.i,.i,.i,.i,.i,.i,.i,.i,.str,.i,.i,.bool,.i] a),(1,.sl [.i,.i,.i,.i,.i,.i,.i,.i,.i,.i,.i,.i,.i,.i,.i,.i,.i,.i,.i,.i,.i,.i,.i,.i,.i,.str,.i,.i,.bool,.i] b),(5,.int .i64 i)],hp:=[],ok:=true,ls:=[],lm:=[]}
theorem niZ:D9 Tryz.prog 58 PM:=by
 refine ra (A:=Wt) ni0 Tryz.func58 fun ds (hw:ka ([.sl [.i,.i,.i,.i,.i,.i,.i,.i,.i,.i,.i,.i,.i,.i,.i,.i,.i,.i,.i,.i,.i,.i,.i,.i,.i,.str,.i,.i,.bool,.i],.sl [.i,.i,.i,.i,.i,.i,.i,.i,.i,.i,.i,.i,.i,.i,.i,.i,.i,.i,.i,.i,.i,.i,.i,.i,.i,.str,.i,.i,.bool,.i]]) ds) aJ=> ?_
 obtain⟨a,ds,rfl,qV,hw⟩:=og hw
 obtain⟨b,rfl,_⟩:=qm hw
 obtain⟨N,hN⟩:=niY Vm.kd Wv a b qV aJ
 have e0:(fun i=>LR (LQ Tryz.prog Wu Wt N Tryz.f58 PM [true,true,false,true,false] []) N (nhh a b i))=(nng (fun r=>nk.nd r 0) Vm.kd Wv N a b N):=nL1 _ _ _ N
 refine⟨N,Eq.trans ?_ (hN.trans (by kernel_rfl))⟩
 unfold ncC
 rw[←e0]
 kernel_rfl
def nbx:Sum:= {ps:=[⟨nA.ct,true⟩,⟨nA.ct,true⟩],rs:=[⟨[.d_ .bool],false⟩],fn:=fun ds=>(same (nA.nd ds 0) (nA.nd ds 6),[.bool (pK (nA.nd ds 0) (nA.nd ds 6))])}
theorem nn9:D9 Tryz.prog 169 nbx:=by
 refine nN JB Tryz.func169 fun ds (hw:ka (nA.ct++(nA.ct++[])) ds) aJ=> ?_
 obtain⟨a,ds,rfl,_,hw⟩:=nA.nz (r:=_) hw
 obtain⟨b,ds,rfl,_,hw⟩:=nA.nz (r:=_) hw
 obtain rfl:=nr hw
 exact⟨0,eT (nn8 (fun r0=>((true,[.bool r0]):kK)) a b aJ)⟩
def QC:Sum:= {ps:=[⟨[.sl [.i,.i,.i,.i,.bool,.bool]],false⟩,⟨[.sl [.i,.i,.i,.i,.bool,.bool]],false⟩],rs:=[⟨[.d_ .bool],false⟩],fn:=fun ds=>(same (rR ds 0) (rR ds 1),[.bool (pK (rR ds 0) (rR ds 1))])}
def YR:Ctx:=[(169,nbx)]
theorem nlh:bE Tryz.prog YR:=Ie nn9 JB
def YQ:List (Nat×lB):=[(4, {bZ:=[(0,.mK),(1,.mK),(5,.mK)],boxes:=[]})]
def YS:Bool→kK:=(fun r0=>((true,[.bool r0]):kK))
def ni5 (a b:Rows) (i:Int):St:= {n:=27,sl:=[(0,.sl [.i,.i,.i,.i,.bool,.bool] a),(1,.sl [.i,.i,.i,.i,.bool,.bool] b),(5,.int .i64 i)],hp:=[],ok:=true,ls:=[],lm:=[]}
theorem nlg:D9 Tryz.prog 60 QC:=by
 refine ra (A:=YQ) nlh Tryz.func60 fun ds (hw:ka ([.sl [.i,.i,.i,.i,.bool,.bool],.sl [.i,.i,.i,.i,.bool,.bool]]) ds) aJ=> ?_
 obtain⟨a,ds,rfl,qV,hw⟩:=og hw
 obtain⟨b,rfl,_⟩:=qm hw
 obtain⟨N,hN⟩:=nlf Vm.kd YS a b qV aJ
 have e0:(fun i=>LR (LQ Tryz.prog YR YQ N Tryz.f60 QC [true,true,false,true,false] []) N (ni5 a b i))=(nng (fun r=>nA.nd r 0) Vm.kd YS N a b N):=nL1 _ _ _ N
 refine⟨N,Eq.trans ?_ (hN.trans (by kernel_rfl))⟩
 unfold ncC
 rw[←e0]
 kernel_rfl
def Uy:Sum:= {ps:=[⟨[.sl [.bool]],false⟩,⟨[.sl [.bool]],false⟩],rs:=[⟨[.d_ .bool],false⟩],fn:=fun ds=>(same (rR ds 0) (rR ds 1),[.bool (pK (rR ds 0) (rR ds 1))])}
def nc8:List (Nat×lB):=[(4, {bZ:=[(0,.mK),(1,.mK),(5,.mK)],boxes:=[]})]
def nc9:Bool→kK:=(fun r0=>((true,[.bool r0]):kK))
def nnT (a b:Rows) (i:Int):St:= {n:=26,sl:=[(0,.sl [.bool] a),(1,.sl [.bool] b),(5,.int .i64 i)],hp:=[],ok:=true,ls:=[],lm:=[]}
theorem nqz:D9 Tryz.prog 61 Uy:=by
 refine ra (A:=nc8) JB Tryz.func61 fun ds (hw:ka ([.sl [.bool],.sl [.bool]]) ds) aJ=> ?_
 obtain⟨a,ds,rfl,qV,hw⟩:=og hw
 obtain⟨b,rfl,_⟩:=qm hw
 obtain⟨N,hN⟩:=nqy Vm.kd nc9 a b qV aJ
 exact⟨N,eL (fun l_=>Uz Vm.kd nc9 l_ a b) (nL1 (LQ Tryz.prog [] nc8 N Tryz.f61 Uy [true,true,false,true,false] []) (nnT a b) _ N) hN⟩
def nbn:Sum:= {ps:=[⟨nB.ct,true⟩,⟨nB.ct,true⟩],rs:=[⟨[.d_ .bool],false⟩],fn:=fun ds=>(same (nB.nd ds 0) (nB.nd ds 3),[.bool (pK (nB.nd ds 0) (nB.nd ds 3))])}
theorem nnV:D9 Tryz.prog 14 nbn:=by
 refine nN (Γ:=[(64,wk)]) (Ie NC JB) Tryz.func14 fun ds (hw:ka (nB.ct++(nB.ct++[])) ds) aJ=> ?_
 obtain⟨a,ds,rfl,_,hw⟩:=nB.nz (r:=_) hw
 obtain⟨b,ds,rfl,_,hw⟩:=nB.nz (r:=_) hw
 obtain rfl:=nr hw
 exact⟨0,eT (nnU Vm.kd (fun r0=>((true,[.bool r0]):kK)) a b aJ)⟩
def UD:Sum:= {ps:=[⟨[.sl [.i,.i,.i,.i,.i,.i,.i,.i,.i]],false⟩,⟨[.sl [.i,.i,.i,.i,.i,.i,.i,.i,.i]],false⟩],rs:=[⟨[.d_ .bool],false⟩],fn:=fun ds=>(same (rR ds 0) (rR ds 1),[.bool (pK (rR ds 0) (rR ds 1))])}
def nde:Ctx:=[(171,ngg)]
theorem nqG:bE Tryz.prog nde:=Ie nsH JB
def ndd:List (Nat×lB):=[(4, {bZ:=[(0,.mK),(1,.mK),(5,.mK)],boxes:=[]})]
def ndf:Bool→kK:=(fun r0=>((true,[.bool r0]):kK))
def nn1 (a b:Rows) (i:Int):St:= {n:=27,sl:=[(0,.sl [.i,.i,.i,.i,.i,.i,.i,.i,.i] a),(1,.sl [.i,.i,.i,.i,.i,.i,.i,.i,.i] b),(5,.int .i64 i)],hp:=[],ok:=true,ls:=[],lm:=[]}
theorem nqF:D9 Tryz.prog 66 UD:=by
 refine ra (A:=ndd) nqG Tryz.func66 fun ds (hw:ka ([.sl [.i,.i,.i,.i,.i,.i,.i,.i,.i],.sl [.i,.i,.i,.i,.i,.i,.i,.i,.i]]) ds) aJ=> ?_
 obtain⟨a,ds,rfl,qV,hw⟩:=og hw
 obtain⟨b,rfl,_⟩:=qm hw
 obtain⟨N,hN⟩:=nqE Vm.kd ndf a b qV aJ
 have e0:(fun i=>LR (LQ Tryz.prog nde ndd N Tryz.f66 UD [true,true,false,true,false] []) N (nn1 a b i))=(nng (fun r=>qj.nd r 0) Vm.kd ndf N a b N):=nL1 _ _ _ N
 refine⟨N,Eq.trans ?_ (hN.trans (by kernel_rfl))⟩
 unfold ncC
 rw[←e0]
 kernel_rfl
def Ww:Sum:= {ps:=[⟨nm.ct,true⟩,⟨nm.ct,true⟩],rs:=[⟨[.d_ .bool],false⟩],fn:=fun ds=>(same (nm.nd ds 0) (nm.nd ds 4),[.bool (pK (nm.nd ds 0) (nm.nd ds 4))])}
theorem ni2:D9 Tryz.prog 15 Ww:=by
 refine nN (Γ:=[(66,UD),(67,UA),(68,nbt)]) (Ie nqF (Ie nhf (Ie nn5 JB))) Tryz.func15 fun ds (hw:ka (nm.ct++(nm.ct++[])) ds) aJ=> ?_
 obtain⟨a,ds,rfl,_,hw⟩:=nm.nz (r:=_) hw
 obtain⟨b,ds,rfl,_,hw⟩:=nm.nz (r:=_) hw
 obtain rfl:=nr hw
 exact⟨0,eT (ni1 Vm.kd (fun r0=>((true,[.bool r0]):kK)) a b aJ)⟩
def QA:Sum:= {ps:=[⟨[.sl [.i,.i,.i,.i,.i,.i,.str,.bool]],false⟩,⟨[.sl [.i,.i,.i,.i,.i,.i,.str,.bool]],false⟩],rs:=[⟨[.d_ .bool],false⟩],fn:=fun ds=>(same (rR ds 0) (rR ds 1),[.bool (pK (rR ds 0) (rR ds 1))])}
def YI:Ctx:=[(170,nbv)]
theorem nlb:bE Tryz.prog YI:=Ie nn7 JB
def YH:List (Nat×lB):=[(4, {bZ:=[(0,.mK),(1,.mK),(5,.mK)],boxes:=[]})]
def YJ:Bool→kK:=(fun r0=>((true,[.bool r0]):kK))
def ni3 (a b:Rows) (i:Int):St:= {n:=27,sl:=[(0,.sl [.i,.i,.i,.i,.i,.i,.str,.bool] a),(1,.sl [.i,.i,.i,.i,.i,.i,.str,.bool] b),(5,.int .i64 i)],hp:=[],ok:=true,ls:=[],lm:=[]}
theorem nla:D9 Tryz.prog 62 QA:=by
 refine ra (A:=YH) nlb Tryz.func62 fun ds (hw:ka ([.sl [.i,.i,.i,.i,.i,.i,.str,.bool],.sl [.i,.i,.i,.i,.i,.i,.str,.bool]]) ds) aJ=> ?_
 obtain⟨a,ds,rfl,qV,hw⟩:=og hw
 obtain⟨b,rfl,_⟩:=qm hw
 obtain⟨N,hN⟩:=nk_ Vm.kd YJ a b qV aJ
 have e0:(fun i=>LR (LQ Tryz.prog YI YH N Tryz.f62 QA [true,true,false,true,false] []) N (ni3 a b i))=(nng (fun r=>oy.nd r 0) Vm.kd YJ N a b N):=nL1 _ _ _ N
 refine⟨N,Eq.trans ?_ (hN.trans (by kernel_rfl))⟩
 unfold ncC
 rw[←e0]
 kernel_rfl
def Wo:Sum:= {ps:=[⟨nV.ct,true⟩,⟨nV.ct,true⟩],rs:=[⟨[.d_ .bool],false⟩],fn:=fun ds=>(same (nV.nd ds 0) (nV.nd ds 5),[.bool (pK (nV.nd ds 0) (nV.nd ds 5))])}
theorem niU:D9 Tryz.prog 65 Wo:=by
 refine nN JB Tryz.func65 fun ds (hw:ka (nV.ct++(nV.ct++[])) ds) aJ=> ?_
 obtain⟨a,ds,rfl,_,hw⟩:=nV.nz (r:=_) hw
 obtain⟨b,ds,rfl,_,hw⟩:=nV.nz (r:=_) hw
 obtain rfl:=nr hw
 exact⟨0,eT (niT (fun r0=>((true,[.bool r0]):kK)) a b aJ)⟩
def nf8:Sum:= {ps:=[⟨nt.ct,true⟩,⟨nt.ct,true⟩],rs:=[⟨[.d_ .bool],false⟩],fn:=fun ds=>(same (nt.nd ds 0) (nt.nd ds 33),[.bool (pK (nt.nd ds 0) (nt.nd ds 33))])}
theorem nsC:D9 Tryz.prog 13 nf8:=by
 refine nN (Γ:=[(14,nbn),(15,Ww),(55,nbp),(56,PL),(57,YO),(58,PM),(59,UC),(60,QC),(61,Uy),(62,QA),(63,zC),(64,wk),(65,Wo)]) (Ie nnV (Ie ni2 (Ie nnX (Ie niW (Ie nle (Ie niZ (Ie nqC (Ie nlg (Ie nqz (Ie nla (Ie YN (Ie NC (Ie niU JB))))))))))))) Tryz.func13 fun ds (hw:ka (nt.ct++(nt.ct++[])) ds) aJ=> ?_
 obtain⟨a,ds,rfl,_,hw⟩:=nt.nz (r:=_) hw
 obtain⟨b,ds,rfl,_,hw⟩:=nt.nz (r:=_) hw
 obtain rfl:=nr hw
 exact⟨0,eT (nsB Vm.kd (fun r0=>((true,[.bool r0]):kK)) a b aJ)⟩
def ngv:Sum:= {ps:=[⟨qj.ct,true⟩],rs:=[⟨[.d_ .i,.d_ .i,.d_ .i,.d_ .i,.d_ .i,.d_ .i,.d_ .i,.d_ .i,.d_ .i],true⟩],fn:=fun ds=>(true,qj.enc (oB (qj.nd ds 0)))}
theorem ns0:D9 Tryz.prog 145 ngv:=by
 refine nN JB Tryz.func145 fun ds (hw:ka (qj.ct++[]) ds) _=> ?_
 obtain⟨a,ds,rfl,_,hw⟩:=qj.nz (r:=_) hw
 obtain rfl:=nr hw
 exact⟨0,eT (nsZ (fun r0=>((true,qj.enc r0):kK)) a)⟩
def Vg:Sum:= {ps:=[⟨[.sl [.i,.i,.i,.i,.i,.i,.i,.i,.i]],false⟩],rs:=[⟨[.own 197 [.i,.i,.i,.i,.i,.i,.i,.i,.i]],false⟩],fn:=fun ds=>(sm (rR ds 0),[.sl (oB (rR ds 0))])}
def ndR:Ctx:=[(145,ngv)]
theorem nra:bE Tryz.prog ndR:=Ie ns0 JB
def ndQ:List (Nat×lB):=[(3, {bZ:=[(0,.mK),(3,.mK),(4,.mK)],boxes:=[]})]
def ndS:Rows→kK:=(fun r0=>((true,[.sl r0]):kK))
def noO (a:Rows) (i:Int) (n7:Rows):St:= {n:=23,sl:=[(0,.sl [.i,.i,.i,.i,.i,.i,.i,.i,.i] a),(3,.own 640192),(4,.int .i64 i)],hp:=[(640192,.row 197 [.i,.i,.i,.i,.i,.i,.i,.i,.i] n7 false true)],ok:=true,ls:=[],lm:=[]}
theorem nq_:D9 Tryz.prog 42 Vg:=by
 refine ra (A:=ndQ) nra Tryz.func42 fun ds (hw:ka ([.sl [.i,.i,.i,.i,.i,.i,.i,.i,.i]]) ds) aJ=> ?_
 obtain⟨a,rfl,qV⟩:=qm hw
 obtain⟨N,hN⟩:=nq9 Vm.kd ndS a qV aJ
 have e0:(fun i n7=>LR (LQ Tryz.prog ndR ndQ N Tryz.f42 Vg [true,true,false,true,false] []) N (noO a i n7))=(nmO nmP Vm.kd ndS N a N):=To _ _ _ N
 refine⟨N,Eq.trans ?_ (hN.trans (by kernel_rfl))⟩
 unfold Z9
 rw[←e0]
 kernel_rfl
def Vc:Sum:= {ps:=[⟨[.sl [.bool]],false⟩],rs:=[⟨[.own 4 [.bool]],false⟩],fn:=fun ds=>(sm (rR ds 0),[.sl (oB (rR ds 0))])}
def ndK:List (Nat×lB):=[(3, {bZ:=[(0,.mK),(3,.mK),(4,.mK)],boxes:=[]})]
def ndL:Rows→kK:=(fun r0=>((true,[.sl r0]):kK))
def noF (a:Rows) (i:Int) (n7:Rows):St:= {n:=22,sl:=[(0,.sl [.bool] a),(3,.own 640192),(4,.int .i64 i)],hp:=[(640192,.row 4 [.bool] n7 false true)],ok:=true,ls:=[],lm:=[]}
theorem nq4:D9 Tryz.prog 113 Vc:=by
 refine ra (A:=ndK) JB Tryz.func113 fun ds (hw:ka ([.sl [.bool]]) ds) aJ=> ?_
 obtain⟨a,rfl,qV⟩:=qm hw
 obtain⟨N,hN⟩:=nq3 Vm.kd ndL a qV aJ
 have e0:(fun i n7=>LR (LQ Tryz.prog [] ndK N Tryz.f113 Vc [true,true,false,true,false] []) N (noF a i n7))=(nmO nmN Vm.kd ndL N a N):=To _ _ _ N
 refine⟨N,Eq.trans ?_ (hN.trans (by kernel_rfl))⟩
 unfold Z9
 rw[←e0]
 kernel_rfl
def nbX:Sum:= {ps:=[⟨nA.ct,true⟩],rs:=[⟨[.d_ .i,.d_ .i,.d_ .i,.d_ .i,.d_ .bool,.d_ .bool],true⟩],fn:=fun ds=>(true,nA.enc (oB (nA.nd ds 0)))}
theorem noY:D9 Tryz.prog 202 nbX:=by
 refine nN JB Tryz.func202 fun ds (hw:ka (nA.ct++[]) ds) _=> ?_
 obtain⟨a,ds,rfl,_,hw⟩:=nA.nz (r:=_) hw
 obtain rfl:=nr hw
 exact⟨0,eT (noX (fun r0=>((true,nA.enc r0):kK)) a)⟩
def QZ:Sum:= {ps:=[⟨[.sl [.i,.i,.i,.i,.bool,.bool]],false⟩],rs:=[⟨[.own 102 [.i,.i,.i,.i,.bool,.bool]],false⟩],fn:=fun ds=>(sm (rR ds 0),[.sl (oB (rR ds 0))])}
def ZK:Ctx:=[(202,nbX)]
theorem nme:bE Tryz.prog ZK:=Ie noY JB
def ZJ:List (Nat×lB):=[(3, {bZ:=[(0,.mK),(3,.mK),(4,.mK)],boxes:=[]})]
def ZL:Rows→kK:=(fun r0=>((true,[.sl r0]):kK))
def njW (a:Rows) (i:Int) (n7:Rows):St:= {n:=23,sl:=[(0,.sl [.i,.i,.i,.i,.bool,.bool] a),(3,.own 640192),(4,.int .i64 i)],hp:=[(640192,.row 102 [.i,.i,.i,.i,.bool,.bool] n7 false true)],ok:=true,ls:=[],lm:=[]}
theorem nmd:D9 Tryz.prog 112 QZ:=by
 refine ra (A:=ZJ) nme Tryz.func112 fun ds (hw:ka ([.sl [.i,.i,.i,.i,.bool,.bool]]) ds) aJ=> ?_
 obtain⟨a,rfl,qV⟩:=qm hw
 obtain⟨N,hN⟩:=nmc Vm.kd ZL a qV aJ
 have e0:(fun i n7=>LR (LQ Tryz.prog ZK ZJ N Tryz.f112 QZ [true,true,false,true,false] []) N (njW a i n7))=(nmO neR Vm.kd ZL N a N):=To _ _ _ N
 refine⟨N,Eq.trans ?_ (hN.trans (by kernel_rfl))⟩
 unfold Z9
 rw[←e0]
 kernel_rfl
def Vh:Sum:= {ps:=[⟨[.sl [.i,.i,.sl [.i]]],false⟩],rs:=[⟨[.deep 304 [.i,.i,.sl [.i]] [3]],false⟩],fn:=fun ds=>(tS (rR ds 0),[.sl (oB (rR ds 0))])}
def ndU:Ctx:=[(1125899906842631,J3),(286,ngw)]
theorem nrd:bE Tryz.prog ndU:=Ie Lq (Ie ns3 JB)
def ndT:List (Nat×lB):=[(3, {bZ:=[(0,.mK),(3,.mK),(4,.mK)],boxes:=[]})]
def ndV:Rows→kK:=(fun r0=>((true,[.sl r0]):kK))
def noP (a:Rows) (i:Int) (n7:Rows):St:= {n:=23,sl:=[(0,.sl [.i,.i,.sl [.i]] a),(3,.own 640192),(4,.int .i64 i)],hp:=[(640192,.deep 304 [.i,.i,.sl [.i]] [3] n7 none)],ok:=true,ls:=[],lm:=[]}
theorem nrc:D9 Tryz.prog 200 Vh:=by
 refine ra (A:=ndT) nrd Tryz.func200 fun ds (hw:ka ([.sl [.i,.i,.sl [.i]]]) ds) aJ=> ?_
 obtain⟨a,rfl,qV⟩:=qm hw
 obtain⟨N,hN⟩:=nrb Vm.kd ndV a qV aJ
 exact⟨N,eL (fun l_=>Vi Vm.kd ndV l_ a) (To (LQ Tryz.prog ndU ndT N Tryz.f200 Vh [true,true,false,true,false] []) (noP a) _ N) hN⟩
def ZI:Sum:= {ps:=[⟨nn.ct,true⟩],rs:=[⟨[.d_ .i,.d_ .i,.d_ .i,.d_ .i,.d_ .i,.d_ .i,.d_ .i,.own 3 [.i],.deep 304 [.i,.i,.sl [.i]] [3],.d_ .i],true⟩],fn:=fun ds=>(ur (nn.nd ds 0),nn.enc (oB (nn.nd ds 0)))}
theorem nmb:D9 Tryz.prog 109 ZI:=by
 refine nN (Γ:=[(198,XP),(199,XO),(200,Vh)]) (Ie ngu (Ie ngt (Ie nrc JB))) Tryz.func109 fun ds (hw:ka (nn.ct++[]) ds) aJ=> ?_
 obtain⟨a,ds,rfl,_,hw⟩:=nn.nz (r:=_) hw
 obtain rfl:=nr hw
 exact⟨0,eT (nma Vm.kd (fun r0=>((true,nn.enc r0):kK)) a aJ)⟩
def WY:Sum:= {ps:=[⟨nm.ct,true⟩],rs:=[⟨[.own 197 [.i,.i,.i,.i,.i,.i,.i,.i,.i],.own 201 [.i,.i,.i,.i,.i,.i,.i],.d_ .str,.own 3 [.i]],true⟩],fn:=fun ds=>(t0 (nm.nd ds 0),nm.enc (oB (nm.nd ds 0)))}
theorem njT:D9 Tryz.prog 11 WY:=by
 refine nN (Γ:=[(42,Vg),(43,Vd),(44,nbV)]) (Ie nq_ (Ie nhI (Ie noS JB))) Tryz.func11 fun ds (hw:ka (nm.ct++[]) ds) aJ=> ?_
 obtain⟨a,ds,rfl,_,hw⟩:=nm.nz (r:=_) hw
 obtain rfl:=nr hw
 exact⟨0,eT (njS Vm.kd (fun r0=>((true,nm.enc r0):kK)) a aJ)⟩
def Zz:Sum:= {ps:=[⟨pn.ct,true⟩],rs:=[⟨[.d_ .i,.d_ .i,.d_ .i,.d_ .bool],true⟩],fn:=fun ds=>(true,pn.enc (oB (pn.nd ds 0)))}
theorem nlZ:D9 Tryz.prog 197 Zz:=by
 refine nN JB Tryz.func197 fun ds (hw:ka (pn.ct++[]) ds) _=> ?_
 obtain⟨a,ds,rfl,_,hw⟩:=pn.nz (r:=_) hw
 obtain rfl:=nr hw
 exact⟨0,eT (nlY (fun r0=>((true,pn.enc r0):kK)) a)⟩
def PR:Sum:= {ps:=[⟨[.sl [.i,.i,.i,.bool]],false⟩],rs:=[⟨[.own 113 [.i,.i,.i,.bool]],false⟩],fn:=fun ds=>(sm (rR ds 0),[.sl (oB (rR ds 0))])}
def WR:Ctx:=[(197,Zz)]
theorem njO:bE Tryz.prog WR:=Ie nlZ JB
def WQ:List (Nat×lB):=[(3, {bZ:=[(0,.mK),(3,.mK),(4,.mK)],boxes:=[]})]
def WS:Rows→kK:=(fun r0=>((true,[.sl r0]):kK))
def nhJ (a:Rows) (i:Int) (n7:Rows):St:= {n:=23,sl:=[(0,.sl [.i,.i,.i,.bool] a),(3,.own 640192),(4,.int .i64 i)],hp:=[(640192,.row 113 [.i,.i,.i,.bool] n7 false true)],ok:=true,ls:=[],lm:=[]}
theorem njN:D9 Tryz.prog 108 PR:=by
 refine ra (A:=WQ) njO Tryz.func108 fun ds (hw:ka ([.sl [.i,.i,.i,.bool]]) ds) aJ=> ?_
 obtain⟨a,rfl,qV⟩:=qm hw
 obtain⟨N,hN⟩:=njM Vm.kd WS a qV aJ
 have e0:(fun i n7=>LR (LQ Tryz.prog WR WQ N Tryz.f108 PR [true,true,false,true,false] []) N (nhJ a i n7))=(nmO naq Vm.kd WS N a N):=To _ _ _ N
 refine⟨N,Eq.trans ?_ (hN.trans (by kernel_rfl))⟩
 unfold Z9
 rw[←e0]
 kernel_rfl
def nbS:Sum:= {ps:=[⟨nB.ct,true⟩],rs:=[⟨[.d_ .i,.d_ .bool,.own 3 [.i]],true⟩],fn:=fun ds=>(uW (nB.nd ds 0),nB.enc (oB (nB.nd ds 0)))}
theorem noH:D9 Tryz.prog 10 nbS:=by
 refine nN (Γ:=[(41,wq)]) (Ie NG JB) Tryz.func10 fun ds (hw:ka (nB.ct++[]) ds) aJ=> ?_
 obtain⟨a,ds,rfl,_,hw⟩:=nB.nz (r:=_) hw
 obtain rfl:=nr hw
 exact⟨0,eT (noG Vm.kd (fun r0=>((true,nB.enc r0):kK)) a aJ)⟩
def WO:Sum:= {ps:=[⟨nV.ct,true⟩],rs:=[⟨[.d_ .i,.d_ .i,.d_ .i,.d_ .i,.d_ .i],true⟩],fn:=fun ds=>(true,nV.enc (oB (nV.nd ds 0)))}
theorem njK:D9 Tryz.prog 116 WO:=by
 refine nN JB Tryz.func116 fun ds (hw:ka (nV.ct++[]) ds) _=> ?_
 obtain⟨a,ds,rfl,_,hw⟩:=nV.nz (r:=_) hw
 obtain rfl:=nr hw
 exact⟨0,eT (njJ (fun r0=>((true,nV.enc r0):kK)) a)⟩
def ngq:Sum:= {ps:=[⟨nt.ct,true⟩],rs:=[⟨[.own 9 [.str],.own 113 [.i,.i,.i,.bool],.d_ .i,.d_ .i,.d_ .i,.d_ .i,.d_ .i,.d_ .i,.d_ .i,.own 3 [.i],.deep 304 [.i,.i,.sl [.i]] [3],.d_ .i,.own 123 [.i,.i,.i,.i,.i,.i,.i,.i,.i,.i,.i,.i,.i,.i,.i,.i,.i,.i,.i,.i,.i,.i,.i,.i,.i,.str,.i,.i,.bool,.i],.deep 42 [.i,.i,.i,.sl [.i]] [3],.own 102 [.i,.i,.i,.i,.bool,.bool],.own 4 [.bool],.d_ .i,.d_ .bool,.own 3 [.i],.own 197 [.i,.i,.i,.i,.i,.i,.i,.i,.i],.own 201 [.i,.i,.i,.i,.i,.i,.i],.d_ .str,.own 3 [.i],.own 232 [.i,.i,.i,.i,.i,.i,.str,.bool],.d_ .bool,.own 9 [.str],.own 3 [.i],.own 3 [.i],.d_ .i,.d_ .i,.d_ .i,.d_ .i,.d_ .i],true⟩],fn:=fun ds=>(tC (nt.nd ds 0),nt.enc (oB (nt.nd ds 0)))}
theorem nsU:D9 Tryz.prog 22 ngq:=by
 refine nN (Γ:=[(10,nbS),(11,WY),(41,wq),(107,nbT),(108,PR),(109,ZI),(110,PT),(111,Ve),(112,QZ),(113,Vc),(114,QY),(115,zK),(116,WO)]) (Ie noH (Ie njT (Ie NG (Ie noJ (Ie njN (Ie nmb (Ie njQ (Ie nq7 (Ie nmd (Ie nq4 (Ie nl8 (Ie ZH (Ie njK JB))))))))))))) Tryz.func22 fun ds (hw:ka (nt.ct++[]) ds) aJ=> ?_
 obtain⟨a,ds,rfl,_,hw⟩:=nt.nz (r:=_) hw
 obtain rfl:=nr hw
 exact⟨0,eT (nsT Vm.kd (fun r0=>((true,nt.enc r0):kK)) a aJ)⟩
def tQ:Sum:= {ps:=[⟨[.sl [.i]],false⟩,⟨[.i],false⟩],rs:=[⟨[.d_ .i],false⟩],fn:=fun ds=>(OZ 1 (rR ds 0) (rI ds 1),[.int (sR (rR ds 0) (rI ds 1)).1]++[.sl (sR (rR ds 0) (rI ds 1)).2]),ms:=[some (.rows [.flat 3]),none]}
def nbF:List (Nat×lB):=[(2, {bZ:=[(0,.mK),(1,.mK),(5,.mK)],boxes:=[]})]
def nbG:Int→Rows→kK:=(fun r0 r1=>((true,[.int r0]++[.sl r1]):kK))
def nlx (rN i:Int) (Nj:Rows):St:= {n:=1099511627795,sl:=[(0,.own 640000),(1,.int .i64 rN),(5,.int .i64 i)],hp:=[(640000,.row 3 [.i] Nj false true)],ok:=true,ls:=[],lm:=[]}
theorem vH:Cl Tryz.prog 69 tQ:=by
 refine Nq (A:=nbF) JB Tryz.func69 fun ds (hw:ka ([.sl [.i],.i]) ds) aJ=> ?_
 obtain⟨a,ds,rfl,qV,hw⟩:=og hw
 obtain⟨k,rfl,_⟩:=nw hw
 obtain⟨N,hN⟩:=noi Vm.kd nbG a k qV aJ
 exact⟨N,eL (fun l_=>Sv Vm.kd nbG l_ a k) (nL3 (Lj Tryz.prog [] nbF N Tryz.f69 tQ [true,false,true,false] []) (nlx) _ N) hN⟩
def tP:Sum:= {ps:=[⟨[.sl [.i]],false⟩,⟨[.i],false⟩],rs:=[⟨[.d_ .i],false⟩],fn:=fun ds=>(Qk sE 1 (rR ds 0) (rI ds 1),[.int (rM (rR ds 0) (rI ds 1))])}
def nbA:List (Nat×lB):=[(2, {bZ:=[(0,.mK),(1,.mK),(5,.mK)],boxes:=[]})]
def nbB:Int→kK:=(fun r0=>((true,[.int r0]):kK))
def nlk (a:Rows) (rN i:Int):St:= {n:=21,sl:=[(0,.sl [.i] a),(1,.int .i64 rN),(5,.int .i64 i)],hp:=[],ok:=true,ls:=[],lm:=[]}
theorem vG:D9 Tryz.prog 93 tP:=by
 refine ra (A:=nbA) JB Tryz.func93 fun ds (hw:ka ([.sl [.i],.i]) ds) aJ=> ?_
 obtain⟨a,ds,rfl,qV,hw⟩:=og hw
 obtain⟨k,rfl,_⟩:=nw hw
 obtain⟨N,hN⟩:=nob Vm.kd nbB a k qV aJ
 exact⟨N,eL (fun l_=>Su Vm.kd nbB l_ a k) (To (LQ Tryz.prog [] nbA N Tryz.f93 tP [true,false,true,false] []) (nlk a) _ N) hN⟩
def QL:Sum:= {ps:=[⟨[.sl [.bool]],false⟩,⟨[.i],false⟩],rs:=[⟨[.d_ .i],false⟩],fn:=fun ds=>(OZ 1 (rR ds 0) (rI ds 1),[.int (Q_ (rR ds 0) (rI ds 1)).1]++[.sl (Q_ (rR ds 0) (rI ds 1)).2]),ms:=[some (.rows [.flat 4]),none]}
def Y8:List (Nat×lB):=[(2, {bZ:=[(0,.mK),(1,.mK),(5,.mK)],boxes:=[]})]
def Y9:Int→Rows→kK:=(fun r0 r1=>((true,[.int r0]++[.sl r1]):kK))
def njg (rN i:Int) (Nj:Rows):St:= {n:=1099511627797,sl:=[(0,.own 640000),(1,.int .i64 rN),(5,.int .i64 i)],hp:=[(640000,.row 4 [.bool] Nj false true)],ok:=true,ls:=[],lm:=[]}
theorem nlw:Cl Tryz.prog 79 QL:=by
 refine Nq (A:=Y8) JB Tryz.func79 fun ds (hw:ka ([.sl [.bool],.i]) ds) aJ=> ?_
 obtain⟨a,ds,rfl,qV,hw⟩:=og hw
 obtain⟨k,rfl,_⟩:=nw hw
 obtain⟨N,hN⟩:=nlv Vm.kd Y9 a k qV aJ
 exact⟨N,eL (fun l_=>QM Vm.kd Y9 l_ a k) (nL3 (Lj Tryz.prog [] Y8 N Tryz.f79 QL [true,false,true,false] []) (njg) _ N) hN⟩
def QD:Sum:= {ps:=[⟨[.sl [.bool]],false⟩,⟨[.i],false⟩],rs:=[⟨[.d_ .i],false⟩],fn:=fun ds=>(Qk Pc 1 (rR ds 0) (rI ds 1),[.int (TE (rR ds 0) (rI ds 1))])}
def YT:List (Nat×lB):=[(2, {bZ:=[(0,.mK),(1,.mK),(5,.mK)],boxes:=[]})]
def YU:Int→kK:=(fun r0=>((true,[.int r0]):kK))
def ni6 (a:Rows) (rN i:Int):St:= {n:=23,sl:=[(0,.sl [.bool] a),(1,.int .i64 rN),(5,.int .i64 i)],hp:=[],ok:=true,ls:=[],lm:=[]}
theorem nlj:D9 Tryz.prog 88 QD:=by
 refine ra (A:=YT) JB Tryz.func88 fun ds (hw:ka ([.sl [.bool],.i]) ds) aJ=> ?_
 obtain⟨a,ds,rfl,qV,hw⟩:=og hw
 obtain⟨k,rfl,_⟩:=nw hw
 obtain⟨N,hN⟩:=nli Vm.kd YU a k qV aJ
 exact⟨N,eL (fun l_=>QE Vm.kd YU l_ a k) (To (LQ Tryz.prog [] YT N Tryz.f88 QD [true,false,true,false] []) (ni6 a) _ N) hN⟩
def tR:Sum:= {ps:=[⟨[.i],false⟩],rs:=[⟨[.d_ .str],false⟩],fn:=fun ds=>(true,[.str (R1 (rI ds 0))])}
def nbJ:List (Nat×lB):=[(4, {bZ:=[(0,.mK),(3,.mK)],boxes:=[]})]
def nbK:Bytes→kK:=(fun r0=>((true,[.str r0]):kK))
def nlI (rN:Int) (n7:Bytes):St:= {n:=20,sl:=[(0,.int .i64 rN),(3,.str n7)],hp:=[],ok:=true,ls:=[],lm:=[]}
theorem vI:D9 Tryz.prog 176 tR:=by
 refine ra (A:=nbJ) JB Tryz.func176 fun ds (hw:ka ([.i]) ds) _=> ?_
 obtain⟨k,rfl,h_k⟩:=nw hw
 obtain⟨N,hN⟩:=noo Vm.kd nbK k h_k
 exact⟨N,eL (fun l_=>Sw Vm.kd nbK l_ k) (To (LQ Tryz.prog [] nbJ N Tryz.f176 tR [true,true,true,false,false] []) (nlI) _ N) hN⟩
def xl:Sum:= {ps:=[⟨[.sl [.str]],false⟩,⟨[.i],false⟩],rs:=[⟨[.d_ .i],false⟩],fn:=fun ds=>(OZ 1 (rR ds 0) (rI ds 1),[.int (uO (rR ds 0) (rI ds 1)).1]++[.sl (uO (rR ds 0) (rI ds 1)).2]),ms:=[some (.rows [.flat 9]),none]}
def UY:Ctx:=[(176,tR)]
theorem nhv:bE Tryz.prog UY:=Ie vI JB
def UX:List (Nat×lB):=[(2, {bZ:=[(0,.mK),(1,.mK),(5,.mK)],boxes:=[]})]
def UZ:Int→Rows→kK:=(fun r0 r1=>((true,[.int r0]++[.sl r1]):kK))
def nfw (rN i:Int) (Nj:Rows):St:= {n:=1099511627796,sl:=[(0,.own 640000),(1,.int .i64 rN),(5,.int .i64 i)],hp:=[(640000,.row 9 [.str] Nj false true)],ok:=true,ls:=[],lm:=[]}
theorem U1:Cl Tryz.prog 81 xl:=by
 refine Nq (A:=UX) nhv Tryz.func81 fun ds (hw:ka ([.sl [.str],.i]) ds) aJ=> ?_
 obtain⟨a,ds,rfl,qV,hw⟩:=og hw
 obtain⟨k,rfl,_⟩:=nw hw
 obtain⟨N,hN⟩:=nhu Vm.kd UZ a k qV aJ
 exact⟨N,eL (fun l_=>OH Vm.kd UZ l_ a k) (nL3 (Lj Tryz.prog UY UX N Tryz.f81 xl [true,false,true,false] []) (nfw) _ N) hN⟩
def xk:Sum:= {ps:=[⟨[.sl [.str]],false⟩,⟨[.i],false⟩],rs:=[⟨[.d_ .i],false⟩],fn:=fun ds=>(Qk th 1 (rR ds 0) (rI ds 1),[.int (uL (rR ds 0) (rI ds 1))])}
def UL:Ctx:=[(176,tR)]
theorem nhm:bE Tryz.prog UL:=Ie vI JB
def UK:List (Nat×lB):=[(2, {bZ:=[(0,.mK),(1,.mK),(5,.mK)],boxes:=[]})]
def UM:Int→kK:=(fun r0=>((true,[.int r0]):kK))
def nfk (a:Rows) (rN i:Int):St:= {n:=22,sl:=[(0,.sl [.str] a),(1,.int .i64 rN),(5,.int .i64 i)],hp:=[],ok:=true,ls:=[],lm:=[]}
theorem UO:D9 Tryz.prog 92 xk:=by
 refine ra (A:=UK) nhm Tryz.func92 fun ds (hw:ka ([.sl [.str],.i]) ds) aJ=> ?_
 obtain⟨a,ds,rfl,qV,hw⟩:=og hw
 obtain⟨k,rfl,_⟩:=nw hw
 obtain⟨N,hN⟩:=nhl Vm.kd UM a k qV aJ
 exact⟨N,eL (fun l_=>OD Vm.kd UM l_ a k) (To (LQ Tryz.prog UL UK N Tryz.f92 xk [true,false,true,false] []) (nfk a) _ N) hN⟩
def OG:Sum:= {ps:=[⟨[.sl [.i,.i,.i,.i,.i,.i,.str,.bool]],false⟩,⟨[.i],false⟩],rs:=[⟨[.d_ .i],false⟩],fn:=fun ds=>(OZ 8 (rR ds 0) (rI ds 1),[.int (OX (rR ds 0) (rI ds 1)).1]++[.sl (OX (rR ds 0) (rI ds 1)).2]),ms:=[some (.rows [.flat 232]),none]}
def UU:Ctx:=[(176,tR)]
theorem nht:bE Tryz.prog UU:=Ie vI JB
def UT:List (Nat×lB):=[(2, {bZ:=[(0,.mK),(1,.mK),(5,.mK)],boxes:=[]})]
def UW:Int→Rows→kK:=(fun r0 r1=>((true,[.int r0]++[.sl r1]):kK))
def nfv (rN i:Int) (Nj:Rows):St:= {n:=1099511627853,sl:=[(0,.own 640000),(1,.int .i64 rN),(5,.int .i64 i)],hp:=[(640000,.row 232 [.i,.i,.i,.i,.i,.i,.str,.bool] Nj false true)],ok:=true,ls:=[],lm:=[]}
theorem nhs:Cl Tryz.prog 80 OG:=by
 refine Nq (A:=UT) nht Tryz.func80 fun ds (hw:ka ([.sl [.i,.i,.i,.i,.i,.i,.str,.bool],.i]) ds) aJ=> ?_
 obtain⟨a,ds,rfl,qV,hw⟩:=og hw
 obtain⟨k,rfl,_⟩:=nw hw
 obtain⟨N,hN⟩:=nhr Vm.kd UW a k qV aJ
 have e0:(fun rN i Nj=>LR (Lj Tryz.prog UU UT N Tryz.f80 OG [true,false,true,false] []) N (nfv rN i Nj))=(ns7 Vn Vm.kd UW N N):=nL3 _ _ _ N
 refine⟨N,Eq.trans ?_ (hN.trans (by kernel_rfl))⟩
 unfold nmf
 rw[←e0]
 kernel_rfl
def OC:Sum:= {ps:=[⟨[.sl [.i,.i,.i,.i,.i,.i,.str,.bool]],false⟩,⟨[.i],false⟩],rs:=[⟨[.d_ .i],false⟩],fn:=fun ds=>(Qk Pf 8 (rR ds 0) (rI ds 1),[.int (RO (rR ds 0) (rI ds 1))])}
def UI:Ctx:=[(176,tR)]
theorem nhk:bE Tryz.prog UI:=Ie vI JB
def UH:List (Nat×lB):=[(2, {bZ:=[(0,.mK),(1,.mK),(5,.mK)],boxes:=[]})]
def UJ:Int→kK:=(fun r0=>((true,[.int r0]):kK))
def nfj (a:Rows) (rN i:Int):St:= {n:=93,sl:=[(0,.sl [.i,.i,.i,.i,.i,.i,.str,.bool] a),(1,.int .i64 rN),(5,.int .i64 i)],hp:=[],ok:=true,ls:=[],lm:=[]}
theorem nhj:D9 Tryz.prog 91 OC:=by
 refine ra (A:=UH) nhk Tryz.func91 fun ds (hw:ka ([.sl [.i,.i,.i,.i,.i,.i,.str,.bool],.i]) ds) aJ=> ?_
 obtain⟨a,ds,rfl,qV,hw⟩:=og hw
 obtain⟨k,rfl,_⟩:=nw hw
 obtain⟨N,hN⟩:=nhi Vm.kd UJ a k qV aJ
 have e0:(fun rN i=>LR (LQ Tryz.prog UI UH N Tryz.f91 OC [true,false,true,false] []) N (nfj a rN i))=(nse Vn Vm.kd UJ N a N):=To _ _ _ N
 refine⟨N,Eq.trans ?_ (hN.trans (by kernel_rfl))⟩
 unfold nkz
 rw[←e0]
 kernel_rfl
def Nm:Sum:= {ps:=[⟨[.sl [.i,.i,.i,.bool]],false⟩,⟨[.i],false⟩],rs:=[⟨[.d_ .i],false⟩],fn:=fun ds=>(OZ 4 (rR ds 0) (rI ds 1),[.int (zN (rR ds 0) (rI ds 1)).1]++[.sl (zN (rR ds 0) (rI ds 1)).2]),ms:=[some (.rows [.flat 113]),none]}
def Te:List (Nat×lB):=[(2, {bZ:=[(0,.mK),(1,.mK),(5,.mK)],boxes:=[]})]
def Tf:Int→Rows→kK:=(fun r0 r1=>((true,[.int r0]++[.sl r1]):kK))
def ndw (rN i:Int) (Nj:Rows):St:= {n:=1099511627819,sl:=[(0,.own 640000),(1,.int .i64 rN),(5,.int .i64 i)],hp:=[(640000,.row 113 [.i,.i,.i,.bool] Nj false true)],ok:=true,ls:=[],lm:=[]}
theorem nfn:Cl Tryz.prog 74 Nm:=by
 refine Nq (A:=Te) JB Tryz.func74 fun ds (hw:ka ([.sl [.i,.i,.i,.bool],.i]) ds) aJ=> ?_
 obtain⟨a,ds,rfl,qV,hw⟩:=og hw
 obtain⟨k,rfl,_⟩:=nw hw
 obtain⟨N,hN⟩:=nfm Vm.kd Tf a k qV aJ
 have e0:(fun rN i Nj=>LR (Lj Tryz.prog [] Te N Tryz.f74 Nm [true,false,true,false] []) N (ndw rN i Nj))=(ns7 Rb Vm.kd Tf N N):=nL3 _ _ _ N
 refine⟨N,Eq.trans ?_ (hN.trans (by kernel_rfl))⟩
 unfold nmf
 rw[←e0]
 kernel_rfl
def Nk:Sum:= {ps:=[⟨[.sl [.i,.i,.i,.bool]],false⟩,⟨[.i],false⟩],rs:=[⟨[.d_ .i],false⟩],fn:=fun ds=>(Qk zi 4 (rR ds 0) (rI ds 1),[.int (Pm (rR ds 0) (rI ds 1))])}
def S6:List (Nat×lB):=[(2, {bZ:=[(0,.mK),(1,.mK),(5,.mK)],boxes:=[]})]
def S7:Int→kK:=(fun r0=>((true,[.int r0]):kK))
def ndq (a:Rows) (rN i:Int):St:= {n:=51,sl:=[(0,.sl [.i,.i,.i,.bool] a),(1,.int .i64 rN),(5,.int .i64 i)],hp:=[],ok:=true,ls:=[],lm:=[]}
theorem nfd:D9 Tryz.prog 83 Nk:=by
 refine ra (A:=S6) JB Tryz.func83 fun ds (hw:ka ([.sl [.i,.i,.i,.bool],.i]) ds) aJ=> ?_
 obtain⟨a,ds,rfl,qV,hw⟩:=og hw
 obtain⟨k,rfl,_⟩:=nw hw
 obtain⟨N,hN⟩:=nfc Vm.kd S7 a k qV aJ
 have e0:(fun rN i=>LR (LQ Tryz.prog [] S6 N Tryz.f83 Nk [true,false,true,false] []) N (ndq a rN i))=(nse Rb Vm.kd S7 N a N):=To _ _ _ N
 refine⟨N,Eq.trans ?_ (hN.trans (by kernel_rfl))⟩
 unfold nkz
 rw[←e0]
 kernel_rfl
def QP:Sum:= {ps:=[⟨[.sl [.i,.i,.i,.i,.i,.i,.i,.i,.i]],false⟩,⟨[.i],false⟩],rs:=[⟨[.d_ .i],false⟩],fn:=fun ds=>(OZ 9 (rR ds 0) (rI ds 1),[.int (OW (rR ds 0) (rI ds 1)).1]++[.sl (OW (rR ds 0) (rI ds 1)).2]),ms:=[some (.rows [.flat 197]),none]}
def Ze:List (Nat×lB):=[(2, {bZ:=[(0,.mK),(1,.mK),(5,.mK)],boxes:=[]})]
def Zf:Int→Rows→kK:=(fun r0 r1=>((true,[.int r0]++[.sl r1]):kK))
def njq (rN i:Int) (Nj:Rows):St:= {n:=1099511627852,sl:=[(0,.own 640000),(1,.int .i64 rN),(5,.int .i64 i)],hp:=[(640000,.row 197 [.i,.i,.i,.i,.i,.i,.i,.i,.i] Nj false true)],ok:=true,ls:=[],lm:=[]}
theorem nlC:Cl Tryz.prog 70 QP:=by
 refine Nq (A:=Ze) JB Tryz.func70 fun ds (hw:ka ([.sl [.i,.i,.i,.i,.i,.i,.i,.i,.i],.i]) ds) aJ=> ?_
 obtain⟨a,ds,rfl,qV,hw⟩:=og hw
 obtain⟨k,rfl,_⟩:=nw hw
 obtain⟨N,hN⟩:=nlB Vm.kd Zf a k qV aJ
 have e0:(fun rN i Nj=>LR (Lj Tryz.prog [] Ze N Tryz.f70 QP [true,false,true,false] []) N (njq rN i Nj))=(ns7 nhM Vm.kd Zf N N):=nL3 _ _ _ N
 refine⟨N,Eq.trans ?_ (hN.trans (by kernel_rfl))⟩
 unfold nmf
 rw[←e0]
 kernel_rfl
def QH:Sum:= {ps:=[⟨[.sl [.i,.i,.i,.i,.i,.i,.i,.i,.i]],false⟩,⟨[.i],false⟩],rs:=[⟨[.d_ .i],false⟩],fn:=fun ds=>(Qk nad 9 (rR ds 0) (rI ds 1),[.int (Qu (rR ds 0) (rI ds 1))])}
def Y0:List (Nat×lB):=[(2, {bZ:=[(0,.mK),(1,.mK),(5,.mK)],boxes:=[]})]
def Y1:Int→kK:=(fun r0=>((true,[.int r0]):kK))
def njb (a:Rows) (rN i:Int):St:= {n:=94,sl:=[(0,.sl [.i,.i,.i,.i,.i,.i,.i,.i,.i] a),(1,.int .i64 rN),(5,.int .i64 i)],hp:=[],ok:=true,ls:=[],lm:=[]}
theorem nlp:D9 Tryz.prog 179 QH:=by
 refine ra (A:=Y0) JB Tryz.func179 fun ds (hw:ka ([.sl [.i,.i,.i,.i,.i,.i,.i,.i,.i],.i]) ds) aJ=> ?_
 obtain⟨a,ds,rfl,qV,hw⟩:=og hw
 obtain⟨k,rfl,_⟩:=nw hw
 obtain⟨N,hN⟩:=nlo Vm.kd Y1 a k qV aJ
 have e0:(fun rN i=>LR (LQ Tryz.prog [] Y0 N Tryz.f179 QH [true,false,true,false] []) N (njb a rN i))=(nse nhM Vm.kd Y1 N a N):=To _ _ _ N
 refine⟨N,Eq.trans ?_ (hN.trans (by kernel_rfl))⟩
 unfold nkz
 rw[←e0]
 kernel_rfl
def OI:Sum:= {ps:=[⟨[.sl [.i,.i,.i,.i,.bool,.bool]],false⟩,⟨[.i],false⟩],rs:=[⟨[.d_ .i],false⟩],fn:=fun ds=>(OZ 6 (rR ds 0) (rI ds 1),[.int (OY (rR ds 0) (rI ds 1)).1]++[.sl (OY (rR ds 0) (rI ds 1)).2]),ms:=[some (.rows [.flat 102]),none]}
def U4:List (Nat×lB):=[(2, {bZ:=[(0,.mK),(1,.mK),(5,.mK)],boxes:=[]})]
def U5:Int→Rows→kK:=(fun r0 r1=>((true,[.int r0]++[.sl r1]):kK))
def nfx (rN i:Int) (Nj:Rows):St:= {n:=1099511627835,sl:=[(0,.own 640000),(1,.int .i64 rN),(5,.int .i64 i)],hp:=[(640000,.row 102 [.i,.i,.i,.i,.bool,.bool] Nj false true)],ok:=true,ls:=[],lm:=[]}
theorem nhB:Cl Tryz.prog 78 OI:=by
 refine Nq (A:=U4) JB Tryz.func78 fun ds (hw:ka ([.sl [.i,.i,.i,.i,.bool,.bool],.i]) ds) aJ=> ?_
 obtain⟨a,ds,rfl,qV,hw⟩:=og hw
 obtain⟨k,rfl,_⟩:=nw hw
 obtain⟨N,hN⟩:=nhA Vm.kd U5 a k qV aJ
 have e0:(fun rN i Nj=>LR (Lj Tryz.prog [] U4 N Tryz.f78 OI [true,false,true,false] []) N (nfx rN i Nj))=(ns7 Vo Vm.kd U5 N N):=nL3 _ _ _ N
 refine⟨N,Eq.trans ?_ (hN.trans (by kernel_rfl))⟩
 unfold nmf
 rw[←e0]
 kernel_rfl
def OE:Sum:= {ps:=[⟨[.sl [.i,.i,.i,.i,.bool,.bool]],false⟩,⟨[.i],false⟩],rs:=[⟨[.d_ .i],false⟩],fn:=fun ds=>(Qk Pg 6 (rR ds 0) (rI ds 1),[.int (RQ (rR ds 0) (rI ds 1))])}
def UQ:List (Nat×lB):=[(2, {bZ:=[(0,.mK),(1,.mK),(5,.mK)],boxes:=[]})]
def UR:Int→kK:=(fun r0=>((true,[.int r0]):kK))
def nfl (a:Rows) (rN i:Int):St:= {n:=71,sl:=[(0,.sl [.i,.i,.i,.i,.bool,.bool] a),(1,.int .i64 rN),(5,.int .i64 i)],hp:=[],ok:=true,ls:=[],lm:=[]}
theorem nhq:D9 Tryz.prog 87 OE:=by
 refine ra (A:=UQ) JB Tryz.func87 fun ds (hw:ka ([.sl [.i,.i,.i,.i,.bool,.bool],.i]) ds) aJ=> ?_
 obtain⟨a,ds,rfl,qV,hw⟩:=og hw
 obtain⟨k,rfl,_⟩:=nw hw
 obtain⟨N,hN⟩:=nhp Vm.kd UR a k qV aJ
 have e0:(fun rN i=>LR (LQ Tryz.prog [] UQ N Tryz.f87 OE [true,false,true,false] []) N (nfl a rN i))=(nse Vo Vm.kd UR N a N):=To _ _ _ N
 refine⟨N,Eq.trans ?_ (hN.trans (by kernel_rfl))⟩
 unfold nkz
 rw[←e0]
 kernel_rfl
def Nn:Sum:= {ps:=[⟨[.sl [.i,.i,.i,.i,.i,.i,.i,.i,.i,.i,.i,.i,.i,.i,.i,.i,.i,.i,.i,.i,.i,.i,.i,.i,.i,.str,.i,.i,.bool,.i]],false⟩,⟨[.i],false⟩],rs:=[⟨[.d_ .i],false⟩],fn:=fun ds=>(OZ 30 (rR ds 0) (rI ds 1),[.int (zP (rR ds 0) (rI ds 1)).1]++[.sl (zP (rR ds 0) (rI ds 1)).2]),ms:=[some (.rows [.flat 123]),none]}
def Ti:Ctx:=[(176,tR)]
theorem nfq:bE Tryz.prog Ti:=Ie vI JB
def Th:List (Nat×lB):=[(2, {bZ:=[(0,.mK),(1,.mK),(5,.mK)],boxes:=[]})]
def Tj:Int→Rows→kK:=(fun r0 r1=>((true,[.int r0]++[.sl r1]):kK))
def ndx (rN i:Int) (Nj:Rows):St:= {n:=1099511628054,sl:=[(0,.own 640000),(1,.int .i64 rN),(5,.int .i64 i)],hp:=[(640000,.row 123 [.i,.i,.i,.i,.i,.i,.i,.i,.i,.i,.i,.i,.i,.i,.i,.i,.i,.i,.i,.i,.i,.i,.i,.i,.i,.str,.i,.i,.bool,.i] Nj false true)],ok:=true,ls:=[],lm:=[]}
theorem nfp:Cl Tryz.prog 76 Nn:=by
 refine Nq (A:=Th) nfq Tryz.func76 fun ds (hw:ka ([.sl [.i,.i,.i,.i,.i,.i,.i,.i,.i,.i,.i,.i,.i,.i,.i,.i,.i,.i,.i,.i,.i,.i,.i,.i,.i,.str,.i,.i,.bool,.i],.i]) ds) aJ=> ?_
 obtain⟨a,ds,rfl,qV,hw⟩:=og hw
 obtain⟨k,rfl,_⟩:=nw hw
 obtain⟨N,hN⟩:=nfo Vm.kd Tj a k qV aJ
 have e0:(fun rN i Nj=>LR (Lj Tryz.prog Ti Th N Tryz.f76 Nn [true,false,true,false] []) N (ndx rN i Nj))=(ns7 Rc Vm.kd Tj N N):=nL3 _ _ _ N
 refine⟨N,Eq.trans ?_ (hN.trans (by kernel_rfl))⟩
 unfold nmf
 rw[←e0]
 kernel_rfl
def Nl:Sum:= {ps:=[⟨[.sl [.i,.i,.i,.i,.i,.i,.i,.i,.i,.i,.i,.i,.i,.i,.i,.i,.i,.i,.i,.i,.i,.i,.i,.i,.i,.str,.i,.i,.bool,.i]],false⟩,⟨[.i],false⟩],rs:=[⟨[.d_ .i],false⟩],fn:=fun ds=>(Qk zj 30 (rR ds 0) (rI ds 1),[.int (Pn (rR ds 0) (rI ds 1))])}
def S_:Ctx:=[(176,tR)]
theorem nfg:bE Tryz.prog S_:=Ie vI JB
def S9:List (Nat×lB):=[(2, {bZ:=[(0,.mK),(1,.mK),(5,.mK)],boxes:=[]})]
def Ta:Int→kK:=(fun r0=>((true,[.int r0]):kK))
def ndr (a:Rows) (rN i:Int):St:= {n:=338,sl:=[(0,.sl [.i,.i,.i,.i,.i,.i,.i,.i,.i,.i,.i,.i,.i,.i,.i,.i,.i,.i,.i,.i,.i,.i,.i,.i,.i,.str,.i,.i,.bool,.i] a),(1,.int .i64 rN),(5,.int .i64 i)],hp:=[],ok:=true,ls:=[],lm:=[]}
theorem nff:D9 Tryz.prog 85 Nl:=by
 refine ra (A:=S9) nfg Tryz.func85 fun ds (hw:ka ([.sl [.i,.i,.i,.i,.i,.i,.i,.i,.i,.i,.i,.i,.i,.i,.i,.i,.i,.i,.i,.i,.i,.i,.i,.i,.i,.str,.i,.i,.bool,.i],.i]) ds) aJ=> ?_
 obtain⟨a,ds,rfl,qV,hw⟩:=og hw
 obtain⟨k,rfl,_⟩:=nw hw
 obtain⟨N,hN⟩:=nfe Vm.kd Ta a k qV aJ
 have e0:(fun rN i=>LR (LQ Tryz.prog S_ S9 N Tryz.f85 Nl [true,false,true,false] []) N (ndr a rN i))=(nse Rc Vm.kd Ta N a N):=To _ _ _ N
 refine⟨N,Eq.trans ?_ (hN.trans (by kernel_rfl))⟩
 unfold nkz
 rw[←e0]
 kernel_rfl
def QS:Sum:= {ps:=[⟨[.sl [.i,.i,.i,.i,.i,.i,.i]],false⟩,⟨[.i],false⟩],rs:=[⟨[.d_ .i],false⟩],fn:=fun ds=>(OZ 7 (rR ds 0) (rI ds 1),[.int (Ra (rR ds 0) (rI ds 1)).1]++[.sl (Ra (rR ds 0) (rI ds 1)).2]),ms:=[some (.rows [.flat 201]),none]}
def Zk:List (Nat×lB):=[(2, {bZ:=[(0,.mK),(1,.mK),(5,.mK)],boxes:=[]})]
def Zl:Int→Rows→kK:=(fun r0 r1=>((true,[.int r0]++[.sl r1]):kK))
def njs (rN i:Int) (Nj:Rows):St:= {n:=1099511627843,sl:=[(0,.own 640000),(1,.int .i64 rN),(5,.int .i64 i)],hp:=[(640000,.row 201 [.i,.i,.i,.i,.i,.i,.i] Nj false true)],ok:=true,ls:=[],lm:=[]}
theorem nlH:Cl Tryz.prog 173 QS:=by
 refine Nq (A:=Zk) JB Tryz.func173 fun ds (hw:ka ([.sl [.i,.i,.i,.i,.i,.i,.i],.i]) ds) aJ=> ?_
 obtain⟨a,ds,rfl,qV,hw⟩:=og hw
 obtain⟨k,rfl,_⟩:=nw hw
 obtain⟨N,hN⟩:=nlG Vm.kd Zl a k qV aJ
 have e0:(fun rN i Nj=>LR (Lj Tryz.prog [] Zk N Tryz.f173 QS [true,false,true,false] []) N (njs rN i Nj))=(ns7 nhN Vm.kd Zl N N):=nL3 _ _ _ N
 refine⟨N,Eq.trans ?_ (hN.trans (by kernel_rfl))⟩
 unfold nmf
 rw[←e0]
 kernel_rfl
def QK:Sum:= {ps:=[⟨[.sl [.i,.i,.i,.i,.i,.i,.i]],false⟩,⟨[.i],false⟩],rs:=[⟨[.d_ .i],false⟩],fn:=fun ds=>(Qk nae 7 (rR ds 0) (rI ds 1),[.int (TF (rR ds 0) (rI ds 1))])}
def Y6:List (Nat×lB):=[(2, {bZ:=[(0,.mK),(1,.mK),(5,.mK)],boxes:=[]})]
def Y7:Int→kK:=(fun r0=>((true,[.int r0]):kK))
def njd (a:Rows) (rN i:Int):St:= {n:=81,sl:=[(0,.sl [.i,.i,.i,.i,.i,.i,.i] a),(1,.int .i64 rN),(5,.int .i64 i)],hp:=[],ok:=true,ls:=[],lm:=[]}
theorem nlu:D9 Tryz.prog 276 QK:=by
 refine ra (A:=Y6) JB Tryz.func276 fun ds (hw:ka ([.sl [.i,.i,.i,.i,.i,.i,.i],.i]) ds) aJ=> ?_
 obtain⟨a,ds,rfl,qV,hw⟩:=og hw
 obtain⟨k,rfl,_⟩:=nw hw
 obtain⟨N,hN⟩:=nlt Vm.kd Y7 a k qV aJ
 have e0:(fun rN i=>LR (LQ Tryz.prog [] Y6 N Tryz.f276 QK [true,false,true,false] []) N (njd a rN i))=(nse nhN Vm.kd Y7 N a N):=To _ _ _ N
 refine⟨N,Eq.trans ?_ (hN.trans (by kernel_rfl))⟩
 unfold nkz
 rw[←e0]
 kernel_rfl
def QN:Sum:= {ps:=[⟨[.sl [.i,.i,.i,.sl [.i]]],false⟩,⟨[.i],false⟩],rs:=[⟨[.d_ .i],false⟩],fn:=fun ds=>(yE sW Sc (rR ds 0) (rI ds 1),[.int (zO (rR ds 0) (rI ds 1)).1]++[.sl (zO (rR ds 0) (rI ds 1)).2]),ms:=[some (.rows [.deep 42 [3]]),none]}
def Zb:Ctx:=[(1125899906842661,J3),(69,tQ)]
theorem nlA:bE Tryz.prog Zb:=Ie Lq (Ie vH JB)
def Za:List (Nat×lB):=[(2, {bZ:=[(0,.mK),(1,.mK),(5,.mK)],boxes:=[]})]
def Zc:Int→Rows→kK:=(fun r0 r1=>((true,[.int r0]++[.sl r1]):kK))
def njp (rN i:Int) (Nj:Rows):St:= {n:=1099511627817,sl:=[(0,.own 640000),(1,.int .i64 rN),(5,.int .i64 i)],hp:=[(640000,.deep 42 [.i,.i,.i,.sl [.i]] [3] Nj none)],ok:=true,ls:=[],lm:=[]}
theorem nlz:Cl Tryz.prog 77 QN:=by
 refine Nq (A:=Za) nlA Tryz.func77 fun ds (hw:ka ([.sl [.i,.i,.i,.sl [.i]],.i]) ds) aJ=> ?_
 obtain⟨a,ds,rfl,qV,hw⟩:=og hw
 obtain⟨k,rfl,_⟩:=nw hw
 obtain⟨N,hN⟩:=nly Vm.kd Zc a k qV aJ
 exact⟨N,eL (fun l_=>QO Vm.kd Zc l_ a k) (nL3 (Lj Tryz.prog Zb Za N Tryz.f77 QN [true,false,true,false] []) (njp) _ N) hN⟩
def QF:Sum:= {ps:=[⟨[.sl [.i,.i,.i,.sl [.i]]],false⟩,⟨[.i],false⟩],rs:=[⟨[.d_ .i],false⟩],fn:=fun ds=>(neX (rR ds 0) (rI ds 1),[.int (X2 (rR ds 0) (rI ds 1))])}
def YX:Ctx:=[(93,tP)]
theorem nln:bE Tryz.prog YX:=Ie vG JB
def YW:List (Nat×lB):=[(2, {bZ:=[(0,.mK),(1,.mK),(5,.mK)],boxes:=[]})]
def YY:Int→kK:=(fun r0=>((true,[.int r0]):kK))
def nja (a:Rows) (rN i:Int):St:= {n:=49,sl:=[(0,.sl [.i,.i,.i,.sl [.i]] a),(1,.int .i64 rN),(5,.int .i64 i)],hp:=[],ok:=true,ls:=[],lm:=[]}
theorem nlm:D9 Tryz.prog 86 QF:=by
 refine ra (A:=YW) nln Tryz.func86 fun ds (hw:ka ([.sl [.i,.i,.i,.sl [.i]],.i]) ds) aJ=> ?_
 obtain⟨a,ds,rfl,qV,hw⟩:=og hw
 obtain⟨k,rfl,_⟩:=nw hw
 obtain⟨N,hN⟩:=nll Vm.kd YY a k qV aJ
 exact⟨N,eL (fun l_=>QG Vm.kd YY l_ a k) (To (LQ Tryz.prog YX YW N Tryz.f86 QF [true,false,true,false] []) (nja a) _ N) hN⟩
def QQ:Sum:= {ps:=[⟨[.sl [.i,.i,.sl [.i]]],false⟩,⟨[.i],false⟩],rs:=[⟨[.d_ .i],false⟩],fn:=fun ds=>(yE sX Sd (rR ds 0) (rI ds 1),[.int (zQ (rR ds 0) (rI ds 1)).1]++[.sl (zQ (rR ds 0) (rI ds 1)).2]),ms:=[some (.rows [.deep 304 [3]]),none]}
def Zh:Ctx:=[(1125899906842654,J3),(69,tQ)]
theorem nlF:bE Tryz.prog Zh:=Ie Lq (Ie vH JB)
def Zg:List (Nat×lB):=[(2, {bZ:=[(0,.mK),(1,.mK),(5,.mK)],boxes:=[]})]
def Zi:Int→Rows→kK:=(fun r0 r1=>((true,[.int r0]++[.sl r1]):kK))
def njr (rN i:Int) (Nj:Rows):St:= {n:=1099511627810,sl:=[(0,.own 640000),(1,.int .i64 rN),(5,.int .i64 i)],hp:=[(640000,.deep 304 [.i,.i,.sl [.i]] [3] Nj none)],ok:=true,ls:=[],lm:=[]}
theorem nlE:Cl Tryz.prog 175 QQ:=by
 refine Nq (A:=Zg) nlF Tryz.func175 fun ds (hw:ka ([.sl [.i,.i,.sl [.i]],.i]) ds) aJ=> ?_
 obtain⟨a,ds,rfl,qV,hw⟩:=og hw
 obtain⟨k,rfl,_⟩:=nw hw
 obtain⟨N,hN⟩:=nlD Vm.kd Zi a k qV aJ
 exact⟨N,eL (fun l_=>QR Vm.kd Zi l_ a k) (nL3 (Lj Tryz.prog Zh Zg N Tryz.f175 QQ [true,false,true,false] []) (njr) _ N) hN⟩
def QI:Sum:= {ps:=[⟨[.sl [.i,.i,.sl [.i]]],false⟩,⟨[.i],false⟩],rs:=[⟨[.d_ .i],false⟩],fn:=fun ds=>(neY (rR ds 0) (rI ds 1),[.int (X3 (rR ds 0) (rI ds 1))])}
def Y3:Ctx:=[(93,tP)]
theorem nls:bE Tryz.prog Y3:=Ie vG JB
def Y2:List (Nat×lB):=[(2, {bZ:=[(0,.mK),(1,.mK),(5,.mK)],boxes:=[]})]
def Y4:Int→kK:=(fun r0=>((true,[.int r0]):kK))
def njc (a:Rows) (rN i:Int):St:= {n:=40,sl:=[(0,.sl [.i,.i,.sl [.i]] a),(1,.int .i64 rN),(5,.int .i64 i)],hp:=[],ok:=true,ls:=[],lm:=[]}
theorem nlr:D9 Tryz.prog 178 QI:=by
 refine ra (A:=Y2) nls Tryz.func178 fun ds (hw:ka ([.sl [.i,.i,.sl [.i]],.i]) ds) aJ=> ?_
 obtain⟨a,ds,rfl,qV,hw⟩:=og hw
 obtain⟨k,rfl,_⟩:=nw hw
 obtain⟨N,hN⟩:=nlq Vm.kd Y4 a k qV aJ
 exact⟨N,eL (fun l_=>QJ Vm.kd Y4 l_ a k) (To (LQ Tryz.prog Y3 Y2 N Tryz.f178 QI [true,false,true,false] []) (njc a) _ N) hN⟩
def nH:Sum:= {ps:=[⟨[.i],false⟩,⟨[.i],false⟩,⟨[.i],false⟩],rs:=[⟨[.d_ .bool],false⟩],fn:=fun ds=>(true,[.bool (nj (rI ds 0) (rI ds 1) (rI ds 2))])}
theorem oQ:D9 Tryz.prog 46 nH:=by
 refine nN JB Tryz.func46 fun ds (hw:ka ([.i,.i,.i]) ds) _=> ?_
 obtain⟨n,ds,rfl,_,hw⟩:=n8 hw
 obtain⟨low,ds,rfl,_,hw⟩:=n8 hw
 obtain⟨high,rfl,_⟩:=nw hw
 exact⟨0,eT (nc6 (fun r0=>((true,[.bool r0]):kK)) n low high)⟩
theorem pM:D9 Tryz.prog 33 nH:=by
 refine nN JB Tryz.func33 fun ds (hw:ka ([.i,.i,.i]) ds) _=> ?_
 obtain⟨x,ds,rfl,_,hw⟩:=n8 hw
 obtain⟨least,ds,rfl,_,hw⟩:=n8 hw
 obtain⟨most,rfl,_⟩:=nw hw
 exact⟨0,eT (nc6 (fun r0=>((true,[.bool r0]):kK)) x least most)⟩
def vx:Sum:= {ps:=[⟨nB.ct,true⟩],rs:=[⟨[.d_ .bool],false⟩],fn:=fun ds=>(true,[.bool (vL (nB.nd ds 0))])}
def naC:Ctx:=[(46,nH)]
theorem nnp:bE Tryz.prog naC:=Ie oQ JB
def naB:List (Nat×lB):=[(2, {bZ:=[(1,.mK),(6,.mK),(7,.mK),(8,.mK)],boxes:=[(64,[])]})]
def naD:Bool→kK:=(fun r0=>((true,[.bool r0]):kK))
def nkA (x:Rows) (oA oO xR:Int) (Sb:Bool) (wz:Rows):St:= {n:=40,sl:=[(1,.ptr 64 0),(6,.sl [.i] x),(7,.int .i64 oA),(8,.int .i64 oO)],hp:=[(64,.box 50 [.int .i64 xR,.bool Sb,.sl [.i] wz])],ok:=true,ls:=[],lm:=[]}
theorem nno:D9 Tryz.prog 47 vx:=by
 refine ra (A:=naB) nnp Tryz.func47 fun ds (hw:ka (nB.ct++[]) ds) _=> ?_
 obtain⟨f,ds,rfl,h_f,hw⟩:=nB.nz (r:=_) hw
 obtain rfl:=nr hw
 obtain⟨N,hN⟩:=nnn Vm.kd naD f h_f
 exact⟨N,eL (fun l_=>Sg Vm.kd naD l_ f) (funext fun x=>funext fun oA=>funext fun xR=>funext fun wz=>nL1 (LQ Tryz.prog naC naB N Tryz.f47 vx [true,false,true,false] []) (fun oO=>nkA x oA oO xR f.nU wz) _ N) hN⟩
def nb8:Ctx:=[(33,nH)]
theorem npb:bE Tryz.prog nb8:=Ie pM JB
def nb7:List (Nat×lB):=[(2, {bZ:=[(1,.mK),(3,.mK)],boxes:=[(64,[])]})]
def nb9:Bool→kK:=(fun r0=>((true,[.bool r0]):kK))
def nmm (k xR:Int) (Sb:Bool) (wz:Rows):St:= {n:=45,sl:=[(1,.ptr 64 0),(3,.int .i64 k)],hp:=[(64,.box 50 [.int .i64 xR,.bool Sb,.sl [.i] wz])],ok:=true,ls:=[],lm:=[]}
theorem npa:D9 Tryz.prog 34 vx:=by
 refine ra (A:=nb7) npb Tryz.func34 fun ds (hw:ka (nB.ct++[]) ds) _=> ?_
 obtain⟨f,ds,rfl,h_f,hw⟩:=nB.nz (r:=_) hw
 obtain rfl:=nr hw
 obtain⟨N,hN⟩:=no_ Vm.kd nb9 f h_f
 exact⟨N,eL (fun l_=>SD Vm.kd nb9 l_ f) (funext fun xR=>funext fun wz=>nL1 (LQ Tryz.prog nb8 nb7 N Tryz.f34 vx [true,false,true,false] []) (fun k=>nmm k xR f.nU wz) _ N) hN⟩
def uT:Sum:= {ps:=[⟨nF.ct,true⟩],rs:=[⟨[.d_ .bool],false⟩],fn:=fun ds=>(true,[.bool (tJ (nF.nd ds 0))])}
theorem Yj:D9 Tryz.prog 319 uT:=by
 refine nN (Γ:=[(46,nH)]) (Ie oQ JB) Tryz.func319 fun ds (hw:ka (nF.ct++[]) ds) _=> ?_
 obtain⟨g,ds,rfl,_,hw⟩:=nF.nz (r:=_) hw
 obtain rfl:=nr hw
 exact⟨0,eT (nkO (fun r0=>((true,[.bool r0]):kK)) g)⟩
theorem Z0:D9 Tryz.prog 311 uT:=by
 refine nN (Γ:=[(33,nH)]) (Ie pM JB) Tryz.func311 fun ds (hw:ka (nF.ct++[]) ds) _=> ?_
 obtain⟨g,ds,rfl,_,hw⟩:=nF.nz (r:=_) hw
 obtain rfl:=nr hw
 exact⟨0,eT (nmB (fun r0=>((true,[.bool r0]):kK)) g)⟩
def Yt:Sum:= {ps:=[⟨[.i],false⟩],rs:=[⟨[.d_ .bool],false⟩],fn:=fun ds=>(true,[.bool (TI (rI ds 0))])}
theorem nk2:D9 Tryz.prog 320 Yt:=by
 refine nN JB Tryz.func320 fun ds (hw:ka ([.i]) ds) _=> ?_
 obtain⟨flags,rfl,_⟩:=nw hw
 exact⟨0,eT (nk1 (fun r0=>((true,[.bool r0]):kK)) flags)⟩
def wT:Sum:= {ps:=[⟨nQ.ct,true⟩],rs:=[⟨[.d_ .bool],false⟩],fn:=fun ds=>(true,[.bool (NP (nQ.nd ds 0))])}
theorem nc3:D9 Tryz.prog 240 wT:=by
 refine nN (Γ:=[(46,nH),(319,uT),(320,Yt)]) (Ie oQ (Ie Yj (Ie nk2 JB))) Tryz.func240 fun ds (hw:ka (nQ.ct++[]) ds) _=> ?_
 obtain⟨p,ds,rfl,_,hw⟩:=nQ.nz (r:=_) hw
 obtain rfl:=nr hw
 exact⟨0,eT (nqe (fun r0=>((true,[.bool r0]):kK)) p)⟩
theorem nef:D9 Tryz.prog 228 wT:=by
 refine nN (Γ:=[(33,nH),(311,uT)]) (Ie pM (Ie Z0 JB)) Tryz.func228 fun ds (hw:ka (nQ.ct++[]) ds) _=> ?_
 obtain⟨p,ds,rfl,_,hw⟩:=nQ.nz (r:=_) hw
 obtain rfl:=nr hw
 exact⟨0,eT (nrH (fun r0=>((true,[.bool r0]):kK)) p)⟩
def xj:Sum:= {ps:=[⟨[.sl [.i,.i,.i,.bool]],false⟩,⟨[.i],false⟩,⟨[.i],false⟩],rs:=[⟨[.d_ .i],false⟩],fn:=fun ds=>(true,[.int (tT (rR ds 0) (rI ds 1) (rI ds 2))])}
def Up:List (Nat×lB):=[(2, {bZ:=[(1,.mK),(2,.mK),(9,.mK),(10,.mK),(11,.mK)],boxes:=[]})]
def Uq:Int→kK:=(fun r0=>((true,[.int r0]):kK))
def nfb (domain pr:Int) (nc:Rows) (oA oO:Int):St:= {n:=28,sl:=[(1,.int .i64 domain),(2,.int .i64 pr),(9,.sl [.i,.i,.i,.bool] nc),(10,.int .i64 oA),(11,.int .i64 oO)],hp:=[],ok:=true,ls:=[],lm:=[]}
theorem Us:D9 Tryz.prog 291 xj:=by
 refine ra (A:=Up) JB Tryz.func291 fun ds (hw:ka ([.sl [.i,.i,.i,.bool],.i,.i]) ds) _=> ?_
 obtain⟨nc,ds,rfl,rF,hw⟩:=og hw
 obtain⟨domain,ds,rfl,_,hw⟩:=n8 hw
 obtain⟨pr,rfl,_⟩:=nw hw
 obtain⟨N,hN⟩:=ng8 Vm.kd Uq nc domain pr rF
 exact⟨N,eL (fun l_=>OB Vm.kd Uq l_ nc domain pr) (funext fun oA=>nL1 (LQ Tryz.prog [] Up N Tryz.f291 xj [true,false,true,false] []) (nfb domain pr nc oA) _ N) hN⟩
def sr:Sum:= {ps:=[⟨[.sl [.i,.i,.i,.bool]],false⟩],rs:=[⟨[.d_ .bool],false⟩],fn:=fun ds=>(true,[.bool (pO (rR ds 0))])}
def V6:Ctx:=[(46,nH),(291,xj)]
theorem niz:bE Tryz.prog V6:=Ie oQ (Ie Us JB)
def V5:List (Nat×lB):=[(2, {bZ:=[(0,.mK),(5,.mK),(6,.mK),(7,.mK)],boxes:=[]})]
def V7:Bool→kK:=(fun r0=>((true,[.bool r0]):kK))
def ngS (nc x:Rows) (oA oO:Int):St:= {n:=42,sl:=[(0,.sl [.i,.i,.i,.bool] nc),(5,.sl [.i,.i,.i,.bool] x),(6,.int .i64 oA),(7,.int .i64 oO)],hp:=[],ok:=true,ls:=[],lm:=[]}
theorem V9:D9 Tryz.prog 209 sr:=by
 refine ra (A:=V5) niz Tryz.func209 fun ds (hw:ka ([.sl [.i,.i,.i,.bool]]) ds) _=> ?_
 obtain⟨nc,rfl,rF⟩:=qm hw
 obtain⟨N,hN⟩:=niy Vm.kd V7 nc rF
 exact⟨N,eL (fun l_=>Pu Vm.kd V7 l_ nc) (funext fun x=>funext fun oA=>nL1 (LQ Tryz.prog V6 V5 N Tryz.f209 sr [true,false,true,false] []) (ngS nc x oA) _ N) hN⟩
def Qb:Ctx:=[(33,nH)]
theorem nkc:bE Tryz.prog Qb:=Ie pM JB
def Qa:List (Nat×lB):=[(4, {bZ:=[(0,.mK),(3,.mK)],boxes:=[]}),(10, {bZ:=[(0,.mK),(3,.mK),(4,.mK),(5,.mK)],boxes:=[(256,[])]})]
def we:Bool→kK:=(fun r0=>((true,[.bool r0]):kK))
def vk (nc:Rows) (k:Int):St:= {n:=58,sl:=[(0,.sl [.i,.i,.i,.bool] nc),(3,.int .i64 k)],hp:=[],ok:=true,ls:=[],lm:=[]}
def xw (nc:Rows) (k i x oA oO:Int) (x_3:Bool):St:= {n:=58,sl:=[(0,.sl [.i,.i,.i,.bool] nc),(3,.int .i64 k),(4,.ptr 256 0),(5,.int .i64 i)],hp:=[(256,.box 113 [.int .i64 x,.int .i64 oA,.int .i64 oO,.bool x_3])],ok:=true,ls:=[],lm:=[]}
noncomputable def xv (N:Nat) (o0:St→kK):(St→kK)→St→kK:=LQ Tryz.prog Qb Qa N Tryz.f190 sr [true,true,false,true,false,false,true,false,false,true,true,true,false] [o0]
noncomputable def xu (N:Nat):(St→kK)→St→kK:=LQ Tryz.prog Qb Qa N Tryz.f190 sr [true,true,false,true,false] []
theorem nhT (N:Nat) (o0:St→kK) (nc:Rows) (k x oA oO:Int) (x_3:Bool) (ih:St→kK) (i:Int):xv N o0 ih (xw nc k i x oA oO x_3)=vj Vm.kd we (fun k=>o0 (vk nc k)) nc k x oA (fun i=>ih (xw nc k i x oA oO x_3)) i:=by kernel_rfl
theorem nhV (N:Nat) (o0:St→kK) (nc:Rows) (k x oA oO:Int) (x_3:Bool) (m_:Nat):(fun i=>LR (xv N o0) m_ (xw nc k i x oA oO x_3))=rJ Vm.kd we N (fun k=>o0 (vk nc k)) nc k x oA m_:=by
 induction m_ with
 | zero=>rfl
 | succ m_ ih=>
  funext i
  refine (nhT N o0 nc k x oA oO x_3 (LR (xv N o0) m_) i).trans ?_
  rw[ih]
  rfl
theorem nhS (N:Nat) (nc:Rows) (ih:St→kK) (k:Int):xu N ih (vk nc k)=vi Vm.kd we (fun k x oA i=>LR (xv N ih) N (xw nc k i x oA (rI (nth nc (Int.toNat k)) 2) (rB (nth nc (Int.toNat k)) 3))) nc (fun k=>ih (vk nc k)) k:=by kernel_rfl
theorem nhU (N:Nat) (nc:Rows) (m_:Nat):(fun k=>LR (xu N) m_ (vk nc k))=t6 Vm.kd we N nc m_:=by
 induction m_ with
 | zero=>rfl
 | succ m_ ih=>
  funext k
  refine (nhS N nc (LR (xu N) m_) k).trans ?_
  have e1:=funext fun k=>funext fun x=>funext fun oA=>nhV N (LR (xu N) m_) nc k x oA (rI (nth nc (Int.toNat k)) 2) (rB (nth nc (Int.toNat k)) 3) N
  rw[e1]
  rw[ih]
  rfl
theorem W1:D9 Tryz.prog 190 sr:=by
 refine ra (A:=Qa) nkc Tryz.func190 fun ds (hw:ka ([.sl [.i,.i,.i,.bool]]) ds) _=> ?_
 obtain⟨nc,rfl,rF⟩:=qm hw
 obtain⟨N,hN⟩:=nkb Vm.kd we nc rF
 refine⟨N,Eq.trans ?_ (hN.trans (by kernel_rfl))⟩
 unfold Qc
 rw[←nhU N nc N]
 kernel_rfl
def OA:Sum:= {ps:=[⟨[.sl [.str]],false⟩],rs:=[⟨[.own 9 [.str]],false⟩],fn:=fun ds=>(sm (rR ds 0),[.sl (oB (rR ds 0))])}
theorem Un:D9 Tryz.prog 207 OA:=by
 refine nN JB Tryz.func207 fun ds (hw:ka ([.sl [.str]]) ds) aJ=> ?_
 obtain⟨l,rfl,_⟩:=qm hw
 exact⟨0,eT (ng7 Vm.kd (fun r0=>((true,[.sl r0]):kK)) l aJ)⟩
def tB:Sum:= {ps:=[⟨na.ct,true⟩],rs:=[⟨[.own 9 [.str]],true⟩],fn:=fun ds=>(s_ (na.nd ds 0),na.enc (oB (na.nd ds 0)))}
theorem uq:D9 Tryz.prog 157 tB:=by
 refine nN (Γ:=[(207,OA)]) (Ie Un JB) Tryz.func157 fun ds (hw:ka (na.ct++[]) ds) aJ=> ?_
 obtain⟨m,ds,rfl,_,hw⟩:=na.nz (r:=_) hw
 obtain rfl:=nr hw
 exact⟨0,eT (niK Vm.kd (fun r0=>((true,na.enc r0):kK)) m aJ)⟩
def sO:Sum:= {ps:=[⟨na.ct,true⟩],rs:=[⟨[.d_ .bool],false⟩],fn:=fun ds=>(true,[.bool (qM (na.nd ds 0))])}
def naO:List (Nat×lB):=[(2, {bZ:=[(1,.mK),(6,.mK),(7,.mK),(8,.mK)],boxes:=[(64,[])]})]
def naP:Bool→kK:=(fun r0=>((true,[.bool r0]):kK))
def nkN (x:Rows) (oA oO:Int) (tg:Rows):St:= {n:=20,sl:=[(1,.ptr 64 0),(6,.sl [.str] x),(7,.int .i64 oA),(8,.int .i64 oO)],hp:=[(64,.box 37 [.sl [.str] tg])],ok:=true,ls:=[],lm:=[]}
theorem Si:D9 Tryz.prog 208 sO:=by
 refine ra (A:=naO) JB Tryz.func208 fun ds (hw:ka (na.ct++[]) ds) _=> ?_
 obtain⟨m,ds,rfl,TS,hw⟩:=na.nz (r:=_) hw
 obtain rfl:=nr hw
 obtain⟨N,hN⟩:=nnu Vm.kd naP m TS
 exact⟨N,eL (fun l_=>Sj Vm.kd naP l_ m) (funext fun x=>funext fun oA=>funext fun tg=>nL1 (LQ Tryz.prog [] naO N Tryz.f208 sO [true,false,true,false] []) (fun oO=>nkN x oA oO tg) _ N) hN⟩
def ncd:List (Nat×lB):=[(2, {bZ:=[(1,.mK),(3,.mK)],boxes:=[(64,[])]})]
def nce:Bool→kK:=(fun r0=>((true,[.bool r0]):kK))
def nmA (k:Int) (tg:Rows):St:= {n:=22,sl:=[(1,.ptr 64 0),(3,.int .i64 k)],hp:=[(64,.box 37 [.sl [.str] tg])],ok:=true,ls:=[],lm:=[]}
theorem SF:D9 Tryz.prog 189 sO:=by
 refine ra (A:=ncd) JB Tryz.func189 fun ds (hw:ka (na.ct++[]) ds) _=> ?_
 obtain⟨m,ds,rfl,TS,hw⟩:=na.nz (r:=_) hw
 obtain rfl:=nr hw
 obtain⟨N,hN⟩:=npg Vm.kd nce m TS
 exact⟨N,eL (fun l_=>SG Vm.kd nce l_ m) (funext fun tg=>nL1 (LQ Tryz.prog [] ncd N Tryz.f189 sO [true,false,true,false] []) (fun k=>nmA k tg) _ N) hN⟩
def tO:Sum:= {ps:=[⟨[.i],false⟩],rs:=[⟨[.d_ .bool],false⟩],fn:=fun ds=>(true,[.bool (vg (rI ds 0))])}
theorem Sq:D9 Tryz.prog 263 tO:=by
 refine nN JB Tryz.func263 fun ds (hw:ka ([.i]) ds) _=> ?_
 obtain⟨n,rfl,_⟩:=nw hw
 exact⟨0,eT (nbk (fun r0=>((true,[.bool r0]):kK)) n)⟩
theorem VJ:D9 Tryz.prog 326 tO:=by
 refine nN JB Tryz.func326 fun ds (hw:ka ([.i]) ds) _=> ?_
 obtain⟨n,rfl,_⟩:=nw hw
 exact⟨0,eT (nbk (fun r0=>((true,[.bool r0]):kK)) n)⟩
def zB:Sum:= {ps:=[⟨[.i],false⟩],rs:=[⟨[.d_ .bool],false⟩],fn:=fun ds=>(true,[.bool (Z8 (rI ds 0))])}
theorem nk3:D9 Tryz.prog 262 zB:=by
 refine nN JB Tryz.func262 fun ds (hw:ka ([.i]) ds) _=> ?_
 obtain⟨n,rfl,_⟩:=nw hw
 exact⟨0,eT (Yv (fun r0=>((true,[.bool r0]):kK)) n)⟩
theorem nrN:D9 Tryz.prog 251 zB:=by
 refine nN JB Tryz.func251 fun ds (hw:ka ([.i]) ds) _=> ?_
 obtain⟨n,rfl,_⟩:=nw hw
 exact⟨0,eT (Yv (fun r0=>((true,[.bool r0]):kK)) n)⟩
def Ry:Sum:= {ps:=[⟨[.i],false⟩,⟨[.i],false⟩],rs:=[⟨[.d_ .i],false⟩],fn:=fun ds=>(zR (rI ds 0) (rI ds 1),[.int (XQ (rI ds 0) (rI ds 1))])}
theorem Xu:D9 Tryz.prog 214 Ry:=by
 refine nN JB Tryz.func214 fun ds (hw:ka ([.i,.i]) ds) aJ=> ?_
 obtain⟨x,ds,rfl,_,hw⟩:=n8 hw
 obtain⟨n,rfl,_⟩:=nw hw
 exact⟨0,eT (nsq Vm.kd (fun r0=>((true,[.int r0]):kK)) x n aJ)⟩
def vz:Sum:= {ps:=[⟨oc.ct,true⟩],rs:=[⟨[.d_ .i],false⟩],fn:=fun ds=>(true,[.int (yS (oc.nd ds 0))])}
theorem naW:D9 Tryz.prog 264 vz:=by
 refine nN (Γ:=[(214,Ry),(263,tO)]) (Ie Xu (Ie Sq JB)) Tryz.func264 fun ds (hw:ka (oc.ct++[]) ds) _=> ?_
 obtain⟨r,ds,rfl,h_r,hw⟩:=oc.nz (r:=_) hw
 obtain rfl:=nr hw
 exact⟨0,eT (nnw Vm.kd (fun r0=>((true,[.int r0]):kK)) r h_r)⟩
theorem nch:D9 Tryz.prog 280 vz:=by
 refine nN (Γ:=[(326,tO)]) (Ie VJ JB) Tryz.func280 fun ds (hw:ka (oc.ct++[]) ds) _=> ?_
 obtain⟨r,ds,rfl,_,hw⟩:=oc.nz (r:=_) hw
 obtain rfl:=nr hw
 exact⟨0,eT (npj (fun r0=>((true,[.int r0]):kK)) r)⟩
def tu:Sum:= {ps:=[⟨oc.ct,true⟩],rs:=[⟨[.d_ .bool],false⟩],fn:=fun ds=>(true,[.bool (uc (oc.nd ds 0))])}
theorem Rt:D9 Tryz.prog 159 tu:=by
 refine nN (Γ:=[(46,nH),(263,tO),(264,vz)]) (Ie oQ (Ie Sq (Ie naW JB))) Tryz.func159 fun ds (hw:ka (oc.ct++[]) ds) _=> ?_
 obtain⟨r,ds,rfl,_,hw⟩:=oc.nz (r:=_) hw
 obtain rfl:=nr hw
 exact⟨0,eT (nfN (fun r0=>((true,[.bool r0]):kK)) r)⟩
theorem RL:D9 Tryz.prog 253 tu:=by
 refine nN (Γ:=[(33,nH),(280,vz),(326,tO)]) (Ie pM (Ie nch (Ie VJ JB))) Tryz.func253 fun ds (hw:ka (oc.ct++[]) ds) _=> ?_
 obtain⟨r,ds,rfl,_,hw⟩:=oc.nz (r:=_) hw
 obtain rfl:=nr hw
 exact⟨0,eT (nfN (fun r0=>((true,[.bool r0]):kK)) r)⟩
def wP:Sum:= {ps:=[⟨nf.ct,true⟩],rs:=[⟨[.d_ .bool],false⟩],fn:=fun ds=>(true,[.bool (ri (nf.nd ds 0))])}
theorem ncW:D9 Tryz.prog 293 wP:=by
 refine nN (Γ:=[(46,nH),(263,tO)]) (Ie oQ (Ie Sq JB)) Tryz.func293 fun ds (hw:ka (nf.ct++[]) ds) _=> ?_
 obtain⟨q,ds,rfl,_,hw⟩:=nf.nz (r:=_) hw
 obtain rfl:=nr hw
 exact⟨0,eT (ncV (fun r0=>((true,[.bool r0]):kK)) q)⟩
theorem nea:D9 Tryz.prog 279 wP:=by
 refine nN (Γ:=[(33,nH),(326,tO)]) (Ie pM (Ie VJ JB)) Tryz.func279 fun ds (hw:ka (nf.ct++[]) ds) _=> ?_
 obtain⟨q,ds,rfl,_,hw⟩:=nf.nz (r:=_) hw
 obtain rfl:=nr hw
 exact⟨0,eT (ncV (fun r0=>((true,[.bool r0]):kK)) q)⟩
def Qy:Sum:= {ps:=[⟨nA.ct,true⟩],rs:=[⟨[.d_ .bool],false⟩],fn:=fun ds=>(true,[.bool (due (nA.nd ds 0))])}
theorem nqm:D9 Tryz.prog 258 Qy:=by
 refine nN JB Tryz.func258 fun ds (hw:ka (nA.ct++[]) ds) _=> ?_
 obtain⟨v,ds,rfl,_,hw⟩:=nA.nz (r:=_) hw
 obtain rfl:=nr hw
 exact⟨0,eT (nql (fun r0=>((true,[.bool r0]):kK)) v)⟩
theorem ngF:D9 Tryz.prog 248 Qy:=by
 refine nN JB Tryz.func248 fun ds (hw:ka (nA.ct++[]) ds) _=> ?_
 obtain⟨v,ds,rfl,_,hw⟩:=nA.nz (r:=_) hw
 obtain rfl:=nr hw
 exact⟨0,eT (nql (fun r0=>((true,[.bool r0]):kK)) v)⟩
def vD:Sum:= {ps:=[⟨nA.ct,true⟩],rs:=[⟨[.d_ .bool],false⟩],fn:=fun ds=>(true,[.bool (tW (nA.nd ds 0))])}
theorem na7:D9 Tryz.prog 147 vD:=by
 refine nN (Γ:=[(46,nH),(258,Qy)]) (Ie oQ (Ie nqm JB)) Tryz.func147 fun ds (hw:ka (nA.ct++[]) ds) _=> ?_
 obtain⟨v,ds,rfl,_,hw⟩:=nA.nz (r:=_) hw
 obtain rfl:=nr hw
 exact⟨0,eT (na6 (fun r0=>((true,[.bool r0]):kK)) v)⟩
theorem ncr:D9 Tryz.prog 136 vD:=by
 refine nN (Γ:=[(33,nH),(248,Qy)]) (Ie pM (Ie ngF JB)) Tryz.func136 fun ds (hw:ka (nA.ct++[]) ds) _=> ?_
 obtain⟨v,ds,rfl,_,hw⟩:=nA.nz (r:=_) hw
 obtain rfl:=nr hw
 exact⟨0,eT (na6 (fun r0=>((true,[.bool r0]):kK)) v)⟩
def yY:Sum:= {ps:=[⟨nk.ct,true⟩],rs:=[⟨[.d_ .bool],false⟩],fn:=fun ds=>(true,[.bool (zg (nk.nd ds 0))])}
theorem nc1:D9 Tryz.prog 211 yY:=by
 refine nN (Γ:=[(46,nH),(159,tu),(240,wT),(293,wP)]) (Ie oQ (Ie Rt (Ie nc3 (Ie ncW JB)))) Tryz.func211 fun ds (hw:ka (nk.ct++[]) ds) _=> ?_
 obtain⟨q,ds,rfl,_,hw⟩:=nk.nz (r:=_) hw
 obtain rfl:=nr hw
 exact⟨0,eT (nm2 (fun r0=>((true,[.bool r0]):kK)) q)⟩
theorem nm_:D9 Tryz.prog 192 yY:=by
 refine nN (Γ:=[(33,nH),(228,wT),(253,tu),(279,wP)]) (Ie pM (Ie nef (Ie RL (Ie nea JB)))) Tryz.func192 fun ds (hw:ka (nk.ct++[]) ds) _=> ?_
 obtain⟨q,ds,rfl,_,hw⟩:=nk.nz (r:=_) hw
 obtain rfl:=nr hw
 exact⟨0,eT (nm2 (fun r0=>((true,[.bool r0]):kK)) q)⟩
def Ru:Sum:= {ps:=[⟨qj.ct,true⟩],rs:=[⟨[.d_ .bool],false⟩],fn:=fun ds=>(true,[.bool (Qt (qj.nd ds 0))])}
theorem nsm:D9 Tryz.prog 259 Ru:=by
 refine nN (Γ:=[(46,nH)]) (Ie oQ JB) Tryz.func259 fun ds (hw:ka (qj.ct++[]) ds) _=> ?_
 obtain⟨r,ds,rfl,_,hw⟩:=qj.nz (r:=_) hw
 obtain rfl:=nr hw
 exact⟨0,eT (nfO (fun r0=>((true,[.bool r0]):kK)) r)⟩
theorem ntg:D9 Tryz.prog 249 Ru:=by
 refine nN (Γ:=[(33,nH)]) (Ie pM JB) Tryz.func249 fun ds (hw:ka (qj.ct++[]) ds) _=> ?_
 obtain⟨r,ds,rfl,_,hw⟩:=qj.nz (r:=_) hw
 obtain rfl:=nr hw
 exact⟨0,eT (nfO (fun r0=>((true,[.bool r0]):kK)) r)⟩
def wQ:Sum:= {ps:=[⟨[.sl [.i,.i,.i,.i,.i,.i,.i,.i,.i]],false⟩],rs:=[⟨[.d_ .bool],false⟩],fn:=fun ds=>(true,[.bool (Ty (rR ds 0))])}
def ncY:Ctx:=[(259,Ru)]
theorem nqd:bE Tryz.prog ncY:=Ie nsm JB
def ncX:List (Nat×lB):=[(2, {bZ:=[(0,.mK),(5,.mK),(6,.mK),(7,.mK)],boxes:=[]})]
def ncZ:Bool→kK:=(fun r0=>((true,[.bool r0]):kK))
def nnx (nc x:Rows) (oA oO:Int):St:= {n:=18,sl:=[(0,.sl [.i,.i,.i,.i,.i,.i,.i,.i,.i] nc),(5,.sl [.i,.i,.i,.i,.i,.i,.i,.i,.i] x),(6,.int .i64 oA),(7,.int .i64 oO)],hp:=[],ok:=true,ls:=[],lm:=[]}
theorem nqc:D9 Tryz.prog 148 wQ:=by
 refine ra (A:=ncX) nqd Tryz.func148 fun ds (hw:ka ([.sl [.i,.i,.i,.i,.i,.i,.i,.i,.i]]) ds) _=> ?_
 obtain⟨nc,rfl,rF⟩:=qm hw
 obtain⟨N,hN⟩:=nqb Vm.kd ncZ nc rF
 exact⟨N,eL (fun l_=>T8 Vm.kd ncZ l_ nc) (funext fun x=>funext fun oA=>nL1 (LQ Tryz.prog ncY ncX N Tryz.f148 wQ [true,false,true,false] []) (nnx nc x oA) _ N) hN⟩
def nec:Ctx:=[(249,Ru)]
theorem nrG:bE Tryz.prog nec:=Ie ntg JB
def neb:List (Nat×lB):=[(2, {bZ:=[(0,.mK),(3,.mK)],boxes:=[]})]
def ned:Bool→kK:=(fun r0=>((true,[.bool r0]):kK))
def npk (nc:Rows) (k:Int):St:= {n:=19,sl:=[(0,.sl [.i,.i,.i,.i,.i,.i,.i,.i,.i] nc),(3,.int .i64 k)],hp:=[],ok:=true,ls:=[],lm:=[]}
theorem nrF:D9 Tryz.prog 137 wQ:=by
 refine ra (A:=neb) nrG Tryz.func137 fun ds (hw:ka ([.sl [.i,.i,.i,.i,.i,.i,.i,.i,.i]]) ds) _=> ?_
 obtain⟨nc,rfl,rF⟩:=qm hw
 obtain⟨N,hN⟩:=nrE Vm.kd ned nc rF
 exact⟨N,eL (fun l_=>Vu Vm.kd ned l_ nc) (nL1 (LQ Tryz.prog nec neb N Tryz.f137 wQ [true,false,true,false] []) (npk nc) _ N) hN⟩
def vF:Sum:= {ps:=[⟨[.sl [.i]],false⟩],rs:=[⟨[.own 3 [.i]],false⟩],fn:=fun ds=>(sm (rR ds 0),[.sl (oB (rR ds 0))])}
theorem xG:D9 Tryz.prog 153 vF:=by
 refine nN JB Tryz.func153 fun ds (hw:ka ([.sl [.i]]) ds) aJ=> ?_
 obtain⟨l,rfl,_⟩:=qm hw
 exact⟨0,eT (nnL Vm.kd (fun r0=>((true,[.sl r0]):kK)) l aJ)⟩
def tN:Sum:= {ps:=[⟨nE.ct,true⟩],rs:=[⟨[.d_ .i,.d_ .i,.d_ .i,.own 3 [.i]],true⟩],fn:=fun ds=>(PW (nE.nd ds 0),nE.enc (oB (nE.nd ds 0)))}
theorem Sn:D9 Tryz.prog 158 tN:=by
 refine nN (Γ:=[(153,vF)]) (Ie xG JB) Tryz.func158 fun ds (hw:ka (nE.ct++[]) ds) aJ=> ?_
 obtain⟨p,ds,rfl,_,hw⟩:=nE.nz (r:=_) hw
 obtain rfl:=nr hw
 exact⟨0,eT (nnM Vm.kd (fun r0=>((true,nE.enc r0):kK)) p aJ)⟩
theorem VK:D9 Tryz.prog 188 tN:=by
 refine nN JB Tryz.func188 fun ds (hw:ka (nE.ct++[]) ds) aJ=> ?_
 obtain⟨p,ds,rfl,_,hw⟩:=nE.nz (r:=_) hw
 obtain rfl:=nr hw
 exact⟨0,eT (nrY Vm.kd (fun r0=>((true,nE.enc r0):kK)) p aJ)⟩
def tr:Sum:= {ps:=[⟨nE.ct,true⟩],rs:=[⟨[.d_ .bool],false⟩],fn:=fun ds=>(true,[.bool (tU (nE.nd ds 0))])}
def nfK:Ctx:=[(46,nH)]
theorem nsl:bE Tryz.prog nfK:=Ie oQ JB
def nfJ:List (Nat×lB):=[(5, {bZ:=[(1,.mK),(3,.mK),(26,.mK),(27,.mK),(28,.mK)],boxes:=[(64,[])]})]
def nfL:Bool→kK:=(fun r0=>((true,[.bool r0]):kK))
def nqa (x:Rows) (oA oO p_1 p_2 p_3:Int) (p_4 seen:Rows):St:= {n:=48,sl:=[(1,.ptr 64 0),(3,.own 640192),(26,.sl [.i] x),(27,.int .i64 oA),(28,.int .i64 oO)],hp:=[(64,.box 42 [.int .i64 p_1,.int .i64 p_2,.int .i64 p_3,.sl [.i] p_4]),(640192,.row 4 [.bool] seen false true)],ok:=true,ls:=[],lm:=[]}
theorem Xp:D9 Tryz.prog 160 tr:=by
 refine ra (A:=nfJ) nsl Tryz.func160 fun ds (hw:ka (nE.ct++[]) ds) _=> ?_
 obtain⟨p,ds,rfl,h_p,hw⟩:=nE.nz (r:=_) hw
 obtain rfl:=nr hw
 obtain⟨N,hN⟩:=nsk Vm.kd nfL p h_p
 exact⟨N,eL (fun l_=>Xq Vm.kd nfL l_ p) (funext fun x=>funext fun oA=>funext fun p_3=>To (LQ Tryz.prog nfK nfJ N Tryz.f160 tr [true,true,true,false,true,false] []) (fun oO seen=>nqa x oA oO p.oM p.nI p_3 p.pN seen) _ N) hN⟩
def ngA:Ctx:=[(33,nH)]
theorem ntf:bE Tryz.prog ngA:=Ie pM JB
def ngz:List (Nat×lB):=[(5, {bZ:=[(1,.mK),(3,.mK),(4,.mK)],boxes:=[(64,[])]})]
def ngB:Bool→kK:=(fun r0=>((true,[.bool r0]):kK))
def nrD (k p_1 p_2 p_3:Int) (p_4 seen:Rows):St:= {n:=58,sl:=[(1,.ptr 64 0),(3,.own 640192),(4,.int .i64 k)],hp:=[(64,.box 42 [.int .i64 p_1,.int .i64 p_2,.int .i64 p_3,.sl [.i] p_4]),(640192,.row 4 [.bool] seen false true)],ok:=true,ls:=[],lm:=[]}
theorem XU:D9 Tryz.prog 193 tr:=by
 refine ra (A:=ngz) ntf Tryz.func193 fun ds (hw:ka (nE.ct++[]) ds) _=> ?_
 obtain⟨p,ds,rfl,h_p,hw⟩:=nE.nz (r:=_) hw
 obtain rfl:=nr hw
 obtain⟨N,hN⟩:=nte Vm.kd ngB p h_p
 exact⟨N,eL (fun l_=>XV Vm.kd ngB l_ p) (funext fun p_3=>funext fun p_4=>To (LQ Tryz.prog ngA ngz N Tryz.f193 tr [true,true,true,false,true,false] []) (fun k seen=>nrD k p.oM p.nI p_3 p_4 seen) _ N) hN⟩
def xb:Sum:= {ps:=[⟨nE.ct,true⟩,⟨[.sl [.i]],false⟩],rs:=[⟨[.d_ .i,.d_ .i,.d_ .i,.own 3 [.i]],true⟩,⟨[.d_ .bool],false⟩],fn:=fun ds=>(X0 (nE.nd ds 0) (rR ds 4),nE.enc (rV (nE.nd ds 0) (rR ds 4)).1++[.bool (rV (nE.nd ds 0) (rR ds 4)).2])}
theorem ngR:D9 Tryz.prog 292 xb:=by
 refine nN (Γ:=[(158,tN),(160,tr)]) (Ie Sn (Ie Xp JB)) Tryz.func292 fun ds (hw:ka (nE.ct++[.sl [.i]]) ds) aJ=> ?_
 obtain⟨p,ds,rfl,_,hw⟩:=nE.nz (r:=_) hw
 obtain⟨nc,rfl,_⟩:=qm hw
 exact⟨0,eT (T4 Vm.kd (fun r0 r1=>((true,nE.enc r0++[.bool r1]):kK)) p nc aJ)⟩
theorem nhR:D9 Tryz.prog 221 xb:=by
 refine nN (Γ:=[(188,tN),(193,tr)]) (Ie VK (Ie XU JB)) Tryz.func221 fun ds (hw:ka (nE.ct++[.sl [.i]]) ds) aJ=> ?_
 obtain⟨p,ds,rfl,_,hw⟩:=nE.nz (r:=_) hw
 obtain⟨nc,rfl,_⟩:=qm hw
 exact⟨0,eT (T4 Vm.kd (fun r0 r1=>((true,nE.enc r0++[.bool r1]):kK)) p nc aJ)⟩
def WC:Sum:= {ps:=[⟨na.ct,true⟩,⟨[.i],false⟩],rs:=[⟨[.d_ .i],false⟩],fn:=fun ds=>(NI (na.nd ds 0) (rI ds 1),[.int (xr (na.nd ds 0) (rI ds 1)).1]++[.sl (xr (na.nd ds 0) (rI ds 1)).2]),ms:=[some (.rows [.flat 9]),none]}
def njl:Ctx:=[(81,xl)]
theorem njo:bE Tryz.prog njl:=Ie U1 JB
theorem njn:Cl Tryz.prog 73 WC:=by
 refine Nq (A:=[]) njo Tryz.func73 fun ds (hw:ka (na.ct++[.i]) ds) aJ=> ?_
 obtain⟨a,ds,rfl,_,hw⟩:=na.nz (r:=_) hw
 obtain⟨k,rfl,_⟩:=nw hw
 exact⟨0,eT (njm Vm.kd (fun r0 r1=>((true,[.int r0]++[.sl r1]):kK)) a k aJ)⟩
def Wz:Sum:= {ps:=[⟨na.ct,true⟩,⟨[.i],false⟩],rs:=[⟨[.d_ .i],false⟩],fn:=fun ds=>(Nu (na.nd ds 0) (rI ds 1),[.int (Ox (na.nd ds 0) (rI ds 1))])}
theorem ni_:D9 Tryz.prog 82 Wz:=by
 refine nN (Γ:=[(92,xk)]) (Ie UO JB) Tryz.func82 fun ds (hw:ka (na.ct++[.i]) ds) aJ=> ?_
 obtain⟨a,ds,rfl,_,hw⟩:=na.nz (r:=_) hw
 obtain⟨k,rfl,_⟩:=nw hw
 exact⟨0,eT (ni9 Vm.kd (fun r0=>((true,[.int r0]):kK)) a k aJ)⟩
def nbI:Sum:= {ps:=[⟨nE.ct,true⟩,⟨[.i],false⟩],rs:=[⟨[.d_ .i],false⟩],fn:=fun ds=>(R0 (nE.nd ds 0) (rI ds 4),[.int (PU (nE.nd ds 0) (rI ds 4)).1]++[.sl (PU (nE.nd ds 0) (rI ds 4)).2]),ms:=[some (.rows [.flat 3]),none]}
def noj:Ctx:=[(69,tQ)]
theorem nom:bE Tryz.prog noj:=Ie vH JB
theorem nol:Cl Tryz.prog 174 nbI:=by
 refine Nq (A:=[]) nom Tryz.func174 fun ds (hw:ka (nE.ct++[.i]) ds) aJ=> ?_
 obtain⟨a,ds,rfl,_,hw⟩:=nE.nz (r:=_) hw
 obtain⟨k,rfl,_⟩:=nw hw
 exact⟨0,eT (nok Vm.kd (fun r0 r1=>((true,[.int r0]++[.sl r1]):kK)) a k aJ)⟩
def nbD:Sum:= {ps:=[⟨nE.ct,true⟩,⟨[.i],false⟩],rs:=[⟨[.d_ .i],false⟩],fn:=fun ds=>(RN (nE.nd ds 0) (rI ds 4),[.int (TV (nE.nd ds 0) (rI ds 4))])}
theorem nod:D9 Tryz.prog 177 nbD:=by
 refine nN (Γ:=[(93,tP)]) (Ie vG JB) Tryz.func177 fun ds (hw:ka (nE.ct++[.i]) ds) aJ=> ?_
 obtain⟨a,ds,rfl,_,hw⟩:=nE.nz (r:=_) hw
 obtain⟨k,rfl,_⟩:=nw hw
 exact⟨0,eT (noc Vm.kd (fun r0=>((true,[.int r0]):kK)) a k aJ)⟩
def WB:Sum:= {ps:=[⟨nB.ct,true⟩,⟨[.i],false⟩],rs:=[⟨[.d_ .i],false⟩],fn:=fun ds=>(NH (nB.nd ds 0) (rI ds 3),[.int (OK (nB.nd ds 0) (rI ds 3)).1]++[.sl (OK (nB.nd ds 0) (rI ds 3)).2]),ms:=[some (.rows [.flat 3]),none]}
def njh:Ctx:=[(69,tQ)]
theorem njk:bE Tryz.prog njh:=Ie vH JB
theorem njj:Cl Tryz.prog 16 WB:=by
 refine Nq (A:=[]) njk Tryz.func16 fun ds (hw:ka (nB.ct++[.i]) ds) aJ=> ?_
 obtain⟨a,ds,rfl,_,hw⟩:=nB.nz (r:=_) hw
 obtain⟨k,rfl,_⟩:=nw hw
 exact⟨0,eT (nji Vm.kd (fun r0 r1=>((true,[.int r0]++[.sl r1]):kK)) a k aJ)⟩
def Wy:Sum:= {ps:=[⟨nB.ct,true⟩,⟨[.i],false⟩],rs:=[⟨[.d_ .i],false⟩],fn:=fun ds=>(Ns (nB.nd ds 0) (rI ds 3),[.int (TU (nB.nd ds 0) (rI ds 3))])}
theorem ni8:D9 Tryz.prog 89 Wy:=by
 refine nN (Γ:=[(93,tP)]) (Ie vG JB) Tryz.func89 fun ds (hw:ka (nB.ct++[.i]) ds) aJ=> ?_
 obtain⟨a,ds,rfl,_,hw⟩:=nB.nz (r:=_) hw
 obtain⟨k,rfl,_⟩:=nw hw
 exact⟨0,eT (ni7 Vm.kd (fun r0=>((true,[.int r0]):kK)) a k aJ)⟩
def RY:Sum:= {ps:=[⟨ni.ct,true⟩,⟨[.i],false⟩],rs:=[⟨[.d_ .i],false⟩],fn:=fun ds=>(wX (ni.nd ds 0) (rI ds 1),[.int (wu (ni.nd ds 0) (rI ds 1)).1]++[.sl (wu (ni.nd ds 0) (rI ds 1)).2]),ms:=[some (.rows [.flat 201]),none]}
def nds:Ctx:=[(173,QS)]
theorem ndv:bE Tryz.prog nds:=Ie nlH JB
theorem ndu:Cl Tryz.prog 71 RY:=by
 refine Nq (A:=[]) ndv Tryz.func71 fun ds (hw:ka (ni.ct++[.i]) ds) aJ=> ?_
 obtain⟨a,ds,rfl,_,hw⟩:=ni.nz (r:=_) hw
 obtain⟨k,rfl,_⟩:=nw hw
 exact⟨0,eT (ndt Vm.kd (fun r0 r1=>((true,[.int r0]++[.sl r1]):kK)) a k aJ)⟩
def RX:Sum:= {ps:=[⟨ni.ct,true⟩,⟨[.i],false⟩],rs:=[⟨[.d_ .i],false⟩],fn:=fun ds=>(wM (ni.nd ds 0) (rI ds 1),[.int (Nt (ni.nd ds 0) (rI ds 1))])}
theorem ndp:D9 Tryz.prog 180 RX:=by
 refine nN (Γ:=[(276,QK)]) (Ie nlu JB) Tryz.func180 fun ds (hw:ka (ni.ct++[.i]) ds) aJ=> ?_
 obtain⟨a,ds,rfl,_,hw⟩:=ni.nz (r:=_) hw
 obtain⟨k,rfl,_⟩:=nw hw
 exact⟨0,eT (ndo Vm.kd (fun r0=>((true,[.int r0]):kK)) a k aJ)⟩
def WD:Sum:= {ps:=[⟨nD.ct,true⟩,⟨[.i],false⟩],rs:=[⟨[.d_ .i],false⟩],fn:=fun ds=>(NJ (nD.nd ds 0) (rI ds 2),[.int (OL (nD.nd ds 0) (rI ds 2)).1]++[.sl (OL (nD.nd ds 0) (rI ds 2)).2]),ms:=[some (.rows [.flat 3]),none]}
def njt:Ctx:=[(69,tQ)]
theorem njw:bE Tryz.prog njt:=Ie vH JB
theorem njv:Cl Tryz.prog 72 WD:=by
 refine Nq (A:=[]) njw Tryz.func72 fun ds (hw:ka (nD.ct++[.i]) ds) aJ=> ?_
 obtain⟨a,ds,rfl,_,hw⟩:=nD.nz (r:=_) hw
 obtain⟨k,rfl,_⟩:=nw hw
 exact⟨0,eT (nju Vm.kd (fun r0 r1=>((true,[.int r0]++[.sl r1]):kK)) a k aJ)⟩
def WA:Sum:= {ps:=[⟨nD.ct,true⟩,⟨[.i],false⟩],rs:=[⟨[.d_ .i],false⟩],fn:=fun ds=>(Nv (nD.nd ds 0) (rI ds 2),[.int (TW (nD.nd ds 0) (rI ds 2))])}
theorem njf:D9 Tryz.prog 181 WA:=by
 refine nN (Γ:=[(93,tP)]) (Ie vG JB) Tryz.func181 fun ds (hw:ka (nD.ct++[.i]) ds) aJ=> ?_
 obtain⟨a,ds,rfl,_,hw⟩:=nD.nz (r:=_) hw
 obtain⟨k,rfl,_⟩:=nw hw
 exact⟨0,eT (nje Vm.kd (fun r0=>((true,[.int r0]):kK)) a k aJ)⟩
def U3:Sum:= {ps:=[⟨nn.ct,true⟩,⟨[.i],false⟩],rs:=[⟨[.d_ .i],false⟩],fn:=fun ds=>(y7 (nn.nd ds 0) (rI ds 10),[.int (v8 (nn.nd ds 0) (rI ds 10)).1]++[.sl (v8 (nn.nd ds 0) (rI ds 10)).2.1]++[.sl (v8 (nn.nd ds 0) (rI ds 10)).2.2]),ms:=[some (.rows [.flat 3,.deep 304 [3]]),none]}
def nhw:Ctx:=[(174,nbI),(175,QQ)]
theorem nhz:bE Tryz.prog nhw:=Ie nol (Ie nlE JB)
theorem nhy:Cl Tryz.prog 75 U3:=by
 refine Nq (A:=[]) nhz Tryz.func75 fun ds (hw:ka (nn.ct++[.i]) ds) aJ=> ?_
 obtain⟨a,ds,rfl,_,hw⟩:=nn.nz (r:=_) hw
 obtain⟨k,rfl,_⟩:=nw hw
 exact⟨0,eT (nhx Vm.kd (fun r0 r1 r2=>((true,[.int r0]++[.sl r1]++[.sl r2]):kK)) a k aJ)⟩
def UP:Sum:= {ps:=[⟨nn.ct,true⟩,⟨[.i],false⟩],rs:=[⟨[.d_ .i],false⟩],fn:=fun ds=>(yU (nn.nd ds 0) (rI ds 10),[.int (RP (nn.nd ds 0) (rI ds 10))])}
theorem nho:D9 Tryz.prog 84 UP:=by
 refine nN (Γ:=[(177,nbD),(178,QI)]) (Ie nod (Ie nlr JB)) Tryz.func84 fun ds (hw:ka (nn.ct++[.i]) ds) aJ=> ?_
 obtain⟨a,ds,rfl,_,hw⟩:=nn.nz (r:=_) hw
 obtain⟨k,rfl,_⟩:=nw hw
 exact⟨0,eT (nhn Vm.kd (fun r0=>((true,[.int r0]):kK)) a k aJ)⟩
def Tl:Sum:= {ps:=[⟨nm.ct,true⟩,⟨[.i],false⟩],rs:=[⟨[.d_ .i],false⟩],fn:=fun ds=>(xM (nm.nd ds 0) (rI ds 4),[.int (tE (nm.nd ds 0) (rI ds 4)).1]++[.sl (tE (nm.nd ds 0) (rI ds 4)).2.1]++[.sl (tE (nm.nd ds 0) (rI ds 4)).2.2.1]++[.sl (tE (nm.nd ds 0) (rI ds 4)).2.2.2]),ms:=[some (.rows [.flat 197,.flat 201,.flat 3]),none]}
def nfr:Ctx:=[(70,QP),(71,RY),(72,WD)]
theorem nfu:bE Tryz.prog nfr:=Ie nlC (Ie ndu (Ie njv JB))
theorem nft:Cl Tryz.prog 17 Tl:=by
 refine Nq (A:=[]) nfu Tryz.func17 fun ds (hw:ka (nm.ct++[.i]) ds) aJ=> ?_
 obtain⟨a,ds,rfl,_,hw⟩:=nm.nz (r:=_) hw
 obtain⟨k,rfl,_⟩:=nw hw
 exact⟨0,eT (nfs Vm.kd (fun r0 r1 r2 r3=>((true,[.int r0]++[.sl r1]++[.sl r2]++[.sl r3]):kK)) a k aJ)⟩
def Tc:Sum:= {ps:=[⟨nm.ct,true⟩,⟨[.i],false⟩],rs:=[⟨[.d_ .i],false⟩],fn:=fun ds=>(xB (nm.nd ds 0) (rI ds 4),[.int (Po (nm.nd ds 0) (rI ds 4))])}
theorem nfi:D9 Tryz.prog 90 Tc:=by
 refine nN (Γ:=[(179,QH),(180,RX),(181,WA)]) (Ie nlp (Ie ndp (Ie njf JB))) Tryz.func90 fun ds (hw:ka (nm.ct++[.i]) ds) aJ=> ?_
 obtain⟨a,ds,rfl,_,hw⟩:=nm.nz (r:=_) hw
 obtain⟨k,rfl,_⟩:=nw hw
 exact⟨0,eT (nfh Vm.kd (fun r0=>((true,[.int r0]):kK)) a k aJ)⟩
def nbE:Sum:= {ps:=[⟨nt.ct,true⟩,⟨[.i],false⟩],rs:=[⟨[.d_ .i],false⟩],fn:=fun ds=>(y6 (nt.nd ds 0) (rI ds 33),[.int (oD (nt.nd ds 0) (rI ds 33)).1]++[.sl (oD (nt.nd ds 0) (rI ds 33)).2.1]++[.sl (oD (nt.nd ds 0) (rI ds 33)).2.2.1]++[.sl (oD (nt.nd ds 0) (rI ds 33)).2.2.2.1]++[.sl (oD (nt.nd ds 0) (rI ds 33)).2.2.2.2.1]++[.sl (oD (nt.nd ds 0) (rI ds 33)).2.2.2.2.2.1]++[.sl (oD (nt.nd ds 0) (rI ds 33)).2.2.2.2.2.2.1]++[.sl (oD (nt.nd ds 0) (rI ds 33)).2.2.2.2.2.2.2.1]++[.sl (oD (nt.nd ds 0) (rI ds 33)).2.2.2.2.2.2.2.2.1]++[.sl (oD (nt.nd ds 0) (rI ds 33)).2.2.2.2.2.2.2.2.2.1]++[.sl (oD (nt.nd ds 0) (rI ds 33)).2.2.2.2.2.2.2.2.2.2.1]++[.sl (oD (nt.nd ds 0) (rI ds 33)).2.2.2.2.2.2.2.2.2.2.2.1]++[.sl (oD (nt.nd ds 0) (rI ds 33)).2.2.2.2.2.2.2.2.2.2.2.2.1]++[.sl (oD (nt.nd ds 0) (rI ds 33)).2.2.2.2.2.2.2.2.2.2.2.2.2.1]++[.sl (oD (nt.nd ds 0) (rI ds 33)).2.2.2.2.2.2.2.2.2.2.2.2.2.2.1]++[.sl (oD (nt.nd ds 0) (rI ds 33)).2.2.2.2.2.2.2.2.2.2.2.2.2.2.2.1]++[.sl (oD (nt.nd ds 0) (rI ds 33)).2.2.2.2.2.2.2.2.2.2.2.2.2.2.2.2]),ms:=[some (.rows [.flat 9,.flat 113,.flat 3,.deep 304 [3],.flat 123,.deep 42 [3],.flat 102,.flat 4,.flat 3,.flat 197,.flat 201,.flat 3,.flat 232,.flat 9,.flat 3,.flat 3]),none]}
def noe:Ctx:=[(16,WB),(17,Tl),(69,tQ),(73,WC),(74,Nm),(75,U3),(76,Nn),(77,QN),(78,OI),(79,QL),(80,OG),(81,xl)]
theorem noh:bE Tryz.prog noe:=Ie njj (Ie nft (Ie vH (Ie njn (Ie nfn (Ie nhy (Ie nfp (Ie nlz (Ie nhB (Ie nlw (Ie nhs (Ie U1 JB)))))))))))
theorem nog:Cl Tryz.prog 18 nbE:=by
 refine Nq (A:=[]) noh Tryz.func18 fun ds (hw:ka (nt.ct++[.i]) ds) aJ=> ?_
 obtain⟨a,ds,rfl,_,hw⟩:=nt.nz (r:=_) hw
 obtain⟨k,rfl,_⟩:=nw hw
 exact⟨0,eT (nof Vm.kd (fun r0 r1 r2 r3 r4 r5 r6 r7 r8 r9 r10 r11 r12 r13 r14 r15 r16=>((true,[.int r0]++[.sl r1]++[.sl r2]++[.sl r3]++[.sl r4]++[.sl r5]++[.sl r6]++[.sl r7]++[.sl r8]++[.sl r9]++[.sl r10]++[.sl r11]++[.sl r12]++[.sl r13]++[.sl r14]++[.sl r15]++[.sl r16]):kK)) a k aJ)⟩
def nbz:Sum:= {ps:=[⟨nt.ct,true⟩,⟨[.i],false⟩],rs:=[⟨[.d_ .i],false⟩],fn:=fun ds=>(OR (nt.nd ds 0) (rI ds 33),[.int (X1 (nt.nd ds 0) (rI ds 33))])}
theorem noa:D9 Tryz.prog 19 nbz:=by
 refine nN (Γ:=[(82,Wz),(83,Nk),(84,UP),(85,Nl),(86,QF),(87,OE),(88,QD),(89,Wy),(90,Tc),(91,OC),(92,xk),(93,tP)]) (Ie ni_ (Ie nfd (Ie nho (Ie nff (Ie nlm (Ie nhq (Ie nlj (Ie ni8 (Ie nfi (Ie nhj (Ie UO (Ie vG JB)))))))))))) Tryz.func19 fun ds (hw:ka (nt.ct++[.i]) ds) aJ=> ?_
 obtain⟨a,ds,rfl,_,hw⟩:=nt.nz (r:=_) hw
 obtain⟨k,rfl,_⟩:=nw hw
 exact⟨0,eT (nn_ Vm.kd (fun r0=>((true,[.int r0]):kK)) a k aJ)⟩
def OU:Sum:= {ps:=[⟨nn.ct,true⟩],rs:=[⟨[.d_ .bool],false⟩],fn:=fun ds=>(SM (nn.nd ds 0),[.bool (ne3 (nn.nd ds 0))])}
def nm4:Ctx:=[(46,nH),(159,tu),(160,tr),(292,xb)]
theorem nuE:bE Tryz.prog nm4:=Ie oQ (Ie Rt (Ie Xp (Ie ngR JB)))
def nm3:List (Nat×lB):=[(6, {bZ:=[(1,.mK),(3,.mK),(4,.mK),(30,.mK),(31,.mK),(32,.mK)],boxes:=[(64,[])]})]
def nm5:Bool→kK:=(fun r0=>((true,[.bool r0]):kK))
def ntY (left:Int) (x:Rows) (oA oO q_1 q_2 q_3 q_4 q_5 q_6 q_7:Int) (q_8 XR:Rows) (nwi:Int) (all:Rows):St:= {n:=68,sl:=[(1,.ptr 64 0),(3,.int .i64 left),(4,.own 640256),(30,.sl [.i,.i,.sl [.i]] x),(31,.int .i64 oA),(32,.int .i64 oO)],hp:=[(64,.box 45 [.int .i64 q_1,.int .i64 q_2,.int .i64 q_3,.int .i64 q_4,.int .i64 q_5,.int .i64 q_6,.int .i64 q_7,.sl [.i] q_8,.sl [.i,.i,.sl [.i]] XR,.int .i64 nwi]),(640256,.row 3 [.i] all false true)],ok:=true,ls:=[],lm:=[]}
theorem nuD:D9 Tryz.prog 210 OU:=by
 refine ra (A:=nm3) nuE Tryz.func210 fun ds (hw:ka (nn.ct++[]) ds) aJ=> ?_
 obtain⟨q,ds,rfl,h_q,hw⟩:=nn.nz (r:=_) hw
 obtain rfl:=nr hw
 obtain⟨N,hN⟩:=nuC Vm.kd nm5 q h_q aJ
 exact⟨N,eL (fun l_=>nc5 Vm.kd nm5 l_ q) (funext fun x=>funext fun oA=>funext fun q_5=>funext fun q_6=>funext fun q_7=>funext fun q_8=>nL3 (LQ Tryz.prog nm4 nm3 N Tryz.f210 OU [true,true,true,true,false,true,false] []) (fun left oO all=>ntY left x oA oO q.Ring.oM q.Ring.nI q.Ring.Head q.Ring.sQ q_5 q_6 q_7 q_8 q.ny q.Next all) _ N) hN⟩
def nnb:Ctx:=[(33,nH),(193,tr),(221,xb),(253,tu)]
theorem nuS:bE Tryz.prog nnb:=Ie pM (Ie XU (Ie nhR (Ie RL JB)))
def nna:List (Nat×lB):=[(6, {bZ:=[(1,.mK),(3,.mK),(4,.mK),(5,.mK)],boxes:=[(64,[])]})]
def nnc:Bool→kK:=(fun r0=>((true,[.bool r0]):kK))
def nuf (bZ k q_1 q_2 q_3 q_4 q_5 q_6 q_7:Int) (q_8 XR:Rows) (nwi:Int) (all:Rows):St:= {n:=74,sl:=[(1,.ptr 64 0),(3,.int .i64 bZ),(4,.own 640256),(5,.int .i64 k)],hp:=[(64,.box 45 [.int .i64 q_1,.int .i64 q_2,.int .i64 q_3,.int .i64 q_4,.int .i64 q_5,.int .i64 q_6,.int .i64 q_7,.sl [.i] q_8,.sl [.i,.i,.sl [.i]] XR,.int .i64 nwi]),(640256,.row 3 [.i] all false true)],ok:=true,ls:=[],lm:=[]}
theorem nuR:D9 Tryz.prog 191 OU:=by
 refine ra (A:=nna) nuS Tryz.func191 fun ds (hw:ka (nn.ct++[]) ds) aJ=> ?_
 obtain⟨q,ds,rfl,h_q,hw⟩:=nn.nz (r:=_) hw
 obtain rfl:=nr hw
 obtain⟨N,hN⟩:=nuQ Vm.kd nnc q h_q aJ
 exact⟨N,eL (fun l_=>nen Vm.kd nnc l_ q) (funext fun q_2=>funext fun q_5=>funext fun q_6=>funext fun q_7=>funext fun q_8=>funext fun XR=>nL3 (LQ Tryz.prog nnb nna N Tryz.f191 OU [true,true,true,true,false,true,false] []) (fun bZ k all=>nuf bZ k q.Ring.oM q_2 q.Ring.Head q.Ring.sQ q_5 q_6 q_7 q_8 XR q.Next all) _ N) hN⟩
def vy:Sum:= {ps:=[⟨nO.ct,true⟩],rs:=[⟨[.d_ .i],false⟩],fn:=fun ds=>(true,[.int (rn (nO.nd ds 0))])}
def naJ:Ctx:=[(214,Ry)]
theorem nns:bE Tryz.prog naJ:=Ie Xu JB
def naI:List (Nat×lB):=[(3, {bZ:=[(3,.mK),(16,.mK),(17,.mK),(18,.mK)],boxes:=[(64,[])]})]
def naK:Int→kK:=(fun r0=>((true,[.int r0]):kK))
def nkF (n x oA xR Sb wz TQ TR:Int) (oO:Rows):St:= {n:=29,sl:=[(3,.int .i64 n),(16,.own 641024),(17,.int .i64 x),(18,.int .i64 oA)],hp:=[(64,.box 199 [.int .i64 xR,.int .i64 Sb,.int .i64 wz,.int .i64 TQ,.int .i64 TR]),(641024,.row 3 [.i] oO false true)],ok:=true,ls:=[],lm:=[]}
theorem nnr:D9 Tryz.prog 329 vy:=by
 refine ra (A:=naI) nns Tryz.func329 fun ds (hw:ka (nO.ct++[]) ds) _=> ?_
 obtain⟨f,ds,rfl,h_f,hw⟩:=nO.nz (r:=_) hw
 obtain rfl:=nr hw
 obtain⟨N,hN⟩:=nnq Vm.kd naK f h_f
 exact⟨N,eL (fun l_=>Sh Vm.kd naK l_ f) (funext fun x=>funext fun oO=>To (LQ Tryz.prog naJ naI N Tryz.f329 vy [true,true,false,true,false] []) (fun n oA=>nkF n x oA f.Kind f.rk f.rK f.ph f.pg oO) _ N) hN⟩
def nca:List (Nat×lB):=[(4, {bZ:=[(3,.mK),(4,.mK),(5,.mK)],boxes:=[(64,[])]})]
def ncb:Int→kK:=(fun r0=>((true,[.int r0]):kK))
def nms (n k xR Sb wz TQ TR:Int) (nc:Rows):St:= {n:=32,sl:=[(3,.int .i64 n),(4,.own 640256),(5,.int .i64 k)],hp:=[(64,.box 199 [.int .i64 xR,.int .i64 Sb,.int .i64 wz,.int .i64 TQ,.int .i64 TR]),(640256,.row 3 [.i] nc false true)],ok:=true,ls:=[],lm:=[]}
theorem npe:D9 Tryz.prog 324 vy:=by
 refine ra (A:=nca) JB Tryz.func324 fun ds (hw:ka (nO.ct++[]) ds) _=> ?_
 obtain⟨f,ds,rfl,h_f,hw⟩:=nO.nz (r:=_) hw
 obtain rfl:=nr hw
 obtain⟨N,hN⟩:=npd Vm.kd ncb f h_f
 exact⟨N,eL (fun l_=>SE Vm.kd ncb l_ f) (funext fun nc=>To (LQ Tryz.prog [] nca N Tryz.f324 vy [true,true,true,false,true,false] []) (fun n k=>nms n k f.Kind f.rk f.rK f.ph f.pg nc) _ N) hN⟩
def Xy:Sum:= {ps:=[⟨ni.ct,true⟩,⟨nO.ct,true⟩],rs:=[⟨[.d_ .i],false⟩],fn:=fun ds=>(true,[.int (nhQ (ni.nd ds 0) (nO.nd ds 1))])}
def nf3:List (Nat×lB):=[(2, {bZ:=[(3,.mK),(8,.mK),(9,.mK),(10,.mK)],boxes:=[(128,[]),(192,[])]})]
def nf4:Int→kK:=(fun r0=>((true,[.int r0]):kK))
def nqw (x:Rows) (oA oO:Int) (uQ:Rows) (xR Sb wz TQ TR:Int):St:= {n:=26,sl:=[(3,.ptr 192 0),(8,.sl [.i,.i,.i,.i,.i,.i,.i] x),(9,.int .i64 oA),(10,.int .i64 oO)],hp:=[(128,.box 54 [.sl [.i,.i,.i,.i,.i,.i,.i] uQ]),(192,.box 199 [.int .i64 xR,.int .i64 Sb,.int .i64 wz,.int .i64 TQ,.int .i64 TR])],ok:=true,ls:=[],lm:=[]}
theorem nsw:D9 Tryz.prog 260 Xy:=by
 refine ra (A:=nf3) JB Tryz.func260 fun ds (hw:ka (ni.ct++(nO.ct++[])) ds) _=> ?_
 obtain⟨t,ds,rfl,h_t,hw⟩:=ni.nz (r:=_) hw
 obtain⟨f,ds,rfl,_,hw⟩:=nO.nz (r:=_) hw
 obtain rfl:=nr hw
 obtain⟨N,hN⟩:=nsv Vm.kd nf4 t f h_t
 exact⟨N,eL (fun l_=>Xz Vm.kd nf4 l_ t f) (funext fun x=>funext fun oA=>funext fun xR=>funext fun Sb=>funext fun wz=>funext fun TQ=>funext fun TR=>nL1 (LQ Tryz.prog [] nf3 N Tryz.f260 Xy [true,false,true,false] []) (fun oO=>nqw x oA oO t.nC xR Sb wz TQ TR) _ N) hN⟩
def VF:Sum:= {ps:=[⟨ni.ct,true⟩,⟨nO.ct,true⟩],rs:=[⟨[.d_ .i],false⟩],fn:=fun ds=>(nvs (ni.nd ds 0) (nO.nd ds 1),[.int (naj (ni.nd ds 0) (nO.nd ds 1))])}
def neu:Ctx:=[(324,vy)]
theorem nrS:bE Tryz.prog neu:=Ie npe JB
def net:List (Nat×lB):=[(2, {bZ:=[(2,.mK),(3,.mK),(5,.mK)],boxes:=[(128,[]),(192,[])]})]
def nev:Int→kK:=(fun r0=>((true,[.int r0]):kK))
def npt (k:Int) (uQ:Rows) (xR Sb wz TQ TR:Int):St:= {n:=41,sl:=[(2,.ptr 128 0),(3,.ptr 192 0),(5,.int .i64 k)],hp:=[(128,.box 54 [.sl [.i,.i,.i,.i,.i,.i,.i] uQ]),(192,.box 199 [.int .i64 xR,.int .i64 Sb,.int .i64 wz,.int .i64 TQ,.int .i64 TR])],ok:=true,ls:=[],lm:=[]}
theorem nrR:D9 Tryz.prog 250 VF:=by
 refine ra (A:=net) nrS Tryz.func250 fun ds (hw:ka (ni.ct++(nO.ct++[])) ds) aJ=> ?_
 obtain⟨t,ds,rfl,_,hw⟩:=ni.nz (r:=_) hw
 obtain⟨f,ds,rfl,_,hw⟩:=nO.nz (r:=_) hw
 obtain rfl:=nr hw
 obtain⟨N,hN⟩:=nrQ Vm.kd nev t f aJ
 exact⟨N,eL (fun l_=>VG Vm.kd nev l_ t f) (funext fun uQ=>funext fun xR=>funext fun Sb=>funext fun wz=>funext fun TQ=>funext fun TR=>nL1 (LQ Tryz.prog neu net N Tryz.f250 VF [true,false,true,false] []) (fun k=>npt k uQ xR Sb wz TQ TR) _ N) hN⟩
def nag:Sum:= {ps:=[⟨nO.ct,true⟩],rs:=[⟨[.own 3 [.i]],false⟩],fn:=fun ds=>(true,[.sl (Tv (nO.nd ds 0))])}
def niQ:Ctx:=[(329,vy)]
theorem nt3:bE Tryz.prog niQ:=Ie nnr JB
def niP:List (Nat×lB):=[(3, {bZ:=[(1,.mK),(3,.mK),(4,.mK)],boxes:=[(64,[])]})]
def niR:Rows→kK:=(fun r0=>((true,[.sl r0]):kK))
def nsx (i xR Sb wz TQ TR:Int) (n7:Rows):St:= {n:=19,sl:=[(1,.ptr 64 0),(3,.own 640192),(4,.int .i64 i)],hp:=[(64,.box 199 [.int .i64 xR,.int .i64 Sb,.int .i64 wz,.int .i64 TQ,.int .i64 TR]),(640192,.row 3 [.i] n7 false true)],ok:=true,ls:=[],lm:=[]}
theorem nt2:D9 Tryz.prog 261 nag:=by
 refine ra (A:=niP) nt3 Tryz.func261 fun ds (hw:ka (nO.ct++[]) ds) _=> ?_
 obtain⟨f,ds,rfl,_,hw⟩:=nO.nz (r:=_) hw
 obtain rfl:=nr hw
 obtain⟨N,hN⟩:=nt1 Vm.kd niR f
 exact⟨N,eL (fun l_=>nah Vm.kd niR l_ f) (funext fun xR=>funext fun Sb=>funext fun wz=>funext fun TQ=>funext fun TR=>To (LQ Tryz.prog niQ niP N Tryz.f261 nag [true,true,false,true,false] []) (fun i n7=>nsx i xR Sb wz TQ TR n7) _ N) hN⟩
def tA:Sum:= {ps:=[⟨ni.ct,true⟩],rs:=[⟨[.d_ .bool],false⟩],fn:=fun ds=>(true,[.bool (zh (ni.nd ds 0))])}
def y3:Ctx:=[(46,nH),(260,Xy),(261,nag)]
theorem nqi:bE Tryz.prog y3:=Ie oQ (Ie nsw (Ie nt2 JB))
def yZ:List (Nat×lB):=[(4, {bZ:=[(1,.mK),(12,.mK),(13,.mK),(14,.mK)],boxes:=[(64,[])]}),(14, {bZ:=[(1,.mK),(3,.mK),(12,.mK),(13,.mK),(14,.mK),(49,.mK),(50,.mK),(51,.mK)],boxes:=[(64,[]),(256,[])]})]
def tz:Bool→kK:=(fun r0=>((true,[.bool r0]):kK))
def uy (x:Rows) (oA oO:Int) (uQ:Rows):St:= {n:=67,sl:=[(1,.ptr 64 0),(12,.sl [.i,.i,.i,.i,.i,.i,.i] x),(13,.int .i64 oA),(14,.int .i64 oO)],hp:=[(64,.box 54 [.sl [.i,.i,.i,.i,.i,.i,.i] uQ])],ok:=true,ls:=[],lm:=[]}
def NZ (oO:Int) (x:Rows) (oA VT x_6 x_7:Int) (uQ:Rows) (s ub ta XS XT s_5 s_6:Int) (x_8:Rows):St:= {n:=67,sl:=[(1,.ptr 64 0),(3,.int .i64 oO),(12,.sl [.i,.i,.i,.i,.i,.i,.i] x),(13,.int .i64 oA),(14,.int .i64 VT),(49,.own 643136),(50,.int .i64 x_6),(51,.int .i64 x_7)],hp:=[(64,.box 54 [.sl [.i,.i,.i,.i,.i,.i,.i] uQ]),(256,.box 201 [.int .i64 s,.int .i64 ub,.int .i64 ta,.int .i64 XS,.int .i64 XT,.int .i64 s_5,.int .i64 s_6]),(643136,.row 3 [.i] x_8 false true)],ok:=true,ls:=[],lm:=[]}
noncomputable def NY (N:Nat) (o0:St→kK):(St→kK)→St→kK:=LQ Tryz.prog y3 yZ N Tryz.f149 tA [true,true,false,true,false,false,true,true,false,false,true,true,true,true,true,false] [o0]
noncomputable def vC (N:Nat):(St→kK)→St→kK:=LQ Tryz.prog y3 yZ N Tryz.f149 tA [true,true,false,true,false] []
theorem nnF (N:Nat) (o0:St→kK) (oO:Int) (x:Rows) (oA VT x_6:Int) (uQ:Rows) (s ub ta XS XT s_5 s_6:Int) (x_8:Rows) (ih:St→kK) (x_7:Int):NY N o0 ih (NZ oO x oA VT x_6 x_7 uQ s ub ta XS XT s_5 s_6 x_8)=xF Vm.kd tz (fun oO=>o0 (uy x oA oO uQ)) oO VT x_6 uQ x_8 (fun x_7=>ih (NZ oO x oA VT x_6 x_7 uQ s ub ta XS XT s_5 s_6 x_8)) x_7:=by kernel_rfl
theorem nnH (N:Nat) (o0:St→kK) (oO:Int) (x:Rows) (oA VT x_6:Int) (uQ:Rows) (s ub ta XS XT s_5 s_6:Int) (x_8:Rows) (m_:Nat):(fun x_7=>LR (NY N o0) m_ (NZ oO x oA VT x_6 x_7 uQ s ub ta XS XT s_5 s_6 x_8))=ux Vm.kd tz N (fun oO=>o0 (uy x oA oO uQ)) oO VT x_6 uQ x_8 m_:=by
 induction m_ with
 | zero=>rfl
 | succ m_ ih=>
  funext x_7
  refine (nnF N o0 oO x oA VT x_6 uQ s ub ta XS XT s_5 s_6 x_8 (LR (NY N o0) m_) x_7).trans ?_
  rw[ih]
  rfl
theorem nnE (N:Nat) (x:Rows) (oA:Int) (uQ:Rows) (ih:St→kK) (oO:Int):vC N ih (uy x oA oO uQ)=xE Vm.kd tz (fun oO VT x_6 x_8 x_7=>LR (NY N ih) N (NZ oO x oA VT x_6 x_7 uQ (rI (nth x (Int.toNat oO)) 0) (rI (nth x (Int.toNat oO)) 1) (rI (nth x (Int.toNat oO)) 2) (rI (nth x (Int.toNat oO)) 3) (rI (nth x (Int.toNat oO)) 4) (rI (nth x (Int.toNat oO)) 5) (rI (nth x (Int.toNat oO)) 6) x_8)) x oA uQ (fun oO=>ih (uy x oA oO uQ)) oO:=by kernel_rfl
theorem nnG (N:Nat) (x:Rows) (oA:Int) (uQ:Rows) (m_:Nat):(fun oO=>LR (vC N) m_ (uy x oA oO uQ))=tM Vm.kd tz N x oA uQ m_:=by
 induction m_ with
 | zero=>rfl
 | succ m_ ih=>
  funext oO
  refine (nnE N x oA uQ (LR (vC N) m_) oO).trans ?_
  have e1:=funext fun oO=>funext fun VT=>funext fun x_6=>funext fun x_8=>nnH N (LR (vC N) m_) oO x oA VT x_6 uQ (rI (nth x (Int.toNat oO)) 0) (rI (nth x (Int.toNat oO)) 1) (rI (nth x (Int.toNat oO)) 2) (rI (nth x (Int.toNat oO)) 3) (rI (nth x (Int.toNat oO)) 4) (rI (nth x (Int.toNat oO)) 5) (rI (nth x (Int.toNat oO)) 6) x_8 N
  rw[e1]
  rw[ih]
  rfl
theorem nqh (N:Nat) (t:ni):HU Tryz.prog y3 yZ N Tryz.f149 tA (t.enc++([]))=PB Vm.kd tz N t:=by
 have nmj:HU Tryz.prog y3 yZ N Tryz.f149 tA (t.enc++([]))=PC Vm.kd tz (fun x oA uQ oO=>LR (vC N) N (uy x oA oO uQ)) t:=by kernel_rfl
 refine nmj.trans ?_
 unfold PB
 have e0:(fun x oA uQ oO=>LR (vC N) N (uy x oA oO uQ))=(fun x oA uQ=>tM Vm.kd tz N x oA uQ N):=by
  funext x oA uQ
  exact nnG N x oA uQ N
 exact congrArg (fun l_=>PC Vm.kd tz l_ t) e0
theorem nqg:D9 Tryz.prog 149 tA:=by
 refine ra (A:=yZ) nqi Tryz.func149 fun ds (hw:ka (ni.ct++[]) ds) _=> ?_
 obtain⟨t,ds,rfl,h_t,hw⟩:=ni.nz (r:=_) hw
 obtain rfl:=nr hw
 obtain⟨N,hN⟩:=nqf Vm.kd tz t h_t
 exact⟨N,((nqh N t).trans hN).trans (by kernel_rfl)⟩
def nej:Ctx:=[(33,nH),(250,VF)]
theorem nrK:bE Tryz.prog nej:=Ie pM (Ie nrR JB)
def nei:List (Nat×lB):=[(4, {bZ:=[(1,.mK),(3,.mK)],boxes:=[(64,[])]})]
def nek:Bool→kK:=(fun r0=>((true,[.bool r0]):kK))
def npr (k:Int) (uQ:Rows):St:= {n:=49,sl:=[(1,.ptr 64 0),(3,.int .i64 k)],hp:=[(64,.box 54 [.sl [.i,.i,.i,.i,.i,.i,.i] uQ])],ok:=true,ls:=[],lm:=[]}
theorem nrJ:D9 Tryz.prog 138 tA:=by
 refine ra (A:=nei) nrK Tryz.func138 fun ds (hw:ka (ni.ct++[]) ds) _=> ?_
 obtain⟨t,ds,rfl,h_t,hw⟩:=ni.nz (r:=_) hw
 obtain rfl:=nr hw
 obtain⟨N,hN⟩:=nrI Vm.kd nek t h_t
 exact⟨N,eL (fun l_=>Vy Vm.kd nek l_ t) (funext fun uQ=>nL1 (LQ Tryz.prog nej nei N Tryz.f138 tA [true,true,false,true,false] []) (fun k=>npr k uQ) _ N) hN⟩
def vA:Sum:= {ps:=[⟨nD.ct,true⟩,⟨[.i],false⟩],rs:=[⟨[.d_ .bool],false⟩],fn:=fun ds=>(true,[.bool (yT (nD.nd ds 0) (rI ds 2))])}
def naZ:Ctx:=[(46,nH),(262,zB)]
theorem nnA:bE Tryz.prog naZ:=Ie oQ (Ie nk3 JB)
def naY:List (Nat×lB):=[(4, {bZ:=[(1,.mK),(24,.mK),(25,.mK),(26,.mK)],boxes:=[(128,[])]})]
def na0:Bool→kK:=(fun r0=>((true,[.bool r0]):kK))
def nkP (nx:Int) (x:Rows) (oA oO:Int) (ub:Bytes) (ta:Rows):St:= {n:=36,sl:=[(1,.int .i64 nx),(24,.sl [.i] x),(25,.int .i64 oA),(26,.int .i64 oO)],hp:=[(128,.box 55 [.str ub,.sl [.i] ta])],ok:=true,ls:=[],lm:=[]}
theorem nnz:D9 Tryz.prog 150 vA:=by
 refine ra (A:=naY) nnA Tryz.func150 fun ds (hw:ka (nD.ct++[.i]) ds) _=> ?_
 obtain⟨s,ds,rfl,Nr,hw⟩:=nD.nz (r:=_) hw
 obtain⟨nx,rfl,_⟩:=nw hw
 obtain⟨N,hN⟩:=nny Vm.kd na0 s nx Nr
 exact⟨N,eL (fun l_=>Sk Vm.kd na0 l_ s nx) (funext fun x=>funext fun oA=>nL1 (LQ Tryz.prog naZ naY N Tryz.f150 vA [true,true,false,true,false] []) (fun oO=>nkP nx x oA oO s.Key s.Table) _ N) hN⟩
def nck:Ctx:=[(33,nH),(251,zB)]
theorem npn:bE Tryz.prog nck:=Ie pM (Ie nrN JB)
def ncj:List (Nat×lB):=[(4, {bZ:=[(1,.mK),(2,.mK),(5,.mK)],boxes:=[(128,[])]})]
def ncl:Bool→kK:=(fun r0=>((true,[.bool r0]):kK))
def nmC (nx k:Int) (ub:Bytes) (ta:Rows):St:= {n:=38,sl:=[(1,.int .i64 nx),(2,.ptr 128 0),(5,.int .i64 k)],hp:=[(128,.box 55 [.str ub,.sl [.i] ta])],ok:=true,ls:=[],lm:=[]}
theorem npm:D9 Tryz.prog 139 vA:=by
 refine ra (A:=ncj) npn Tryz.func139 fun ds (hw:ka (nD.ct++[.i]) ds) _=> ?_
 obtain⟨s,ds,rfl,Nr,hw⟩:=nD.nz (r:=_) hw
 obtain⟨nx,rfl,_⟩:=nw hw
 obtain⟨N,hN⟩:=npl Vm.kd ncl s nx Nr
 exact⟨N,eL (fun l_=>SI Vm.kd ncl l_ s nx) (funext fun ta=>nL1 (LQ Tryz.prog nck ncj N Tryz.f139 vA [true,true,false,true,false] []) (fun k=>nmC nx k s.Key ta) _ N) hN⟩
def qX:Sum:= {ps:=[⟨nm.ct,true⟩,⟨[.i],false⟩],rs:=[⟨[.d_ .bool],false⟩],fn:=fun ds=>(true,[.bool (sG (nm.nd ds 0) (rI ds 4))])}
def vS:Ctx:=[(148,wQ),(149,tA),(150,vA)]
theorem niG:bE Tryz.prog vS:=Ie nqc (Ie nqg (Ie nnz JB))
def vR:List (Nat×lB):=[(4, {bZ:=[(1,.mK),(2,.mK),(27,.mK),(28,.mK),(29,.mK)],boxes:=[(128,[])]}),(10, {bZ:=[(1,.mK),(45,.mK),(46,.mK),(47,.mK)],boxes:=[(128,[])]})]
def su:Bool→kK:=(fun r0=>((true,[.bool r0]):kK))
def vd (nx:Int) (x:Rows) (oA oO:Int) (ub ta:Rows) (XS:Bytes) (XT:Rows):St:= {n:=61,sl:=[(1,.int .i64 nx),(2,.ptr 128 0),(27,.sl [.i,.i,.i,.i,.i,.i,.i,.i,.i] x),(28,.int .i64 oA),(29,.int .i64 oO)],hp:=[(128,.box 57 [.sl [.i,.i,.i,.i,.i,.i,.i,.i,.i] ub,.sl [.i,.i,.i,.i,.i,.i,.i] ta,.str XS,.sl [.i] XT])],ok:=true,ls:=[],lm:=[]}
def xh (nx:Int) (ta:Rows) (Sa VT:Int) (ub s_6:Rows) (XS:Bytes) (XT:Rows):St:= {n:=61,sl:=[(1,.int .i64 nx),(45,.sl [.i,.i,.i,.i,.i,.i,.i] ta),(46,.int .i64 Sa),(47,.int .i64 VT)],hp:=[(128,.box 57 [.sl [.i,.i,.i,.i,.i,.i,.i,.i,.i] ub,.sl [.i,.i,.i,.i,.i,.i,.i] s_6,.str XS,.sl [.i] XT])],ok:=true,ls:=[],lm:=[]}
noncomputable def xg (N:Nat):(St→kK)→St→kK:=LQ Tryz.prog vS vR N Tryz.f48 qX [true,true,true,false,true,false] []
noncomputable def va (N:Nat):(St→kK)→St→kK:=LQ Tryz.prog vS vR N Tryz.f48 qX [true,true,false,true,false] []
theorem ngX (N:Nat) (nx:Int) (ta:Rows) (Sa:Int) (ub s_6:Rows) (XS:Bytes) (XT:Rows) (ih:St→kK) (VT:Int):xg N ih (xh nx ta Sa VT ub s_6 XS XT)=vc Vm.kd su nx ta Sa (fun VT=>ih (xh nx ta Sa VT ub s_6 XS XT)) VT:=by kernel_rfl
theorem ngZ (N:Nat) (nx:Int) (ta:Rows) (Sa:Int) (ub s_6:Rows) (XS:Bytes) (XT:Rows) (m_:Nat):(fun VT=>LR (xg N) m_ (xh nx ta Sa VT ub s_6 XS XT))=tc Vm.kd su N nx ta Sa m_:=by
 induction m_ with
 | zero=>rfl
 | succ m_ ih=>
  funext VT
  refine (ngX N nx ta Sa ub s_6 XS XT (LR (xg N) m_) VT).trans ?_
  rw[ih]
  rfl
theorem ngW (N:Nat) (nx:Int) (x:Rows) (oA:Int) (ub ta:Rows) (XS:Bytes) (XT:Rows) (ih:St→kK) (oO:Int):va N ih (vd nx x oA oO ub ta XS XT)=vb Vm.kd su (fun Sa VT=>LR (xg N) N (xh nx ta Sa VT ub ta XS XT)) nx x oA ta (fun oO=>ih (vd nx x oA oO ub ta XS XT)) oO:=by kernel_rfl
theorem ngY (N:Nat) (nx:Int) (x:Rows) (oA:Int) (ub ta:Rows) (XS:Bytes) (XT:Rows) (m_:Nat):(fun oO=>LR (va N) m_ (vd nx x oA oO ub ta XS XT))=tb Vm.kd su N nx x oA ta m_:=by
 induction m_ with
 | zero=>rfl
 | succ m_ ih=>
  funext oO
  refine (ngW N nx x oA ub ta XS XT (LR (va N) m_) oO).trans ?_
  have e1:=funext fun Sa=>ngZ N nx ta Sa ub ta XS XT N
  rw[e1]
  rw[ih]
  rfl
theorem niF (N:Nat) (s:nm) (nx:Int):HU Tryz.prog vS vR N Tryz.f48 qX (s.enc++(.int nx::([])))=yg Vm.kd su N s nx:=by
 have nmj:HU Tryz.prog vS vR N Tryz.f48 qX (s.enc++(.int nx::([])))=yh Vm.kd su (fun x oA ta oO=>LR (va N) N (vd nx x oA oO s.ot ta s.nL.Key s.nL.Table)) s nx:=by kernel_rfl
 refine nmj.trans ?_
 unfold yg
 have e0:(fun x oA ta oO=>LR (va N) N (vd nx x oA oO s.ot ta s.nL.Key s.nL.Table))=(fun x oA ta=>tb Vm.kd su N nx x oA ta N):=by
  funext x oA ta
  exact ngY N nx x oA s.ot ta s.nL.Key s.nL.Table N
 exact congrArg (fun l_=>yh Vm.kd su l_ s nx) e0
theorem niE:D9 Tryz.prog 48 qX:=by
 refine ra (A:=vR) niG Tryz.func48 fun ds (hw:ka (nm.ct++[.i]) ds) _=> ?_
 obtain⟨s,ds,rfl,Nr,hw⟩:=nm.nz (r:=_) hw
 obtain⟨nx,rfl,_⟩:=nw hw
 obtain⟨N,hN⟩:=niD Vm.kd su s nx Nr
 exact⟨N,((niF N s nx).trans hN).trans (by kernel_rfl)⟩
def wh:Ctx:=[(137,wQ),(138,tA),(139,vA)]
theorem nkj:bE Tryz.prog wh:=Ie nrF (Ie nrJ (Ie npm JB))
def wg:List (Nat×lB):=[(4, {bZ:=[(1,.mK),(2,.mK),(5,.mK)],boxes:=[(128,[])]}),(9, {bZ:=[(1,.mK),(2,.mK),(6,.mK)],boxes:=[(128,[])]})]
def sC:Bool→kK:=(fun r0=>((true,[.bool r0]):kK))
def vp (nx k:Int) (ub ta:Rows) (XS:Bytes) (XT:Rows):St:= {n:=56,sl:=[(1,.int .i64 nx),(2,.ptr 128 0),(5,.int .i64 k)],hp:=[(128,.box 57 [.sl [.i,.i,.i,.i,.i,.i,.i,.i,.i] ub,.sl [.i,.i,.i,.i,.i,.i,.i] ta,.str XS,.sl [.i] XT])],ok:=true,ls:=[],lm:=[]}
def xz (nx rN:Int) (ub ta:Rows) (XS:Bytes) (XT:Rows):St:= {n:=56,sl:=[(1,.int .i64 nx),(2,.ptr 128 0),(6,.int .i64 rN)],hp:=[(128,.box 57 [.sl [.i,.i,.i,.i,.i,.i,.i,.i,.i] ub,.sl [.i,.i,.i,.i,.i,.i,.i] ta,.str XS,.sl [.i] XT])],ok:=true,ls:=[],lm:=[]}
noncomputable def xy (N:Nat):(St→kK)→St→kK:=LQ Tryz.prog wh wg N Tryz.f35 qX [true,true,true,false,true,false] []
noncomputable def vm (N:Nat):(St→kK)→St→kK:=LQ Tryz.prog wh wg N Tryz.f35 qX [true,true,false,true,false] []
theorem nh6 (N:Nat) (nx:Int) (ub ta:Rows) (XS:Bytes) (XT:Rows) (ih:St→kK) (rN:Int):xy N ih (xz nx rN ub ta XS XT)=vo Vm.kd sC nx ta (fun rN=>ih (xz nx rN ub ta XS XT)) rN:=by kernel_rfl
theorem nh8 (N:Nat) (nx:Int) (ub ta:Rows) (XS:Bytes) (XT:Rows) (m_:Nat):(fun rN=>LR (xy N) m_ (xz nx rN ub ta XS XT))=tf Vm.kd sC N nx ta m_:=by
 induction m_ with
 | zero=>rfl
 | succ m_ ih=>
  funext rN
  refine (nh6 N nx ub ta XS XT (LR (xy N) m_) rN).trans ?_
  rw[ih]
  rfl
theorem nhZ (N:Nat) (nx:Int) (ub ta:Rows) (XS:Bytes) (XT:Rows) (ih:St→kK) (k:Int):vm N ih (vp nx k ub ta XS XT)=vn Vm.kd sC (fun rN=>LR (xy N) N (xz nx rN ub ta XS XT)) nx ub ta (fun k=>ih (vp nx k ub ta XS XT)) k:=by kernel_rfl
theorem nh7 (N:Nat) (nx:Int) (ub ta:Rows) (XS:Bytes) (XT:Rows) (m_:Nat):(fun k=>LR (vm N) m_ (vp nx k ub ta XS XT))=te Vm.kd sC N nx ub ta m_:=by
 induction m_ with
 | zero=>rfl
 | succ m_ ih=>
  funext k
  refine (nhZ N nx ub ta XS XT (LR (vm N) m_) k).trans ?_
  have e1:=nh8 N nx ub ta XS XT N
  rw[e1]
  rw[ih]
  rfl
theorem nki (N:Nat) (s:nm) (nx:Int):HU Tryz.prog wh wg N Tryz.f35 qX (s.enc++(.int nx::([])))=yH Vm.kd sC N s nx:=by
 have nmj:HU Tryz.prog wh wg N Tryz.f35 qX (s.enc++(.int nx::([])))=yI Vm.kd sC (fun ub ta k=>LR (vm N) N (vp nx k ub ta s.nL.Key s.nL.Table)) s nx:=by kernel_rfl
 refine nmj.trans ?_
 unfold yH
 have e0:(fun ub ta k=>LR (vm N) N (vp nx k ub ta s.nL.Key s.nL.Table))=(fun ub ta=>te Vm.kd sC N nx ub ta N):=by
  funext ub ta
  exact nh7 N nx ub ta s.nL.Key s.nL.Table N
 exact congrArg (fun l_=>yI Vm.kd sC l_ s nx) e0
theorem nkh:D9 Tryz.prog 35 qX:=by
 refine ra (A:=wg) nkj Tryz.func35 fun ds (hw:ka (nm.ct++[.i]) ds) _=> ?_
 obtain⟨s,ds,rfl,Nr,hw⟩:=nm.nz (r:=_) hw
 obtain⟨nx,rfl,_⟩:=nw hw
 obtain⟨N,hN⟩:=nkg Vm.kd sC s nx Nr
 exact⟨N,((nki N s nx).trans hN).trans (by kernel_rfl)⟩
def sN:Sum:= {ps:=[⟨nt.ct,true⟩],rs:=[⟨[.d_ .bool],false⟩],fn:=fun ds=>(TX (nt.nd ds 0),[.bool (yQ (nt.nd ds 0))])}
def Ny:Ctx:=[(46,nH),(47,vx),(48,qX),(147,vD),(160,tr),(208,sO),(209,sr),(210,OU),(211,yY)]
theorem nsj:bE Tryz.prog Ny:=Ie oQ (Ie nno (Ie niE (Ie na7 (Ie Xp (Ie Si (Ie V9 (Ie nuD (Ie nc1 JB))))))))
def Nx:List (Nat×lB):=[(5, {bZ:=[(1,.mK),(3,.mK),(61,.mK),(62,.mK)],boxes:=[(64,[])]}),(12, {bZ:=[(1,.mK),(3,.mK),(103,.mK),(104,.mK),(105,.mK)],boxes:=[(64,[]),(320,[])]})]
def t7:Bool→kK:=(fun r0=>((true,[.bool r0]):kK))
def yX (n x oA:Int) (xS h_2:Rows) (xT xU xV xW xX xY xZ:Int) (rX rY:Rows) (rZ:Int) (pe pI oG qd:Rows) (qk:Int) (ql:Bool) (qe oZ o_:Rows) (oX:Bytes) (pb qf:Rows) (r_:Bool) (qg qh qi:Rows) (qn qo qp qq qs:Int):St:= {n:=117,sl:=[(1,.ptr 64 0),(3,.int .i64 n),(61,.int .i64 x),(62,.int .i64 oA)],hp:=[(64,.box 62 [.sl [.str] xS,.sl [.i,.i,.i,.bool] h_2,.int .i64 xT,.int .i64 xU,.int .i64 xV,.int .i64 xW,.int .i64 xX,.int .i64 xY,.int .i64 xZ,.sl [.i] rX,.sl [.i,.i,.sl [.i]] rY,.int .i64 rZ,.sl [.i,.i,.i,.i,.i,.i,.i,.i,.i,.i,.i,.i,.i,.i,.i,.i,.i,.i,.i,.i,.i,.i,.i,.i,.i,.str,.i,.i,.bool,.i] pe,.sl [.i,.i,.i,.sl [.i]] pI,.sl [.i,.i,.i,.i,.bool,.bool] oG,.sl [.bool] qd,.int .i64 qk,.bool ql,.sl [.i] qe,.sl [.i,.i,.i,.i,.i,.i,.i,.i,.i] oZ,.sl [.i,.i,.i,.i,.i,.i,.i] o_,.str oX,.sl [.i] pb,.sl [.i,.i,.i,.i,.i,.i,.str,.bool] qf,.bool r_,.sl [.str] qg,.sl [.i] qh,.sl [.i] qi,.int .i64 qn,.int .i64 qo,.int .i64 qp,.int .i64 qq,.int .i64 qs])],ok:=true,ls:=[],lm:=[]}
def Pt (n oO x_3:Int) (xS h_2:Rows) (xT xU xV xW xX xY xZ:Int) (rX rY:Rows) (rZ:Int) (pe pI oG qd:Rows) (qk:Int) (ql:Bool) (qe oZ o_:Rows) (oX:Bytes) (pb qf:Rows) (r_:Bool) (qg qh qi:Rows) (qn qo qp qq qs c c_1 c_2 c_3 c_4:Int) (Sa:Rows):St:= {n:=117,sl:=[(1,.ptr 64 0),(3,.int .i64 n),(103,.own 646592),(104,.int .i64 oO),(105,.int .i64 x_3)],hp:=[(64,.box 62 [.sl [.str] xS,.sl [.i,.i,.i,.bool] h_2,.int .i64 xT,.int .i64 xU,.int .i64 xV,.int .i64 xW,.int .i64 xX,.int .i64 xY,.int .i64 xZ,.sl [.i] rX,.sl [.i,.i,.sl [.i]] rY,.int .i64 rZ,.sl [.i,.i,.i,.i,.i,.i,.i,.i,.i,.i,.i,.i,.i,.i,.i,.i,.i,.i,.i,.i,.i,.i,.i,.i,.i,.str,.i,.i,.bool,.i] pe,.sl [.i,.i,.i,.sl [.i]] pI,.sl [.i,.i,.i,.i,.bool,.bool] oG,.sl [.bool] qd,.int .i64 qk,.bool ql,.sl [.i] qe,.sl [.i,.i,.i,.i,.i,.i,.i,.i,.i] oZ,.sl [.i,.i,.i,.i,.i,.i,.i] o_,.str oX,.sl [.i] pb,.sl [.i,.i,.i,.i,.i,.i,.str,.bool] qf,.bool r_,.sl [.str] qg,.sl [.i] qh,.sl [.i] qi,.int .i64 qn,.int .i64 qo,.int .i64 qp,.int .i64 qq,.int .i64 qs]),(320,.box 60 [.int .i64 c,.int .i64 c_1,.int .i64 c_2,.int .i64 c_3,.int .i64 c_4]),(646592,.row 3 [.i] Sa false true)],ok:=true,ls:=[],lm:=[]}
noncomputable def Pr (N:Nat):(St→kK)→St→kK:=LQ Tryz.prog Ny Nx N Tryz.f118 sN [true,true,true,true,true,false,true,false] []
noncomputable def yV (N:Nat):(St→kK)→St→kK:=LQ Tryz.prog Ny Nx N Tryz.f118 sN [true,true,true,false,true,false] []
theorem np6 (N:Nat) (n oO:Int) (xS h_2:Rows) (xT xU xV xW xX xY xZ:Int) (rX rY:Rows) (rZ:Int) (pe pI oG qd:Rows) (qk:Int) (ql:Bool) (qe oZ o_:Rows) (oX:Bytes) (pb qf:Rows) (r_:Bool) (qg qh qi:Rows) (qn qo qp qq qs c c_1 c_2 c_3 c_4:Int) (Sa:Rows) (ih:St→kK) (x_3:Int):Pr N ih (Pt n oO x_3 xS h_2 xT xU xV xW xX xY xZ rX rY rZ pe pI oG qd qk ql qe oZ o_ oX pb qf r_ qg qh qi qn qo qp qq qs c c_1 c_2 c_3 c_4 Sa)=Ps Vm.kd t7 n oO oZ o_ oX pb Sa (fun x_3=>ih (Pt n oO x_3 xS h_2 xT xU xV xW xX xY xZ rX rY rZ pe pI oG qd qk ql qe oZ o_ oX pb qf r_ qg qh qi qn qo qp qq qs c c_1 c_2 c_3 c_4 Sa)) x_3:=by kernel_rfl
theorem np8 (N:Nat) (n oO:Int) (xS h_2:Rows) (xT xU xV xW xX xY xZ:Int) (rX rY:Rows) (rZ:Int) (pe pI oG qd:Rows) (qk:Int) (ql:Bool) (qe oZ o_:Rows) (oX:Bytes) (pb qf:Rows) (r_:Bool) (qg qh qi:Rows) (qn qo qp qq qs c c_1 c_2 c_3 c_4:Int) (Sa:Rows) (m_:Nat):(fun x_3=>LR (Pr N) m_ (Pt n oO x_3 xS h_2 xT xU xV xW xX xY xZ rX rY rZ pe pI oG qd qk ql qe oZ o_ oX pb qf r_ qg qh qi qn qo qp qq qs c c_1 c_2 c_3 c_4 Sa))=u4 Vm.kd t7 N n oO oZ o_ oX pb Sa m_:=by
 induction m_ with
 | zero=>rfl
 | succ m_ ih=>
  funext x_3
  refine (np6 N n oO xS h_2 xT xU xV xW xX xY xZ rX rY rZ pe pI oG qd qk ql qe oZ o_ oX pb qf r_ qg qh qi qn qo qp qq qs c c_1 c_2 c_3 c_4 Sa (LR (Pr N) m_) x_3).trans ?_
  rw[ih]
  rfl
theorem np5 (N:Nat) (n x:Int) (xS h_2:Rows) (xT xU xV xW xX xY xZ:Int) (rX rY:Rows) (rZ:Int) (pe pI oG qd:Rows) (qk:Int) (ql:Bool) (qe oZ o_:Rows) (oX:Bytes) (pb qf:Rows) (r_:Bool) (qg qh qi:Rows) (qn qo qp qq qs:Int) (ih:St→kK) (oA:Int):yV N ih (yX n x oA xS h_2 xT xU xV xW xX xY xZ rX rY rZ pe pI oG qd qk ql qe oZ o_ oX pb qf r_ qg qh qi qn qo qp qq qs)=yW Vm.kd t7 (fun oO Sa x_3=>LR (Pr N) N (Pt n oO x_3 xS h_2 xT xU xV xW xX xY xZ rX rY rZ pe pI oG qd qk ql qe oZ o_ oX pb qf r_ qg qh qi qn qo qp qq qs qn qo qp qq qs Sa)) n x pe pI oG oZ o_ oX pb qn qo qp qq qs (fun oA=>ih (yX n x oA xS h_2 xT xU xV xW xX xY xZ rX rY rZ pe pI oG qd qk ql qe oZ o_ oX pb qf r_ qg qh qi qn qo qp qq qs)) oA:=by kernel_rfl
theorem np7 (N:Nat) (n x:Int) (xS h_2:Rows) (xT xU xV xW xX xY xZ:Int) (rX rY:Rows) (rZ:Int) (pe pI oG qd:Rows) (qk:Int) (ql:Bool) (qe oZ o_:Rows) (oX:Bytes) (pb qf:Rows) (r_:Bool) (qg qh qi:Rows) (qn qo qp qq qs:Int) (m_:Nat):(fun oA=>LR (yV N) m_ (yX n x oA xS h_2 xT xU xV xW xX xY xZ rX rY rZ pe pI oG qd qk ql qe oZ o_ oX pb qf r_ qg qh qi qn qo qp qq qs))=tx Vm.kd t7 N n x pe pI oG oZ o_ oX pb qn qo qp qq qs m_:=by
 induction m_ with
 | zero=>rfl
 | succ m_ ih=>
  funext oA
  refine (np5 N n x xS h_2 xT xU xV xW xX xY xZ rX rY rZ pe pI oG qd qk ql qe oZ o_ oX pb qf r_ qg qh qi qn qo qp qq qs (LR (yV N) m_) oA).trans ?_
  have e1:=funext fun oO=>funext fun Sa=>np8 N n oO xS h_2 xT xU xV xW xX xY xZ rX rY rZ pe pI oG qd qk ql qe oZ o_ oX pb qf r_ qg qh qi qn qo qp qq qs qn qo qp qq qs Sa N
  rw[e1]
  rw[ih]
  rfl
theorem nsi (N:Nat) (h:nt):HU Tryz.prog Ny Nx N Tryz.f118 sN (h.enc++([]))=Rr Vm.kd t7 N h:=by
 have nmj:HU Tryz.prog Ny Nx N Tryz.f118 sN (h.enc++([]))=Rs Vm.kd t7 (fun n x pe pI oG oZ o_ oX pb qn qo qp qq qs oA=>LR (yV N) N (yX n x oA h.nZ.nK h.Maps h.Tx.Ring.oM h.Tx.Ring.nI h.Tx.Ring.Head h.Tx.Ring.sQ h.Tx.nP.oM h.Tx.nP.nI h.Tx.nP.Count h.Tx.nP.pN h.Tx.ny h.Tx.Next pe pI oG h.ox h.Filter.Qj h.Filter.nU h.Filter.pd oZ o_ oX pb h.oF h.pj h.sU h.nY h.oq qn qo qp qq qs)) h:=by kernel_rfl
 refine nmj.trans ?_
 unfold Rr
 have e0:(fun n x pe pI oG oZ o_ oX pb qn qo qp qq qs oA=>LR (yV N) N (yX n x oA h.nZ.nK h.Maps h.Tx.Ring.oM h.Tx.Ring.nI h.Tx.Ring.Head h.Tx.Ring.sQ h.Tx.nP.oM h.Tx.nP.nI h.Tx.nP.Count h.Tx.nP.pN h.Tx.ny h.Tx.Next pe pI oG h.ox h.Filter.Qj h.Filter.nU h.Filter.pd oZ o_ oX pb h.oF h.pj h.sU h.nY h.oq qn qo qp qq qs))=(fun n x pe pI oG oZ o_ oX pb qn qo qp qq qs=>tx Vm.kd t7 N n x pe pI oG oZ o_ oX pb qn qo qp qq qs N):=by
  funext n x pe pI oG oZ o_ oX pb qn qo qp qq qs
  exact np7 N n x h.nZ.nK h.Maps h.Tx.Ring.oM h.Tx.Ring.nI h.Tx.Ring.Head h.Tx.Ring.sQ h.Tx.nP.oM h.Tx.nP.nI h.Tx.nP.Count h.Tx.nP.pN h.Tx.ny h.Tx.Next pe pI oG h.ox h.Filter.Qj h.Filter.nU h.Filter.pd oZ o_ oX pb h.oF h.pj h.sU h.nY h.oq qn qo qp qq qs N
 exact congrArg (fun l_=>Rs Vm.kd t7 l_ h) e0
theorem nsh:D9 Tryz.prog 118 sN:=by
 refine ra (A:=Nx) nsj Tryz.func118 fun ds (hw:ka (nt.ct++[]) ds) aJ=> ?_
 obtain⟨h,ds,rfl,_,hw⟩:=nt.nz (r:=_) hw
 obtain rfl:=nr hw
 obtain⟨N,hN⟩:=nsg Vm.kd t7 h aJ
 exact⟨N,((nsi N h).trans hN).trans (by kernel_rfl)⟩
def NM:Ctx:=[(33,nH),(34,vx),(35,qX),(136,vD),(189,sO),(190,sr),(191,OU),(192,yY),(193,tr)]
theorem ntd:bE Tryz.prog NM:=Ie pM (Ie npa (Ie nkh (Ie ncr (Ie SF (Ie W1 (Ie nuR (Ie nm_ (Ie XU JB))))))))
def NL:List (Nat×lB):=[(5, {bZ:=[(1,.mK),(3,.mK),(4,.mK)],boxes:=[(64,[])]}),(11, {bZ:=[(5,.mK),(6,.mK)],boxes:=[(64,[])]})]
def ua:Bool→kK:=(fun r0=>((true,[.bool r0]):kK))
def zb (n k:Int) (xS h_2:Rows) (xT xU xV xW xX xY xZ:Int) (rX rY:Rows) (rZ:Int) (pe pI oG qd:Rows) (qk:Int) (ql:Bool) (qe oZ o_:Rows) (oX:Bytes) (pb qf:Rows) (r_:Bool) (qg qh qi:Rows) (qn qo qp qq qs:Int):St:= {n:=123,sl:=[(1,.ptr 64 0),(3,.int .i64 n),(4,.int .i64 k)],hp:=[(64,.box 62 [.sl [.str] xS,.sl [.i,.i,.i,.bool] h_2,.int .i64 xT,.int .i64 xU,.int .i64 xV,.int .i64 xW,.int .i64 xX,.int .i64 xY,.int .i64 xZ,.sl [.i] rX,.sl [.i,.i,.sl [.i]] rY,.int .i64 rZ,.sl [.i,.i,.i,.i,.i,.i,.i,.i,.i,.i,.i,.i,.i,.i,.i,.i,.i,.i,.i,.i,.i,.i,.i,.i,.i,.str,.i,.i,.bool,.i] pe,.sl [.i,.i,.i,.sl [.i]] pI,.sl [.i,.i,.i,.i,.bool,.bool] oG,.sl [.bool] qd,.int .i64 qk,.bool ql,.sl [.i] qe,.sl [.i,.i,.i,.i,.i,.i,.i,.i,.i] oZ,.sl [.i,.i,.i,.i,.i,.i,.i] o_,.str oX,.sl [.i] pb,.sl [.i,.i,.i,.i,.i,.i,.str,.bool] qf,.bool r_,.sl [.str] qg,.sl [.i] qh,.sl [.i] qi,.int .i64 qn,.int .i64 qo,.int .i64 qp,.int .i64 qq,.int .i64 qs])],ok:=true,ls:=[],lm:=[]}
def P_ (rN:Int) (xS h_2:Rows) (xT xU xV xW xX xY xZ:Int) (rX rY:Rows) (rZ:Int) (pe pI oG qd:Rows) (qk:Int) (ql:Bool) (qe oZ o_:Rows) (oX:Bytes) (pb qf:Rows) (r_:Bool) (qg qh qi:Rows) (qn qo qp qq qs:Int) (nc:Rows):St:= {n:=123,sl:=[(5,.own 640320),(6,.int .i64 rN)],hp:=[(64,.box 62 [.sl [.str] xS,.sl [.i,.i,.i,.bool] h_2,.int .i64 xT,.int .i64 xU,.int .i64 xV,.int .i64 xW,.int .i64 xX,.int .i64 xY,.int .i64 xZ,.sl [.i] rX,.sl [.i,.i,.sl [.i]] rY,.int .i64 rZ,.sl [.i,.i,.i,.i,.i,.i,.i,.i,.i,.i,.i,.i,.i,.i,.i,.i,.i,.i,.i,.i,.i,.i,.i,.i,.i,.str,.i,.i,.bool,.i] pe,.sl [.i,.i,.i,.sl [.i]] pI,.sl [.i,.i,.i,.i,.bool,.bool] oG,.sl [.bool] qd,.int .i64 qk,.bool ql,.sl [.i] qe,.sl [.i,.i,.i,.i,.i,.i,.i,.i,.i] oZ,.sl [.i,.i,.i,.i,.i,.i,.i] o_,.str oX,.sl [.i] pb,.sl [.i,.i,.i,.i,.i,.i,.str,.bool] qf,.bool r_,.sl [.str] qg,.sl [.i] qh,.sl [.i] qi,.int .i64 qn,.int .i64 qo,.int .i64 qp,.int .i64 qq,.int .i64 qs]),(640320,.row 3 [.i] nc false true)],ok:=true,ls:=[],lm:=[]}
noncomputable def PY (N:Nat):(St→kK)→St→kK:=LQ Tryz.prog NM NL N Tryz.f104 sN [true,true,true,true,true,false,true,false] []
noncomputable def y_ (N:Nat):(St→kK)→St→kK:=LQ Tryz.prog NM NL N Tryz.f104 sN [true,true,true,false,true,false] []
theorem nry (N:Nat) (xS h_2:Rows) (xT xU xV xW xX xY xZ:Int) (rX rY:Rows) (rZ:Int) (pe pI oG qd:Rows) (qk:Int) (ql:Bool) (qe oZ o_:Rows) (oX:Bytes) (pb qf:Rows) (r_:Bool) (qg qh qi:Rows) (qn qo qp qq qs:Int) (nc:Rows) (ih:St→kK) (rN:Int):PY N ih (P_ rN xS h_2 xT xU xV xW xX xY xZ rX rY rZ pe pI oG qd qk ql qe oZ o_ oX pb qf r_ qg qh qi qn qo qp qq qs nc)=PZ Vm.kd ua nc (fun rN=>ih (P_ rN xS h_2 xT xU xV xW xX xY xZ rX rY rZ pe pI oG qd qk ql qe oZ o_ oX pb qf r_ qg qh qi qn qo qp qq qs nc)) rN:=by kernel_rfl
theorem nrA (N:Nat) (xS h_2:Rows) (xT xU xV xW xX xY xZ:Int) (rX rY:Rows) (rZ:Int) (pe pI oG qd:Rows) (qk:Int) (ql:Bool) (qe oZ o_:Rows) (oX:Bytes) (pb qf:Rows) (r_:Bool) (qg qh qi:Rows) (qn qo qp qq qs:Int) (nc:Rows) (m_:Nat):(fun rN=>LR (PY N) m_ (P_ rN xS h_2 xT xU xV xW xX xY xZ rX rY rZ pe pI oG qd qk ql qe oZ o_ oX pb qf r_ qg qh qi qn qo qp qq qs nc))=vh Vm.kd ua N nc m_:=by
 induction m_ with
 | zero=>rfl
 | succ m_ ih=>
  funext rN
  refine (nry N xS h_2 xT xU xV xW xX xY xZ rX rY rZ pe pI oG qd qk ql qe oZ o_ oX pb qf r_ qg qh qi qn qo qp qq qs nc (LR (PY N) m_) rN).trans ?_
  rw[ih]
  rfl
theorem nrx (N:Nat) (n:Int) (xS h_2:Rows) (xT xU xV xW xX xY xZ:Int) (rX rY:Rows) (rZ:Int) (pe pI oG qd:Rows) (qk:Int) (ql:Bool) (qe oZ o_:Rows) (oX:Bytes) (pb qf:Rows) (r_:Bool) (qg qh qi:Rows) (qn qo qp qq qs:Int) (ih:St→kK) (k:Int):y_ N ih (zb n k xS h_2 xT xU xV xW xX xY xZ rX rY rZ pe pI oG qd qk ql qe oZ o_ oX pb qf r_ qg qh qi qn qo qp qq qs)=za Vm.kd ua (fun nc rN=>LR (PY N) N (P_ rN xS h_2 xT xU xV xW xX xY xZ rX rY rZ pe pI oG qd qk ql qe oZ o_ oX pb qf r_ qg qh qi qn qo qp qq qs nc)) n pe pI oG qn qo qp qq qs (fun k=>ih (zb n k xS h_2 xT xU xV xW xX xY xZ rX rY rZ pe pI oG qd qk ql qe oZ o_ oX pb qf r_ qg qh qi qn qo qp qq qs)) k:=by kernel_rfl
theorem nrz (N:Nat) (n:Int) (xS h_2:Rows) (xT xU xV xW xX xY xZ:Int) (rX rY:Rows) (rZ:Int) (pe pI oG qd:Rows) (qk:Int) (ql:Bool) (qe oZ o_:Rows) (oX:Bytes) (pb qf:Rows) (r_:Bool) (qg qh qi:Rows) (qn qo qp qq qs:Int) (m_:Nat):(fun k=>LR (y_ N) m_ (zb n k xS h_2 xT xU xV xW xX xY xZ rX rY rZ pe pI oG qd qk ql qe oZ o_ oX pb qf r_ qg qh qi qn qo qp qq qs))=tI Vm.kd ua N n pe pI oG qn qo qp qq qs m_:=by
 induction m_ with
 | zero=>rfl
 | succ m_ ih=>
  funext k
  refine (nrx N n xS h_2 xT xU xV xW xX xY xZ rX rY rZ pe pI oG qd qk ql qe oZ o_ oX pb qf r_ qg qh qi qn qo qp qq qs (LR (y_ N) m_) k).trans ?_
  have e1:=funext fun nc=>nrA N xS h_2 xT xU xV xW xX xY xZ rX rY rZ pe pI oG qd qk ql qe oZ o_ oX pb qf r_ qg qh qi qn qo qp qq qs nc N
  rw[e1]
  rw[ih]
  rfl
theorem ntc (N:Nat) (h:nt):HU Tryz.prog NM NL N Tryz.f104 sN (h.enc++([]))=RI Vm.kd ua N h:=by
 have nmj:HU Tryz.prog NM NL N Tryz.f104 sN (h.enc++([]))=RJ Vm.kd ua (fun n pe pI oG qn qo qp qq qs k=>LR (y_ N) N (zb n k h.nZ.nK h.Maps h.Tx.Ring.oM h.Tx.Ring.nI h.Tx.Ring.Head h.Tx.Ring.sQ h.Tx.nP.oM h.Tx.nP.nI h.Tx.nP.Count h.Tx.nP.pN h.Tx.ny h.Tx.Next pe pI oG h.ox h.Filter.Qj h.Filter.nU h.Filter.pd h.nh.ot h.nh.Table.nC h.nh.nL.Key h.nh.nL.Table h.oF h.pj h.sU h.nY h.oq qn qo qp qq qs)) h:=by kernel_rfl
 refine nmj.trans ?_
 unfold RI
 have e0:(fun n pe pI oG qn qo qp qq qs k=>LR (y_ N) N (zb n k h.nZ.nK h.Maps h.Tx.Ring.oM h.Tx.Ring.nI h.Tx.Ring.Head h.Tx.Ring.sQ h.Tx.nP.oM h.Tx.nP.nI h.Tx.nP.Count h.Tx.nP.pN h.Tx.ny h.Tx.Next pe pI oG h.ox h.Filter.Qj h.Filter.nU h.Filter.pd h.nh.ot h.nh.Table.nC h.nh.nL.Key h.nh.nL.Table h.oF h.pj h.sU h.nY h.oq qn qo qp qq qs))=(fun n pe pI oG qn qo qp qq qs=>tI Vm.kd ua N n pe pI oG qn qo qp qq qs N):=by
  funext n pe pI oG qn qo qp qq qs
  exact nrz N n h.nZ.nK h.Maps h.Tx.Ring.oM h.Tx.Ring.nI h.Tx.Ring.Head h.Tx.Ring.sQ h.Tx.nP.oM h.Tx.nP.nI h.Tx.nP.Count h.Tx.nP.pN h.Tx.ny h.Tx.Next pe pI oG h.ox h.Filter.Qj h.Filter.nU h.Filter.pd h.nh.ot h.nh.Table.nC h.nh.nL.Key h.nh.nL.Table h.oF h.pj h.sU h.nY h.oq qn qo qp qq qs N
 exact congrArg (fun l_=>RJ Vm.kd ua l_ h) e0
theorem ntb:D9 Tryz.prog 104 sN:=by
 refine ra (A:=NL) ntd Tryz.func104 fun ds (hw:ka (nt.ct++[]) ds) aJ=> ?_
 obtain⟨h,ds,rfl,_,hw⟩:=nt.nz (r:=_) hw
 obtain rfl:=nr hw
 obtain⟨N,hN⟩:=nta Vm.kd ua h aJ
 exact⟨N,((ntc N h).trans hN).trans (by kernel_rfl)⟩
def VD:Sum:= {ps:=[⟨[.i],false⟩,⟨[.int .u8],false⟩],rs:=[⟨[.d_ .str],false⟩],fn:=fun ds=>(Qz (rI ds 0) (rI ds 1),[.str (N3 (rI ds 0) (rI ds 1))])}
def neo:List (Nat×lB):=[(3, {bZ:=[(0,.mK),(1,.mK),(5,.mK),(6,.mK)],boxes:=[]})]
def nep:Bytes→kK:=(fun r0=>((true,[.str r0]):kK))
def nps (n x i:Int) (n7:Rows):St:= {n:=20,sl:=[(0,.int .i64 n),(1,.int .u8 x),(5,.own 640320),(6,.int .i64 i)],hp:=[(640320,.row 5 [.int .u8] n7 false true)],ok:=true,ls:=[],lm:=[]}
theorem nrM:D9 Tryz.prog 140 VD:=by
 refine ra (A:=neo) JB Tryz.func140 fun ds (hw:ka ([.i,.int .u8]) ds) aJ=> ?_
 obtain⟨n,ds,rfl,_,hw⟩:=n8 hw
 obtain⟨x,rfl,h_x⟩:=nw hw
 obtain⟨N,hN⟩:=nrL Vm.kd nep n x h_x aJ
 exact⟨N,eL (fun l_=>VE Vm.kd nep l_ n x) (To (LQ Tryz.prog [] neo N Tryz.f140 VD [true,true,false,true,false] []) (nps n x) _ N) hN⟩
def Xv:Sum:= {ps:=[⟨[.int .u8],false⟩,⟨[.i],false⟩],rs:=[⟨[.d_ .str],false⟩],fn:=fun ds=>(ne2 (rI ds 0) (rI ds 1),[.str (nj0 (rI ds 0) (rI ds 1))])}
def nfV:List (Nat×lB):=[(3, {bZ:=[(0,.mK),(5,.mK),(10,.mK),(11,.mK)],boxes:=[]})]
def nfW:Bytes→kK:=(fun r0=>((true,[.str r0]):kK))
def nqu (b x oA:Int) (n7:Rows):St:= {n:=21,sl:=[(0,.int .u8 b),(5,.own 640320),(10,.int .i64 x),(11,.int .i64 oA)],hp:=[(640320,.row 5 [.int .u8] n7 false true)],ok:=true,ls:=[],lm:=[]}
theorem nss:D9 Tryz.prog 151 Xv:=by
 refine ra (A:=nfV) JB Tryz.func151 fun ds (hw:ka ([.int .u8,.i]) ds) aJ=> ?_
 obtain⟨b,ds,rfl,h_b,hw⟩:=n8 hw
 obtain⟨n,rfl,_⟩:=nw hw
 obtain⟨N,hN⟩:=nsr Vm.kd nfW b n h_b aJ
 exact⟨N,eL (fun l_=>Xw Vm.kd nfW l_ b n) (funext fun x=>To (LQ Tryz.prog [] nfV N Tryz.f151 Xv [true,true,false,true,false] []) (nqu b x) _ N) hN⟩
def TB:Sum:= {ps:=[⟨[.str],false⟩,⟨[.i],false⟩],rs:=[⟨[.d_ .i],false⟩],fn:=fun ds=>(true,[.int (npM (rS ds 0) (rI ds 1))])}
theorem ntX:D9 Tryz.prog 347 TB:=by
 refine nN JB Tryz.func347 fun ds (hw:ka ([.str,.i]) ds) _=> ?_
 obtain⟨s,ds,rfl,Nr,hw⟩:=rU hw
 obtain⟨at_,rfl,Pj⟩:=nw hw
 exact⟨0,eT (ntW Vm.kd (fun r0=>((true,[.int r0]):kK)) s at_ Nr Pj)⟩
def Nh:Sum:= {ps:=[⟨[.str],false⟩,⟨[.i],false⟩,⟨[.i],false⟩],rs:=[⟨[.d_ .bool],false⟩],fn:=fun ds=>(true,[.bool (rE (rS ds 0) (rI ds 1) (rI ds 2))])}
theorem Rg:D9 Tryz.prog 372 Nh:=by
 refine nN JB Tryz.func372 fun ds (hw:ka ([.str,.i,.i]) ds) _=> ?_
 obtain⟨s,ds,rfl,_,hw⟩:=rU hw
 obtain⟨at_,ds,rfl,_,hw⟩:=n8 hw
 obtain⟨n,rfl,_⟩:=nw hw
 exact⟨0,eT (nmE (fun r0=>((true,[.bool r0]):kK)) s at_ n)⟩
def nam:Sum:= {ps:=[⟨[.str],false⟩,⟨[.i],false⟩],rs:=[⟨[.d_ .i],false⟩],fn:=fun ds=>(true,[.int (TL (rS ds 0) (rI ds 1))])}
theorem nj5:D9 Tryz.prog 333 nam:=by
 refine nN (Γ:=[(372,Nh)]) (Ie Rg JB) Tryz.func333 fun ds (hw:ka ([.str,.i]) ds) _=> ?_
 obtain⟨s,ds,rfl,Nr,hw⟩:=rU hw
 obtain⟨at_,rfl,_⟩:=nw hw
 exact⟨0,eT (nuc Vm.kd (fun r0=>((true,[.int r0]):kK)) s at_ Nr)⟩
theorem nue:D9 Tryz.prog 334 TB:=by
 refine nN (Γ:=[(333,nam),(372,Nh)]) (Ie nj5 (Ie Rg JB)) Tryz.func334 fun ds (hw:ka ([.str,.i]) ds) _=> ?_
 obtain⟨s,ds,rfl,Nr,hw⟩:=rU hw
 obtain⟨at_,rfl,Pj⟩:=nw hw
 exact⟨0,eT (nud (fun r0=>((true,[.int r0]):kK)) s at_ Nr Pj)⟩
def q_:Sum:= {ps:=[⟨[.i],false⟩],rs:=[⟨[.d_ .str],false⟩],fn:=fun ds=>(true,[.str (pQ (rI ds 0))])}
theorem wi:D9 Tryz.prog 267 q_:=by
 refine nN (Γ:=[(46,nH)]) (Ie oQ JB) Tryz.func267 fun ds (hw:ka ([.i]) ds) _=> ?_
 obtain⟨v,rfl,_⟩:=nw hw
 exact⟨0,eT (nfQ (fun r0=>((true,[.str r0]):kK)) v)⟩
theorem wv:D9 Tryz.prog 328 q_:=by
 refine nN (Γ:=[(33,nH)]) (Ie pM JB) Tryz.func328 fun ds (hw:ka ([.i]) ds) _=> ?_
 obtain⟨v,rfl,_⟩:=nw hw
 exact⟨0,eT (nfQ (fun r0=>((true,[.str r0]):kK)) v)⟩
def qI:Sum:= {ps:=[⟨[.i],false⟩],rs:=[⟨[.d_ .str],false⟩],fn:=fun ds=>(true,[.str (nW (rI ds 0))])}
theorem t8:D9 Tryz.prog 266 qI:=by
 refine nN (Γ:=[(46,nH)]) (Ie oQ JB) Tryz.func266 fun ds (hw:ka ([.i]) ds) _=> ?_
 obtain⟨v,rfl,_⟩:=nw hw
 exact⟨0,eT (nfP (fun r0=>((true,[.str r0]):kK)) v)⟩
theorem uP:D9 Tryz.prog 307 qI:=by
 refine nN (Γ:=[(33,nH)]) (Ie pM JB) Tryz.func307 fun ds (hw:ka ([.i]) ds) _=> ?_
 obtain⟨v,rfl,_⟩:=nw hw
 exact⟨0,eT (nfP (fun r0=>((true,[.str r0]):kK)) v)⟩
def Pp:Sum:= {ps:=[⟨[.i],false⟩,⟨[.i],false⟩],rs:=[⟨[.d_ .i],false⟩],fn:=fun ds=>(true,[.int (nih (rI ds 0) (rI ds 1))])}
theorem np0:D9 Tryz.prog 396 Pp:=by
 refine nN (Γ:=[(46,nH)]) (Ie oQ JB) Tryz.func396 fun ds (hw:ka ([.i,.i]) ds) _=> ?_
 obtain⟨a,ds,rfl,_,hw⟩:=n8 hw
 obtain⟨b,rfl,_⟩:=nw hw
 exact⟨0,eT (ncK (fun r0=>((true,[.int r0]):kK)) a b)⟩
theorem nrs:D9 Tryz.prog 395 Pp:=by
 refine nN (Γ:=[(33,nH)]) (Ie pM JB) Tryz.func395 fun ds (hw:ka ([.i,.i]) ds) _=> ?_
 obtain⟨a,ds,rfl,_,hw⟩:=n8 hw
 obtain⟨b,rfl,_⟩:=nw hw
 exact⟨0,eT (ncK (fun r0=>((true,[.int r0]):kK)) a b)⟩
def vB:Sum:= {ps:=[⟨[.str],false⟩],rs:=[⟨[.d_ .i],false⟩],fn:=fun ds=>(ss (rS ds 0),[.int (XZ (rS ds 0))])}
def na3:Ctx:=[(396,Pp)]
theorem nnD:bE Tryz.prog na3:=Ie np0 JB
def na2:List (Nat×lB):=[(3, {bZ:=[(0,.mK),(3,.mK),(4,.mK)],boxes:=[]})]
def na4:Int→kK:=(fun r0=>((true,[.int r0]):kK))
def nkQ (s:Bytes) (sum i:Int):St:= {n:=33,sl:=[(0,.str s),(3,.int .i64 sum),(4,.int .i64 i)],hp:=[],ok:=true,ls:=[],lm:=[]}
theorem nnC:D9 Tryz.prog 393 vB:=by
 refine ra (A:=na2) nnD Tryz.func393 fun ds (hw:ka ([.str]) ds) aJ=> ?_
 obtain⟨s,rfl,Nr⟩:=rb hw
 obtain⟨N,hN⟩:=nnB Vm.kd na4 s Nr aJ
 exact⟨N,eL (fun l_=>Sl Vm.kd na4 l_ s) (To (LQ Tryz.prog na3 na2 N Tryz.f393 vB [true,true,false,true,false] []) (nkQ s) _ N) hN⟩
def nco:Ctx:=[(395,Pp)]
theorem npq:bE Tryz.prog nco:=Ie nrs JB
def ncn:List (Nat×lB):=[(3, {bZ:=[(0,.mK),(3,.mK),(4,.mK)],boxes:=[]})]
def ncp:Int→kK:=(fun r0=>((true,[.int r0]):kK))
def nmD (s:Bytes) (sum i:Int):St:= {n:=33,sl:=[(0,.str s),(3,.int .i64 sum),(4,.int .i64 i)],hp:=[],ok:=true,ls:=[],lm:=[]}
theorem npp:D9 Tryz.prog 391 vB:=by
 refine ra (A:=ncn) npq Tryz.func391 fun ds (hw:ka ([.str]) ds) aJ=> ?_
 obtain⟨s,rfl,Nr⟩:=rb hw
 obtain⟨N,hN⟩:=npo Vm.kd ncp s Nr aJ
 exact⟨N,eL (fun l_=>SJ Vm.kd ncp l_ s) (To (LQ Tryz.prog nco ncn N Tryz.f391 vB [true,true,false,true,false] []) (nmD s) _ N) hN⟩
def vv:Sum:= {ps:=[⟨[.str],false⟩],rs:=[⟨[.d_ .i],false⟩],fn:=fun ds=>(ss (rS ds 0),[.int (O1 (rS ds 0))])}
theorem nay:D9 Tryz.prog 384 vv:=by
 refine nN (Γ:=[(393,vB)]) (Ie nnC JB) Tryz.func384 fun ds (hw:ka ([.str]) ds) aJ=> ?_
 obtain⟨s,rfl,_⟩:=rb hw
 exact⟨0,eT (nax Vm.kd (fun r0=>((true,[.int r0]):kK)) s aJ)⟩
theorem nb1:D9 Tryz.prog 374 vv:=by
 refine nN (Γ:=[(391,vB)]) (Ie npp JB) Tryz.func374 fun ds (hw:ka ([.str]) ds) aJ=> ?_
 obtain⟨s,rfl,_⟩:=rb hw
 exact⟨0,eT (nax Vm.kd (fun r0=>((true,[.int r0]):kK)) s aJ)⟩
def uw:Sum:= {ps:=[⟨[.str],false⟩,⟨[.i],false⟩,⟨[.str],false⟩],rs:=[⟨[.d_ .str],false⟩],fn:=fun ds=>(rA (rS ds 0) (rI ds 1) (rS ds 2),[.str (u0 (rS ds 0) (rI ds 1) (rS ds 2))])}
theorem naR:D9 Tryz.prog 385 uw:=by
 refine nN JB Tryz.func385 fun ds (hw:ka ([.str,.i,.str]) ds) aJ=> ?_
 obtain⟨s,ds,rfl,_,hw⟩:=rU hw
 obtain⟨at_,ds,rfl,_,hw⟩:=n8 hw
 obtain⟨part,rfl,_⟩:=rb hw
 exact⟨0,eT (nnv Vm.kd (fun r0=>((true,[.str r0]):kK)) s at_ part aJ)⟩
theorem SH:D9 Tryz.prog 368 uw:=by
 refine nN (Γ:=[(372,Nh)]) (Ie Rg JB) Tryz.func368 fun ds (hw:ka ([.str,.i,.str]) ds) aJ=> ?_
 obtain⟨s,ds,rfl,_,hw⟩:=rU hw
 obtain⟨at_,ds,rfl,_,hw⟩:=n8 hw
 obtain⟨part,rfl,_⟩:=rb hw
 exact⟨0,eT (nph Vm.kd (fun r0=>((true,[.str r0]):kK)) s at_ part aJ)⟩
def wB:Sum:= {ps:=[⟨[.i],false⟩,⟨[.i],false⟩,⟨[.i],false⟩,⟨[.i],false⟩],rs:=[⟨[.d_ .str],false⟩,⟨[.d_ .bool],false⟩],fn:=fun ds=>(true,[.str (rp (rI ds 0) (rI ds 1) (rI ds 2) (rI ds 3)).1]++[.bool (rp (rI ds 0) (rI ds 1) (rI ds 2) (rI ds 3)).2])}
theorem ne6:D9 Tryz.prog 383 wB:=by
 refine nN (Γ:=[(46,nH),(266,qI),(267,q_)]) (Ie oQ (Ie t8 (Ie wi JB))) Tryz.func383 fun ds (hw:ka ([.i,.i,.i,.i]) ds) _=> ?_
 obtain⟨src,ds,rfl,_,hw⟩:=n8 hw
 obtain⟨dst,ds,rfl,_,hw⟩:=n8 hw
 obtain⟨kind,ds,rfl,_,hw⟩:=n8 hw
 obtain⟨length,rfl,_⟩:=nw hw
 exact⟨0,eT (SY Vm.kd (fun r0 r1=>((true,[.str r0]++[.bool r1]):kK)) src dst kind length)⟩
theorem nfC:D9 Tryz.prog 373 wB:=by
 refine nN (Γ:=[(33,nH),(307,qI),(328,q_)]) (Ie pM (Ie uP (Ie wv JB))) Tryz.func373 fun ds (hw:ka ([.i,.i,.i,.i]) ds) _=> ?_
 obtain⟨src,ds,rfl,_,hw⟩:=n8 hw
 obtain⟨dst,ds,rfl,_,hw⟩:=n8 hw
 obtain⟨kind,ds,rfl,_,hw⟩:=n8 hw
 obtain⟨length,rfl,_⟩:=nw hw
 exact⟨0,eT (SY Vm.kd (fun r0 r1=>((true,[.str r0]++[.bool r1]):kK)) src dst kind length)⟩
def nbl:Sum:= {ps:=[⟨[.i],false⟩],rs:=[⟨[.d_ .i],false⟩],fn:=fun ds=>(true,[.int (NN (rI ds 0))])}
theorem nnS:D9 Tryz.prog 386 nbl:=by
 refine nN JB Tryz.func386 fun ds (hw:ka ([.i]) ds) _=> ?_
 obtain⟨kind,rfl,_⟩:=nw hw
 exact⟨0,eT (nnR (fun r0=>((true,[.int r0]):kK)) kind)⟩
def Uf:Sum:= {ps:=[⟨nF.ct,true⟩],rs:=[⟨[.d_ .str],false⟩],fn:=fun ds=>(ntN (nF.nd ds 0),[.str (pH (nF.nd ds 0))])}
theorem ng4:D9 Tryz.prog 382 Uf:=by
 refine nN (Γ:=[(266,qI),(267,q_)]) (Ie t8 (Ie wi JB)) Tryz.func382 fun ds (hw:ka (nF.ct++[]) ds) aJ=> ?_
 obtain⟨g,ds,rfl,_,hw⟩:=nF.nz (r:=_) hw
 obtain rfl:=nr hw
 exact⟨0,eT (ng3 Vm.kd (fun r0=>((true,[.str r0]):kK)) g aJ)⟩
def wA:Sum:= {ps:=[⟨[.i],false⟩,⟨[.i],false⟩,⟨nF.ct,true⟩],rs:=[⟨[.d_ .str],false⟩,⟨[.d_ .bool],false⟩],fn:=fun ds=>(true,[.str (tw (rI ds 0) (rI ds 1) (nF.nd ds 2)).1]++[.bool (tw (rI ds 0) (rI ds 1) (nF.nd ds 2)).2])}
theorem ne5:D9 Tryz.prog 348 wA:=by
 refine nN (Γ:=[(266,qI),(319,uT),(382,Uf),(383,wB),(384,vv),(385,uw),(386,nbl)]) (Ie t8 (Ie Yj (Ie ng4 (Ie ne6 (Ie nay (Ie naR (Ie nnS JB))))))) Tryz.func348 fun ds (hw:ka (.i::(.i::(nF.ct++[]))) ds) _=> ?_
 obtain⟨src,ds,rfl,_,hw⟩:=n8 hw
 obtain⟨dst,ds,rfl,_,hw⟩:=n8 hw
 obtain⟨g,ds,rfl,_,hw⟩:=nF.nz (r:=_) hw
 obtain rfl:=nr hw
 exact⟨0,eT (ne4 Vm.kd (fun r0 r1=>((true,[.str r0]++[.bool r1]):kK)) src dst g)⟩
theorem nfB:D9 Tryz.prog 335 wA:=by
 refine nN (Γ:=[(307,qI),(311,uT),(328,q_),(368,uw),(373,wB),(374,vv)]) (Ie uP (Ie Z0 (Ie wv (Ie SH (Ie nfC (Ie nb1 JB)))))) Tryz.func335 fun ds (hw:ka (.i::(.i::(nF.ct++[]))) ds) _=> ?_
 obtain⟨src,ds,rfl,_,hw⟩:=n8 hw
 obtain⟨dst,ds,rfl,_,hw⟩:=n8 hw
 obtain⟨g,ds,rfl,_,hw⟩:=nF.nz (r:=_) hw
 obtain rfl:=nr hw
 exact⟨0,eT (nfA Vm.kd (fun r0 r1=>((true,[.str r0]++[.bool r1]):kK)) src dst g)⟩
def V4:Sum:= {ps:=[⟨yM.ct,true⟩],rs:=[⟨[.d_ .bool],false⟩],fn:=fun ds=>(true,[.bool (ntJ (yM.nd ds 0))])}
theorem nuB:D9 Tryz.prog 394 V4:=by
 refine nN (Γ:=[(46,nH)]) (Ie oQ JB) Tryz.func394 fun ds (hw:ka (yM.ct++[]) ds) _=> ?_
 obtain⟨d,ds,rfl,_,hw⟩:=yM.nz (r:=_) hw
 obtain rfl:=nr hw
 exact⟨0,eT (nm1 (fun r0=>((true,[.bool r0]):kK)) d)⟩
theorem nuP:D9 Tryz.prog 392 V4:=by
 refine nN (Γ:=[(33,nH)]) (Ie pM JB) Tryz.func392 fun ds (hw:ka (yM.ct++[]) ds) _=> ?_
 obtain⟨d,ds,rfl,_,hw⟩:=yM.nz (r:=_) hw
 obtain rfl:=nr hw
 exact⟨0,eT (nm1 (fun r0=>((true,[.bool r0]):kK)) d)⟩
def NV:Sum:= {ps:=[⟨yM.ct,true⟩],rs:=[⟨[.d_ .str],false⟩,⟨[.d_ .bool],false⟩],fn:=fun ds=>(true,[.str (uZ (yM.nd ds 0)).1]++[.bool (uZ (yM.nd ds 0)).2])}
theorem nnt:D9 Tryz.prog 387 NV:=by
 refine nN (Γ:=[(266,qI),(267,q_),(384,vv),(385,uw),(394,V4)]) (Ie t8 (Ie wi (Ie nay (Ie naR (Ie nuB JB))))) Tryz.func387 fun ds (hw:ka (yM.ct++[]) ds) _=> ?_
 obtain⟨d,ds,rfl,_,hw⟩:=yM.nz (r:=_) hw
 obtain rfl:=nr hw
 exact⟨0,eT (naM Vm.kd (fun r0 r1=>((true,[.str r0]++[.bool r1]):kK)) d)⟩
theorem npf:D9 Tryz.prog 375 NV:=by
 refine nN (Γ:=[(307,qI),(328,q_),(368,uw),(374,vv),(392,V4)]) (Ie uP (Ie wv (Ie SH (Ie nb1 (Ie nuP JB))))) Tryz.func375 fun ds (hw:ka (yM.ct++[]) ds) _=> ?_
 obtain⟨d,ds,rfl,_,hw⟩:=yM.nz (r:=_) hw
 obtain rfl:=nr hw
 exact⟨0,eT (naM Vm.kd (fun r0 r1=>((true,[.str r0]++[.bool r1]):kK)) d)⟩
def Pq:Sum:= {ps:=[⟨yM.ct,true⟩],rs:=[⟨[.d_ .str],false⟩,⟨[.d_ .bool],false⟩],fn:=fun ds=>(true,[.str (Tw (yM.nd ds 0)).1]++[.bool (Tw (yM.nd ds 0)).2])}
theorem np1:D9 Tryz.prog 349 Pq:=by
 refine nN (Γ:=[(387,NV)]) (Ie nnt JB) Tryz.func349 fun ds (hw:ka (yM.ct++[]) ds) _=> ?_
 obtain⟨d,ds,rfl,_,hw⟩:=yM.nz (r:=_) hw
 obtain rfl:=nr hw
 exact⟨0,eT (ncM Vm.kd (fun r0 r1=>((true,[.str r0]++[.bool r1]):kK)) d)⟩
theorem nrt:D9 Tryz.prog 336 Pq:=by
 refine nN (Γ:=[(375,NV)]) (Ie npf JB) Tryz.func336 fun ds (hw:ka (yM.ct++[]) ds) _=> ?_
 obtain⟨d,ds,rfl,_,hw⟩:=yM.nz (r:=_) hw
 obtain rfl:=nr hw
 exact⟨0,eT (ncM Vm.kd (fun r0 r1=>((true,[.str r0]++[.bool r1]):kK)) d)⟩
def Pv:Sum:= {ps:=[⟨[.str],false⟩],rs:=[⟨[.d_ .str],false⟩],fn:=fun ds=>(true,[.str (Rm (rS ds 0))])}
theorem np_:D9 Tryz.prog 351 Pv:=by
 refine nN (Γ:=[(151,Xv)]) (Ie nss JB) Tryz.func351 fun ds (hw:ka ([.str]) ds) _=> ?_
 obtain⟨s,rfl,Nr⟩:=rb hw
 exact⟨0,eT (np9 Vm.kd (fun r0=>((true,[.str r0]):kK)) s Nr)⟩
theorem nrC:D9 Tryz.prog 338 Pv:=by
 refine nN (Γ:=[(140,VD)]) (Ie nrM JB) Tryz.func338 fun ds (hw:ka ([.str]) ds) _=> ?_
 obtain⟨s,rfl,Nr⟩:=rb hw
 exact⟨0,eT (nrB Vm.kd (fun r0=>((true,[.str r0]):kK)) s Nr)⟩
def Tz:Sum:= {ps:=[⟨tV.ct,true⟩],rs:=[⟨[.d_ .bool],false⟩],fn:=fun ds=>(true,[.bool (nii (tV.nd ds 0))])}
theorem ntT:D9 Tryz.prog 366 Tz:=by
 refine nN (Γ:=[(46,nH)]) (Ie oQ JB) Tryz.func366 fun ds (hw:ka (tV.ct++[]) ds) _=> ?_
 obtain⟨e,ds,rfl,_,hw⟩:=tV.nz (r:=_) hw
 obtain rfl:=nr hw
 exact⟨0,eT (niq (fun r0=>((true,[.bool r0]):kK)) e)⟩
theorem nub:D9 Tryz.prog 360 Tz:=by
 refine nN (Γ:=[(33,nH)]) (Ie pM JB) Tryz.func360 fun ds (hw:ka (tV.ct++[]) ds) _=> ?_
 obtain⟨e,ds,rfl,_,hw⟩:=tV.nz (r:=_) hw
 obtain rfl:=nr hw
 exact⟨0,eT (niq (fun r0=>((true,[.bool r0]):kK)) e)⟩
def N0:Sum:= {ps:=[⟨[.i],false⟩],rs:=[⟨[.d_ .str],false⟩],fn:=fun ds=>(true,[.str (rQ (rI ds 0))])}
theorem nnQ:D9 Tryz.prog 388 N0:=by
 refine nN (Γ:=[(266,qI),(267,q_)]) (Ie t8 (Ie wi JB)) Tryz.func388 fun ds (hw:ka ([.i]) ds) _=> ?_
 obtain⟨a,rfl,_⟩:=nw hw
 exact⟨0,eT (nbi Vm.kd (fun r0=>((true,[.str r0]):kK)) a)⟩
theorem nkk:D9 Tryz.prog 376 N0:=by
 refine nN (Γ:=[(307,qI),(328,q_)]) (Ie uP (Ie wv JB)) Tryz.func376 fun ds (hw:ka ([.i]) ds) _=> ?_
 obtain⟨x,rfl,_⟩:=nw hw
 exact⟨0,eT (nbi Vm.kd (fun r0=>((true,[.str r0]):kK)) x)⟩
def NS:Sum:= {ps:=[⟨tV.ct,true⟩],rs:=[⟨[.d_ .str],false⟩,⟨[.d_ .bool],false⟩],fn:=fun ds=>(true,[.str (yP (tV.nd ds 0)).1]++[.bool (yP (tV.nd ds 0)).2])}
theorem nnk:D9 Tryz.prog 350 NS:=by
 refine nN (Γ:=[(266,qI),(366,Tz),(388,N0)]) (Ie t8 (Ie ntT (Ie nnQ JB))) Tryz.func350 fun ds (hw:ka (tV.ct++[]) ds) _=> ?_
 obtain⟨e,ds,rfl,_,hw⟩:=tV.nz (r:=_) hw
 obtain rfl:=nr hw
 exact⟨0,eT (nnj Vm.kd (fun r0 r1=>((true,[.str r0]++[.bool r1]):kK)) e)⟩
theorem no6:D9 Tryz.prog 337 NS:=by
 refine nN (Γ:=[(307,qI),(360,Tz),(376,N0)]) (Ie uP (Ie nub (Ie nkk JB))) Tryz.func337 fun ds (hw:ka (tV.ct++[]) ds) _=> ?_
 obtain⟨e,ds,rfl,_,hw⟩:=tV.nz (r:=_) hw
 obtain rfl:=nr hw
 exact⟨0,eT (no5 Vm.kd (fun r0 r1=>((true,[.str r0]++[.bool r1]):kK)) e)⟩
def vM:Sum:= {ps:=[⟨nQ.ct,true⟩],rs:=[⟨[.d_ .str],false⟩,⟨[.d_ .bool],false⟩],fn:=fun ds=>(true,[.str (oP (nQ.nd ds 0)).1]++[.bool (oP (nQ.nd ds 0)).2])}
theorem VW:D9 Tryz.prog 296 vM:=by
 refine nN (Γ:=[(240,wT),(348,wA),(349,Pq),(350,NS),(351,Pv)]) (Ie nc3 (Ie ne5 (Ie np1 (Ie nnk (Ie np_ JB))))) Tryz.func296 fun ds (hw:ka (nQ.ct++[]) ds) _=> ?_
 obtain⟨p,ds,rfl,_,hw⟩:=nQ.nz (r:=_) hw
 obtain rfl:=nr hw
 exact⟨0,eT (VV (fun r0 r1=>((true,[.str r0]++[.bool r1]):kK)) p)⟩
theorem nj2:D9 Tryz.prog 283 vM:=by
 refine nN (Γ:=[(228,wT),(335,wA),(336,Pq),(337,NS),(338,Pv)]) (Ie nef (Ie nfB (Ie nrt (Ie no6 (Ie nrC JB))))) Tryz.func283 fun ds (hw:ka (nQ.ct++[]) ds) _=> ?_
 obtain⟨p,ds,rfl,_,hw⟩:=nQ.nz (r:=_) hw
 obtain rfl:=nr hw
 exact⟨0,eT (VV (fun r0 r1=>((true,[.str r0]++[.bool r1]):kK)) p)⟩
def niN:Sum:= {ps:=[⟨[.sl [.i,.i,.i,.bool]],false⟩,⟨[.i],false⟩,⟨[.i],false⟩,⟨[.bool],false⟩],rs:=[⟨[.d_ .i],false⟩],fn:=fun ds=>(true,[.int (place (rR ds 0) (rI ds 1) (rI ds 2) (rB ds 3))])}
theorem nt0:D9 Tryz.prog 380 niN:=by
 refine nN (Γ:=[(291,xj)]) (Ie Us JB) Tryz.func380 fun ds (hw:ka ([.sl [.i,.i,.i,.bool],.i,.i,.bool]) ds) _=> ?_
 obtain⟨nc,ds,rfl,rF,hw⟩:=og hw
 obtain⟨domain,ds,rfl,_,hw⟩:=n8 hw
 obtain⟨address,ds,rfl,_,hw⟩:=n8 hw
 obtain⟨write,rfl,_⟩:=R3 hw
 exact⟨0,eT (ntZ Vm.kd (fun r0=>((true,[.int r0]):kK)) nc domain address write rF)⟩
def uM:Sum:= {ps:=[⟨na.ct,true⟩,⟨[.i],false⟩,⟨[.i],false⟩],rs:=[⟨[.d_ .bool],false⟩],fn:=fun ds=>(true,[.bool (within (na.nd ds 0) (rI ds 1) (rI ds 2))])}
theorem XB:D9 Tryz.prog 381 uM:=by
 refine nN (Γ:=[(208,sO)]) (Ie Si JB) Tryz.func381 fun ds hw _=> ?_
 replace hw:ka (na.ct++[.i,.i]) ds:=hw
 obtain⟨m,ds,rfl,_,hw⟩:=na.nz (r:=_) hw
 obtain⟨at_,ds,rfl,_,hw⟩:=n8 hw
 obtain⟨n,rfl,_⟩:=nw hw
 exact⟨0,eT (nsy (fun r0=>((true,[.bool r0]):kK)) m at_ n)⟩
theorem Ri:D9 Tryz.prog 359 uM:=by
 refine nN (Γ:=[(189,sO)]) (Ie SF JB) Tryz.func359 fun ds hw _=> ?_
 replace hw:ka (na.ct++[.i,.i]) ds:=hw
 obtain⟨m,ds,rfl,TS,hw⟩:=na.nz (r:=_) hw
 obtain⟨at_,ds,rfl,Pj,hw⟩:=n8 hw
 obtain⟨n,rfl,h_n⟩:=nw hw
 exact⟨0,eT (nmF (fun r0=>((true,[.bool r0]):kK)) m at_ n TS Pj h_n)⟩
def Oy:Sum:= {ps:=[⟨na.ct,true⟩,⟨[.i],false⟩,⟨[.str],false⟩],rs:=[⟨[.own 9 [.str]],true⟩,⟨[.d_ .bool],false⟩],fn:=fun ds=>(sV (na.nd ds 0) (rI ds 1) (rS ds 2),na.enc (qY (na.nd ds 0) (rI ds 1) (rS ds 2)).1++[.bool (qY (na.nd ds 0) (rI ds 1) (rS ds 2)).2])}
def Uc:Ctx:=[(1125899906842657,J3),(157,tB),(381,uM)]
theorem ng2:bE Tryz.prog Uc:=Ie Lq (Ie uq (Ie XB JB))
def Ub:List (Nat×lB):=[(4, {bZ:=[(1,.mK),(2,.mK),(6,.mK),(8,.mK)],boxes:=[(192,[]),(384,[]),(512,[])]})]
def Ud:na→Bool→kK:=(fun r0 r1=>((true,na.enc r0++[.bool r1]):kK))
def ne7 (sD:Int) (ub:Bytes) (tg oz:Rows):St:= {n:=50,sl:=[(1,.int .i64 sD),(2,.str ub),(6,.ptr 384 0),(8,.ptr 512 0)],hp:=[(192,.box 37 [.sl [.str] tg]),(384,.box 37 [.nil]),(512,.box 37 [.own 1411072]),(1411072,.row 9 [.str] oz false true)],ok:=true,ls:=[],lm:=[]}
theorem ng1:D9 Tryz.prog 369 Oy:=by
 refine ra (A:=Ub) ng2 Tryz.func369 fun ds hw aJ=> ?_
 replace hw:ka (na.ct++[.i,.str]) ds:=hw
 obtain⟨m,ds,rfl,TS,hw⟩:=na.nz (r:=_) hw
 obtain⟨at_,ds,rfl,_,hw⟩:=n8 hw
 obtain⟨s,rfl,_⟩:=rb hw
 obtain⟨N,hN⟩:=ng0 Vm.kd Ud m at_ s TS aJ
 exact⟨N,eL (fun l_=>Oz Vm.kd Ud l_ m at_ s) (nL3 (LQ Tryz.prog Uc Ub N Tryz.f369 Oy [true,true,true,false,false] []) (fun sD ub oz=>ne7 sD ub m.nK oz) _ N) hN⟩
def Rz:Sum:= {ps:=[⟨[.sl [.i,.i,.i,.bool]],false⟩,⟨na.ct,true⟩,⟨[.i],false⟩,⟨[.i],false⟩,⟨[.i],false⟩,⟨[.bool],false⟩],rs:=[⟨[.own 364 [.i,.i]],false⟩,⟨[.d_ .bool],false⟩],fn:=fun ds=>(true,[.sl (sM (rR ds 0) (na.nd ds 1) (rI ds 2) (rI ds 3) (rI ds 4) (rB ds 5)).1]++[.bool (sM (rR ds 0) (na.nd ds 1) (rI ds 2) (rI ds 3) (rI ds 4) (rB ds 5)).2])}
def nfZ:Ctx:=[(46,nH),(208,sO),(209,sr),(380,niN),(381,uM)]
theorem nsu:bE Tryz.prog nfZ:=Ie oQ (Ie Si (Ie V9 (Ie nt0 (Ie XB JB))))
def nfY:List (Nat×lB):=[(8, {bZ:=[(0,.mK),(2,.mK),(3,.mK),(4,.mK),(5,.mK),(7,.mK),(14,.mK)],boxes:=[(448,[])]})]
def nf0:Rows→Bool→kK:=(fun r0 r1=>((true,[.sl r0]++[.bool r1]):kK))
def nqv (nc:Rows) (domain sD n_1:Int) (write:Bool) (tg n7:Rows):St:= {n:=75,sl:=[(0,.sl [.i,.i,.i,.bool] nc),(2,.int .i64 domain),(3,.int .i64 sD),(4,.int .i64 n_1),(5,.bool write),(7,.ptr 448 0),(14,.own 640896)],hp:=[(448,.box 37 [.sl [.str] tg]),(640896,.row 364 [.i,.i] n7 false true)],ok:=true,ls:=[],lm:=[]}
theorem nf2:D9 Tryz.prog 344 Rz:=by
 refine ra (A:=nfY) nsu Tryz.func344 fun ds hw _=> ?_
 replace hw:ka ((.sl [.i,.i,.i,.bool])::(na.ct++[.i,.i,.i,.bool])) ds:=hw
 obtain⟨nc,ds,rfl,_,hw⟩:=og hw
 obtain⟨m,ds,rfl,_,hw⟩:=na.nz (r:=_) hw
 obtain⟨domain,ds,rfl,_,hw⟩:=n8 hw
 obtain⟨at_,ds,rfl,Pj,hw⟩:=n8 hw
 obtain⟨n,ds,rfl,_,hw⟩:=n8 hw
 obtain⟨write,rfl,_⟩:=R3 hw
 obtain⟨N,hN⟩:=nst Vm.kd nf0 nc m domain at_ n write Pj
 exact⟨N,eL (fun l_=>Xx Vm.kd nf0 l_ nc m domain at_ n write) (funext fun tg=>nL3 (LQ Tryz.prog nfZ nfY N Tryz.f344 Rz [true,true,true,true,true,false,false] []) (fun sD n_1 n7=>nqv nc domain sD n_1 write tg n7) _ N) hN⟩
def ng9:Sum:= {ps:=[⟨[.sl [.i,.i,.i,.bool]],false⟩,⟨na.ct,true⟩,⟨[.i],false⟩,⟨[.i],false⟩,⟨[.str],false⟩,⟨[.bool],false⟩],rs:=[⟨[.own 9 [.str]],true⟩,⟨[.d_ .bool],false⟩],fn:=fun ds=>(nt_ (rR ds 0) (na.nd ds 1) (rI ds 2) (rI ds 3) (rS ds 4) (rB ds 5),na.enc (put (rR ds 0) (na.nd ds 1) (rI ds 2) (rI ds 3) (rS ds 4) (rB ds 5)).1++[.bool (put (rR ds 0) (na.nd ds 1) (rI ds 2) (rI ds 3) (rS ds 4) (rB ds 5)).2])}
def nqr:Ctx:=[(157,tB),(344,Rz),(369,Oy)]
theorem nu9:bE Tryz.prog nqr:=Ie uq (Ie nf2 (Ie ng1 JB))
def nqq:List (Nat×lB):=[(6, {bZ:=[(4,.mK),(12,.mK),(14,.mK),(35,.mK),(36,.mK),(37,.mK)],boxes:=[(448,[]),(768,[]),(896,[])]})]
def nqs:na→Bool→kK:=(fun r0 r1=>((true,na.enc r0++[.bool r1]):kK))
def nuF (ub:Bytes) (x oA:Int) (tg oO oz:Rows):St:= {n:=58,sl:=[(4,.str ub),(12,.ptr 768 0),(14,.ptr 896 0),(35,.own 642240),(36,.int .i64 x),(37,.int .i64 oA)],hp:=[(448,.box 37 [.sl [.str] tg]),(768,.box 37 [.nil]),(896,.box 37 [.own 1509376]),(642240,.row 364 [.i,.i] oO false true),(1509376,.row 9 [.str] oz false true)],ok:=true,ls:=[],lm:=[]}
theorem nu8:D9 Tryz.prog 330 ng9:=by
 refine ra (A:=nqq) nu9 Tryz.func330 fun ds hw aJ=> ?_
 replace hw:ka ((.sl [.i,.i,.i,.bool])::(na.ct++[.i,.i,.str,.bool])) ds:=hw
 obtain⟨nc,ds,rfl,_,hw⟩:=og hw
 obtain⟨m,ds,rfl,TS,hw⟩:=na.nz (r:=_) hw
 obtain⟨domain,ds,rfl,_,hw⟩:=n8 hw
 obtain⟨at_,ds,rfl,_,hw⟩:=n8 hw
 obtain⟨s,ds,rfl,Nr,hw⟩:=rU hw
 obtain⟨write,rfl,_⟩:=R3 hw
 obtain⟨N,hN⟩:=nu7 Vm.kd nqs nc m domain at_ s write TS Nr aJ
 exact⟨N,eL (fun l_=>ng_ Vm.kd nqs l_ nc m domain at_ s write) (funext fun x=>funext fun oO=>nL3 (LQ Tryz.prog nqr nqq N Tryz.f330 ng9 [true,true,true,true,false,true,false] []) (fun ub oA oz=>nuF ub x oA m.nK oO oz) _ N) hN⟩
def NU:Sum:= {ps:=[⟨[.sl [.i,.i,.i,.bool]],false⟩,⟨na.ct,true⟩,⟨[.i],false⟩,⟨[.i],false⟩,⟨[.str],false⟩],rs:=[⟨[.own 9 [.str]],true⟩,⟨[.d_ .bool],false⟩],fn:=fun ds=>(sT (rR ds 0) (na.nd ds 1) (rI ds 2) (rI ds 3) (rS ds 4),na.enc (rm (rR ds 0) (na.nd ds 1) (rI ds 2) (rI ds 3) (rS ds 4)).1++[.bool (rm (rR ds 0) (na.nd ds 1) (rI ds 2) (rI ds 3) (rS ds 4)).2])}
theorem Sf:D9 Tryz.prog 269 NU:=by
 refine nN (Γ:=[(330,ng9)]) (Ie nu8 JB) Tryz.func269 fun ds hw aJ=> ?_
 replace hw:ka ((.sl [.i,.i,.i,.bool])::(na.ct++[.i,.i,.str])) ds:=hw
 obtain⟨nc,ds,rfl,_,hw⟩:=og hw
 obtain⟨m,ds,rfl,_,hw⟩:=na.nz (r:=_) hw
 obtain⟨domain,ds,rfl,_,hw⟩:=n8 hw
 obtain⟨at_,ds,rfl,_,hw⟩:=n8 hw
 obtain⟨s,rfl,_⟩:=rb hw
 exact⟨0,eT (nnm Vm.kd (fun r0 r1=>((true,na.enc r0++[.bool r1]):kK)) nc m domain at_ s aJ)⟩
def VH:Sum:= {ps:=[⟨[.sl [.i,.i,.i,.bool]],false⟩,⟨[.i],false⟩,⟨[.i],false⟩,⟨[.bool],false⟩],rs:=[⟨[.d_ .i],false⟩],fn:=fun ds=>(true,[.int (wF (rR ds 0) (rI ds 1) (rI ds 2) (rB ds 3))])}
def neA:List (Nat×lB):=[(2, {bZ:=[(0,.mK),(1,.mK),(2,.mK),(3,.mK),(9,.mK)],boxes:=[]})]
def neB:Int→kK:=(fun r0=>((true,[.int r0]):kK))
def npu (nc:Rows) (domain pr:Int) (write:Bool) (k:Int):St:= {n:=48,sl:=[(0,.sl [.i,.i,.i,.bool] nc),(1,.int .i64 domain),(2,.int .i64 pr),(3,.bool write),(9,.int .i64 k)],hp:=[],ok:=true,ls:=[],lm:=[]}
theorem nrX:D9 Tryz.prog 358 VH:=by
 refine ra (A:=neA) JB Tryz.func358 fun ds (hw:ka ([.sl [.i,.i,.i,.bool],.i,.i,.bool]) ds) _=> ?_
 obtain⟨nc,ds,rfl,rF,hw⟩:=og hw
 obtain⟨domain,ds,rfl,_,hw⟩:=n8 hw
 obtain⟨pr,ds,rfl,_,hw⟩:=n8 hw
 obtain⟨write,rfl,_⟩:=R3 hw
 obtain⟨N,hN⟩:=nrW Vm.kd neB nc domain pr write rF
 exact⟨N,eL (fun l_=>VI Vm.kd neB l_ nc domain pr write) (nL1 (LQ Tryz.prog [] neA N Tryz.f358 VH [true,false,true,false] []) (npu nc domain pr write) _ N) hN⟩
def Oq:Sum:= {ps:=[⟨[.sl [.i,.i,.i,.bool]],false⟩,⟨na.ct,true⟩,⟨[.i],false⟩,⟨[.i],false⟩,⟨[.i],false⟩,⟨[.bool],false⟩],rs:=[⟨[.own 3 [.i]],false⟩,⟨[.own 3 [.i]],false⟩,⟨[.d_ .bool],false⟩],fn:=fun ds=>(true,[.sl (y5 (rR ds 0) (na.nd ds 1) (rI ds 2) (rI ds 3) (rI ds 4) (rB ds 5)).1]++[.sl (y5 (rR ds 0) (na.nd ds 1) (rI ds 2) (rI ds 3) (rI ds 4) (rB ds 5)).2.1]++[.bool (y5 (rR ds 0) (na.nd ds 1) (rI ds 2) (rI ds 3) (rI ds 4) (rB ds 5)).2.2])}
def nct:Ctx:=[(33,nH),(189,sO),(190,sr),(358,VH),(359,uM)]
theorem npw:bE Tryz.prog nct:=Ie pM (Ie SF (Ie W1 (Ie nrX (Ie Ri JB))))
def ncs:List (Nat×lB):=[(5, {bZ:=[(0,.mK),(2,.mK),(3,.mK),(4,.mK),(5,.mK),(7,.mK),(15,.mK),(16,.mK)],boxes:=[(448,[])]})]
def ncu:Rows→Rows→Bool→kK:=(fun r0 r1 r2=>((true,[.sl r0]++[.sl r1]++[.bool r2]):kK))
def nmG (nc:Rows) (domain sD n_1:Int) (write:Bool) (tg starts qv:Rows):St:= {n:=83,sl:=[(0,.sl [.i,.i,.i,.bool] nc),(2,.int .i64 domain),(3,.int .i64 sD),(4,.int .i64 n_1),(5,.bool write),(7,.ptr 448 0),(15,.own 640960),(16,.own 641024)],hp:=[(448,.box 37 [.sl [.str] tg]),(640960,.row 3 [.i] starts false true),(641024,.row 3 [.i] qv false true)],ok:=true,ls:=[],lm:=[]}
theorem ncw:D9 Tryz.prog 301 Oq:=by
 refine ra (A:=ncs) npw Tryz.func301 fun ds hw _=> ?_
 replace hw:ka ((.sl [.i,.i,.i,.bool])::(na.ct++[.i,.i,.i,.bool])) ds:=hw
 obtain⟨nc,ds,rfl,_,hw⟩:=og hw
 obtain⟨m,ds,rfl,TS,hw⟩:=na.nz (r:=_) hw
 obtain⟨domain,ds,rfl,_,hw⟩:=n8 hw
 obtain⟨at_,ds,rfl,Pj,hw⟩:=n8 hw
 obtain⟨n,ds,rfl,_,hw⟩:=n8 hw
 obtain⟨write,rfl,_⟩:=R3 hw
 obtain⟨N,hN⟩:=npv Vm.kd ncu nc m domain at_ n write TS Pj
 exact⟨N,eL (fun l_=>SL Vm.kd ncu l_ nc m domain at_ n write) (funext fun tg=>nL4 (LQ Tryz.prog nct ncs N Tryz.f301 Oq [true,true,true,true,false,false] []) (fun sD n_1 starts qv=>nmG nc domain sD n_1 write tg starts qv) _ N) hN⟩
def uo:Sum:= {ps:=[⟨na.ct,true⟩,⟨[.i],false⟩,⟨[.i],false⟩],rs:=[⟨[.d_ .str],false⟩,⟨[.d_ .bool],false⟩],fn:=fun ds=>(true,[.str (rq (na.nd ds 0) (rI ds 1) (rI ds 2)).1]++[.bool (rq (na.nd ds 0) (rI ds 1) (rI ds 2)).2])}
def Wa:Ctx:=[(381,uM)]
theorem niC:bE Tryz.prog Wa:=Ie XB JB
def V_:List (Nat×lB):=[(4, {bZ:=[(1,.mK),(2,.mK),(3,.mK),(8,.mK)],boxes:=[(192,[])]})]
def Wb:Bytes→Bool→kK:=(fun r0 r1=>((true,[.str r0]++[.bool r1]):kK))
def ngT (sD n:Int) (tg n7:Rows):St:= {n:=50,sl:=[(1,.int .i64 sD),(2,.int .i64 n),(3,.ptr 192 0),(8,.own 640512)],hp:=[(192,.box 37 [.sl [.str] tg]),(640512,.row 5 [.int .u8] n7 false true)],ok:=true,ls:=[],lm:=[]}
theorem niB:D9 Tryz.prog 345 uo:=by
 refine ra (A:=V_) niC Tryz.func345 fun ds hw _=> ?_
 replace hw:ka (na.ct++[.i,.i]) ds:=hw
 obtain⟨m,ds,rfl,TS,hw⟩:=na.nz (r:=_) hw
 obtain⟨at_,ds,rfl,_,hw⟩:=n8 hw
 obtain⟨n,rfl,_⟩:=nw hw
 obtain⟨N,hN⟩:=niA Vm.kd Wb m at_ n TS
 exact⟨N,eL (fun l_=>Pz Vm.kd Wb l_ m at_ n) (funext fun tg=>To (LQ Tryz.prog Wa V_ N Tryz.f345 uo [true,true,true,false,false] []) (fun sD n7=>ngT sD n tg n7) _ N) hN⟩
def W4:Ctx:=[(359,uM)]
theorem nkf:bE Tryz.prog W4:=Ie Ri JB
def W3:List (Nat×lB):=[(4, {bZ:=[(1,.mK),(2,.mK),(3,.mK),(8,.mK)],boxes:=[(192,[])]})]
def W5:Bytes→Bool→kK:=(fun r0 r1=>((true,[.str r0]++[.bool r1]):kK))
def nhW (sD n_1:Int) (n7:Bytes) (tg:Rows):St:= {n:=44,sl:=[(1,.int .i64 sD),(2,.int .i64 n_1),(3,.ptr 192 0),(8,.str n7)],hp:=[(192,.box 37 [.sl [.str] tg])],ok:=true,ls:=[],lm:=[]}
theorem nke:D9 Tryz.prog 302 uo:=by
 refine ra (A:=W3) nkf Tryz.func302 fun ds hw _=> ?_
 replace hw:ka (na.ct++[.i,.i]) ds:=hw
 obtain⟨m,ds,rfl,TS,hw⟩:=na.nz (r:=_) hw
 obtain⟨at_,ds,rfl,_,hw⟩:=n8 hw
 obtain⟨n,rfl,_⟩:=nw hw
 obtain⟨N,hN⟩:=nkd Vm.kd W5 m at_ n TS
 exact⟨N,eL (fun l_=>Qf Vm.kd W5 l_ m at_ n) (funext fun tg=>nL3 (LQ Tryz.prog W4 W3 N Tryz.f302 uo [true,true,true,false,false] []) (fun sD n_1 n7=>nhW sD n_1 n7 tg) _ N) hN⟩
def wO:Sum:= {ps:=[⟨[.sl [.i,.i,.i,.bool]],false⟩,⟨na.ct,true⟩,⟨[.i],false⟩,⟨[.i],false⟩,⟨[.i],false⟩],rs:=[⟨[.d_ .str],false⟩,⟨[.d_ .bool],false⟩],fn:=fun ds=>(true,[.str (ya (rR ds 0) (na.nd ds 1) (rI ds 2) (rI ds 3) (rI ds 4)).1]++[.bool (ya (rR ds 0) (na.nd ds 1) (rI ds 2) (rI ds 3) (rI ds 4)).2])}
def ncP:Ctx:=[(344,Rz),(345,uo)]
theorem np4:bE Tryz.prog ncP:=Ie nf2 (Ie niB JB)
def ncO:List (Nat×lB):=[(6, {bZ:=[(6,.mK),(14,.mK),(30,.mK),(31,.mK),(32,.mK)],boxes:=[(384,[])]})]
def ncQ:Bytes→Bool→kK:=(fun r0 r1=>((true,[.str r0]++[.bool r1]):kK))
def nnl (n7:Bytes) (x oA:Int) (tg oO:Rows):St:= {n:=50,sl:=[(6,.ptr 384 0),(14,.str n7),(30,.own 641920),(31,.int .i64 x),(32,.int .i64 oA)],hp:=[(384,.box 37 [.sl [.str] tg]),(641920,.row 364 [.i,.i] oO false true)],ok:=true,ls:=[],lm:=[]}
theorem np3:D9 Tryz.prog 294 wO:=by
 refine ra (A:=ncO) np4 Tryz.func294 fun ds hw _=> ?_
 replace hw:ka ((.sl [.i,.i,.i,.bool])::(na.ct++[.i,.i,.i])) ds:=hw
 obtain⟨nc,ds,rfl,_,hw⟩:=og hw
 obtain⟨m,ds,rfl,TS,hw⟩:=na.nz (r:=_) hw
 obtain⟨domain,ds,rfl,_,hw⟩:=n8 hw
 obtain⟨at_,ds,rfl,_,hw⟩:=n8 hw
 obtain⟨n,rfl,_⟩:=nw hw
 obtain⟨N,hN⟩:=np2 Vm.kd ncQ nc m domain at_ n TS
 exact⟨N,eL (fun l_=>TY Vm.kd ncQ l_ nc m domain at_ n) (funext fun x=>funext fun tg=>funext fun oO=>To (LQ Tryz.prog ncP ncO N Tryz.f294 wO [true,true,true,true,false,true,false] []) (fun n7 oA=>nnl n7 x oA tg oO) _ N) hN⟩
def nd5:Ctx:=[(301,Oq),(302,uo)]
theorem nrw:bE Tryz.prog nd5:=Ie ncw (Ie nke JB)
def nd4:List (Nat×lB):=[(6, {bZ:=[(6,.mK),(12,.mK),(13,.mK),(15,.mK),(16,.mK)],boxes:=[(384,[])]})]
def nd6:Bytes→Bool→kK:=(fun r0 r1=>((true,[.str r0]++[.bool r1]):kK))
def no7 (n7:Bytes) (k:Int) (tg starts qv:Rows):St:= {n:=54,sl:=[(6,.ptr 384 0),(12,.own 640768),(13,.own 640832),(15,.str n7),(16,.int .i64 k)],hp:=[(384,.box 37 [.sl [.str] tg]),(640768,.row 3 [.i] starts false true),(640832,.row 3 [.i] qv false true)],ok:=true,ls:=[],lm:=[]}
theorem nrv:D9 Tryz.prog 218 wO:=by
 refine ra (A:=nd4) nrw Tryz.func218 fun ds hw _=> ?_
 replace hw:ka ((.sl [.i,.i,.i,.bool])::(na.ct++[.i,.i,.i])) ds:=hw
 obtain⟨nc,ds,rfl,_,hw⟩:=og hw
 obtain⟨m,ds,rfl,TS,hw⟩:=na.nz (r:=_) hw
 obtain⟨domain,ds,rfl,_,hw⟩:=n8 hw
 obtain⟨at_,ds,rfl,_,hw⟩:=n8 hw
 obtain⟨n,rfl,_⟩:=nw hw
 obtain⟨N,hN⟩:=nru Vm.kd nd6 nc m domain at_ n TS
 exact⟨N,eL (fun l_=>Vp Vm.kd nd6 l_ nc m domain at_ n) (funext fun tg=>funext fun starts=>funext fun qv=>To (LQ Tryz.prog nd5 nd4 N Tryz.f218 wO [true,true,true,true,false,true,false] []) (fun n7 k=>no7 n7 k tg starts qv) _ N) hN⟩
def vq:Sum:= {ps:=[⟨na.ct,true⟩],rs:=[⟨[.own 9 [.str]],true⟩],fn:=fun ds=>(s_ (na.nd ds 0),na.enc (oB (na.nd ds 0)))}
theorem w7:D9 Tryz.prog 186 vq:=by
 refine nN JB Tryz.func186 fun ds (hw:ka (na.ct++[]) ds) aJ=> ?_
 obtain⟨m,ds,rfl,_,hw⟩:=na.nz (r:=_) hw
 obtain rfl:=nr hw
 exact⟨0,eT (nrV Vm.kd (fun r0=>((true,na.enc r0):kK)) m aJ)⟩
def ON:Sum:= {ps:=[⟨na.ct,true⟩,⟨[.i],false⟩,⟨[.str],false⟩],rs:=[⟨[.own 9 [.str]],true⟩,⟨[.d_ .bool],false⟩],fn:=fun ds=>(sV (na.nd ds 0) (rI ds 1) (rS ds 2),na.enc (qY (na.nd ds 0) (rI ds 1) (rS ds 2)).1++[.bool (qY (na.nd ds 0) (rI ds 1) (rS ds 2)).2])}
def VA:Ctx:=[(186,vq),(359,uM),(368,uw)]
theorem nia:bE Tryz.prog VA:=Ie w7 (Ie Ri (Ie SH JB))
def Vz:List (Nat×lB):=[(4, {bZ:=[(1,.mK),(2,.mK),(6,.mK),(8,.mK)],boxes:=[(192,[]),(384,[]),(512,[])]})]
def VB:na→Bool→kK:=(fun r0 r1=>((true,na.enc r0++[.bool r1]):kK))
def nfD (sD:Int) (ub:Bytes) (tg oz:Rows):St:= {n:=53,sl:=[(1,.int .i64 sD),(2,.str ub),(6,.ptr 384 0),(8,.ptr 512 0)],hp:=[(192,.box 37 [.sl [.str] tg]),(384,.box 37 [.nil]),(512,.box 37 [.own 1411072]),(1411072,.row 9 [.str] oz false true)],ok:=true,ls:=[],lm:=[]}
theorem nh_:D9 Tryz.prog 325 ON:=by
 refine ra (A:=Vz) nia Tryz.func325 fun ds hw aJ=> ?_
 replace hw:ka (na.ct++[.i,.str]) ds:=hw
 obtain⟨m,ds,rfl,TS,hw⟩:=na.nz (r:=_) hw
 obtain⟨at_,ds,rfl,_,hw⟩:=n8 hw
 obtain⟨s,rfl,_⟩:=rb hw
 obtain⟨N,hN⟩:=nh9 Vm.kd VB m at_ s TS aJ
 exact⟨N,eL (fun l_=>OO Vm.kd VB l_ m at_ s) (nL3 (LQ Tryz.prog VA Vz N Tryz.f325 ON [true,true,true,false,false] []) (fun sD ub oz=>nfD sD ub m.nK oz) _ N) hN⟩
def Oh:Sum:= {ps:=[⟨[.sl [.i,.i,.i,.bool]],false⟩,⟨na.ct,true⟩,⟨[.i],false⟩,⟨[.i],false⟩,⟨[.str],false⟩],rs:=[⟨[.own 9 [.str]],true⟩,⟨[.d_ .bool],false⟩],fn:=fun ds=>(sT (rR ds 0) (na.nd ds 1) (rI ds 2) (rI ds 3) (rS ds 4),na.enc (rm (rR ds 0) (na.nd ds 1) (rI ds 2) (rI ds 3) (rS ds 4)).1++[.bool (rm (rR ds 0) (na.nd ds 1) (rI ds 2) (rI ds 3) (rS ds 4)).2])}
def nb3:Ctx:=[(186,vq),(301,Oq),(325,ON)]
theorem no9:bE Tryz.prog nb3:=Ie w7 (Ie ncw (Ie nh_ JB))
def nb2:List (Nat×lB):=[(6, {bZ:=[(4,.mK),(10,.mK),(12,.mK),(13,.mK),(15,.mK),(16,.mK)],boxes:=[(384,[]),(640,[]),(960,[])]})]
def nb4:na→Bool→kK:=(fun r0 r1=>((true,na.enc r0++[.bool r1]):kK))
def nml (ub:Bytes) (k:Int) (tg starts qv oz:Rows):St:= {n:=61,sl:=[(4,.str ub),(10,.ptr 640 0),(12,.own 640768),(13,.own 640832),(15,.ptr 960 0),(16,.int .i64 k)],hp:=[(384,.box 37 [.sl [.str] tg]),(640,.box 37 [.nil]),(960,.box 37 [.own 1525760]),(640768,.row 3 [.i] starts false true),(640832,.row 3 [.i] qv false true),(1525760,.row 9 [.str] oz false true)],ok:=true,ls:=[],lm:=[]}
theorem nb6:D9 Tryz.prog 252 Oh:=by
 refine ra (A:=nb2) no9 Tryz.func252 fun ds hw aJ=> ?_
 replace hw:ka ((.sl [.i,.i,.i,.bool])::(na.ct++[.i,.i,.str])) ds:=hw
 obtain⟨nc,ds,rfl,_,hw⟩:=og hw
 obtain⟨m,ds,rfl,TS,hw⟩:=na.nz (r:=_) hw
 obtain⟨domain,ds,rfl,_,hw⟩:=n8 hw
 obtain⟨at_,ds,rfl,_,hw⟩:=n8 hw
 obtain⟨s,rfl,Nr⟩:=rb hw
 obtain⟨N,hN⟩:=no8 Vm.kd nb4 nc m domain at_ s TS Nr aJ
 exact⟨N,eL (fun l_=>SC Vm.kd nb4 l_ nc m domain at_ s) (funext fun starts=>funext fun qv=>nL3 (LQ Tryz.prog nb3 nb2 N Tryz.f252 Oh [true,true,true,true,false,true,false] []) (fun ub k oz=>nml ub k m.nK starts qv oz) _ N) hN⟩
def Qi:Sum:= {ps:=[⟨nB.ct,true⟩],rs:=[⟨[.d_ .i,.d_ .bool,.own 3 [.i]],true⟩],fn:=fun ds=>(nin (nB.nd ds 0),nB.enc (oB (nB.nd ds 0)))}
theorem nr3:D9 Tryz.prog 38 Qi:=by
 refine nN JB Tryz.func38 fun ds (hw:ka (nB.ct++[]) ds) aJ=> ?_
 obtain⟨f,ds,rfl,_,hw⟩:=nB.nz (r:=_) hw
 obtain rfl:=nr hw
 exact⟨0,eT (nr2 Vm.kd (fun r0=>((true,nB.enc r0):kK)) f aJ)⟩
theorem niJ:D9 Tryz.prog 51 Qi:=by
 refine nN (Γ:=[(153,vF)]) (Ie xG JB) Tryz.func51 fun ds (hw:ka (nB.ct++[]) ds) aJ=> ?_
 obtain⟨f,ds,rfl,_,hw⟩:=nB.nz (r:=_) hw
 obtain rfl:=nr hw
 exact⟨0,eT (niI Vm.kd (fun r0=>((true,nB.enc r0):kK)) f aJ)⟩
def Qg:Sum:= {ps:=[⟨ni.ct,true⟩],rs:=[⟨[.own 201 [.i,.i,.i,.i,.i,.i,.i]],true⟩],fn:=fun ds=>(nkn (ni.nd ds 0),ni.enc (oB (ni.nd ds 0)))}
theorem nrP:D9 Tryz.prog 142 Qg:=by
 refine nN JB Tryz.func142 fun ds (hw:ka (ni.ct++[]) ds) aJ=> ?_
 obtain⟨t,ds,rfl,_,hw⟩:=ni.nz (r:=_) hw
 obtain rfl:=nr hw
 exact⟨0,eT (nrO Vm.kd (fun r0=>((true,ni.enc r0):kK)) t aJ)⟩
theorem nkX:D9 Tryz.prog 154 Qg:=by
 refine nN JB Tryz.func154 fun ds (hw:ka (ni.ct++[]) ds) aJ=> ?_
 obtain⟨t,ds,rfl,_,hw⟩:=ni.nz (r:=_) hw
 obtain rfl:=nr hw
 exact⟨0,eT (nkW Vm.kd (fun r0=>((true,ni.enc r0):kK)) t aJ)⟩
def Wi:Sum:= {ps:=[⟨nD.ct,true⟩],rs:=[⟨[.d_ .str,.own 3 [.i]],true⟩],fn:=fun ds=>(nuT (nD.nd ds 0),nD.enc (oB (nD.nd ds 0)))}
theorem niM:D9 Tryz.prog 155 Wi:=by
 refine nN (Γ:=[(153,vF)]) (Ie xG JB) Tryz.func155 fun ds (hw:ka (nD.ct++[]) ds) aJ=> ?_
 obtain⟨s,ds,rfl,_,hw⟩:=nD.nz (r:=_) hw
 obtain rfl:=nr hw
 exact⟨0,eT (niL Vm.kd (fun r0=>((true,nD.enc r0):kK)) s aJ)⟩
def Qh:Sum:= {ps:=[⟨nm.ct,true⟩],rs:=[⟨[.own 197 [.i,.i,.i,.i,.i,.i,.i,.i,.i],.own 201 [.i,.i,.i,.i,.i,.i,.i],.d_ .str,.own 3 [.i]],true⟩],fn:=fun ds=>(Z7 (nm.nd ds 0),nm.enc (oB (nm.nd ds 0)))}
theorem nrU:D9 Tryz.prog 39 Qh:=by
 refine nN (Γ:=[(142,Qg)]) (Ie nrP JB) Tryz.func39 fun ds (hw:ka (nm.ct++[]) ds) aJ=> ?_
 obtain⟨s,ds,rfl,_,hw⟩:=nm.nz (r:=_) hw
 obtain rfl:=nr hw
 exact⟨0,eT (nrT Vm.kd (fun r0=>((true,nm.enc r0):kK)) s aJ)⟩
theorem nfa:D9 Tryz.prog 52 Qh:=by
 refine nN (Γ:=[(154,Qg),(155,Wi)]) (Ie nkX (Ie niM JB)) Tryz.func52 fun ds (hw:ka (nm.ct++[]) ds) aJ=> ?_
 obtain⟨s,ds,rfl,_,hw⟩:=nm.nz (r:=_) hw
 obtain rfl:=nr hw
 exact⟨0,eT (ne_ Vm.kd (fun r0=>((true,nm.enc r0):kK)) s aJ)⟩
def S1:Sum:= {ps:=[⟨[.sl [.i,.i,.i,.bool]],false⟩],rs:=[⟨[.own 113 [.i,.i,.i,.bool]],false⟩],fn:=fun ds=>(sm (rR ds 0),[.sl (oB (rR ds 0))])}
theorem ne9:D9 Tryz.prog 204 S1:=by
 refine nN JB Tryz.func204 fun ds (hw:ka ([.sl [.i,.i,.i,.bool]]) ds) aJ=> ?_
 obtain⟨nc,rfl,_⟩:=qm hw
 exact⟨0,eT (ne8 Vm.kd (fun r0=>((true,[.sl r0]):kK)) nc aJ)⟩
def Ul:Sum:= {ps:=[⟨[.sl [.i,.i,.i,.i,.i,.i,.str,.bool]],false⟩],rs:=[⟨[.own 232 [.i,.i,.i,.i,.i,.i,.str,.bool]],false⟩],fn:=fun ds=>(sm (rR ds 0),[.sl (oB (rR ds 0))])}
theorem ng6:D9 Tryz.prog 206 Ul:=by
 refine nN JB Tryz.func206 fun ds (hw:ka ([.sl [.i,.i,.i,.i,.i,.i,.str,.bool]]) ds) aJ=> ?_
 obtain⟨nc,rfl,_⟩:=qm hw
 exact⟨0,eT (ng5 Vm.kd (fun r0=>((true,[.sl r0]):kK)) nc aJ)⟩
def So:Sum:= {ps:=[⟨[.sl [.i,.i,.sl [.i]]],false⟩],rs:=[⟨[.deep 304 [.i,.i,.sl [.i]] [3]],false⟩],fn:=fun ds=>(PX (rR ds 0),[.sl (oB (rR ds 0))])}
def nbf:Ctx:=[(1125899906842630,J3),(1125899906842646,J3),(1125899906842647,J3),(153,vF)]
theorem nnP:bE Tryz.prog nbf:=Ie Lq (Ie Lq (Ie Lq (Ie xG JB)))
def nbe:List (Nat×lB):=[(3, {bZ:=[(3,.mK),(7,.mK),(8,.mK),(9,.mK)],boxes:=[]})]
def nbg:Rows→kK:=(fun r0=>((true,[.sl r0]):kK))
def nkV (nc:Rows) (oA oO:Int) (n7:Rows):St:= {n:=26,sl:=[(3,.own 640192),(7,.sl [.i,.i,.sl [.i]] nc),(8,.int .i64 oA),(9,.int .i64 oO)],hp:=[(640192,.deep 304 [.i,.i,.sl [.i]] [3] n7 none)],ok:=true,ls:=[],lm:=[]}
theorem nnO:D9 Tryz.prog 290 So:=by
 refine ra (A:=nbe) nnP Tryz.func290 fun ds (hw:ka ([.sl [.i,.i,.sl [.i]]]) ds) aJ=> ?_
 obtain⟨nc,rfl,rF⟩:=qm hw
 obtain⟨N,hN⟩:=nnN Vm.kd nbg nc rF aJ
 exact⟨N,eL (fun l_=>Sp Vm.kd nbg l_ nc) (funext fun oA=>To (LQ Tryz.prog nbf nbe N Tryz.f290 So [true,true,false,true,false] []) (nkV nc oA) _ N) hN⟩
def zd:Sum:= {ps:=[⟨nn.ct,true⟩],rs:=[⟨[.d_ .i,.d_ .i,.d_ .i,.d_ .i,.d_ .i,.d_ .i,.d_ .i,.own 3 [.i],.deep 304 [.i,.i,.sl [.i]] [3],.d_ .i],true⟩],fn:=fun ds=>(nr8 (nn.nd ds 0),nn.enc (oB (nn.nd ds 0)))}
def neF:Ctx:=[(1125899906842661,J3),(1125899906842662,J3),(188,tN)]
theorem nr1:bE Tryz.prog neF:=Ie Lq (Ie Lq (Ie VK JB))
def neE:List (Nat×lB):=[(3, {bZ:=[(1,.mK),(2,.mK),(3,.mK),(4,.mK)],boxes:=[(64,[]),(128,[]),(192,[(8,.deep 304 [3])])]})]
def neG:nn→kK:=(fun r0=>((true,nn.enc r0):kK))
def npx (k q_1 q_2 q_3 q_4 q_5 q_6 q_7:Int) (q_8 XR:Rows) (nwi b2 Xf Xg Xh Xi Xj Xk Xl n7 pw px py pz pA pB pC:Int) (zS sL:Rows):St:= {n:=41,sl:=[(1,.ptr 64 0),(2,.ptr 128 0),(3,.ptr 192 0),(4,.int .i64 k)],hp:=[(64,.box 45 [.int .i64 q_1,.int .i64 q_2,.int .i64 q_3,.int .i64 q_4,.int .i64 q_5,.int .i64 q_6,.int .i64 q_7,.sl [.i] q_8,.sl [.i,.i,.sl [.i]] XR,.int .i64 nwi]),(128,.box 45 [.int .i64 b2,.int .i64 Xf,.int .i64 Xg,.int .i64 Xh,.int .i64 Xi,.int .i64 Xj,.int .i64 Xk,.nil,.nil,.int .i64 Xl]),(192,.box 45 [.int .i64 n7,.int .i64 pw,.int .i64 px,.int .i64 py,.int .i64 pz,.int .i64 pA,.int .i64 pB,.own 1329159,.own 1329160,.int .i64 pC]),(1329159,.row 3 [.i] zS false true),(1329160,.deep 304 [.i,.i,.sl [.i]] [3] sL none)],ok:=true,ls:=[],lm:=[]}
theorem nr0:D9 Tryz.prog 187 zd:=by
 refine ra (A:=neE) nr1 Tryz.func187 fun ds (hw:ka (nn.ct++[]) ds) aJ=> ?_
 obtain⟨q,ds,rfl,h_q,hw⟩:=nn.nz (r:=_) hw
 obtain rfl:=nr hw
 obtain⟨N,hN⟩:=nrZ Vm.kd neG q h_q aJ
 exact⟨N,eL (fun l_=>VL Vm.kd neG l_ q) (funext fun XR=>funext fun n7=>funext fun pw=>funext fun px=>funext fun py=>funext fun pz=>funext fun pA=>funext fun pB=>funext fun pC=>funext fun zS=>To (LQ Tryz.prog neF neE N Tryz.f187 zd [true,true,false,true,false] []) (fun k sL=>npx k q.Ring.oM q.Ring.nI q.Ring.Head q.Ring.sQ q.nP.oM q.nP.nI q.nP.Count q.nP.pN XR q.Next 0 0 0 0 0 0 0 0 n7 pw px py pz pA pB pC zS sL) _ N) hN⟩
theorem nso:D9 Tryz.prog 205 zd:=by
 refine nN (Γ:=[(158,tN),(290,So)]) (Ie Sn (Ie nnO JB)) Tryz.func205 fun ds (hw:ka (nn.ct++[]) ds) aJ=> ?_
 obtain⟨q,ds,rfl,_,hw⟩:=nn.nz (r:=_) hw
 obtain rfl:=nr hw
 exact⟨0,eT (nsn Vm.kd (fun r0=>((true,nn.enc r0):kK)) q aJ)⟩
def vE:Sum:= {ps:=[⟨nt.ct,true⟩],rs:=[⟨[.own 9 [.str],.own 113 [.i,.i,.i,.bool],.d_ .i,.d_ .i,.d_ .i,.d_ .i,.d_ .i,.d_ .i,.d_ .i,.own 3 [.i],.deep 304 [.i,.i,.sl [.i]] [3],.d_ .i,.own 123 [.i,.i,.i,.i,.i,.i,.i,.i,.i,.i,.i,.i,.i,.i,.i,.i,.i,.i,.i,.i,.i,.i,.i,.i,.i,.str,.i,.i,.bool,.i],.deep 42 [.i,.i,.i,.sl [.i]] [3],.own 102 [.i,.i,.i,.i,.bool,.bool],.own 4 [.bool],.d_ .i,.d_ .bool,.own 3 [.i],.own 197 [.i,.i,.i,.i,.i,.i,.i,.i,.i],.own 201 [.i,.i,.i,.i,.i,.i,.i],.d_ .str,.own 3 [.i],.own 232 [.i,.i,.i,.i,.i,.i,.str,.bool],.d_ .bool,.own 9 [.str],.own 3 [.i],.own 3 [.i],.d_ .i,.d_ .i,.d_ .i,.d_ .i,.d_ .i],true⟩],fn:=fun ds=>(vu (nt.nd ds 0),nt.enc (oB (nt.nd ds 0)))}
def na_:Ctx:=[(1125899906842648,J3),(1125899906842661,J3),(1125899906842662,J3),(51,Qi),(52,Qh),(153,vF),(157,tB),(158,tN),(204,S1),(205,zd),(206,Ul),(207,OA)]
theorem nnK:bE Tryz.prog na_:=Ie Lq (Ie Lq (Ie Lq (Ie niJ (Ie nfa (Ie xG (Ie uq (Ie Sn (Ie ne9 (Ie nso (Ie ng6 (Ie Un JB)))))))))))
def na9:List (Nat×lB):=[(8, {bZ:=[(1,.mK),(2,.mK),(3,.mK),(27,.mK),(28,.mK),(29,.mK)],boxes:=[(64,[]),(128,[]),(192,[])]})]
def nba:nt→kK:=(fun r0=>((true,nt.enc r0):kK))
def nkU (x:Rows) (oA oO:Int) (xS h_2:Rows) (xT xU xV xW xX xY xZ:Int) (rX rY:Rows) (rZ:Int) (pe pI oG qd:Rows) (qk:Int) (ql:Bool) (qe oZ o_:Rows) (oX:Bytes) (pb qf:Rows) (r_:Bool) (qg qh qi:Rows) (qn qo qp qq qs b2 Xf Xg Xh Xi Xj Xk Xl nab:Int) (nac:Bool) (O6:Bytes) (O7:Bool) (O8 O9 O_ Pa Pb n7 pw px py pz pA pB pC:Int) (sL tG:Rows) (rz:Int) (rH:Bool) (sa sb sd:Rows) (se:Bytes) (sf nvf:Rows) (oH:Bool) (sg sj nvg:Rows) (oN oI re oJ oK:Int) (oz oa oe nT nR oR:Rows):St:= {n:=76,sl:=[(1,.ptr 64 0),(2,.ptr 128 0),(3,.ptr 192 0),(27,.sl [.i,.i,.i,.sl [.i]] x),(28,.int .i64 oA),(29,.int .i64 oO)],hp:=[(64,.box 62 [.sl [.str] xS,.sl [.i,.i,.i,.bool] h_2,.int .i64 xT,.int .i64 xU,.int .i64 xV,.int .i64 xW,.int .i64 xX,.int .i64 xY,.int .i64 xZ,.sl [.i] rX,.sl [.i,.i,.sl [.i]] rY,.int .i64 rZ,.sl [.i,.i,.i,.i,.i,.i,.i,.i,.i,.i,.i,.i,.i,.i,.i,.i,.i,.i,.i,.i,.i,.i,.i,.i,.i,.str,.i,.i,.bool,.i] pe,.sl [.i,.i,.i,.sl [.i]] pI,.sl [.i,.i,.i,.i,.bool,.bool] oG,.sl [.bool] qd,.int .i64 qk,.bool ql,.sl [.i] qe,.sl [.i,.i,.i,.i,.i,.i,.i,.i,.i] oZ,.sl [.i,.i,.i,.i,.i,.i,.i] o_,.str oX,.sl [.i] pb,.sl [.i,.i,.i,.i,.i,.i,.str,.bool] qf,.bool r_,.sl [.str] qg,.sl [.i] qh,.sl [.i] qi,.int .i64 qn,.int .i64 qo,.int .i64 qp,.int .i64 qq,.int .i64 qs]),(128,.box 62 [.nil,.nil,.int .i64 b2,.int .i64 Xf,.int .i64 Xg,.int .i64 Xh,.int .i64 Xi,.int .i64 Xj,.int .i64 Xk,.nil,.nil,.int .i64 Xl,.nil,.nil,.nil,.nil,.int .i64 nab,.bool nac,.nil,.nil,.nil,.str O6,.nil,.nil,.bool O7,.nil,.nil,.nil,.int .i64 O8,.int .i64 O9,.int .i64 O_,.int .i64 Pa,.int .i64 Pb]),(192,.box 62 [.own 1329152,.own 1329153,.int .i64 n7,.int .i64 pw,.int .i64 px,.int .i64 py,.int .i64 pz,.int .i64 pA,.int .i64 pB,.own 1329161,.own 1329162,.int .i64 pC,.own 1329164,.own 1329165,.sl [.i,.i,.i,.i,.bool,.bool] sL,.sl [.bool] tG,.int .i64 rz,.bool rH,.sl [.i] sa,.sl [.i,.i,.i,.i,.i,.i,.i,.i,.i] sb,.sl [.i,.i,.i,.i,.i,.i,.i] sd,.str se,.sl [.i] sf,.sl [.i,.i,.i,.i,.i,.i,.str,.bool] nvf,.bool oH,.sl [.str] sg,.sl [.i] sj,.sl [.i] nvg,.int .i64 oN,.int .i64 oI,.int .i64 re,.int .i64 oJ,.int .i64 oK]),(1329152,.row 9 [.str] oz false true),(1329153,.row 113 [.i,.i,.i,.bool] oa false true),(1329161,.row 3 [.i] oe false true),(1329162,.deep 304 [.i,.i,.sl [.i]] [3] nT none),(1329164,.row 123 [.i,.i,.i,.i,.i,.i,.i,.i,.i,.i,.i,.i,.i,.i,.i,.i,.i,.i,.i,.i,.i,.i,.i,.i,.i,.str,.i,.i,.bool,.i] nR false true),(1329165,.deep 42 [.i,.i,.i,.sl [.i]] [3] oR none)],ok:=true,ls:=[],lm:=[]}
theorem nnJ:D9 Tryz.prog 117 vE:=by
 refine ra (A:=na9) nnK Tryz.func117 fun ds (hw:ka (nt.ct++[]) ds) aJ=> ?_
 obtain⟨h,ds,rfl,h_h,hw⟩:=nt.nz (r:=_) hw
 obtain rfl:=nr hw
 obtain⟨N,hN⟩:=nnI Vm.kd nba h h_h aJ
 exact⟨N,eL (fun l_=>Sm Vm.kd nba l_ h) (funext fun x=>funext fun oA=>funext fun oG=>funext fun qd=>funext fun qk=>funext fun ql=>funext fun qe=>funext fun oZ=>funext fun o_=>funext fun oX=>funext fun pb=>funext fun qf=>funext fun qg=>funext fun qh=>funext fun qi=>funext fun n7=>funext fun pw=>funext fun px=>funext fun py=>funext fun pz=>funext fun pA=>funext fun pB=>funext fun pC=>funext fun oH=>funext fun oN=>funext fun oI=>funext fun re=>funext fun oJ=>funext fun oK=>funext fun oz=>funext fun oa=>funext fun oe=>funext fun nT=>funext fun nR=>To (LQ Tryz.prog na_ na9 N Tryz.f117 vE [true,true,true,true,true,true,true,false,true,false] []) (fun oO oR=>nkU x oA oO h.nZ.nK h.Maps h.Tx.Ring.oM h.Tx.Ring.nI h.Tx.Ring.Head h.Tx.Ring.sQ h.Tx.nP.oM h.Tx.nP.nI h.Tx.nP.Count h.Tx.nP.pN h.Tx.ny h.Tx.Next h.Rx h.n_ oG qd qk ql qe oZ o_ oX pb qf h.pj qg qh qi h.Counters.Frames h.Counters.SN h.Counters.oY h.Counters.pP h.Counters.rW 0 0 0 0 0 0 0 0 0 false [] false 0 0 0 0 0 n7 pw px py pz pA pB pC h.nM h.ox h.Filter.Qj h.Filter.nU h.Filter.pd h.nh.ot h.nh.Table.nC h.nh.nL.Key h.nh.nL.Table h.oF oH h.sU h.nY h.oq oN oI re oJ oK oz oa oe nT nR oR) _ N) hN⟩
def neK:Ctx:=[(1125899906842648,J3),(1125899906842665,J3),(1125899906842666,J3),(38,Qi),(39,Qh),(186,vq),(187,zd),(188,tN)]
theorem nr6:bE Tryz.prog neK:=Ie Lq (Ie Lq (Ie Lq (Ie nr3 (Ie nrU (Ie w7 (Ie nr0 (Ie VK JB)))))))
def neJ:List (Nat×lB):=[(8, {bZ:=[(1,.mK),(2,.mK),(3,.mK),(4,.mK)],boxes:=[(64,[]),(128,[]),(192,[])]})]
def neL:nt→kK:=(fun r0=>((true,nt.enc r0):kK))
def npE (k:Int) (xS h_2:Rows) (xT xU xV xW xX xY xZ:Int) (rX rY:Rows) (rZ:Int) (pe pI oG qd:Rows) (qk:Int) (ql:Bool) (qe oZ o_:Rows) (oX:Bytes) (pb qf:Rows) (r_:Bool) (qg qh qi:Rows) (qn qo qp qq qs b2 Xf Xg Xh Xi Xj Xk Xl nab:Int) (nac:Bool) (O6:Bytes) (O7:Bool) (O8 O9 O_ Pa Pb n7 pw px py pz pA pB pC:Int) (sL tG:Rows) (rz:Int) (rH:Bool) (sa sb sd:Rows) (se:Bytes) (sf nvf:Rows) (oH:Bool) (sg sj nvg:Rows) (oN oI re oJ oK:Int) (oz oa oe nT nR oR:Rows):St:= {n:=83,sl:=[(1,.ptr 64 0),(2,.ptr 128 0),(3,.ptr 192 0),(4,.int .i64 k)],hp:=[(64,.box 62 [.sl [.str] xS,.sl [.i,.i,.i,.bool] h_2,.int .i64 xT,.int .i64 xU,.int .i64 xV,.int .i64 xW,.int .i64 xX,.int .i64 xY,.int .i64 xZ,.sl [.i] rX,.sl [.i,.i,.sl [.i]] rY,.int .i64 rZ,.sl [.i,.i,.i,.i,.i,.i,.i,.i,.i,.i,.i,.i,.i,.i,.i,.i,.i,.i,.i,.i,.i,.i,.i,.i,.i,.str,.i,.i,.bool,.i] pe,.sl [.i,.i,.i,.sl [.i]] pI,.sl [.i,.i,.i,.i,.bool,.bool] oG,.sl [.bool] qd,.int .i64 qk,.bool ql,.sl [.i] qe,.sl [.i,.i,.i,.i,.i,.i,.i,.i,.i] oZ,.sl [.i,.i,.i,.i,.i,.i,.i] o_,.str oX,.sl [.i] pb,.sl [.i,.i,.i,.i,.i,.i,.str,.bool] qf,.bool r_,.sl [.str] qg,.sl [.i] qh,.sl [.i] qi,.int .i64 qn,.int .i64 qo,.int .i64 qp,.int .i64 qq,.int .i64 qs]),(128,.box 62 [.nil,.nil,.int .i64 b2,.int .i64 Xf,.int .i64 Xg,.int .i64 Xh,.int .i64 Xi,.int .i64 Xj,.int .i64 Xk,.nil,.nil,.int .i64 Xl,.nil,.nil,.nil,.nil,.int .i64 nab,.bool nac,.nil,.nil,.nil,.str O6,.nil,.nil,.bool O7,.nil,.nil,.nil,.int .i64 O8,.int .i64 O9,.int .i64 O_,.int .i64 Pa,.int .i64 Pb]),(192,.box 62 [.own 1329152,.own 1329153,.int .i64 n7,.int .i64 pw,.int .i64 px,.int .i64 py,.int .i64 pz,.int .i64 pA,.int .i64 pB,.own 1329161,.own 1329162,.int .i64 pC,.own 1329164,.own 1329165,.sl [.i,.i,.i,.i,.bool,.bool] sL,.sl [.bool] tG,.int .i64 rz,.bool rH,.sl [.i] sa,.sl [.i,.i,.i,.i,.i,.i,.i,.i,.i] sb,.sl [.i,.i,.i,.i,.i,.i,.i] sd,.str se,.sl [.i] sf,.sl [.i,.i,.i,.i,.i,.i,.str,.bool] nvf,.bool oH,.sl [.str] sg,.sl [.i] sj,.sl [.i] nvg,.int .i64 oN,.int .i64 oI,.int .i64 re,.int .i64 oJ,.int .i64 oK]),(1329152,.row 9 [.str] oz false true),(1329153,.row 113 [.i,.i,.i,.bool] oa false true),(1329161,.row 3 [.i] oe false true),(1329162,.deep 304 [.i,.i,.sl [.i]] [3] nT none),(1329164,.row 123 [.i,.i,.i,.i,.i,.i,.i,.i,.i,.i,.i,.i,.i,.i,.i,.i,.i,.i,.i,.i,.i,.i,.i,.i,.i,.str,.i,.i,.bool,.i] nR false true),(1329165,.deep 42 [.i,.i,.i,.sl [.i]] [3] oR none)],ok:=true,ls:=[],lm:=[]}
theorem nr5:D9 Tryz.prog 103 vE:=by
 refine ra (A:=neJ) nr6 Tryz.func103 fun ds (hw:ka (nt.ct++[]) ds) aJ=> ?_
 obtain⟨h,ds,rfl,h_h,hw⟩:=nt.nz (r:=_) hw
 obtain rfl:=nr hw
 obtain⟨N,hN⟩:=nr4 Vm.kd neL h h_h aJ
 exact⟨N,eL (fun l_=>VM Vm.kd neL l_ h) (funext fun pI=>funext fun oG=>funext fun qd=>funext fun qk=>funext fun ql=>funext fun qe=>funext fun oZ=>funext fun o_=>funext fun oX=>funext fun pb=>funext fun qf=>funext fun qg=>funext fun qh=>funext fun qi=>funext fun n7=>funext fun pw=>funext fun px=>funext fun py=>funext fun pz=>funext fun pA=>funext fun pB=>funext fun pC=>funext fun oH=>funext fun oN=>funext fun oI=>funext fun re=>funext fun oJ=>funext fun oK=>funext fun oz=>funext fun oa=>funext fun oe=>funext fun nT=>funext fun nR=>To (LQ Tryz.prog neK neJ N Tryz.f103 vE [true,true,true,true,true,true,true,false,true,false] []) (fun k oR=>npE k h.nZ.nK h.Maps h.Tx.Ring.oM h.Tx.Ring.nI h.Tx.Ring.Head h.Tx.Ring.sQ h.Tx.nP.oM h.Tx.nP.nI h.Tx.nP.Count h.Tx.nP.pN h.Tx.ny h.Tx.Next h.Rx pI oG qd qk ql qe oZ o_ oX pb qf h.pj qg qh qi h.Counters.Frames h.Counters.SN h.Counters.oY h.Counters.pP h.Counters.rW 0 0 0 0 0 0 0 0 0 false [] false 0 0 0 0 0 n7 pw px py pz pA pB pC h.nM h.ox h.Filter.Qj h.Filter.nU h.Filter.pd h.nh.ot h.nh.Table.nC h.nh.nL.Key h.nh.nL.Table h.oF oH h.sU h.nY h.oq oN oI re oJ oK oz oa oe nT nR oR) _ N) hN⟩
def nir:Sum:= {ps:=[⟨[.str],false⟩,⟨[.i],false⟩],rs:=[⟨[.d_ .i],false⟩],fn:=fun ds=>(true,[.int (TL (rS ds 0) (rI ds 1))])}
theorem ntV:D9 Tryz.prog 346 nir:=by
 refine nN JB Tryz.func346 fun ds (hw:ka ([.str,.i]) ds) _=> ?_
 obtain⟨s,ds,rfl,Nr,hw⟩:=rU hw
 obtain⟨at_,rfl,_⟩:=nw hw
 exact⟨0,eT (ntU Vm.kd (fun r0=>((true,[.int r0]):kK)) s at_ Nr)⟩
def Rq:Sum:= {ps:=[⟨rh.ct,true⟩],rs:=[⟨[.d_ .bool],false⟩],fn:=fun ds=>(true,[.bool (ntH (rh.nd ds 0))])}
theorem nsf:D9 Tryz.prog 265 Rq:=by
 refine nN (Γ:=[(46,nH)]) (Ie oQ JB) Tryz.func265 fun ds (hw:ka (rh.ct++[]) ds) _=> ?_
 obtain⟨x,ds,rfl,_,hw⟩:=rh.nz (r:=_) hw
 obtain rfl:=nr hw
 exact⟨0,eT (nfE (fun r0=>((true,[.bool r0]):kK)) x)⟩
theorem ns9:D9 Tryz.prog 327 Rq:=by
 refine nN (Γ:=[(33,nH)]) (Ie pM JB) Tryz.func327 fun ds (hw:ka (rh.ct++[]) ds) _=> ?_
 obtain⟨x,ds,rfl,_,hw⟩:=rh.nz (r:=_) hw
 obtain rfl:=nr hw
 exact⟨0,eT (nfE (fun r0=>((true,[.bool r0]):kK)) x)⟩
def xf:Sum:= {ps:=[⟨oc.ct,true⟩,⟨[.i],false⟩],rs:=[⟨[.d_ .i],false⟩],fn:=fun ds=>(true,[.int (ud (oc.nd ds 0) (rI ds 4))])}
theorem ngV:D9 Tryz.prog 270 xf:=by
 refine nN (Γ:=[(159,tu)]) (Ie Rt JB) Tryz.func270 fun ds (hw:ka (oc.ct++[.i]) ds) _=> ?_
 obtain⟨r,ds,rfl,_,hw⟩:=oc.nz (r:=_) hw
 obtain⟨count,rfl,_⟩:=nw hw
 exact⟨0,eT (ngU Vm.kd (fun r0=>((true,[.int r0]):kK)) r count)⟩
theorem nhY:D9 Tryz.prog 281 xf:=by
 refine nN (Γ:=[(253,tu)]) (Ie RL JB) Tryz.func281 fun ds (hw:ka (oc.ct++[.i]) ds) _=> ?_
 obtain⟨r,ds,rfl,_,hw⟩:=oc.nz (r:=_) hw
 obtain⟨count,rfl,_⟩:=nw hw
 exact⟨0,eT (nhX Vm.kd (fun r0=>((true,[.int r0]):kK)) r count)⟩
def yc:Sum:= {ps:=[⟨rh.ct,true⟩],rs:=[⟨[.d_ .str],false⟩],fn:=fun ds=>(true,[.str (TJ (rh.nd ds 0))])}
theorem nip:D9 Tryz.prog 161 yc:=by
 refine nN (Γ:=[(265,Rq),(266,qI),(267,q_)]) (Ie nsf (Ie t8 (Ie wi JB))) Tryz.func161 fun ds (hw:ka (rh.ct++[]) ds) _=> ?_
 obtain⟨x,ds,rfl,_,hw⟩:=rh.nz (r:=_) hw
 obtain rfl:=nr hw
 exact⟨0,eT (V2 Vm.kd (fun r0=>((true,[.str r0]):kK)) x)⟩
theorem nj4:D9 Tryz.prog 256 yc:=by
 refine nN (Γ:=[(307,qI),(327,Rq),(328,q_)]) (Ie uP (Ie ns9 (Ie wv JB))) Tryz.func256 fun ds (hw:ka (rh.ct++[]) ds) _=> ?_
 obtain⟨x,ds,rfl,_,hw⟩:=rh.nz (r:=_) hw
 obtain rfl:=nr hw
 exact⟨0,eT (V2 Vm.kd (fun r0=>((true,[.str r0]):kK)) x)⟩
def vN:Sum:= {ps:=[⟨[.str],false⟩],rs:=[⟨[.d_ .i,.d_ .i,.d_ .i,.d_ .i,.d_ .i,.d_ .i],true⟩,⟨[.d_ .bool],false⟩],fn:=fun ds=>(true,rh.enc (pc (rS ds 0)).1++[.bool (pc (rS ds 0)).2])}
theorem VZ:D9 Tryz.prog 295 vN:=by
 refine nN (Γ:=[(161,yc),(346,nir),(347,TB)]) (Ie nip (Ie ntV (Ie ntX JB))) Tryz.func295 fun ds (hw:ka ([.str]) ds) _=> ?_
 obtain⟨s,rfl,_⟩:=rb hw
 exact⟨0,eT (VY Vm.kd (fun r0 r1=>((true,rh.enc r0++[.bool r1]):kK)) s)⟩
theorem nj3:D9 Tryz.prog 282 vN:=by
 refine nN (Γ:=[(256,yc),(333,nam),(334,TB)]) (Ie nj4 (Ie nj5 (Ie nue JB))) Tryz.func282 fun ds (hw:ka ([.str]) ds) _=> ?_
 obtain⟨s,rfl,_⟩:=rb hw
 exact⟨0,eT (VY Vm.kd (fun r0 r1=>((true,rh.enc r0++[.bool r1]):kK)) s)⟩
def xD:Sum:= {ps:=[⟨[.sl [.i,.i,.i,.bool]],false⟩,⟨na.ct,true⟩,⟨[.i],false⟩,⟨oc.ct,true⟩],rs:=[⟨[.d_ .str],false⟩,⟨[.d_ .i,.d_ .i,.d_ .i,.d_ .i],true⟩,⟨[.d_ .bool],false⟩],fn:=fun ds=>(true,[.str (qN (rR ds 0) (na.nd ds 1) (rI ds 2) (oc.nd ds 3)).1]++oc.enc (qN (rR ds 0) (na.nd ds 1) (rI ds 2) (oc.nd ds 3)).2.1++[.bool (qN (rR ds 0) (na.nd ds 1) (rI ds 2) (oc.nd ds 3)).2.2])}
theorem naU:D9 Tryz.prog 212 xD:=by
 refine nN (Γ:=[(159,tu),(264,vz),(270,xf),(294,wO)]) (Ie Rt (Ie naW (Ie ngV (Ie np3 JB)))) Tryz.func212 fun ds hw _=> ?_
 replace hw:ka ((.sl [.i,.i,.i,.bool])::(na.ct++(.i::(oc.ct++[])))) ds:=hw
 obtain⟨nc,ds,rfl,_,hw⟩:=og hw
 obtain⟨m,ds,rfl,_,hw⟩:=na.nz (r:=_) hw
 obtain⟨domain,ds,rfl,_,hw⟩:=n8 hw
 obtain⟨r,ds,rfl,_,hw⟩:=oc.nz (r:=_) hw
 obtain rfl:=nr hw
 exact⟨0,eT (naT Vm.kd (fun r0 r1 r2=>((true,[.str r0]++oc.enc r1++[.bool r2]):kK)) nc m domain r)⟩
theorem npi:D9 Tryz.prog 194 xD:=by
 refine nN (Γ:=[(218,wO),(253,tu),(280,vz),(281,xf)]) (Ie nrv (Ie RL (Ie nch (Ie nhY JB)))) Tryz.func194 fun ds hw _=> ?_
 replace hw:ka ((.sl [.i,.i,.i,.bool])::(na.ct++(.i::(oc.ct++[])))) ds:=hw
 obtain⟨nc,ds,rfl,_,hw⟩:=og hw
 obtain⟨m,ds,rfl,_,hw⟩:=na.nz (r:=_) hw
 obtain⟨domain,ds,rfl,_,hw⟩:=n8 hw
 obtain⟨r,ds,rfl,_,hw⟩:=oc.nz (r:=_) hw
 obtain rfl:=nr hw
 exact⟨0,eT (naT Vm.kd (fun r0 r1 r2=>((true,[.str r0]++oc.enc r1++[.bool r2]):kK)) nc m domain r)⟩
def tK:Sum:= {ps:=[⟨nG.ct,true⟩],rs:=[⟨[.d_ .bool],false⟩],fn:=fun ds=>(true,[.bool (uI (nG.nd ds 0))])}
theorem SR:D9 Tryz.prog 354 tK:=by
 refine nN (Γ:=[(46,nH)]) (Ie oQ JB) Tryz.func354 fun ds (hw:ka (nG.ct++[]) ds) _=> ?_
 obtain⟨x,ds,rfl,_,hw⟩:=nG.nz (r:=_) hw
 obtain rfl:=nr hw
 exact⟨0,eT (SQ (fun r0=>((true,[.bool r0]):kK)) x)⟩
theorem Tq:D9 Tryz.prog 339 tK:=by
 refine nN (Γ:=[(33,nH)]) (Ie pM JB) Tryz.func339 fun ds (hw:ka (nG.ct++[]) ds) _=> ?_
 obtain⟨x,ds,rfl,_,hw⟩:=nG.nz (r:=_) hw
 obtain rfl:=nr hw
 exact⟨0,eT (SQ (fun r0=>((true,[.bool r0]):kK)) x)⟩
def uk:Sum:= {ps:=[⟨nG.ct,true⟩,⟨[.i],false⟩],rs:=[⟨[.d_ .str],false⟩],fn:=fun ds=>(true,[.str (qT (nG.nd ds 0) (rI ds 5))])}
theorem X4:D9 Tryz.prog 356 uk:=by
 refine nN (Γ:=[(46,nH),(266,qI),(267,q_),(354,tK)]) (Ie oQ (Ie t8 (Ie wi (Ie SR JB)))) Tryz.func356 fun ds (hw:ka (nG.ct++[.i]) ds) _=> ?_
 obtain⟨x,ds,rfl,_,hw⟩:=nG.nz (r:=_) hw
 obtain⟨phase,rfl,_⟩:=nw hw
 exact⟨0,eT (OS Vm.kd (fun r0=>((true,[.str r0]):kK)) x phase)⟩
theorem ZN:D9 Tryz.prog 340 uk:=by
 refine nN (Γ:=[(33,nH),(307,qI),(328,q_),(339,tK)]) (Ie pM (Ie uP (Ie wv (Ie Tq JB)))) Tryz.func340 fun ds (hw:ka (nG.ct++[.i]) ds) _=> ?_
 obtain⟨x,ds,rfl,_,hw⟩:=nG.nz (r:=_) hw
 obtain⟨phase,rfl,_⟩:=nw hw
 exact⟨0,eT (OS Vm.kd (fun r0=>((true,[.str r0]):kK)) x phase)⟩
def Nw:Sum:= {ps:=[⟨nQ.ct,true⟩],rs:=[⟨[.d_ .i,.d_ .i,.d_ .i,.d_ .i,.d_ .i],true⟩],fn:=fun ds=>(true,nO.enc (nku (nQ.nd ds 0)))}
theorem nfH:D9 Tryz.prog 243 Nw:=by
 refine nN JB Tryz.func243 fun ds (hw:ka (nQ.ct++[]) ds) _=> ?_
 obtain⟨p,ds,rfl,_,hw⟩:=nQ.nz (r:=_) hw
 obtain rfl:=nr hw
 exact⟨0,eT (nfG (fun r0=>((true,nO.enc r0):kK)) p)⟩
theorem ns_:D9 Tryz.prog 231 Nw:=by
 refine nN JB Tryz.func231 fun ds (hw:ka (nQ.ct++[]) ds) _=> ?_
 obtain⟨p,ds,rfl,_,hw⟩:=nQ.nz (r:=_) hw
 obtain rfl:=nr hw
 exact⟨0,eT (nfG (fun r0=>((true,nO.enc r0):kK)) p)⟩
def zo:Sum:= {ps:=[⟨nO.ct,true⟩],rs:=[⟨[.d_ .str],false⟩],fn:=fun ds=>(true,[.str (nkv (nO.nd ds 0))])}
theorem nkE:D9 Tryz.prog 353 zo:=by
 refine nN (Γ:=[(266,qI),(267,q_)]) (Ie t8 (Ie wi JB)) Tryz.func353 fun ds (hw:ka (nO.ct++[]) ds) _=> ?_
 obtain⟨f,ds,rfl,_,hw⟩:=nO.nz (r:=_) hw
 obtain rfl:=nr hw
 exact⟨0,eT (Ya Vm.kd (fun r0=>((true,[.str r0]):kK)) f)⟩
theorem nmr:D9 Tryz.prog 342 zo:=by
 refine nN (Γ:=[(307,qI),(328,q_)]) (Ie uP (Ie wv JB)) Tryz.func342 fun ds (hw:ka (nO.ct++[]) ds) _=> ?_
 obtain⟨f,ds,rfl,_,hw⟩:=nO.nz (r:=_) hw
 obtain rfl:=nr hw
 exact⟨0,eT (Ya Vm.kd (fun r0=>((true,[.str r0]):kK)) f)⟩
def PD:Sum:= {ps:=[⟨nA.ct,true⟩],rs:=[⟨[.d_ .i,.d_ .i,.d_ .i,.d_ .i,.d_ .bool,.d_ .bool],true⟩],fn:=fun ds=>(true,nA.enc (nky (nA.nd ds 0)))}
theorem nqk:D9 Tryz.prog 224 PD:=by
 refine nN (Γ:=[(258,Qy)]) (Ie nqm JB) Tryz.func224 fun ds (hw:ka (nA.ct++[]) ds) _=> ?_
 obtain⟨v,ds,rfl,_,hw⟩:=nA.nz (r:=_) hw
 obtain rfl:=nr hw
 exact⟨0,eT (nqj (fun r0=>((true,nA.enc r0):kK)) v)⟩
theorem npD:D9 Tryz.prog 222 PD:=by
 refine nN (Γ:=[(248,Qy)]) (Ie ngF JB) Tryz.func222 fun ds (hw:ka (nA.ct++[]) ds) _=> ?_
 obtain⟨v,ds,rfl,_,hw⟩:=nA.nz (r:=_) hw
 obtain rfl:=nr hw
 exact⟨0,eT (npC (fun r0=>((true,nA.enc r0):kK)) v)⟩
def NR:Sum:= {ps:=[⟨nA.ct,true⟩],rs:=[⟨[.d_ .i,.d_ .i,.d_ .i,.d_ .i,.d_ .bool,.d_ .bool],true⟩],fn:=fun ds=>(true,nA.enc (yO (nA.nd ds 0)))}
theorem nni:D9 Tryz.prog 215 NR:=by
 refine nN (Γ:=[(147,vD),(224,PD)]) (Ie na7 (Ie nqk JB)) Tryz.func215 fun ds (hw:ka (nA.ct++[]) ds) _=> ?_
 obtain⟨v,ds,rfl,_,hw⟩:=nA.nz (r:=_) hw
 obtain rfl:=nr hw
 exact⟨0,eT (nnh (fun r0=>((true,nA.enc r0):kK)) v)⟩
theorem no4:D9 Tryz.prog 196 NR:=by
 refine nN (Γ:=[(136,vD),(222,PD)]) (Ie ncr (Ie npD JB)) Tryz.func196 fun ds (hw:ka (nA.ct++[]) ds) _=> ?_
 obtain⟨v,ds,rfl,_,hw⟩:=nA.nz (r:=_) hw
 obtain rfl:=nr hw
 exact⟨0,eT (no3 (fun r0=>((true,nA.enc r0):kK)) v)⟩
def xO:Sum:= {ps:=[⟨[.str],false⟩,⟨[.i],false⟩],rs:=[⟨[.d_ .i],false⟩],fn:=fun ds=>(Wm (rS ds 0) (rI ds 1),[.int (nai (rS ds 0) (rI ds 1))])}
theorem nfS:D9 Tryz.prog 389 xO:=by
 refine nN JB Tryz.func389 fun ds (hw:ka ([.str,.i]) ds) aJ=> ?_
 obtain⟨s,ds,rfl,Nr,hw⟩:=rU hw
 obtain⟨i,rfl,h_i⟩:=nw hw
 exact⟨0,eT (nsp Vm.kd (fun r0=>((true,[.int r0]):kK)) s i Nr h_i aJ)⟩
theorem ngD:D9 Tryz.prog 377 xO:=by
 refine nN JB Tryz.func377 fun ds (hw:ka ([.str,.i]) ds) aJ=> ?_
 obtain⟨s,ds,rfl,Nr,hw⟩:=rU hw
 obtain⟨i,rfl,h_i⟩:=nw hw
 exact⟨0,eT (nti Vm.kd (fun r0=>((true,[.int r0]):kK)) s i Nr h_i aJ)⟩
def uS:Sum:= {ps:=[⟨[.str],false⟩,⟨[.i],false⟩],rs:=[⟨[.d_ .i],false⟩],fn:=fun ds=>(true,[.int (Qq (rS ds 0) (rI ds 1))])}
def Yf:Ctx:=[(46,nH),(389,xO)]
theorem nkM:bE Tryz.prog Yf:=Ie oQ (Ie nfS JB)
def Ye:List (Nat×lB):=[(5, {bZ:=[(0,.mK),(1,.mK),(5,.mK),(6,.mK)],boxes:=[]})]
def Yg:Int→kK:=(fun r0=>((true,[.int r0]):kK))
def nix (key:Bytes) (bit n i:Int):St:= {n:=29,sl:=[(0,.str key),(1,.int .i64 bit),(5,.int .i64 n),(6,.int .i64 i)],hp:=[],ok:=true,ls:=[],lm:=[]}
theorem nkL:D9 Tryz.prog 390 uS:=by
 refine ra (A:=Ye) nkM Tryz.func390 fun ds (hw:ka ([.str,.i]) ds) _=> ?_
 obtain⟨key,ds,rfl,_,hw⟩:=rU hw
 obtain⟨bit,rfl,_⟩:=nw hw
 obtain⟨N,hN⟩:=nkK Vm.kd Yg key bit
 exact⟨N,eL (fun l_=>Qw Vm.kd Yg l_ key bit) (To (LQ Tryz.prog Yf Ye N Tryz.f390 uS [true,true,true,false,true,false] []) (nix key bit) _ N) hN⟩
def ZW:Ctx:=[(33,nH),(377,xO)]
theorem nmz:bE Tryz.prog ZW:=Ie pM (Ie ngD JB)
def ZV:List (Nat×lB):=[(5, {bZ:=[(0,.mK),(1,.mK),(5,.mK),(6,.mK)],boxes:=[]})]
def ZX:Int→kK:=(fun r0=>((true,[.int r0]):kK))
def nka (key:Bytes) (bit x k:Int):St:= {n:=28,sl:=[(0,.str key),(1,.int .i64 bit),(5,.int .i64 x),(6,.int .i64 k)],hp:=[],ok:=true,ls:=[],lm:=[]}
theorem nmy:D9 Tryz.prog 378 uS:=by
 refine ra (A:=ZV) nmz Tryz.func378 fun ds (hw:ka ([.str,.i]) ds) _=> ?_
 obtain⟨key,ds,rfl,_,hw⟩:=rU hw
 obtain⟨bit,rfl,_⟩:=nw hw
 obtain⟨N,hN⟩:=nmx Vm.kd ZX key bit
 exact⟨N,eL (fun l_=>Rf Vm.kd ZX l_ key bit) (To (LQ Tryz.prog ZW ZV N Tryz.f378 uS [true,true,true,false,true,false] []) (nka key bit) _ N) hN⟩
def uR:Sum:= {ps:=[⟨[.str],false⟩,⟨[.str],false⟩],rs:=[⟨[.d_ .i],false⟩],fn:=fun ds=>(true,[.int (neT (rS ds 0) (rS ds 1))])}
def X7:Ctx:=[(389,xO),(390,uS)]
theorem nkD:bE Tryz.prog X7:=Ie nfS (Ie nkL JB)
def X6:List (Nat×lB):=[(5, {bZ:=[(0,.mK),(1,.mK),(5,.mK),(6,.mK)],boxes:=[]})]
def X8:Int→kK:=(fun r0=>((true,[.int r0]):kK))
def niu (key input:Bytes) (h i:Int):St:= {n:=32,sl:=[(0,.str key),(1,.str input),(5,.int .i64 h),(6,.int .i64 i)],hp:=[],ok:=true,ls:=[],lm:=[]}
theorem nkC:D9 Tryz.prog 352 uR:=by
 refine ra (A:=X6) nkD Tryz.func352 fun ds (hw:ka ([.str,.str]) ds) _=> ?_
 obtain⟨key,ds,rfl,_,hw⟩:=rU hw
 obtain⟨input,rfl,nio⟩:=rb hw
 obtain⟨N,hN⟩:=X9 Vm.kd X8 key input nio
 exact⟨N,eL (fun l_=>zn Vm.kd X8 l_ key input) (To (LQ Tryz.prog X7 X6 N Tryz.f352 uR [true,true,true,false,true,false] []) (niu key input) _ N) hN⟩
def ZR:Ctx:=[(377,xO),(378,uS)]
theorem nmq:bE Tryz.prog ZR:=Ie ngD (Ie nmy JB)
def ZQ:List (Nat×lB):=[(5, {bZ:=[(0,.mK),(1,.mK),(5,.mK),(6,.mK)],boxes:=[]})]
def ZS:Int→kK:=(fun r0=>((true,[.int r0]):kK))
def nj8 (key input:Bytes) (x i:Int):St:= {n:=32,sl:=[(0,.str key),(1,.str input),(5,.int .i64 x),(6,.int .i64 i)],hp:=[],ok:=true,ls:=[],lm:=[]}
theorem nmp:D9 Tryz.prog 341 uR:=by
 refine ra (A:=ZQ) nmq Tryz.func341 fun ds (hw:ka ([.str,.str]) ds) _=> ?_
 obtain⟨key,ds,rfl,_,hw⟩:=rU hw
 obtain⟨input,rfl,nio⟩:=rb hw
 obtain⟨N,hN⟩:=X9 Vm.kd ZS key input nio
 exact⟨N,eL (fun l_=>zn Vm.kd ZS l_ key input) (To (LQ Tryz.prog ZR ZQ N Tryz.f341 uR [true,true,true,false,true,false] []) (nj8 key input) _ N) hN⟩
def xC:Sum:= {ps:=[⟨[.str],false⟩,⟨nO.ct,true⟩],rs:=[⟨[.d_ .i],false⟩],fn:=fun ds=>(true,[.int (XX (rS ds 0) (nO.nd ds 1))])}
theorem naG:D9 Tryz.prog 297 xC:=by
 refine nN (Γ:=[(352,uR),(353,zo)]) (Ie nkC (Ie nkE JB)) Tryz.func297 fun ds (hw:ka (.str::(nO.ct++[])) ds) _=> ?_
 obtain⟨key,ds,rfl,_,hw⟩:=rU hw
 obtain⟨f,ds,rfl,_,hw⟩:=nO.nz (r:=_) hw
 obtain rfl:=nr hw
 exact⟨0,eT (naF (fun r0=>((true,[.int r0]):kK)) key f)⟩
theorem npc:D9 Tryz.prog 285 xC:=by
 refine nN (Γ:=[(341,uR),(342,zo)]) (Ie nmp (Ie nmr JB)) Tryz.func285 fun ds (hw:ka (.str::(nO.ct++[])) ds) _=> ?_
 obtain⟨key,ds,rfl,_,hw⟩:=rU hw
 obtain⟨f,ds,rfl,_,hw⟩:=nO.nz (r:=_) hw
 obtain rfl:=nr hw
 exact⟨0,eT (naF (fun r0=>((true,[.int r0]):kK)) key f)⟩
def nc7:Sum:= {ps:=[⟨nf.ct,true⟩],rs:=[⟨[.d_ .i],false⟩],fn:=fun ds=>(true,[.int (xt (nf.nd ds 0))])}
theorem nqp:D9 Tryz.prog 357 nc7:=by
 refine nN JB Tryz.func357 fun ds (hw:ka (nf.ct++[]) ds) _=> ?_
 obtain⟨q,ds,rfl,_,hw⟩:=nf.nz (r:=_) hw
 obtain rfl:=nr hw
 exact⟨0,eT (nqo (fun r0=>((true,[.int r0]):kK)) q)⟩
def ncx:Sum:= {ps:=[⟨nf.ct,true⟩],rs:=[⟨[.d_ .i],false⟩],fn:=fun ds=>(ri (nf.nd ds 0),[.int (xt (nf.nd ds 0))])}
theorem npz:D9 Tryz.prog 300 ncx:=by
 refine nN JB Tryz.func300 fun ds (hw:ka (nf.ct++[]) ds) aJ=> ?_
 obtain⟨q,ds,rfl,_,hw⟩:=nf.nz (r:=_) hw
 obtain rfl:=nr hw
 exact⟨0,eT (npy Vm.kd (fun r0=>((true,[.int r0]):kK)) q aJ)⟩
def Uu:Sum:= {ps:=[⟨nf.ct,true⟩],rs:=[⟨[.d_ .i],false⟩],fn:=fun ds=>(ri (nf.nd ds 0),[.int (RH (nf.nd ds 0))])}
theorem nhb:D9 Tryz.prog 355 Uu:=by
 refine nN JB Tryz.func355 fun ds (hw:ka (nf.ct++[]) ds) aJ=> ?_
 obtain⟨q,ds,rfl,_,hw⟩:=nf.nz (r:=_) hw
 obtain rfl:=nr hw
 exact⟨0,eT (nha Vm.kd (fun r0=>((true,[.int r0]):kK)) q aJ)⟩
def ue:Sum:= {ps:=[⟨[.sl [.i,.i,.i,.bool]],false⟩,⟨na.ct,true⟩,⟨[.i],false⟩,⟨nf.ct,true⟩,⟨nG.ct,true⟩],rs:=[⟨[.own 9 [.str]],true⟩,⟨[.d_ .i,.d_ .i,.d_ .i],true⟩,⟨[.d_ .bool],false⟩],fn:=fun ds=>(zT (rR ds 0) (na.nd ds 1) (rI ds 2) (nf.nd ds 3) (nG.nd ds 6),na.enc (qH (rR ds 0) (na.nd ds 1) (rI ds 2) (nf.nd ds 3) (nG.nd ds 6)).1++nf.enc (qH (rR ds 0) (na.nd ds 1) (rI ds 2) (nf.nd ds 3) (nG.nd ds 6)).2.1++[.bool (qH (rR ds 0) (na.nd ds 1) (rI ds 2) (nf.nd ds 3) (nG.nd ds 6)).2.2])}
theorem RS:D9 Tryz.prog 298 ue:=by
 refine nN (Γ:=[(157,tB),(269,NU),(293,wP),(354,tK),(355,Uu),(356,uk),(357,nc7)]) (Ie uq (Ie Sf (Ie ncW (Ie SR (Ie nhb (Ie X4 (Ie nqp JB))))))) Tryz.func298 fun ds hw aJ=> ?_
 replace hw:ka ((.sl [.i,.i,.i,.bool])::(na.ct++(.i::(nf.ct++(nG.ct++[]))))) ds:=hw
 obtain⟨nc,ds,rfl,_,hw⟩:=og hw
 obtain⟨m,ds,rfl,_,hw⟩:=na.nz (r:=_) hw
 obtain⟨domain,ds,rfl,_,hw⟩:=n8 hw
 obtain⟨q,ds,rfl,_,hw⟩:=nf.nz (r:=_) hw
 obtain⟨x,ds,rfl,_,hw⟩:=nG.nz (r:=_) hw
 obtain rfl:=nr hw
 exact⟨0,eT (ncU Vm.kd (fun r0 r1 r2=>((true,na.enc r0++nf.enc r1++[.bool r2]):kK)) nc m domain q x aJ)⟩
theorem nd_:D9 Tryz.prog 284 ue:=by
 refine nN (Γ:=[(186,vq),(252,Oh),(279,wP),(300,ncx),(339,tK),(340,uk)]) (Ie w7 (Ie nb6 (Ie nea (Ie npz (Ie Tq (Ie ZN JB)))))) Tryz.func284 fun ds hw aJ=> ?_
 replace hw:ka ((.sl [.i,.i,.i,.bool])::(na.ct++(.i::(nf.ct++(nG.ct++[]))))) ds:=hw
 obtain⟨nc,ds,rfl,_,hw⟩:=og hw
 obtain⟨m,ds,rfl,_,hw⟩:=na.nz (r:=_) hw
 obtain⟨domain,ds,rfl,_,hw⟩:=n8 hw
 obtain⟨q,ds,rfl,_,hw⟩:=nf.nz (r:=_) hw
 obtain⟨x,ds,rfl,_,hw⟩:=nG.nz (r:=_) hw
 obtain rfl:=nr hw
 exact⟨0,eT (nd9 Vm.kd (fun r0 r1 r2=>((true,na.enc r0++nf.enc r1++[.bool r2]):kK)) nc m domain q x aJ)⟩
def ncz:Sum:= {ps:=[⟨[.sl [.i,.i,.i,.bool]],false⟩,⟨na.ct,true⟩,⟨[.i],false⟩,⟨nk.ct,true⟩,⟨[.str],false⟩,⟨[.str],false⟩],rs:=[⟨[.own 9 [.str]],true⟩,⟨[.d_ .i,.d_ .i,.d_ .i],true⟩,⟨[.d_ .bool],false⟩],fn:=fun ds=>(Xd (rR ds 0) (na.nd ds 1) (rI ds 2) (nk.nd ds 3) (rS ds 33) (rS ds 34),na.enc (sw (rR ds 0) (na.nd ds 1) (rI ds 2) (nk.nd ds 3) (rS ds 33) (rS ds 34)).1++nf.enc (sw (rR ds 0) (na.nd ds 1) (rI ds 2) (nk.nd ds 3) (rS ds 33) (rS ds 34)).2.1++[.bool (sw (rR ds 0) (na.nd ds 1) (rI ds 2) (nk.nd ds 3) (rS ds 33) (rS ds 34)).2.2])}
theorem npB:D9 Tryz.prog 195 ncz:=by
 refine nN (Γ:=[(186,vq),(231,Nw),(252,Oh),(282,vN),(283,vM),(284,ue),(285,xC)]) (Ie w7 (Ie ns_ (Ie nb6 (Ie nj3 (Ie nj2 (Ie nd_ (Ie npc JB))))))) Tryz.func195 fun ds hw aJ=> ?_
 replace hw:ka ((.sl [.i,.i,.i,.bool])::(na.ct++(.i::(nk.ct++[.str,.str])))) ds:=hw
 obtain⟨nc,ds,rfl,_,hw⟩:=og hw
 obtain⟨m,ds,rfl,_,hw⟩:=na.nz (r:=_) hw
 obtain⟨domain,ds,rfl,_,hw⟩:=n8 hw
 obtain⟨q,ds,rfl,_,hw⟩:=nk.nz (r:=_) hw
 obtain⟨entry,ds,rfl,_,hw⟩:=rU hw
 obtain⟨key,rfl,_⟩:=rb hw
 exact⟨0,eT (npA Vm.kd (fun r0 r1 r2=>((true,na.enc r0++nf.enc r1++[.bool r2]):kK)) nc m domain q entry key aJ)⟩
def Yr:Sum:= {ps:=[⟨[.sl [.i,.i,.i,.bool]],false⟩,⟨na.ct,true⟩,⟨[.i],false⟩,⟨nk.ct,true⟩,⟨[.str],false⟩,⟨[.str],false⟩],rs:=[⟨[.d_ (.sl [.str])],true⟩,⟨[.d_ .i,.d_ .i,.d_ .i],true⟩,⟨[.d_ .bool],false⟩],fn:=fun ds=>(Xd (rR ds 0) (na.nd ds 1) (rI ds 2) (nk.nd ds 3) (rS ds 33) (rS ds 34),na.enc (qZ (rR ds 0) (na.nd ds 1) (rI ds 2) (nk.nd ds 3) (rS ds 33) (rS ds 34)).1++nf.enc (qZ (rR ds 0) (na.nd ds 1) (rI ds 2) (nk.nd ds 3) (rS ds 33) (rS ds 34)).2.1++[.bool (qZ (rR ds 0) (na.nd ds 1) (rI ds 2) (nk.nd ds 3) (rS ds 33) (rS ds 34)).2.2])}
theorem nk0:D9 Tryz.prog 213 Yr:=by
 refine nN (Γ:=[(243,Nw),(269,NU),(295,vN),(296,vM),(297,xC),(298,ue)]) (Ie nfH (Ie Sf (Ie VZ (Ie VW (Ie naG (Ie RS JB)))))) Tryz.func213 fun ds hw aJ=> ?_
 replace hw:ka ((.sl [.i,.i,.i,.bool])::(na.ct++(.i::(nk.ct++[.str,.str])))) ds:=hw
 obtain⟨nc,ds,rfl,_,hw⟩:=og hw
 obtain⟨m,ds,rfl,_,hw⟩:=na.nz (r:=_) hw
 obtain⟨domain,ds,rfl,_,hw⟩:=n8 hw
 obtain⟨q,ds,rfl,_,hw⟩:=nk.nz (r:=_) hw
 obtain⟨key,ds,rfl,_,hw⟩:=rU hw
 obtain⟨entry,rfl,_⟩:=rb hw
 exact⟨0,eT (nkZ Vm.kd (fun r0 r1 r2=>((true,na.enc r0++nf.enc r1++[.bool r2]):kK)) nc m domain q key entry aJ)⟩
def Uw:Sum:= {ps:=[⟨[.sl [.i,.i,.i,.bool]],false⟩,⟨na.ct,true⟩,⟨[.i],false⟩,⟨nk.ct,true⟩,⟨[.str],false⟩,⟨[.str],false⟩],rs:=[⟨[.own 9 [.str]],true⟩,⟨[.d_ .i,.d_ .i,.d_ .i],true⟩,⟨[.d_ .bool],false⟩],fn:=fun ds=>(nmK (rR ds 0) (na.nd ds 1) (rI ds 2) (nk.nd ds 3) (rS ds 33) (rS ds 34),na.enc (qZ (rR ds 0) (na.nd ds 1) (rI ds 2) (nk.nd ds 3) (rS ds 33) (rS ds 34)).1++nf.enc (qZ (rR ds 0) (na.nd ds 1) (rI ds 2) (nk.nd ds 3) (rS ds 33) (rS ds 34)).2.1++[.bool (qZ (rR ds 0) (na.nd ds 1) (rI ds 2) (nk.nd ds 3) (rS ds 33) (rS ds 34)).2.2])}
theorem nhd:D9 Tryz.prog 213 Uw:=by
 refine nN (Γ:=[(243,Nw),(269,NU),(295,vN),(296,vM),(297,xC),(298,ue)]) (Ie nfH (Ie Sf (Ie VZ (Ie VW (Ie naG (Ie RS JB)))))) Tryz.func213 fun ds hw aJ=> ?_
 replace hw:ka ((.sl [.i,.i,.i,.bool])::(na.ct++(.i::(nk.ct++[.str,.str])))) ds:=hw
 obtain⟨nc,ds,rfl,_,hw⟩:=og hw
 obtain⟨m,ds,rfl,_,hw⟩:=na.nz (r:=_) hw
 obtain⟨domain,ds,rfl,_,hw⟩:=n8 hw
 obtain⟨q,ds,rfl,_,hw⟩:=nk.nz (r:=_) hw
 obtain⟨key,ds,rfl,_,hw⟩:=rU hw
 obtain⟨entry,rfl,_⟩:=rb hw
 exact⟨0,eT (nhc Vm.kd (fun r0 r1 r2=>((true,na.enc r0++nf.enc r1++[.bool r2]):kK)) nc m domain q key entry aJ)⟩
def ngQ:Sum:= {ps:=[⟨[.sl [.i,.i,.i,.bool]],false⟩,⟨na.ct,true⟩,⟨[.i],false⟩,⟨nk.ct,true⟩,⟨[.str],false⟩],rs:=[⟨[.own 9 [.str]],true⟩,⟨[.d_ .i,.d_ .i,.d_ .i,.d_ .i,.d_ .i,.d_ .i,.d_ .i,.d_ .i,.d_ .i,.d_ .i,.d_ .i,.d_ .i,.d_ .i,.d_ .i,.d_ .i,.d_ .i,.d_ .i,.d_ .i,.d_ .i,.d_ .i,.d_ .i,.d_ .i,.d_ .i,.d_ .i,.d_ .i,.d_ .str,.d_ .i,.d_ .i,.d_ .bool,.d_ .i],true⟩],fn:=fun ds=>(ntO (rR ds 0) (na.nd ds 1) (rI ds 2) (nk.nd ds 3) (rS ds 33),na.enc (qQ (rR ds 0) (na.nd ds 1) (rI ds 2) (nk.nd ds 3) (rS ds 33)).1++nk.enc (qQ (rR ds 0) (na.nd ds 1) (rI ds 2) (nk.nd ds 3) (rS ds 33)).2)}
theorem ngP:D9 Tryz.prog 119 ngQ:=by
 refine nN (Γ:=[(157,tB),(211,yY),(212,xD),(213,Uw)]) (Ie uq (Ie nc1 (Ie naU (Ie nhd JB)))) Tryz.func119 fun ds hw aJ=> ?_
 replace hw:ka ((.sl [.i,.i,.i,.bool])::(na.ct++(.i::(nk.ct++[.str])))) ds:=hw
 obtain⟨nc,ds,rfl,_,hw⟩:=og hw
 obtain⟨m,ds,rfl,_,hw⟩:=na.nz (r:=_) hw
 obtain⟨domain,ds,rfl,_,hw⟩:=n8 hw
 obtain⟨q,ds,rfl,_,hw⟩:=nk.nz (r:=_) hw
 obtain⟨key,rfl,_⟩:=rb hw
 exact⟨0,eT (ngO Vm.kd (fun r0 r1=>((true,na.enc r0++nk.enc r1):kK)) nc m domain q key aJ)⟩
def ngN:Sum:= {ps:=[⟨[.sl [.i,.i,.i,.bool]],false⟩,⟨na.ct,true⟩,⟨[.i],false⟩,⟨nk.ct,true⟩,⟨[.str],false⟩],rs:=[⟨[.own 9 [.str]],true⟩,⟨[.d_ .i,.d_ .i,.d_ .i,.d_ .i,.d_ .i,.d_ .i,.d_ .i,.d_ .i,.d_ .i,.d_ .i,.d_ .i,.d_ .i,.d_ .i,.d_ .i,.d_ .i,.d_ .i,.d_ .i,.d_ .i,.d_ .i,.d_ .i,.d_ .i,.d_ .i,.d_ .i,.d_ .i,.d_ .i,.d_ .str,.d_ .i,.d_ .i,.d_ .bool,.d_ .i],true⟩],fn:=fun ds=>(ntP (rR ds 0) (na.nd ds 1) (rI ds 2) (nk.nd ds 3) (rS ds 33),na.enc (qQ (rR ds 0) (na.nd ds 1) (rI ds 2) (nk.nd ds 3) (rS ds 33)).1++nk.enc (qQ (rR ds 0) (na.nd ds 1) (rI ds 2) (nk.nd ds 3) (rS ds 33)).2)}
theorem ngM:D9 Tryz.prog 119 ngN:=by
 refine nN (Γ:=[(157,tB),(211,yY),(212,xD),(213,Yr)]) (Ie uq (Ie nc1 (Ie naU (Ie nk0 JB)))) Tryz.func119 fun ds hw aJ=> ?_
 replace hw:ka ((.sl [.i,.i,.i,.bool])::(na.ct++(.i::(nk.ct++[.str])))) ds:=hw
 obtain⟨nc,ds,rfl,_,hw⟩:=og hw
 obtain⟨m,ds,rfl,_,hw⟩:=na.nz (r:=_) hw
 obtain⟨domain,ds,rfl,_,hw⟩:=n8 hw
 obtain⟨q,ds,rfl,_,hw⟩:=nk.nz (r:=_) hw
 obtain⟨key,rfl,_⟩:=rb hw
 exact⟨0,eT (ngL Vm.kd (fun r0 r1=>((true,na.enc r0++nk.enc r1):kK)) nc m domain q key aJ)⟩
def X5:Sum:= {ps:=[⟨[.sl [.i,.i,.i,.bool]],false⟩,⟨na.ct,true⟩,⟨[.i],false⟩,⟨nk.ct,true⟩,⟨[.str],false⟩],rs:=[⟨[.own 9 [.str]],true⟩,⟨[.d_ .i,.d_ .i,.d_ .i,.d_ .i,.d_ .i,.d_ .i,.d_ .i,.d_ .i,.d_ .i,.d_ .i,.d_ .i,.d_ .i,.d_ .i,.d_ .i,.d_ .i,.d_ .i,.d_ .i,.d_ .i,.d_ .i,.d_ .i,.d_ .i,.d_ .i,.d_ .i,.d_ .i,.d_ .i,.d_ .str,.d_ .i,.d_ .i,.d_ .bool,.d_ .i],true⟩],fn:=fun ds=>(ncH (rR ds 0) (na.nd ds 1) (rI ds 2) (nk.nd ds 3) (rS ds 33),na.enc (qQ (rR ds 0) (na.nd ds 1) (rI ds 2) (nk.nd ds 3) (rS ds 33)).1++nk.enc (qQ (rR ds 0) (na.nd ds 1) (rI ds 2) (nk.nd ds 3) (rS ds 33)).2)}
theorem nkB:D9 Tryz.prog 119 X5:=nwb ngP ngM rfl rfl rfl rfl (fun _=>rfl) (fun _=>rfl) (fun ds h=>by
 show (ntO (rR ds 0) (na.nd ds 1) (rI ds 2) (nk.nd ds 3) (rS ds 33))=true∨(ntP (rR ds 0) (na.nd ds 1) (rI ds 2) (nk.nd ds 3) (rS ds 33))=true
 exact nwh h)
def ZO:Sum:= {ps:=[⟨[.sl [.i,.i,.i,.bool]],false⟩,⟨na.ct,true⟩,⟨[.i],false⟩,⟨nk.ct,true⟩,⟨[.str],false⟩],rs:=[⟨[.own 9 [.str]],true⟩,⟨[.d_ .i,.d_ .i,.d_ .i,.d_ .i,.d_ .i,.d_ .i,.d_ .i,.d_ .i,.d_ .i,.d_ .i,.d_ .i,.d_ .i,.d_ .i,.d_ .i,.d_ .i,.d_ .i,.d_ .i,.d_ .i,.d_ .i,.d_ .i,.d_ .i,.d_ .i,.d_ .i,.d_ .i,.d_ .i,.d_ .str,.d_ .i,.d_ .i,.d_ .bool,.d_ .i],true⟩],fn:=fun ds=>(ncH (rR ds 0) (na.nd ds 1) (rI ds 2) (nk.nd ds 3) (rS ds 33),na.enc (qQ (rR ds 0) (na.nd ds 1) (rI ds 2) (nk.nd ds 3) (rS ds 33)).1++nk.enc (qQ (rR ds 0) (na.nd ds 1) (rI ds 2) (nk.nd ds 3) (rS ds 33)).2)}
theorem nmo:D9 Tryz.prog 105 ZO:=by
 refine nN (Γ:=[(186,vq),(192,yY),(194,xD),(195,ncz)]) (Ie w7 (Ie nm_ (Ie npi (Ie npB JB)))) Tryz.func105 fun ds hw aJ=> ?_
 replace hw:ka ((.sl [.i,.i,.i,.bool])::(na.ct++(.i::(nk.ct++[.str])))) ds:=hw
 obtain⟨nc,ds,rfl,_,hw⟩:=og hw
 obtain⟨m,ds,rfl,_,hw⟩:=na.nz (r:=_) hw
 obtain⟨domain,ds,rfl,_,hw⟩:=n8 hw
 obtain⟨q,ds,rfl,_,hw⟩:=nk.nz (r:=_) hw
 obtain⟨key,rfl,_⟩:=rb hw
 exact⟨0,eT (nmn Vm.kd (fun r0 r1=>((true,na.enc r0++nk.enc r1):kK)) nc m domain q key aJ)⟩
def uU:Sum:= {ps:=[⟨nt.ct,true⟩,⟨[.i],false⟩,⟨[.i],false⟩],rs:=[],fn:=fun ds=>(Gv (nt.nd ds 0) (rI ds 33) (rI ds 34),nt.enc (OP (nt.nd ds 0) (rI ds 33) (rI ds 34))),ms:=[some (.cI 62 [.flat 9,.flat 113,.flat 3,.deep 304 [3],.flat 123,.deep 42 [3],.flat 102,.flat 4,.flat 3,.flat 197,.flat 201,.flat 3,.flat 232,.flat 9,.flat 3,.flat 3]),none,none]}
def Yl:Ctx:=[(214,Ry),(215,NR)]
theorem nkT:bE Tryz.prog Yl:=Ie Xu (Ie nni JB)
def Yk:List (Nat×lB):=[(2, {bZ:=[(0,.mK),(1,.mK),(7,.mK)],boxes:=[(320000062,[]),(384,[])]})]
def Ym:nt→kK:=(fun r0=>((true,nt.enc r0):kK))
def niH (k n ru qx qy qz qA qB qC qD qE:Int) (qF:Bool) (pR:Bytes) (pS:Bool) (pT pU pV pW pX d d_1 d_2:Int) (qw pD pE oT oU oV pq oW pY pZ p6 p7 p8 p9 p_ qb:Rows):St:= {n:=1099511627818,sl:=[(0,.ptr 320000062 0),(1,.int .i64 k),(7,.int .i64 n)],hp:=[(320000062,.box 62 [.own 81921295872,.own 81921295873,.int .i64 ru,.int .i64 qx,.int .i64 qy,.int .i64 qz,.int .i64 qA,.int .i64 qB,.int .i64 qC,.own 81921295881,.own 81921295882,.int .i64 qD,.own 81921295884,.own 81921295885,.own 81921295886,.own 81921295887,.int .i64 qE,.bool qF,.own 81921295890,.own 81921295891,.own 81921295892,.str pR,.own 81921295894,.own 81921295895,.bool pS,.own 81921295897,.own 81921295898,.own 81921295899,.int .i64 pT,.int .i64 pU,.int .i64 pV,.int .i64 pW,.int .i64 pX]),(384,.box 115 [.int .i64 d,.int .i64 d_1,.int .i64 d_2]),(81921295872,.row 9 [.str] qw false true),(81921295873,.row 113 [.i,.i,.i,.bool] pD false true),(81921295881,.row 3 [.i] pE false true),(81921295882,.deep 304 [.i,.i,.sl [.i]] [3] oT none),(81921295884,.row 123 [.i,.i,.i,.i,.i,.i,.i,.i,.i,.i,.i,.i,.i,.i,.i,.i,.i,.i,.i,.i,.i,.i,.i,.i,.i,.str,.i,.i,.bool,.i] oU false true),(81921295885,.deep 42 [.i,.i,.i,.sl [.i]] [3] oV none),(81921295886,.row 102 [.i,.i,.i,.i,.bool,.bool] pq false true),(81921295887,.row 4 [.bool] oW false true),(81921295890,.row 3 [.i] pY false true),(81921295891,.row 197 [.i,.i,.i,.i,.i,.i,.i,.i,.i] pZ false true),(81921295892,.row 201 [.i,.i,.i,.i,.i,.i,.i] p6 false true),(81921295894,.row 3 [.i] p7 false true),(81921295895,.row 232 [.i,.i,.i,.i,.i,.i,.str,.bool] p8 false true),(81921295897,.row 9 [.str] p9 false true),(81921295898,.row 3 [.i] p_ false true),(81921295899,.row 3 [.i] qb false true)],ok:=true,ls:=[],lm:=[]}
theorem nkS:Cl Tryz.prog 120 uU:=by
 refine Nq (A:=Yk) nkT Tryz.func120 fun ds hw aJ=> ?_
 replace hw:ka (nt.ct++[.i,.i]) ds:=hw
 obtain⟨h,ds,rfl,h_h,hw⟩:=nt.nz (r:=_) hw
 obtain⟨k,ds,rfl,_,hw⟩:=n8 hw
 obtain⟨before,rfl,_⟩:=nw hw
 obtain⟨N,hN⟩:=nkR Vm.kd Ym h k before h_h aJ
 exact⟨N,eL (fun l_=>Qx Vm.kd Ym l_ h k before) (funext fun ru=>funext fun qx=>funext fun qy=>funext fun qz=>funext fun qA=>funext fun qB=>funext fun qC=>funext fun qD=>funext fun qE=>funext fun qF=>funext fun pR=>funext fun pS=>funext fun pT=>funext fun pU=>funext fun pV=>funext fun pW=>funext fun pX=>funext fun qw=>funext fun pD=>funext fun pE=>funext fun oT=>funext fun oU=>funext fun oV=>funext fun oW=>funext fun pY=>funext fun pZ=>funext fun p6=>funext fun p7=>funext fun p8=>funext fun p9=>funext fun p_=>funext fun qb=>To (Lj Tryz.prog Yl Yk N Tryz.f120 uU [true,true,false] []) (fun n pq=>niH k n ru qx qy qz qA qB qC qD qE qF pR pS pT pU pV pW pX (rI (nth h.Rx (Int.toNat k)) 4) (rI (nth h.Rx (Int.toNat k)) 5) (rI (nth h.Rx (Int.toNat k)) 6) qw pD pE oT oU oV pq oW pY pZ p6 p7 p8 p9 p_ qb) _ N) hN⟩
def Z4:Ctx:=[(196,NR)]
theorem nmJ:bE Tryz.prog Z4:=Ie no4 JB
def Z3:List (Nat×lB):=[(2, {bZ:=[(0,.mK),(1,.mK),(6,.mK),(7,.mK)],boxes:=[(320000062,[])]})]
def Z5:nt→kK:=(fun r0=>((true,nt.enc r0):kK))
def nkl (k n i ru qx qy qz qA qB qC qD qE:Int) (qF:Bool) (pR:Bytes) (pS:Bool) (pT pU pV pW pX:Int) (qw pD pE oT oU oV pq oW pY pZ p6 p7 p8 p9 p_ qb:Rows):St:= {n:=1099511627826,sl:=[(0,.ptr 320000062 0),(1,.int .i64 k),(6,.int .i64 n),(7,.int .i64 i)],hp:=[(320000062,.box 62 [.own 81921295872,.own 81921295873,.int .i64 ru,.int .i64 qx,.int .i64 qy,.int .i64 qz,.int .i64 qA,.int .i64 qB,.int .i64 qC,.own 81921295881,.own 81921295882,.int .i64 qD,.own 81921295884,.own 81921295885,.own 81921295886,.own 81921295887,.int .i64 qE,.bool qF,.own 81921295890,.own 81921295891,.own 81921295892,.str pR,.own 81921295894,.own 81921295895,.bool pS,.own 81921295897,.own 81921295898,.own 81921295899,.int .i64 pT,.int .i64 pU,.int .i64 pV,.int .i64 pW,.int .i64 pX]),(81921295872,.row 9 [.str] qw false true),(81921295873,.row 113 [.i,.i,.i,.bool] pD false true),(81921295881,.row 3 [.i] pE false true),(81921295882,.deep 304 [.i,.i,.sl [.i]] [3] oT none),(81921295884,.row 123 [.i,.i,.i,.i,.i,.i,.i,.i,.i,.i,.i,.i,.i,.i,.i,.i,.i,.i,.i,.i,.i,.i,.i,.i,.i,.str,.i,.i,.bool,.i] oU false true),(81921295885,.deep 42 [.i,.i,.i,.sl [.i]] [3] oV none),(81921295886,.row 102 [.i,.i,.i,.i,.bool,.bool] pq false true),(81921295887,.row 4 [.bool] oW false true),(81921295890,.row 3 [.i] pY false true),(81921295891,.row 197 [.i,.i,.i,.i,.i,.i,.i,.i,.i] pZ false true),(81921295892,.row 201 [.i,.i,.i,.i,.i,.i,.i] p6 false true),(81921295894,.row 3 [.i] p7 false true),(81921295895,.row 232 [.i,.i,.i,.i,.i,.i,.str,.bool] p8 false true),(81921295897,.row 9 [.str] p9 false true),(81921295898,.row 3 [.i] p_ false true),(81921295899,.row 3 [.i] qb false true)],ok:=true,ls:=[],lm:=[]}
theorem nmI:Cl Tryz.prog 106 uU:=by
 refine Nq (A:=Z3) nmJ Tryz.func106 fun ds hw aJ=> ?_
 replace hw:ka (nt.ct++[.i,.i]) ds:=hw
 obtain⟨h,ds,rfl,h_h,hw⟩:=nt.nz (r:=_) hw
 obtain⟨k,ds,rfl,_,hw⟩:=n8 hw
 obtain⟨before,rfl,_⟩:=nw hw
 obtain⟨N,hN⟩:=nmH Vm.kd Z5 h k before h_h aJ
 exact⟨N,eL (fun l_=>Rj Vm.kd Z5 l_ h k before) (funext fun n=>funext fun ru=>funext fun qx=>funext fun qy=>funext fun qz=>funext fun qA=>funext fun qB=>funext fun qC=>funext fun qD=>funext fun qE=>funext fun qF=>funext fun pR=>funext fun pS=>funext fun pT=>funext fun pU=>funext fun pV=>funext fun pW=>funext fun pX=>funext fun qw=>funext fun pD=>funext fun pE=>funext fun oT=>funext fun oU=>funext fun oV=>funext fun oW=>funext fun pY=>funext fun pZ=>funext fun p6=>funext fun p7=>funext fun p8=>funext fun p9=>funext fun p_=>funext fun qb=>To (Lj Tryz.prog Z4 Z3 N Tryz.f106 uU [true,true,false] []) (fun i pq=>nkl k n i ru qx qy qz qA qB qC qD qE qF pR pS pT pU pV pW pX qw pD pE oT oU oV pq oW pY pZ p6 p7 p8 p9 p_ qb) _ N) hN⟩
def rT:Sum:= {ps:=[⟨nt.ct,true⟩],rs:=[⟨[.own 9 [.str],.own 113 [.i,.i,.i,.bool],.d_ .i,.d_ .i,.d_ .i,.d_ .i,.d_ .i,.d_ .i,.d_ .i,.own 3 [.i],.deep 304 [.i,.i,.sl [.i]] [3],.d_ .i,.own 123 [.i,.i,.i,.i,.i,.i,.i,.i,.i,.i,.i,.i,.i,.i,.i,.i,.i,.i,.i,.i,.i,.i,.i,.i,.i,.str,.i,.i,.bool,.i],.deep 42 [.i,.i,.i,.sl [.i]] [3],.own 102 [.i,.i,.i,.i,.bool,.bool],.own 4 [.bool],.d_ .i,.d_ .bool,.own 3 [.i],.own 197 [.i,.i,.i,.i,.i,.i,.i,.i,.i],.own 201 [.i,.i,.i,.i,.i,.i,.i],.d_ .str,.own 3 [.i],.own 232 [.i,.i,.i,.i,.i,.i,.str,.bool],.d_ .bool,.own 9 [.str],.own 3 [.i],.own 3 [.i],.d_ .i,.d_ .i,.d_ .i,.d_ .i,.d_ .i],true⟩],fn:=fun ds=>(xa (nt.nd ds 0),nt.enc (pk (nt.nd ds 0)))}
def zq:Ctx:=[(117,vE),(118,sN),(119,X5),(120,uU)]
theorem nkJ:bE Tryz.prog zq:=Ie nnJ (Ie nsh (Ie nkB (Ie nkS JB)))
def zp:List (Nat×lB):=[(5, {bZ:=[(1,.mK),(2,.mK),(3,.mK),(13,.mK),(14,.mK)],boxes:=[(64,[]),(128,[]),(192,[])]})]
def tY:nt→kK:=(fun r0=>((true,nt.enc r0):kK))
def vQ (x oA:Int) (xS h_2:Rows) (xT xU xV xW xX xY xZ:Int) (rX rY:Rows) (rZ:Int) (pe pI oG qd:Rows) (qk:Int) (ql:Bool) (qe oZ o_:Rows) (oX:Bytes) (pb qf:Rows) (r_:Bool) (qg qh qi:Rows) (qn qo qp qq qs b2 Xf Xg Xh Xi Xj Xk Xl nab:Int) (nac:Bool) (O6:Bytes) (O7:Bool) (O8 O9 O_ Pa Pb n7 pw px py pz pA pB pC sL:Int) (tG:Bool) (rz:Bytes) (rH:Bool) (sa sb sd se sf:Int) (oz oa oe nT nR oR qJ qK oH sg sj oN oI oJ oK sK:Rows):St:= {n:=50,sl:=[(1,.ptr 64 0),(2,.ptr 128 0),(3,.ptr 192 0),(13,.int .i64 x),(14,.int .i64 oA)],hp:=[(64,.box 62 [.sl [.str] xS,.sl [.i,.i,.i,.bool] h_2,.int .i64 xT,.int .i64 xU,.int .i64 xV,.int .i64 xW,.int .i64 xX,.int .i64 xY,.int .i64 xZ,.sl [.i] rX,.sl [.i,.i,.sl [.i]] rY,.int .i64 rZ,.sl [.i,.i,.i,.i,.i,.i,.i,.i,.i,.i,.i,.i,.i,.i,.i,.i,.i,.i,.i,.i,.i,.i,.i,.i,.i,.str,.i,.i,.bool,.i] pe,.sl [.i,.i,.i,.sl [.i]] pI,.sl [.i,.i,.i,.i,.bool,.bool] oG,.sl [.bool] qd,.int .i64 qk,.bool ql,.sl [.i] qe,.sl [.i,.i,.i,.i,.i,.i,.i,.i,.i] oZ,.sl [.i,.i,.i,.i,.i,.i,.i] o_,.str oX,.sl [.i] pb,.sl [.i,.i,.i,.i,.i,.i,.str,.bool] qf,.bool r_,.sl [.str] qg,.sl [.i] qh,.sl [.i] qi,.int .i64 qn,.int .i64 qo,.int .i64 qp,.int .i64 qq,.int .i64 qs]),(128,.box 62 [.nil,.nil,.int .i64 b2,.int .i64 Xf,.int .i64 Xg,.int .i64 Xh,.int .i64 Xi,.int .i64 Xj,.int .i64 Xk,.nil,.nil,.int .i64 Xl,.nil,.nil,.nil,.nil,.int .i64 nab,.bool nac,.nil,.nil,.nil,.str O6,.nil,.nil,.bool O7,.nil,.nil,.nil,.int .i64 O8,.int .i64 O9,.int .i64 O_,.int .i64 Pa,.int .i64 Pb]),(192,.box 62 [.own 1329152,.own 1329153,.int .i64 n7,.int .i64 pw,.int .i64 px,.int .i64 py,.int .i64 pz,.int .i64 pA,.int .i64 pB,.own 1329161,.own 1329162,.int .i64 pC,.own 1329164,.own 1329165,.own 1329166,.own 1329167,.int .i64 sL,.bool tG,.own 1329170,.own 1329171,.own 1329172,.str rz,.own 1329174,.own 1329175,.bool rH,.own 1329177,.own 1329178,.own 1329179,.int .i64 sa,.int .i64 sb,.int .i64 sd,.int .i64 se,.int .i64 sf]),(1329152,.row 9 [.str] oz false true),(1329153,.row 113 [.i,.i,.i,.bool] oa false true),(1329161,.row 3 [.i] oe false true),(1329162,.deep 304 [.i,.i,.sl [.i]] [3] nT none),(1329164,.row 123 [.i,.i,.i,.i,.i,.i,.i,.i,.i,.i,.i,.i,.i,.i,.i,.i,.i,.i,.i,.i,.i,.i,.i,.i,.i,.str,.i,.i,.bool,.i] nR false true),(1329165,.deep 42 [.i,.i,.i,.sl [.i]] [3] oR none),(1329166,.row 102 [.i,.i,.i,.i,.bool,.bool] qJ false true),(1329167,.row 4 [.bool] qK false true),(1329170,.row 3 [.i] oH false true),(1329171,.row 197 [.i,.i,.i,.i,.i,.i,.i,.i,.i] sg false true),(1329172,.row 201 [.i,.i,.i,.i,.i,.i,.i] sj false true),(1329174,.row 3 [.i] oN false true),(1329175,.row 232 [.i,.i,.i,.i,.i,.i,.str,.bool] oI false true),(1329177,.row 9 [.str] oJ false true),(1329178,.row 3 [.i] oK false true),(1329179,.row 3 [.i] sK false true)],ok:=true,ls:=[],lm:=[]}
noncomputable def vO (N:Nat):(St→kK)→St→kK:=LQ Tryz.prog zq zp N Tryz.f23 rT [true,true,true,false,true,false] []
theorem niv (N:Nat) (x:Int) (xS h_2:Rows) (xT xU xV xW xX xY xZ:Int) (rX rY:Rows) (rZ:Int) (pe pI oG qd:Rows) (qk:Int) (ql:Bool) (qe oZ o_:Rows) (oX:Bytes) (pb qf:Rows) (r_:Bool) (qg qh qi:Rows) (qn qo qp qq qs b2 Xf Xg Xh Xi Xj Xk Xl nab:Int) (nac:Bool) (O6:Bytes) (O7:Bool) (O8 O9 O_ Pa Pb:Int) (ih:St→kK) (oA n7 pw px py pz pA pB pC sL:Int) (tG:Bool) (rz:Bytes) (rH:Bool) (sa sb sd se sf:Int) (oz oa oe nT nR oR qJ qK oH sg sj oN oI oJ oK sK:Rows):vO N ih (vQ x oA xS h_2 xT xU xV xW xX xY xZ rX rY rZ pe pI oG qd qk ql qe oZ o_ oX pb qf r_ qg qh qi qn qo qp qq qs b2 Xf Xg Xh Xi Xj Xk Xl nab nac O6 O7 O8 O9 O_ Pa Pb n7 pw px py pz pA pB pC sL tG rz rH sa sb sd se sf oz oa oe nT nR oR qJ qK oH sg sj oN oI oJ oK sK)=vP Vm.kd tY x pe (fun oA n7 pw px py pz pA pB pC sL tG rz rH sa sb sd se sf oz oa oe nT nR oR qJ qK oH sg sj oN oI oJ oK sK=>ih (vQ x oA xS h_2 xT xU xV xW xX xY xZ rX rY rZ pe pI oG qd qk ql qe oZ o_ oX pb qf r_ qg qh qi qn qo qp qq qs b2 Xf Xg Xh Xi Xj Xk Xl nab nac O6 O7 O8 O9 O_ Pa Pb n7 pw px py pz pA pB pC sL tG rz rH sa sb sd se sf oz oa oe nT nR oR qJ qK oH sg sj oN oI oJ oK sK)) oA n7 pw px py pz pA pB pC sL tG rz rH sa sb sd se sf oz oa oe nT nR oR qJ qK oH sg sj oN oI oJ oK sK:=by kernel_rfl
theorem niw (N:Nat) (x:Int) (xS h_2:Rows) (xT xU xV xW xX xY xZ:Int) (rX rY:Rows) (rZ:Int) (pe pI oG qd:Rows) (qk:Int) (ql:Bool) (qe oZ o_:Rows) (oX:Bytes) (pb qf:Rows) (r_:Bool) (qg qh qi:Rows) (qn qo qp qq qs b2 Xf Xg Xh Xi Xj Xk Xl nab:Int) (nac:Bool) (O6:Bytes) (O7:Bool) (O8 O9 O_ Pa Pb:Int) (m_:Nat):(fun oA n7 pw px py pz pA pB pC sL tG rz rH sa sb sd se sf oz oa oe nT nR oR qJ qK oH sg sj oN oI oJ oK sK=>LR (vO N) m_ (vQ x oA xS h_2 xT xU xV xW xX xY xZ rX rY rZ pe pI oG qd qk ql qe oZ o_ oX pb qf r_ qg qh qi qn qo qp qq qs b2 Xf Xg Xh Xi Xj Xk Xl nab nac O6 O7 O8 O9 O_ Pa Pb n7 pw px py pz pA pB pC sL tG rz rH sa sb sd se sf oz oa oe nT nR oR qJ qK oH sg sj oN oI oJ oK sK))=sq Vm.kd tY N x pe m_:=by
 induction m_ with
 | zero=>rfl
 | succ m_ ih=>
  funext oA n7 pw px py pz pA pB pC sL tG rz rH sa sb sd se sf oz oa oe nT nR oR qJ qK oH sg sj oN oI oJ oK sK
  refine (niv N x xS h_2 xT xU xV xW xX xY xZ rX rY rZ pe pI oG qd qk ql qe oZ o_ oX pb qf r_ qg qh qi qn qo qp qq qs b2 Xf Xg Xh Xi Xj Xk Xl nab nac O6 O7 O8 O9 O_ Pa Pb (LR (vO N) m_) oA n7 pw px py pz pA pB pC sL tG rz rH sa sb sd se sf oz oa oe nT nR oR qJ qK oH sg sj oN oI oJ oK sK).trans ?_
  rw[ih]
  rfl
theorem nkI (N:Nat) (h:nt):HU Tryz.prog zq zp N Tryz.f23 rT (h.enc++([]))=zr Vm.kd tY N h:=by
 have nmj:HU Tryz.prog zq zp N Tryz.f23 rT (h.enc++([]))=zs Vm.kd tY (fun x pe oA n7 pw px py pz pA pB pC sL tG rz rH sa sb sd se sf oz oa oe nT nR oR qJ qK oH sg sj oN oI oJ oK sK=>LR (vO N) N (vQ x oA h.nZ.nK h.Maps h.Tx.Ring.oM h.Tx.Ring.nI h.Tx.Ring.Head h.Tx.Ring.sQ h.Tx.nP.oM h.Tx.nP.nI h.Tx.nP.Count h.Tx.nP.pN h.Tx.ny h.Tx.Next pe h.n_ h.nM h.ox h.Filter.Qj h.Filter.nU h.Filter.pd h.nh.ot h.nh.Table.nC h.nh.nL.Key h.nh.nL.Table h.oF h.pj h.sU h.nY h.oq h.Counters.Frames h.Counters.SN h.Counters.oY h.Counters.pP h.Counters.rW 0 0 0 0 0 0 0 0 0 false [] false 0 0 0 0 0 n7 pw px py pz pA pB pC sL tG rz rH sa sb sd se sf oz oa oe nT nR oR qJ qK oH sg sj oN oI oJ oK sK)) h:=by kernel_rfl
 refine nmj.trans ?_
 unfold zr
 have e0:(fun x pe oA n7 pw px py pz pA pB pC sL tG rz rH sa sb sd se sf oz oa oe nT nR oR qJ qK oH sg sj oN oI oJ oK sK=>LR (vO N) N (vQ x oA h.nZ.nK h.Maps h.Tx.Ring.oM h.Tx.Ring.nI h.Tx.Ring.Head h.Tx.Ring.sQ h.Tx.nP.oM h.Tx.nP.nI h.Tx.nP.Count h.Tx.nP.pN h.Tx.ny h.Tx.Next pe h.n_ h.nM h.ox h.Filter.Qj h.Filter.nU h.Filter.pd h.nh.ot h.nh.Table.nC h.nh.nL.Key h.nh.nL.Table h.oF h.pj h.sU h.nY h.oq h.Counters.Frames h.Counters.SN h.Counters.oY h.Counters.pP h.Counters.rW 0 0 0 0 0 0 0 0 0 false [] false 0 0 0 0 0 n7 pw px py pz pA pB pC sL tG rz rH sa sb sd se sf oz oa oe nT nR oR qJ qK oH sg sj oN oI oJ oK sK))=(fun x pe=>sq Vm.kd tY N x pe N):=by
  funext x pe
  exact niw N x h.nZ.nK h.Maps h.Tx.Ring.oM h.Tx.Ring.nI h.Tx.Ring.Head h.Tx.Ring.sQ h.Tx.nP.oM h.Tx.nP.nI h.Tx.nP.Count h.Tx.nP.pN h.Tx.ny h.Tx.Next pe h.n_ h.nM h.ox h.Filter.Qj h.Filter.nU h.Filter.pd h.nh.ot h.nh.Table.nC h.nh.nL.Key h.nh.nL.Table h.oF h.pj h.sU h.nY h.oq h.Counters.Frames h.Counters.SN h.Counters.oY h.Counters.pP h.Counters.rW 0 0 0 0 0 0 0 0 0 false [] false 0 0 0 0 0 N
 exact congrArg (fun l_=>zs Vm.kd tY l_ h) e0
theorem nkH:D9 Tryz.prog 23 rT:=by
 refine ra (A:=zp) nkJ Tryz.func23 fun ds (hw:ka (nt.ct++[]) ds) aJ=> ?_
 obtain⟨h,ds,rfl,h_h,hw⟩:=nt.nz (r:=_) hw
 obtain rfl:=nr hw
 obtain⟨N,hN⟩:=nkG Vm.kd tY h h_h aJ
 exact⟨N,((nkI N h).trans hN).trans (by kernel_rfl)⟩
def zZ:Ctx:=[(103,vE),(104,sN),(105,ZO),(106,uU)]
theorem nmw:bE Tryz.prog zZ:=Ie nr5 (Ie ntb (Ie nmo (Ie nmI JB)))
def zY:List (Nat×lB):=[(3, {bZ:=[(1,.mK),(2,.mK),(3,.mK),(4,.mK)],boxes:=[(64,[]),(128,[]),(192,[])]})]
def t5:nt→kK:=(fun r0=>((true,nt.enc r0):kK))
def wc (k:Int) (xS h_2:Rows) (xT xU xV xW xX xY xZ:Int) (rX rY:Rows) (rZ:Int) (pe pI oG qd:Rows) (qk:Int) (ql:Bool) (qe oZ o_:Rows) (oX:Bytes) (pb qf:Rows) (r_:Bool) (qg qh qi:Rows) (qn qo qp qq qs b2 Xf Xg Xh Xi Xj Xk Xl nab:Int) (nac:Bool) (O6:Bytes) (O7:Bool) (O8 O9 O_ Pa Pb n7 pw px py pz pA pB pC sL:Int) (tG:Bool) (rz:Bytes) (rH:Bool) (sa sb sd se sf:Int) (oz oa oe nT nR oR qJ qK oH sg sj oN oI oJ oK sK:Rows):St:= {n:=54,sl:=[(1,.ptr 64 0),(2,.ptr 128 0),(3,.ptr 192 0),(4,.int .i64 k)],hp:=[(64,.box 62 [.sl [.str] xS,.sl [.i,.i,.i,.bool] h_2,.int .i64 xT,.int .i64 xU,.int .i64 xV,.int .i64 xW,.int .i64 xX,.int .i64 xY,.int .i64 xZ,.sl [.i] rX,.sl [.i,.i,.sl [.i]] rY,.int .i64 rZ,.sl [.i,.i,.i,.i,.i,.i,.i,.i,.i,.i,.i,.i,.i,.i,.i,.i,.i,.i,.i,.i,.i,.i,.i,.i,.i,.str,.i,.i,.bool,.i] pe,.sl [.i,.i,.i,.sl [.i]] pI,.sl [.i,.i,.i,.i,.bool,.bool] oG,.sl [.bool] qd,.int .i64 qk,.bool ql,.sl [.i] qe,.sl [.i,.i,.i,.i,.i,.i,.i,.i,.i] oZ,.sl [.i,.i,.i,.i,.i,.i,.i] o_,.str oX,.sl [.i] pb,.sl [.i,.i,.i,.i,.i,.i,.str,.bool] qf,.bool r_,.sl [.str] qg,.sl [.i] qh,.sl [.i] qi,.int .i64 qn,.int .i64 qo,.int .i64 qp,.int .i64 qq,.int .i64 qs]),(128,.box 62 [.nil,.nil,.int .i64 b2,.int .i64 Xf,.int .i64 Xg,.int .i64 Xh,.int .i64 Xi,.int .i64 Xj,.int .i64 Xk,.nil,.nil,.int .i64 Xl,.nil,.nil,.nil,.nil,.int .i64 nab,.bool nac,.nil,.nil,.nil,.str O6,.nil,.nil,.bool O7,.nil,.nil,.nil,.int .i64 O8,.int .i64 O9,.int .i64 O_,.int .i64 Pa,.int .i64 Pb]),(192,.box 62 [.own 1329152,.own 1329153,.int .i64 n7,.int .i64 pw,.int .i64 px,.int .i64 py,.int .i64 pz,.int .i64 pA,.int .i64 pB,.own 1329161,.own 1329162,.int .i64 pC,.own 1329164,.own 1329165,.own 1329166,.own 1329167,.int .i64 sL,.bool tG,.own 1329170,.own 1329171,.own 1329172,.str rz,.own 1329174,.own 1329175,.bool rH,.own 1329177,.own 1329178,.own 1329179,.int .i64 sa,.int .i64 sb,.int .i64 sd,.int .i64 se,.int .i64 sf]),(1329152,.row 9 [.str] oz false true),(1329153,.row 113 [.i,.i,.i,.bool] oa false true),(1329161,.row 3 [.i] oe false true),(1329162,.deep 304 [.i,.i,.sl [.i]] [3] nT none),(1329164,.row 123 [.i,.i,.i,.i,.i,.i,.i,.i,.i,.i,.i,.i,.i,.i,.i,.i,.i,.i,.i,.i,.i,.i,.i,.i,.i,.str,.i,.i,.bool,.i] nR false true),(1329165,.deep 42 [.i,.i,.i,.sl [.i]] [3] oR none),(1329166,.row 102 [.i,.i,.i,.i,.bool,.bool] qJ false true),(1329167,.row 4 [.bool] qK false true),(1329170,.row 3 [.i] oH false true),(1329171,.row 197 [.i,.i,.i,.i,.i,.i,.i,.i,.i] sg false true),(1329172,.row 201 [.i,.i,.i,.i,.i,.i,.i] sj false true),(1329174,.row 3 [.i] oN false true),(1329175,.row 232 [.i,.i,.i,.i,.i,.i,.str,.bool] oI false true),(1329177,.row 9 [.str] oJ false true),(1329178,.row 3 [.i] oK false true),(1329179,.row 3 [.i] sK false true)],ok:=true,ls:=[],lm:=[]}
noncomputable def v_ (N:Nat):(St→kK)→St→kK:=LQ Tryz.prog zZ zY N Tryz.f21 rT [true,true,false,true,false] []
theorem nj9 (N:Nat) (xS h_2:Rows) (xT xU xV xW xX xY xZ:Int) (rX rY:Rows) (rZ:Int) (pe pI oG qd:Rows) (qk:Int) (ql:Bool) (qe oZ o_:Rows) (oX:Bytes) (pb qf:Rows) (r_:Bool) (qg qh qi:Rows) (qn qo qp qq qs b2 Xf Xg Xh Xi Xj Xk Xl nab:Int) (nac:Bool) (O6:Bytes) (O7:Bool) (O8 O9 O_ Pa Pb:Int) (ih:St→kK) (k n7 pw px py pz pA pB pC sL:Int) (tG:Bool) (rz:Bytes) (rH:Bool) (sa sb sd se sf:Int) (oz oa oe nT nR oR qJ qK oH sg sj oN oI oJ oK sK:Rows):v_ N ih (wc k xS h_2 xT xU xV xW xX xY xZ rX rY rZ pe pI oG qd qk ql qe oZ o_ oX pb qf r_ qg qh qi qn qo qp qq qs b2 Xf Xg Xh Xi Xj Xk Xl nab nac O6 O7 O8 O9 O_ Pa Pb n7 pw px py pz pA pB pC sL tG rz rH sa sb sd se sf oz oa oe nT nR oR qJ qK oH sg sj oN oI oJ oK sK)=uu Vm.kd t5 xS h_2 xT xU xV xW xX xY xZ rX rY rZ pe pI oG qd qk ql qe oZ o_ oX pb qf r_ qg qh qi qn qo qp qq qs (fun k n7 pw px py pz pA pB pC sL tG rz rH sa sb sd se sf oz oa oe nT nR oR qJ qK oH sg sj oN oI oJ oK sK=>ih (wc k xS h_2 xT xU xV xW xX xY xZ rX rY rZ pe pI oG qd qk ql qe oZ o_ oX pb qf r_ qg qh qi qn qo qp qq qs b2 Xf Xg Xh Xi Xj Xk Xl nab nac O6 O7 O8 O9 O_ Pa Pb n7 pw px py pz pA pB pC sL tG rz rH sa sb sd se sf oz oa oe nT nR oR qJ qK oH sg sj oN oI oJ oK sK)) k n7 pw px py pz pA pB pC sL tG rz rH sa sb sd se sf oz oa oe nT nR oR qJ qK oH sg sj oN oI oJ oK sK:=by kernel_rfl
theorem nj_ (N:Nat) (xS h_2:Rows) (xT xU xV xW xX xY xZ:Int) (rX rY:Rows) (rZ:Int) (pe pI oG qd:Rows) (qk:Int) (ql:Bool) (qe oZ o_:Rows) (oX:Bytes) (pb qf:Rows) (r_:Bool) (qg qh qi:Rows) (qn qo qp qq qs b2 Xf Xg Xh Xi Xj Xk Xl nab:Int) (nac:Bool) (O6:Bytes) (O7:Bool) (O8 O9 O_ Pa Pb:Int) (m_:Nat):(fun k n7 pw px py pz pA pB pC sL tG rz rH sa sb sd se sf oz oa oe nT nR oR qJ qK oH sg sj oN oI oJ oK sK=>LR (v_ N) m_ (wc k xS h_2 xT xU xV xW xX xY xZ rX rY rZ pe pI oG qd qk ql qe oZ o_ oX pb qf r_ qg qh qi qn qo qp qq qs b2 Xf Xg Xh Xi Xj Xk Xl nab nac O6 O7 O8 O9 O_ Pa Pb n7 pw px py pz pA pB pC sL tG rz rH sa sb sd se sf oz oa oe nT nR oR qJ qK oH sg sj oN oI oJ oK sK))=sB Vm.kd t5 N xS h_2 xT xU xV xW xX xY xZ rX rY rZ pe pI oG qd qk ql qe oZ o_ oX pb qf r_ qg qh qi qn qo qp qq qs m_:=by
 induction m_ with
 | zero=>rfl
 | succ m_ ih=>
  funext k n7 pw px py pz pA pB pC sL tG rz rH sa sb sd se sf oz oa oe nT nR oR qJ qK oH sg sj oN oI oJ oK sK
  refine (nj9 N xS h_2 xT xU xV xW xX xY xZ rX rY rZ pe pI oG qd qk ql qe oZ o_ oX pb qf r_ qg qh qi qn qo qp qq qs b2 Xf Xg Xh Xi Xj Xk Xl nab nac O6 O7 O8 O9 O_ Pa Pb (LR (v_ N) m_) k n7 pw px py pz pA pB pC sL tG rz rH sa sb sd se sf oz oa oe nT nR oR qJ qK oH sg sj oN oI oJ oK sK).trans ?_
  rw[ih]
  rfl
theorem nmv (N:Nat) (h:nt):HU Tryz.prog zZ zY N Tryz.f21 rT (h.enc++([]))=z_ Vm.kd t5 N h:=by
 have nmj:HU Tryz.prog zZ zY N Tryz.f21 rT (h.enc++([]))=Na Vm.kd t5 (fun xS h_2 xT xU xV xW xX xY xZ rX rY rZ pe pI oG qd qk ql qe oZ o_ oX pb qf r_ qg qh qi qn qo qp qq qs k n7 pw px py pz pA pB pC sL tG rz rH sa sb sd se sf oz oa oe nT nR oR qJ qK oH sg sj oN oI oJ oK sK=>LR (v_ N) N (wc k xS h_2 xT xU xV xW xX xY xZ rX rY rZ pe pI oG qd qk ql qe oZ o_ oX pb qf r_ qg qh qi qn qo qp qq qs 0 0 0 0 0 0 0 0 0 false [] false 0 0 0 0 0 n7 pw px py pz pA pB pC sL tG rz rH sa sb sd se sf oz oa oe nT nR oR qJ qK oH sg sj oN oI oJ oK sK)) h:=by kernel_rfl
 refine nmj.trans ?_
 unfold z_
 have e0:(fun xS h_2 xT xU xV xW xX xY xZ rX rY rZ pe pI oG qd qk ql qe oZ o_ oX pb qf r_ qg qh qi qn qo qp qq qs k n7 pw px py pz pA pB pC sL tG rz rH sa sb sd se sf oz oa oe nT nR oR qJ qK oH sg sj oN oI oJ oK sK=>LR (v_ N) N (wc k xS h_2 xT xU xV xW xX xY xZ rX rY rZ pe pI oG qd qk ql qe oZ o_ oX pb qf r_ qg qh qi qn qo qp qq qs 0 0 0 0 0 0 0 0 0 false [] false 0 0 0 0 0 n7 pw px py pz pA pB pC sL tG rz rH sa sb sd se sf oz oa oe nT nR oR qJ qK oH sg sj oN oI oJ oK sK))=(fun xS h_2 xT xU xV xW xX xY xZ rX rY rZ pe pI oG qd qk ql qe oZ o_ oX pb qf r_ qg qh qi qn qo qp qq qs=>sB Vm.kd t5 N xS h_2 xT xU xV xW xX xY xZ rX rY rZ pe pI oG qd qk ql qe oZ o_ oX pb qf r_ qg qh qi qn qo qp qq qs N):=by
  funext xS h_2 xT xU xV xW xX xY xZ rX rY rZ pe pI oG qd qk ql qe oZ o_ oX pb qf r_ qg qh qi qn qo qp qq qs
  exact nj_ N xS h_2 xT xU xV xW xX xY xZ rX rY rZ pe pI oG qd qk ql qe oZ o_ oX pb qf r_ qg qh qi qn qo qp qq qs 0 0 0 0 0 0 0 0 0 false [] false 0 0 0 0 0 N
 exact congrArg (fun l_=>Na Vm.kd t5 l_ h) e0
theorem nmu:D9 Tryz.prog 21 rT:=by
 refine ra (A:=zY) nmw Tryz.func21 fun ds (hw:ka (nt.ct++[]) ds) aJ=> ?_
 obtain⟨h,ds,rfl,h_h,hw⟩:=nt.nz (r:=_) hw
 obtain rfl:=nr hw
 obtain⟨N,hN⟩:=nmt Vm.kd t5 h h_h aJ
 exact⟨N,((nmv N h).trans hN).trans (by kernel_rfl)⟩
def Yz:Sum:= {ps:=[⟨nt.ct,true⟩],rs:=[⟨[.d_ .bool],false⟩],fn:=fun ds=>(VR (nt.ct++([])) ds,[.bool true])}
theorem Yy:D9 Tryz.prog 4 Yz:=by
 refine nN (Γ:=[(13,nf8),(18,nbE),(19,nbz),(20,ngm),(21,rT),(22,ngq),(23,rT)]) (Ie nsC (Ie nog (Ie noa (Ie nsN (Ie nmu (Ie nsU (Ie nkH JB))))))) Tryz.func4 fun ds (hw:ka (nt.ct++[]) ds) aJ=> ?_
 obtain⟨aH,ds,rfl,nwA,hw⟩:=nt.nz (r:=_) hw
 obtain rfl:=nr hw
 exact⟨0,eT (Yx Vm.kd (fun r0=>((true,[.bool r0]):kK)) aH nwA aJ)⟩
end
end Go.Proofs.YtoaflbnkiobhdaaGreat.Pl
