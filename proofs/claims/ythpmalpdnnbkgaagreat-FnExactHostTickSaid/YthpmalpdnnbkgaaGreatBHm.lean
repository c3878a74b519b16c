/- The contracts of functions of the program: each computes what its plain form says. Conditions: none. -/
import Derived.Test.YthpmalpdnnbkgaaGreatPHm
import Derived.Test.YthpmalpdnnbkgaaGreatRows
import Derived.Test.YthpmalpdnnbkgaaGreatBDm
import Derived.Test.YthpmalpdnnbkgaaGreatBRg
set_option linter.unusedVariables false
set_option linter.unusedSimpArgs false
set_option maxRecDepth 100000
namespace Go.Proofs.YthpmalpdnnbkgaaGreat.Pl
open Vm
noncomputable section
def BK:Sum:= {ps:=[⟨[.sl [.str]],true⟩,⟨[.int .i64],false⟩],rs:=[⟨[.imm (.int .i64)],false⟩],fn:=fun ds=>(yV (aK.ae ds 0) (rI ds 1),[.int (tw (aK.ae ds 0) (rI ds 1)).1]++[.sl (tw (aK.ae ds 0) (rI ds 1)).2]),ms:=[some (.rows [.flat 9]),none]}
def Jv:Ctx:=[(65,iG)]
theorem VB:ai Tryz.prog Jv:=ab HQ aq
def Jw:List (Nat×dv):=[]
theorem VC (N:Nat) (a:aK) (k:Int):lV Tryz.prog Jv Jw N Tryz.f55 BK (a.enc++(.int k::([])))=kf Vm.bad (fun r0 r1=>((true,[.int r0]++[.sl r1]):aV)) a k:=by kernel_rfl
theorem VD:ox Tryz.prog 55 BK:=by
 refine dD (A:=Jw) VB Tryz.func55 rfl (by kernel_rfl) (of_decide_eq_true (by kernel_rfl)) (of_decide_eq_true (by kernel_rfl)) (by kernel_rfl) (fun ds=>by kernel_rfl) ?_
 intro ds hw hok
 replace hw:WtL (aK.ct++((.int .i64)::([]))) ds:=hw
 obtain⟨a,ds,rfl,bT,hw⟩:=aK.aZ (r:=_) hw
 obtain⟨k,ds,rfl,qX,hw⟩:=of_wt_int hw
 obtain rfl:=of_wt_nil hw
 exact⟨0,((VC 0 a k).trans (VE Vm.bad _ a k hok)).trans (by kernel_rfl)⟩
def BL:Sum:= {ps:=[⟨[.sl [.str]],true⟩,⟨[.int .i64],false⟩],rs:=[⟨[.imm (.int .i64)],false⟩],fn:=fun ds=>(yW (aK.ae ds 0) (rI ds 1),[.int (AP (aK.ae ds 0) (rI ds 1))])}
def Jx:Ctx:=[(82,iH)]
theorem VF:ai Tryz.prog Jx:=ab HR aq
def Jy:List (Nat×dv):=[]
theorem VG (N:Nat) (a:aK) (k:Int):bg Tryz.prog Jx Jy N Tryz.f72 BL (a.enc++(.int k::([])))=kg Vm.bad (fun r0=>((true,[.int r0]):aV)) a k:=by kernel_rfl
theorem VH:Holds Tryz.prog 72 BL:=by
 refine aa (A:=Jy) VF Tryz.func72 rfl (by kernel_rfl) (of_decide_eq_true (by kernel_rfl)) (of_decide_eq_true (by kernel_rfl)) ?_
 intro ds hw hok
 replace hw:WtL (aK.ct++((.int .i64)::([]))) ds:=hw
 obtain⟨a,ds,rfl,bT,hw⟩:=aK.aZ (r:=_) hw
 obtain⟨k,ds,rfl,qX,hw⟩:=of_wt_int hw
 obtain rfl:=of_wt_nil hw
 exact⟨0,((VG 0 a k).trans (VI Vm.bad _ a k hok)).trans (by kernel_rfl)⟩
def F_:Sum:= {ps:=[⟨[.int .i64,.int .i64,.int .i64,.sl [.int .i64]],true⟩,⟨[.int .i64],false⟩],rs:=[⟨[.imm (.int .i64)],false⟩],fn:=fun ds=>(Fv (aJ.ae ds 0) (rI ds 4),[.int (BM (aJ.ae ds 0) (rI ds 4)).1]++[.sl (BM (aJ.ae ds 0) (rI ds 4)).2]),ms:=[some (.rows [.flat 3]),none]}
def Nc:Ctx:=[(12,eX)]
theorem acw:ai Tryz.prog Nc:=ab oz aq
def Nd:List (Nat×dv):=[]
theorem acx (N:Nat) (a:aJ) (k:Int):lV Tryz.prog Nc Nd N Tryz.f110 F_ (a.enc++(.int k::([])))=oI Vm.bad (fun r0 r1=>((true,[.int r0]++[.sl r1]):aV)) a k:=by kernel_rfl
theorem acy:ox Tryz.prog 110 F_:=by
 refine dD (A:=Nd) acw Tryz.func110 rfl (by kernel_rfl) (of_decide_eq_true (by kernel_rfl)) (of_decide_eq_true (by kernel_rfl)) (by kernel_rfl) (fun ds=>by kernel_rfl) ?_
 intro ds hw hok
 replace hw:WtL (aJ.ct++((.int .i64)::([]))) ds:=hw
 obtain⟨a,ds,rfl,bT,hw⟩:=aJ.aZ (r:=_) hw
 obtain⟨k,ds,rfl,qX,hw⟩:=of_wt_int hw
 obtain rfl:=of_wt_nil hw
 exact⟨0,((acx 0 a k).trans (acz Vm.bad _ a k hok)).trans (by kernel_rfl)⟩
def Ga:Sum:= {ps:=[⟨[.int .i64,.int .i64,.int .i64,.sl [.int .i64]],true⟩,⟨[.int .i64],false⟩],rs:=[⟨[.imm (.int .i64)],false⟩],fn:=fun ds=>(Fw (aJ.ae ds 0) (rI ds 4),[.int (HS (aJ.ae ds 0) (rI ds 4))])}
def Nf:Ctx:=[(13,eY)]
theorem acA:ai Tryz.prog Nf:=ab oA aq
def Ng:List (Nat×dv):=[]
theorem acB (N:Nat) (a:aJ) (k:Int):bg Tryz.prog Nf Ng N Tryz.f149 Ga (a.enc++(.int k::([])))=oJ Vm.bad (fun r0=>((true,[.int r0]):aV)) a k:=by kernel_rfl
theorem acC:Holds Tryz.prog 149 Ga:=by
 refine aa (A:=Ng) acA Tryz.func149 rfl (by kernel_rfl) (of_decide_eq_true (by kernel_rfl)) (of_decide_eq_true (by kernel_rfl)) ?_
 intro ds hw hok
 replace hw:WtL (aJ.ct++((.int .i64)::([]))) ds:=hw
 obtain⟨a,ds,rfl,bT,hw⟩:=aJ.aZ (r:=_) hw
 obtain⟨k,ds,rfl,qX,hw⟩:=of_wt_int hw
 obtain rfl:=of_wt_nil hw
 exact⟨0,((acB 0 a k).trans (acD Vm.bad _ a k hok)).trans (by kernel_rfl)⟩
def BN:Sum:= {ps:=[⟨[.int .i64,.bool,.sl [.int .i64]],true⟩,⟨[.int .i64],false⟩],rs:=[⟨[.imm (.int .i64)],false⟩],fn:=fun ds=>(yX (aI.ae ds 0) (rI ds 3),[.int (AQ (aI.ae ds 0) (rI ds 3)).1]++[.sl (AQ (aI.ae ds 0) (rI ds 3)).2]),ms:=[some (.rows [.flat 3]),none]}
def Jz:Ctx:=[(12,eX)]
theorem VJ:ai Tryz.prog Jz:=ab oz aq
def JA:List (Nat×dv):=[]
theorem VK (N:Nat) (a:aI) (k:Int):lV Tryz.prog Jz JA N Tryz.f62 BN (a.enc++(.int k::([])))=kh Vm.bad (fun r0 r1=>((true,[.int r0]++[.sl r1]):aV)) a k:=by kernel_rfl
theorem VL:ox Tryz.prog 62 BN:=by
 refine dD (A:=JA) VJ Tryz.func62 rfl (by kernel_rfl) (of_decide_eq_true (by kernel_rfl)) (of_decide_eq_true (by kernel_rfl)) (by kernel_rfl) (fun ds=>by kernel_rfl) ?_
 intro ds hw hok
 replace hw:WtL (aI.ct++((.int .i64)::([]))) ds:=hw
 obtain⟨a,ds,rfl,bT,hw⟩:=aI.aZ (r:=_) hw
 obtain⟨k,ds,rfl,qX,hw⟩:=of_wt_int hw
 obtain rfl:=of_wt_nil hw
 exact⟨0,((VK 0 a k).trans (VM Vm.bad _ a k hok)).trans (by kernel_rfl)⟩
def BO:Sum:= {ps:=[⟨[.int .i64,.bool,.sl [.int .i64]],true⟩,⟨[.int .i64],false⟩],rs:=[⟨[.imm (.int .i64)],false⟩],fn:=fun ds=>(yY (aI.ae ds 0) (rI ds 3),[.int (HT (aI.ae ds 0) (rI ds 3))])}
def JB:Ctx:=[(13,eY)]
theorem VN:ai Tryz.prog JB:=ab oA aq
def JC:List (Nat×dv):=[]
theorem VO (N:Nat) (a:aI) (k:Int):bg Tryz.prog JB JC N Tryz.f79 BO (a.enc++(.int k::([])))=ki Vm.bad (fun r0=>((true,[.int r0]):aV)) a k:=by kernel_rfl
theorem VP:Holds Tryz.prog 79 BO:=by
 refine aa (A:=JC) VN Tryz.func79 rfl (by kernel_rfl) (of_decide_eq_true (by kernel_rfl)) (of_decide_eq_true (by kernel_rfl)) ?_
 intro ds hw hok
 replace hw:WtL (aI.ct++((.int .i64)::([]))) ds:=hw
 obtain⟨a,ds,rfl,bT,hw⟩:=aI.aZ (r:=_) hw
 obtain⟨k,ds,rfl,qX,hw⟩:=of_wt_int hw
 obtain rfl:=of_wt_nil hw
 exact⟨0,((VO 0 a k).trans (VQ Vm.bad _ a k hok)).trans (by kernel_rfl)⟩
def vU:Sum:= {ps:=[⟨[.sl [.int .i64,.int .i64,.int .i64,.int .i64,.int .i64,.int .i64,.int .i64]],true⟩,⟨[.int .i64],false⟩],rs:=[⟨[.imm (.int .i64)],false⟩],fn:=fun ds=>(rN (ag.ae ds 0) (rI ds 1),[.int (qF (ag.ae ds 0) (rI ds 1)).1]++[.sl (qF (ag.ae ds 0) (rI ds 1)).2]),ms:=[some (.rows [.flat 242]),none]}
def Fx:Ctx:=[(169,rF)]
theorem OI:ai Tryz.prog Fx:=ab YM aq
def Fy:List (Nat×dv):=[]
theorem OJ (N:Nat) (a:ag) (k:Int):lV Tryz.prog Fx Fy N Tryz.f114 vU (a.enc++(.int k::([])))=gl Vm.bad (fun r0 r1=>((true,[.int r0]++[.sl r1]):aV)) a k:=by kernel_rfl
theorem OK:ox Tryz.prog 114 vU:=by
 refine dD (A:=Fy) OI Tryz.func114 rfl (by kernel_rfl) (of_decide_eq_true (by kernel_rfl)) (of_decide_eq_true (by kernel_rfl)) (by kernel_rfl) (fun ds=>by kernel_rfl) ?_
 intro ds hw hok
 replace hw:WtL (ag.ct++((.int .i64)::([]))) ds:=hw
 obtain⟨a,ds,rfl,bT,hw⟩:=ag.aZ (r:=_) hw
 obtain⟨k,ds,rfl,qX,hw⟩:=of_wt_int hw
 obtain rfl:=of_wt_nil hw
 exact⟨0,((OJ 0 a k).trans (OL Vm.bad _ a k hok)).trans (by kernel_rfl)⟩
def vV:Sum:= {ps:=[⟨[.sl [.int .i64,.int .i64,.int .i64,.int .i64,.int .i64,.int .i64,.int .i64]],true⟩,⟨[.int .i64],false⟩],rs:=[⟨[.imm (.int .i64)],false⟩],fn:=fun ds=>(rO (ag.ae ds 0) (rI ds 1),[.int (yZ (ag.ae ds 0) (rI ds 1))])}
def Fz:Ctx:=[(191,rG)]
theorem OM:ai Tryz.prog Fz:=ab YQ aq
def FA:List (Nat×dv):=[]
theorem ON (N:Nat) (a:ag) (k:Int):bg Tryz.prog Fz FA N Tryz.f152 vV (a.enc++(.int k::([])))=gm Vm.bad (fun r0=>((true,[.int r0]):aV)) a k:=by kernel_rfl
theorem OO:Holds Tryz.prog 152 vV:=by
 refine aa (A:=FA) OM Tryz.func152 rfl (by kernel_rfl) (of_decide_eq_true (by kernel_rfl)) (of_decide_eq_true (by kernel_rfl)) ?_
 intro ds hw hok
 replace hw:WtL (ag.ct++((.int .i64)::([]))) ds:=hw
 obtain⟨a,ds,rfl,bT,hw⟩:=ag.aZ (r:=_) hw
 obtain⟨k,ds,rfl,qX,hw⟩:=of_wt_int hw
 obtain rfl:=of_wt_nil hw
 exact⟨0,((ON 0 a k).trans (OP Vm.bad _ a k hok)).trans (by kernel_rfl)⟩
def BP:Sum:= {ps:=[⟨[.str,.sl [.int .i64]],true⟩,⟨[.int .i64],false⟩],rs:=[⟨[.imm (.int .i64)],false⟩],fn:=fun ds=>(y3 (aM.ae ds 0) (rI ds 2),[.int (AR (aM.ae ds 0) (rI ds 2)).1]++[.sl (AR (aM.ae ds 0) (rI ds 2)).2]),ms:=[some (.rows [.flat 3]),none]}
def JD:Ctx:=[(12,eX)]
theorem VR:ai Tryz.prog JD:=ab oz aq
def JE:List (Nat×dv):=[]
theorem VS (N:Nat) (a:aM) (k:Int):lV Tryz.prog JD JE N Tryz.f115 BP (a.enc++(.int k::([])))=kj Vm.bad (fun r0 r1=>((true,[.int r0]++[.sl r1]):aV)) a k:=by kernel_rfl
theorem VT:ox Tryz.prog 115 BP:=by
 refine dD (A:=JE) VR Tryz.func115 rfl (by kernel_rfl) (of_decide_eq_true (by kernel_rfl)) (of_decide_eq_true (by kernel_rfl)) (by kernel_rfl) (fun ds=>by kernel_rfl) ?_
 intro ds hw hok
 replace hw:WtL (aM.ct++((.int .i64)::([]))) ds:=hw
 obtain⟨a,ds,rfl,bT,hw⟩:=aM.aZ (r:=_) hw
 obtain⟨k,ds,rfl,qX,hw⟩:=of_wt_int hw
 obtain rfl:=of_wt_nil hw
 exact⟨0,((VS 0 a k).trans (VU Vm.bad _ a k hok)).trans (by kernel_rfl)⟩
def BQ:Sum:= {ps:=[⟨[.str,.sl [.int .i64]],true⟩,⟨[.int .i64],false⟩],rs:=[⟨[.imm (.int .i64)],false⟩],fn:=fun ds=>(y4 (aM.ae ds 0) (rI ds 2),[.int (HU (aM.ae ds 0) (rI ds 2))])}
def JF:Ctx:=[(13,eY)]
theorem VV:ai Tryz.prog JF:=ab oA aq
def JG:List (Nat×dv):=[]
theorem VW (N:Nat) (a:aM) (k:Int):bg Tryz.prog JF JG N Tryz.f153 BQ (a.enc++(.int k::([])))=kl Vm.bad (fun r0=>((true,[.int r0]):aV)) a k:=by kernel_rfl
theorem VX:Holds Tryz.prog 153 BQ:=by
 refine aa (A:=JG) VV Tryz.func153 rfl (by kernel_rfl) (of_decide_eq_true (by kernel_rfl)) (of_decide_eq_true (by kernel_rfl)) ?_
 intro ds hw hok
 replace hw:WtL (aM.ct++((.int .i64)::([]))) ds:=hw
 obtain⟨a,ds,rfl,bT,hw⟩:=aM.aZ (r:=_) hw
 obtain⟨k,ds,rfl,qX,hw⟩:=of_wt_int hw
 obtain rfl:=of_wt_nil hw
 exact⟨0,((VW 0 a k).trans (VY Vm.bad _ a k hok)).trans (by kernel_rfl)⟩
def AU:Sum:= {ps:=[⟨[.int .i64,.int .i64,.int .i64,.int .i64,.int .i64,.int .i64,.int .i64,.sl [.int .i64],.sl [.int .i64,.int .i64,.sl [.int .i64]],.int .i64],true⟩,⟨[.int .i64],false⟩],rs:=[⟨[.imm (.int .i64)],false⟩],fn:=fun ds=>(vW (au.ae ds 0) (rI ds 10),[.int (p6 (au.ae ds 0) (rI ds 10)).1]++[.sl (p6 (au.ae ds 0) (rI ds 10)).2.1]++[.sl (p6 (au.ae ds 0) (rI ds 10)).2.2]),ms:=[some (.rows [.flat 3,.deep 96 [3]]),none]}
def HV:Ctx:=[(110,F_),(111,rA)]
theorem TB:ai Tryz.prog HV:=ab acy (ab Yw aq)
def HW:List (Nat×dv):=[]
theorem TC (N:Nat) (a:au) (k:Int):lV Tryz.prog HV HW N Tryz.f57 AU (a.enc++(.int k::([])))=iI Vm.bad (fun r0 r1 r2=>((true,[.int r0]++[.sl r1]++[.sl r2]):aV)) a k:=by kernel_rfl
theorem TD:ox Tryz.prog 57 AU:=by
 refine dD (A:=HW) TB Tryz.func57 rfl (by kernel_rfl) (of_decide_eq_true (by kernel_rfl)) (of_decide_eq_true (by kernel_rfl)) (by kernel_rfl) (fun ds=>by kernel_rfl) ?_
 intro ds hw hok
 replace hw:WtL (au.ct++((.int .i64)::([]))) ds:=hw
 obtain⟨a,ds,rfl,bT,hw⟩:=au.aZ (r:=_) hw
 obtain⟨k,ds,rfl,qX,hw⟩:=of_wt_int hw
 obtain rfl:=of_wt_nil hw
 exact⟨0,((TC 0 a k).trans (TE Vm.bad _ a k hok)).trans (by kernel_rfl)⟩
def AV:Sum:= {ps:=[⟨[.int .i64,.int .i64,.int .i64,.int .i64,.int .i64,.int .i64,.int .i64,.sl [.int .i64],.sl [.int .i64,.int .i64,.sl [.int .i64]],.int .i64],true⟩,⟨[.int .i64],false⟩],rs:=[⟨[.imm (.int .i64)],false⟩],fn:=fun ds=>(vX (au.ae ds 0) (rI ds 10),[.int (FB (au.ae ds 0) (rI ds 10))])}
def HX:Ctx:=[(149,Ga),(150,rC)]
theorem TF:ai Tryz.prog HX:=ab acC (ab YA aq)
def HY:List (Nat×dv):=[]
theorem TG (N:Nat) (a:au) (k:Int):bg Tryz.prog HX HY N Tryz.f74 AV (a.enc++(.int k::([])))=iJ Vm.bad (fun r0=>((true,[.int r0]):aV)) a k:=by kernel_rfl
theorem TH:Holds Tryz.prog 74 AV:=by
 refine aa (A:=HY) TF Tryz.func74 rfl (by kernel_rfl) (of_decide_eq_true (by kernel_rfl)) (of_decide_eq_true (by kernel_rfl)) ?_
 intro ds hw hok
 replace hw:WtL (au.ct++((.int .i64)::([]))) ds:=hw
 obtain⟨a,ds,rfl,bT,hw⟩:=au.aZ (r:=_) hw
 obtain⟨k,ds,rfl,qX,hw⟩:=of_wt_int hw
 obtain rfl:=of_wt_nil hw
 exact⟨0,((TG 0 a k).trans (TI Vm.bad _ a k hok)).trans (by kernel_rfl)⟩
def yN:Sum:= {ps:=[⟨[.sl [.int .i64,.int .i64,.int .i64,.int .i64,.int .i64,.int .i64,.int .i64,.int .i64,.int .i64],.sl [.int .i64,.int .i64,.int .i64,.int .i64,.int .i64,.int .i64,.int .i64],.str,.sl [.int .i64]],true⟩,⟨[.int .i64],false⟩],rs:=[⟨[.imm (.int .i64)],false⟩],fn:=fun ds=>(uf (al.ae ds 0) (rI ds 4),[.int (gA (al.ae ds 0) (rI ds 4)).1]++[.sl (gA (al.ae ds 0) (rI ds 4)).2.1]++[.sl (gA (al.ae ds 0) (rI ds 4)).2.2.1]++[.sl (gA (al.ae ds 0) (rI ds 4)).2.2.2]),ms:=[some (.rows [.flat 221,.flat 242,.flat 3]),none]}
def GZ:Ctx:=[(113,rD),(114,vU),(115,BP)]
theorem Rf:ai Tryz.prog GZ:=ab YE (ab OK (ab VT aq))
def G0:List (Nat×dv):=[]
theorem Rg (N:Nat) (a:al) (k:Int):lV Tryz.prog GZ G0 N Tryz.f63 yN (a.enc++(.int k::([])))=gZ Vm.bad (fun r0 r1 r2 r3=>((true,[.int r0]++[.sl r1]++[.sl r2]++[.sl r3]):aV)) a k:=by kernel_rfl
theorem Rh:ox Tryz.prog 63 yN:=by
 refine dD (A:=G0) Rf Tryz.func63 rfl (by kernel_rfl) (of_decide_eq_true (by kernel_rfl)) (of_decide_eq_true (by kernel_rfl)) (by kernel_rfl) (fun ds=>by kernel_rfl) ?_
 intro ds hw hok
 replace hw:WtL (al.ct++((.int .i64)::([]))) ds:=hw
 obtain⟨a,ds,rfl,bT,hw⟩:=al.aZ (r:=_) hw
 obtain⟨k,ds,rfl,qX,hw⟩:=of_wt_int hw
 obtain rfl:=of_wt_nil hw
 exact⟨0,((Rg 0 a k).trans (Ri Vm.bad _ a k hok)).trans (by kernel_rfl)⟩
def yO:Sum:= {ps:=[⟨[.sl [.int .i64,.int .i64,.int .i64,.int .i64,.int .i64,.int .i64,.int .i64,.int .i64,.int .i64],.sl [.int .i64,.int .i64,.int .i64,.int .i64,.int .i64,.int .i64,.int .i64],.str,.sl [.int .i64]],true⟩,⟨[.int .i64],false⟩],rs:=[⟨[.imm (.int .i64)],false⟩],fn:=fun ds=>(ug (al.ae ds 0) (rI ds 4),[.int (BR (al.ae ds 0) (rI ds 4))])}
def G1:Ctx:=[(151,rE),(152,vV),(153,BQ)]
theorem Rj:ai Tryz.prog G1:=ab YI (ab OO (ab VX aq))
def G2:List (Nat×dv):=[]
theorem Rk (N:Nat) (a:al) (k:Int):bg Tryz.prog G1 G2 N Tryz.f80 yO (a.enc++(.int k::([])))=g_ Vm.bad (fun r0=>((true,[.int r0]):aV)) a k:=by kernel_rfl
theorem Rl:Holds Tryz.prog 80 yO:=by
 refine aa (A:=G2) Rj Tryz.func80 rfl (by kernel_rfl) (of_decide_eq_true (by kernel_rfl)) (of_decide_eq_true (by kernel_rfl)) ?_
 intro ds hw hok
 replace hw:WtL (al.ct++((.int .i64)::([]))) ds:=hw
 obtain⟨a,ds,rfl,bT,hw⟩:=al.aZ (r:=_) hw
 obtain⟨k,ds,rfl,qX,hw⟩:=of_wt_int hw
 obtain rfl:=of_wt_nil hw
 exact⟨0,((Rk 0 a k).trans (Rm Vm.bad _ a k hok)).trans (by kernel_rfl)⟩
def Gb:Sum:= {ps:=[⟨[.sl [.str],.sl [.int .i64,.int .i64,.int .i64,.bool],.int .i64,.int .i64,.int .i64,.int .i64,.int .i64,.int .i64,.int .i64,.sl [.int .i64],.sl [.int .i64,.int .i64,.sl [.int .i64]],.int .i64,.sl [.int .i64,.int .i64,.int .i64,.int .i64,.int .i64,.int .i64,.int .i64,.int .i64,.int .i64,.int .i64,.int .i64,.int .i64,.int .i64,.int .i64,.int .i64,.int .i64,.int .i64,.int .i64,.int .i64,.int .i64,.int .i64,.int .i64,.int .i64,.int .i64,.int .i64,.str,.int .i64,.int .i64,.bool,.int .i64],.sl [.int .i64,.int .i64,.int .i64,.sl [.int .i64]],.sl [.int .i64,.int .i64,.int .i64,.int .i64,.bool,.bool],.sl [.bool],.int .i64,.bool,.sl [.int .i64],.sl [.int .i64,.int .i64,.int .i64,.int .i64,.int .i64,.int .i64,.int .i64,.int .i64,.int .i64],.sl [.int .i64,.int .i64,.int .i64,.int .i64,.int .i64,.int .i64,.int .i64],.str,.sl [.int .i64],.sl [.int .i64,.int .i64,.int .i64,.int .i64,.int .i64,.int .i64,.str,.bool],.bool,.sl [.str],.sl [.int .i64],.sl [.int .i64],.int .i64,.int .i64,.int .i64,.int .i64,.int .i64],true⟩,⟨[.int .i64],false⟩],rs:=[⟨[.imm (.int .i64)],false⟩],fn:=fun ds=>(vY (aB.ae ds 0) (rI ds 33),[.int (cd (aB.ae ds 0) (rI ds 33)).1]++[.sl (cd (aB.ae ds 0) (rI ds 33)).2.1]++[.sl (cd (aB.ae ds 0) (rI ds 33)).2.2.1]++[.sl (cd (aB.ae ds 0) (rI ds 33)).2.2.2.1]++[.sl (cd (aB.ae ds 0) (rI ds 33)).2.2.2.2.1]++[.sl (cd (aB.ae ds 0) (rI ds 33)).2.2.2.2.2.1]++[.sl (cd (aB.ae ds 0) (rI ds 33)).2.2.2.2.2.2.1]++[.sl (cd (aB.ae ds 0) (rI ds 33)).2.2.2.2.2.2.2.1]++[.sl (cd (aB.ae ds 0) (rI ds 33)).2.2.2.2.2.2.2.2.1]++[.sl (cd (aB.ae ds 0) (rI ds 33)).2.2.2.2.2.2.2.2.2.1]++[.sl (cd (aB.ae ds 0) (rI ds 33)).2.2.2.2.2.2.2.2.2.2.1]++[.sl (cd (aB.ae ds 0) (rI ds 33)).2.2.2.2.2.2.2.2.2.2.2.1]++[.sl (cd (aB.ae ds 0) (rI ds 33)).2.2.2.2.2.2.2.2.2.2.2.2.1]++[.sl (cd (aB.ae ds 0) (rI ds 33)).2.2.2.2.2.2.2.2.2.2.2.2.2.1]++[.sl (cd (aB.ae ds 0) (rI ds 33)).2.2.2.2.2.2.2.2.2.2.2.2.2.2.1]++[.sl (cd (aB.ae ds 0) (rI ds 33)).2.2.2.2.2.2.2.2.2.2.2.2.2.2.2.1]++[.sl (cd (aB.ae ds 0) (rI ds 33)).2.2.2.2.2.2.2.2.2.2.2.2.2.2.2.2]),ms:=[some (.rows [.flat 9,.flat 157,.flat 3,.deep 96 [3],.flat 170,.deep 58 [3],.flat 133,.flat 4,.flat 3,.flat 221,.flat 242,.flat 3,.flat 179,.flat 9,.flat 3,.flat 3]),none]}
def Nh:Ctx:=[(12,eX),(55,BK),(56,lJ),(57,AU),(58,lH),(59,ry),(60,m8),(61,rP),(62,BN),(63,yN),(64,m6),(65,iG)]
theorem acE:ai Tryz.prog Nh:=ab oz (ab VD (ab QW (ab TD (ab QO (ab Yo (ab Tk (ab Y1 (ab VL (ab Rh (ab Tc (ab HQ aq)))))))))))
def Ni:List (Nat×dv):=[]
theorem acF (N:Nat) (a:aB) (k:Int):lV Tryz.prog Nh Ni N Tryz.f11 Gb (a.enc++(.int k::([])))=oK Vm.bad (fun r0 r1 r2 r3 r4 r5 r6 r7 r8 r9 r10 r11 r12 r13 r14 r15 r16=>((true,[.int r0]++[.sl r1]++[.sl r2]++[.sl r3]++[.sl r4]++[.sl r5]++[.sl r6]++[.sl r7]++[.sl r8]++[.sl r9]++[.sl r10]++[.sl r11]++[.sl r12]++[.sl r13]++[.sl r14]++[.sl r15]++[.sl r16]):aV)) a k:=by kernel_rfl
theorem acG:ox Tryz.prog 11 Gb:=by
 refine dD (A:=Ni) acE Tryz.func11 rfl (by kernel_rfl) (of_decide_eq_true (by kernel_rfl)) (of_decide_eq_true (by kernel_rfl)) (by kernel_rfl) (fun ds=>by kernel_rfl) ?_
 intro ds hw hok
 replace hw:WtL (aB.ct++((.int .i64)::([]))) ds:=hw
 obtain⟨a,ds,rfl,bT,hw⟩:=aB.aZ (r:=_) hw
 obtain⟨k,ds,rfl,qX,hw⟩:=of_wt_int hw
 obtain rfl:=of_wt_nil hw
 exact⟨0,((acF 0 a k).trans (acH Vm.bad _ a k hok)).trans (by kernel_rfl)⟩
def Gc:Sum:= {ps:=[⟨[.sl [.str],.sl [.int .i64,.int .i64,.int .i64,.bool],.int .i64,.int .i64,.int .i64,.int .i64,.int .i64,.int .i64,.int .i64,.sl [.int .i64],.sl [.int .i64,.int .i64,.sl [.int .i64]],.int .i64,.sl [.int .i64,.int .i64,.int .i64,.int .i64,.int .i64,.int .i64,.int .i64,.int .i64,.int .i64,.int .i64,.int .i64,.int .i64,.int .i64,.int .i64,.int .i64,.int .i64,.int .i64,.int .i64,.int .i64,.int .i64,.int .i64,.int .i64,.int .i64,.int .i64,.int .i64,.str,.int .i64,.int .i64,.bool,.int .i64],.sl [.int .i64,.int .i64,.int .i64,.sl [.int .i64]],.sl [.int .i64,.int .i64,.int .i64,.int .i64,.bool,.bool],.sl [.bool],.int .i64,.bool,.sl [.int .i64],.sl [.int .i64,.int .i64,.int .i64,.int .i64,.int .i64,.int .i64,.int .i64,.int .i64,.int .i64],.sl [.int .i64,.int .i64,.int .i64,.int .i64,.int .i64,.int .i64,.int .i64],.str,.sl [.int .i64],.sl [.int .i64,.int .i64,.int .i64,.int .i64,.int .i64,.int .i64,.str,.bool],.bool,.sl [.str],.sl [.int .i64],.sl [.int .i64],.int .i64,.int .i64,.int .i64,.int .i64,.int .i64],true⟩,⟨[.int .i64],false⟩],rs:=[⟨[.imm (.int .i64)],false⟩],fn:=fun ds=>(Bh (aB.ae ds 0) (rI ds 33),[.int (Lx (aB.ae ds 0) (rI ds 33))])}
def Nj:Ctx:=[(13,eY),(72,BL),(73,lK),(74,AV),(75,lI),(76,rz),(77,m9),(78,rQ),(79,BO),(80,yO),(81,m7),(82,iH)]
theorem acI:ai Tryz.prog Nj:=ab oA (ab VH (ab Q_ (ab TH (ab QS (ab Ys (ab To (ab Y2 (ab VP (ab Rl (ab Tg (ab HR aq)))))))))))
def Nk:List (Nat×dv):=[]
theorem acJ (N:Nat) (a:aB) (k:Int):bg Tryz.prog Nj Nk N Tryz.f16 Gc (a.enc++(.int k::([])))=oL Vm.bad (fun r0=>((true,[.int r0]):aV)) a k:=by kernel_rfl
theorem acK:Holds Tryz.prog 16 Gc:=by
 refine aa (A:=Nk) acI Tryz.func16 rfl (by kernel_rfl) (of_decide_eq_true (by kernel_rfl)) (of_decide_eq_true (by kernel_rfl)) ?_
 intro ds hw hok
 replace hw:WtL (aB.ct++((.int .i64)::([]))) ds:=hw
 obtain⟨a,ds,rfl,bT,hw⟩:=aB.aZ (r:=_) hw
 obtain⟨k,ds,rfl,qX,hw⟩:=of_wt_int hw
 obtain rfl:=of_wt_nil hw
 exact⟨0,((acJ 0 a k).trans (acL Vm.bad _ a k hok)).trans (by kernel_rfl)⟩
end
end Go.Proofs.YthpmalpdnnbkgaaGreat.Pl
