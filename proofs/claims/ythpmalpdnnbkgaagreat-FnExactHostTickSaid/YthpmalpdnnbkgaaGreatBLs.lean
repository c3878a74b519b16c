/- The contracts of functions of the program: each computes what its plain form says. Conditions: none. -/
import Derived.Test.YthpmalpdnnbkgaaGreatPLs
import Derived.Test.YthpmalpdnnbkgaaGreatRows
set_option linter.unusedVariables false
set_option linter.unusedSimpArgs false
set_option maxRecDepth 100000
namespace Go.Proofs.YthpmalpdnnbkgaaGreat.Pl
open Vm
noncomputable section
def D8:Sum:= {ps:=[⟨[.int .i64,.int .i64,.int .i64,.bool],true⟩],rs:=[⟨[.imm (.int .i64),.imm (.int .i64),.imm (.int .i64),.imm .bool],true⟩],fn:=fun ds=>(true,cq.enc (ca (cq.ae ds 0)))}
def LA:Ctx:=[]
theorem Ze:ai Tryz.prog LA:=aq
def LB:List (Nat×dv):=[]
theorem Zf (N:Nat) (a:cq):bg Tryz.prog LA LB N Tryz.f90 D8 (a.enc++([]))=LC (fun r0=>((true,cq.enc r0):aV)) a:=by kernel_rfl
theorem Zg:Holds Tryz.prog 90 D8:=by
 refine aa (A:=LB) Ze Tryz.func90 rfl (by kernel_rfl) (of_decide_eq_true (by kernel_rfl)) (of_decide_eq_true (by kernel_rfl)) ?_
 intro ds hw hok
 replace hw:WtL (cq.ct++([])) ds:=hw
 obtain⟨a,ds,rfl,bT,hw⟩:=cq.aZ (r:=_) hw
 obtain rfl:=of_wt_nil hw
 exact⟨0,((Zf 0 a).trans (Zh _ a bT)).trans (by kernel_rfl)⟩
def qf:Sum:= {ps:=[⟨[.sl [.int .i64,.int .i64,.int .i64,.bool]],false⟩],rs:=[⟨[.own 157 [.int .i64,.int .i64,.int .i64,.bool]],false⟩],fn:=fun ds=>(sm (rR ds 0),[.sl (ca (rR ds 0))])}
def vg:Ctx:=[(90,D8)]
theorem Wi:ai Tryz.prog vg:=ab Zg aq
def vh:List (Nat×dv):=[(3, {bJ:=[(0,.aU),(3,.aU),(4,.aU)],boxes:=[]})]
def gD:Rows→aV:=(fun r0=>((true,[.sl r0]):aV))
def iK (a:Rows) (i:Int) (az:Rows):St:= {n:=23,sl:=[(0,.sl [.int .i64,.int .i64,.int .i64,.bool] a),(3,.own 640192),(4,.int .i64 i)],hp:=[(640192,.row 157 [.int .i64,.int .i64,.int .i64,.bool] az false true)],ok:=true,ls:=[],lm:=[]}
noncomputable def iL (N:Nat):(St→aV)→St→aV:=dw Tryz.prog vg vh N Tryz.f30 qf [true,true,false,true,false] []
theorem TN (N:Nat) (a:Rows) (ih:St→aV) (i:Int) (az:Rows):iL N ih (iK a i az)=nG Vm.bad gD a (fun i az=>ih (iK a i az)) i az:=by kernel_rfl
theorem TP (N:Nat) (a:Rows) (m_:Nat):(fun i az=>aw (iL N) m_ (iK a i az))=iM Vm.bad gD N a m_:=by
 induction m_ with
 | zero=>rfl
 | succ m_ ih=>
  funext i az
  show iL N (aw (iL N) m_) (iK a i az)=_
  rw[TN N a]
  rw[ih]
  rfl
theorem Wj (N:Nat) (a:Rows):bg Tryz.prog vg vh N Tryz.f30 qf (.sl a::([]))=vi Vm.bad gD N a:=by
 have cm:bg Tryz.prog vg vh N Tryz.f30 qf (.sl a::([]))=vj Vm.bad gD (fun i az=>aw (iL N) N (iK a i az)) a:=by kernel_rfl
 refine cm.trans ?_
 unfold vi
 have e0:(fun i az=>aw (iL N) N (iK a i az))=(iM Vm.bad gD N a N):=by
  exact TP N a N
 exact congrArg (fun l_=>vj Vm.bad gD l_ a) e0
theorem Wk:Holds Tryz.prog 30 qf:=by
 refine aa (A:=vh) Wi Tryz.func30 rfl (by kernel_rfl) (of_decide_eq_true (by kernel_rfl)) (of_decide_eq_true (by kernel_rfl)) ?_
 intro ds hw hok
 replace hw:WtL ((.sl [.int .i64,.int .i64,.int .i64,.bool])::([])) ds:=hw
 obtain⟨a,ds,rfl,bT,hw⟩:=of_wt_sl hw
 obtain rfl:=of_wt_nil hw
 obtain⟨N,hN⟩:=Wl Vm.bad gD a bT hok
 exact⟨N,((Wj N a).trans hN).trans (by kernel_rfl)⟩
def mF:Sum:= {ps:=[⟨[.sl [.str]],false⟩,⟨[.int .i64],false⟩],rs:=[⟨[.imm (.int .i64)],false⟩],fn:=fun ds=>(true,[.int (ew (rR ds 0) (rI ds 1))])}
def xJ:Ctx:=[]
theorem Zi:ai Tryz.prog xJ:=aq
def xK:List (Nat×dv):=[(5, {bJ:=[(0,.aU),(1,.aU),(5,.aU)],boxes:=[]})]
def iN:Int→aV:=(fun r0=>((true,[.int r0]):aV))
def kn (a:Rows) (bH:Int) (i:Int):St:= {n:=28,sl:=[(0,.sl [.str] a),(1,.int .i64 bH),(5,.int .i64 i)],hp:=[],ok:=true,ls:=[],lm:=[]}
noncomputable def ko (N:Nat):(St→aV)→St→aV:=dw Tryz.prog xJ xK N Tryz.f27 mF [true,true,true,false,true,false] []
theorem Wm (N:Nat) (a:Rows) (ih:St→aV) (bH:Int) (i:Int):ko N ih (kn a bH i)=qg Vm.bad iN a (fun bH i=>ih (kn a bH i)) bH i:=by kernel_rfl
theorem Wn (N:Nat) (a:Rows) (m_:Nat):(fun bH i=>aw (ko N) m_ (kn a bH i))=kp Vm.bad iN N a m_:=by
 induction m_ with
 | zero=>rfl
 | succ m_ ih=>
  funext bH i
  show ko N (aw (ko N) m_) (kn a bH i)=_
  rw[Wm N a]
  rw[ih]
  rfl
theorem Zj (N:Nat) (a:Rows) (left:Int):bg Tryz.prog xJ xK N Tryz.f27 mF (.sl a::(.int left::([])))=xL Vm.bad iN N a left:=by
 have cm:bg Tryz.prog xJ xK N Tryz.f27 mF (.sl a::(.int left::([])))=xM Vm.bad iN (fun bH i=>aw (ko N) N (kn a bH i)) a left:=by kernel_rfl
 refine cm.trans ?_
 unfold xL
 have e0:(fun bH i=>aw (ko N) N (kn a bH i))=(kp Vm.bad iN N a N):=by
  exact Wn N a N
 exact congrArg (fun l_=>xM Vm.bad iN l_ a left) e0
theorem LD:Holds Tryz.prog 27 mF:=by
 refine aa (A:=xK) Zi Tryz.func27 rfl (by kernel_rfl) (of_decide_eq_true (by kernel_rfl)) (of_decide_eq_true (by kernel_rfl)) ?_
 intro ds hw hok
 replace hw:WtL ((.sl [.str])::((.int .i64)::([]))) ds:=hw
 obtain⟨a,ds,rfl,bT,hw⟩:=of_wt_sl hw
 obtain⟨left,ds,rfl,dS,hw⟩:=of_wt_int hw
 obtain rfl:=of_wt_nil hw
 obtain⟨N,hN⟩:=Zk Vm.bad iN a left bT dS
 exact⟨N,((Zj N a left).trans hN).trans (by kernel_rfl)⟩
def Gh:Sum:= {ps:=[⟨[.sl [.str]],true⟩,⟨[.int .i64],false⟩],rs:=[⟨[.imm (.int .i64)],false⟩],fn:=fun ds=>(true,[.int (dj (aK.ae ds 0) (rI ds 1))])}
def Nq:Ctx:=[(27,mF)]
theorem ade:ai Tryz.prog Nq:=ab LD aq
def Nr:List (Nat×dv):=[]
theorem adf (N:Nat) (a:aK) (left:Int):bg Tryz.prog Nq Nr N Tryz.f17 Gh (a.enc++(.int left::([])))=Ai (fun r0=>((true,[.int r0]):aV)) a left:=by kernel_rfl
theorem adg:Holds Tryz.prog 17 Gh:=by
 refine aa (A:=Nr) ade Tryz.func17 rfl (by kernel_rfl) (of_decide_eq_true (by kernel_rfl)) (of_decide_eq_true (by kernel_rfl)) ?_
 intro ds hw hok
 replace hw:WtL (aK.ct++((.int .i64)::([]))) ds:=hw
 obtain⟨a,ds,rfl,bT,hw⟩:=aK.aZ (r:=_) hw
 obtain⟨left,ds,rfl,dS,hw⟩:=of_wt_int hw
 obtain rfl:=of_wt_nil hw
 exact⟨0,((adf 0 a left).trans (adh _ a left)).trans (by kernel_rfl)⟩
def Cg:Sum:= {ps:=[⟨[.sl [.int .i64,.int .i64,.int .i64,.bool]],false⟩,⟨[.int .i64],false⟩],rs:=[⟨[.imm (.int .i64)],false⟩],fn:=fun ds=>(true,[.int (cS (rR ds 0) (rI ds 1))])}
def JQ:Ctx:=[]
theorem Wo:ai Tryz.prog JQ:=aq
def JR:List (Nat×dv):=[]
theorem Wp (N:Nat) (a:Rows) (left:Int):bg Tryz.prog JQ JR N Tryz.f18 Cg (.sl a::(.int left::([])))=JS (fun r0=>((true,[.int r0]):aV)) a left:=by kernel_rfl
theorem Wq:Holds Tryz.prog 18 Cg:=by
 refine aa (A:=JR) Wo Tryz.func18 rfl (by kernel_rfl) (of_decide_eq_true (by kernel_rfl)) (of_decide_eq_true (by kernel_rfl)) ?_
 intro ds hw hok
 replace hw:WtL ((.sl [.int .i64,.int .i64,.int .i64,.bool])::((.int .i64)::([]))) ds:=hw
 obtain⟨a,ds,rfl,bT,hw⟩:=of_wt_sl hw
 obtain⟨left,ds,rfl,dS,hw⟩:=of_wt_int hw
 obtain rfl:=of_wt_nil hw
 exact⟨0,((Wp 0 a left).trans (Wr _ a left bT dS)).trans (by kernel_rfl)⟩
def qI:Sum:= {ps:=[⟨[.sl [.int .i64]],false⟩,⟨[.int .i64],false⟩],rs:=[⟨[.imm (.int .i64)],false⟩],fn:=fun ds=>(true,[.int (cS (rR ds 0) (rI ds 1))])}
def RU:Ctx:=[]
theorem ajL:ai Tryz.prog RU:=aq
def RV:List (Nat×dv):=[]
theorem ajM (N:Nat) (a:Rows) (left:Int):bg Tryz.prog RU RV N Tryz.f28 qI (.sl a::(.int left::([])))=RW (fun r0=>((true,[.int r0]):aV)) a left:=by kernel_rfl
theorem y9:Holds Tryz.prog 28 qI:=by
 refine aa (A:=RV) ajL Tryz.func28 rfl (by kernel_rfl) (of_decide_eq_true (by kernel_rfl)) (of_decide_eq_true (by kernel_rfl)) ?_
 intro ds hw hok
 replace hw:WtL ((.sl [.int .i64])::((.int .i64)::([]))) ds:=hw
 obtain⟨a,ds,rfl,bT,hw⟩:=of_wt_sl hw
 obtain⟨left,ds,rfl,dS,hw⟩:=of_wt_int hw
 obtain rfl:=of_wt_nil hw
 exact⟨0,((ajM 0 a left).trans (ajN _ a left bT dS)).trans (by kernel_rfl)⟩
def EX:Sum:= {ps:=[⟨[.int .i64,.int .i64,.int .i64,.sl [.int .i64]],true⟩,⟨[.int .i64],false⟩],rs:=[⟨[.imm (.int .i64)],false⟩],fn:=fun ds=>(true,[.int (eC (aJ.ae ds 0) (rI ds 4))])}
def RX:Ctx:=[(28,qI)]
theorem ajO:ai Tryz.prog RX:=ab y9 aq
def RY:List (Nat×dv):=[]
theorem ajP (N:Nat) (a:aJ) (left:Int):bg Tryz.prog RX RY N Tryz.f83 EX (a.enc++(.int left::([])))=EY (fun r0=>((true,[.int r0]):aV)) a left:=by kernel_rfl
theorem RZ:Holds Tryz.prog 83 EX:=by
 refine aa (A:=RY) ajO Tryz.func83 rfl (by kernel_rfl) (of_decide_eq_true (by kernel_rfl)) (of_decide_eq_true (by kernel_rfl)) ?_
 intro ds hw hok
 replace hw:WtL (aJ.ct++((.int .i64)::([]))) ds:=hw
 obtain⟨a,ds,rfl,bT,hw⟩:=aJ.aZ (r:=_) hw
 obtain⟨left,ds,rfl,dS,hw⟩:=of_wt_int hw
 obtain rfl:=of_wt_nil hw
 exact⟨0,((ajP 0 a left).trans (ajQ _ a left)).trans (by kernel_rfl)⟩
def KS:Sum:= {ps:=[⟨[.int .i64,.int .i64,.sl [.int .i64]],true⟩,⟨[.int .i64],false⟩],rs:=[⟨[.imm (.int .i64)],false⟩],fn:=fun ds=>(true,[.int (eT (df.ae ds 0) (rI ds 3))])}
def R0:Ctx:=[(28,qI)]
theorem ajR:ai Tryz.prog R0:=ab y9 aq
def R1:List (Nat×dv):=[]
theorem ajS (N:Nat) (a:df) (left:Int):bg Tryz.prog R0 R1 N Tryz.f154 KS (a.enc++(.int left::([])))=y_ (fun r0=>((true,[.int r0]):aV)) a left:=by kernel_rfl
theorem ajT:Holds Tryz.prog 154 KS:=by
 refine aa (A:=R1) ajR Tryz.func154 rfl (by kernel_rfl) (of_decide_eq_true (by kernel_rfl)) (of_decide_eq_true (by kernel_rfl)) ?_
 intro ds hw hok
 replace hw:WtL (df.ct++((.int .i64)::([]))) ds:=hw
 obtain⟨a,ds,rfl,bT,hw⟩:=df.aZ (r:=_) hw
 obtain⟨left,ds,rfl,dS,hw⟩:=of_wt_int hw
 obtain rfl:=of_wt_nil hw
 exact⟨0,((ajS 0 a left).trans (ajU _ a left)).trans (by kernel_rfl)⟩
def wq:Sum:= {ps:=[⟨[.sl [.int .i64,.int .i64,.sl [.int .i64]]],false⟩,⟨[.int .i64],false⟩],rs:=[⟨[.imm (.int .i64)],false⟩],fn:=fun ds=>(true,[.int (jn (rR ds 0) (rI ds 1))])}
def Ch:Ctx:=[(154,KS)]
theorem agG:ai Tryz.prog Ch:=ab ajT aq
def Ci:List (Nat×dv):=[(5, {bJ:=[(0,.aU),(1,.aU),(5,.aU)],boxes:=[]})]
def nH:Int→aV:=(fun r0=>((true,[.int r0]):aV))
def oQ (a:Rows) (bH:Int) (i:Int):St:= {n:=27,sl:=[(0,.sl [.int .i64,.int .i64,.sl [.int .i64]] a),(1,.int .i64 bH),(5,.int .i64 i)],hp:=[],ok:=true,ls:=[],lm:=[]}
noncomputable def oR (N:Nat):(St→aV)→St→aV:=dw Tryz.prog Ch Ci N Tryz.f84 wq [true,true,true,false,true,false] []
theorem adi (N:Nat) (a:Rows) (ih:St→aV) (bH:Int) (i:Int):oR N ih (oQ a bH i)=ux Vm.bad nH a (fun bH i=>ih (oQ a bH i)) bH i:=by kernel_rfl
theorem adj (N:Nat) (a:Rows) (m_:Nat):(fun bH i=>aw (oR N) m_ (oQ a bH i))=oS Vm.bad nH N a m_:=by
 induction m_ with
 | zero=>rfl
 | succ m_ ih=>
  funext bH i
  show oR N (aw (oR N) m_) (oQ a bH i)=_
  rw[adi N a]
  rw[ih]
  rfl
theorem agH (N:Nat) (a:Rows) (left:Int):bg Tryz.prog Ch Ci N Tryz.f84 wq (.sl a::(.int left::([])))=Cj Vm.bad nH N a left:=by
 have cm:bg Tryz.prog Ch Ci N Tryz.f84 wq (.sl a::(.int left::([])))=Ck Vm.bad nH (fun bH i=>aw (oR N) N (oQ a bH i)) a left:=by kernel_rfl
 refine cm.trans ?_
 unfold Cj
 have e0:(fun bH i=>aw (oR N) N (oQ a bH i))=(oS Vm.bad nH N a N):=by
  exact adj N a N
 exact congrArg (fun l_=>Ck Vm.bad nH l_ a left) e0
theorem agI:Holds Tryz.prog 84 wq:=by
 refine aa (A:=Ci) agG Tryz.func84 rfl (by kernel_rfl) (of_decide_eq_true (by kernel_rfl)) (of_decide_eq_true (by kernel_rfl)) ?_
 intro ds hw hok
 replace hw:WtL ((.sl [.int .i64,.int .i64,.sl [.int .i64]])::((.int .i64)::([]))) ds:=hw
 obtain⟨a,ds,rfl,bT,hw⟩:=of_wt_sl hw
 obtain⟨left,ds,rfl,dS,hw⟩:=of_wt_int hw
 obtain rfl:=of_wt_nil hw
 obtain⟨N,hN⟩:=agJ Vm.bad nH a left bT dS
 exact⟨N,((agH N a left).trans hN).trans (by kernel_rfl)⟩
def D9:Sum:= {ps:=[⟨[.int .i64,.int .i64,.int .i64,.int .i64,.int .i64,.int .i64,.int .i64,.sl [.int .i64],.sl [.int .i64,.int .i64,.sl [.int .i64]],.int .i64],true⟩,⟨[.int .i64],false⟩],rs:=[⟨[.imm (.int .i64)],false⟩],fn:=fun ds=>(true,[.int (dq (au.ae ds 0) (rI ds 10))])}
def LF:Ctx:=[(83,EX),(84,wq)]
theorem Zl:ai Tryz.prog LF:=ab RZ (ab agI aq)
def LG:List (Nat×dv):=[]
theorem Zm (N:Nat) (a:au) (left:Int):bg Tryz.prog LF LG N Tryz.f19 D9 (a.enc++(.int left::([])))=r_ (fun r0=>((true,[.int r0]):aV)) a left:=by kernel_rfl
theorem Zn:Holds Tryz.prog 19 D9:=by
 refine aa (A:=LG) Zl Tryz.func19 rfl (by kernel_rfl) (of_decide_eq_true (by kernel_rfl)) (of_decide_eq_true (by kernel_rfl)) ?_
 intro ds hw hok
 replace hw:WtL (au.ct++((.int .i64)::([]))) ds:=hw
 obtain⟨a,ds,rfl,bT,hw⟩:=au.aZ (r:=_) hw
 obtain⟨left,ds,rfl,dS,hw⟩:=of_wt_int hw
 obtain rfl:=of_wt_nil hw
 exact⟨0,((Zm 0 a left).trans (Zo _ a left)).trans (by kernel_rfl)⟩
def D_:Sum:= {ps:=[⟨[.int .i64,.int .i64,.int .i64,.int .i64,.int .i64,.int .i64,.int .i64,.str],true⟩,⟨[.int .i64],false⟩],rs:=[⟨[.imm (.int .i64)],false⟩],fn:=fun ds=>(true,[.int (jD (bk.ae ds 0) (rI ds 8))])}
def LH:Ctx:=[]
theorem Zp:ai Tryz.prog LH:=aq
def LI:List (Nat×dv):=[]
theorem Zq (N:Nat) (a:bk) (left:Int):bg Tryz.prog LH LI N Tryz.f211 D_ (a.enc++(.int left::([])))=xN (fun r0=>((true,[.int r0]):aV)) a left:=by kernel_rfl
theorem Zr:Holds Tryz.prog 211 D_:=by
 refine aa (A:=LI) Zp Tryz.func211 rfl (by kernel_rfl) (of_decide_eq_true (by kernel_rfl)) (of_decide_eq_true (by kernel_rfl)) ?_
 intro ds hw hok
 replace hw:WtL (bk.ct++((.int .i64)::([]))) ds:=hw
 obtain⟨a,ds,rfl,bT,hw⟩:=bk.aZ (r:=_) hw
 obtain⟨left,ds,rfl,dS,hw⟩:=of_wt_int hw
 obtain rfl:=of_wt_nil hw
 exact⟨0,((Zq 0 a left).trans (Zs _ a left)).trans (by kernel_rfl)⟩
def Gi:Sum:= {ps:=[⟨[.int .i64,.int .i64,.int .i64,.int .i64,.int .i64,.int .i64,.int .i64,.int .i64,.int .i64,.int .i64,.int .i64,.int .i64,.int .i64,.int .i64,.int .i64,.str],true⟩,⟨[.int .i64],false⟩],rs:=[⟨[.imm (.int .i64)],false⟩],fn:=fun ds=>(true,[.int (lW (bG.ae ds 0) (rI ds 16))])}
def Ns:Ctx:=[(211,D_)]
theorem adk:ai Tryz.prog Ns:=ab Zr aq
def Nt:List (Nat×dv):=[]
theorem adl (N:Nat) (a:bG) (left:Int):bg Tryz.prog Ns Nt N Tryz.f192 Gi (a.enc++(.int left::([])))=Aj (fun r0=>((true,[.int r0]):aV)) a left:=by kernel_rfl
theorem adm:Holds Tryz.prog 192 Gi:=by
 refine aa (A:=Nt) adk Tryz.func192 rfl (by kernel_rfl) (of_decide_eq_true (by kernel_rfl)) (of_decide_eq_true (by kernel_rfl)) ?_
 intro ds hw hok
 replace hw:WtL (bG.ct++((.int .i64)::([]))) ds:=hw
 obtain⟨a,ds,rfl,bT,hw⟩:=bG.aZ (r:=_) hw
 obtain⟨left,ds,rfl,dS,hw⟩:=of_wt_int hw
 obtain rfl:=of_wt_nil hw
 exact⟨0,((adl 0 a left).trans (adn _ a left)).trans (by kernel_rfl)⟩
def Ie:Sum:= {ps:=[⟨[.int .i64,.int .i64,.int .i64,.int .i64,.int .i64,.int .i64,.int .i64,.int .i64,.int .i64,.int .i64,.int .i64,.int .i64,.int .i64,.int .i64,.int .i64,.str,.int .i64,.int .i64],true⟩,⟨[.int .i64],false⟩],rs:=[⟨[.imm (.int .i64)],false⟩],fn:=fun ds=>(true,[.int (qh (dh.ae ds 0) (rI ds 18))])}
def O2:Ctx:=[(192,Gi)]
theorem agK:ai Tryz.prog O2:=ab adm aq
def O3:List (Nat×dv):=[]
theorem agL (N:Nat) (a:dh) (left:Int):bg Tryz.prog O2 O3 N Tryz.f155 Ie (a.enc++(.int left::([])))=Cl (fun r0=>((true,[.int r0]):aV)) a left:=by kernel_rfl
theorem agM:Holds Tryz.prog 155 Ie:=by
 refine aa (A:=O3) agK Tryz.func155 rfl (by kernel_rfl) (of_decide_eq_true (by kernel_rfl)) (of_decide_eq_true (by kernel_rfl)) ?_
 intro ds hw hok
 replace hw:WtL (dh.ct++((.int .i64)::([]))) ds:=hw
 obtain⟨a,ds,rfl,bT,hw⟩:=dh.aZ (r:=_) hw
 obtain⟨left,ds,rfl,dS,hw⟩:=of_wt_int hw
 obtain rfl:=of_wt_nil hw
 exact⟨0,((agL 0 a left).trans (agN _ a left)).trans (by kernel_rfl)⟩
def Ea:Sum:= {ps:=[⟨[.int .i64,.int .i64,.int .i64,.int .i64,.int .i64,.int .i64,.int .i64,.int .i64,.int .i64,.int .i64,.int .i64,.int .i64,.int .i64,.int .i64,.int .i64,.int .i64,.int .i64,.int .i64,.int .i64,.int .i64,.int .i64,.int .i64,.int .i64,.int .i64,.int .i64,.str,.int .i64,.int .i64,.bool,.int .i64],true⟩,⟨[.int .i64],false⟩],rs:=[⟨[.imm (.int .i64)],false⟩],fn:=fun ds=>(true,[.int (fD (aS.ae ds 0) (rI ds 30))])}
def LJ:Ctx:=[(155,Ie)]
theorem Zt:ai Tryz.prog LJ:=ab agM aq
def LK:List (Nat×dv):=[]
theorem Zu (N:Nat) (a:aS) (left:Int):bg Tryz.prog LJ LK N Tryz.f85 Ea (a.enc++(.int left::([])))=xO (fun r0=>((true,[.int r0]):aV)) a left:=by kernel_rfl
theorem Zv:Holds Tryz.prog 85 Ea:=by
 refine aa (A:=LK) Zt Tryz.func85 rfl (by kernel_rfl) (of_decide_eq_true (by kernel_rfl)) (of_decide_eq_true (by kernel_rfl)) ?_
 intro ds hw hok
 replace hw:WtL (aS.ct++((.int .i64)::([]))) ds:=hw
 obtain⟨a,ds,rfl,bT,hw⟩:=aS.aZ (r:=_) hw
 obtain⟨left,ds,rfl,dS,hw⟩:=of_wt_int hw
 obtain rfl:=of_wt_nil hw
 exact⟨0,((Zu 0 a left).trans (Zw _ a left)).trans (by kernel_rfl)⟩
def qi:Sum:= {ps:=[⟨[.sl [.int .i64,.int .i64,.int .i64,.int .i64,.int .i64,.int .i64,.int .i64,.int .i64,.int .i64,.int .i64,.int .i64,.int .i64,.int .i64,.int .i64,.int .i64,.int .i64,.int .i64,.int .i64,.int .i64,.int .i64,.int .i64,.int .i64,.int .i64,.int .i64,.int .i64,.str,.int .i64,.int .i64,.bool,.int .i64]],false⟩,⟨[.int .i64],false⟩],rs:=[⟨[.imm (.int .i64)],false⟩],fn:=fun ds=>(true,[.int (dC (rR ds 0) (rI ds 1))])}
def vk:Ctx:=[(85,Ea)]
theorem Ws:ai Tryz.prog vk:=ab Zv aq
def vl:List (Nat×dv):=[(5, {bJ:=[(0,.aU),(1,.aU),(5,.aU)],boxes:=[]})]
def gE:Int→aV:=(fun r0=>((true,[.int r0]):aV))
def iO (a:Rows) (bH:Int) (i:Int):St:= {n:=27,sl:=[(0,.sl [.int .i64,.int .i64,.int .i64,.int .i64,.int .i64,.int .i64,.int .i64,.int .i64,.int .i64,.int .i64,.int .i64,.int .i64,.int .i64,.int .i64,.int .i64,.int .i64,.int .i64,.int .i64,.int .i64,.int .i64,.int .i64,.int .i64,.int .i64,.int .i64,.int .i64,.str,.int .i64,.int .i64,.bool,.int .i64] a),(1,.int .i64 bH),(5,.int .i64 i)],hp:=[],ok:=true,ls:=[],lm:=[]}
noncomputable def iP (N:Nat):(St→aV)→St→aV:=dw Tryz.prog vk vl N Tryz.f20 qi [true,true,true,false,true,false] []
theorem TQ (N:Nat) (a:Rows) (ih:St→aV) (bH:Int) (i:Int):iP N ih (iO a bH i)=nI Vm.bad gE a (fun bH i=>ih (iO a bH i)) bH i:=by kernel_rfl
theorem TR (N:Nat) (a:Rows) (m_:Nat):(fun bH i=>aw (iP N) m_ (iO a bH i))=iQ Vm.bad gE N a m_:=by
 induction m_ with
 | zero=>rfl
 | succ m_ ih=>
  funext bH i
  show iP N (aw (iP N) m_) (iO a bH i)=_
  rw[TQ N a]
  rw[ih]
  rfl
theorem Wt (N:Nat) (a:Rows) (left:Int):bg Tryz.prog vk vl N Tryz.f20 qi (.sl a::(.int left::([])))=vm Vm.bad gE N a left:=by
 have cm:bg Tryz.prog vk vl N Tryz.f20 qi (.sl a::(.int left::([])))=vn Vm.bad gE (fun bH i=>aw (iP N) N (iO a bH i)) a left:=by kernel_rfl
 refine cm.trans ?_
 unfold vm
 have e0:(fun bH i=>aw (iP N) N (iO a bH i))=(iQ Vm.bad gE N a N):=by
  exact TR N a N
 exact congrArg (fun l_=>vn Vm.bad gE l_ a left) e0
theorem Wu:Holds Tryz.prog 20 qi:=by
 refine aa (A:=vl) Ws Tryz.func20 rfl (by kernel_rfl) (of_decide_eq_true (by kernel_rfl)) (of_decide_eq_true (by kernel_rfl)) ?_
 intro ds hw hok
 replace hw:WtL ((.sl [.int .i64,.int .i64,.int .i64,.int .i64,.int .i64,.int .i64,.int .i64,.int .i64,.int .i64,.int .i64,.int .i64,.int .i64,.int .i64,.int .i64,.int .i64,.int .i64,.int .i64,.int .i64,.int .i64,.int .i64,.int .i64,.int .i64,.int .i64,.int .i64,.int .i64,.str,.int .i64,.int .i64,.bool,.int .i64])::((.int .i64)::([]))) ds:=hw
 obtain⟨a,ds,rfl,bT,hw⟩:=of_wt_sl hw
 obtain⟨left,ds,rfl,dS,hw⟩:=of_wt_int hw
 obtain rfl:=of_wt_nil hw
 obtain⟨N,hN⟩:=Wv Vm.bad gE a left bT dS
 exact⟨N,((Wt N a left).trans hN).trans (by kernel_rfl)⟩
def wu:Sum:= {ps:=[⟨[.sl [.int .i64,.int .i64,.int .i64,.sl [.int .i64]]],false⟩,⟨[.int .i64],false⟩],rs:=[⟨[.imm (.int .i64)],false⟩],fn:=fun ds=>(true,[.int (eh (rR ds 0) (rI ds 1))])}
def Cm:Ctx:=[(83,EX)]
theorem agO:ai Tryz.prog Cm:=ab RZ aq
def Cn:List (Nat×dv):=[(5, {bJ:=[(0,.aU),(1,.aU),(5,.aU)],boxes:=[]})]
def nJ:Int→aV:=(fun r0=>((true,[.int r0]):aV))
def oT (a:Rows) (bH:Int) (i:Int):St:= {n:=27,sl:=[(0,.sl [.int .i64,.int .i64,.int .i64,.sl [.int .i64]] a),(1,.int .i64 bH),(5,.int .i64 i)],hp:=[],ok:=true,ls:=[],lm:=[]}
noncomputable def oU (N:Nat):(St→aV)→St→aV:=dw Tryz.prog Cm Cn N Tryz.f21 wu [true,true,true,false,true,false] []
theorem ado (N:Nat) (a:Rows) (ih:St→aV) (bH:Int) (i:Int):oU N ih (oT a bH i)=uy Vm.bad nJ a (fun bH i=>ih (oT a bH i)) bH i:=by kernel_rfl
theorem adp (N:Nat) (a:Rows) (m_:Nat):(fun bH i=>aw (oU N) m_ (oT a bH i))=oV Vm.bad nJ N a m_:=by
 induction m_ with
 | zero=>rfl
 | succ m_ ih=>
  funext bH i
  show oU N (aw (oU N) m_) (oT a bH i)=_
  rw[ado N a]
  rw[ih]
  rfl
theorem agP (N:Nat) (a:Rows) (left:Int):bg Tryz.prog Cm Cn N Tryz.f21 wu (.sl a::(.int left::([])))=Co Vm.bad nJ N a left:=by
 have cm:bg Tryz.prog Cm Cn N Tryz.f21 wu (.sl a::(.int left::([])))=Cp Vm.bad nJ (fun bH i=>aw (oU N) N (oT a bH i)) a left:=by kernel_rfl
 refine cm.trans ?_
 unfold Co
 have e0:(fun bH i=>aw (oU N) N (oT a bH i))=(oV Vm.bad nJ N a N):=by
  exact adp N a N
 exact congrArg (fun l_=>Cp Vm.bad nJ l_ a left) e0
theorem agQ:Holds Tryz.prog 21 wu:=by
 refine aa (A:=Cn) agO Tryz.func21 rfl (by kernel_rfl) (of_decide_eq_true (by kernel_rfl)) (of_decide_eq_true (by kernel_rfl)) ?_
 intro ds hw hok
 replace hw:WtL ((.sl [.int .i64,.int .i64,.int .i64,.sl [.int .i64]])::((.int .i64)::([]))) ds:=hw
 obtain⟨a,ds,rfl,bT,hw⟩:=of_wt_sl hw
 obtain⟨left,ds,rfl,dS,hw⟩:=of_wt_int hw
 obtain rfl:=of_wt_nil hw
 obtain⟨N,hN⟩:=agR Vm.bad nJ a left bT dS
 exact⟨N,((agP N a left).trans hN).trans (by kernel_rfl)⟩
def Eb:Sum:= {ps:=[⟨[.sl [.int .i64,.int .i64,.int .i64,.int .i64,.bool,.bool]],false⟩,⟨[.int .i64],false⟩],rs:=[⟨[.imm (.int .i64)],false⟩],fn:=fun ds=>(true,[.int (cS (rR ds 0) (rI ds 1))])}
def LL:Ctx:=[]
theorem Zx:ai Tryz.prog LL:=aq
def LM:List (Nat×dv):=[]
theorem Zy (N:Nat) (a:Rows) (left:Int):bg Tryz.prog LL LM N Tryz.f22 Eb (.sl a::(.int left::([])))=LN (fun r0=>((true,[.int r0]):aV)) a left:=by kernel_rfl
theorem Zz:Holds Tryz.prog 22 Eb:=by
 refine aa (A:=LM) Zx Tryz.func22 rfl (by kernel_rfl) (of_decide_eq_true (by kernel_rfl)) (of_decide_eq_true (by kernel_rfl)) ?_
 intro ds hw hok
 replace hw:WtL ((.sl [.int .i64,.int .i64,.int .i64,.int .i64,.bool,.bool])::((.int .i64)::([]))) ds:=hw
 obtain⟨a,ds,rfl,bT,hw⟩:=of_wt_sl hw
 obtain⟨left,ds,rfl,dS,hw⟩:=of_wt_int hw
 obtain rfl:=of_wt_nil hw
 exact⟨0,((Zy 0 a left).trans (ZA _ a left bT dS)).trans (by kernel_rfl)⟩
def Ig:Sum:= {ps:=[⟨[.sl [.bool]],false⟩,⟨[.int .i64],false⟩],rs:=[⟨[.imm (.int .i64)],false⟩],fn:=fun ds=>(true,[.int (cS (rR ds 0) (rI ds 1))])}
def O4:Ctx:=[]
theorem agS:ai Tryz.prog O4:=aq
def O5:List (Nat×dv):=[]
theorem agT (N:Nat) (a:Rows) (left:Int):bg Tryz.prog O4 O5 N Tryz.f23 Ig (.sl a::(.int left::([])))=O6 (fun r0=>((true,[.int r0]):aV)) a left:=by kernel_rfl
theorem agU:Holds Tryz.prog 23 Ig:=by
 refine aa (A:=O5) agS Tryz.func23 rfl (by kernel_rfl) (of_decide_eq_true (by kernel_rfl)) (of_decide_eq_true (by kernel_rfl)) ?_
 intro ds hw hok
 replace hw:WtL ((.sl [.bool])::((.int .i64)::([]))) ds:=hw
 obtain⟨a,ds,rfl,bT,hw⟩:=of_wt_sl hw
 obtain⟨left,ds,rfl,dS,hw⟩:=of_wt_int hw
 obtain rfl:=of_wt_nil hw
 exact⟨0,((agT 0 a left).trans (agV _ a left bT dS)).trans (by kernel_rfl)⟩
def Gj:Sum:= {ps:=[⟨[.int .i64,.bool,.sl [.int .i64]],true⟩,⟨[.int .i64],false⟩],rs:=[⟨[.imm (.int .i64)],false⟩],fn:=fun ds=>(true,[.int (e_ (aI.ae ds 0) (rI ds 3))])}
def Nu:Ctx:=[(28,qI)]
theorem adq:ai Tryz.prog Nu:=ab y9 aq
def Nv:List (Nat×dv):=[]
theorem adr (N:Nat) (a:aI) (left:Int):bg Tryz.prog Nu Nv N Tryz.f24 Gj (a.enc++(.int left::([])))=Ak (fun r0=>((true,[.int r0]):aV)) a left:=by kernel_rfl
theorem ads:Holds Tryz.prog 24 Gj:=by
 refine aa (A:=Nv) adq Tryz.func24 rfl (by kernel_rfl) (of_decide_eq_true (by kernel_rfl)) (of_decide_eq_true (by kernel_rfl)) ?_
 intro ds hw hok
 replace hw:WtL (aI.ct++((.int .i64)::([]))) ds:=hw
 obtain⟨a,ds,rfl,bT,hw⟩:=aI.aZ (r:=_) hw
 obtain⟨left,ds,rfl,dS,hw⟩:=of_wt_int hw
 obtain rfl:=of_wt_nil hw
 exact⟨0,((adr 0 a left).trans (adt _ a left)).trans (by kernel_rfl)⟩
def Ih:Sum:= {ps:=[⟨[.sl [.int .i64,.int .i64,.int .i64,.int .i64,.int .i64,.int .i64,.int .i64,.int .i64,.int .i64]],false⟩,⟨[.int .i64],false⟩],rs:=[⟨[.imm (.int .i64)],false⟩],fn:=fun ds=>(true,[.int (cS (rR ds 0) (rI ds 1))])}
def O7:Ctx:=[]
theorem agW:ai Tryz.prog O7:=aq
def O8:List (Nat×dv):=[]
theorem agX (N:Nat) (a:Rows) (left:Int):bg Tryz.prog O7 O8 N Tryz.f86 Ih (.sl a::(.int left::([])))=O9 (fun r0=>((true,[.int r0]):aV)) a left:=by kernel_rfl
theorem agY:Holds Tryz.prog 86 Ih:=by
 refine aa (A:=O8) agW Tryz.func86 rfl (by kernel_rfl) (of_decide_eq_true (by kernel_rfl)) (of_decide_eq_true (by kernel_rfl)) ?_
 intro ds hw hok
 replace hw:WtL ((.sl [.int .i64,.int .i64,.int .i64,.int .i64,.int .i64,.int .i64,.int .i64,.int .i64,.int .i64])::((.int .i64)::([]))) ds:=hw
 obtain⟨a,ds,rfl,bT,hw⟩:=of_wt_sl hw
 obtain⟨left,ds,rfl,dS,hw⟩:=of_wt_int hw
 obtain rfl:=of_wt_nil hw
 exact⟨0,((agX 0 a left).trans (agZ _ a left bT dS)).trans (by kernel_rfl)⟩
def Ii:Sum:= {ps:=[⟨[.sl [.int .i64,.int .i64,.int .i64,.int .i64,.int .i64,.int .i64,.int .i64]],false⟩,⟨[.int .i64],false⟩],rs:=[⟨[.imm (.int .i64)],false⟩],fn:=fun ds=>(true,[.int (cS (rR ds 0) (rI ds 1))])}
def O_:Ctx:=[]
theorem ag0:ai Tryz.prog O_:=aq
def Pa:List (Nat×dv):=[]
theorem ag1 (N:Nat) (a:Rows) (left:Int):bg Tryz.prog O_ Pa N Tryz.f156 Ii (.sl a::(.int left::([])))=Pb (fun r0=>((true,[.int r0]):aV)) a left:=by kernel_rfl
theorem ag2:Holds Tryz.prog 156 Ii:=by
 refine aa (A:=Pa) ag0 Tryz.func156 rfl (by kernel_rfl) (of_decide_eq_true (by kernel_rfl)) (of_decide_eq_true (by kernel_rfl)) ?_
 intro ds hw hok
 replace hw:WtL ((.sl [.int .i64,.int .i64,.int .i64,.int .i64,.int .i64,.int .i64,.int .i64])::((.int .i64)::([]))) ds:=hw
 obtain⟨a,ds,rfl,bT,hw⟩:=of_wt_sl hw
 obtain⟨left,ds,rfl,dS,hw⟩:=of_wt_int hw
 obtain rfl:=of_wt_nil hw
 exact⟨0,((ag1 0 a left).trans (ag3 _ a left bT dS)).trans (by kernel_rfl)⟩
def AZ:Sum:= {ps:=[⟨[.sl [.int .i64,.int .i64,.int .i64,.int .i64,.int .i64,.int .i64,.int .i64]],true⟩,⟨[.int .i64],false⟩],rs:=[⟨[.imm (.int .i64)],false⟩],fn:=fun ds=>(true,[.int (gv (ag.ae ds 0) (rI ds 1))])}
def Ij:Ctx:=[(156,Ii)]
theorem TS:ai Tryz.prog Ij:=ab ag2 aq
def Ik:List (Nat×dv):=[]
theorem TU (N:Nat) (a:ag) (left:Int):bg Tryz.prog Ij Ik N Tryz.f87 AZ (a.enc++(.int left::([])))=tB (fun r0=>((true,[.int r0]):aV)) a left:=by kernel_rfl
theorem TV:Holds Tryz.prog 87 AZ:=by
 refine aa (A:=Ik) TS Tryz.func87 rfl (by kernel_rfl) (of_decide_eq_true (by kernel_rfl)) (of_decide_eq_true (by kernel_rfl)) ?_
 intro ds hw hok
 replace hw:WtL (ag.ct++((.int .i64)::([]))) ds:=hw
 obtain⟨a,ds,rfl,bT,hw⟩:=ag.aZ (r:=_) hw
 obtain⟨left,ds,rfl,dS,hw⟩:=of_wt_int hw
 obtain rfl:=of_wt_nil hw
 exact⟨0,((TU 0 a left).trans (TW _ a left)).trans (by kernel_rfl)⟩
def Gk:Sum:= {ps:=[⟨[.str,.sl [.int .i64]],true⟩,⟨[.int .i64],false⟩],rs:=[⟨[.imm (.int .i64)],false⟩],fn:=fun ds=>(true,[.int (qJ (aM.ae ds 0) (rI ds 2))])}
def Nw:Ctx:=[(28,qI)]
theorem adu:ai Tryz.prog Nw:=ab y9 aq
def Nx:List (Nat×dv):=[]
theorem adv (N:Nat) (a:aM) (left:Int):bg Tryz.prog Nw Nx N Tryz.f88 Gk (a.enc++(.int left::([])))=Al (fun r0=>((true,[.int r0]):aV)) a left:=by kernel_rfl
theorem adw:Holds Tryz.prog 88 Gk:=by
 refine aa (A:=Nx) adu Tryz.func88 rfl (by kernel_rfl) (of_decide_eq_true (by kernel_rfl)) (of_decide_eq_true (by kernel_rfl)) ?_
 intro ds hw hok
 replace hw:WtL (aM.ct++((.int .i64)::([]))) ds:=hw
 obtain⟨a,ds,rfl,bT,hw⟩:=aM.aZ (r:=_) hw
 obtain⟨left,ds,rfl,dS,hw⟩:=of_wt_int hw
 obtain rfl:=of_wt_nil hw
 exact⟨0,((adv 0 a left).trans (adx _ a left)).trans (by kernel_rfl)⟩
def Cq:Sum:= {ps:=[⟨[.sl [.int .i64,.int .i64,.int .i64,.int .i64,.int .i64,.int .i64,.int .i64,.int .i64,.int .i64],.sl [.int .i64,.int .i64,.int .i64,.int .i64,.int .i64,.int .i64,.int .i64],.str,.sl [.int .i64]],true⟩,⟨[.int .i64],false⟩],rs:=[⟨[.imm (.int .i64)],false⟩],fn:=fun ds=>(true,[.int (ey (al.ae ds 0) (rI ds 4))])}
def JT:Ctx:=[(86,Ih),(87,AZ),(88,Gk)]
theorem Ww:ai Tryz.prog JT:=ab agY (ab TV (ab adw aq))
def JU:List (Nat×dv):=[]
theorem Wx (N:Nat) (a:al) (left:Int):bg Tryz.prog JT JU N Tryz.f25 Cq (a.enc++(.int left::([])))=vo (fun r0=>((true,[.int r0]):aV)) a left:=by kernel_rfl
theorem Wy:Holds Tryz.prog 25 Cq:=by
 refine aa (A:=JU) Ww Tryz.func25 rfl (by kernel_rfl) (of_decide_eq_true (by kernel_rfl)) (of_decide_eq_true (by kernel_rfl)) ?_
 intro ds hw hok
 replace hw:WtL (al.ct++((.int .i64)::([]))) ds:=hw
 obtain⟨a,ds,rfl,bT,hw⟩:=al.aZ (r:=_) hw
 obtain⟨left,ds,rfl,dS,hw⟩:=of_wt_int hw
 obtain rfl:=of_wt_nil hw
 exact⟨0,((Wx 0 a left).trans (Wz _ a left)).trans (by kernel_rfl)⟩
def Gl:Sum:= {ps:=[⟨[.int .i64,.int .i64,.int .i64,.int .i64,.int .i64,.int .i64,.str,.bool],true⟩,⟨[.int .i64],false⟩],rs:=[⟨[.imm (.int .i64)],false⟩],fn:=fun ds=>(true,[.int (gy (bM.ae ds 0) (rI ds 8))])}
def Ny:Ctx:=[]
theorem ady:ai Tryz.prog Ny:=aq
def Nz:List (Nat×dv):=[]
theorem adz (N:Nat) (a:bM) (left:Int):bg Tryz.prog Ny Nz N Tryz.f89 Gl (a.enc++(.int left::([])))=Am (fun r0=>((true,[.int r0]):aV)) a left:=by kernel_rfl
theorem adA:Holds Tryz.prog 89 Gl:=by
 refine aa (A:=Nz) ady Tryz.func89 rfl (by kernel_rfl) (of_decide_eq_true (by kernel_rfl)) (of_decide_eq_true (by kernel_rfl)) ?_
 intro ds hw hok
 replace hw:WtL (bM.ct++((.int .i64)::([]))) ds:=hw
 obtain⟨a,ds,rfl,bT,hw⟩:=bM.aZ (r:=_) hw
 obtain⟨left,ds,rfl,dS,hw⟩:=of_wt_int hw
 obtain rfl:=of_wt_nil hw
 exact⟨0,((adz 0 a left).trans (adB _ a left)).trans (by kernel_rfl)⟩
def sa:Sum:= {ps:=[⟨[.sl [.int .i64,.int .i64,.int .i64,.int .i64,.int .i64,.int .i64,.str,.bool]],false⟩,⟨[.int .i64],false⟩],rs:=[⟨[.imm (.int .i64)],false⟩],fn:=fun ds=>(true,[.int (fE (rR ds 0) (rI ds 1))])}
def xP:Ctx:=[(89,Gl)]
theorem ZB:ai Tryz.prog xP:=ab adA aq
def xQ:List (Nat×dv):=[(5, {bJ:=[(0,.aU),(1,.aU),(5,.aU)],boxes:=[]})]
def iR:Int→aV:=(fun r0=>((true,[.int r0]):aV))
def kq (a:Rows) (bH:Int) (i:Int):St:= {n:=27,sl:=[(0,.sl [.int .i64,.int .i64,.int .i64,.int .i64,.int .i64,.int .i64,.str,.bool] a),(1,.int .i64 bH),(5,.int .i64 i)],hp:=[],ok:=true,ls:=[],lm:=[]}
noncomputable def kr (N:Nat):(St→aV)→St→aV:=dw Tryz.prog xP xQ N Tryz.f26 sa [true,true,true,false,true,false] []
theorem WA (N:Nat) (a:Rows) (ih:St→aV) (bH:Int) (i:Int):kr N ih (kq a bH i)=qj Vm.bad iR a (fun bH i=>ih (kq a bH i)) bH i:=by kernel_rfl
theorem WB (N:Nat) (a:Rows) (m_:Nat):(fun bH i=>aw (kr N) m_ (kq a bH i))=kt Vm.bad iR N a m_:=by
 induction m_ with
 | zero=>rfl
 | succ m_ ih=>
  funext bH i
  show kr N (aw (kr N) m_) (kq a bH i)=_
  rw[WA N a]
  rw[ih]
  rfl
theorem ZC (N:Nat) (a:Rows) (left:Int):bg Tryz.prog xP xQ N Tryz.f26 sa (.sl a::(.int left::([])))=xR Vm.bad iR N a left:=by
 have cm:bg Tryz.prog xP xQ N Tryz.f26 sa (.sl a::(.int left::([])))=xS Vm.bad iR (fun bH i=>aw (kr N) N (kq a bH i)) a left:=by kernel_rfl
 refine cm.trans ?_
 unfold xR
 have e0:(fun bH i=>aw (kr N) N (kq a bH i))=(kt Vm.bad iR N a N):=by
  exact WB N a N
 exact congrArg (fun l_=>xS Vm.bad iR l_ a left) e0
theorem ZD:Holds Tryz.prog 26 sa:=by
 refine aa (A:=xQ) ZB Tryz.func26 rfl (by kernel_rfl) (of_decide_eq_true (by kernel_rfl)) (of_decide_eq_true (by kernel_rfl)) ?_
 intro ds hw hok
 replace hw:WtL ((.sl [.int .i64,.int .i64,.int .i64,.int .i64,.int .i64,.int .i64,.str,.bool])::((.int .i64)::([]))) ds:=hw
 obtain⟨a,ds,rfl,bT,hw⟩:=of_wt_sl hw
 obtain⟨left,ds,rfl,dS,hw⟩:=of_wt_int hw
 obtain rfl:=of_wt_nil hw
 obtain⟨N,hN⟩:=ZE Vm.bad iR a left bT dS
 exact⟨N,((ZC N a left).trans hN).trans (by kernel_rfl)⟩
def KO:Sum:= {ps:=[⟨[.sl [.str],.sl [.int .i64,.int .i64,.int .i64,.bool],.int .i64,.int .i64,.int .i64,.int .i64,.int .i64,.int .i64,.int .i64,.sl [.int .i64],.sl [.int .i64,.int .i64,.sl [.int .i64]],.int .i64,.sl [.int .i64,.int .i64,.int .i64,.int .i64,.int .i64,.int .i64,.int .i64,.int .i64,.int .i64,.int .i64,.int .i64,.int .i64,.int .i64,.int .i64,.int .i64,.int .i64,.int .i64,.int .i64,.int .i64,.int .i64,.int .i64,.int .i64,.int .i64,.int .i64,.int .i64,.str,.int .i64,.int .i64,.bool,.int .i64],.sl [.int .i64,.int .i64,.int .i64,.sl [.int .i64]],.sl [.int .i64,.int .i64,.int .i64,.int .i64,.bool,.bool],.sl [.bool],.int .i64,.bool,.sl [.int .i64],.sl [.int .i64,.int .i64,.int .i64,.int .i64,.int .i64,.int .i64,.int .i64,.int .i64,.int .i64],.sl [.int .i64,.int .i64,.int .i64,.int .i64,.int .i64,.int .i64,.int .i64],.str,.sl [.int .i64],.sl [.int .i64,.int .i64,.int .i64,.int .i64,.int .i64,.int .i64,.str,.bool],.bool,.sl [.str],.sl [.int .i64],.sl [.int .i64],.int .i64,.int .i64,.int .i64,.int .i64,.int .i64],true⟩,⟨[.int .i64],false⟩],rs:=[⟨[.imm (.int .i64)],false⟩],fn:=fun ds=>(true,[.int (qk (aB.ae ds 0) (rI ds 33))])}
def R2:Ctx:=[(17,Gh),(18,Cg),(19,D9),(20,qi),(21,wu),(22,Eb),(23,Ig),(24,Gj),(25,Cq),(26,sa),(27,mF),(28,qI)]
theorem ajV:ai Tryz.prog R2:=ab adg (ab Wq (ab Zn (ab Wu (ab agQ (ab Zz (ab agU (ab ads (ab Wy (ab ZD (ab LD (ab y9 aq)))))))))))
def R3:List (Nat×dv):=[]
theorem ajW (N:Nat) (a:aB) (left:Int):bg Tryz.prog R2 R3 N Tryz.f5 KO (a.enc++(.int left::([])))=za (fun r0=>((true,[.int r0]):aV)) a left:=by kernel_rfl
theorem ajI:Holds Tryz.prog 5 KO:=by
 refine aa (A:=R3) ajV Tryz.func5 rfl (by kernel_rfl) (of_decide_eq_true (by kernel_rfl)) (of_decide_eq_true (by kernel_rfl)) ?_
 intro ds hw hok
 replace hw:WtL (aB.ct++((.int .i64)::([]))) ds:=hw
 obtain⟨a,ds,rfl,bT,hw⟩:=aB.aZ (r:=_) hw
 obtain⟨left,ds,rfl,dS,hw⟩:=of_wt_int hw
 obtain rfl:=of_wt_nil hw
 exact⟨0,((ajW 0 a left).trans (ajX _ a left)).trans (by kernel_rfl)⟩
def mG:Sum:= {ps:=[⟨[.sl [.str]],false⟩,⟨[.sl [.str]],false⟩],rs:=[⟨[.imm .bool],false⟩],fn:=fun ds=>(same (rR ds 0) (rR ds 1),[.bool (cV (rR ds 0) (rR ds 1))])}
def xT:Ctx:=[]
theorem ZF:ai Tryz.prog xT:=aq
def xU:List (Nat×dv):=[(4, {bJ:=[(0,.aU),(1,.aU),(5,.aU)],boxes:=[]})]
def iS:Bool→aV:=(fun r0=>((true,[.bool r0]):aV))
def ku (a:Rows) (b:Rows) (i:Int):St:= {n:=26,sl:=[(0,.sl [.str] a),(1,.sl [.str] b),(5,.int .i64 i)],hp:=[],ok:=true,ls:=[],lm:=[]}
noncomputable def kv (N:Nat):(St→aV)→St→aV:=dw Tryz.prog xT xU N Tryz.f53 mG [true,true,false,true,false] []
theorem WC (N:Nat) (a:Rows) (b:Rows) (ih:St→aV) (i:Int):kv N ih (ku a b i)=ql Vm.bad iS a b (fun i=>ih (ku a b i)) i:=by kernel_rfl
theorem WD (N:Nat) (a:Rows) (b:Rows) (m_:Nat):(fun i=>aw (kv N) m_ (ku a b i))=kx Vm.bad iS N a b m_:=by
 induction m_ with
 | zero=>rfl
 | succ m_ ih=>
  funext i
  show kv N (aw (kv N) m_) (ku a b i)=_
  rw[WC N a b]
  rw[ih]
  rfl
theorem ZG (N:Nat) (a:Rows) (b:Rows):bg Tryz.prog xT xU N Tryz.f53 mG (.sl a::(.sl b::([])))=xV Vm.bad iS N a b:=by
 have cm:bg Tryz.prog xT xU N Tryz.f53 mG (.sl a::(.sl b::([])))=xW Vm.bad iS (fun i=>aw (kv N) N (ku a b i)) a b:=by kernel_rfl
 refine cm.trans ?_
 unfold xV
 have e0:(fun i=>aw (kv N) N (ku a b i))=(kx Vm.bad iS N a b N):=by
  exact WD N a b N
 exact congrArg (fun l_=>xW Vm.bad iS l_ a b) e0
theorem LO:Holds Tryz.prog 53 mG:=by
 refine aa (A:=xU) ZF Tryz.func53 rfl (by kernel_rfl) (of_decide_eq_true (by kernel_rfl)) (of_decide_eq_true (by kernel_rfl)) ?_
 intro ds hw hok
 replace hw:WtL ((.sl [.str])::((.sl [.str])::([]))) ds:=hw
 obtain⟨a,ds,rfl,bT,hw⟩:=of_wt_sl hw
 obtain⟨b,ds,rfl,lX,hw⟩:=of_wt_sl hw
 obtain rfl:=of_wt_nil hw
 obtain⟨N,hN⟩:=ZH Vm.bad iS a b bT lX hok
 exact⟨N,((ZG N a b).trans hN).trans (by kernel_rfl)⟩
def qK:Sum:= {ps:=[⟨[.int .i64,.int .i64,.int .i64],true⟩,⟨[.int .i64,.int .i64,.int .i64],true⟩],rs:=[⟨[.imm .bool],false⟩],fn:=fun ds=>(same (ay.ae ds 0) (ay.ae ds 3),[.bool (cV (ay.ae ds 0) (ay.ae ds 3))])}
def zb:Ctx:=[]
theorem KT:ai Tryz.prog zb:=aq
def zd:List (Nat×dv):=[]
theorem KU (N:Nat) (a:ay) (b:ay):bg Tryz.prog zb zd N Tryz.f164 qK (a.enc++(b.enc++([])))=qL (fun r0=>((true,[.bool r0]):aV)) a b:=by kernel_rfl
theorem KV:Holds Tryz.prog 164 qK:=by
 refine aa (A:=zd) KT Tryz.func164 rfl (by kernel_rfl) (of_decide_eq_true (by kernel_rfl)) (of_decide_eq_true (by kernel_rfl)) ?_
 intro ds hw hok
 replace hw:WtL (ay.ct++(ay.ct++([]))) ds:=hw
 obtain⟨a,ds,rfl,bT,hw⟩:=ay.aZ (r:=_) hw
 obtain⟨b,ds,rfl,lX,hw⟩:=ay.aZ (r:=_) hw
 obtain rfl:=of_wt_nil hw
 exact⟨0,((KU 0 a b).trans (KW _ a b bT lX hok)).trans (by kernel_rfl)⟩
def KX:Sum:= {ps:=[⟨[.int .i64,.int .i64,.int .i64,.int .i64,.int .i64,.int .i64,.int .i64,.int .i64,.int .i64],true⟩],rs:=[⟨[.imm (.int .i64),.imm (.int .i64),.imm (.int .i64),.imm (.int .i64),.imm (.int .i64),.imm (.int .i64),.imm (.int .i64),.imm (.int .i64),.imm (.int .i64)],true⟩],fn:=fun ds=>(true,cZ.enc (ca (cZ.ae ds 0)))}
def R4:Ctx:=[]
theorem ajY:ai Tryz.prog R4:=aq
def R5:List (Nat×dv):=[]
theorem ajZ (N:Nat) (a:cZ):bg Tryz.prog R4 R5 N Tryz.f160 KX (a.enc++([]))=R6 (fun r0=>((true,cZ.enc r0):aV)) a:=by kernel_rfl
theorem aj0:Holds Tryz.prog 160 KX:=by
 refine aa (A:=R5) ajY Tryz.func160 rfl (by kernel_rfl) (of_decide_eq_true (by kernel_rfl)) (of_decide_eq_true (by kernel_rfl)) ?_
 intro ds hw hok
 replace hw:WtL (cZ.ct++([])) ds:=hw
 obtain⟨a,ds,rfl,bT,hw⟩:=cZ.aZ (r:=_) hw
 obtain rfl:=of_wt_nil hw
 exact⟨0,((ajZ 0 a).trans (aj1 _ a bT)).trans (by kernel_rfl)⟩
def wv:Sum:= {ps:=[⟨[.sl [.int .i64,.int .i64,.int .i64,.int .i64,.int .i64,.int .i64,.int .i64,.int .i64,.int .i64]],false⟩],rs:=[⟨[.own 221 [.int .i64,.int .i64,.int .i64,.int .i64,.int .i64,.int .i64,.int .i64,.int .i64,.int .i64]],false⟩],fn:=fun ds=>(sm (rR ds 0),[.sl (ca (rR ds 0))])}
def Cr:Ctx:=[(160,KX)]
theorem ag4:ai Tryz.prog Cr:=ab aj0 aq
def Cs:List (Nat×dv):=[(3, {bJ:=[(0,.aU),(3,.aU),(4,.aU)],boxes:=[]})]
def nK:Rows→aV:=(fun r0=>((true,[.sl r0]):aV))
def oW (a:Rows) (i:Int) (az:Rows):St:= {n:=23,sl:=[(0,.sl [.int .i64,.int .i64,.int .i64,.int .i64,.int .i64,.int .i64,.int .i64,.int .i64,.int .i64] a),(3,.own 640192),(4,.int .i64 i)],hp:=[(640192,.row 221 [.int .i64,.int .i64,.int .i64,.int .i64,.int .i64,.int .i64,.int .i64,.int .i64,.int .i64] az false true)],ok:=true,ls:=[],lm:=[]}
noncomputable def oX (N:Nat):(St→aV)→St→aV:=dw Tryz.prog Cr Cs N Tryz.f96 wv [true,true,false,true,false] []
theorem adC (N:Nat) (a:Rows) (ih:St→aV) (i:Int) (az:Rows):oX N ih (oW a i az)=uz Vm.bad nK a (fun i az=>ih (oW a i az)) i az:=by kernel_rfl
theorem adD (N:Nat) (a:Rows) (m_:Nat):(fun i az=>aw (oX N) m_ (oW a i az))=oY Vm.bad nK N a m_:=by
 induction m_ with
 | zero=>rfl
 | succ m_ ih=>
  funext i az
  show oX N (aw (oX N) m_) (oW a i az)=_
  rw[adC N a]
  rw[ih]
  rfl
theorem ag5 (N:Nat) (a:Rows):bg Tryz.prog Cr Cs N Tryz.f96 wv (.sl a::([]))=Ct Vm.bad nK N a:=by
 have cm:bg Tryz.prog Cr Cs N Tryz.f96 wv (.sl a::([]))=Cu Vm.bad nK (fun i az=>aw (oX N) N (oW a i az)) a:=by kernel_rfl
 refine cm.trans ?_
 unfold Ct
 have e0:(fun i az=>aw (oX N) N (oW a i az))=(oY Vm.bad nK N a N):=by
  exact adD N a N
 exact congrArg (fun l_=>Cu Vm.bad nK l_ a) e0
theorem ag6:Holds Tryz.prog 96 wv:=by
 refine aa (A:=Cs) ag4 Tryz.func96 rfl (by kernel_rfl) (of_decide_eq_true (by kernel_rfl)) (of_decide_eq_true (by kernel_rfl)) ?_
 intro ds hw hok
 replace hw:WtL ((.sl [.int .i64,.int .i64,.int .i64,.int .i64,.int .i64,.int .i64,.int .i64,.int .i64,.int .i64])::([])) ds:=hw
 obtain⟨a,ds,rfl,bT,hw⟩:=of_wt_sl hw
 obtain rfl:=of_wt_nil hw
 obtain⟨N,hN⟩:=ag7 Vm.bad nK a bT hok
 exact⟨N,((ag5 N a).trans hN).trans (by kernel_rfl)⟩
def EZ:Sum:= {ps:=[⟨[.int .i64,.int .i64,.int .i64,.int .i64,.int .i64],true⟩],rs:=[⟨[.imm (.int .i64),.imm (.int .i64),.imm (.int .i64),.imm (.int .i64),.imm (.int .i64)],true⟩],fn:=fun ds=>(true,bh.enc (ca (bh.ae ds 0)))}
def R7:Ctx:=[]
theorem aj2:ai Tryz.prog R7:=aq
def R8:List (Nat×dv):=[]
theorem aj3 (N:Nat) (a:bh):bg Tryz.prog R7 R8 N Tryz.f162 EZ (a.enc++([]))=R9 (fun r0=>((true,bh.enc r0):aV)) a:=by kernel_rfl
theorem R_:Holds Tryz.prog 162 EZ:=by
 refine aa (A:=R8) aj2 Tryz.func162 rfl (by kernel_rfl) (of_decide_eq_true (by kernel_rfl)) (of_decide_eq_true (by kernel_rfl)) ?_
 intro ds hw hok
 replace hw:WtL (bh.ct++([])) ds:=hw
 obtain⟨a,ds,rfl,bT,hw⟩:=bh.aZ (r:=_) hw
 obtain rfl:=of_wt_nil hw
 exact⟨0,((aj3 0 a).trans (aj4 _ a bT)).trans (by kernel_rfl)⟩
def KY:Sum:= {ps:=[⟨[.int .i64,.int .i64,.int .i64,.int .i64,.int .i64,.int .i64,.int .i64],true⟩],rs:=[⟨[.imm (.int .i64),.imm (.int .i64),.imm (.int .i64),.imm (.int .i64),.imm (.int .i64),.imm (.int .i64),.imm (.int .i64)],true⟩],fn:=fun ds=>(true,dW.enc (ca (dW.ae ds 0)))}
def Sa:Ctx:=[(162,EZ)]
theorem aj5:ai Tryz.prog Sa:=ab R_ aq
def Sb:List (Nat×dv):=[]
theorem aj6 (N:Nat) (a:dW):bg Tryz.prog Sa Sb N Tryz.f194 KY (a.enc++([]))=Sc (fun r0=>((true,dW.enc r0):aV)) a:=by kernel_rfl
theorem aj7:Holds Tryz.prog 194 KY:=by
 refine aa (A:=Sb) aj5 Tryz.func194 rfl (by kernel_rfl) (of_decide_eq_true (by kernel_rfl)) (of_decide_eq_true (by kernel_rfl)) ?_
 intro ds hw hok
 replace hw:WtL (dW.ct++([])) ds:=hw
 obtain⟨a,ds,rfl,bT,hw⟩:=dW.aZ (r:=_) hw
 obtain rfl:=of_wt_nil hw
 exact⟨0,((aj6 0 a).trans (aj8 _ a bT)).trans (by kernel_rfl)⟩
def wx:Sum:= {ps:=[⟨[.sl [.int .i64,.int .i64,.int .i64,.int .i64,.int .i64,.int .i64,.int .i64]],false⟩],rs:=[⟨[.own 242 [.int .i64,.int .i64,.int .i64,.int .i64,.int .i64,.int .i64,.int .i64]],false⟩],fn:=fun ds=>(sm (rR ds 0),[.sl (ca (rR ds 0))])}
def Cv:Ctx:=[(194,KY)]
theorem ag8:ai Tryz.prog Cv:=ab aj7 aq
def Cw:List (Nat×dv):=[(3, {bJ:=[(0,.aU),(3,.aU),(4,.aU)],boxes:=[]})]
def nL:Rows→aV:=(fun r0=>((true,[.sl r0]):aV))
def oZ (a:Rows) (i:Int) (az:Rows):St:= {n:=23,sl:=[(0,.sl [.int .i64,.int .i64,.int .i64,.int .i64,.int .i64,.int .i64,.int .i64] a),(3,.own 640192),(4,.int .i64 i)],hp:=[(640192,.row 242 [.int .i64,.int .i64,.int .i64,.int .i64,.int .i64,.int .i64,.int .i64] az false true)],ok:=true,ls:=[],lm:=[]}
noncomputable def o_ (N:Nat):(St→aV)→St→aV:=dw Tryz.prog Cv Cw N Tryz.f161 wx [true,true,false,true,false] []
theorem adE (N:Nat) (a:Rows) (ih:St→aV) (i:Int) (az:Rows):o_ N ih (oZ a i az)=uA Vm.bad nL a (fun i az=>ih (oZ a i az)) i az:=by kernel_rfl
theorem adF (N:Nat) (a:Rows) (m_:Nat):(fun i az=>aw (o_ N) m_ (oZ a i az))=pb Vm.bad nL N a m_:=by
 induction m_ with
 | zero=>rfl
 | succ m_ ih=>
  funext i az
  show o_ N (aw (o_ N) m_) (oZ a i az)=_
  rw[adE N a]
  rw[ih]
  rfl
theorem ag9 (N:Nat) (a:Rows):bg Tryz.prog Cv Cw N Tryz.f161 wx (.sl a::([]))=Cx Vm.bad nL N a:=by
 have cm:bg Tryz.prog Cv Cw N Tryz.f161 wx (.sl a::([]))=Cy Vm.bad nL (fun i az=>aw (o_ N) N (oZ a i az)) a:=by kernel_rfl
 refine cm.trans ?_
 unfold Cx
 have e0:(fun i az=>aw (o_ N) N (oZ a i az))=(pb Vm.bad nL N a N):=by
  exact adF N a N
 exact congrArg (fun l_=>Cy Vm.bad nL l_ a) e0
theorem ag_:Holds Tryz.prog 161 wx:=by
 refine aa (A:=Cw) ag8 Tryz.func161 rfl (by kernel_rfl) (of_decide_eq_true (by kernel_rfl)) (of_decide_eq_true (by kernel_rfl)) ?_
 intro ds hw hok
 replace hw:WtL ((.sl [.int .i64,.int .i64,.int .i64,.int .i64,.int .i64,.int .i64,.int .i64])::([])) ds:=hw
 obtain⟨a,ds,rfl,bT,hw⟩:=of_wt_sl hw
 obtain rfl:=of_wt_nil hw
 obtain⟨N,hN⟩:=aha Vm.bad nL a bT hok
 exact⟨N,((ag9 N a).trans hN).trans (by kernel_rfl)⟩
def A0:Sum:= {ps:=[⟨[.sl [.int .i64,.int .i64,.int .i64,.int .i64,.int .i64,.int .i64,.int .i64]],true⟩],rs:=[⟨[.own 242 [.int .i64,.int .i64,.int .i64,.int .i64,.int .i64,.int .i64,.int .i64]],true⟩],fn:=fun ds=>(hD (ag.ae ds 0),ag.enc (ca (ag.ae ds 0)))}
def Il:Ctx:=[(161,wx)]
theorem TX:ai Tryz.prog Il:=ab ag_ aq
def Im:List (Nat×dv):=[]
theorem TY (N:Nat) (a:ag):bg Tryz.prog Il Im N Tryz.f97 A0 (a.enc++([]))=nM Vm.bad (fun r0=>((true,ag.enc r0):aV)) a:=by kernel_rfl
theorem TZ:Holds Tryz.prog 97 A0:=by
 refine aa (A:=Im) TX Tryz.func97 rfl (by kernel_rfl) (of_decide_eq_true (by kernel_rfl)) (of_decide_eq_true (by kernel_rfl)) ?_
 intro ds hw hok
 replace hw:WtL (ag.ct++([])) ds:=hw
 obtain⟨a,ds,rfl,bT,hw⟩:=ag.aZ (r:=_) hw
 obtain rfl:=of_wt_nil hw
 exact⟨0,((TY 0 a).trans (T0 Vm.bad _ a bT hok)).trans (by kernel_rfl)⟩
def jo:Sum:= {ps:=[⟨[.sl [.int .i64]],false⟩],rs:=[⟨[.own 3 [.int .i64]],false⟩],fn:=fun ds=>(sm (rR ds 0),[.sl (ca (rR ds 0))])}
def E0:Ctx:=[]
theorem aj9:ai Tryz.prog E0:=aq
def E2:List (Nat×dv):=[(3, {bJ:=[(0,.aU),(3,.aU),(4,.aU)],boxes:=[]})]
def qM:Rows→aV:=(fun r0=>((true,[.sl r0]):aV))
def sb (a:Rows) (i:Int) (az:Rows):St:= {n:=22,sl:=[(0,.sl [.int .i64] a),(3,.own 640192),(4,.int .i64 i)],hp:=[(640192,.row 3 [.int .i64] az false true)],ok:=true,ls:=[],lm:=[]}
noncomputable def sd (N:Nat):(St→aV)→St→aV:=dw Tryz.prog E0 E2 N Tryz.f40 jo [true,true,false,true,false] []
theorem ahb (N:Nat) (a:Rows) (ih:St→aV) (i:Int) (az:Rows):sd N ih (sb a i az)=wy Vm.bad qM a (fun i az=>ih (sb a i az)) i az:=by kernel_rfl
theorem ahc (N:Nat) (a:Rows) (m_:Nat):(fun i az=>aw (sd N) m_ (sb a i az))=se Vm.bad qM N a m_:=by
 induction m_ with
 | zero=>rfl
 | succ m_ ih=>
  funext i az
  show sd N (aw (sd N) m_) (sb a i az)=_
  rw[ahb N a]
  rw[ih]
  rfl
theorem aj_ (N:Nat) (a:Rows):bg Tryz.prog E0 E2 N Tryz.f40 jo (.sl a::([]))=E3 Vm.bad qM N a:=by
 have cm:bg Tryz.prog E0 E2 N Tryz.f40 jo (.sl a::([]))=E4 Vm.bad qM (fun i az=>aw (sd N) N (sb a i az)) a:=by kernel_rfl
 refine cm.trans ?_
 unfold E3
 have e0:(fun i az=>aw (sd N) N (sb a i az))=(se Vm.bad qM N a N):=by
  exact ahc N a N
 exact congrArg (fun l_=>E4 Vm.bad qM l_ a) e0
theorem ze:Holds Tryz.prog 40 jo:=by
 refine aa (A:=E2) aj9 Tryz.func40 rfl (by kernel_rfl) (of_decide_eq_true (by kernel_rfl)) (of_decide_eq_true (by kernel_rfl)) ?_
 intro ds hw hok
 replace hw:WtL ((.sl [.int .i64])::([])) ds:=hw
 obtain⟨a,ds,rfl,bT,hw⟩:=of_wt_sl hw
 obtain rfl:=of_wt_nil hw
 obtain⟨N,hN⟩:=aka Vm.bad qM a bT hok
 exact⟨N,((aj_ N a).trans hN).trans (by kernel_rfl)⟩
def Gm:Sum:= {ps:=[⟨[.str,.sl [.int .i64]],true⟩],rs:=[⟨[.imm .str,.own 3 [.int .i64]],true⟩],fn:=fun ds=>(mH (aM.ae ds 0),aM.enc (ca (aM.ae ds 0)))}
def NA:Ctx:=[(40,jo)]
theorem adG:ai Tryz.prog NA:=ab ze aq
def NB:List (Nat×dv):=[]
theorem adH (N:Nat) (a:aM):bg Tryz.prog NA NB N Tryz.f98 Gm (a.enc++([]))=uB Vm.bad (fun r0=>((true,aM.enc r0):aV)) a:=by kernel_rfl
theorem adI:Holds Tryz.prog 98 Gm:=by
 refine aa (A:=NB) adG Tryz.func98 rfl (by kernel_rfl) (of_decide_eq_true (by kernel_rfl)) (of_decide_eq_true (by kernel_rfl)) ?_
 intro ds hw hok
 replace hw:WtL (aM.ct++([])) ds:=hw
 obtain⟨a,ds,rfl,bT,hw⟩:=aM.aZ (r:=_) hw
 obtain rfl:=of_wt_nil hw
 exact⟨0,((adH 0 a).trans (adJ Vm.bad _ a bT hok)).trans (by kernel_rfl)⟩
def Cz:Sum:= {ps:=[⟨[.sl [.int .i64,.int .i64,.int .i64,.int .i64,.int .i64,.int .i64,.int .i64,.int .i64,.int .i64],.sl [.int .i64,.int .i64,.int .i64,.int .i64,.int .i64,.int .i64,.int .i64],.str,.sl [.int .i64]],true⟩],rs:=[⟨[.own 221 [.int .i64,.int .i64,.int .i64,.int .i64,.int .i64,.int .i64,.int .i64,.int .i64,.int .i64],.own 242 [.int .i64,.int .i64,.int .i64,.int .i64,.int .i64,.int .i64,.int .i64],.imm .str,.own 3 [.int .i64]],true⟩],fn:=fun ds=>(iT (al.ae ds 0),al.enc (ca (al.ae ds 0)))}
def JV:Ctx:=[(96,wv),(97,A0),(98,Gm)]
theorem WE:ai Tryz.prog JV:=ab ag6 (ab TZ (ab adI aq))
def JW:List (Nat×dv):=[]
theorem WG (N:Nat) (a:al):bg Tryz.prog JV JW N Tryz.f37 Cz (a.enc++([]))=qm Vm.bad (fun r0=>((true,al.enc r0):aV)) a:=by kernel_rfl
theorem WH:Holds Tryz.prog 37 Cz:=by
 refine aa (A:=JW) WE Tryz.func37 rfl (by kernel_rfl) (of_decide_eq_true (by kernel_rfl)) (of_decide_eq_true (by kernel_rfl)) ?_
 intro ds hw hok
 replace hw:WtL (al.ct++([])) ds:=hw
 obtain⟨a,ds,rfl,bT,hw⟩:=al.aZ (r:=_) hw
 obtain rfl:=of_wt_nil hw
 exact⟨0,((WG 0 a).trans (WI Vm.bad _ a bT hok)).trans (by kernel_rfl)⟩
def Gn:Sum:= {ps:=[⟨[.int .i64,.int .i64,.int .i64,.int .i64,.bool,.bool],true⟩,⟨[.int .i64,.int .i64,.int .i64,.int .i64,.bool,.bool],true⟩],rs:=[⟨[.imm .bool],false⟩],fn:=fun ds=>(same (aC.ae ds 0) (aC.ae ds 6),[.bool (cV (aC.ae ds 0) (aC.ae ds 6))])}
def NC:Ctx:=[]
theorem adK:ai Tryz.prog NC:=aq
def ND:List (Nat×dv):=[]
theorem adL (N:Nat) (a:aC) (b:aC):bg Tryz.prog NC ND N Tryz.f105 Gn (a.enc++(b.enc++([])))=Gp (fun r0=>((true,[.bool r0]):aV)) a b:=by kernel_rfl
theorem adM:Holds Tryz.prog 105 Gn:=by
 refine aa (A:=ND) adK Tryz.func105 rfl (by kernel_rfl) (of_decide_eq_true (by kernel_rfl)) (of_decide_eq_true (by kernel_rfl)) ?_
 intro ds hw hok
 replace hw:WtL (aC.ct++(aC.ct++([]))) ds:=hw
 obtain⟨a,ds,rfl,bT,hw⟩:=aC.aZ (r:=_) hw
 obtain⟨b,ds,rfl,lX,hw⟩:=aC.aZ (r:=_) hw
 obtain rfl:=of_wt_nil hw
 exact⟨0,((adL 0 a b).trans (adN _ a b bT lX hok)).trans (by kernel_rfl)⟩
def sf:Sum:= {ps:=[⟨[.sl [.int .i64,.int .i64,.int .i64,.int .i64,.bool,.bool]],false⟩,⟨[.sl [.int .i64,.int .i64,.int .i64,.int .i64,.bool,.bool]],false⟩],rs:=[⟨[.imm .bool],false⟩],fn:=fun ds=>(same (rR ds 0) (rR ds 1),[.bool (cV (rR ds 0) (rR ds 1))])}
def xX:Ctx:=[(105,Gn)]
theorem ZI:ai Tryz.prog xX:=ab adM aq
def xY:List (Nat×dv):=[(4, {bJ:=[(0,.aU),(1,.aU),(5,.aU)],boxes:=[]})]
def iU:Bool→aV:=(fun r0=>((true,[.bool r0]):aV))
def ky (a:Rows) (b:Rows) (i:Int):St:= {n:=27,sl:=[(0,.sl [.int .i64,.int .i64,.int .i64,.int .i64,.bool,.bool] a),(1,.sl [.int .i64,.int .i64,.int .i64,.int .i64,.bool,.bool] b),(5,.int .i64 i)],hp:=[],ok:=true,ls:=[],lm:=[]}
noncomputable def kz (N:Nat):(St→aV)→St→aV:=dw Tryz.prog xX xY N Tryz.f48 sf [true,true,false,true,false] []
theorem WJ (N:Nat) (a:Rows) (b:Rows) (ih:St→aV) (i:Int):kz N ih (ky a b i)=qn Vm.bad iU a b (fun i=>ih (ky a b i)) i:=by kernel_rfl
theorem WK (N:Nat) (a:Rows) (b:Rows) (m_:Nat):(fun i=>aw (kz N) m_ (ky a b i))=kA Vm.bad iU N a b m_:=by
 induction m_ with
 | zero=>rfl
 | succ m_ ih=>
  funext i
  show kz N (aw (kz N) m_) (ky a b i)=_
  rw[WJ N a b]
  rw[ih]
  rfl
theorem ZJ (N:Nat) (a:Rows) (b:Rows):bg Tryz.prog xX xY N Tryz.f48 sf (.sl a::(.sl b::([])))=xZ Vm.bad iU N a b:=by
 have cm:bg Tryz.prog xX xY N Tryz.f48 sf (.sl a::(.sl b::([])))=x8 Vm.bad iU (fun i=>aw (kz N) N (ky a b i)) a b:=by kernel_rfl
 refine cm.trans ?_
 unfold xZ
 have e0:(fun i=>aw (kz N) N (ky a b i))=(kA Vm.bad iU N a b N):=by
  exact WK N a b N
 exact congrArg (fun l_=>x8 Vm.bad iU l_ a b) e0
theorem ZK:Holds Tryz.prog 48 sf:=by
 refine aa (A:=xY) ZI Tryz.func48 rfl (by kernel_rfl) (of_decide_eq_true (by kernel_rfl)) (of_decide_eq_true (by kernel_rfl)) ?_
 intro ds hw hok
 replace hw:WtL ((.sl [.int .i64,.int .i64,.int .i64,.int .i64,.bool,.bool])::((.sl [.int .i64,.int .i64,.int .i64,.int .i64,.bool,.bool])::([]))) ds:=hw
 obtain⟨a,ds,rfl,bT,hw⟩:=of_wt_sl hw
 obtain⟨b,ds,rfl,lX,hw⟩:=of_wt_sl hw
 obtain rfl:=of_wt_nil hw
 obtain⟨N,hN⟩:=ZL Vm.bad iU a b bT lX hok
 exact⟨N,((ZJ N a b).trans hN).trans (by kernel_rfl)⟩
def jq:Sum:= {ps:=[⟨[.sl [.int .i64]],false⟩,⟨[.sl [.int .i64]],false⟩],rs:=[⟨[.imm .bool],false⟩],fn:=fun ds=>(same (rR ds 0) (rR ds 1),[.bool (cV (rR ds 0) (rR ds 1))])}
def E5:Ctx:=[]
theorem akb:ai Tryz.prog E5:=aq
def E6:List (Nat×dv):=[(4, {bJ:=[(0,.aU),(1,.aU),(5,.aU)],boxes:=[]})]
def qN:Bool→aV:=(fun r0=>((true,[.bool r0]):aV))
def sg (a:Rows) (b:Rows) (i:Int):St:= {n:=26,sl:=[(0,.sl [.int .i64] a),(1,.sl [.int .i64] b),(5,.int .i64 i)],hp:=[],ok:=true,ls:=[],lm:=[]}
noncomputable def sj (N:Nat):(St→aV)→St→aV:=dw Tryz.prog E5 E6 N Tryz.f9 jq [true,true,false,true,false] []
theorem ahd (N:Nat) (a:Rows) (b:Rows) (ih:St→aV) (i:Int):sj N ih (sg a b i)=wz Vm.bad qN a b (fun i=>ih (sg a b i)) i:=by kernel_rfl
theorem ahe (N:Nat) (a:Rows) (b:Rows) (m_:Nat):(fun i=>aw (sj N) m_ (sg a b i))=sk Vm.bad qN N a b m_:=by
 induction m_ with
 | zero=>rfl
 | succ m_ ih=>
  funext i
  show sj N (aw (sj N) m_) (sg a b i)=_
  rw[ahd N a b]
  rw[ih]
  rfl
theorem akc (N:Nat) (a:Rows) (b:Rows):bg Tryz.prog E5 E6 N Tryz.f9 jq (.sl a::(.sl b::([])))=E7 Vm.bad qN N a b:=by
 have cm:bg Tryz.prog E5 E6 N Tryz.f9 jq (.sl a::(.sl b::([])))=E8 Vm.bad qN (fun i=>aw (sj N) N (sg a b i)) a b:=by kernel_rfl
 refine cm.trans ?_
 unfold E7
 have e0:(fun i=>aw (sj N) N (sg a b i))=(sk Vm.bad qN N a b N):=by
  exact ahe N a b N
 exact congrArg (fun l_=>E8 Vm.bad qN l_ a b) e0
theorem zf:Holds Tryz.prog 9 jq:=by
 refine aa (A:=E6) akb Tryz.func9 rfl (by kernel_rfl) (of_decide_eq_true (by kernel_rfl)) (of_decide_eq_true (by kernel_rfl)) ?_
 intro ds hw hok
 replace hw:WtL ((.sl [.int .i64])::((.sl [.int .i64])::([]))) ds:=hw
 obtain⟨a,ds,rfl,bT,hw⟩:=of_wt_sl hw
 obtain⟨b,ds,rfl,lX,hw⟩:=of_wt_sl hw
 obtain rfl:=of_wt_nil hw
 obtain⟨N,hN⟩:=akd Vm.bad qN a b bT lX hok
 exact⟨N,((akc N a b).trans hN).trans (by kernel_rfl)⟩
def KZ:Sum:= {ps:=[⟨[.int .i64,.int .i64,.sl [.int .i64]],true⟩,⟨[.int .i64,.int .i64,.sl [.int .i64]],true⟩],rs:=[⟨[.imm .bool],false⟩],fn:=fun ds=>(same (df.ae ds 0) (df.ae ds 3),[.bool (cV (df.ae ds 0) (df.ae ds 3))])}
def Sd:Ctx:=[(9,jq)]
theorem ake:ai Tryz.prog Sd:=ab zf aq
def Se:List (Nat×dv):=[]
theorem akf (N:Nat) (a:df) (b:df):bg Tryz.prog Sd Se N Tryz.f163 KZ (a.enc++(b.enc++([])))=K_ Vm.bad (fun r0=>((true,[.bool r0]):aV)) a b:=by kernel_rfl
theorem akg:Holds Tryz.prog 163 KZ:=by
 refine aa (A:=Se) ake Tryz.func163 rfl (by kernel_rfl) (of_decide_eq_true (by kernel_rfl)) (of_decide_eq_true (by kernel_rfl)) ?_
 intro ds hw hok
 replace hw:WtL (df.ct++(df.ct++([]))) ds:=hw
 obtain⟨a,ds,rfl,bT,hw⟩:=df.aZ (r:=_) hw
 obtain⟨b,ds,rfl,lX,hw⟩:=df.aZ (r:=_) hw
 obtain rfl:=of_wt_nil hw
 exact⟨0,((akf 0 a b).trans (akh Vm.bad _ a b bT lX hok)).trans (by kernel_rfl)⟩
def wA:Sum:= {ps:=[⟨[.sl [.int .i64,.int .i64,.sl [.int .i64]]],false⟩,⟨[.sl [.int .i64,.int .i64,.sl [.int .i64]]],false⟩],rs:=[⟨[.imm .bool],false⟩],fn:=fun ds=>(same (rR ds 0) (rR ds 1),[.bool (cV (rR ds 0) (rR ds 1))])}
def CA:Ctx:=[(163,KZ)]
theorem ahf:ai Tryz.prog CA:=ab akg aq
def CB:List (Nat×dv):=[(4, {bJ:=[(0,.aU),(1,.aU),(5,.aU)],boxes:=[]})]
def nN:Bool→aV:=(fun r0=>((true,[.bool r0]):aV))
def pc (a:Rows) (b:Rows) (i:Int):St:= {n:=27,sl:=[(0,.sl [.int .i64,.int .i64,.sl [.int .i64]] a),(1,.sl [.int .i64,.int .i64,.sl [.int .i64]] b),(5,.int .i64 i)],hp:=[],ok:=true,ls:=[],lm:=[]}
noncomputable def pd (N:Nat):(St→aV)→St→aV:=dw Tryz.prog CA CB N Tryz.f103 wA [true,true,false,true,false] []
theorem adO (N:Nat) (a:Rows) (b:Rows) (ih:St→aV) (i:Int):pd N ih (pc a b i)=uC Vm.bad nN a b (fun i=>ih (pc a b i)) i:=by kernel_rfl
theorem adP (N:Nat) (a:Rows) (b:Rows) (m_:Nat):(fun i=>aw (pd N) m_ (pc a b i))=pe Vm.bad nN N a b m_:=by
 induction m_ with
 | zero=>rfl
 | succ m_ ih=>
  funext i
  show pd N (aw (pd N) m_) (pc a b i)=_
  rw[adO N a b]
  rw[ih]
  rfl
theorem ahg (N:Nat) (a:Rows) (b:Rows):bg Tryz.prog CA CB N Tryz.f103 wA (.sl a::(.sl b::([])))=CC Vm.bad nN N a b:=by
 have cm:bg Tryz.prog CA CB N Tryz.f103 wA (.sl a::(.sl b::([])))=CD Vm.bad nN (fun i=>aw (pd N) N (pc a b i)) a b:=by kernel_rfl
 refine cm.trans ?_
 unfold CC
 have e0:(fun i=>aw (pd N) N (pc a b i))=(pe Vm.bad nN N a b N):=by
  exact adP N a b N
 exact congrArg (fun l_=>CD Vm.bad nN l_ a b) e0
theorem ahh:Holds Tryz.prog 103 wA:=by
 refine aa (A:=CB) ahf Tryz.func103 rfl (by kernel_rfl) (of_decide_eq_true (by kernel_rfl)) (of_decide_eq_true (by kernel_rfl)) ?_
 intro ds hw hok
 replace hw:WtL ((.sl [.int .i64,.int .i64,.sl [.int .i64]])::((.sl [.int .i64,.int .i64,.sl [.int .i64]])::([]))) ds:=hw
 obtain⟨a,ds,rfl,bT,hw⟩:=of_wt_sl hw
 obtain⟨b,ds,rfl,lX,hw⟩:=of_wt_sl hw
 obtain rfl:=of_wt_nil hw
 obtain⟨N,hN⟩:=ahi Vm.bad nN a b bT lX hok
 exact⟨N,((ahg N a b).trans hN).trans (by kernel_rfl)⟩
def Ec:Sum:= {ps:=[⟨[.int .i64,.int .i64,.int .i64,.bool],true⟩,⟨[.int .i64,.int .i64,.int .i64,.bool],true⟩],rs:=[⟨[.imm .bool],false⟩],fn:=fun ds=>(same (cq.ae ds 0) (cq.ae ds 4),[.bool (cV (cq.ae ds 0) (cq.ae ds 4))])}
def LP:Ctx:=[]
theorem ZM:ai Tryz.prog LP:=aq
def LQ:List (Nat×dv):=[]
theorem ZN (N:Nat) (a:cq) (b:cq):bg Tryz.prog LP LQ N Tryz.f100 Ec (a.enc++(b.enc++([])))=Ed (fun r0=>((true,[.bool r0]):aV)) a b:=by kernel_rfl
theorem ZO:Holds Tryz.prog 100 Ec:=by
 refine aa (A:=LQ) ZM Tryz.func100 rfl (by kernel_rfl) (of_decide_eq_true (by kernel_rfl)) (of_decide_eq_true (by kernel_rfl)) ?_
 intro ds hw hok
 replace hw:WtL (cq.ct++(cq.ct++([]))) ds:=hw
 obtain⟨a,ds,rfl,bT,hw⟩:=cq.aZ (r:=_) hw
 obtain⟨b,ds,rfl,lX,hw⟩:=cq.aZ (r:=_) hw
 obtain rfl:=of_wt_nil hw
 exact⟨0,((ZN 0 a b).trans (ZP _ a b bT lX hok)).trans (by kernel_rfl)⟩
def qo:Sum:= {ps:=[⟨[.sl [.int .i64,.int .i64,.int .i64,.bool]],false⟩,⟨[.sl [.int .i64,.int .i64,.int .i64,.bool]],false⟩],rs:=[⟨[.imm .bool],false⟩],fn:=fun ds=>(same (rR ds 0) (rR ds 1),[.bool (cV (rR ds 0) (rR ds 1))])}
def vp:Ctx:=[(100,Ec)]
theorem WL:ai Tryz.prog vp:=ab ZO aq
def vq:List (Nat×dv):=[(4, {bJ:=[(0,.aU),(1,.aU),(5,.aU)],boxes:=[]})]
def gF:Bool→aV:=(fun r0=>((true,[.bool r0]):aV))
def iV (a:Rows) (b:Rows) (i:Int):St:= {n:=27,sl:=[(0,.sl [.int .i64,.int .i64,.int .i64,.bool] a),(1,.sl [.int .i64,.int .i64,.int .i64,.bool] b),(5,.int .i64 i)],hp:=[],ok:=true,ls:=[],lm:=[]}
noncomputable def iW (N:Nat):(St→aV)→St→aV:=dw Tryz.prog vp vq N Tryz.f44 qo [true,true,false,true,false] []
theorem T3 (N:Nat) (a:Rows) (b:Rows) (ih:St→aV) (i:Int):iW N ih (iV a b i)=nO Vm.bad gF a b (fun i=>ih (iV a b i)) i:=by kernel_rfl
theorem T4 (N:Nat) (a:Rows) (b:Rows) (m_:Nat):(fun i=>aw (iW N) m_ (iV a b i))=iX Vm.bad gF N a b m_:=by
 induction m_ with
 | zero=>rfl
 | succ m_ ih=>
  funext i
  show iW N (aw (iW N) m_) (iV a b i)=_
  rw[T3 N a b]
  rw[ih]
  rfl
theorem WM (N:Nat) (a:Rows) (b:Rows):bg Tryz.prog vp vq N Tryz.f44 qo (.sl a::(.sl b::([])))=vr Vm.bad gF N a b:=by
 have cm:bg Tryz.prog vp vq N Tryz.f44 qo (.sl a::(.sl b::([])))=vt Vm.bad gF (fun i=>aw (iW N) N (iV a b i)) a b:=by kernel_rfl
 refine cm.trans ?_
 unfold vr
 have e0:(fun i=>aw (iW N) N (iV a b i))=(iX Vm.bad gF N a b N):=by
  exact T4 N a b N
 exact congrArg (fun l_=>vt Vm.bad gF l_ a b) e0
theorem WN:Holds Tryz.prog 44 qo:=by
 refine aa (A:=vq) WL Tryz.func44 rfl (by kernel_rfl) (of_decide_eq_true (by kernel_rfl)) (of_decide_eq_true (by kernel_rfl)) ?_
 intro ds hw hok
 replace hw:WtL ((.sl [.int .i64,.int .i64,.int .i64,.bool])::((.sl [.int .i64,.int .i64,.int .i64,.bool])::([]))) ds:=hw
 obtain⟨a,ds,rfl,bT,hw⟩:=of_wt_sl hw
 obtain⟨b,ds,rfl,lX,hw⟩:=of_wt_sl hw
 obtain rfl:=of_wt_nil hw
 obtain⟨N,hN⟩:=WO Vm.bad gF a b bT lX hok
 exact⟨N,((WM N a b).trans hN).trans (by kernel_rfl)⟩
def La:Sum:= {ps:=[⟨[.int .i64,.int .i64,.int .i64,.int .i64,.int .i64,.int .i64,.int .i64,.int .i64,.int .i64],true⟩,⟨[.int .i64,.int .i64,.int .i64,.int .i64,.int .i64,.int .i64,.int .i64,.int .i64,.int .i64],true⟩],rs:=[⟨[.imm .bool],false⟩],fn:=fun ds=>(same (cZ.ae ds 0) (cZ.ae ds 9),[.bool (cV (cZ.ae ds 0) (cZ.ae ds 9))])}
def Sf:Ctx:=[]
theorem aki:ai Tryz.prog Sf:=aq
def Sg:List (Nat×dv):=[]
theorem akj (N:Nat) (a:cZ) (b:cZ):bg Tryz.prog Sf Sg N Tryz.f166 La (a.enc++(b.enc++([])))=Lb (fun r0=>((true,[.bool r0]):aV)) a b:=by kernel_rfl
theorem akk:Holds Tryz.prog 166 La:=by
 refine aa (A:=Sg) aki Tryz.func166 rfl (by kernel_rfl) (of_decide_eq_true (by kernel_rfl)) (of_decide_eq_true (by kernel_rfl)) ?_
 intro ds hw hok
 replace hw:WtL (cZ.ct++(cZ.ct++([]))) ds:=hw
 obtain⟨a,ds,rfl,bT,hw⟩:=cZ.aZ (r:=_) hw
 obtain⟨b,ds,rfl,lX,hw⟩:=cZ.aZ (r:=_) hw
 obtain rfl:=of_wt_nil hw
 exact⟨0,((akj 0 a b).trans (akl _ a b bT lX hok)).trans (by kernel_rfl)⟩
def Gq:Sum:= {ps:=[⟨[.int .i64,.bool,.sl [.int .i64]],true⟩,⟨[.int .i64,.bool,.sl [.int .i64]],true⟩],rs:=[⟨[.imm .bool],false⟩],fn:=fun ds=>(same (aI.ae ds 0) (aI.ae ds 3),[.bool (cV (aI.ae ds 0) (aI.ae ds 3))])}
def NF:Ctx:=[(9,jq)]
theorem adQ:ai Tryz.prog NF:=ab zf aq
def NG:List (Nat×dv):=[]
theorem adR (N:Nat) (a:aI) (b:aI):bg Tryz.prog NF NG N Tryz.f50 Gq (a.enc++(b.enc++([])))=Gr Vm.bad (fun r0=>((true,[.bool r0]):aV)) a b:=by kernel_rfl
theorem adS:Holds Tryz.prog 50 Gq:=by
 refine aa (A:=NG) adQ Tryz.func50 rfl (by kernel_rfl) (of_decide_eq_true (by kernel_rfl)) (of_decide_eq_true (by kernel_rfl)) ?_
 intro ds hw hok
 replace hw:WtL (aI.ct++(aI.ct++([]))) ds:=hw
 obtain⟨a,ds,rfl,bT,hw⟩:=aI.aZ (r:=_) hw
 obtain⟨b,ds,rfl,lX,hw⟩:=aI.aZ (r:=_) hw
 obtain rfl:=of_wt_nil hw
 exact⟨0,((adR 0 a b).trans (adT Vm.bad _ a b bT lX hok)).trans (by kernel_rfl)⟩
def E9:Sum:= {ps:=[⟨[.int .i64,.int .i64,.int .i64,.int .i64,.int .i64],true⟩,⟨[.int .i64,.int .i64,.int .i64,.int .i64,.int .i64],true⟩],rs:=[⟨[.imm .bool],false⟩],fn:=fun ds=>(same (bh.ae ds 0) (bh.ae ds 5),[.bool (cV (bh.ae ds 0) (bh.ae ds 5))])}
def Sh:Ctx:=[]
theorem akm:ai Tryz.prog Sh:=aq
def Si:List (Nat×dv):=[]
theorem akn (N:Nat) (a:bh) (b:bh):bg Tryz.prog Sh Si N Tryz.f168 E9 (a.enc++(b.enc++([])))=Lc (fun r0=>((true,[.bool r0]):aV)) a b:=by kernel_rfl
theorem Sj:Holds Tryz.prog 168 E9:=by
 refine aa (A:=Si) akm Tryz.func168 rfl (by kernel_rfl) (of_decide_eq_true (by kernel_rfl)) (of_decide_eq_true (by kernel_rfl)) ?_
 intro ds hw hok
 replace hw:WtL (bh.ct++(bh.ct++([]))) ds:=hw
 obtain⟨a,ds,rfl,bT,hw⟩:=bh.aZ (r:=_) hw
 obtain⟨b,ds,rfl,lX,hw⟩:=bh.aZ (r:=_) hw
 obtain rfl:=of_wt_nil hw
 exact⟨0,((akn 0 a b).trans (ako _ a b bT lX hok)).trans (by kernel_rfl)⟩
def Ld:Sum:= {ps:=[⟨[.int .i64,.int .i64,.int .i64,.int .i64,.int .i64,.int .i64,.int .i64],true⟩,⟨[.int .i64,.int .i64,.int .i64,.int .i64,.int .i64,.int .i64,.int .i64],true⟩],rs:=[⟨[.imm .bool],false⟩],fn:=fun ds=>(same (dW.ae ds 0) (dW.ae ds 7),[.bool (cV (dW.ae ds 0) (dW.ae ds 7))])}
def Sk:Ctx:=[(168,E9)]
theorem akp:ai Tryz.prog Sk:=ab Sj aq
def Sl:List (Nat×dv):=[]
theorem akq (N:Nat) (a:dW) (b:dW):bg Tryz.prog Sk Sl N Tryz.f196 Ld (a.enc++(b.enc++([])))=Le Vm.bad (fun r0=>((true,[.bool r0]):aV)) a b:=by kernel_rfl
theorem akr:Holds Tryz.prog 196 Ld:=by
 refine aa (A:=Sl) akp Tryz.func196 rfl (by kernel_rfl) (of_decide_eq_true (by kernel_rfl)) (of_decide_eq_true (by kernel_rfl)) ?_
 intro ds hw hok
 replace hw:WtL (dW.ct++(dW.ct++([]))) ds:=hw
 obtain⟨a,ds,rfl,bT,hw⟩:=dW.aZ (r:=_) hw
 obtain⟨b,ds,rfl,lX,hw⟩:=dW.aZ (r:=_) hw
 obtain rfl:=of_wt_nil hw
 exact⟨0,((akq 0 a b).trans (aks Vm.bad _ a b bT lX hok)).trans (by kernel_rfl)⟩
def Gs:Sum:= {ps:=[⟨[.sl [.str]],true⟩,⟨[.sl [.str]],true⟩],rs:=[⟨[.imm .bool],false⟩],fn:=fun ds=>(same (aK.ae ds 0) (aK.ae ds 1),[.bool (cV (aK.ae ds 0) (aK.ae ds 1))])}
def NH:Ctx:=[(53,mG)]
theorem adU:ai Tryz.prog NH:=ab LO aq
def NI:List (Nat×dv):=[]
theorem adV (N:Nat) (a:aK) (b:aK):bg Tryz.prog NH NI N Tryz.f43 Gs (a.enc++(b.enc++([])))=Gt Vm.bad (fun r0=>((true,[.bool r0]):aV)) a b:=by kernel_rfl
theorem adW:Holds Tryz.prog 43 Gs:=by
 refine aa (A:=NI) adU Tryz.func43 rfl (by kernel_rfl) (of_decide_eq_true (by kernel_rfl)) (of_decide_eq_true (by kernel_rfl)) ?_
 intro ds hw hok
 replace hw:WtL (aK.ct++(aK.ct++([]))) ds:=hw
 obtain⟨a,ds,rfl,bT,hw⟩:=aK.aZ (r:=_) hw
 obtain⟨b,ds,rfl,lX,hw⟩:=aK.aZ (r:=_) hw
 obtain rfl:=of_wt_nil hw
 exact⟨0,((adV 0 a b).trans (adX Vm.bad _ a b bT lX hok)).trans (by kernel_rfl)⟩
def wB:Sum:= {ps:=[⟨[.sl [.int .i64,.int .i64,.int .i64,.int .i64,.int .i64,.int .i64,.int .i64,.int .i64,.int .i64]],false⟩,⟨[.sl [.int .i64,.int .i64,.int .i64,.int .i64,.int .i64,.int .i64,.int .i64,.int .i64,.int .i64]],false⟩],rs:=[⟨[.imm .bool],false⟩],fn:=fun ds=>(same (rR ds 0) (rR ds 1),[.bool (cV (rR ds 0) (rR ds 1))])}
def CE:Ctx:=[(166,La)]
theorem ahj:ai Tryz.prog CE:=ab akk aq
def CF:List (Nat×dv):=[(4, {bJ:=[(0,.aU),(1,.aU),(5,.aU)],boxes:=[]})]
def nP:Bool→aV:=(fun r0=>((true,[.bool r0]):aV))
def pf (a:Rows) (b:Rows) (i:Int):St:= {n:=27,sl:=[(0,.sl [.int .i64,.int .i64,.int .i64,.int .i64,.int .i64,.int .i64,.int .i64,.int .i64,.int .i64] a),(1,.sl [.int .i64,.int .i64,.int .i64,.int .i64,.int .i64,.int .i64,.int .i64,.int .i64,.int .i64] b),(5,.int .i64 i)],hp:=[],ok:=true,ls:=[],lm:=[]}
noncomputable def pg (N:Nat):(St→aV)→St→aV:=dw Tryz.prog CE CF N Tryz.f106 wB [true,true,false,true,false] []
theorem adY (N:Nat) (a:Rows) (b:Rows) (ih:St→aV) (i:Int):pg N ih (pf a b i)=uD Vm.bad nP a b (fun i=>ih (pf a b i)) i:=by kernel_rfl
theorem adZ (N:Nat) (a:Rows) (b:Rows) (m_:Nat):(fun i=>aw (pg N) m_ (pf a b i))=ph Vm.bad nP N a b m_:=by
 induction m_ with
 | zero=>rfl
 | succ m_ ih=>
  funext i
  show pg N (aw (pg N) m_) (pf a b i)=_
  rw[adY N a b]
  rw[ih]
  rfl
theorem ahk (N:Nat) (a:Rows) (b:Rows):bg Tryz.prog CE CF N Tryz.f106 wB (.sl a::(.sl b::([])))=CG Vm.bad nP N a b:=by
 have cm:bg Tryz.prog CE CF N Tryz.f106 wB (.sl a::(.sl b::([])))=CH Vm.bad nP (fun i=>aw (pg N) N (pf a b i)) a b:=by kernel_rfl
 refine cm.trans ?_
 unfold CG
 have e0:(fun i=>aw (pg N) N (pf a b i))=(ph Vm.bad nP N a b N):=by
  exact adZ N a b N
 exact congrArg (fun l_=>CH Vm.bad nP l_ a b) e0
theorem ahl:Holds Tryz.prog 106 wB:=by
 refine aa (A:=CF) ahj Tryz.func106 rfl (by kernel_rfl) (of_decide_eq_true (by kernel_rfl)) (of_decide_eq_true (by kernel_rfl)) ?_
 intro ds hw hok
 replace hw:WtL ((.sl [.int .i64,.int .i64,.int .i64,.int .i64,.int .i64,.int .i64,.int .i64,.int .i64,.int .i64])::((.sl [.int .i64,.int .i64,.int .i64,.int .i64,.int .i64,.int .i64,.int .i64,.int .i64,.int .i64])::([]))) ds:=hw
 obtain⟨a,ds,rfl,bT,hw⟩:=of_wt_sl hw
 obtain⟨b,ds,rfl,lX,hw⟩:=of_wt_sl hw
 obtain rfl:=of_wt_nil hw
 obtain⟨N,hN⟩:=ahm Vm.bad nP a b bT lX hok
 exact⟨N,((ahk N a b).trans hN).trans (by kernel_rfl)⟩
def Lf:Sum:= {ps:=[⟨[.int .i64,.int .i64,.sl [.int .i64]],true⟩],rs:=[⟨[.imm (.int .i64),.imm (.int .i64),.own 3 [.int .i64]],true⟩],fn:=fun ds=>(jE (df.ae ds 0),df.enc (ca (df.ae ds 0)))}
def Sm:Ctx:=[(40,jo)]
theorem akt:ai Tryz.prog Sm:=ab ze aq
def Sn:List (Nat×dv):=[]
theorem aku (N:Nat) (a:df):bg Tryz.prog Sm Sn N Tryz.f157 Lf (a.enc++([]))=zg Vm.bad (fun r0=>((true,df.enc r0):aV)) a:=by kernel_rfl
theorem akv:Holds Tryz.prog 157 Lf:=by
 refine aa (A:=Sn) akt Tryz.func157 rfl (by kernel_rfl) (of_decide_eq_true (by kernel_rfl)) (of_decide_eq_true (by kernel_rfl)) ?_
 intro ds hw hok
 replace hw:WtL (df.ct++([])) ds:=hw
 obtain⟨a,ds,rfl,bT,hw⟩:=df.aZ (r:=_) hw
 obtain rfl:=of_wt_nil hw
 exact⟨0,((aku 0 a).trans (akw Vm.bad _ a bT hok)).trans (by kernel_rfl)⟩
def Gu:Sum:= {ps:=[⟨[.int .i64,.int .i64,.int .i64,.int .i64,.bool,.bool],true⟩],rs:=[⟨[.imm (.int .i64),.imm (.int .i64),.imm (.int .i64),.imm (.int .i64),.imm .bool,.imm .bool],true⟩],fn:=fun ds=>(true,aC.enc (ca (aC.ae ds 0)))}
def NJ:Ctx:=[]
theorem ad0:ai Tryz.prog NJ:=aq
def NK:List (Nat×dv):=[]
theorem ad1 (N:Nat) (a:aC):bg Tryz.prog NJ NK N Tryz.f95 Gu (a.enc++([]))=NL (fun r0=>((true,aC.enc r0):aV)) a:=by kernel_rfl
theorem ad2:Holds Tryz.prog 95 Gu:=by
 refine aa (A:=NK) ad0 Tryz.func95 rfl (by kernel_rfl) (of_decide_eq_true (by kernel_rfl)) (of_decide_eq_true (by kernel_rfl)) ?_
 intro ds hw hok
 replace hw:WtL (aC.ct++([])) ds:=hw
 obtain⟨a,ds,rfl,bT,hw⟩:=aC.aZ (r:=_) hw
 obtain rfl:=of_wt_nil hw
 exact⟨0,((ad1 0 a).trans (ad3 _ a bT)).trans (by kernel_rfl)⟩
def sn:Sum:= {ps:=[⟨[.sl [.int .i64,.int .i64,.int .i64,.int .i64,.bool,.bool]],false⟩],rs:=[⟨[.own 133 [.int .i64,.int .i64,.int .i64,.int .i64,.bool,.bool]],false⟩],fn:=fun ds=>(sm (rR ds 0),[.sl (ca (rR ds 0))])}
def x9:Ctx:=[(95,Gu)]
theorem ZQ:ai Tryz.prog x9:=ab ad2 aq
def x_:List (Nat×dv):=[(3, {bJ:=[(0,.aU),(3,.aU),(4,.aU)],boxes:=[]})]
def iY:Rows→aV:=(fun r0=>((true,[.sl r0]):aV))
def kB (a:Rows) (i:Int) (az:Rows):St:= {n:=23,sl:=[(0,.sl [.int .i64,.int .i64,.int .i64,.int .i64,.bool,.bool] a),(3,.own 640192),(4,.int .i64 i)],hp:=[(640192,.row 133 [.int .i64,.int .i64,.int .i64,.int .i64,.bool,.bool] az false true)],ok:=true,ls:=[],lm:=[]}
noncomputable def kC (N:Nat):(St→aV)→St→aV:=dw Tryz.prog x9 x_ N Tryz.f34 sn [true,true,false,true,false] []
theorem WQ (N:Nat) (a:Rows) (ih:St→aV) (i:Int) (az:Rows):kC N ih (kB a i az)=qp Vm.bad iY a (fun i az=>ih (kB a i az)) i az:=by kernel_rfl
theorem WR (N:Nat) (a:Rows) (m_:Nat):(fun i az=>aw (kC N) m_ (kB a i az))=kD Vm.bad iY N a m_:=by
 induction m_ with
 | zero=>rfl
 | succ m_ ih=>
  funext i az
  show kC N (aw (kC N) m_) (kB a i az)=_
  rw[WQ N a]
  rw[ih]
  rfl
theorem ZR (N:Nat) (a:Rows):bg Tryz.prog x9 x_ N Tryz.f34 sn (.sl a::([]))=ya Vm.bad iY N a:=by
 have cm:bg Tryz.prog x9 x_ N Tryz.f34 sn (.sl a::([]))=yb Vm.bad iY (fun i az=>aw (kC N) N (kB a i az)) a:=by kernel_rfl
 refine cm.trans ?_
 unfold ya
 have e0:(fun i az=>aw (kC N) N (kB a i az))=(kD Vm.bad iY N a N):=by
  exact WR N a N
 exact congrArg (fun l_=>yb Vm.bad iY l_ a) e0
theorem ZS:Holds Tryz.prog 34 sn:=by
 refine aa (A:=x_) ZQ Tryz.func34 rfl (by kernel_rfl) (of_decide_eq_true (by kernel_rfl)) (of_decide_eq_true (by kernel_rfl)) ?_
 intro ds hw hok
 replace hw:WtL ((.sl [.int .i64,.int .i64,.int .i64,.int .i64,.bool,.bool])::([])) ds:=hw
 obtain⟨a,ds,rfl,bT,hw⟩:=of_wt_sl hw
 obtain rfl:=of_wt_nil hw
 obtain⟨N,hN⟩:=ZT Vm.bad iY a bT hok
 exact⟨N,((ZR N a).trans hN).trans (by kernel_rfl)⟩
def E_:Sum:= {ps:=[⟨[.int .i64,.int .i64,.int .i64,.int .i64],true⟩],rs:=[⟨[.imm (.int .i64),.imm (.int .i64),.imm (.int .i64),.imm (.int .i64)],true⟩],fn:=fun ds=>(true,cf.enc (ca (cf.ae ds 0)))}
def So:Ctx:=[]
theorem akx:ai Tryz.prog So:=aq
def Sp:List (Nat×dv):=[]
theorem aky (N:Nat) (a:cf):bg Tryz.prog So Sp N Tryz.f91 E_ (a.enc++([]))=Sq (fun r0=>((true,cf.enc r0):aV)) a:=by kernel_rfl
theorem Sr:Holds Tryz.prog 91 E_:=by
 refine aa (A:=Sp) akx Tryz.func91 rfl (by kernel_rfl) (of_decide_eq_true (by kernel_rfl)) (of_decide_eq_true (by kernel_rfl)) ?_
 intro ds hw hok
 replace hw:WtL (cf.ct++([])) ds:=hw
 obtain⟨a,ds,rfl,bT,hw⟩:=cf.aZ (r:=_) hw
 obtain rfl:=of_wt_nil hw
 exact⟨0,((aky 0 a).trans (akz _ a bT)).trans (by kernel_rfl)⟩
def qO:Sum:= {ps:=[⟨[.int .i64,.int .i64,.int .i64],true⟩],rs:=[⟨[.imm (.int .i64),.imm (.int .i64),.imm (.int .i64)],true⟩],fn:=fun ds=>(true,ay.enc (ca (ay.ae ds 0)))}
def zh:Ctx:=[]
theorem Lg:ai Tryz.prog zh:=aq
def zi:List (Nat×dv):=[]
theorem Lh (N:Nat) (a:ay):bg Tryz.prog zh zi N Tryz.f158 qO (a.enc++([]))=zj (fun r0=>((true,ay.enc r0):aV)) a:=by kernel_rfl
theorem Li:Holds Tryz.prog 158 qO:=by
 refine aa (A:=zi) Lg Tryz.func158 rfl (by kernel_rfl) (of_decide_eq_true (by kernel_rfl)) (of_decide_eq_true (by kernel_rfl)) ?_
 intro ds hw hok
 replace hw:WtL (ay.ct++([])) ds:=hw
 obtain⟨a,ds,rfl,bT,hw⟩:=ay.aZ (r:=_) hw
 obtain rfl:=of_wt_nil hw
 exact⟨0,((Lh 0 a).trans (Lj _ a bT)).trans (by kernel_rfl)⟩
def Ee:Sum:= {ps:=[⟨[.int .i64,.int .i64,.int .i64,.int .i64,.int .i64,.int .i64,.int .i64,.str],true⟩],rs:=[⟨[.imm (.int .i64),.imm (.int .i64),.imm (.int .i64),.imm (.int .i64),.imm (.int .i64),.imm (.int .i64),.imm (.int .i64),.imm .str],true⟩],fn:=fun ds=>(true,bk.enc (ca (bk.ae ds 0)))}
def LR:Ctx:=[]
theorem ZU:ai Tryz.prog LR:=aq
def LS:List (Nat×dv):=[]
theorem ZV (N:Nat) (a:bk):bg Tryz.prog LR LS N Tryz.f212 Ee (a.enc++([]))=LU (fun r0=>((true,bk.enc r0):aV)) a:=by kernel_rfl
theorem ZW:Holds Tryz.prog 212 Ee:=by
 refine aa (A:=LS) ZU Tryz.func212 rfl (by kernel_rfl) (of_decide_eq_true (by kernel_rfl)) (of_decide_eq_true (by kernel_rfl)) ?_
 intro ds hw hok
 replace hw:WtL (bk.ct++([])) ds:=hw
 obtain⟨a,ds,rfl,bT,hw⟩:=bk.aZ (r:=_) hw
 obtain rfl:=of_wt_nil hw
 exact⟨0,((ZV 0 a).trans (ZX _ a bT)).trans (by kernel_rfl)⟩
def Gv:Sum:= {ps:=[⟨[.int .i64,.int .i64,.int .i64,.int .i64,.int .i64,.int .i64,.int .i64,.int .i64,.int .i64,.int .i64,.int .i64,.int .i64,.int .i64,.int .i64,.int .i64,.str],true⟩],rs:=[⟨[.imm (.int .i64),.imm (.int .i64),.imm (.int .i64),.imm (.int .i64),.imm (.int .i64),.imm (.int .i64),.imm (.int .i64),.imm (.int .i64),.imm (.int .i64),.imm (.int .i64),.imm (.int .i64),.imm (.int .i64),.imm (.int .i64),.imm (.int .i64),.imm (.int .i64),.imm .str],true⟩],fn:=fun ds=>(true,bG.enc (ca (bG.ae ds 0)))}
def NM:Ctx:=[(212,Ee)]
theorem ad4:ai Tryz.prog NM:=ab ZW aq
def NN:List (Nat×dv):=[]
theorem ad5 (N:Nat) (a:bG):bg Tryz.prog NM NN N Tryz.f193 Gv (a.enc++([]))=NP (fun r0=>((true,bG.enc r0):aV)) a:=by kernel_rfl
theorem ad6:Holds Tryz.prog 193 Gv:=by
 refine aa (A:=NN) ad4 Tryz.func193 rfl (by kernel_rfl) (of_decide_eq_true (by kernel_rfl)) (of_decide_eq_true (by kernel_rfl)) ?_
 intro ds hw hok
 replace hw:WtL (bG.ct++([])) ds:=hw
 obtain⟨a,ds,rfl,bT,hw⟩:=bG.aZ (r:=_) hw
 obtain rfl:=of_wt_nil hw
 exact⟨0,((ad5 0 a).trans (ad7 _ a bT)).trans (by kernel_rfl)⟩
def Io:Sum:= {ps:=[⟨[.int .i64,.int .i64,.int .i64,.int .i64,.int .i64,.int .i64,.int .i64,.int .i64,.int .i64,.int .i64,.int .i64,.int .i64,.int .i64,.int .i64,.int .i64,.str,.int .i64,.int .i64],true⟩],rs:=[⟨[.imm (.int .i64),.imm (.int .i64),.imm (.int .i64),.imm (.int .i64),.imm (.int .i64),.imm (.int .i64),.imm (.int .i64),.imm (.int .i64),.imm (.int .i64),.imm (.int .i64),.imm (.int .i64),.imm (.int .i64),.imm (.int .i64),.imm (.int .i64),.imm (.int .i64),.imm .str,.imm (.int .i64),.imm (.int .i64)],true⟩],fn:=fun ds=>(true,dh.enc (ca (dh.ae ds 0)))}
def Pc:Ctx:=[(193,Gv)]
theorem ahn:ai Tryz.prog Pc:=ab ad6 aq
def Pf:List (Nat×dv):=[]
theorem aho (N:Nat) (a:dh):bg Tryz.prog Pc Pf N Tryz.f159 Io (a.enc++([]))=Pg (fun r0=>((true,dh.enc r0):aV)) a:=by kernel_rfl
theorem ahp:Holds Tryz.prog 159 Io:=by
 refine aa (A:=Pf) ahn Tryz.func159 rfl (by kernel_rfl) (of_decide_eq_true (by kernel_rfl)) (of_decide_eq_true (by kernel_rfl)) ?_
 intro ds hw hok
 replace hw:WtL (dh.ct++([])) ds:=hw
 obtain⟨a,ds,rfl,bT,hw⟩:=dh.aZ (r:=_) hw
 obtain rfl:=of_wt_nil hw
 exact⟨0,((aho 0 a).trans (ahq _ a bT)).trans (by kernel_rfl)⟩
def Ef:Sum:= {ps:=[⟨[.int .i64,.int .i64,.int .i64,.int .i64,.int .i64,.int .i64,.int .i64,.int .i64,.int .i64,.int .i64,.int .i64,.int .i64,.int .i64,.int .i64,.int .i64,.int .i64,.int .i64,.int .i64,.int .i64,.int .i64,.int .i64,.int .i64,.int .i64,.int .i64,.int .i64,.str,.int .i64,.int .i64,.bool,.int .i64],true⟩],rs:=[⟨[.imm (.int .i64),.imm (.int .i64),.imm (.int .i64),.imm (.int .i64),.imm (.int .i64),.imm (.int .i64),.imm (.int .i64),.imm (.int .i64),.imm (.int .i64),.imm (.int .i64),.imm (.int .i64),.imm (.int .i64),.imm (.int .i64),.imm (.int .i64),.imm (.int .i64),.imm (.int .i64),.imm (.int .i64),.imm (.int .i64),.imm (.int .i64),.imm (.int .i64),.imm (.int .i64),.imm (.int .i64),.imm (.int .i64),.imm (.int .i64),.imm (.int .i64),.imm .str,.imm (.int .i64),.imm (.int .i64),.imm .bool,.imm (.int .i64)],true⟩],fn:=fun ds=>(true,aS.enc (ca (aS.ae ds 0)))}
def LV:Ctx:=[(91,E_),(158,qO),(159,Io)]
theorem ZY:ai Tryz.prog LV:=ab Sr (ab Li (ab ahp aq))
def LW:List (Nat×dv):=[]
theorem ZZ (N:Nat) (a:aS):bg Tryz.prog LV LW N Tryz.f94 Ef (a.enc++([]))=LX (fun r0=>((true,aS.enc r0):aV)) a:=by kernel_rfl
theorem Z0:Holds Tryz.prog 94 Ef:=by
 refine aa (A:=LW) ZY Tryz.func94 rfl (by kernel_rfl) (of_decide_eq_true (by kernel_rfl)) (of_decide_eq_true (by kernel_rfl)) ?_
 intro ds hw hok
 replace hw:WtL (aS.ct++([])) ds:=hw
 obtain⟨a,ds,rfl,bT,hw⟩:=aS.aZ (r:=_) hw
 obtain rfl:=of_wt_nil hw
 exact⟨0,((ZZ 0 a).trans (Z1 _ a bT)).trans (by kernel_rfl)⟩
def qq:Sum:= {ps:=[⟨[.sl [.int .i64,.int .i64,.int .i64,.int .i64,.int .i64,.int .i64,.int .i64,.int .i64,.int .i64,.int .i64,.int .i64,.int .i64,.int .i64,.int .i64,.int .i64,.int .i64,.int .i64,.int .i64,.int .i64,.int .i64,.int .i64,.int .i64,.int .i64,.int .i64,.int .i64,.str,.int .i64,.int .i64,.bool,.int .i64]],false⟩],rs:=[⟨[.own 170 [.int .i64,.int .i64,.int .i64,.int .i64,.int .i64,.int .i64,.int .i64,.int .i64,.int .i64,.int .i64,.int .i64,.int .i64,.int .i64,.int .i64,.int .i64,.int .i64,.int .i64,.int .i64,.int .i64,.int .i64,.int .i64,.int .i64,.int .i64,.int .i64,.int .i64,.str,.int .i64,.int .i64,.bool,.int .i64]],false⟩],fn:=fun ds=>(sm (rR ds 0),[.sl (ca (rR ds 0))])}
def vu:Ctx:=[(94,Ef)]
theorem WS:ai Tryz.prog vu:=ab Z0 aq
def vv:List (Nat×dv):=[(3, {bJ:=[(0,.aU),(3,.aU),(4,.aU)],boxes:=[]})]
def gG:Rows→aV:=(fun r0=>((true,[.sl r0]):aV))
def iZ (a:Rows) (i:Int) (az:Rows):St:= {n:=23,sl:=[(0,.sl [.int .i64,.int .i64,.int .i64,.int .i64,.int .i64,.int .i64,.int .i64,.int .i64,.int .i64,.int .i64,.int .i64,.int .i64,.int .i64,.int .i64,.int .i64,.int .i64,.int .i64,.int .i64,.int .i64,.int .i64,.int .i64,.int .i64,.int .i64,.int .i64,.int .i64,.str,.int .i64,.int .i64,.bool,.int .i64] a),(3,.own 640192),(4,.int .i64 i)],hp:=[(640192,.row 170 [.int .i64,.int .i64,.int .i64,.int .i64,.int .i64,.int .i64,.int .i64,.int .i64,.int .i64,.int .i64,.int .i64,.int .i64,.int .i64,.int .i64,.int .i64,.int .i64,.int .i64,.int .i64,.int .i64,.int .i64,.int .i64,.int .i64,.int .i64,.int .i64,.int .i64,.str,.int .i64,.int .i64,.bool,.int .i64] az false true)],ok:=true,ls:=[],lm:=[]}
noncomputable def i4 (N:Nat):(St→aV)→St→aV:=dw Tryz.prog vu vv N Tryz.f32 qq [true,true,false,true,false] []
theorem T5 (N:Nat) (a:Rows) (ih:St→aV) (i:Int) (az:Rows):i4 N ih (iZ a i az)=nQ Vm.bad gG a (fun i az=>ih (iZ a i az)) i az:=by kernel_rfl
theorem T6 (N:Nat) (a:Rows) (m_:Nat):(fun i az=>aw (i4 N) m_ (iZ a i az))=i5 Vm.bad gG N a m_:=by
 induction m_ with
 | zero=>rfl
 | succ m_ ih=>
  funext i az
  show i4 N (aw (i4 N) m_) (iZ a i az)=_
  rw[T5 N a]
  rw[ih]
  rfl
theorem WT (N:Nat) (a:Rows):bg Tryz.prog vu vv N Tryz.f32 qq (.sl a::([]))=vw Vm.bad gG N a:=by
 have cm:bg Tryz.prog vu vv N Tryz.f32 qq (.sl a::([]))=vx Vm.bad gG (fun i az=>aw (i4 N) N (iZ a i az)) a:=by kernel_rfl
 refine cm.trans ?_
 unfold vw
 have e0:(fun i az=>aw (i4 N) N (iZ a i az))=(i5 Vm.bad gG N a N):=by
  exact T6 N a N
 exact congrArg (fun l_=>vx Vm.bad gG l_ a) e0
theorem WU:Holds Tryz.prog 32 qq:=by
 refine aa (A:=vv) WS Tryz.func32 rfl (by kernel_rfl) (of_decide_eq_true (by kernel_rfl)) (of_decide_eq_true (by kernel_rfl)) ?_
 intro ds hw hok
 replace hw:WtL ((.sl [.int .i64,.int .i64,.int .i64,.int .i64,.int .i64,.int .i64,.int .i64,.int .i64,.int .i64,.int .i64,.int .i64,.int .i64,.int .i64,.int .i64,.int .i64,.int .i64,.int .i64,.int .i64,.int .i64,.int .i64,.int .i64,.int .i64,.int .i64,.int .i64,.int .i64,.str,.int .i64,.int .i64,.bool,.int .i64])::([])) ds:=hw
 obtain⟨a,ds,rfl,bT,hw⟩:=of_wt_sl hw
 obtain rfl:=of_wt_nil hw
 obtain⟨N,hN⟩:=WV Vm.bad gG a bT hok
 exact⟨N,((WT N a).trans hN).trans (by kernel_rfl)⟩
def mI:Sum:= {ps:=[⟨[.sl [.str]],false⟩],rs:=[⟨[.own 9 [.str]],false⟩],fn:=fun ds=>(sm (rR ds 0),[.sl (ca (rR ds 0))])}
def yc:Ctx:=[]
theorem Z2:ai Tryz.prog yc:=aq
def yd:List (Nat×dv):=[(3, {bJ:=[(0,.aU),(3,.aU),(4,.aU)],boxes:=[]})]
def i6:Rows→aV:=(fun r0=>((true,[.sl r0]):aV))
def kE (a:Rows) (i:Int) (az:Rows):St:= {n:=22,sl:=[(0,.sl [.str] a),(3,.own 640192),(4,.int .i64 i)],hp:=[(640192,.row 9 [.str] az false true)],ok:=true,ls:=[],lm:=[]}
noncomputable def kF (N:Nat):(St→aV)→St→aV:=dw Tryz.prog yc yd N Tryz.f39 mI [true,true,false,true,false] []
theorem WW (N:Nat) (a:Rows) (ih:St→aV) (i:Int) (az:Rows):kF N ih (kE a i az)=qs Vm.bad i6 a (fun i az=>ih (kE a i az)) i az:=by kernel_rfl
theorem WX (N:Nat) (a:Rows) (m_:Nat):(fun i az=>aw (kF N) m_ (kE a i az))=kG Vm.bad i6 N a m_:=by
 induction m_ with
 | zero=>rfl
 | succ m_ ih=>
  funext i az
  show kF N (aw (kF N) m_) (kE a i az)=_
  rw[WW N a]
  rw[ih]
  rfl
theorem Z3 (N:Nat) (a:Rows):bg Tryz.prog yc yd N Tryz.f39 mI (.sl a::([]))=ye Vm.bad i6 N a:=by
 have cm:bg Tryz.prog yc yd N Tryz.f39 mI (.sl a::([]))=yf Vm.bad i6 (fun i az=>aw (kF N) N (kE a i az)) a:=by kernel_rfl
 refine cm.trans ?_
 unfold ye
 have e0:(fun i az=>aw (kF N) N (kE a i az))=(kG Vm.bad i6 N a N):=by
  exact WX N a N
 exact congrArg (fun l_=>yf Vm.bad i6 l_ a) e0
theorem LY:Holds Tryz.prog 39 mI:=by
 refine aa (A:=yd) Z2 Tryz.func39 rfl (by kernel_rfl) (of_decide_eq_true (by kernel_rfl)) (of_decide_eq_true (by kernel_rfl)) ?_
 intro ds hw hok
 replace hw:WtL ((.sl [.str])::([])) ds:=hw
 obtain⟨a,ds,rfl,bT,hw⟩:=of_wt_sl hw
 obtain rfl:=of_wt_nil hw
 obtain⟨N,hN⟩:=Z4 Vm.bad i6 a bT hok
 exact⟨N,((Z3 N a).trans hN).trans (by kernel_rfl)⟩
def Gw:Sum:= {ps:=[⟨[.sl [.str]],true⟩],rs:=[⟨[.own 9 [.str]],true⟩],fn:=fun ds=>(mJ (aK.ae ds 0),aK.enc (ca (aK.ae ds 0)))}
def NQ:Ctx:=[(39,mI)]
theorem ad8:ai Tryz.prog NQ:=ab LY aq
def NR:List (Nat×dv):=[]
theorem ad9 (N:Nat) (a:aK):bg Tryz.prog NQ NR N Tryz.f29 Gw (a.enc++([]))=uE Vm.bad (fun r0=>((true,aK.enc r0):aV)) a:=by kernel_rfl
theorem ad_:Holds Tryz.prog 29 Gw:=by
 refine aa (A:=NR) ad8 Tryz.func29 rfl (by kernel_rfl) (of_decide_eq_true (by kernel_rfl)) (of_decide_eq_true (by kernel_rfl)) ?_
 intro ds hw hok
 replace hw:WtL (aK.ct++([])) ds:=hw
 obtain⟨a,ds,rfl,bT,hw⟩:=aK.aZ (r:=_) hw
 obtain rfl:=of_wt_nil hw
 exact⟨0,((ad9 0 a).trans (aea Vm.bad _ a bT hok)).trans (by kernel_rfl)⟩
def Eg:Sum:= {ps:=[⟨[.int .i64,.int .i64,.int .i64,.int .i64,.int .i64,.int .i64,.int .i64,.str],true⟩,⟨[.int .i64,.int .i64,.int .i64,.int .i64,.int .i64,.int .i64,.int .i64,.str],true⟩],rs:=[⟨[.imm .bool],false⟩],fn:=fun ds=>(same (bk.ae ds 0) (bk.ae ds 8),[.bool (cV (bk.ae ds 0) (bk.ae ds 8))])}
def LZ:Ctx:=[]
theorem Z5:ai Tryz.prog LZ:=aq
def L0:List (Nat×dv):=[]
theorem Z6 (N:Nat) (a:bk) (b:bk):bg Tryz.prog LZ L0 N Tryz.f213 Eg (a.enc++(b.enc++([])))=Eh (fun r0=>((true,[.bool r0]):aV)) a b:=by kernel_rfl
theorem Z7:Holds Tryz.prog 213 Eg:=by
 refine aa (A:=L0) Z5 Tryz.func213 rfl (by kernel_rfl) (of_decide_eq_true (by kernel_rfl)) (of_decide_eq_true (by kernel_rfl)) ?_
 intro ds hw hok
 replace hw:WtL (bk.ct++(bk.ct++([]))) ds:=hw
 obtain⟨a,ds,rfl,bT,hw⟩:=bk.aZ (r:=_) hw
 obtain⟨b,ds,rfl,lX,hw⟩:=bk.aZ (r:=_) hw
 obtain rfl:=of_wt_nil hw
 exact⟨0,((Z6 0 a b).trans (Z8 _ a b bT lX hok)).trans (by kernel_rfl)⟩
def Gx:Sum:= {ps:=[⟨[.int .i64,.int .i64,.int .i64,.int .i64,.int .i64,.int .i64,.int .i64,.int .i64,.int .i64,.int .i64,.int .i64,.int .i64,.int .i64,.int .i64,.int .i64,.str],true⟩,⟨[.int .i64,.int .i64,.int .i64,.int .i64,.int .i64,.int .i64,.int .i64,.int .i64,.int .i64,.int .i64,.int .i64,.int .i64,.int .i64,.int .i64,.int .i64,.str],true⟩],rs:=[⟨[.imm .bool],false⟩],fn:=fun ds=>(same (bG.ae ds 0) (bG.ae ds 16),[.bool (cV (bG.ae ds 0) (bG.ae ds 16))])}
def NS:Ctx:=[(213,Eg)]
theorem aeb:ai Tryz.prog NS:=ab Z7 aq
def NT:List (Nat×dv):=[]
theorem aec (N:Nat) (a:bG) (b:bG):bg Tryz.prog NS NT N Tryz.f195 Gx (a.enc++(b.enc++([])))=Gy Vm.bad (fun r0=>((true,[.bool r0]):aV)) a b:=by kernel_rfl
theorem aed:Holds Tryz.prog 195 Gx:=by
 refine aa (A:=NT) aeb Tryz.func195 rfl (by kernel_rfl) (of_decide_eq_true (by kernel_rfl)) (of_decide_eq_true (by kernel_rfl)) ?_
 intro ds hw hok
 replace hw:WtL (bG.ct++(bG.ct++([]))) ds:=hw
 obtain⟨a,ds,rfl,bT,hw⟩:=bG.aZ (r:=_) hw
 obtain⟨b,ds,rfl,lX,hw⟩:=bG.aZ (r:=_) hw
 obtain rfl:=of_wt_nil hw
 exact⟨0,((aec 0 a b).trans (aee Vm.bad _ a b bT lX hok)).trans (by kernel_rfl)⟩
def Ip:Sum:= {ps:=[⟨[.int .i64,.int .i64,.int .i64,.int .i64,.int .i64,.int .i64,.int .i64,.int .i64,.int .i64,.int .i64,.int .i64,.int .i64,.int .i64,.int .i64,.int .i64,.str,.int .i64,.int .i64],true⟩,⟨[.int .i64,.int .i64,.int .i64,.int .i64,.int .i64,.int .i64,.int .i64,.int .i64,.int .i64,.int .i64,.int .i64,.int .i64,.int .i64,.int .i64,.int .i64,.str,.int .i64,.int .i64],true⟩],rs:=[⟨[.imm .bool],false⟩],fn:=fun ds=>(same (dh.ae ds 0) (dh.ae ds 18),[.bool (cV (dh.ae ds 0) (dh.ae ds 18))])}
def Ph:Ctx:=[(195,Gx)]
theorem ahr:ai Tryz.prog Ph:=ab aed aq
def Pj:List (Nat×dv):=[]
theorem ahs (N:Nat) (a:dh) (b:dh):bg Tryz.prog Ph Pj N Tryz.f165 Ip (a.enc++(b.enc++([])))=Iq Vm.bad (fun r0=>((true,[.bool r0]):aV)) a b:=by kernel_rfl
theorem aht:Holds Tryz.prog 165 Ip:=by
 refine aa (A:=Pj) ahr Tryz.func165 rfl (by kernel_rfl) (of_decide_eq_true (by kernel_rfl)) (of_decide_eq_true (by kernel_rfl)) ?_
 intro ds hw hok
 replace hw:WtL (dh.ct++(dh.ct++([]))) ds:=hw
 obtain⟨a,ds,rfl,bT,hw⟩:=dh.aZ (r:=_) hw
 obtain⟨b,ds,rfl,lX,hw⟩:=dh.aZ (r:=_) hw
 obtain rfl:=of_wt_nil hw
 exact⟨0,((ahs 0 a b).trans (ahu Vm.bad _ a b bT lX hok)).trans (by kernel_rfl)⟩
def wC:Sum:= {ps:=[⟨[.sl [.int .i64,.int .i64,.int .i64,.int .i64,.int .i64,.int .i64,.int .i64]],false⟩,⟨[.sl [.int .i64,.int .i64,.int .i64,.int .i64,.int .i64,.int .i64,.int .i64]],false⟩],rs:=[⟨[.imm .bool],false⟩],fn:=fun ds=>(same (rR ds 0) (rR ds 1),[.bool (cV (rR ds 0) (rR ds 1))])}
def CI:Ctx:=[(196,Ld)]
theorem ahv:ai Tryz.prog CI:=ab akr aq
def CJ:List (Nat×dv):=[(4, {bJ:=[(0,.aU),(1,.aU),(5,.aU)],boxes:=[]})]
def nR:Bool→aV:=(fun r0=>((true,[.bool r0]):aV))
def pj (a:Rows) (b:Rows) (i:Int):St:= {n:=27,sl:=[(0,.sl [.int .i64,.int .i64,.int .i64,.int .i64,.int .i64,.int .i64,.int .i64] a),(1,.sl [.int .i64,.int .i64,.int .i64,.int .i64,.int .i64,.int .i64,.int .i64] b),(5,.int .i64 i)],hp:=[],ok:=true,ls:=[],lm:=[]}
noncomputable def pk (N:Nat):(St→aV)→St→aV:=dw Tryz.prog CI CJ N Tryz.f167 wC [true,true,false,true,false] []
theorem aef (N:Nat) (a:Rows) (b:Rows) (ih:St→aV) (i:Int):pk N ih (pj a b i)=uF Vm.bad nR a b (fun i=>ih (pj a b i)) i:=by kernel_rfl
theorem aeg (N:Nat) (a:Rows) (b:Rows) (m_:Nat):(fun i=>aw (pk N) m_ (pj a b i))=pn Vm.bad nR N a b m_:=by
 induction m_ with
 | zero=>rfl
 | succ m_ ih=>
  funext i
  show pk N (aw (pk N) m_) (pj a b i)=_
  rw[aef N a b]
  rw[ih]
  rfl
theorem ahw (N:Nat) (a:Rows) (b:Rows):bg Tryz.prog CI CJ N Tryz.f167 wC (.sl a::(.sl b::([])))=CL Vm.bad nR N a b:=by
 have cm:bg Tryz.prog CI CJ N Tryz.f167 wC (.sl a::(.sl b::([])))=CM Vm.bad nR (fun i=>aw (pk N) N (pj a b i)) a b:=by kernel_rfl
 refine cm.trans ?_
 unfold CL
 have e0:(fun i=>aw (pk N) N (pj a b i))=(pn Vm.bad nR N a b N):=by
  exact aeg N a b N
 exact congrArg (fun l_=>CM Vm.bad nR l_ a b) e0
theorem ahx:Holds Tryz.prog 167 wC:=by
 refine aa (A:=CJ) ahv Tryz.func167 rfl (by kernel_rfl) (of_decide_eq_true (by kernel_rfl)) (of_decide_eq_true (by kernel_rfl)) ?_
 intro ds hw hok
 replace hw:WtL ((.sl [.int .i64,.int .i64,.int .i64,.int .i64,.int .i64,.int .i64,.int .i64])::((.sl [.int .i64,.int .i64,.int .i64,.int .i64,.int .i64,.int .i64,.int .i64])::([]))) ds:=hw
 obtain⟨a,ds,rfl,bT,hw⟩:=of_wt_sl hw
 obtain⟨b,ds,rfl,lX,hw⟩:=of_wt_sl hw
 obtain rfl:=of_wt_nil hw
 obtain⟨N,hN⟩:=ahy Vm.bad nR a b bT lX hok
 exact⟨N,((ahw N a b).trans hN).trans (by kernel_rfl)⟩
def A1:Sum:= {ps:=[⟨[.sl [.int .i64,.int .i64,.int .i64,.int .i64,.int .i64,.int .i64,.int .i64]],true⟩,⟨[.sl [.int .i64,.int .i64,.int .i64,.int .i64,.int .i64,.int .i64,.int .i64]],true⟩],rs:=[⟨[.imm .bool],false⟩],fn:=fun ds=>(same (ag.ae ds 0) (ag.ae ds 1),[.bool (cV (ag.ae ds 0) (ag.ae ds 1))])}
def Ir:Ctx:=[(167,wC)]
theorem T7:ai Tryz.prog Ir:=ab ahx aq
def Is:List (Nat×dv):=[]
theorem T8 (N:Nat) (a:ag) (b:ag):bg Tryz.prog Ir Is N Tryz.f107 A1 (a.enc++(b.enc++([])))=A2 Vm.bad (fun r0=>((true,[.bool r0]):aV)) a b:=by kernel_rfl
theorem T9:Holds Tryz.prog 107 A1:=by
 refine aa (A:=Is) T7 Tryz.func107 rfl (by kernel_rfl) (of_decide_eq_true (by kernel_rfl)) (of_decide_eq_true (by kernel_rfl)) ?_
 intro ds hw hok
 replace hw:WtL (ag.ct++(ag.ct++([]))) ds:=hw
 obtain⟨a,ds,rfl,bT,hw⟩:=ag.aZ (r:=_) hw
 obtain⟨b,ds,rfl,lX,hw⟩:=ag.aZ (r:=_) hw
 obtain rfl:=of_wt_nil hw
 exact⟨0,((T8 0 a b).trans (T_ Vm.bad _ a b bT lX hok)).trans (by kernel_rfl)⟩
def Gz:Sum:= {ps:=[⟨[.int .i64,.int .i64,.int .i64,.int .i64,.int .i64,.int .i64,.str,.bool],true⟩],rs:=[⟨[.imm (.int .i64),.imm (.int .i64),.imm (.int .i64),.imm (.int .i64),.imm (.int .i64),.imm (.int .i64),.imm .str,.imm .bool],true⟩],fn:=fun ds=>(true,bM.enc (ca (bM.ae ds 0)))}
def NU:Ctx:=[(162,EZ)]
theorem aeh:ai Tryz.prog NU:=ab R_ aq
def NV:List (Nat×dv):=[]
theorem aei (N:Nat) (a:bM):bg Tryz.prog NU NV N Tryz.f99 Gz (a.enc++([]))=NW (fun r0=>((true,bM.enc r0):aV)) a:=by kernel_rfl
theorem aej:Holds Tryz.prog 99 Gz:=by
 refine aa (A:=NV) aeh Tryz.func99 rfl (by kernel_rfl) (of_decide_eq_true (by kernel_rfl)) (of_decide_eq_true (by kernel_rfl)) ?_
 intro ds hw hok
 replace hw:WtL (bM.ct++([])) ds:=hw
 obtain⟨a,ds,rfl,bT,hw⟩:=bM.aZ (r:=_) hw
 obtain rfl:=of_wt_nil hw
 exact⟨0,((aei 0 a).trans (aek _ a bT)).trans (by kernel_rfl)⟩
def sq:Sum:= {ps:=[⟨[.sl [.int .i64,.int .i64,.int .i64,.int .i64,.int .i64,.int .i64,.str,.bool]],false⟩],rs:=[⟨[.own 179 [.int .i64,.int .i64,.int .i64,.int .i64,.int .i64,.int .i64,.str,.bool]],false⟩],fn:=fun ds=>(sm (rR ds 0),[.sl (ca (rR ds 0))])}
def yg:Ctx:=[(99,Gz)]
theorem Z9:ai Tryz.prog yg:=ab aej aq
def yh:List (Nat×dv):=[(3, {bJ:=[(0,.aU),(3,.aU),(4,.aU)],boxes:=[]})]
def i7:Rows→aV:=(fun r0=>((true,[.sl r0]):aV))
def kH (a:Rows) (i:Int) (az:Rows):St:= {n:=23,sl:=[(0,.sl [.int .i64,.int .i64,.int .i64,.int .i64,.int .i64,.int .i64,.str,.bool] a),(3,.own 640192),(4,.int .i64 i)],hp:=[(640192,.row 179 [.int .i64,.int .i64,.int .i64,.int .i64,.int .i64,.int .i64,.str,.bool] az false true)],ok:=true,ls:=[],lm:=[]}
noncomputable def kI (N:Nat):(St→aV)→St→aV:=dw Tryz.prog yg yh N Tryz.f38 sq [true,true,false,true,false] []
theorem WY (N:Nat) (a:Rows) (ih:St→aV) (i:Int) (az:Rows):kI N ih (kH a i az)=qt Vm.bad i7 a (fun i az=>ih (kH a i az)) i az:=by kernel_rfl
theorem WZ (N:Nat) (a:Rows) (m_:Nat):(fun i az=>aw (kI N) m_ (kH a i az))=kJ Vm.bad i7 N a m_:=by
 induction m_ with
 | zero=>rfl
 | succ m_ ih=>
  funext i az
  show kI N (aw (kI N) m_) (kH a i az)=_
  rw[WY N a]
  rw[ih]
  rfl
theorem Z_ (N:Nat) (a:Rows):bg Tryz.prog yg yh N Tryz.f38 sq (.sl a::([]))=yi Vm.bad i7 N a:=by
 have cm:bg Tryz.prog yg yh N Tryz.f38 sq (.sl a::([]))=yj Vm.bad i7 (fun i az=>aw (kI N) N (kH a i az)) a:=by kernel_rfl
 refine cm.trans ?_
 unfold yi
 have e0:(fun i az=>aw (kI N) N (kH a i az))=(kJ Vm.bad i7 N a N):=by
  exact WZ N a N
 exact congrArg (fun l_=>yj Vm.bad i7 l_ a) e0
theorem aaa:Holds Tryz.prog 38 sq:=by
 refine aa (A:=yh) Z9 Tryz.func38 rfl (by kernel_rfl) (of_decide_eq_true (by kernel_rfl)) (of_decide_eq_true (by kernel_rfl)) ?_
 intro ds hw hok
 replace hw:WtL ((.sl [.int .i64,.int .i64,.int .i64,.int .i64,.int .i64,.int .i64,.str,.bool])::([])) ds:=hw
 obtain⟨a,ds,rfl,bT,hw⟩:=of_wt_sl hw
 obtain rfl:=of_wt_nil hw
 obtain⟨N,hN⟩:=aab Vm.bad i7 a bT hok
 exact⟨N,((Z_ N a).trans hN).trans (by kernel_rfl)⟩
def Fa:Sum:= {ps:=[⟨[.int .i64,.int .i64,.int .i64,.sl [.int .i64]],true⟩],rs:=[⟨[.imm (.int .i64),.imm (.int .i64),.imm (.int .i64),.own 3 [.int .i64]],true⟩],fn:=fun ds=>(fF (aJ.ae ds 0),aJ.enc (ca (aJ.ae ds 0)))}
def Ss:Ctx:=[(40,jo)]
theorem akA:ai Tryz.prog Ss:=ab ze aq
def Su:List (Nat×dv):=[]
theorem akB (N:Nat) (a:aJ):bg Tryz.prog Ss Su N Tryz.f92 Fa (a.enc++([]))=uU Vm.bad (fun r0=>((true,aJ.enc r0):aV)) a:=by kernel_rfl
theorem Sv:Holds Tryz.prog 92 Fa:=by
 refine aa (A:=Su) akA Tryz.func92 rfl (by kernel_rfl) (of_decide_eq_true (by kernel_rfl)) (of_decide_eq_true (by kernel_rfl)) ?_
 intro ds hw hok
 replace hw:WtL (aJ.ct++([])) ds:=hw
 obtain⟨a,ds,rfl,bT,hw⟩:=aJ.aZ (r:=_) hw
 obtain rfl:=of_wt_nil hw
 exact⟨0,((akB 0 a).trans (akC Vm.bad _ a bT hok)).trans (by kernel_rfl)⟩
def wD:Sum:= {ps:=[⟨[.sl [.int .i64,.int .i64,.sl [.int .i64]]],false⟩],rs:=[⟨[.deep 96 [.int .i64,.int .i64,.sl [.int .i64]] [3]],false⟩],fn:=fun ds=>(ik (rR ds 0),[.sl (ca (rR ds 0))])}
def CN:Ctx:=[(1125899906842631,afN),(157,Lf)]
theorem ahz:ai Tryz.prog CN:=ab RN (ab akv aq)
def CO:List (Nat×dv):=[(3, {bJ:=[(0,.aU),(3,.aU),(4,.aU)],boxes:=[]})]
def nS:Rows→aV:=(fun r0=>((true,[.sl r0]):aV))
def po (a:Rows) (i:Int) (az:Rows):St:= {n:=23,sl:=[(0,.sl [.int .i64,.int .i64,.sl [.int .i64]] a),(3,.own 640192),(4,.int .i64 i)],hp:=[(640192,.deep 96 [.int .i64,.int .i64,.sl [.int .i64]] [3] az none)],ok:=true,ls:=[],lm:=[]}
noncomputable def pq (N:Nat):(St→aV)→St→aV:=dw Tryz.prog CN CO N Tryz.f93 wD [true,true,false,true,false] []
theorem ael (N:Nat) (a:Rows) (ih:St→aV) (i:Int) (az:Rows):pq N ih (po a i az)=uG Vm.bad nS a (fun i az=>ih (po a i az)) i az:=by kernel_rfl
theorem aem (N:Nat) (a:Rows) (m_:Nat):(fun i az=>aw (pq N) m_ (po a i az))=pr Vm.bad nS N a m_:=by
 induction m_ with
 | zero=>rfl
 | succ m_ ih=>
  funext i az
  show pq N (aw (pq N) m_) (po a i az)=_
  rw[ael N a]
  rw[ih]
  rfl
theorem ahA (N:Nat) (a:Rows):bg Tryz.prog CN CO N Tryz.f93 wD (.sl a::([]))=CP Vm.bad nS N a:=by
 have cm:bg Tryz.prog CN CO N Tryz.f93 wD (.sl a::([]))=CQ Vm.bad nS (fun i az=>aw (pq N) N (po a i az)) a:=by kernel_rfl
 refine cm.trans ?_
 unfold CP
 have e0:(fun i az=>aw (pq N) N (po a i az))=(pr Vm.bad nS N a N):=by
  exact aem N a N
 exact congrArg (fun l_=>CQ Vm.bad nS l_ a) e0
theorem ahB:Holds Tryz.prog 93 wD:=by
 refine aa (A:=CO) ahz Tryz.func93 rfl (by kernel_rfl) (of_decide_eq_true (by kernel_rfl)) (of_decide_eq_true (by kernel_rfl)) ?_
 intro ds hw hok
 replace hw:WtL ((.sl [.int .i64,.int .i64,.sl [.int .i64]])::([])) ds:=hw
 obtain⟨a,ds,rfl,bT,hw⟩:=of_wt_sl hw
 obtain rfl:=of_wt_nil hw
 obtain⟨N,hN⟩:=ahC Vm.bad nS a bT hok
 exact⟨N,((ahA N a).trans hN).trans (by kernel_rfl)⟩
def Ei:Sum:= {ps:=[⟨[.int .i64,.int .i64,.int .i64,.int .i64,.int .i64,.int .i64,.int .i64,.sl [.int .i64],.sl [.int .i64,.int .i64,.sl [.int .i64]],.int .i64],true⟩],rs:=[⟨[.imm (.int .i64),.imm (.int .i64),.imm (.int .i64),.imm (.int .i64),.imm (.int .i64),.imm (.int .i64),.imm (.int .i64),.own 3 [.int .i64],.deep 96 [.int .i64,.int .i64,.sl [.int .i64]] [3],.imm (.int .i64)],true⟩],fn:=fun ds=>(kK (au.ae ds 0),au.enc (ca (au.ae ds 0)))}
def L1:Ctx:=[(91,E_),(92,Fa),(93,wD)]
theorem aac:ai Tryz.prog L1:=ab Sr (ab Sv (ab ahB aq))
def L2:List (Nat×dv):=[]
theorem aad (N:Nat) (a:au):bg Tryz.prog L1 L2 N Tryz.f31 Ei (a.enc++([]))=sr Vm.bad (fun r0=>((true,au.enc r0):aV)) a:=by kernel_rfl
theorem aae:Holds Tryz.prog 31 Ei:=by
 refine aa (A:=L2) aac Tryz.func31 rfl (by kernel_rfl) (of_decide_eq_true (by kernel_rfl)) (of_decide_eq_true (by kernel_rfl)) ?_
 intro ds hw hok
 replace hw:WtL (au.ct++([])) ds:=hw
 obtain⟨a,ds,rfl,bT,hw⟩:=au.aZ (r:=_) hw
 obtain rfl:=of_wt_nil hw
 exact⟨0,((aad 0 a).trans (aaf Vm.bad _ a bT hok)).trans (by kernel_rfl)⟩
def wE:Sum:= {ps:=[⟨[.sl [.int .i64,.int .i64,.int .i64,.sl [.int .i64]]],false⟩],rs:=[⟨[.deep 58 [.int .i64,.int .i64,.int .i64,.sl [.int .i64]] [3]],false⟩],fn:=fun ds=>(lr (rR ds 0),[.sl (ca (rR ds 0))])}
def CR:Ctx:=[(1125899906842631,afN),(92,Fa)]
theorem ahD:ai Tryz.prog CR:=ab RN (ab Sv aq)
def CS:List (Nat×dv):=[(3, {bJ:=[(0,.aU),(3,.aU),(4,.aU)],boxes:=[]})]
def nT:Rows→aV:=(fun r0=>((true,[.sl r0]):aV))
def pw (a:Rows) (i:Int) (az:Rows):St:= {n:=23,sl:=[(0,.sl [.int .i64,.int .i64,.int .i64,.sl [.int .i64]] a),(3,.own 640192),(4,.int .i64 i)],hp:=[(640192,.deep 58 [.int .i64,.int .i64,.int .i64,.sl [.int .i64]] [3] az none)],ok:=true,ls:=[],lm:=[]}
noncomputable def px (N:Nat):(St→aV)→St→aV:=dw Tryz.prog CR CS N Tryz.f33 wE [true,true,false,true,false] []
theorem aen (N:Nat) (a:Rows) (ih:St→aV) (i:Int) (az:Rows):px N ih (pw a i az)=uH Vm.bad nT a (fun i az=>ih (pw a i az)) i az:=by kernel_rfl
theorem aeo (N:Nat) (a:Rows) (m_:Nat):(fun i az=>aw (px N) m_ (pw a i az))=py Vm.bad nT N a m_:=by
 induction m_ with
 | zero=>rfl
 | succ m_ ih=>
  funext i az
  show px N (aw (px N) m_) (pw a i az)=_
  rw[aen N a]
  rw[ih]
  rfl
theorem ahE (N:Nat) (a:Rows):bg Tryz.prog CR CS N Tryz.f33 wE (.sl a::([]))=CU Vm.bad nT N a:=by
 have cm:bg Tryz.prog CR CS N Tryz.f33 wE (.sl a::([]))=CV Vm.bad nT (fun i az=>aw (px N) N (pw a i az)) a:=by kernel_rfl
 refine cm.trans ?_
 unfold CU
 have e0:(fun i az=>aw (px N) N (pw a i az))=(py Vm.bad nT N a N):=by
  exact aeo N a N
 exact congrArg (fun l_=>CV Vm.bad nT l_ a) e0
theorem ahF:Holds Tryz.prog 33 wE:=by
 refine aa (A:=CS) ahD Tryz.func33 rfl (by kernel_rfl) (of_decide_eq_true (by kernel_rfl)) (of_decide_eq_true (by kernel_rfl)) ?_
 intro ds hw hok
 replace hw:WtL ((.sl [.int .i64,.int .i64,.int .i64,.sl [.int .i64]])::([])) ds:=hw
 obtain⟨a,ds,rfl,bT,hw⟩:=of_wt_sl hw
 obtain rfl:=of_wt_nil hw
 obtain⟨N,hN⟩:=ahG Vm.bad nT a bT hok
 exact⟨N,((ahE N a).trans hN).trans (by kernel_rfl)⟩
def wF:Sum:= {ps:=[⟨[.sl [.bool]],false⟩],rs:=[⟨[.own 4 [.bool]],false⟩],fn:=fun ds=>(sm (rR ds 0),[.sl (ca (rR ds 0))])}
def CW:Ctx:=[]
theorem ahH:ai Tryz.prog CW:=aq
def CX:List (Nat×dv):=[(3, {bJ:=[(0,.aU),(3,.aU),(4,.aU)],boxes:=[]})]
def nU:Rows→aV:=(fun r0=>((true,[.sl r0]):aV))
def pz (a:Rows) (i:Int) (az:Rows):St:= {n:=22,sl:=[(0,.sl [.bool] a),(3,.own 640192),(4,.int .i64 i)],hp:=[(640192,.row 4 [.bool] az false true)],ok:=true,ls:=[],lm:=[]}
noncomputable def pA (N:Nat):(St→aV)→St→aV:=dw Tryz.prog CW CX N Tryz.f35 wF [true,true,false,true,false] []
theorem aep (N:Nat) (a:Rows) (ih:St→aV) (i:Int) (az:Rows):pA N ih (pz a i az)=uI Vm.bad nU a (fun i az=>ih (pz a i az)) i az:=by kernel_rfl
theorem aeq (N:Nat) (a:Rows) (m_:Nat):(fun i az=>aw (pA N) m_ (pz a i az))=pB Vm.bad nU N a m_:=by
 induction m_ with
 | zero=>rfl
 | succ m_ ih=>
  funext i az
  show pA N (aw (pA N) m_) (pz a i az)=_
  rw[aep N a]
  rw[ih]
  rfl
theorem ahI (N:Nat) (a:Rows):bg Tryz.prog CW CX N Tryz.f35 wF (.sl a::([]))=CY Vm.bad nU N a:=by
 have cm:bg Tryz.prog CW CX N Tryz.f35 wF (.sl a::([]))=CZ Vm.bad nU (fun i az=>aw (pA N) N (pz a i az)) a:=by kernel_rfl
 refine cm.trans ?_
 unfold CY
 have e0:(fun i az=>aw (pA N) N (pz a i az))=(pB Vm.bad nU N a N):=by
  exact aeq N a N
 exact congrArg (fun l_=>CZ Vm.bad nU l_ a) e0
theorem ahJ:Holds Tryz.prog 35 wF:=by
 refine aa (A:=CX) ahH Tryz.func35 rfl (by kernel_rfl) (of_decide_eq_true (by kernel_rfl)) (of_decide_eq_true (by kernel_rfl)) ?_
 intro ds hw hok
 replace hw:WtL ((.sl [.bool])::([])) ds:=hw
 obtain⟨a,ds,rfl,bT,hw⟩:=of_wt_sl hw
 obtain rfl:=of_wt_nil hw
 obtain⟨N,hN⟩:=ahK Vm.bad nU a bT hok
 exact⟨N,((ahI N a).trans hN).trans (by kernel_rfl)⟩
def GA:Sum:= {ps:=[⟨[.int .i64,.bool,.sl [.int .i64]],true⟩],rs:=[⟨[.imm (.int .i64),.imm .bool,.own 3 [.int .i64]],true⟩],fn:=fun ds=>(mK (aI.ae ds 0),aI.enc (ca (aI.ae ds 0)))}
def NX:Ctx:=[(40,jo)]
theorem aer:ai Tryz.prog NX:=ab ze aq
def NY:List (Nat×dv):=[]
theorem aes (N:Nat) (a:aI):bg Tryz.prog NX NY N Tryz.f36 GA (a.enc++([]))=uJ Vm.bad (fun r0=>((true,aI.enc r0):aV)) a:=by kernel_rfl
theorem aet:Holds Tryz.prog 36 GA:=by
 refine aa (A:=NY) aer Tryz.func36 rfl (by kernel_rfl) (of_decide_eq_true (by kernel_rfl)) (of_decide_eq_true (by kernel_rfl)) ?_
 intro ds hw hok
 replace hw:WtL (aI.ct++([])) ds:=hw
 obtain⟨a,ds,rfl,bT,hw⟩:=aI.aZ (r:=_) hw
 obtain rfl:=of_wt_nil hw
 exact⟨0,((aes 0 a).trans (aeu Vm.bad _ a bT hok)).trans (by kernel_rfl)⟩
def C0:Sum:= {ps:=[⟨[.int .i64,.int .i64,.int .i64,.int .i64,.int .i64],true⟩],rs:=[⟨[.imm (.int .i64),.imm (.int .i64),.imm (.int .i64),.imm (.int .i64),.imm (.int .i64)],true⟩],fn:=fun ds=>(true,bC.enc (ca (bC.ae ds 0)))}
def JX:Ctx:=[]
theorem W0:ai Tryz.prog JX:=aq
def JY:List (Nat×dv):=[]
theorem W1 (N:Nat) (a:bC):bg Tryz.prog JX JY N Tryz.f41 C0 (a.enc++([]))=JZ (fun r0=>((true,bC.enc r0):aV)) a:=by kernel_rfl
theorem W2:Holds Tryz.prog 41 C0:=by
 refine aa (A:=JY) W0 Tryz.func41 rfl (by kernel_rfl) (of_decide_eq_true (by kernel_rfl)) (of_decide_eq_true (by kernel_rfl)) ?_
 intro ds hw hok
 replace hw:WtL (bC.ct++([])) ds:=hw
 obtain⟨a,ds,rfl,bT,hw⟩:=bC.aZ (r:=_) hw
 obtain rfl:=of_wt_nil hw
 exact⟨0,((W1 0 a).trans (W3 _ a bT)).trans (by kernel_rfl)⟩
def KP:Sum:= {ps:=[⟨[.sl [.str],.sl [.int .i64,.int .i64,.int .i64,.bool],.int .i64,.int .i64,.int .i64,.int .i64,.int .i64,.int .i64,.int .i64,.sl [.int .i64],.sl [.int .i64,.int .i64,.sl [.int .i64]],.int .i64,.sl [.int .i64,.int .i64,.int .i64,.int .i64,.int .i64,.int .i64,.int .i64,.int .i64,.int .i64,.int .i64,.int .i64,.int .i64,.int .i64,.int .i64,.int .i64,.int .i64,.int .i64,.int .i64,.int .i64,.int .i64,.int .i64,.int .i64,.int .i64,.int .i64,.int .i64,.str,.int .i64,.int .i64,.bool,.int .i64],.sl [.int .i64,.int .i64,.int .i64,.sl [.int .i64]],.sl [.int .i64,.int .i64,.int .i64,.int .i64,.bool,.bool],.sl [.bool],.int .i64,.bool,.sl [.int .i64],.sl [.int .i64,.int .i64,.int .i64,.int .i64,.int .i64,.int .i64,.int .i64,.int .i64,.int .i64],.sl [.int .i64,.int .i64,.int .i64,.int .i64,.int .i64,.int .i64,.int .i64],.str,.sl [.int .i64],.sl [.int .i64,.int .i64,.int .i64,.int .i64,.int .i64,.int .i64,.str,.bool],.bool,.sl [.str],.sl [.int .i64],.sl [.int .i64],.int .i64,.int .i64,.int .i64,.int .i64,.int .i64],true⟩],rs:=[⟨[.own 9 [.str],.own 157 [.int .i64,.int .i64,.int .i64,.bool],.imm (.int .i64),.imm (.int .i64),.imm (.int .i64),.imm (.int .i64),.imm (.int .i64),.imm (.int .i64),.imm (.int .i64),.own 3 [.int .i64],.deep 96 [.int .i64,.int .i64,.sl [.int .i64]] [3],.imm (.int .i64),.own 170 [.int .i64,.int .i64,.int .i64,.int .i64,.int .i64,.int .i64,.int .i64,.int .i64,.int .i64,.int .i64,.int .i64,.int .i64,.int .i64,.int .i64,.int .i64,.int .i64,.int .i64,.int .i64,.int .i64,.int .i64,.int .i64,.int .i64,.int .i64,.int .i64,.int .i64,.str,.int .i64,.int .i64,.bool,.int .i64],.deep 58 [.int .i64,.int .i64,.int .i64,.sl [.int .i64]] [3],.own 133 [.int .i64,.int .i64,.int .i64,.int .i64,.bool,.bool],.own 4 [.bool],.imm (.int .i64),.imm .bool,.own 3 [.int .i64],.own 221 [.int .i64,.int .i64,.int .i64,.int .i64,.int .i64,.int .i64,.int .i64,.int .i64,.int .i64],.own 242 [.int .i64,.int .i64,.int .i64,.int .i64,.int .i64,.int .i64,.int .i64],.imm .str,.own 3 [.int .i64],.own 179 [.int .i64,.int .i64,.int .i64,.int .i64,.int .i64,.int .i64,.str,.bool],.imm .bool,.own 9 [.str],.own 3 [.int .i64],.own 3 [.int .i64],.imm (.int .i64),.imm (.int .i64),.imm (.int .i64),.imm (.int .i64),.imm (.int .i64)],true⟩],fn:=fun ds=>(gH (aB.ae ds 0),aB.enc (ca (aB.ae ds 0)))}
def Sw:Ctx:=[(29,Gw),(30,qf),(31,Ei),(32,qq),(33,wE),(34,sn),(35,wF),(36,GA),(37,Cz),(38,sq),(39,mI),(40,jo),(41,C0)]
theorem akD:ai Tryz.prog Sw:=ab ad_ (ab Wk (ab aae (ab WU (ab ahF (ab ZS (ab ahJ (ab aet (ab WH (ab aaa (ab LY (ab ze (ab W2 aq))))))))))))
def Sx:List (Nat×dv):=[]
theorem akE (N:Nat) (a:aB):bg Tryz.prog Sw Sx N Tryz.f7 KP (a.enc++([]))=zk Vm.bad (fun r0=>((true,aB.enc r0):aV)) a:=by kernel_rfl
theorem ajJ:Holds Tryz.prog 7 KP:=by
 refine aa (A:=Sx) akD Tryz.func7 rfl (by kernel_rfl) (of_decide_eq_true (by kernel_rfl)) (of_decide_eq_true (by kernel_rfl)) ?_
 intro ds hw hok
 replace hw:WtL (aB.ct++([])) ds:=hw
 obtain⟨a,ds,rfl,bT,hw⟩:=aB.aZ (r:=_) hw
 obtain rfl:=of_wt_nil hw
 exact⟨0,((akE 0 a).trans (akF Vm.bad _ a bT hok)).trans (by kernel_rfl)⟩
def Fb:Sum:= {ps:=[⟨[.int .i64,.int .i64,.int .i64,.int .i64],true⟩,⟨[.int .i64,.int .i64,.int .i64,.int .i64],true⟩],rs:=[⟨[.imm .bool],false⟩],fn:=fun ds=>(same (cf.ae ds 0) (cf.ae ds 4),[.bool (cV (cf.ae ds 0) (cf.ae ds 4))])}
def Sy:Ctx:=[]
theorem akG:ai Tryz.prog Sy:=aq
def Sz:List (Nat×dv):=[]
theorem akH (N:Nat) (a:cf) (b:cf):bg Tryz.prog Sy Sz N Tryz.f101 Fb (a.enc++(b.enc++([])))=Lk (fun r0=>((true,[.bool r0]):aV)) a b:=by kernel_rfl
theorem SA:Holds Tryz.prog 101 Fb:=by
 refine aa (A:=Sz) akG Tryz.func101 rfl (by kernel_rfl) (of_decide_eq_true (by kernel_rfl)) (of_decide_eq_true (by kernel_rfl)) ?_
 intro ds hw hok
 replace hw:WtL (cf.ct++(cf.ct++([]))) ds:=hw
 obtain⟨a,ds,rfl,bT,hw⟩:=cf.aZ (r:=_) hw
 obtain⟨b,ds,rfl,lX,hw⟩:=cf.aZ (r:=_) hw
 obtain rfl:=of_wt_nil hw
 exact⟨0,((akH 0 a b).trans (akI _ a b bT lX hok)).trans (by kernel_rfl)⟩
def Ej:Sum:= {ps:=[⟨[.int .i64,.int .i64,.int .i64,.int .i64,.int .i64,.int .i64,.int .i64,.int .i64,.int .i64,.int .i64,.int .i64,.int .i64,.int .i64,.int .i64,.int .i64,.int .i64,.int .i64,.int .i64,.int .i64,.int .i64,.int .i64,.int .i64,.int .i64,.int .i64,.int .i64,.str,.int .i64,.int .i64,.bool,.int .i64],true⟩,⟨[.int .i64,.int .i64,.int .i64,.int .i64,.int .i64,.int .i64,.int .i64,.int .i64,.int .i64,.int .i64,.int .i64,.int .i64,.int .i64,.int .i64,.int .i64,.int .i64,.int .i64,.int .i64,.int .i64,.int .i64,.int .i64,.int .i64,.int .i64,.int .i64,.int .i64,.str,.int .i64,.int .i64,.bool,.int .i64],true⟩],rs:=[⟨[.imm .bool],false⟩],fn:=fun ds=>(same (aS.ae ds 0) (aS.ae ds 30),[.bool (cV (aS.ae ds 0) (aS.ae ds 30))])}
def L3:Ctx:=[(101,Fb),(164,qK),(165,Ip)]
theorem aag:ai Tryz.prog L3:=ab SA (ab KV (ab aht aq))
def L4:List (Nat×dv):=[]
theorem aah (N:Nat) (a:aS) (b:aS):bg Tryz.prog L3 L4 N Tryz.f104 Ej (a.enc++(b.enc++([])))=Ek Vm.bad (fun r0=>((true,[.bool r0]):aV)) a b:=by kernel_rfl
theorem aai:Holds Tryz.prog 104 Ej:=by
 refine aa (A:=L4) aag Tryz.func104 rfl (by kernel_rfl) (of_decide_eq_true (by kernel_rfl)) (of_decide_eq_true (by kernel_rfl)) ?_
 intro ds hw hok
 replace hw:WtL (aS.ct++(aS.ct++([]))) ds:=hw
 obtain⟨a,ds,rfl,bT,hw⟩:=aS.aZ (r:=_) hw
 obtain⟨b,ds,rfl,lX,hw⟩:=aS.aZ (r:=_) hw
 obtain rfl:=of_wt_nil hw
 exact⟨0,((aah 0 a b).trans (aaj Vm.bad _ a b bT lX hok)).trans (by kernel_rfl)⟩
def qu:Sum:= {ps:=[⟨[.sl [.int .i64,.int .i64,.int .i64,.int .i64,.int .i64,.int .i64,.int .i64,.int .i64,.int .i64,.int .i64,.int .i64,.int .i64,.int .i64,.int .i64,.int .i64,.int .i64,.int .i64,.int .i64,.int .i64,.int .i64,.int .i64,.int .i64,.int .i64,.int .i64,.int .i64,.str,.int .i64,.int .i64,.bool,.int .i64]],false⟩,⟨[.sl [.int .i64,.int .i64,.int .i64,.int .i64,.int .i64,.int .i64,.int .i64,.int .i64,.int .i64,.int .i64,.int .i64,.int .i64,.int .i64,.int .i64,.int .i64,.int .i64,.int .i64,.int .i64,.int .i64,.int .i64,.int .i64,.int .i64,.int .i64,.int .i64,.int .i64,.str,.int .i64,.int .i64,.bool,.int .i64]],false⟩],rs:=[⟨[.imm .bool],false⟩],fn:=fun ds=>(same (rR ds 0) (rR ds 1),[.bool (cV (rR ds 0) (rR ds 1))])}
def vy:Ctx:=[(104,Ej)]
theorem W4:ai Tryz.prog vy:=ab aai aq
def vz:List (Nat×dv):=[(4, {bJ:=[(0,.aU),(1,.aU),(5,.aU)],boxes:=[]})]
def gI:Bool→aV:=(fun r0=>((true,[.bool r0]):aV))
def i9 (a:Rows) (b:Rows) (i:Int):St:= {n:=27,sl:=[(0,.sl [.int .i64,.int .i64,.int .i64,.int .i64,.int .i64,.int .i64,.int .i64,.int .i64,.int .i64,.int .i64,.int .i64,.int .i64,.int .i64,.int .i64,.int .i64,.int .i64,.int .i64,.int .i64,.int .i64,.int .i64,.int .i64,.int .i64,.int .i64,.int .i64,.int .i64,.str,.int .i64,.int .i64,.bool,.int .i64] a),(1,.sl [.int .i64,.int .i64,.int .i64,.int .i64,.int .i64,.int .i64,.int .i64,.int .i64,.int .i64,.int .i64,.int .i64,.int .i64,.int .i64,.int .i64,.int .i64,.int .i64,.int .i64,.int .i64,.int .i64,.int .i64,.int .i64,.int .i64,.int .i64,.int .i64,.int .i64,.str,.int .i64,.int .i64,.bool,.int .i64] b),(5,.int .i64 i)],hp:=[],ok:=true,ls:=[],lm:=[]}
noncomputable def i_ (N:Nat):(St→aV)→St→aV:=dw Tryz.prog vy vz N Tryz.f46 qu [true,true,false,true,false] []
theorem Ua (N:Nat) (a:Rows) (b:Rows) (ih:St→aV) (i:Int):i_ N ih (i9 a b i)=nV Vm.bad gI a b (fun i=>ih (i9 a b i)) i:=by kernel_rfl
theorem Ub (N:Nat) (a:Rows) (b:Rows) (m_:Nat):(fun i=>aw (i_ N) m_ (i9 a b i))=ja Vm.bad gI N a b m_:=by
 induction m_ with
 | zero=>rfl
 | succ m_ ih=>
  funext i
  show i_ N (aw (i_ N) m_) (i9 a b i)=_
  rw[Ua N a b]
  rw[ih]
  rfl
theorem W5 (N:Nat) (a:Rows) (b:Rows):bg Tryz.prog vy vz N Tryz.f46 qu (.sl a::(.sl b::([])))=vA Vm.bad gI N a b:=by
 have cm:bg Tryz.prog vy vz N Tryz.f46 qu (.sl a::(.sl b::([])))=vB Vm.bad gI (fun i=>aw (i_ N) N (i9 a b i)) a b:=by kernel_rfl
 refine cm.trans ?_
 unfold vA
 have e0:(fun i=>aw (i_ N) N (i9 a b i))=(ja Vm.bad gI N a b N):=by
  exact Ub N a b N
 exact congrArg (fun l_=>vB Vm.bad gI l_ a b) e0
theorem W6:Holds Tryz.prog 46 qu:=by
 refine aa (A:=vz) W4 Tryz.func46 rfl (by kernel_rfl) (of_decide_eq_true (by kernel_rfl)) (of_decide_eq_true (by kernel_rfl)) ?_
 intro ds hw hok
 replace hw:WtL ((.sl [.int .i64,.int .i64,.int .i64,.int .i64,.int .i64,.int .i64,.int .i64,.int .i64,.int .i64,.int .i64,.int .i64,.int .i64,.int .i64,.int .i64,.int .i64,.int .i64,.int .i64,.int .i64,.int .i64,.int .i64,.int .i64,.int .i64,.int .i64,.int .i64,.int .i64,.str,.int .i64,.int .i64,.bool,.int .i64])::((.sl [.int .i64,.int .i64,.int .i64,.int .i64,.int .i64,.int .i64,.int .i64,.int .i64,.int .i64,.int .i64,.int .i64,.int .i64,.int .i64,.int .i64,.int .i64,.int .i64,.int .i64,.int .i64,.int .i64,.int .i64,.int .i64,.int .i64,.int .i64,.int .i64,.int .i64,.str,.int .i64,.int .i64,.bool,.int .i64])::([]))) ds:=hw
 obtain⟨a,ds,rfl,bT,hw⟩:=of_wt_sl hw
 obtain⟨b,ds,rfl,lX,hw⟩:=of_wt_sl hw
 obtain rfl:=of_wt_nil hw
 obtain⟨N,hN⟩:=W7 Vm.bad gI a b bT lX hok
 exact⟨N,((W5 N a b).trans hN).trans (by kernel_rfl)⟩
def GC:Sum:= {ps:=[⟨[.int .i64,.int .i64,.int .i64,.int .i64,.int .i64,.int .i64,.str,.bool],true⟩,⟨[.int .i64,.int .i64,.int .i64,.int .i64,.int .i64,.int .i64,.str,.bool],true⟩],rs:=[⟨[.imm .bool],false⟩],fn:=fun ds=>(same (bM.ae ds 0) (bM.ae ds 8),[.bool (cV (bM.ae ds 0) (bM.ae ds 8))])}
def NZ:Ctx:=[(168,E9)]
theorem aev:ai Tryz.prog NZ:=ab Sj aq
def N0:List (Nat×dv):=[]
theorem aew (N:Nat) (a:bM) (b:bM):bg Tryz.prog NZ N0 N Tryz.f109 GC (a.enc++(b.enc++([])))=GD Vm.bad (fun r0=>((true,[.bool r0]):aV)) a b:=by kernel_rfl
theorem aex:Holds Tryz.prog 109 GC:=by
 refine aa (A:=N0) aev Tryz.func109 rfl (by kernel_rfl) (of_decide_eq_true (by kernel_rfl)) (of_decide_eq_true (by kernel_rfl)) ?_
 intro ds hw hok
 replace hw:WtL (bM.ct++(bM.ct++([]))) ds:=hw
 obtain⟨a,ds,rfl,bT,hw⟩:=bM.aZ (r:=_) hw
 obtain⟨b,ds,rfl,lX,hw⟩:=bM.aZ (r:=_) hw
 obtain rfl:=of_wt_nil hw
 exact⟨0,((aew 0 a b).trans (aey Vm.bad _ a b bT lX hok)).trans (by kernel_rfl)⟩
def su:Sum:= {ps:=[⟨[.sl [.int .i64,.int .i64,.int .i64,.int .i64,.int .i64,.int .i64,.str,.bool]],false⟩,⟨[.sl [.int .i64,.int .i64,.int .i64,.int .i64,.int .i64,.int .i64,.str,.bool]],false⟩],rs:=[⟨[.imm .bool],false⟩],fn:=fun ds=>(same (rR ds 0) (rR ds 1),[.bool (cV (rR ds 0) (rR ds 1))])}
def yk:Ctx:=[(109,GC)]
theorem aak:ai Tryz.prog yk:=ab aex aq
def yl:List (Nat×dv):=[(4, {bJ:=[(0,.aU),(1,.aU),(5,.aU)],boxes:=[]})]
def jb:Bool→aV:=(fun r0=>((true,[.bool r0]):aV))
def kL (a:Rows) (b:Rows) (i:Int):St:= {n:=27,sl:=[(0,.sl [.int .i64,.int .i64,.int .i64,.int .i64,.int .i64,.int .i64,.str,.bool] a),(1,.sl [.int .i64,.int .i64,.int .i64,.int .i64,.int .i64,.int .i64,.str,.bool] b),(5,.int .i64 i)],hp:=[],ok:=true,ls:=[],lm:=[]}
noncomputable def kM (N:Nat):(St→aV)→St→aV:=dw Tryz.prog yk yl N Tryz.f52 su [true,true,false,true,false] []
theorem W8 (N:Nat) (a:Rows) (b:Rows) (ih:St→aV) (i:Int):kM N ih (kL a b i)=qv Vm.bad jb a b (fun i=>ih (kL a b i)) i:=by kernel_rfl
theorem W9 (N:Nat) (a:Rows) (b:Rows) (m_:Nat):(fun i=>aw (kM N) m_ (kL a b i))=kN Vm.bad jb N a b m_:=by
 induction m_ with
 | zero=>rfl
 | succ m_ ih=>
  funext i
  show kM N (aw (kM N) m_) (kL a b i)=_
  rw[W8 N a b]
  rw[ih]
  rfl
theorem aal (N:Nat) (a:Rows) (b:Rows):bg Tryz.prog yk yl N Tryz.f52 su (.sl a::(.sl b::([])))=ym Vm.bad jb N a b:=by
 have cm:bg Tryz.prog yk yl N Tryz.f52 su (.sl a::(.sl b::([])))=yn Vm.bad jb (fun i=>aw (kM N) N (kL a b i)) a b:=by kernel_rfl
 refine cm.trans ?_
 unfold ym
 have e0:(fun i=>aw (kM N) N (kL a b i))=(kN Vm.bad jb N a b N):=by
  exact W9 N a b N
 exact congrArg (fun l_=>yn Vm.bad jb l_ a b) e0
theorem aam:Holds Tryz.prog 52 su:=by
 refine aa (A:=yl) aak Tryz.func52 rfl (by kernel_rfl) (of_decide_eq_true (by kernel_rfl)) (of_decide_eq_true (by kernel_rfl)) ?_
 intro ds hw hok
 replace hw:WtL ((.sl [.int .i64,.int .i64,.int .i64,.int .i64,.int .i64,.int .i64,.str,.bool])::((.sl [.int .i64,.int .i64,.int .i64,.int .i64,.int .i64,.int .i64,.str,.bool])::([]))) ds:=hw
 obtain⟨a,ds,rfl,bT,hw⟩:=of_wt_sl hw
 obtain⟨b,ds,rfl,lX,hw⟩:=of_wt_sl hw
 obtain rfl:=of_wt_nil hw
 obtain⟨N,hN⟩:=aan Vm.bad jb a b bT lX hok
 exact⟨N,((aal N a b).trans hN).trans (by kernel_rfl)⟩
def GF:Sum:= {ps:=[⟨[.str,.sl [.int .i64]],true⟩,⟨[.str,.sl [.int .i64]],true⟩],rs:=[⟨[.imm .bool],false⟩],fn:=fun ds=>(same (aM.ae ds 0) (aM.ae ds 2),[.bool (cV (aM.ae ds 0) (aM.ae ds 2))])}
def N3:Ctx:=[(9,jq)]
theorem aez:ai Tryz.prog N3:=ab zf aq
def N4:List (Nat×dv):=[]
theorem aeA (N:Nat) (a:aM) (b:aM):bg Tryz.prog N3 N4 N Tryz.f108 GF (a.enc++(b.enc++([])))=GG Vm.bad (fun r0=>((true,[.bool r0]):aV)) a b:=by kernel_rfl
theorem aeB:Holds Tryz.prog 108 GF:=by
 refine aa (A:=N4) aez Tryz.func108 rfl (by kernel_rfl) (of_decide_eq_true (by kernel_rfl)) (of_decide_eq_true (by kernel_rfl)) ?_
 intro ds hw hok
 replace hw:WtL (aM.ct++(aM.ct++([]))) ds:=hw
 obtain⟨a,ds,rfl,bT,hw⟩:=aM.aZ (r:=_) hw
 obtain⟨b,ds,rfl,lX,hw⟩:=aM.aZ (r:=_) hw
 obtain rfl:=of_wt_nil hw
 exact⟨0,((aeA 0 a b).trans (aeC Vm.bad _ a b bT lX hok)).trans (by kernel_rfl)⟩
def C1:Sum:= {ps:=[⟨[.sl [.int .i64,.int .i64,.int .i64,.int .i64,.int .i64,.int .i64,.int .i64,.int .i64,.int .i64],.sl [.int .i64,.int .i64,.int .i64,.int .i64,.int .i64,.int .i64,.int .i64],.str,.sl [.int .i64]],true⟩,⟨[.sl [.int .i64,.int .i64,.int .i64,.int .i64,.int .i64,.int .i64,.int .i64,.int .i64,.int .i64],.sl [.int .i64,.int .i64,.int .i64,.int .i64,.int .i64,.int .i64,.int .i64],.str,.sl [.int .i64]],true⟩],rs:=[⟨[.imm .bool],false⟩],fn:=fun ds=>(same (al.ae ds 0) (al.ae ds 4),[.bool (cV (al.ae ds 0) (al.ae ds 4))])}
def J0:Ctx:=[(106,wB),(107,A1),(108,GF)]
theorem W_:ai Tryz.prog J0:=ab ahl (ab T9 (ab aeB aq))
def J1:List (Nat×dv):=[]
theorem Xa (N:Nat) (a:al) (b:al):bg Tryz.prog J0 J1 N Tryz.f51 C1 (a.enc++(b.enc++([])))=C2 Vm.bad (fun r0=>((true,[.bool r0]):aV)) a b:=by kernel_rfl
theorem Xb:Holds Tryz.prog 51 C1:=by
 refine aa (A:=J1) W_ Tryz.func51 rfl (by kernel_rfl) (of_decide_eq_true (by kernel_rfl)) (of_decide_eq_true (by kernel_rfl)) ?_
 intro ds hw hok
 replace hw:WtL (al.ct++(al.ct++([]))) ds:=hw
 obtain⟨a,ds,rfl,bT,hw⟩:=al.aZ (r:=_) hw
 obtain⟨b,ds,rfl,lX,hw⟩:=al.aZ (r:=_) hw
 obtain rfl:=of_wt_nil hw
 exact⟨0,((Xa 0 a b).trans (Xc Vm.bad _ a b bT lX hok)).trans (by kernel_rfl)⟩
def wG:Sum:= {ps:=[⟨[.sl [.bool]],false⟩,⟨[.sl [.bool]],false⟩],rs:=[⟨[.imm .bool],false⟩],fn:=fun ds=>(same (rR ds 0) (rR ds 1),[.bool (cV (rR ds 0) (rR ds 1))])}
def C3:Ctx:=[]
theorem ahL:ai Tryz.prog C3:=aq
def C4:List (Nat×dv):=[(4, {bJ:=[(0,.aU),(1,.aU),(5,.aU)],boxes:=[]})]
def nW:Bool→aV:=(fun r0=>((true,[.bool r0]):aV))
def pC (a:Rows) (b:Rows) (i:Int):St:= {n:=26,sl:=[(0,.sl [.bool] a),(1,.sl [.bool] b),(5,.int .i64 i)],hp:=[],ok:=true,ls:=[],lm:=[]}
noncomputable def pD (N:Nat):(St→aV)→St→aV:=dw Tryz.prog C3 C4 N Tryz.f49 wG [true,true,false,true,false] []
theorem aeD (N:Nat) (a:Rows) (b:Rows) (ih:St→aV) (i:Int):pD N ih (pC a b i)=uK Vm.bad nW a b (fun i=>ih (pC a b i)) i:=by kernel_rfl
theorem aeE (N:Nat) (a:Rows) (b:Rows) (m_:Nat):(fun i=>aw (pD N) m_ (pC a b i))=pE Vm.bad nW N a b m_:=by
 induction m_ with
 | zero=>rfl
 | succ m_ ih=>
  funext i
  show pD N (aw (pD N) m_) (pC a b i)=_
  rw[aeD N a b]
  rw[ih]
  rfl
theorem ahM (N:Nat) (a:Rows) (b:Rows):bg Tryz.prog C3 C4 N Tryz.f49 wG (.sl a::(.sl b::([])))=C5 Vm.bad nW N a b:=by
 have cm:bg Tryz.prog C3 C4 N Tryz.f49 wG (.sl a::(.sl b::([])))=C6 Vm.bad nW (fun i=>aw (pD N) N (pC a b i)) a b:=by kernel_rfl
 refine cm.trans ?_
 unfold C5
 have e0:(fun i=>aw (pD N) N (pC a b i))=(pE Vm.bad nW N a b N):=by
  exact aeE N a b N
 exact congrArg (fun l_=>C6 Vm.bad nW l_ a b) e0
theorem ahN:Holds Tryz.prog 49 wG:=by
 refine aa (A:=C4) ahL Tryz.func49 rfl (by kernel_rfl) (of_decide_eq_true (by kernel_rfl)) (of_decide_eq_true (by kernel_rfl)) ?_
 intro ds hw hok
 replace hw:WtL ((.sl [.bool])::((.sl [.bool])::([]))) ds:=hw
 obtain⟨a,ds,rfl,bT,hw⟩:=of_wt_sl hw
 obtain⟨b,ds,rfl,lX,hw⟩:=of_wt_sl hw
 obtain rfl:=of_wt_nil hw
 obtain⟨N,hN⟩:=ahO Vm.bad nW a b bT lX hok
 exact⟨N,((ahM N a b).trans hN).trans (by kernel_rfl)⟩
def C7:Sum:= {ps:=[⟨[.int .i64,.int .i64,.int .i64,.int .i64,.int .i64],true⟩,⟨[.int .i64,.int .i64,.int .i64,.int .i64,.int .i64],true⟩],rs:=[⟨[.imm .bool],false⟩],fn:=fun ds=>(same (bC.ae ds 0) (bC.ae ds 5),[.bool (cV (bC.ae ds 0) (bC.ae ds 5))])}
def J2:Ctx:=[]
theorem Xd:ai Tryz.prog J2:=aq
def J3:List (Nat×dv):=[]
theorem Xe (N:Nat) (a:bC) (b:bC):bg Tryz.prog J2 J3 N Tryz.f54 C7 (a.enc++(b.enc++([])))=C8 (fun r0=>((true,[.bool r0]):aV)) a b:=by kernel_rfl
theorem Xf:Holds Tryz.prog 54 C7:=by
 refine aa (A:=J3) Xd Tryz.func54 rfl (by kernel_rfl) (of_decide_eq_true (by kernel_rfl)) (of_decide_eq_true (by kernel_rfl)) ?_
 intro ds hw hok
 replace hw:WtL (bC.ct++(bC.ct++([]))) ds:=hw
 obtain⟨a,ds,rfl,bT,hw⟩:=bC.aZ (r:=_) hw
 obtain⟨b,ds,rfl,lX,hw⟩:=bC.aZ (r:=_) hw
 obtain rfl:=of_wt_nil hw
 exact⟨0,((Xe 0 a b).trans (Xg _ a b bT lX hok)).trans (by kernel_rfl)⟩
def Fc:Sum:= {ps:=[⟨[.int .i64,.int .i64,.int .i64,.sl [.int .i64]],true⟩,⟨[.int .i64,.int .i64,.int .i64,.sl [.int .i64]],true⟩],rs:=[⟨[.imm .bool],false⟩],fn:=fun ds=>(same (aJ.ae ds 0) (aJ.ae ds 4),[.bool (cV (aJ.ae ds 0) (aJ.ae ds 4))])}
def SB:Ctx:=[(9,jq)]
theorem akJ:ai Tryz.prog SB:=ab zf aq
def SC:List (Nat×dv):=[]
theorem akK (N:Nat) (a:aJ) (b:aJ):bg Tryz.prog SB SC N Tryz.f102 Fc (a.enc++(b.enc++([])))=Ll Vm.bad (fun r0=>((true,[.bool r0]):aV)) a b:=by kernel_rfl
theorem SD:Holds Tryz.prog 102 Fc:=by
 refine aa (A:=SC) akJ Tryz.func102 rfl (by kernel_rfl) (of_decide_eq_true (by kernel_rfl)) (of_decide_eq_true (by kernel_rfl)) ?_
 intro ds hw hok
 replace hw:WtL (aJ.ct++(aJ.ct++([]))) ds:=hw
 obtain⟨a,ds,rfl,bT,hw⟩:=aJ.aZ (r:=_) hw
 obtain⟨b,ds,rfl,lX,hw⟩:=aJ.aZ (r:=_) hw
 obtain rfl:=of_wt_nil hw
 exact⟨0,((akK 0 a b).trans (akL Vm.bad _ a b bT lX hok)).trans (by kernel_rfl)⟩
def wH:Sum:= {ps:=[⟨[.sl [.int .i64,.int .i64,.int .i64,.sl [.int .i64]]],false⟩,⟨[.sl [.int .i64,.int .i64,.int .i64,.sl [.int .i64]]],false⟩],rs:=[⟨[.imm .bool],false⟩],fn:=fun ds=>(same (rR ds 0) (rR ds 1),[.bool (cV (rR ds 0) (rR ds 1))])}
def C9:Ctx:=[(102,Fc)]
theorem ahP:ai Tryz.prog C9:=ab SD aq
def C_:List (Nat×dv):=[(4, {bJ:=[(0,.aU),(1,.aU),(5,.aU)],boxes:=[]})]
def nX:Bool→aV:=(fun r0=>((true,[.bool r0]):aV))
def pF (a:Rows) (b:Rows) (i:Int):St:= {n:=27,sl:=[(0,.sl [.int .i64,.int .i64,.int .i64,.sl [.int .i64]] a),(1,.sl [.int .i64,.int .i64,.int .i64,.sl [.int .i64]] b),(5,.int .i64 i)],hp:=[],ok:=true,ls:=[],lm:=[]}
noncomputable def pG (N:Nat):(St→aV)→St→aV:=dw Tryz.prog C9 C_ N Tryz.f47 wH [true,true,false,true,false] []
theorem aeF (N:Nat) (a:Rows) (b:Rows) (ih:St→aV) (i:Int):pG N ih (pF a b i)=uL Vm.bad nX a b (fun i=>ih (pF a b i)) i:=by kernel_rfl
theorem aeG (N:Nat) (a:Rows) (b:Rows) (m_:Nat):(fun i=>aw (pG N) m_ (pF a b i))=pH Vm.bad nX N a b m_:=by
 induction m_ with
 | zero=>rfl
 | succ m_ ih=>
  funext i
  show pG N (aw (pG N) m_) (pF a b i)=_
  rw[aeF N a b]
  rw[ih]
  rfl
theorem ahQ (N:Nat) (a:Rows) (b:Rows):bg Tryz.prog C9 C_ N Tryz.f47 wH (.sl a::(.sl b::([])))=Da Vm.bad nX N a b:=by
 have cm:bg Tryz.prog C9 C_ N Tryz.f47 wH (.sl a::(.sl b::([])))=Db Vm.bad nX (fun i=>aw (pG N) N (pF a b i)) a b:=by kernel_rfl
 refine cm.trans ?_
 unfold Da
 have e0:(fun i=>aw (pG N) N (pF a b i))=(pH Vm.bad nX N a b N):=by
  exact aeG N a b N
 exact congrArg (fun l_=>Db Vm.bad nX l_ a b) e0
theorem ahR:Holds Tryz.prog 47 wH:=by
 refine aa (A:=C_) ahP Tryz.func47 rfl (by kernel_rfl) (of_decide_eq_true (by kernel_rfl)) (of_decide_eq_true (by kernel_rfl)) ?_
 intro ds hw hok
 replace hw:WtL ((.sl [.int .i64,.int .i64,.int .i64,.sl [.int .i64]])::((.sl [.int .i64,.int .i64,.int .i64,.sl [.int .i64]])::([]))) ds:=hw
 obtain⟨a,ds,rfl,bT,hw⟩:=of_wt_sl hw
 obtain⟨b,ds,rfl,lX,hw⟩:=of_wt_sl hw
 obtain rfl:=of_wt_nil hw
 obtain⟨N,hN⟩:=ahS Vm.bad nX a b bT lX hok
 exact⟨N,((ahQ N a b).trans hN).trans (by kernel_rfl)⟩
def El:Sum:= {ps:=[⟨[.int .i64,.int .i64,.int .i64,.int .i64,.int .i64,.int .i64,.int .i64,.sl [.int .i64],.sl [.int .i64,.int .i64,.sl [.int .i64]],.int .i64],true⟩,⟨[.int .i64,.int .i64,.int .i64,.int .i64,.int .i64,.int .i64,.int .i64,.sl [.int .i64],.sl [.int .i64,.int .i64,.sl [.int .i64]],.int .i64],true⟩],rs:=[⟨[.imm .bool],false⟩],fn:=fun ds=>(same (au.ae ds 0) (au.ae ds 10),[.bool (cV (au.ae ds 0) (au.ae ds 10))])}
def L5:Ctx:=[(101,Fb),(102,Fc),(103,wA)]
theorem aao:ai Tryz.prog L5:=ab SA (ab SD (ab ahh aq))
def L6:List (Nat×dv):=[]
theorem aap (N:Nat) (a:au) (b:au):bg Tryz.prog L5 L6 N Tryz.f45 El (a.enc++(b.enc++([])))=Em Vm.bad (fun r0=>((true,[.bool r0]):aV)) a b:=by kernel_rfl
theorem aaq:Holds Tryz.prog 45 El:=by
 refine aa (A:=L6) aao Tryz.func45 rfl (by kernel_rfl) (of_decide_eq_true (by kernel_rfl)) (of_decide_eq_true (by kernel_rfl)) ?_
 intro ds hw hok
 replace hw:WtL (au.ct++(au.ct++([]))) ds:=hw
 obtain⟨a,ds,rfl,bT,hw⟩:=au.aZ (r:=_) hw
 obtain⟨b,ds,rfl,lX,hw⟩:=au.aZ (r:=_) hw
 obtain rfl:=of_wt_nil hw
 exact⟨0,((aap 0 a b).trans (aar Vm.bad _ a b bT lX hok)).trans (by kernel_rfl)⟩
def KR:Sum:= {ps:=[⟨[.sl [.str],.sl [.int .i64,.int .i64,.int .i64,.bool],.int .i64,.int .i64,.int .i64,.int .i64,.int .i64,.int .i64,.int .i64,.sl [.int .i64],.sl [.int .i64,.int .i64,.sl [.int .i64]],.int .i64,.sl [.int .i64,.int .i64,.int .i64,.int .i64,.int .i64,.int .i64,.int .i64,.int .i64,.int .i64,.int .i64,.int .i64,.int .i64,.int .i64,.int .i64,.int .i64,.int .i64,.int .i64,.int .i64,.int .i64,.int .i64,.int .i64,.int .i64,.int .i64,.int .i64,.int .i64,.str,.int .i64,.int .i64,.bool,.int .i64],.sl [.int .i64,.int .i64,.int .i64,.sl [.int .i64]],.sl [.int .i64,.int .i64,.int .i64,.int .i64,.bool,.bool],.sl [.bool],.int .i64,.bool,.sl [.int .i64],.sl [.int .i64,.int .i64,.int .i64,.int .i64,.int .i64,.int .i64,.int .i64,.int .i64,.int .i64],.sl [.int .i64,.int .i64,.int .i64,.int .i64,.int .i64,.int .i64,.int .i64],.str,.sl [.int .i64],.sl [.int .i64,.int .i64,.int .i64,.int .i64,.int .i64,.int .i64,.str,.bool],.bool,.sl [.str],.sl [.int .i64],.sl [.int .i64],.int .i64,.int .i64,.int .i64,.int .i64,.int .i64],true⟩,⟨[.sl [.str],.sl [.int .i64,.int .i64,.int .i64,.bool],.int .i64,.int .i64,.int .i64,.int .i64,.int .i64,.int .i64,.int .i64,.sl [.int .i64],.sl [.int .i64,.int .i64,.sl [.int .i64]],.int .i64,.sl [.int .i64,.int .i64,.int .i64,.int .i64,.int .i64,.int .i64,.int .i64,.int .i64,.int .i64,.int .i64,.int .i64,.int .i64,.int .i64,.int .i64,.int .i64,.int .i64,.int .i64,.int .i64,.int .i64,.int .i64,.int .i64,.int .i64,.int .i64,.int .i64,.int .i64,.str,.int .i64,.int .i64,.bool,.int .i64],.sl [.int .i64,.int .i64,.int .i64,.sl [.int .i64]],.sl [.int .i64,.int .i64,.int .i64,.int .i64,.bool,.bool],.sl [.bool],.int .i64,.bool,.sl [.int .i64],.sl [.int .i64,.int .i64,.int .i64,.int .i64,.int .i64,.int .i64,.int .i64,.int .i64,.int .i64],.sl [.int .i64,.int .i64,.int .i64,.int .i64,.int .i64,.int .i64,.int .i64],.str,.sl [.int .i64],.sl [.int .i64,.int .i64,.int .i64,.int .i64,.int .i64,.int .i64,.str,.bool],.bool,.sl [.str],.sl [.int .i64],.sl [.int .i64],.int .i64,.int .i64,.int .i64,.int .i64,.int .i64],true⟩],rs:=[⟨[.imm .bool],false⟩],fn:=fun ds=>(same (aB.ae ds 0) (aB.ae ds 33),[.bool (cV (aB.ae ds 0) (aB.ae ds 33))])}
def SE:Ctx:=[(9,jq),(43,Gs),(44,qo),(45,El),(46,qu),(47,wH),(48,sf),(49,wG),(50,Gq),(51,C1),(52,su),(53,mG),(54,C7)]
theorem akM:ai Tryz.prog SE:=ab zf (ab adW (ab WN (ab aaq (ab W6 (ab ahR (ab ZK (ab ahN (ab adS (ab Xb (ab aam (ab LO (ab Xf aq))))))))))))
def SF:List (Nat×dv):=[]
theorem akN (N:Nat) (a:aB) (b:aB):bg Tryz.prog SE SF N Tryz.f10 KR (a.enc++(b.enc++([])))=Lm Vm.bad (fun r0=>((true,[.bool r0]):aV)) a b:=by kernel_rfl
theorem ajK:Holds Tryz.prog 10 KR:=by
 refine aa (A:=SF) akM Tryz.func10 rfl (by kernel_rfl) (of_decide_eq_true (by kernel_rfl)) (of_decide_eq_true (by kernel_rfl)) ?_
 intro ds hw hok
 replace hw:WtL (aB.ct++(aB.ct++([]))) ds:=hw
 obtain⟨a,ds,rfl,bT,hw⟩:=aB.aZ (r:=_) hw
 obtain⟨b,ds,rfl,lX,hw⟩:=aB.aZ (r:=_) hw
 obtain rfl:=of_wt_nil hw
 exact⟨0,((akN 0 a b).trans (akO Vm.bad _ a b bT lX hok)).trans (by kernel_rfl)⟩
def eX:Sum:= {ps:=[⟨[.sl [.int .i64]],false⟩,⟨[.int .i64],false⟩],rs:=[⟨[.imm (.int .i64)],false⟩],fn:=fun ds=>(Bs 1 (rR ds 0) (rI ds 1),[.int (fl (rR ds 0) (rI ds 1)).1]++[.sl (fl (rR ds 0) (rI ds 1)).2]),ms:=[some (.rows [.flat 3]),none]}
def An:Ctx:=[]
theorem aeH:ai Tryz.prog An:=aq
def Ao:List (Nat×dv):=[(2, {bJ:=[(0,.aU),(1,.aU),(5,.aU)],boxes:=[]})]
def lu:Int→Rows→aV:=(fun r0 r1=>((true,[.int r0]++[.sl r1]):aV))
def mL (aW:Int) (i:Int) (de:Rows):St:= {n:=1099511627795,sl:=[(0,.own 640000),(1,.int .i64 aW),(5,.int .i64 i)],hp:=[(640000,.row 3 [.int .i64] de false true)],ok:=true,ls:=[],lm:=[]}
noncomputable def mM (N:Nat):(St→aV)→St→aV:=HO Tryz.prog An Ao N Tryz.f12 eX [true,false,true,false] []
theorem aas (N:Nat) (ih:St→aV) (aW:Int) (i:Int) (de:Rows):mM N ih (mL aW i de)=sw Vm.bad lu (fun aW i de=>ih (mL aW i de)) aW i de:=by kernel_rfl
theorem aat (N:Nat) (m_:Nat):(fun aW i de=>aw (mM N) m_ (mL aW i de))=mN Vm.bad lu N m_:=by
 induction m_ with
 | zero=>rfl
 | succ m_ ih=>
  funext aW i de
  show mM N (aw (mM N) m_) (mL aW i de)=_
  rw[aas N]
  rw[ih]
  rfl
theorem aeI (N:Nat) (a:Rows) (k:Int):lV Tryz.prog An Ao N Tryz.f12 eX (.sl a::(.int k::([])))=Ap Vm.bad lu N a k:=by
 have cm:lV Tryz.prog An Ao N Tryz.f12 eX (.sl a::(.int k::([])))=Aq Vm.bad lu (fun aW i de=>aw (mM N) N (mL aW i de)) a k:=by kernel_rfl
 refine cm.trans ?_
 unfold Ap
 have e0:(fun aW i de=>aw (mM N) N (mL aW i de))=(mN Vm.bad lu N N):=by
  exact aat N N
 exact congrArg (fun l_=>Aq Vm.bad lu l_ a k) e0
theorem oz:ox Tryz.prog 12 eX:=by
 refine dD (A:=Ao) aeH Tryz.func12 rfl (by kernel_rfl) (of_decide_eq_true (by kernel_rfl)) (of_decide_eq_true (by kernel_rfl)) (by kernel_rfl) (fun ds=>by kernel_rfl) ?_
 intro ds hw hok
 replace hw:WtL ((.sl [.int .i64])::((.int .i64)::([]))) ds:=hw
 obtain⟨a,ds,rfl,bT,hw⟩:=of_wt_sl hw
 obtain⟨k,ds,rfl,qX,hw⟩:=of_wt_int hw
 obtain rfl:=of_wt_nil hw
 obtain⟨N,hN⟩:=aeJ Vm.bad lu a k bT qX hok
 exact⟨N,((aeI N a k).trans hN).trans (by kernel_rfl)⟩
def eY:Sum:= {ps:=[⟨[.sl [.int .i64]],false⟩,⟨[.int .i64],false⟩],rs:=[⟨[.imm (.int .i64)],false⟩],fn:=fun ds=>(DR eN 1 (rR ds 0) (rI ds 1),[.int (ez (rR ds 0) (rI ds 1))])}
def Ar:Ctx:=[]
theorem aeK:ai Tryz.prog Ar:=aq
def As:List (Nat×dv):=[(2, {bJ:=[(0,.aU),(1,.aU),(5,.aU)],boxes:=[]})]
def lv:Int→aV:=(fun r0=>((true,[.int r0]):aV))
def mO (a:Rows) (aW:Int) (i:Int):St:= {n:=21,sl:=[(0,.sl [.int .i64] a),(1,.int .i64 aW),(5,.int .i64 i)],hp:=[],ok:=true,ls:=[],lm:=[]}
noncomputable def mP (N:Nat):(St→aV)→St→aV:=dw Tryz.prog Ar As N Tryz.f13 eY [true,false,true,false] []
theorem aau (N:Nat) (a:Rows) (ih:St→aV) (aW:Int) (i:Int):mP N ih (mO a aW i)=sA Vm.bad lv a (fun aW i=>ih (mO a aW i)) aW i:=by kernel_rfl
theorem aav (N:Nat) (a:Rows) (m_:Nat):(fun aW i=>aw (mP N) m_ (mO a aW i))=mQ Vm.bad lv N a m_:=by
 induction m_ with
 | zero=>rfl
 | succ m_ ih=>
  funext aW i
  show mP N (aw (mP N) m_) (mO a aW i)=_
  rw[aau N a]
  rw[ih]
  rfl
theorem aeL (N:Nat) (a:Rows) (k:Int):bg Tryz.prog Ar As N Tryz.f13 eY (.sl a::(.int k::([])))=Au Vm.bad lv N a k:=by
 have cm:bg Tryz.prog Ar As N Tryz.f13 eY (.sl a::(.int k::([])))=Aw Vm.bad lv (fun aW i=>aw (mP N) N (mO a aW i)) a k:=by kernel_rfl
 refine cm.trans ?_
 unfold Au
 have e0:(fun aW i=>aw (mP N) N (mO a aW i))=(mQ Vm.bad lv N a N):=by
  exact aav N a N
 exact congrArg (fun l_=>Aw Vm.bad lv l_ a k) e0
theorem oA:Holds Tryz.prog 13 eY:=by
 refine aa (A:=As) aeK Tryz.func13 rfl (by kernel_rfl) (of_decide_eq_true (by kernel_rfl)) (of_decide_eq_true (by kernel_rfl)) ?_
 intro ds hw hok
 replace hw:WtL ((.sl [.int .i64])::((.int .i64)::([]))) ds:=hw
 obtain⟨a,ds,rfl,bT,hw⟩:=of_wt_sl hw
 obtain⟨k,ds,rfl,qX,hw⟩:=of_wt_int hw
 obtain rfl:=of_wt_nil hw
 obtain⟨N,hN⟩:=aeM Vm.bad lv a k bT qX hok
 exact⟨N,((aeL N a k).trans hN).trans (by kernel_rfl)⟩
def rP:Sum:= {ps:=[⟨[.sl [.bool]],false⟩,⟨[.int .i64],false⟩],rs:=[⟨[.imm (.int .i64)],false⟩],fn:=fun ds=>(Bs 1 (rR ds 0) (rI ds 1),[.int (En (rR ds 0) (rI ds 1)).1]++[.sl (En (rR ds 0) (rI ds 1)).2]),ms:=[some (.rows [.flat 4]),none]}
def yo:Ctx:=[]
theorem aaw:ai Tryz.prog yo:=aq
def yp:List (Nat×dv):=[(2, {bJ:=[(0,.aU),(1,.aU),(5,.aU)],boxes:=[]})]
def jc:Int→Rows→aV:=(fun r0 r1=>((true,[.int r0]++[.sl r1]):aV))
def kO (aW:Int) (i:Int) (de:Rows):St:= {n:=1099511627797,sl:=[(0,.own 640000),(1,.int .i64 aW),(5,.int .i64 i)],hp:=[(640000,.row 4 [.bool] de false true)],ok:=true,ls:=[],lm:=[]}
noncomputable def kP (N:Nat):(St→aV)→St→aV:=HO Tryz.prog yo yp N Tryz.f61 rP [true,false,true,false] []
theorem Xh (N:Nat) (ih:St→aV) (aW:Int) (i:Int) (de:Rows):kP N ih (kO aW i de)=qw Vm.bad jc (fun aW i de=>ih (kO aW i de)) aW i de:=by kernel_rfl
theorem Xi (N:Nat) (m_:Nat):(fun aW i de=>aw (kP N) m_ (kO aW i de))=kQ Vm.bad jc N m_:=by
 induction m_ with
 | zero=>rfl
 | succ m_ ih=>
  funext aW i de
  show kP N (aw (kP N) m_) (kO aW i de)=_
  rw[Xh N]
  rw[ih]
  rfl
theorem aax (N:Nat) (a:Rows) (k:Int):lV Tryz.prog yo yp N Tryz.f61 rP (.sl a::(.int k::([])))=yq Vm.bad jc N a k:=by
 have cm:lV Tryz.prog yo yp N Tryz.f61 rP (.sl a::(.int k::([])))=yr Vm.bad jc (fun aW i de=>aw (kP N) N (kO aW i de)) a k:=by kernel_rfl
 refine cm.trans ?_
 unfold yq
 have e0:(fun aW i de=>aw (kP N) N (kO aW i de))=(kQ Vm.bad jc N N):=by
  exact Xi N N
 exact congrArg (fun l_=>yr Vm.bad jc l_ a k) e0
theorem Y1:ox Tryz.prog 61 rP:=by
 refine dD (A:=yp) aaw Tryz.func61 rfl (by kernel_rfl) (of_decide_eq_true (by kernel_rfl)) (of_decide_eq_true (by kernel_rfl)) (by kernel_rfl) (fun ds=>by kernel_rfl) ?_
 intro ds hw hok
 replace hw:WtL ((.sl [.bool])::((.int .i64)::([]))) ds:=hw
 obtain⟨a,ds,rfl,bT,hw⟩:=of_wt_sl hw
 obtain⟨k,ds,rfl,qX,hw⟩:=of_wt_int hw
 obtain rfl:=of_wt_nil hw
 obtain⟨N,hN⟩:=aay Vm.bad jc a k bT qX hok
 exact⟨N,((aax N a k).trans hN).trans (by kernel_rfl)⟩
def rQ:Sum:= {ps:=[⟨[.sl [.bool]],false⟩,⟨[.int .i64],false⟩],rs:=[⟨[.imm (.int .i64)],false⟩],fn:=fun ds=>(DR Dc 1 (rR ds 0) (rI ds 1),[.int (HG (rR ds 0) (rI ds 1))])}
def yt:Ctx:=[]
theorem aaz:ai Tryz.prog yt:=aq
def yu:List (Nat×dv):=[(2, {bJ:=[(0,.aU),(1,.aU),(5,.aU)],boxes:=[]})]
def jd:Int→aV:=(fun r0=>((true,[.int r0]):aV))
def kR (a:Rows) (aW:Int) (i:Int):St:= {n:=23,sl:=[(0,.sl [.bool] a),(1,.int .i64 aW),(5,.int .i64 i)],hp:=[],ok:=true,ls:=[],lm:=[]}
noncomputable def kS (N:Nat):(St→aV)→St→aV:=dw Tryz.prog yt yu N Tryz.f78 rQ [true,false,true,false] []
theorem Xj (N:Nat) (a:Rows) (ih:St→aV) (aW:Int) (i:Int):kS N ih (kR a aW i)=qx Vm.bad jd a (fun aW i=>ih (kR a aW i)) aW i:=by kernel_rfl
theorem Xk (N:Nat) (a:Rows) (m_:Nat):(fun aW i=>aw (kS N) m_ (kR a aW i))=kT Vm.bad jd N a m_:=by
 induction m_ with
 | zero=>rfl
 | succ m_ ih=>
  funext aW i
  show kS N (aw (kS N) m_) (kR a aW i)=_
  rw[Xj N a]
  rw[ih]
  rfl
theorem aaA (N:Nat) (a:Rows) (k:Int):bg Tryz.prog yt yu N Tryz.f78 rQ (.sl a::(.int k::([])))=yv Vm.bad jd N a k:=by
 have cm:bg Tryz.prog yt yu N Tryz.f78 rQ (.sl a::(.int k::([])))=yw Vm.bad jd (fun aW i=>aw (kS N) N (kR a aW i)) a k:=by kernel_rfl
 refine cm.trans ?_
 unfold yv
 have e0:(fun aW i=>aw (kS N) N (kR a aW i))=(kT Vm.bad jd N a N):=by
  exact Xk N a N
 exact congrArg (fun l_=>yw Vm.bad jd l_ a k) e0
theorem Y2:Holds Tryz.prog 78 rQ:=by
 refine aa (A:=yu) aaz Tryz.func78 rfl (by kernel_rfl) (of_decide_eq_true (by kernel_rfl)) (of_decide_eq_true (by kernel_rfl)) ?_
 intro ds hw hok
 replace hw:WtL ((.sl [.bool])::((.int .i64)::([]))) ds:=hw
 obtain⟨a,ds,rfl,bT,hw⟩:=of_wt_sl hw
 obtain⟨k,ds,rfl,qX,hw⟩:=of_wt_int hw
 obtain rfl:=of_wt_nil hw
 obtain⟨N,hN⟩:=aaB Vm.bad jd a k bT qX hok
 exact⟨N,((aaA N a k).trans hN).trans (by kernel_rfl)⟩
def eZ:Sum:= {ps:=[⟨[.int .i64],false⟩],rs:=[⟨[.imm .str],false⟩],fn:=fun ds=>(true,[.str (lN (rI ds 0))])}
def Ax:Ctx:=[]
theorem aeN:ai Tryz.prog Ax:=aq
def Ay:List (Nat×dv):=[(4, {bJ:=[(0,.aU),(3,.aU)],boxes:=[]})]
def lx:Bytes→aV:=(fun r0=>((true,[.str r0]):aV))
def mR (aW:Int) (az:Bytes):St:= {n:=20,sl:=[(0,.int .i64 aW),(3,.str az)],hp:=[],ok:=true,ls:=[],lm:=[]}
noncomputable def mS (N:Nat):(St→aV)→St→aV:=dw Tryz.prog Ax Ay N Tryz.f112 eZ [true,true,true,false,false] []
theorem aaC (N:Nat) (ih:St→aV) (aW:Int) (az:Bytes):mS N ih (mR aW az)=mT Vm.bad lx (fun aW az=>ih (mR aW az)) aW az:=by kernel_rfl
theorem aaD (N:Nat) (m_:Nat):(fun aW az=>aw (mS N) m_ (mR aW az))=mU Vm.bad lx N m_:=by
 induction m_ with
 | zero=>rfl
 | succ m_ ih=>
  funext aW az
  show mS N (aw (mS N) m_) (mR aW az)=_
  rw[aaC N]
  rw[ih]
  rfl
theorem aeO (N:Nat) (k:Int):bg Tryz.prog Ax Ay N Tryz.f112 eZ (.int k::([]))=Az Vm.bad lx N k:=by
 have cm:bg Tryz.prog Ax Ay N Tryz.f112 eZ (.int k::([]))=AA Vm.bad lx (fun aW az=>aw (mS N) N (mR aW az)) k:=by kernel_rfl
 refine cm.trans ?_
 unfold Az
 have e0:(fun aW az=>aw (mS N) N (mR aW az))=(mU Vm.bad lx N N):=by
  exact aaD N N
 exact congrArg (fun l_=>AA Vm.bad lx l_ k) e0
theorem oB:Holds Tryz.prog 112 eZ:=by
 refine aa (A:=Ay) aeN Tryz.func112 rfl (by kernel_rfl) (of_decide_eq_true (by kernel_rfl)) (of_decide_eq_true (by kernel_rfl)) ?_
 intro ds hw hok
 replace hw:WtL ((.int .i64)::([])) ds:=hw
 obtain⟨k,ds,rfl,qX,hw⟩:=of_wt_int hw
 obtain rfl:=of_wt_nil hw
 obtain⟨N,hN⟩:=aeP Vm.bad lx k qX
 exact⟨N,((aeO N k).trans hN).trans (by kernel_rfl)⟩
def iG:Sum:= {ps:=[⟨[.sl [.str]],false⟩,⟨[.int .i64],false⟩],rs:=[⟨[.imm (.int .i64)],false⟩],fn:=fun ds=>(Bs 1 (rR ds 0) (rI ds 1),[.int (lY (rR ds 0) (rI ds 1)).1]++[.sl (lY (rR ds 0) (rI ds 1)).2]),ms:=[some (.rows [.flat 9]),none]}
def tC:Ctx:=[(112,eZ)]
theorem Uc:ai Tryz.prog tC:=ab oB aq
def tD:List (Nat×dv):=[(2, {bJ:=[(0,.aU),(1,.aU),(5,.aU)],boxes:=[]})]
def fT:Int→Rows→aV:=(fun r0 r1=>((true,[.int r0]++[.sl r1]):aV))
def hE (aW:Int) (i:Int) (de:Rows):St:= {n:=1099511627796,sl:=[(0,.own 640000),(1,.int .i64 aW),(5,.int .i64 i)],hp:=[(640000,.row 9 [.str] de false true)],ok:=true,ls:=[],lm:=[]}
noncomputable def hF (N:Nat):(St→aV)→St→aV:=HO Tryz.prog tC tD N Tryz.f65 iG [true,false,true,false] []
theorem Rw (N:Nat) (ih:St→aV) (aW:Int) (i:Int) (de:Rows):hF N ih (hE aW i de)=lO Vm.bad fT (fun aW i de=>ih (hE aW i de)) aW i de:=by kernel_rfl
theorem Ry (N:Nat) (m_:Nat):(fun aW i de=>aw (hF N) m_ (hE aW i de))=hJ Vm.bad fT N m_:=by
 induction m_ with
 | zero=>rfl
 | succ m_ ih=>
  funext aW i de
  show hF N (aw (hF N) m_) (hE aW i de)=_
  rw[Rw N]
  rw[ih]
  rfl
theorem Ud (N:Nat) (a:Rows) (k:Int):lV Tryz.prog tC tD N Tryz.f65 iG (.sl a::(.int k::([])))=tE Vm.bad fT N a k:=by
 have cm:lV Tryz.prog tC tD N Tryz.f65 iG (.sl a::(.int k::([])))=tG Vm.bad fT (fun aW i de=>aw (hF N) N (hE aW i de)) a k:=by kernel_rfl
 refine cm.trans ?_
 unfold tE
 have e0:(fun aW i de=>aw (hF N) N (hE aW i de))=(hJ Vm.bad fT N N):=by
  exact Ry N N
 exact congrArg (fun l_=>tG Vm.bad fT l_ a k) e0
theorem HQ:ox Tryz.prog 65 iG:=by
 refine dD (A:=tD) Uc Tryz.func65 rfl (by kernel_rfl) (of_decide_eq_true (by kernel_rfl)) (of_decide_eq_true (by kernel_rfl)) (by kernel_rfl) (fun ds=>by kernel_rfl) ?_
 intro ds hw hok
 replace hw:WtL ((.sl [.str])::((.int .i64)::([]))) ds:=hw
 obtain⟨a,ds,rfl,bT,hw⟩:=of_wt_sl hw
 obtain⟨k,ds,rfl,qX,hw⟩:=of_wt_int hw
 obtain rfl:=of_wt_nil hw
 obtain⟨N,hN⟩:=Ue Vm.bad fT a k bT qX hok
 exact⟨N,((Ud N a k).trans hN).trans (by kernel_rfl)⟩
def iH:Sum:= {ps:=[⟨[.sl [.str]],false⟩,⟨[.int .i64],false⟩],rs:=[⟨[.imm (.int .i64)],false⟩],fn:=fun ds=>(DR gw 1 (rR ds 0) (rI ds 1),[.int (lZ (rR ds 0) (rI ds 1))])}
def tI:Ctx:=[(112,eZ)]
theorem Uf:ai Tryz.prog tI:=ab oB aq
def tJ:List (Nat×dv):=[(2, {bJ:=[(0,.aU),(1,.aU),(5,.aU)],boxes:=[]})]
def fU:Int→aV:=(fun r0=>((true,[.int r0]):aV))
def hO (a:Rows) (aW:Int) (i:Int):St:= {n:=22,sl:=[(0,.sl [.str] a),(1,.int .i64 aW),(5,.int .i64 i)],hp:=[],ok:=true,ls:=[],lm:=[]}
noncomputable def hP (N:Nat):(St→aV)→St→aV:=dw Tryz.prog tI tJ N Tryz.f82 iH [true,false,true,false] []
theorem Rz (N:Nat) (a:Rows) (ih:St→aV) (aW:Int) (i:Int):hP N ih (hO a aW i)=lP Vm.bad fU a (fun aW i=>ih (hO a aW i)) aW i:=by kernel_rfl
theorem RA (N:Nat) (a:Rows) (m_:Nat):(fun aW i=>aw (hP N) m_ (hO a aW i))=hX Vm.bad fU N a m_:=by
 induction m_ with
 | zero=>rfl
 | succ m_ ih=>
  funext aW i
  show hP N (aw (hP N) m_) (hO a aW i)=_
  rw[Rz N a]
  rw[ih]
  rfl
theorem Ug (N:Nat) (a:Rows) (k:Int):bg Tryz.prog tI tJ N Tryz.f82 iH (.sl a::(.int k::([])))=tK Vm.bad fU N a k:=by
 have cm:bg Tryz.prog tI tJ N Tryz.f82 iH (.sl a::(.int k::([])))=tL Vm.bad fU (fun aW i=>aw (hP N) N (hO a aW i)) a k:=by kernel_rfl
 refine cm.trans ?_
 unfold tK
 have e0:(fun aW i=>aw (hP N) N (hO a aW i))=(hX Vm.bad fU N a N):=by
  exact RA N a N
 exact congrArg (fun l_=>tL Vm.bad fU l_ a k) e0
theorem HR:Holds Tryz.prog 82 iH:=by
 refine aa (A:=tJ) Uf Tryz.func82 rfl (by kernel_rfl) (of_decide_eq_true (by kernel_rfl)) (of_decide_eq_true (by kernel_rfl)) ?_
 intro ds hw hok
 replace hw:WtL ((.sl [.str])::((.int .i64)::([]))) ds:=hw
 obtain⟨a,ds,rfl,bT,hw⟩:=of_wt_sl hw
 obtain⟨k,ds,rfl,qX,hw⟩:=of_wt_int hw
 obtain rfl:=of_wt_nil hw
 obtain⟨N,hN⟩:=Uh Vm.bad fU a k bT qX hok
 exact⟨N,((Ug N a k).trans hN).trans (by kernel_rfl)⟩
end
end Go.Proofs.YthpmalpdnnbkgaaGreat.Pl
