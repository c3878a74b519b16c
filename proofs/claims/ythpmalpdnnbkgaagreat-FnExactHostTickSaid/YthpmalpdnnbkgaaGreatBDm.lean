/- The contracts of functions of the program: each computes what its plain form says. Conditions: none. -/
import Derived.Test.YthpmalpdnnbkgaaGreatPDm
import Derived.Test.YthpmalpdnnbkgaaGreatRows
import Derived.Test.YthpmalpdnnbkgaaGreatBLs
set_option linter.unusedVariables false
set_option linter.unusedSimpArgs false
set_option maxRecDepth 100000
namespace Go.Proofs.YthpmalpdnnbkgaaGreat.Pl
open Vm
noncomputable section
def ry:Sum:= {ps:=[⟨[.sl [.int .i64,.int .i64,.int .i64,.sl [.int .i64]]],false⟩,⟨[.int .i64],false⟩],rs:=[⟨[.imm (.int .i64)],false⟩],fn:=fun ds=>(va fA F6 (rR ds 0) (rI ds 1),[.int (wW (rR ds 0) (rI ds 1)).1]++[.sl (wW (rR ds 0) (rI ds 1)).2]),ms:=[some (.rows [.deep 58 [3]]),none]}
def wX:Ctx:=[(1125899906842661,afN),(12,eX)]
theorem Ym:ai Tryz.prog wX:=ab RN (ab oz aq)
def wY:List (Nat×dv):=[(2, {bJ:=[(0,.aU),(1,.aU),(5,.aU)],boxes:=[]})]
def iq:Int→Rows→aV:=(fun r0 r1=>((true,[.int r0]++[.sl r1]):aV))
def jN (aW:Int) (i:Int) (de:Rows):St:= {n:=1099511627817,sl:=[(0,.own 640000),(1,.int .i64 aW),(5,.int .i64 i)],hp:=[(640000,.deep 58 [.int .i64,.int .i64,.int .i64,.sl [.int .i64]] [3] de none)],ok:=true,ls:=[],lm:=[]}
noncomputable def jO (N:Nat):(St→aV)→St→aV:=HO Tryz.prog wX wY N Tryz.f59 ry [true,false,true,false] []
theorem Vc (N:Nat) (ih:St→aV) (aW:Int) (i:Int) (de:Rows):jO N ih (jN aW i de)=pP Vm.bad iq (fun aW i de=>ih (jN aW i de)) aW i de:=by kernel_rfl
theorem Vd (N:Nat) (m_:Nat):(fun aW i de=>aw (jO N) m_ (jN aW i de))=jP Vm.bad iq N m_:=by
 induction m_ with
 | zero=>rfl
 | succ m_ ih=>
  funext aW i de
  show jO N (aw (jO N) m_) (jN aW i de)=_
  rw[Vc N]
  rw[ih]
  rfl
theorem Yn (N:Nat) (a:Rows) (k:Int):lV Tryz.prog wX wY N Tryz.f59 ry (.sl a::(.int k::([])))=wZ Vm.bad iq N a k:=by
 have cm:lV Tryz.prog wX wY N Tryz.f59 ry (.sl a::(.int k::([])))=w_ Vm.bad iq (fun aW i de=>aw (jO N) N (jN aW i de)) a k:=by kernel_rfl
 refine cm.trans ?_
 unfold wZ
 have e0:(fun aW i de=>aw (jO N) N (jN aW i de))=(jP Vm.bad iq N N):=by
  exact Vd N N
 exact congrArg (fun l_=>w_ Vm.bad iq l_ a k) e0
theorem Yo:ox Tryz.prog 59 ry:=by
 refine dD (A:=wY) Ym Tryz.func59 rfl (by kernel_rfl) (of_decide_eq_true (by kernel_rfl)) (of_decide_eq_true (by kernel_rfl)) (by kernel_rfl) (fun ds=>by kernel_rfl) ?_
 intro ds hw hok
 replace hw:WtL ((.sl [.int .i64,.int .i64,.int .i64,.sl [.int .i64]])::((.int .i64)::([]))) ds:=hw
 obtain⟨a,ds,rfl,bT,hw⟩:=of_wt_sl hw
 obtain⟨k,ds,rfl,qX,hw⟩:=of_wt_int hw
 obtain rfl:=of_wt_nil hw
 obtain⟨N,hN⟩:=Yp Vm.bad iq a k bT qX hok
 exact⟨N,((Yn N a k).trans hN).trans (by kernel_rfl)⟩
def rz:Sum:= {ps:=[⟨[.sl [.int .i64,.int .i64,.int .i64,.sl [.int .i64]]],false⟩,⟨[.int .i64],false⟩],rs:=[⟨[.imm (.int .i64)],false⟩],fn:=fun ds=>(Qo (rR ds 0) (rI ds 1),[.int (Lv (rR ds 0) (rI ds 1))])}
def xa:Ctx:=[(13,eY)]
theorem Yq:ai Tryz.prog xa:=ab oA aq
def xb:List (Nat×dv):=[(2, {bJ:=[(0,.aU),(1,.aU),(5,.aU)],boxes:=[]})]
def ir:Int→aV:=(fun r0=>((true,[.int r0]):aV))
def jQ (a:Rows) (aW:Int) (i:Int):St:= {n:=49,sl:=[(0,.sl [.int .i64,.int .i64,.int .i64,.sl [.int .i64]] a),(1,.int .i64 aW),(5,.int .i64 i)],hp:=[],ok:=true,ls:=[],lm:=[]}
noncomputable def jR (N:Nat):(St→aV)→St→aV:=dw Tryz.prog xa xb N Tryz.f76 rz [true,false,true,false] []
theorem Ve (N:Nat) (a:Rows) (ih:St→aV) (aW:Int) (i:Int):jR N ih (jQ a aW i)=pQ Vm.bad ir a (fun aW i=>ih (jQ a aW i)) aW i:=by kernel_rfl
theorem Vf (N:Nat) (a:Rows) (m_:Nat):(fun aW i=>aw (jR N) m_ (jQ a aW i))=jS Vm.bad ir N a m_:=by
 induction m_ with
 | zero=>rfl
 | succ m_ ih=>
  funext aW i
  show jR N (aw (jR N) m_) (jQ a aW i)=_
  rw[Ve N a]
  rw[ih]
  rfl
theorem Yr (N:Nat) (a:Rows) (k:Int):bg Tryz.prog xa xb N Tryz.f76 rz (.sl a::(.int k::([])))=xc Vm.bad ir N a k:=by
 have cm:bg Tryz.prog xa xb N Tryz.f76 rz (.sl a::(.int k::([])))=xd Vm.bad ir (fun aW i=>aw (jR N) N (jQ a aW i)) a k:=by kernel_rfl
 refine cm.trans ?_
 unfold xc
 have e0:(fun aW i=>aw (jR N) N (jQ a aW i))=(jS Vm.bad ir N a N):=by
  exact Vf N a N
 exact congrArg (fun l_=>xd Vm.bad ir l_ a k) e0
theorem Ys:Holds Tryz.prog 76 rz:=by
 refine aa (A:=xb) Yq Tryz.func76 rfl (by kernel_rfl) (of_decide_eq_true (by kernel_rfl)) (of_decide_eq_true (by kernel_rfl)) ?_
 intro ds hw hok
 replace hw:WtL ((.sl [.int .i64,.int .i64,.int .i64,.sl [.int .i64]])::((.int .i64)::([]))) ds:=hw
 obtain⟨a,ds,rfl,bT,hw⟩:=of_wt_sl hw
 obtain⟨k,ds,rfl,qX,hw⟩:=of_wt_int hw
 obtain rfl:=of_wt_nil hw
 obtain⟨N,hN⟩:=Yt Vm.bad ir a k bT qX hok
 exact⟨N,((Yr N a k).trans hN).trans (by kernel_rfl)⟩
def rA:Sum:= {ps:=[⟨[.sl [.int .i64,.int .i64,.sl [.int .i64]]],false⟩,⟨[.int .i64],false⟩],rs:=[⟨[.imm (.int .i64)],false⟩],fn:=fun ds=>(va fB F7 (rR ds 0) (rI ds 1),[.int (xe (rR ds 0) (rI ds 1)).1]++[.sl (xe (rR ds 0) (rI ds 1)).2]),ms:=[some (.rows [.deep 96 [3]]),none]}
def xf:Ctx:=[(1125899906842654,afN),(12,eX)]
theorem Yu:ai Tryz.prog xf:=ab RN (ab oz aq)
def xg:List (Nat×dv):=[(2, {bJ:=[(0,.aU),(1,.aU),(5,.aU)],boxes:=[]})]
def iu:Int→Rows→aV:=(fun r0 r1=>((true,[.int r0]++[.sl r1]):aV))
def jT (aW:Int) (i:Int) (de:Rows):St:= {n:=1099511627810,sl:=[(0,.own 640000),(1,.int .i64 aW),(5,.int .i64 i)],hp:=[(640000,.deep 96 [.int .i64,.int .i64,.sl [.int .i64]] [3] de none)],ok:=true,ls:=[],lm:=[]}
noncomputable def jU (N:Nat):(St→aV)→St→aV:=HO Tryz.prog xf xg N Tryz.f111 rA [true,false,true,false] []
theorem Vg (N:Nat) (ih:St→aV) (aW:Int) (i:Int) (de:Rows):jU N ih (jT aW i de)=pR Vm.bad iu (fun aW i de=>ih (jT aW i de)) aW i de:=by kernel_rfl
theorem Vh (N:Nat) (m_:Nat):(fun aW i de=>aw (jU N) m_ (jT aW i de))=jV Vm.bad iu N m_:=by
 induction m_ with
 | zero=>rfl
 | succ m_ ih=>
  funext aW i de
  show jU N (aw (jU N) m_) (jT aW i de)=_
  rw[Vg N]
  rw[ih]
  rfl
theorem Yv (N:Nat) (a:Rows) (k:Int):lV Tryz.prog xf xg N Tryz.f111 rA (.sl a::(.int k::([])))=xh Vm.bad iu N a k:=by
 have cm:lV Tryz.prog xf xg N Tryz.f111 rA (.sl a::(.int k::([])))=xi Vm.bad iu (fun aW i de=>aw (jU N) N (jT aW i de)) a k:=by kernel_rfl
 refine cm.trans ?_
 unfold xh
 have e0:(fun aW i de=>aw (jU N) N (jT aW i de))=(jV Vm.bad iu N N):=by
  exact Vh N N
 exact congrArg (fun l_=>xi Vm.bad iu l_ a k) e0
theorem Yw:ox Tryz.prog 111 rA:=by
 refine dD (A:=xg) Yu Tryz.func111 rfl (by kernel_rfl) (of_decide_eq_true (by kernel_rfl)) (of_decide_eq_true (by kernel_rfl)) (by kernel_rfl) (fun ds=>by kernel_rfl) ?_
 intro ds hw hok
 replace hw:WtL ((.sl [.int .i64,.int .i64,.sl [.int .i64]])::((.int .i64)::([]))) ds:=hw
 obtain⟨a,ds,rfl,bT,hw⟩:=of_wt_sl hw
 obtain⟨k,ds,rfl,qX,hw⟩:=of_wt_int hw
 obtain rfl:=of_wt_nil hw
 obtain⟨N,hN⟩:=Yx Vm.bad iu a k bT qX hok
 exact⟨N,((Yv N a k).trans hN).trans (by kernel_rfl)⟩
def rC:Sum:= {ps:=[⟨[.sl [.int .i64,.int .i64,.sl [.int .i64]]],false⟩,⟨[.int .i64],false⟩],rs:=[⟨[.imm (.int .i64)],false⟩],fn:=fun ds=>(Qp (rR ds 0) (rI ds 1),[.int (Lw (rR ds 0) (rI ds 1))])}
def xj:Ctx:=[(13,eY)]
theorem Yy:ai Tryz.prog xj:=ab oA aq
def xk:List (Nat×dv):=[(2, {bJ:=[(0,.aU),(1,.aU),(5,.aU)],boxes:=[]})]
def iv:Int→aV:=(fun r0=>((true,[.int r0]):aV))
def jW (a:Rows) (aW:Int) (i:Int):St:= {n:=40,sl:=[(0,.sl [.int .i64,.int .i64,.sl [.int .i64]] a),(1,.int .i64 aW),(5,.int .i64 i)],hp:=[],ok:=true,ls:=[],lm:=[]}
noncomputable def jX (N:Nat):(St→aV)→St→aV:=dw Tryz.prog xj xk N Tryz.f150 rC [true,false,true,false] []
theorem Vi (N:Nat) (a:Rows) (ih:St→aV) (aW:Int) (i:Int):jX N ih (jW a aW i)=pS Vm.bad iv a (fun aW i=>ih (jW a aW i)) aW i:=by kernel_rfl
theorem Vj (N:Nat) (a:Rows) (m_:Nat):(fun aW i=>aw (jX N) m_ (jW a aW i))=jY Vm.bad iv N a m_:=by
 induction m_ with
 | zero=>rfl
 | succ m_ ih=>
  funext aW i
  show jX N (aw (jX N) m_) (jW a aW i)=_
  rw[Vi N a]
  rw[ih]
  rfl
theorem Yz (N:Nat) (a:Rows) (k:Int):bg Tryz.prog xj xk N Tryz.f150 rC (.sl a::(.int k::([])))=xl Vm.bad iv N a k:=by
 have cm:bg Tryz.prog xj xk N Tryz.f150 rC (.sl a::(.int k::([])))=xm Vm.bad iv (fun aW i=>aw (jX N) N (jW a aW i)) a k:=by kernel_rfl
 refine cm.trans ?_
 unfold xl
 have e0:(fun aW i=>aw (jX N) N (jW a aW i))=(jY Vm.bad iv N a N):=by
  exact Vj N a N
 exact congrArg (fun l_=>xm Vm.bad iv l_ a k) e0
theorem YA:Holds Tryz.prog 150 rC:=by
 refine aa (A:=xk) Yy Tryz.func150 rfl (by kernel_rfl) (of_decide_eq_true (by kernel_rfl)) (of_decide_eq_true (by kernel_rfl)) ?_
 intro ds hw hok
 replace hw:WtL ((.sl [.int .i64,.int .i64,.sl [.int .i64]])::((.int .i64)::([]))) ds:=hw
 obtain⟨a,ds,rfl,bT,hw⟩:=of_wt_sl hw
 obtain⟨k,ds,rfl,qX,hw⟩:=of_wt_int hw
 obtain rfl:=of_wt_nil hw
 obtain⟨N,hN⟩:=YB Vm.bad iv a k bT qX hok
 exact⟨N,((Yz N a k).trans hN).trans (by kernel_rfl)⟩
def m6:Sum:= {ps:=[⟨[.sl [.int .i64,.int .i64,.int .i64,.int .i64,.int .i64,.int .i64,.str,.bool]],false⟩,⟨[.int .i64],false⟩],rs:=[⟨[.imm (.int .i64)],false⟩],fn:=fun ds=>(Bs 8 (rR ds 0) (rI ds 1),[.int (vK (rR ds 0) (rI ds 1)).1]++[.sl (vK (rR ds 0) (rI ds 1)).2]),ms:=[some (.rows [.flat 179]),none]}
def sW:Ctx:=[(112,eZ)]
theorem Ta:ai Tryz.prog sW:=ab oB aq
def sX:List (Nat×dv):=[(2, {bJ:=[(0,.aU),(1,.aU),(5,.aU)],boxes:=[]})]
def fL:Int→Rows→aV:=(fun r0 r1=>((true,[.int r0]++[.sl r1]):aV))
def gN (aW:Int) (i:Int) (de:Rows):St:= {n:=1099511627853,sl:=[(0,.own 640000),(1,.int .i64 aW),(5,.int .i64 i)],hp:=[(640000,.row 179 [.int .i64,.int .i64,.int .i64,.int .i64,.int .i64,.int .i64,.str,.bool] de false true)],ok:=true,ls:=[],lm:=[]}
noncomputable def gO (N:Nat):(St→aV)→St→aV:=HO Tryz.prog sW sX N Tryz.f64 m6 [true,false,true,false] []
theorem QI (N:Nat) (ih:St→aV) (aW:Int) (i:Int) (de:Rows):gO N ih (gN aW i de)=lF Vm.bad fL (fun aW i de=>ih (gN aW i de)) aW i de:=by kernel_rfl
theorem QJ (N:Nat) (m_:Nat):(fun aW i de=>aw (gO N) m_ (gN aW i de))=gP Vm.bad fL N m_:=by
 induction m_ with
 | zero=>rfl
 | succ m_ ih=>
  funext aW i de
  show gO N (aw (gO N) m_) (gN aW i de)=_
  rw[QI N]
  rw[ih]
  rfl
theorem Tb (N:Nat) (a:Rows) (k:Int):lV Tryz.prog sW sX N Tryz.f64 m6 (.sl a::(.int k::([])))=sY Vm.bad fL N a k:=by
 have cm:lV Tryz.prog sW sX N Tryz.f64 m6 (.sl a::(.int k::([])))=sZ Vm.bad fL (fun aW i de=>aw (gO N) N (gN aW i de)) a k:=by kernel_rfl
 refine cm.trans ?_
 unfold sY
 have e0:(fun aW i de=>aw (gO N) N (gN aW i de))=(gP Vm.bad fL N N):=by
  exact QJ N N
 exact congrArg (fun l_=>sZ Vm.bad fL l_ a k) e0
theorem Tc:ox Tryz.prog 64 m6:=by
 refine dD (A:=sX) Ta Tryz.func64 rfl (by kernel_rfl) (of_decide_eq_true (by kernel_rfl)) (of_decide_eq_true (by kernel_rfl)) (by kernel_rfl) (fun ds=>by kernel_rfl) ?_
 intro ds hw hok
 replace hw:WtL ((.sl [.int .i64,.int .i64,.int .i64,.int .i64,.int .i64,.int .i64,.str,.bool])::((.int .i64)::([]))) ds:=hw
 obtain⟨a,ds,rfl,bT,hw⟩:=of_wt_sl hw
 obtain⟨k,ds,rfl,qX,hw⟩:=of_wt_int hw
 obtain rfl:=of_wt_nil hw
 obtain⟨N,hN⟩:=Td Vm.bad fL a k bT qX hok
 exact⟨N,((Tb N a k).trans hN).trans (by kernel_rfl)⟩
def m7:Sum:= {ps:=[⟨[.sl [.int .i64,.int .i64,.int .i64,.int .i64,.int .i64,.int .i64,.str,.bool]],false⟩,⟨[.int .i64],false⟩],rs:=[⟨[.imm (.int .i64)],false⟩],fn:=fun ds=>(DR t3 8 (rR ds 0) (rI ds 1),[.int (Bd (rR ds 0) (rI ds 1))])}
def s_:Ctx:=[(112,eZ)]
theorem Te:ai Tryz.prog s_:=ab oB aq
def ta:List (Nat×dv):=[(2, {bJ:=[(0,.aU),(1,.aU),(5,.aU)],boxes:=[]})]
def fM:Int→aV:=(fun r0=>((true,[.int r0]):aV))
def gQ (a:Rows) (aW:Int) (i:Int):St:= {n:=93,sl:=[(0,.sl [.int .i64,.int .i64,.int .i64,.int .i64,.int .i64,.int .i64,.str,.bool] a),(1,.int .i64 aW),(5,.int .i64 i)],hp:=[],ok:=true,ls:=[],lm:=[]}
noncomputable def gR (N:Nat):(St→aV)→St→aV:=dw Tryz.prog s_ ta N Tryz.f81 m7 [true,false,true,false] []
theorem QK (N:Nat) (a:Rows) (ih:St→aV) (aW:Int) (i:Int):gR N ih (gQ a aW i)=lG Vm.bad fM a (fun aW i=>ih (gQ a aW i)) aW i:=by kernel_rfl
theorem QL (N:Nat) (a:Rows) (m_:Nat):(fun aW i=>aw (gR N) m_ (gQ a aW i))=gS Vm.bad fM N a m_:=by
 induction m_ with
 | zero=>rfl
 | succ m_ ih=>
  funext aW i
  show gR N (aw (gR N) m_) (gQ a aW i)=_
  rw[QK N a]
  rw[ih]
  rfl
theorem Tf (N:Nat) (a:Rows) (k:Int):bg Tryz.prog s_ ta N Tryz.f81 m7 (.sl a::(.int k::([])))=tb Vm.bad fM N a k:=by
 have cm:bg Tryz.prog s_ ta N Tryz.f81 m7 (.sl a::(.int k::([])))=tc Vm.bad fM (fun aW i=>aw (gR N) N (gQ a aW i)) a k:=by kernel_rfl
 refine cm.trans ?_
 unfold tb
 have e0:(fun aW i=>aw (gR N) N (gQ a aW i))=(gS Vm.bad fM N a N):=by
  exact QL N a N
 exact congrArg (fun l_=>tc Vm.bad fM l_ a k) e0
theorem Tg:Holds Tryz.prog 81 m7:=by
 refine aa (A:=ta) Te Tryz.func81 rfl (by kernel_rfl) (of_decide_eq_true (by kernel_rfl)) (of_decide_eq_true (by kernel_rfl)) ?_
 intro ds hw hok
 replace hw:WtL ((.sl [.int .i64,.int .i64,.int .i64,.int .i64,.int .i64,.int .i64,.str,.bool])::((.int .i64)::([]))) ds:=hw
 obtain⟨a,ds,rfl,bT,hw⟩:=of_wt_sl hw
 obtain⟨k,ds,rfl,qX,hw⟩:=of_wt_int hw
 obtain rfl:=of_wt_nil hw
 obtain⟨N,hN⟩:=Th Vm.bad fM a k bT qX hok
 exact⟨N,((Tf N a k).trans hN).trans (by kernel_rfl)⟩
def lH:Sum:= {ps:=[⟨[.sl [.int .i64,.int .i64,.int .i64,.int .i64,.int .i64,.int .i64,.int .i64,.int .i64,.int .i64,.int .i64,.int .i64,.int .i64,.int .i64,.int .i64,.int .i64,.int .i64,.int .i64,.int .i64,.int .i64,.int .i64,.int .i64,.int .i64,.int .i64,.int .i64,.int .i64,.str,.int .i64,.int .i64,.bool,.int .i64]],false⟩,⟨[.int .i64],false⟩],rs:=[⟨[.imm (.int .i64)],false⟩],fn:=fun ds=>(Bs 30 (rR ds 0) (rI ds 1),[.int (te (rR ds 0) (rI ds 1)).1]++[.sl (te (rR ds 0) (rI ds 1)).2]),ms:=[some (.rows [.flat 170]),none]}
def qY:Ctx:=[(112,eZ)]
theorem QM:ai Tryz.prog qY:=ab oB aq
def qZ:List (Nat×dv):=[(2, {bJ:=[(0,.aU),(1,.aU),(5,.aU)],boxes:=[]})]
def fq:Int→Rows→aV:=(fun r0 r1=>((true,[.int r0]++[.sl r1]):aV))
def fZ (aW:Int) (i:Int) (de:Rows):St:= {n:=1099511628054,sl:=[(0,.own 640000),(1,.int .i64 aW),(5,.int .i64 i)],hp:=[(640000,.row 170 [.int .i64,.int .i64,.int .i64,.int .i64,.int .i64,.int .i64,.int .i64,.int .i64,.int .i64,.int .i64,.int .i64,.int .i64,.int .i64,.int .i64,.int .i64,.int .i64,.int .i64,.int .i64,.int .i64,.int .i64,.int .i64,.int .i64,.int .i64,.int .i64,.int .i64,.str,.int .i64,.int .i64,.bool,.int .i64] de false true)],ok:=true,ls:=[],lm:=[]}
noncomputable def f0 (N:Nat):(St→aV)→St→aV:=HO Tryz.prog qY qZ N Tryz.f58 lH [true,false,true,false] []
theorem Oz (N:Nat) (ih:St→aV) (aW:Int) (i:Int) (de:Rows):f0 N ih (fZ aW i de)=js Vm.bad fq (fun aW i de=>ih (fZ aW i de)) aW i de:=by kernel_rfl
theorem OA (N:Nat) (m_:Nat):(fun aW i de=>aw (f0 N) m_ (fZ aW i de))=f8 Vm.bad fq N m_:=by
 induction m_ with
 | zero=>rfl
 | succ m_ ih=>
  funext aW i de
  show f0 N (aw (f0 N) m_) (fZ aW i de)=_
  rw[Oz N]
  rw[ih]
  rfl
theorem QN (N:Nat) (a:Rows) (k:Int):lV Tryz.prog qY qZ N Tryz.f58 lH (.sl a::(.int k::([])))=q_ Vm.bad fq N a k:=by
 have cm:lV Tryz.prog qY qZ N Tryz.f58 lH (.sl a::(.int k::([])))=ra Vm.bad fq (fun aW i de=>aw (f0 N) N (fZ aW i de)) a k:=by kernel_rfl
 refine cm.trans ?_
 unfold q_
 have e0:(fun aW i de=>aw (f0 N) N (fZ aW i de))=(f8 Vm.bad fq N N):=by
  exact OA N N
 exact congrArg (fun l_=>ra Vm.bad fq l_ a k) e0
theorem QO:ox Tryz.prog 58 lH:=by
 refine dD (A:=qZ) QM Tryz.func58 rfl (by kernel_rfl) (of_decide_eq_true (by kernel_rfl)) (of_decide_eq_true (by kernel_rfl)) (by kernel_rfl) (fun ds=>by kernel_rfl) ?_
 intro ds hw hok
 replace hw:WtL ((.sl [.int .i64,.int .i64,.int .i64,.int .i64,.int .i64,.int .i64,.int .i64,.int .i64,.int .i64,.int .i64,.int .i64,.int .i64,.int .i64,.int .i64,.int .i64,.int .i64,.int .i64,.int .i64,.int .i64,.int .i64,.int .i64,.int .i64,.int .i64,.int .i64,.int .i64,.str,.int .i64,.int .i64,.bool,.int .i64])::((.int .i64)::([]))) ds:=hw
 obtain⟨a,ds,rfl,bT,hw⟩:=of_wt_sl hw
 obtain⟨k,ds,rfl,qX,hw⟩:=of_wt_int hw
 obtain rfl:=of_wt_nil hw
 obtain⟨N,hN⟩:=QP Vm.bad fq a k bT qX hok
 exact⟨N,((QN N a k).trans hN).trans (by kernel_rfl)⟩
def lI:Sum:= {ps:=[⟨[.sl [.int .i64,.int .i64,.int .i64,.int .i64,.int .i64,.int .i64,.int .i64,.int .i64,.int .i64,.int .i64,.int .i64,.int .i64,.int .i64,.int .i64,.int .i64,.int .i64,.int .i64,.int .i64,.int .i64,.int .i64,.int .i64,.int .i64,.int .i64,.int .i64,.int .i64,.str,.int .i64,.int .i64,.bool,.int .i64]],false⟩,⟨[.int .i64],false⟩],rs:=[⟨[.imm (.int .i64)],false⟩],fn:=fun ds=>(DR oC 30 (rR ds 0) (rI ds 1),[.int (xn (rR ds 0) (rI ds 1))])}
def rb:Ctx:=[(112,eZ)]
theorem QQ:ai Tryz.prog rb:=ab oB aq
def re:List (Nat×dv):=[(2, {bJ:=[(0,.aU),(1,.aU),(5,.aU)],boxes:=[]})]
def ft:Int→aV:=(fun r0=>((true,[.int r0]):aV))
def f_ (a:Rows) (aW:Int) (i:Int):St:= {n:=338,sl:=[(0,.sl [.int .i64,.int .i64,.int .i64,.int .i64,.int .i64,.int .i64,.int .i64,.int .i64,.int .i64,.int .i64,.int .i64,.int .i64,.int .i64,.int .i64,.int .i64,.int .i64,.int .i64,.int .i64,.int .i64,.int .i64,.int .i64,.int .i64,.int .i64,.int .i64,.int .i64,.str,.int .i64,.int .i64,.bool,.int .i64] a),(1,.int .i64 aW),(5,.int .i64 i)],hp:=[],ok:=true,ls:=[],lm:=[]}
noncomputable def ga (N:Nat):(St→aV)→St→aV:=dw Tryz.prog rb re N Tryz.f75 lI [true,false,true,false] []
theorem OB (N:Nat) (a:Rows) (ih:St→aV) (aW:Int) (i:Int):ga N ih (f_ a aW i)=jt Vm.bad ft a (fun aW i=>ih (f_ a aW i)) aW i:=by kernel_rfl
theorem OC (N:Nat) (a:Rows) (m_:Nat):(fun aW i=>aw (ga N) m_ (f_ a aW i))=gb Vm.bad ft N a m_:=by
 induction m_ with
 | zero=>rfl
 | succ m_ ih=>
  funext aW i
  show ga N (aw (ga N) m_) (f_ a aW i)=_
  rw[OB N a]
  rw[ih]
  rfl
theorem QR (N:Nat) (a:Rows) (k:Int):bg Tryz.prog rb re N Tryz.f75 lI (.sl a::(.int k::([])))=rf Vm.bad ft N a k:=by
 have cm:bg Tryz.prog rb re N Tryz.f75 lI (.sl a::(.int k::([])))=rh Vm.bad ft (fun aW i=>aw (ga N) N (f_ a aW i)) a k:=by kernel_rfl
 refine cm.trans ?_
 unfold rf
 have e0:(fun aW i=>aw (ga N) N (f_ a aW i))=(gb Vm.bad ft N a N):=by
  exact OC N a N
 exact congrArg (fun l_=>rh Vm.bad ft l_ a k) e0
theorem QS:Holds Tryz.prog 75 lI:=by
 refine aa (A:=re) QQ Tryz.func75 rfl (by kernel_rfl) (of_decide_eq_true (by kernel_rfl)) (of_decide_eq_true (by kernel_rfl)) ?_
 intro ds hw hok
 replace hw:WtL ((.sl [.int .i64,.int .i64,.int .i64,.int .i64,.int .i64,.int .i64,.int .i64,.int .i64,.int .i64,.int .i64,.int .i64,.int .i64,.int .i64,.int .i64,.int .i64,.int .i64,.int .i64,.int .i64,.int .i64,.int .i64,.int .i64,.int .i64,.int .i64,.int .i64,.int .i64,.str,.int .i64,.int .i64,.bool,.int .i64])::((.int .i64)::([]))) ds:=hw
 obtain⟨a,ds,rfl,bT,hw⟩:=of_wt_sl hw
 obtain⟨k,ds,rfl,qX,hw⟩:=of_wt_int hw
 obtain rfl:=of_wt_nil hw
 obtain⟨N,hN⟩:=QT Vm.bad ft a k bT qX hok
 exact⟨N,((QR N a k).trans hN).trans (by kernel_rfl)⟩
def rD:Sum:= {ps:=[⟨[.sl [.int .i64,.int .i64,.int .i64,.int .i64,.int .i64,.int .i64,.int .i64,.int .i64,.int .i64]],false⟩,⟨[.int .i64],false⟩],rs:=[⟨[.imm (.int .i64)],false⟩],fn:=fun ds=>(Bs 9 (rR ds 0) (rI ds 1),[.int (xo (rR ds 0) (rI ds 1)).1]++[.sl (xo (rR ds 0) (rI ds 1)).2]),ms:=[some (.rows [.flat 221]),none]}
def xp:Ctx:=[]
theorem YC:ai Tryz.prog xp:=aq
def xq:List (Nat×dv):=[(2, {bJ:=[(0,.aU),(1,.aU),(5,.aU)],boxes:=[]})]
def iw:Int→Rows→aV:=(fun r0 r1=>((true,[.int r0]++[.sl r1]):aV))
def jZ (aW:Int) (i:Int) (de:Rows):St:= {n:=1099511627852,sl:=[(0,.own 640000),(1,.int .i64 aW),(5,.int .i64 i)],hp:=[(640000,.row 221 [.int .i64,.int .i64,.int .i64,.int .i64,.int .i64,.int .i64,.int .i64,.int .i64,.int .i64] de false true)],ok:=true,ls:=[],lm:=[]}
noncomputable def j0 (N:Nat):(St→aV)→St→aV:=HO Tryz.prog xp xq N Tryz.f113 rD [true,false,true,false] []
theorem Vk (N:Nat) (ih:St→aV) (aW:Int) (i:Int) (de:Rows):j0 N ih (jZ aW i de)=pT Vm.bad iw (fun aW i de=>ih (jZ aW i de)) aW i de:=by kernel_rfl
theorem Vl (N:Nat) (m_:Nat):(fun aW i de=>aw (j0 N) m_ (jZ aW i de))=j3 Vm.bad iw N m_:=by
 induction m_ with
 | zero=>rfl
 | succ m_ ih=>
  funext aW i de
  show j0 N (aw (j0 N) m_) (jZ aW i de)=_
  rw[Vk N]
  rw[ih]
  rfl
theorem YD (N:Nat) (a:Rows) (k:Int):lV Tryz.prog xp xq N Tryz.f113 rD (.sl a::(.int k::([])))=xr Vm.bad iw N a k:=by
 have cm:lV Tryz.prog xp xq N Tryz.f113 rD (.sl a::(.int k::([])))=xt Vm.bad iw (fun aW i de=>aw (j0 N) N (jZ aW i de)) a k:=by kernel_rfl
 refine cm.trans ?_
 unfold xr
 have e0:(fun aW i de=>aw (j0 N) N (jZ aW i de))=(j3 Vm.bad iw N N):=by
  exact Vl N N
 exact congrArg (fun l_=>xt Vm.bad iw l_ a k) e0
theorem YE:ox Tryz.prog 113 rD:=by
 refine dD (A:=xq) YC Tryz.func113 rfl (by kernel_rfl) (of_decide_eq_true (by kernel_rfl)) (of_decide_eq_true (by kernel_rfl)) (by kernel_rfl) (fun ds=>by kernel_rfl) ?_
 intro ds hw hok
 replace hw:WtL ((.sl [.int .i64,.int .i64,.int .i64,.int .i64,.int .i64,.int .i64,.int .i64,.int .i64,.int .i64])::((.int .i64)::([]))) ds:=hw
 obtain⟨a,ds,rfl,bT,hw⟩:=of_wt_sl hw
 obtain⟨k,ds,rfl,qX,hw⟩:=of_wt_int hw
 obtain rfl:=of_wt_nil hw
 obtain⟨N,hN⟩:=YF Vm.bad iw a k bT qX hok
 exact⟨N,((YD N a k).trans hN).trans (by kernel_rfl)⟩
def rE:Sum:= {ps:=[⟨[.sl [.int .i64,.int .i64,.int .i64,.int .i64,.int .i64,.int .i64,.int .i64,.int .i64,.int .i64]],false⟩,⟨[.int .i64],false⟩],rs:=[⟨[.imm (.int .i64)],false⟩],fn:=fun ds=>(DR F8 9 (rR ds 0) (rI ds 1),[.int (Be (rR ds 0) (rI ds 1))])}
def xu:Ctx:=[]
theorem YG:ai Tryz.prog xu:=aq
def xv:List (Nat×dv):=[(2, {bJ:=[(0,.aU),(1,.aU),(5,.aU)],boxes:=[]})]
def ix:Int→aV:=(fun r0=>((true,[.int r0]):aV))
def j4 (a:Rows) (aW:Int) (i:Int):St:= {n:=94,sl:=[(0,.sl [.int .i64,.int .i64,.int .i64,.int .i64,.int .i64,.int .i64,.int .i64,.int .i64,.int .i64] a),(1,.int .i64 aW),(5,.int .i64 i)],hp:=[],ok:=true,ls:=[],lm:=[]}
noncomputable def j5 (N:Nat):(St→aV)→St→aV:=dw Tryz.prog xu xv N Tryz.f151 rE [true,false,true,false] []
theorem Vn (N:Nat) (a:Rows) (ih:St→aV) (aW:Int) (i:Int):j5 N ih (j4 a aW i)=pU Vm.bad ix a (fun aW i=>ih (j4 a aW i)) aW i:=by kernel_rfl
theorem Vo (N:Nat) (a:Rows) (m_:Nat):(fun aW i=>aw (j5 N) m_ (j4 a aW i))=j6 Vm.bad ix N a m_:=by
 induction m_ with
 | zero=>rfl
 | succ m_ ih=>
  funext aW i
  show j5 N (aw (j5 N) m_) (j4 a aW i)=_
  rw[Vn N a]
  rw[ih]
  rfl
theorem YH (N:Nat) (a:Rows) (k:Int):bg Tryz.prog xu xv N Tryz.f151 rE (.sl a::(.int k::([])))=xw Vm.bad ix N a k:=by
 have cm:bg Tryz.prog xu xv N Tryz.f151 rE (.sl a::(.int k::([])))=xx Vm.bad ix (fun aW i=>aw (j5 N) N (j4 a aW i)) a k:=by kernel_rfl
 refine cm.trans ?_
 unfold xw
 have e0:(fun aW i=>aw (j5 N) N (j4 a aW i))=(j6 Vm.bad ix N a N):=by
  exact Vo N a N
 exact congrArg (fun l_=>xx Vm.bad ix l_ a k) e0
theorem YI:Holds Tryz.prog 151 rE:=by
 refine aa (A:=xv) YG Tryz.func151 rfl (by kernel_rfl) (of_decide_eq_true (by kernel_rfl)) (of_decide_eq_true (by kernel_rfl)) ?_
 intro ds hw hok
 replace hw:WtL ((.sl [.int .i64,.int .i64,.int .i64,.int .i64,.int .i64,.int .i64,.int .i64,.int .i64,.int .i64])::((.int .i64)::([]))) ds:=hw
 obtain⟨a,ds,rfl,bT,hw⟩:=of_wt_sl hw
 obtain⟨k,ds,rfl,qX,hw⟩:=of_wt_int hw
 obtain rfl:=of_wt_nil hw
 obtain⟨N,hN⟩:=YJ Vm.bad ix a k bT qX hok
 exact⟨N,((YH N a k).trans hN).trans (by kernel_rfl)⟩
def lJ:Sum:= {ps:=[⟨[.sl [.int .i64,.int .i64,.int .i64,.bool]],false⟩,⟨[.int .i64],false⟩],rs:=[⟨[.imm (.int .i64)],false⟩],fn:=fun ds=>(Bs 4 (rR ds 0) (rI ds 1),[.int (tf (rR ds 0) (rI ds 1)).1]++[.sl (tf (rR ds 0) (rI ds 1)).2]),ms:=[some (.rows [.flat 157]),none]}
def ri:Ctx:=[]
theorem QU:ai Tryz.prog ri:=aq
def rj:List (Nat×dv):=[(2, {bJ:=[(0,.aU),(1,.aU),(5,.aU)],boxes:=[]})]
def fu:Int→Rows→aV:=(fun r0 r1=>((true,[.int r0]++[.sl r1]):aV))
def gf (aW:Int) (i:Int) (de:Rows):St:= {n:=1099511627819,sl:=[(0,.own 640000),(1,.int .i64 aW),(5,.int .i64 i)],hp:=[(640000,.row 157 [.int .i64,.int .i64,.int .i64,.bool] de false true)],ok:=true,ls:=[],lm:=[]}
noncomputable def gg (N:Nat):(St→aV)→St→aV:=HO Tryz.prog ri rj N Tryz.f56 lJ [true,false,true,false] []
theorem OD (N:Nat) (ih:St→aV) (aW:Int) (i:Int) (de:Rows):gg N ih (gf aW i de)=ju Vm.bad fu (fun aW i de=>ih (gf aW i de)) aW i de:=by kernel_rfl
theorem OE (N:Nat) (m_:Nat):(fun aW i de=>aw (gg N) m_ (gf aW i de))=gh Vm.bad fu N m_:=by
 induction m_ with
 | zero=>rfl
 | succ m_ ih=>
  funext aW i de
  show gg N (aw (gg N) m_) (gf aW i de)=_
  rw[OD N]
  rw[ih]
  rfl
theorem QV (N:Nat) (a:Rows) (k:Int):lV Tryz.prog ri rj N Tryz.f56 lJ (.sl a::(.int k::([])))=rk Vm.bad fu N a k:=by
 have cm:lV Tryz.prog ri rj N Tryz.f56 lJ (.sl a::(.int k::([])))=rl Vm.bad fu (fun aW i de=>aw (gg N) N (gf aW i de)) a k:=by kernel_rfl
 refine cm.trans ?_
 unfold rk
 have e0:(fun aW i de=>aw (gg N) N (gf aW i de))=(gh Vm.bad fu N N):=by
  exact OE N N
 exact congrArg (fun l_=>rl Vm.bad fu l_ a k) e0
theorem QW:ox Tryz.prog 56 lJ:=by
 refine dD (A:=rj) QU Tryz.func56 rfl (by kernel_rfl) (of_decide_eq_true (by kernel_rfl)) (of_decide_eq_true (by kernel_rfl)) (by kernel_rfl) (fun ds=>by kernel_rfl) ?_
 intro ds hw hok
 replace hw:WtL ((.sl [.int .i64,.int .i64,.int .i64,.bool])::((.int .i64)::([]))) ds:=hw
 obtain⟨a,ds,rfl,bT,hw⟩:=of_wt_sl hw
 obtain⟨k,ds,rfl,qX,hw⟩:=of_wt_int hw
 obtain rfl:=of_wt_nil hw
 obtain⟨N,hN⟩:=QX Vm.bad fu a k bT qX hok
 exact⟨N,((QV N a k).trans hN).trans (by kernel_rfl)⟩
def lK:Sum:= {ps:=[⟨[.sl [.int .i64,.int .i64,.int .i64,.bool]],false⟩,⟨[.int .i64],false⟩],rs:=[⟨[.imm (.int .i64)],false⟩],fn:=fun ds=>(DR oD 4 (rR ds 0) (rI ds 1),[.int (xy (rR ds 0) (rI ds 1))])}
def rm:Ctx:=[]
theorem QY:ai Tryz.prog rm:=aq
def rn:List (Nat×dv):=[(2, {bJ:=[(0,.aU),(1,.aU),(5,.aU)],boxes:=[]})]
def fv:Int→aV:=(fun r0=>((true,[.int r0]):aV))
def gi (a:Rows) (aW:Int) (i:Int):St:= {n:=51,sl:=[(0,.sl [.int .i64,.int .i64,.int .i64,.bool] a),(1,.int .i64 aW),(5,.int .i64 i)],hp:=[],ok:=true,ls:=[],lm:=[]}
noncomputable def gj (N:Nat):(St→aV)→St→aV:=dw Tryz.prog rm rn N Tryz.f73 lK [true,false,true,false] []
theorem OG (N:Nat) (a:Rows) (ih:St→aV) (aW:Int) (i:Int):gj N ih (gi a aW i)=jv Vm.bad fv a (fun aW i=>ih (gi a aW i)) aW i:=by kernel_rfl
theorem OH (N:Nat) (a:Rows) (m_:Nat):(fun aW i=>aw (gj N) m_ (gi a aW i))=gk Vm.bad fv N a m_:=by
 induction m_ with
 | zero=>rfl
 | succ m_ ih=>
  funext aW i
  show gj N (aw (gj N) m_) (gi a aW i)=_
  rw[OG N a]
  rw[ih]
  rfl
theorem QZ (N:Nat) (a:Rows) (k:Int):bg Tryz.prog rm rn N Tryz.f73 lK (.sl a::(.int k::([])))=rp Vm.bad fv N a k:=by
 have cm:bg Tryz.prog rm rn N Tryz.f73 lK (.sl a::(.int k::([])))=rq Vm.bad fv (fun aW i=>aw (gj N) N (gi a aW i)) a k:=by kernel_rfl
 refine cm.trans ?_
 unfold rp
 have e0:(fun aW i=>aw (gj N) N (gi a aW i))=(gk Vm.bad fv N a N):=by
  exact OH N a N
 exact congrArg (fun l_=>rq Vm.bad fv l_ a k) e0
theorem Q_:Holds Tryz.prog 73 lK:=by
 refine aa (A:=rn) QY Tryz.func73 rfl (by kernel_rfl) (of_decide_eq_true (by kernel_rfl)) (of_decide_eq_true (by kernel_rfl)) ?_
 intro ds hw hok
 replace hw:WtL ((.sl [.int .i64,.int .i64,.int .i64,.bool])::((.int .i64)::([]))) ds:=hw
 obtain⟨a,ds,rfl,bT,hw⟩:=of_wt_sl hw
 obtain⟨k,ds,rfl,qX,hw⟩:=of_wt_int hw
 obtain rfl:=of_wt_nil hw
 obtain⟨N,hN⟩:=Ra Vm.bad fv a k bT qX hok
 exact⟨N,((QZ N a k).trans hN).trans (by kernel_rfl)⟩
def m8:Sum:= {ps:=[⟨[.sl [.int .i64,.int .i64,.int .i64,.int .i64,.bool,.bool]],false⟩,⟨[.int .i64],false⟩],rs:=[⟨[.imm (.int .i64)],false⟩],fn:=fun ds=>(Bs 6 (rR ds 0) (rI ds 1),[.int (vL (rR ds 0) (rI ds 1)).1]++[.sl (vL (rR ds 0) (rI ds 1)).2]),ms:=[some (.rows [.flat 133]),none]}
def tg:Ctx:=[]
theorem Ti:ai Tryz.prog tg:=aq
def th:List (Nat×dv):=[(2, {bJ:=[(0,.aU),(1,.aU),(5,.aU)],boxes:=[]})]
def fN:Int→Rows→aV:=(fun r0 r1=>((true,[.int r0]++[.sl r1]):aV))
def gT (aW:Int) (i:Int) (de:Rows):St:= {n:=1099511627835,sl:=[(0,.own 640000),(1,.int .i64 aW),(5,.int .i64 i)],hp:=[(640000,.row 133 [.int .i64,.int .i64,.int .i64,.int .i64,.bool,.bool] de false true)],ok:=true,ls:=[],lm:=[]}
noncomputable def gU (N:Nat):(St→aV)→St→aV:=HO Tryz.prog tg th N Tryz.f60 m8 [true,false,true,false] []
theorem Rb (N:Nat) (ih:St→aV) (aW:Int) (i:Int) (de:Rows):gU N ih (gT aW i de)=lL Vm.bad fN (fun aW i de=>ih (gT aW i de)) aW i de:=by kernel_rfl
theorem Rc (N:Nat) (m_:Nat):(fun aW i de=>aw (gU N) m_ (gT aW i de))=gV Vm.bad fN N m_:=by
 induction m_ with
 | zero=>rfl
 | succ m_ ih=>
  funext aW i de
  show gU N (aw (gU N) m_) (gT aW i de)=_
  rw[Rb N]
  rw[ih]
  rfl
theorem Tj (N:Nat) (a:Rows) (k:Int):lV Tryz.prog tg th N Tryz.f60 m8 (.sl a::(.int k::([])))=tk Vm.bad fN N a k:=by
 have cm:lV Tryz.prog tg th N Tryz.f60 m8 (.sl a::(.int k::([])))=tl Vm.bad fN (fun aW i de=>aw (gU N) N (gT aW i de)) a k:=by kernel_rfl
 refine cm.trans ?_
 unfold tk
 have e0:(fun aW i de=>aw (gU N) N (gT aW i de))=(gV Vm.bad fN N N):=by
  exact Rc N N
 exact congrArg (fun l_=>tl Vm.bad fN l_ a k) e0
theorem Tk:ox Tryz.prog 60 m8:=by
 refine dD (A:=th) Ti Tryz.func60 rfl (by kernel_rfl) (of_decide_eq_true (by kernel_rfl)) (of_decide_eq_true (by kernel_rfl)) (by kernel_rfl) (fun ds=>by kernel_rfl) ?_
 intro ds hw hok
 replace hw:WtL ((.sl [.int .i64,.int .i64,.int .i64,.int .i64,.bool,.bool])::((.int .i64)::([]))) ds:=hw
 obtain⟨a,ds,rfl,bT,hw⟩:=of_wt_sl hw
 obtain⟨k,ds,rfl,qX,hw⟩:=of_wt_int hw
 obtain rfl:=of_wt_nil hw
 obtain⟨N,hN⟩:=Tl Vm.bad fN a k bT qX hok
 exact⟨N,((Tj N a k).trans hN).trans (by kernel_rfl)⟩
def m9:Sum:= {ps:=[⟨[.sl [.int .i64,.int .i64,.int .i64,.int .i64,.bool,.bool]],false⟩,⟨[.int .i64],false⟩],rs:=[⟨[.imm (.int .i64)],false⟩],fn:=fun ds=>(DR t5 6 (rR ds 0) (rI ds 1),[.int (Bf (rR ds 0) (rI ds 1))])}
def tn:Ctx:=[]
theorem Tm:ai Tryz.prog tn:=aq
def tq:List (Nat×dv):=[(2, {bJ:=[(0,.aU),(1,.aU),(5,.aU)],boxes:=[]})]
def fO:Int→aV:=(fun r0=>((true,[.int r0]):aV))
def gW (a:Rows) (aW:Int) (i:Int):St:= {n:=71,sl:=[(0,.sl [.int .i64,.int .i64,.int .i64,.int .i64,.bool,.bool] a),(1,.int .i64 aW),(5,.int .i64 i)],hp:=[],ok:=true,ls:=[],lm:=[]}
noncomputable def gX (N:Nat):(St→aV)→St→aV:=dw Tryz.prog tn tq N Tryz.f77 m9 [true,false,true,false] []
theorem Rd (N:Nat) (a:Rows) (ih:St→aV) (aW:Int) (i:Int):gX N ih (gW a aW i)=lM Vm.bad fO a (fun aW i=>ih (gW a aW i)) aW i:=by kernel_rfl
theorem Re (N:Nat) (a:Rows) (m_:Nat):(fun aW i=>aw (gX N) m_ (gW a aW i))=gY Vm.bad fO N a m_:=by
 induction m_ with
 | zero=>rfl
 | succ m_ ih=>
  funext aW i
  show gX N (aw (gX N) m_) (gW a aW i)=_
  rw[Rd N a]
  rw[ih]
  rfl
theorem Tn (N:Nat) (a:Rows) (k:Int):bg Tryz.prog tn tq N Tryz.f77 m9 (.sl a::(.int k::([])))=tr Vm.bad fO N a k:=by
 have cm:bg Tryz.prog tn tq N Tryz.f77 m9 (.sl a::(.int k::([])))=tu Vm.bad fO (fun aW i=>aw (gX N) N (gW a aW i)) a k:=by kernel_rfl
 refine cm.trans ?_
 unfold tr
 have e0:(fun aW i=>aw (gX N) N (gW a aW i))=(gY Vm.bad fO N a N):=by
  exact Re N a N
 exact congrArg (fun l_=>tu Vm.bad fO l_ a k) e0
theorem To:Holds Tryz.prog 77 m9:=by
 refine aa (A:=tq) Tm Tryz.func77 rfl (by kernel_rfl) (of_decide_eq_true (by kernel_rfl)) (of_decide_eq_true (by kernel_rfl)) ?_
 intro ds hw hok
 replace hw:WtL ((.sl [.int .i64,.int .i64,.int .i64,.int .i64,.bool,.bool])::((.int .i64)::([]))) ds:=hw
 obtain⟨a,ds,rfl,bT,hw⟩:=of_wt_sl hw
 obtain⟨k,ds,rfl,qX,hw⟩:=of_wt_int hw
 obtain rfl:=of_wt_nil hw
 obtain⟨N,hN⟩:=Tp Vm.bad fO a k bT qX hok
 exact⟨N,((Tn N a k).trans hN).trans (by kernel_rfl)⟩
def rF:Sum:= {ps:=[⟨[.sl [.int .i64,.int .i64,.int .i64,.int .i64,.int .i64,.int .i64,.int .i64]],false⟩,⟨[.int .i64],false⟩],rs:=[⟨[.imm (.int .i64)],false⟩],fn:=fun ds=>(Bs 7 (rR ds 0) (rI ds 1),[.int (Bg (rR ds 0) (rI ds 1)).1]++[.sl (Bg (rR ds 0) (rI ds 1)).2]),ms:=[some (.rows [.flat 242]),none]}
def xz:Ctx:=[]
theorem YK:ai Tryz.prog xz:=aq
def xA:List (Nat×dv):=[(2, {bJ:=[(0,.aU),(1,.aU),(5,.aU)],boxes:=[]})]
def iy:Int→Rows→aV:=(fun r0 r1=>((true,[.int r0]++[.sl r1]):aV))
def j7 (aW:Int) (i:Int) (de:Rows):St:= {n:=1099511627843,sl:=[(0,.own 640000),(1,.int .i64 aW),(5,.int .i64 i)],hp:=[(640000,.row 242 [.int .i64,.int .i64,.int .i64,.int .i64,.int .i64,.int .i64,.int .i64] de false true)],ok:=true,ls:=[],lm:=[]}
noncomputable def j8 (N:Nat):(St→aV)→St→aV:=HO Tryz.prog xz xA N Tryz.f169 rF [true,false,true,false] []
theorem Vp (N:Nat) (ih:St→aV) (aW:Int) (i:Int) (de:Rows):j8 N ih (j7 aW i de)=pV Vm.bad iy (fun aW i de=>ih (j7 aW i de)) aW i de:=by kernel_rfl
theorem Vq (N:Nat) (m_:Nat):(fun aW i de=>aw (j8 N) m_ (j7 aW i de))=j9 Vm.bad iy N m_:=by
 induction m_ with
 | zero=>rfl
 | succ m_ ih=>
  funext aW i de
  show j8 N (aw (j8 N) m_) (j7 aW i de)=_
  rw[Vp N]
  rw[ih]
  rfl
theorem YL (N:Nat) (a:Rows) (k:Int):lV Tryz.prog xz xA N Tryz.f169 rF (.sl a::(.int k::([])))=xB Vm.bad iy N a k:=by
 have cm:lV Tryz.prog xz xA N Tryz.f169 rF (.sl a::(.int k::([])))=xC Vm.bad iy (fun aW i de=>aw (j8 N) N (j7 aW i de)) a k:=by kernel_rfl
 refine cm.trans ?_
 unfold xB
 have e0:(fun aW i de=>aw (j8 N) N (j7 aW i de))=(j9 Vm.bad iy N N):=by
  exact Vq N N
 exact congrArg (fun l_=>xC Vm.bad iy l_ a k) e0
theorem YM:ox Tryz.prog 169 rF:=by
 refine dD (A:=xA) YK Tryz.func169 rfl (by kernel_rfl) (of_decide_eq_true (by kernel_rfl)) (of_decide_eq_true (by kernel_rfl)) (by kernel_rfl) (fun ds=>by kernel_rfl) ?_
 intro ds hw hok
 replace hw:WtL ((.sl [.int .i64,.int .i64,.int .i64,.int .i64,.int .i64,.int .i64,.int .i64])::((.int .i64)::([]))) ds:=hw
 obtain⟨a,ds,rfl,bT,hw⟩:=of_wt_sl hw
 obtain⟨k,ds,rfl,qX,hw⟩:=of_wt_int hw
 obtain rfl:=of_wt_nil hw
 obtain⟨N,hN⟩:=YN Vm.bad iy a k bT qX hok
 exact⟨N,((YL N a k).trans hN).trans (by kernel_rfl)⟩
def rG:Sum:= {ps:=[⟨[.sl [.int .i64,.int .i64,.int .i64,.int .i64,.int .i64,.int .i64,.int .i64]],false⟩,⟨[.int .i64],false⟩],rs:=[⟨[.imm (.int .i64)],false⟩],fn:=fun ds=>(DR F9 7 (rR ds 0) (rI ds 1),[.int (D3 (rR ds 0) (rI ds 1))])}
def xD:Ctx:=[]
theorem YO:ai Tryz.prog xD:=aq
def xE:List (Nat×dv):=[(2, {bJ:=[(0,.aU),(1,.aU),(5,.aU)],boxes:=[]})]
def iz:Int→aV:=(fun r0=>((true,[.int r0]):aV))
def j_ (a:Rows) (aW:Int) (i:Int):St:= {n:=81,sl:=[(0,.sl [.int .i64,.int .i64,.int .i64,.int .i64,.int .i64,.int .i64,.int .i64] a),(1,.int .i64 aW),(5,.int .i64 i)],hp:=[],ok:=true,ls:=[],lm:=[]}
noncomputable def ka (N:Nat):(St→aV)→St→aV:=dw Tryz.prog xD xE N Tryz.f191 rG [true,false,true,false] []
theorem Vr (N:Nat) (a:Rows) (ih:St→aV) (aW:Int) (i:Int):ka N ih (j_ a aW i)=pW Vm.bad iz a (fun aW i=>ih (j_ a aW i)) aW i:=by kernel_rfl
theorem Vs (N:Nat) (a:Rows) (m_:Nat):(fun aW i=>aw (ka N) m_ (j_ a aW i))=kc Vm.bad iz N a m_:=by
 induction m_ with
 | zero=>rfl
 | succ m_ ih=>
  funext aW i
  show ka N (aw (ka N) m_) (j_ a aW i)=_
  rw[Vr N a]
  rw[ih]
  rfl
theorem YP (N:Nat) (a:Rows) (k:Int):bg Tryz.prog xD xE N Tryz.f191 rG (.sl a::(.int k::([])))=xF Vm.bad iz N a k:=by
 have cm:bg Tryz.prog xD xE N Tryz.f191 rG (.sl a::(.int k::([])))=xG Vm.bad iz (fun aW i=>aw (ka N) N (j_ a aW i)) a k:=by kernel_rfl
 refine cm.trans ?_
 unfold xF
 have e0:(fun aW i=>aw (ka N) N (j_ a aW i))=(kc Vm.bad iz N a N):=by
  exact Vs N a N
 exact congrArg (fun l_=>xG Vm.bad iz l_ a k) e0
theorem YQ:Holds Tryz.prog 191 rG:=by
 refine aa (A:=xE) YO Tryz.func191 rfl (by kernel_rfl) (of_decide_eq_true (by kernel_rfl)) (of_decide_eq_true (by kernel_rfl)) ?_
 intro ds hw hok
 replace hw:WtL ((.sl [.int .i64,.int .i64,.int .i64,.int .i64,.int .i64,.int .i64,.int .i64])::((.int .i64)::([]))) ds:=hw
 obtain⟨a,ds,rfl,bT,hw⟩:=of_wt_sl hw
 obtain⟨k,ds,rfl,qX,hw⟩:=of_wt_int hw
 obtain rfl:=of_wt_nil hw
 obtain⟨N,hN⟩:=YR Vm.bad iz a k bT qX hok
 exact⟨N,((YP N a k).trans hN).trans (by kernel_rfl)⟩
end
end Go.Proofs.YthpmalpdnnbkgaaGreat.Pl
