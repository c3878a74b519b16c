/- The contracts of functions of the program: each computes what its plain form says. Conditions: none. -/
import Derived.Test.YthpmalpdnnbkgaaGreatPSx
import Derived.Test.YthpmalpdnnbkgaaGreatRows
import Derived.Test.YthpmalpdnnbkgaaGreatBBa
set_option linter.unusedVariables false
set_option linter.unusedSimpArgs false
set_option maxRecDepth 100000
namespace Go.Proofs.YthpmalpdnnbkgaaGreat.Pl
open Vm
noncomputable section
def Es:Sum:= {ps:=[⟨[.int .i64,.int .i64,.int .i64,.int .i64,.int .i64,.int .i64,.int .i64,.str],true⟩],rs:=[⟨[.imm .bool],false⟩],fn:=fun ds=>(true,[.bool (uW (bk.ae ds 0))])}
def L9:Ctx:=[(143,dI)]
theorem aaL:ai Tryz.prog L9:=ab dX aq
def L_:List (Nat×dv):=[]
theorem aaM (N:Nat) (g:bk):bg Tryz.prog L9 L_ N Tryz.f205 Es (g.enc++([]))=sK (fun r0=>((true,[.bool r0]):aV)) g:=by kernel_rfl
theorem aaN:Holds Tryz.prog 205 Es:=by
 refine aa (A:=L_) aaL Tryz.func205 rfl (by kernel_rfl) (of_decide_eq_true (by kernel_rfl)) (of_decide_eq_true (by kernel_rfl)) ?_
 intro ds hw hok
 replace hw:WtL (bk.ct++([])) ds:=hw
 obtain⟨g,ds,rfl,h_g,hw⟩:=bk.aZ (r:=_) hw
 obtain rfl:=of_wt_nil hw
 exact⟨0,((aaM 0 g).trans (aaO _ g)).trans (by kernel_rfl)⟩
def Et:Sum:= {ps:=[⟨[.int .i64,.int .i64,.int .i64,.int .i64,.int .i64,.int .i64,.int .i64,.str],true⟩],rs:=[⟨[.imm .bool],false⟩],fn:=fun ds=>(true,[.bool (uW (bk.ae ds 0))])}
def Ma:Ctx:=[(125,d9)]
theorem aaP:ai Tryz.prog Ma:=ab eE aq
def Mb:List (Nat×dv):=[]
theorem aaQ (N:Nat) (g:bk):bg Tryz.prog Ma Mb N Tryz.f202 Et (g.enc++([]))=Eu (fun r0=>((true,[.bool r0]):aV)) g:=by kernel_rfl
theorem aaR:Holds Tryz.prog 202 Et:=by
 refine aa (A:=Mb) aaP Tryz.func202 rfl (by kernel_rfl) (of_decide_eq_true (by kernel_rfl)) (of_decide_eq_true (by kernel_rfl)) ?_
 intro ds hw hok
 replace hw:WtL (bk.ct++([])) ds:=hw
 obtain⟨g,ds,rfl,h_g,hw⟩:=bk.aZ (r:=_) hw
 obtain rfl:=of_wt_nil hw
 exact⟨0,((aaQ 0 g).trans (aaS _ g h_g)).trans (by kernel_rfl)⟩
def Ev:Sum:= {ps:=[⟨[.int .i64],false⟩],rs:=[⟨[.imm .bool],false⟩],fn:=fun ds=>(true,[.bool (HH (rI ds 0))])}
def Mc:Ctx:=[]
theorem aaT:ai Tryz.prog Mc:=aq
def Md:List (Nat×dv):=[]
theorem aaU (N:Nat) (flags:Int):bg Tryz.prog Mc Md N Tryz.f206 Ev (.int flags::([]))=Ew (fun r0=>((true,[.bool r0]):aV)) flags:=by kernel_rfl
theorem aaV:Holds Tryz.prog 206 Ev:=by
 refine aa (A:=Md) aaT Tryz.func206 rfl (by kernel_rfl) (of_decide_eq_true (by kernel_rfl)) (of_decide_eq_true (by kernel_rfl)) ?_
 intro ds hw hok
 replace hw:WtL ((.int .i64)::([])) ds:=hw
 obtain⟨flags,ds,rfl,atD,hw⟩:=of_wt_int hw
 obtain rfl:=of_wt_nil hw
 exact⟨0,((aaU 0 flags).trans (aaW _ flags)).trans (by kernel_rfl)⟩
def Iz:Sum:= {ps:=[⟨[.int .i64,.int .i64,.int .i64,.int .i64,.int .i64,.int .i64,.int .i64,.int .i64,.int .i64,.int .i64,.int .i64,.int .i64,.int .i64,.int .i64,.int .i64,.str],true⟩],rs:=[⟨[.imm .bool],false⟩],fn:=fun ds=>(true,[.bool (MP (bG.ae ds 0))])}
def Pz:Ctx:=[(143,dI),(205,Es),(206,Ev)]
theorem aio:ai Tryz.prog Pz:=ab dX (ab aaN (ab aaV aq))
def PA:List (Nat×dv):=[]
theorem aip (N:Nat) (p:bG):bg Tryz.prog Pz PA N Tryz.f186 Iz (p.enc++([]))=Dm (fun r0=>((true,[.bool r0]):aV)) p:=by kernel_rfl
theorem ah9:Holds Tryz.prog 186 Iz:=by
 refine aa (A:=PA) aio Tryz.func186 rfl (by kernel_rfl) (of_decide_eq_true (by kernel_rfl)) (of_decide_eq_true (by kernel_rfl)) ?_
 intro ds hw hok
 replace hw:WtL (bG.ct++([])) ds:=hw
 obtain⟨p,ds,rfl,h_p,hw⟩:=bG.aZ (r:=_) hw
 obtain rfl:=of_wt_nil hw
 exact⟨0,((aip 0 p).trans (aiq _ p)).trans (by kernel_rfl)⟩
def IA:Sum:= {ps:=[⟨[.int .i64,.int .i64,.int .i64,.int .i64,.int .i64,.int .i64,.int .i64,.int .i64,.int .i64,.int .i64,.int .i64,.int .i64,.int .i64,.int .i64,.int .i64,.str],true⟩],rs:=[⟨[.imm .bool],false⟩],fn:=fun ds=>(true,[.bool (MP (bG.ae ds 0))])}
def PB:Ctx:=[(125,d9),(202,Et)]
theorem air:ai Tryz.prog PB:=ab eE (ab aaR aq)
def PC:List (Nat×dv):=[]
theorem ais (N:Nat) (p:bG):bg Tryz.prog PB PC N Tryz.f177 IA (p.enc++([]))=IH (fun r0=>((true,[.bool r0]):aV)) p:=by kernel_rfl
theorem ah_:Holds Tryz.prog 177 IA:=by
 refine aa (A:=PC) air Tryz.func177 rfl (by kernel_rfl) (of_decide_eq_true (by kernel_rfl)) (of_decide_eq_true (by kernel_rfl)) ?_
 intro ds hw hok
 replace hw:WtL (bG.ct++([])) ds:=hw
 obtain⟨p,ds,rfl,h_p,hw⟩:=bG.aZ (r:=_) hw
 obtain rfl:=of_wt_nil hw
 exact⟨0,((ais 0 p).trans (ait _ p h_p)).trans (by kernel_rfl)⟩
end
end Go.Proofs.YthpmalpdnnbkgaaGreat.Pl
