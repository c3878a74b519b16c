/- The contracts of functions of the program: each computes what its plain form says. Conditions: none. -/
import Derived.Test.YthpmalpdnnbkgaaGreatPRg
import Derived.Test.YthpmalpdnnbkgaaGreatRows
import Derived.Test.YthpmalpdnnbkgaaGreatBMo
set_option linter.unusedVariables false
set_option linter.unusedSimpArgs false
set_option maxRecDepth 100000
namespace Go.Proofs.YthpmalpdnnbkgaaGreat.Pl
open Vm
noncomputable section
def uM:Sum:= {ps:=[⟨[.int .i64],false⟩],rs:=[⟨[.imm .bool],false⟩],fn:=fun ds=>(true,[.bool (jG (rI ds 0))])}
def N5:Ctx:=[]
theorem aeW:ai Tryz.prog N5:=aq
def N6:List (Nat×dv):=[]
theorem aeX (N:Nat) (n:Int):bg Tryz.prog N5 N6 N Tryz.f203 uM (.int n::([]))=AM (fun r0=>((true,[.bool r0]):aV)) n:=by kernel_rfl
theorem GH:Holds Tryz.prog 203 uM:=by
 refine aa (A:=N6) aeW Tryz.func203 rfl (by kernel_rfl) (of_decide_eq_true (by kernel_rfl)) (of_decide_eq_true (by kernel_rfl)) ?_
 intro ds hw hok
 replace hw:WtL ((.int .i64)::([])) ds:=hw
 obtain⟨n,ds,rfl,h_n,hw⟩:=of_wt_int hw
 obtain rfl:=of_wt_nil hw
 exact⟨0,((aeX 0 n).trans (aeY _ n)).trans (by kernel_rfl)⟩
def wJ:Sum:= {ps:=[⟨[.int .i64],false⟩],rs:=[⟨[.imm .bool],false⟩],fn:=fun ds=>(true,[.bool (jG (rI ds 0))])}
def Pk:Ctx:=[]
theorem ahT:ai Tryz.prog Pk:=aq
def Pm:List (Nat×dv):=[]
theorem ahU (N:Nat) (n:Int):bg Tryz.prog Pk Pm N Tryz.f197 wJ (.int n::([]))=Pn (fun r0=>((true,[.bool r0]):aV)) n:=by kernel_rfl
theorem Iv:Holds Tryz.prog 197 wJ:=by
 refine aa (A:=Pm) ahT Tryz.func197 rfl (by kernel_rfl) (of_decide_eq_true (by kernel_rfl)) (of_decide_eq_true (by kernel_rfl)) ?_
 intro ds hw hok
 replace hw:WtL ((.int .i64)::([])) ds:=hw
 obtain⟨n,ds,rfl,h_n,hw⟩:=of_wt_int hw
 obtain rfl:=of_wt_nil hw
 exact⟨0,((ahU 0 n).trans (ahV _ n h_n)).trans (by kernel_rfl)⟩
def D4:Sum:= {ps:=[⟨[.int .i64],false⟩],rs:=[⟨[.imm .bool],false⟩],fn:=fun ds=>(true,[.bool (Eo (rI ds 0))])}
def L7:Ctx:=[]
theorem aaI:ai Tryz.prog L7:=aq
def L8:List (Nat×dv):=[]
theorem aaJ (N:Nat) (n:Int):bg Tryz.prog L7 L8 N Tryz.f210 D4 (.int n::([]))=Ep (fun r0=>((true,[.bool r0]):aV)) n:=by kernel_rfl
theorem YW:Holds Tryz.prog 210 D4:=by
 refine aa (A:=L8) aaI Tryz.func210 rfl (by kernel_rfl) (of_decide_eq_true (by kernel_rfl)) (of_decide_eq_true (by kernel_rfl)) ?_
 intro ds hw hok
 replace hw:WtL ((.int .i64)::([])) ds:=hw
 obtain⟨n,ds,rfl,h_n,hw⟩:=of_wt_int hw
 obtain rfl:=of_wt_nil hw
 exact⟨0,((aaJ 0 n).trans (aaK _ n)).trans (by kernel_rfl)⟩
def HP:Sum:= {ps:=[⟨[.int .i64],false⟩],rs:=[⟨[.imm .bool],false⟩],fn:=fun ds=>(true,[.bool (Eo (rI ds 0))])}
def Po:Ctx:=[]
theorem ahW:ai Tryz.prog Po:=aq
def Pp:List (Nat×dv):=[]
theorem ahX (N:Nat) (n:Int):bg Tryz.prog Po Pp N Tryz.f201 HP (.int n::([]))=Pq (fun r0=>((true,[.bool r0]):aV)) n:=by kernel_rfl
theorem af2:Holds Tryz.prog 201 HP:=by
 refine aa (A:=Pp) ahW Tryz.func201 rfl (by kernel_rfl) (of_decide_eq_true (by kernel_rfl)) (of_decide_eq_true (by kernel_rfl)) ?_
 intro ds hw hok
 replace hw:WtL ((.int .i64)::([])) ds:=hw
 obtain⟨n,ds,rfl,h_n,hw⟩:=of_wt_int hw
 obtain rfl:=of_wt_nil hw
 exact⟨0,((ahX 0 n).trans (ahY _ n h_n)).trans (by kernel_rfl)⟩
def EK:Sum:= {ps:=[⟨[.int .i64],false⟩,⟨[.int .i64],false⟩],rs:=[⟨[.imm (.int .i64)],false⟩],fn:=fun ds=>(Bi (rI ds 0) (rI ds 1),[.int (MO (rI ds 0) (rI ds 1))])}
def SG:Ctx:=[]
theorem akP:ai Tryz.prog SG:=aq
def SH:List (Nat×dv):=[]
theorem akQ (N:Nat) (x:Int) (n:Int):bg Tryz.prog SG SH N Tryz.f215 EK (.int x::(.int n::([])))=uV Vm.bad (fun r0=>((true,[.int r0]):aV)) x n:=by kernel_rfl
theorem RO:Holds Tryz.prog 215 EK:=by
 refine aa (A:=SH) akP Tryz.func215 rfl (by kernel_rfl) (of_decide_eq_true (by kernel_rfl)) (of_decide_eq_true (by kernel_rfl)) ?_
 intro ds hw hok
 replace hw:WtL ((.int .i64)::((.int .i64)::([]))) ds:=hw
 obtain⟨x,ds,rfl,h_x,hw⟩:=of_wt_int hw
 obtain⟨n,ds,rfl,h_n,hw⟩:=of_wt_int hw
 obtain rfl:=of_wt_nil hw
 exact⟨0,((akQ 0 x n).trans (akR Vm.bad _ x n hok)).trans (by kernel_rfl)⟩
def GI:Sum:= {ps:=[⟨[.int .i64,.int .i64,.int .i64,.int .i64],true⟩],rs:=[⟨[.imm (.int .i64)],false⟩],fn:=fun ds=>(true,[.int (FF (cf.ae ds 0))])}
def N7:Ctx:=[(203,uM),(215,EK)]
theorem aeZ:ai Tryz.prog N7:=ab GH (ab RO aq)
def N8:List (Nat×dv):=[]
theorem ae0 (N:Nat) (r:cf):bg Tryz.prog N7 N8 N Tryz.f204 GI (r.enc++([]))=GJ Vm.bad (fun r0=>((true,[.int r0]):aV)) r:=by kernel_rfl
theorem ae1:Holds Tryz.prog 204 GI:=by
 refine aa (A:=N8) aeZ Tryz.func204 rfl (by kernel_rfl) (of_decide_eq_true (by kernel_rfl)) (of_decide_eq_true (by kernel_rfl)) ?_
 intro ds hw hok
 replace hw:WtL (cf.ct++([])) ds:=hw
 obtain⟨r,ds,rfl,h_r,hw⟩:=cf.aZ (r:=_) hw
 obtain rfl:=of_wt_nil hw
 exact⟨0,((ae0 0 r).trans (ae2 Vm.bad _ r h_r)).trans (by kernel_rfl)⟩
def GK:Sum:= {ps:=[⟨[.int .i64,.int .i64,.int .i64,.int .i64],true⟩],rs:=[⟨[.imm (.int .i64)],false⟩],fn:=fun ds=>(true,[.int (FF (cf.ae ds 0))])}
def N9:Ctx:=[(197,wJ)]
theorem ae3:ai Tryz.prog N9:=ab Iv aq
def N_:List (Nat×dv):=[]
theorem ae4 (N:Nat) (r:cf):bg Tryz.prog N9 N_ N Tryz.f198 GK (r.enc++([]))=GL (fun r0=>((true,[.int r0]):aV)) r:=by kernel_rfl
theorem ae5:Holds Tryz.prog 198 GK:=by
 refine aa (A:=N_) ae3 Tryz.func198 rfl (by kernel_rfl) (of_decide_eq_true (by kernel_rfl)) (of_decide_eq_true (by kernel_rfl)) ?_
 intro ds hw hok
 replace hw:WtL (cf.ct++([])) ds:=hw
 obtain⟨r,ds,rfl,h_r,hw⟩:=cf.aZ (r:=_) hw
 obtain rfl:=of_wt_nil hw
 exact⟨0,((ae4 0 r).trans (ae6 _ r h_r)).trans (by kernel_rfl)⟩
def Fe:Sum:= {ps:=[⟨[.int .i64,.int .i64,.int .i64,.int .i64],true⟩],rs:=[⟨[.imm .bool],false⟩],fn:=fun ds=>(true,[.bool (Er (cf.ae ds 0))])}
def SI:Ctx:=[(143,dI),(203,uM),(204,GI)]
theorem akS:ai Tryz.prog SI:=ab dX (ab GH (ab ae1 aq))
def SJ:List (Nat×dv):=[]
theorem akT (N:Nat) (r:cf):bg Tryz.prog SI SJ N Tryz.f183 Fe (r.enc++([]))=Ff (fun r0=>((true,[.bool r0]):aV)) r:=by kernel_rfl
theorem SK:Holds Tryz.prog 183 Fe:=by
 refine aa (A:=SJ) akS Tryz.func183 rfl (by kernel_rfl) (of_decide_eq_true (by kernel_rfl)) (of_decide_eq_true (by kernel_rfl)) ?_
 intro ds hw hok
 replace hw:WtL (cf.ct++([])) ds:=hw
 obtain⟨r,ds,rfl,h_r,hw⟩:=cf.aZ (r:=_) hw
 obtain rfl:=of_wt_nil hw
 exact⟨0,((akT 0 r).trans (akU _ r)).trans (by kernel_rfl)⟩
def Fg:Sum:= {ps:=[⟨[.int .i64,.int .i64,.int .i64,.int .i64],true⟩],rs:=[⟨[.imm .bool],false⟩],fn:=fun ds=>(true,[.bool (Er (cf.ae ds 0))])}
def SL:Ctx:=[(125,d9),(197,wJ),(198,GK)]
theorem akV:ai Tryz.prog SL:=ab eE (ab Iv (ab ae5 aq))
def SM:List (Nat×dv):=[]
theorem akW (N:Nat) (r:cf):bg Tryz.prog SL SM N Tryz.f171 Fg (r.enc++([]))=SN (fun r0=>((true,[.bool r0]):aV)) r:=by kernel_rfl
theorem SP:Holds Tryz.prog 171 Fg:=by
 refine aa (A:=SM) akV Tryz.func171 rfl (by kernel_rfl) (of_decide_eq_true (by kernel_rfl)) (of_decide_eq_true (by kernel_rfl)) ?_
 intro ds hw hok
 replace hw:WtL (cf.ct++([])) ds:=hw
 obtain⟨r,ds,rfl,h_r,hw⟩:=cf.aZ (r:=_) hw
 obtain rfl:=of_wt_nil hw
 exact⟨0,((akW 0 r).trans (akX _ r h_r)).trans (by kernel_rfl)⟩
def Iw:Sum:= {ps:=[⟨[.int .i64,.int .i64,.int .i64],true⟩],rs:=[⟨[.imm .bool],false⟩],fn:=fun ds=>(true,[.bool (J6 (ay.ae ds 0))])}
def Pr:Ctx:=[(143,dI),(203,uM)]
theorem ahZ:ai Tryz.prog Pr:=ab dX (ab GH aq)
def Ps:List (Nat×dv):=[]
theorem ah0 (N:Nat) (q:ay):bg Tryz.prog Pr Ps N Tryz.f185 Iw (q.enc++([]))=Ix (fun r0=>((true,[.bool r0]):aV)) q:=by kernel_rfl
theorem ah1:Holds Tryz.prog 185 Iw:=by
 refine aa (A:=Ps) ahZ Tryz.func185 rfl (by kernel_rfl) (of_decide_eq_true (by kernel_rfl)) (of_decide_eq_true (by kernel_rfl)) ?_
 intro ds hw hok
 replace hw:WtL (ay.ct++([])) ds:=hw
 obtain⟨q,ds,rfl,h_q,hw⟩:=ay.aZ (r:=_) hw
 obtain rfl:=of_wt_nil hw
 exact⟨0,((ah0 0 q).trans (ah2 _ q)).trans (by kernel_rfl)⟩
def Iy:Sum:= {ps:=[⟨[.int .i64,.int .i64,.int .i64],true⟩],rs:=[⟨[.imm .bool],false⟩],fn:=fun ds=>(true,[.bool (J6 (ay.ae ds 0))])}
def Pt:Ctx:=[(125,d9),(197,wJ)]
theorem ah3:ai Tryz.prog Pt:=ab eE (ab Iv aq)
def Pu:List (Nat×dv):=[]
theorem ah4 (N:Nat) (q:ay):bg Tryz.prog Pt Pu N Tryz.f176 Iy (q.enc++([]))=Pv (fun r0=>((true,[.bool r0]):aV)) q:=by kernel_rfl
theorem ah5:Holds Tryz.prog 176 Iy:=by
 refine aa (A:=Pu) ah3 Tryz.func176 rfl (by kernel_rfl) (of_decide_eq_true (by kernel_rfl)) (of_decide_eq_true (by kernel_rfl)) ?_
 intro ds hw hok
 replace hw:WtL (ay.ct++([])) ds:=hw
 obtain⟨q,ds,rfl,h_q,hw⟩:=ay.aZ (r:=_) hw
 obtain rfl:=of_wt_nil hw
 exact⟨0,((ah4 0 q).trans (ah6 _ q h_q)).trans (by kernel_rfl)⟩
def MI:Sum:= {ps:=[⟨[.int .i64,.int .i64,.int .i64,.int .i64,.bool,.bool],true⟩],rs:=[⟨[.imm .bool],false⟩],fn:=fun ds=>(true,[.bool (due (aC.ae ds 0))])}
def ah7:Ctx:=[]
theorem anV:ai Tryz.prog ah7:=aq
def ah8:List (Nat×dv):=[]
theorem anW (N:Nat) (v:aC):bg Tryz.prog ah7 ah8 N Tryz.f187 MI (v.enc++([]))=Uv (fun r0=>((true,[.bool r0]):aV)) v:=by kernel_rfl
theorem agC:Holds Tryz.prog 187 MI:=by
 refine aa (A:=ah8) anV Tryz.func187 rfl (by kernel_rfl) (of_decide_eq_true (by kernel_rfl)) (of_decide_eq_true (by kernel_rfl)) ?_
 intro ds hw hok
 replace hw:WtL (aC.ct++([])) ds:=hw
 obtain⟨v,ds,rfl,h_v,hw⟩:=aC.aZ (r:=_) hw
 obtain rfl:=of_wt_nil hw
 exact⟨0,((anW 0 v).trans (anX _ v)).trans (by kernel_rfl)⟩
def EW:Sum:= {ps:=[⟨[.int .i64,.int .i64,.int .i64,.int .i64,.bool,.bool],true⟩],rs:=[⟨[.imm .bool],false⟩],fn:=fun ds=>(true,[.bool (due (aC.ae ds 0))])}
def SQ:Ctx:=[]
theorem akY:ai Tryz.prog SQ:=aq
def SR:List (Nat×dv):=[]
theorem akZ (N:Nat) (v:aC):bg Tryz.prog SQ SR N Tryz.f178 EW (v.enc++([]))=SS (fun r0=>((true,[.bool r0]):aV)) v:=by kernel_rfl
theorem RT:Holds Tryz.prog 178 EW:=by
 refine aa (A:=SR) akY Tryz.func178 rfl (by kernel_rfl) (of_decide_eq_true (by kernel_rfl)) (of_decide_eq_true (by kernel_rfl)) ?_
 intro ds hw hok
 replace hw:WtL (aC.ct++([])) ds:=hw
 obtain⟨v,ds,rfl,h_v,hw⟩:=aC.aZ (r:=_) hw
 obtain rfl:=of_wt_nil hw
 exact⟨0,((akZ 0 v).trans (ak0 _ v h_v)).trans (by kernel_rfl)⟩
def zR:Sum:= {ps:=[⟨[.int .i64,.int .i64,.int .i64,.int .i64,.bool,.bool],true⟩],rs:=[⟨[.imm .bool],false⟩],fn:=fun ds=>(true,[.bool (il (aC.ae ds 0))])}
def Oa:Ctx:=[(143,dI),(187,MI)]
theorem ae7:ai Tryz.prog Oa:=ab dX (ab agC aq)
def Ob:List (Nat×dv):=[]
theorem ae8 (N:Nat) (v:aC):bg Tryz.prog Oa Ob N Tryz.f146 zR (v.enc++([]))=GM (fun r0=>((true,[.bool r0]):aV)) v:=by kernel_rfl
theorem Nl:Holds Tryz.prog 146 zR:=by
 refine aa (A:=Ob) ae7 Tryz.func146 rfl (by kernel_rfl) (of_decide_eq_true (by kernel_rfl)) (of_decide_eq_true (by kernel_rfl)) ?_
 intro ds hw hok
 replace hw:WtL (aC.ct++([])) ds:=hw
 obtain⟨v,ds,rfl,h_v,hw⟩:=aC.aZ (r:=_) hw
 obtain rfl:=of_wt_nil hw
 exact⟨0,((ae8 0 v).trans (ae9 _ v)).trans (by kernel_rfl)⟩
def zS:Sum:= {ps:=[⟨[.int .i64,.int .i64,.int .i64,.int .i64,.bool,.bool],true⟩],rs:=[⟨[.imm .bool],false⟩],fn:=fun ds=>(true,[.bool (il (aC.ae ds 0))])}
def Oc:Ctx:=[(125,d9),(178,EW)]
theorem ae_:ai Tryz.prog Oc:=ab eE (ab RT aq)
def Od:List (Nat×dv):=[]
theorem afa (N:Nat) (v:aC):bg Tryz.prog Oc Od N Tryz.f129 zS (v.enc++([]))=Oe (fun r0=>((true,[.bool r0]):aV)) v:=by kernel_rfl
theorem Nm:Holds Tryz.prog 129 zS:=by
 refine aa (A:=Od) ae_ Tryz.func129 rfl (by kernel_rfl) (of_decide_eq_true (by kernel_rfl)) (of_decide_eq_true (by kernel_rfl)) ?_
 intro ds hw hok
 replace hw:WtL (aC.ct++([])) ds:=hw
 obtain⟨v,ds,rfl,h_v,hw⟩:=aC.aZ (r:=_) hw
 obtain rfl:=of_wt_nil hw
 exact⟨0,((afa 0 v).trans (afb _ v h_v)).trans (by kernel_rfl)⟩
def OQ:Sum:= {ps:=[⟨[.int .i64,.int .i64,.int .i64,.int .i64,.int .i64,.int .i64,.int .i64,.int .i64,.int .i64,.int .i64,.int .i64,.int .i64,.int .i64,.int .i64,.int .i64,.int .i64,.int .i64,.int .i64,.int .i64,.int .i64,.int .i64,.int .i64,.int .i64,.int .i64,.int .i64,.str,.int .i64,.int .i64,.bool,.int .i64],true⟩],rs:=[⟨[.imm .bool],false⟩],fn:=fun ds=>(true,[.bool (RE (aS.ae ds 0))])}
def abt:Ctx:=[(143,dI),(183,Fe),(185,Iw),(186,Iz)]
theorem amN:ai Tryz.prog abt:=ab dX (ab SK (ab ah1 (ab ah9 aq)))
def abu:List (Nat×dv):=[]
theorem amO (N:Nat) (q:aS):bg Tryz.prog abt abu N Tryz.f144 OQ (q.enc++([]))=Pw (fun r0=>((true,[.bool r0]):aV)) q:=by kernel_rfl
theorem amI:Holds Tryz.prog 144 OQ:=by
 refine aa (A:=abu) amN Tryz.func144 rfl (by kernel_rfl) (of_decide_eq_true (by kernel_rfl)) (of_decide_eq_true (by kernel_rfl)) ?_
 intro ds hw hok
 replace hw:WtL (aS.ct++([])) ds:=hw
 obtain⟨q,ds,rfl,h_q,hw⟩:=aS.aZ (r:=_) hw
 obtain rfl:=of_wt_nil hw
 exact⟨0,((amO 0 q).trans (amP _ q)).trans (by kernel_rfl)⟩
def OR:Sum:= {ps:=[⟨[.int .i64,.int .i64,.int .i64,.int .i64,.int .i64,.int .i64,.int .i64,.int .i64,.int .i64,.int .i64,.int .i64,.int .i64,.int .i64,.int .i64,.int .i64,.int .i64,.int .i64,.int .i64,.int .i64,.int .i64,.int .i64,.int .i64,.int .i64,.int .i64,.int .i64,.str,.int .i64,.int .i64,.bool,.int .i64],true⟩],rs:=[⟨[.imm .bool],false⟩],fn:=fun ds=>(true,[.bool (RE (aS.ae ds 0))])}
def abv:Ctx:=[(125,d9),(171,Fg),(176,Iy),(177,IA)]
theorem amQ:ai Tryz.prog abv:=ab eE (ab SP (ab ah5 (ab ah_ aq)))
def abw:List (Nat×dv):=[]
theorem amR (N:Nat) (q:aS):bg Tryz.prog abv abw N Tryz.f127 OR (q.enc++([]))=abx (fun r0=>((true,[.bool r0]):aV)) q:=by kernel_rfl
theorem amK:Holds Tryz.prog 127 OR:=by
 refine aa (A:=abw) amQ Tryz.func127 rfl (by kernel_rfl) (of_decide_eq_true (by kernel_rfl)) (of_decide_eq_true (by kernel_rfl)) ?_
 intro ds hw hok
 replace hw:WtL (aS.ct++([])) ds:=hw
 obtain⟨q,ds,rfl,h_q,hw⟩:=aS.aZ (r:=_) hw
 obtain rfl:=of_wt_nil hw
 exact⟨0,((amR 0 q).trans (amS _ q h_q)).trans (by kernel_rfl)⟩
def Ln:Sum:= {ps:=[⟨[.int .i64,.int .i64,.int .i64,.int .i64,.int .i64,.int .i64,.int .i64,.int .i64,.int .i64],true⟩],rs:=[⟨[.imm .bool],false⟩],fn:=fun ds=>(true,[.bool (A4 (cZ.ae ds 0))])}
def SU:Ctx:=[(143,dI)]
theorem ak1:ai Tryz.prog SU:=ab dX aq
def SW:List (Nat×dv):=[]
theorem ak2 (N:Nat) (r:cZ):bg Tryz.prog SU SW N Tryz.f207 Ln (r.enc++([]))=Fh (fun r0=>((true,[.bool r0]):aV)) r:=by kernel_rfl
theorem ak3:Holds Tryz.prog 207 Ln:=by
 refine aa (A:=SW) ak1 Tryz.func207 rfl (by kernel_rfl) (of_decide_eq_true (by kernel_rfl)) (of_decide_eq_true (by kernel_rfl)) ?_
 intro ds hw hok
 replace hw:WtL (cZ.ct++([])) ds:=hw
 obtain⟨r,ds,rfl,h_r,hw⟩:=cZ.aZ (r:=_) hw
 obtain rfl:=of_wt_nil hw
 exact⟨0,((ak2 0 r).trans (ak4 _ r)).trans (by kernel_rfl)⟩
def Lo:Sum:= {ps:=[⟨[.int .i64,.int .i64,.int .i64,.int .i64,.int .i64,.int .i64,.int .i64,.int .i64,.int .i64],true⟩],rs:=[⟨[.imm .bool],false⟩],fn:=fun ds=>(true,[.bool (A4 (cZ.ae ds 0))])}
def SX:Ctx:=[(125,d9)]
theorem ak5:ai Tryz.prog SX:=ab eE aq
def SY:List (Nat×dv):=[]
theorem ak6 (N:Nat) (r:cZ):bg Tryz.prog SX SY N Tryz.f199 Lo (r.enc++([]))=SZ (fun r0=>((true,[.bool r0]):aV)) r:=by kernel_rfl
theorem ak7:Holds Tryz.prog 199 Lo:=by
 refine aa (A:=SY) ak5 Tryz.func199 rfl (by kernel_rfl) (of_decide_eq_true (by kernel_rfl)) (of_decide_eq_true (by kernel_rfl)) ?_
 intro ds hw hok
 replace hw:WtL (cZ.ct++([])) ds:=hw
 obtain⟨r,ds,rfl,h_r,hw⟩:=cZ.aZ (r:=_) hw
 obtain rfl:=of_wt_nil hw
 exact⟨0,((ak6 0 r).trans (ak8 _ r h_r)).trans (by kernel_rfl)⟩
def vS:Sum:= {ps:=[⟨[.sl [.int .i64,.int .i64,.int .i64,.int .i64,.int .i64,.int .i64,.int .i64,.int .i64,.int .i64]],false⟩],rs:=[⟨[.imm .bool],false⟩],fn:=fun ds=>(true,[.bool (Fi (rR ds 0))])}
def De:Ctx:=[(207,Ln)]
theorem aia:ai Tryz.prog De:=ab ak3 aq
def Df:List (Nat×dv):=[(2, {bJ:=[(0,.aU),(5,.aU),(6,.aU),(7,.aU)],boxes:=[]})]
def n_:Bool→aV:=(fun r0=>((true,[.bool r0]):aV))
def pI (af:Rows) (x:Rows) (bl:Int) (bz:Int):St:= {n:=18,sl:=[(0,.sl [.int .i64,.int .i64,.int .i64,.int .i64,.int .i64,.int .i64,.int .i64,.int .i64,.int .i64] af),(5,.sl [.int .i64,.int .i64,.int .i64,.int .i64,.int .i64,.int .i64,.int .i64,.int .i64,.int .i64] x),(6,.int .i64 bl),(7,.int .i64 bz)],hp:=[],ok:=true,ls:=[],lm:=[]}
noncomputable def pJ (N:Nat):(St→aV)→St→aV:=dw Tryz.prog De Df N Tryz.f188 vS [true,false,true,false] []
theorem afc (N:Nat) (af:Rows) (x:Rows) (bl:Int) (ih:St→aV) (bz:Int):pJ N ih (pI af x bl bz)=uN Vm.bad n_ af x bl (fun bz=>ih (pI af x bl bz)) bz:=by kernel_rfl
theorem afd (N:Nat) (af:Rows) (x:Rows) (bl:Int) (m_:Nat):(fun bz=>aw (pJ N) m_ (pI af x bl bz))=pK Vm.bad n_ N af x bl m_:=by
 induction m_ with
 | zero=>rfl
 | succ m_ ih=>
  funext bz
  show pJ N (aw (pJ N) m_) (pI af x bl bz)=_
  rw[afc N af x bl]
  rw[ih]
  rfl
theorem aib (N:Nat) (af:Rows):bg Tryz.prog De Df N Tryz.f188 vS (.sl af::([]))=Dg Vm.bad n_ N af:=by
 have cm:bg Tryz.prog De Df N Tryz.f188 vS (.sl af::([]))=Dh Vm.bad n_ (fun x bl bz=>aw (pJ N) N (pI af x bl bz)) af:=by kernel_rfl
 refine cm.trans ?_
 unfold Dg
 have e0:(fun x bl bz=>aw (pJ N) N (pI af x bl bz))=(fun x bl=>pK Vm.bad n_ N af x bl N):=by
  funext x bl
  exact afd N af x bl N
 exact congrArg (fun l_=>Dh Vm.bad n_ l_ af) e0
theorem af3:Holds Tryz.prog 188 vS:=by
 refine aa (A:=Df) aia Tryz.func188 rfl (by kernel_rfl) (of_decide_eq_true (by kernel_rfl)) (of_decide_eq_true (by kernel_rfl)) ?_
 intro ds hw hok
 replace hw:WtL ((.sl [.int .i64,.int .i64,.int .i64,.int .i64,.int .i64,.int .i64,.int .i64,.int .i64,.int .i64])::([])) ds:=hw
 obtain⟨af,ds,rfl,dZ,hw⟩:=of_wt_sl hw
 obtain rfl:=of_wt_nil hw
 obtain⟨N,hN⟩:=aic Vm.bad n_ af dZ
 exact⟨N,((aib N af).trans hN).trans (by kernel_rfl)⟩
def vT:Sum:= {ps:=[⟨[.sl [.int .i64,.int .i64,.int .i64,.int .i64,.int .i64,.int .i64,.int .i64,.int .i64,.int .i64]],false⟩],rs:=[⟨[.imm .bool],false⟩],fn:=fun ds=>(true,[.bool (Fi (rR ds 0))])}
def Di:Ctx:=[(199,Lo)]
theorem aid:ai Tryz.prog Di:=ab ak7 aq
def Dj:List (Nat×dv):=[(2, {bJ:=[(0,.aU),(3,.aU)],boxes:=[]})]
def oa:Bool→aV:=(fun r0=>((true,[.bool r0]):aV))
def pL (af:Rows) (k:Int):St:= {n:=19,sl:=[(0,.sl [.int .i64,.int .i64,.int .i64,.int .i64,.int .i64,.int .i64,.int .i64,.int .i64,.int .i64] af),(3,.int .i64 k)],hp:=[],ok:=true,ls:=[],lm:=[]}
noncomputable def pM (N:Nat):(St→aV)→St→aV:=dw Tryz.prog Di Dj N Tryz.f173 vT [true,false,true,false] []
theorem afe (N:Nat) (af:Rows) (ih:St→aV) (k:Int):pM N ih (pL af k)=uO Vm.bad oa af (fun k=>ih (pL af k)) k:=by kernel_rfl
theorem aff (N:Nat) (af:Rows) (m_:Nat):(fun k=>aw (pM N) m_ (pL af k))=pN Vm.bad oa N af m_:=by
 induction m_ with
 | zero=>rfl
 | succ m_ ih=>
  funext k
  show pM N (aw (pM N) m_) (pL af k)=_
  rw[afe N af]
  rw[ih]
  rfl
theorem aie (N:Nat) (af:Rows):bg Tryz.prog Di Dj N Tryz.f173 vT (.sl af::([]))=Dk Vm.bad oa N af:=by
 have cm:bg Tryz.prog Di Dj N Tryz.f173 vT (.sl af::([]))=Dl Vm.bad oa (fun k=>aw (pM N) N (pL af k)) af:=by kernel_rfl
 refine cm.trans ?_
 unfold Dk
 have e0:(fun k=>aw (pM N) N (pL af k))=(pN Vm.bad oa N af N):=by
  exact aff N af N
 exact congrArg (fun l_=>Dl Vm.bad oa l_ af) e0
theorem af4:Holds Tryz.prog 173 vT:=by
 refine aa (A:=Dj) aid Tryz.func173 rfl (by kernel_rfl) (of_decide_eq_true (by kernel_rfl)) (of_decide_eq_true (by kernel_rfl)) ?_
 intro ds hw hok
 replace hw:WtL ((.sl [.int .i64,.int .i64,.int .i64,.int .i64,.int .i64,.int .i64,.int .i64,.int .i64,.int .i64])::([])) ds:=hw
 obtain⟨af,ds,rfl,dZ,hw⟩:=of_wt_sl hw
 obtain rfl:=of_wt_nil hw
 obtain⟨N,hN⟩:=aif Vm.bad oa af dZ
 exact⟨N,((aie N af).trans hN).trans (by kernel_rfl)⟩
def lh:Sum:= {ps:=[⟨[.sl [.int .i64]],false⟩],rs:=[⟨[.own 3 [.int .i64]],false⟩],fn:=fun ds=>(sm (rR ds 0),[.sl (ca (rR ds 0))])}
def Of:Ctx:=[]
theorem afg:ai Tryz.prog Of:=aq
def Og:List (Nat×dv):=[]
theorem afh (N:Nat) (l:Rows):bg Tryz.prog Of Og N Tryz.f42 lh (.sl l::([]))=GN Vm.bad (fun r0=>((true,[.sl r0]):aV)) l:=by kernel_rfl
theorem uj:Holds Tryz.prog 42 lh:=by
 refine aa (A:=Og) afg Tryz.func42 rfl (by kernel_rfl) (of_decide_eq_true (by kernel_rfl)) (of_decide_eq_true (by kernel_rfl)) ?_
 intro ds hw hok
 replace hw:WtL ((.sl [.int .i64])::([])) ds:=hw
 obtain⟨l,ds,rfl,h_l,hw⟩:=of_wt_sl hw
 obtain rfl:=of_wt_nil hw
 exact⟨0,((afh 0 l).trans (afi Vm.bad _ l h_l hok)).trans (by kernel_rfl)⟩
def uo:Sum:= {ps:=[⟨[.int .i64,.int .i64,.int .i64,.sl [.int .i64]],true⟩],rs:=[⟨[.imm (.int .i64),.imm (.int .i64),.imm (.int .i64),.own 3 [.int .i64]],true⟩],fn:=fun ds=>(uZ (aJ.ae ds 0),aJ.enc (ca (aJ.ae ds 0)))}
def Oh:Ctx:=[(42,lh)]
theorem afj:ai Tryz.prog Oh:=ab uj aq
def Oi:List (Nat×dv):=[]
theorem afk (N:Nat) (p:aJ):bg Tryz.prog Oh Oi N Tryz.f134 uo (p.enc++([]))=GO Vm.bad (fun r0=>((true,aJ.enc r0):aV)) p:=by kernel_rfl
theorem Ge:Holds Tryz.prog 134 uo:=by
 refine aa (A:=Oi) afj Tryz.func134 rfl (by kernel_rfl) (of_decide_eq_true (by kernel_rfl)) (of_decide_eq_true (by kernel_rfl)) ?_
 intro ds hw hok
 replace hw:WtL (aJ.ct++([])) ds:=hw
 obtain⟨p,ds,rfl,h_p,hw⟩:=aJ.aZ (r:=_) hw
 obtain rfl:=of_wt_nil hw
 exact⟨0,((afk 0 p).trans (afl Vm.bad _ p h_p hok)).trans (by kernel_rfl)⟩
def wg:Sum:= {ps:=[⟨[.int .i64,.int .i64,.int .i64,.sl [.int .i64]],true⟩],rs:=[⟨[.imm (.int .i64),.imm (.int .i64),.imm (.int .i64),.own 3 [.int .i64]],true⟩],fn:=fun ds=>(uZ (aJ.ae ds 0),aJ.enc (ca (aJ.ae ds 0)))}
def Px:Ctx:=[]
theorem aih:ai Tryz.prog Px:=aq
def Py:List (Nat×dv):=[]
theorem aii (N:Nat) (p:aJ):bg Tryz.prog Px Py N Tryz.f118 wg (p.enc++([]))=IB Vm.bad (fun r0=>((true,aJ.enc r0):aV)) p:=by kernel_rfl
theorem H_:Holds Tryz.prog 118 wg:=by
 refine aa (A:=Py) aih Tryz.func118 rfl (by kernel_rfl) (of_decide_eq_true (by kernel_rfl)) (of_decide_eq_true (by kernel_rfl)) ?_
 intro ds hw hok
 replace hw:WtL (aJ.ct++([])) ds:=hw
 obtain⟨p,ds,rfl,h_p,hw⟩:=aJ.aZ (r:=_) hw
 obtain rfl:=of_wt_nil hw
 exact⟨0,((aii 0 p).trans (aij Vm.bad _ p h_p hok)).trans (by kernel_rfl)⟩
def qG:Sum:= {ps:=[⟨[.int .i64,.int .i64,.int .i64,.sl [.int .i64]],true⟩],rs:=[⟨[.imm .bool],false⟩],fn:=fun ds=>(true,[.bool (fY (aJ.ae ds 0))])}
def Fj:Ctx:=[(143,dI)]
theorem ak9:ai Tryz.prog Fj:=ab dX aq
def Fk:List (Nat×dv):=[(5, {bJ:=[(1,.aU),(3,.aU),(26,.aU),(27,.aU),(28,.aU)],boxes:=[(64,[])]})]
def qP:Bool→aV:=(fun r0=>((true,[.bool r0]):aV))
def sD (x:Rows) (bl:Int) (bz:Int) (p_1:Int) (p_2:Int) (DN:Int) (J7:Rows) (seen:Rows):St:= {n:=48,sl:=[(1,.ptr 64 0),(3,.own 640192),(26,.sl [.int .i64] x),(27,.int .i64 bl),(28,.int .i64 bz)],hp:=[(64,.box 58 [.int .i64 p_1,.int .i64 p_2,.int .i64 DN,.sl [.int .i64] J7]),(640192,.row 4 [.bool] seen false true)],ok:=true,ls:=[],lm:=[]}
noncomputable def sE (N:Nat):(St→aV)→St→aV:=dw Tryz.prog Fj Fk N Tryz.f145 qG [true,true,true,false,true,false] []
theorem aik (N:Nat) (x:Rows) (bl:Int) (p_1:Int) (p_2:Int) (DN:Int) (J7:Rows) (ih:St→aV) (bz:Int) (seen:Rows):sE N ih (sD x bl bz p_1 p_2 DN J7 seen)=wK Vm.bad qP x bl DN (fun bz seen=>ih (sD x bl bz p_1 p_2 DN J7 seen)) bz seen:=by kernel_rfl
theorem ail (N:Nat) (x:Rows) (bl:Int) (p_1:Int) (p_2:Int) (DN:Int) (J7:Rows) (m_:Nat):(fun bz seen=>aw (sE N) m_ (sD x bl bz p_1 p_2 DN J7 seen))=sF Vm.bad qP N x bl DN m_:=by
 induction m_ with
 | zero=>rfl
 | succ m_ ih=>
  funext bz seen
  show sE N (aw (sE N) m_) (sD x bl bz p_1 p_2 DN J7 seen)=_
  rw[aik N x bl p_1 p_2 DN J7]
  rw[ih]
  rfl
theorem ak_ (N:Nat) (p:aJ):bg Tryz.prog Fj Fk N Tryz.f145 qG (p.enc++([]))=Fl Vm.bad qP N p:=by
 have cm:bg Tryz.prog Fj Fk N Tryz.f145 qG (p.enc++([]))=Fm Vm.bad qP (fun x bl DN bz seen=>aw (sE N) N (sD x bl bz p.cP p.bB DN p.dn seen)) p:=by kernel_rfl
 refine cm.trans ?_
 unfold Fl
 have e0:(fun x bl DN bz seen=>aw (sE N) N (sD x bl bz p.cP p.bB DN p.dn seen))=(fun x bl DN=>sF Vm.bad qP N x bl DN N):=by
  funext x bl DN
  exact ail N x bl p.cP p.bB DN p.dn N
 exact congrArg (fun l_=>Fm Vm.bad qP l_ p) e0
theorem KJ:Holds Tryz.prog 145 qG:=by
 refine aa (A:=Fk) ak9 Tryz.func145 rfl (by kernel_rfl) (of_decide_eq_true (by kernel_rfl)) (of_decide_eq_true (by kernel_rfl)) ?_
 intro ds hw hok
 replace hw:WtL (aJ.ct++([])) ds:=hw
 obtain⟨p,ds,rfl,h_p,hw⟩:=aJ.aZ (r:=_) hw
 obtain rfl:=of_wt_nil hw
 obtain⟨N,hN⟩:=ala Vm.bad qP p h_p
 exact⟨N,((ak_ N p).trans hN).trans (by kernel_rfl)⟩
def qH:Sum:= {ps:=[⟨[.int .i64,.int .i64,.int .i64,.sl [.int .i64]],true⟩],rs:=[⟨[.imm .bool],false⟩],fn:=fun ds=>(true,[.bool (fY (aJ.ae ds 0))])}
def Fo:Ctx:=[(125,d9)]
theorem alb:ai Tryz.prog Fo:=ab eE aq
def Fp:List (Nat×dv):=[(5, {bJ:=[(1,.aU),(3,.aU),(4,.aU)],boxes:=[(64,[])]})]
def qQ:Bool→aV:=(fun r0=>((true,[.bool r0]):aV))
def sG (k:Int) (p_1:Int) (p_2:Int) (DN:Int) (J7:Rows) (seen:Rows):St:= {n:=58,sl:=[(1,.ptr 64 0),(3,.own 640192),(4,.int .i64 k)],hp:=[(64,.box 58 [.int .i64 p_1,.int .i64 p_2,.int .i64 DN,.sl [.int .i64] J7]),(640192,.row 4 [.bool] seen false true)],ok:=true,ls:=[],lm:=[]}
noncomputable def sH (N:Nat):(St→aV)→St→aV:=dw Tryz.prog Fo Fp N Tryz.f128 qH [true,true,true,false,true,false] []
theorem aim (N:Nat) (p_1:Int) (p_2:Int) (DN:Int) (J7:Rows) (ih:St→aV) (k:Int) (seen:Rows):sH N ih (sG k p_1 p_2 DN J7 seen)=wL Vm.bad qQ DN J7 (fun k seen=>ih (sG k p_1 p_2 DN J7 seen)) k seen:=by kernel_rfl
theorem ain (N:Nat) (p_1:Int) (p_2:Int) (DN:Int) (J7:Rows) (m_:Nat):(fun k seen=>aw (sH N) m_ (sG k p_1 p_2 DN J7 seen))=sJ Vm.bad qQ N DN J7 m_:=by
 induction m_ with
 | zero=>rfl
 | succ m_ ih=>
  funext k seen
  show sH N (aw (sH N) m_) (sG k p_1 p_2 DN J7 seen)=_
  rw[aim N p_1 p_2 DN J7]
  rw[ih]
  rfl
theorem alc (N:Nat) (p:aJ):bg Tryz.prog Fo Fp N Tryz.f128 qH (p.enc++([]))=Fq Vm.bad qQ N p:=by
 have cm:bg Tryz.prog Fo Fp N Tryz.f128 qH (p.enc++([]))=Fs Vm.bad qQ (fun DN J7 k seen=>aw (sH N) N (sG k p.cP p.bB DN J7 seen)) p:=by kernel_rfl
 refine cm.trans ?_
 unfold Fq
 have e0:(fun DN J7 k seen=>aw (sH N) N (sG k p.cP p.bB DN J7 seen))=(fun DN J7=>sJ Vm.bad qQ N DN J7 N):=by
  funext DN J7
  exact ain N p.cP p.bB DN J7 N
 exact congrArg (fun l_=>Fs Vm.bad qQ l_ p) e0
theorem KK:Holds Tryz.prog 128 qH:=by
 refine aa (A:=Fp) alb Tryz.func128 rfl (by kernel_rfl) (of_decide_eq_true (by kernel_rfl)) (of_decide_eq_true (by kernel_rfl)) ?_
 intro ds hw hok
 replace hw:WtL (aJ.ct++([])) ds:=hw
 obtain⟨p,ds,rfl,h_p,hw⟩:=aJ.aZ (r:=_) hw
 obtain rfl:=of_wt_nil hw
 obtain⟨N,hN⟩:=ald Vm.bad qQ p h_p
 exact⟨N,((alc N p).trans hN).trans (by kernel_rfl)⟩
def A5:Sum:= {ps:=[⟨[.int .i64,.int .i64,.int .i64,.sl [.int .i64]],true⟩,⟨[.sl [.int .i64]],false⟩],rs:=[⟨[.imm (.int .i64),.imm (.int .i64),.imm (.int .i64),.own 3 [.int .i64]],true⟩,⟨[.imm .bool],false⟩],fn:=fun ds=>(G8 (aJ.ae ds 0) (rR ds 4),aJ.enc (dJ (aJ.ae ds 0) (rR ds 4)).1++[.bool (dJ (aJ.ae ds 0) (rR ds 4)).2])}
def IC:Ctx:=[(134,uo),(145,qG)]
theorem Uw:ai Tryz.prog IC:=ab Ge (ab KJ aq)
def ID:List (Nat×dv):=[]
theorem Ux (N:Nat) (p:aJ) (af:Rows):bg Tryz.prog IC ID N Tryz.f184 A5 (p.enc++(.sl af::([])))=A6 Vm.bad (fun r0 r1=>((true,aJ.enc r0++[.bool r1]):aV)) p af:=by kernel_rfl
theorem Uy:Holds Tryz.prog 184 A5:=by
 refine aa (A:=ID) Uw Tryz.func184 rfl (by kernel_rfl) (of_decide_eq_true (by kernel_rfl)) (of_decide_eq_true (by kernel_rfl)) ?_
 intro ds hw hok
 replace hw:WtL (aJ.ct++((.sl [.int .i64])::([]))) ds:=hw
 obtain⟨p,ds,rfl,h_p,hw⟩:=aJ.aZ (r:=_) hw
 obtain⟨af,ds,rfl,dZ,hw⟩:=of_wt_sl hw
 obtain rfl:=of_wt_nil hw
 exact⟨0,((Ux 0 p af).trans (Uz Vm.bad _ p af h_p dZ hok)).trans (by kernel_rfl)⟩
def A7:Sum:= {ps:=[⟨[.int .i64,.int .i64,.int .i64,.sl [.int .i64]],true⟩,⟨[.sl [.int .i64]],false⟩],rs:=[⟨[.imm (.int .i64),.imm (.int .i64),.imm (.int .i64),.own 3 [.int .i64]],true⟩,⟨[.imm .bool],false⟩],fn:=fun ds=>(G8 (aJ.ae ds 0) (rR ds 4),aJ.enc (dJ (aJ.ae ds 0) (rR ds 4)).1++[.bool (dJ (aJ.ae ds 0) (rR ds 4)).2])}
def IE:Ctx:=[(118,wg),(128,qH)]
theorem UA:ai Tryz.prog IE:=ab H_ (ab KK aq)
def IG:List (Nat×dv):=[]
theorem UB (N:Nat) (p:aJ) (af:Rows):bg Tryz.prog IE IG N Tryz.f172 A7 (p.enc++(.sl af::([])))=A8 Vm.bad (fun r0 r1=>((true,aJ.enc r0++[.bool r1]):aV)) p af:=by kernel_rfl
theorem UC:Holds Tryz.prog 172 A7:=by
 refine aa (A:=IG) UA Tryz.func172 rfl (by kernel_rfl) (of_decide_eq_true (by kernel_rfl)) (of_decide_eq_true (by kernel_rfl)) ?_
 intro ds hw hok
 replace hw:WtL (aJ.ct++((.sl [.int .i64])::([]))) ds:=hw
 obtain⟨p,ds,rfl,h_p,hw⟩:=aJ.aZ (r:=_) hw
 obtain⟨af,ds,rfl,dZ,hw⟩:=of_wt_sl hw
 obtain rfl:=of_wt_nil hw
 exact⟨0,((UB 0 p af).trans (UD Vm.bad _ p af h_p dZ hok)).trans (by kernel_rfl)⟩
end
end Go.Proofs.YthpmalpdnnbkgaaGreat.Pl
