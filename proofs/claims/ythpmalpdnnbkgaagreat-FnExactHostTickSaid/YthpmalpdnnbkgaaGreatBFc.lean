/- The contracts of functions of the program: each computes what its plain form says. Conditions: none. -/
import Derived.Test.YthpmalpdnnbkgaaGreatPFc
import Derived.Test.YthpmalpdnnbkgaaGreatRows
import Derived.Test.YthpmalpdnnbkgaaGreatBFb
set_option linter.unusedVariables false
set_option linter.unusedSimpArgs false
set_option maxRecDepth 100000
namespace Go.Proofs.YthpmalpdnnbkgaaGreat.Pl
open Vm
noncomputable section
def uc:Sum:= {ps:=[⟨[.str,.sl [.int .i64]],true⟩,⟨[.int .i64],false⟩],rs:=[⟨[.imm .bool],false⟩],fn:=fun ds=>(true,[.bool (ud (aM.ae ds 0) (rI ds 2))])}
def zJ:Ctx:=[(143,dI),(210,D4)]
theorem acn:ai Tryz.prog zJ:=ab dX (ab YW aq)
def zK:List (Nat×dv):=[(4, {bJ:=[(1,.aU),(24,.aU),(25,.aU),(26,.aU)],boxes:=[(128,[])]})]
def lf:Bool→aV:=(fun r0=>((true,[.bool r0]):aV))
def mo (ar:Int) (x:Rows) (bl:Int) (bz:Int) (qD:Bytes) (eu:Rows):St:= {n:=36,sl:=[(1,.int .i64 ar),(24,.sl [.int .i64] x),(25,.int .i64 bl),(26,.int .i64 bz)],hp:=[(128,.box 70 [.str qD,.sl [.int .i64] eu])],ok:=true,ls:=[],lm:=[]}
noncomputable def mq (N:Nat):(St→aV)→St→aV:=dw Tryz.prog zJ zK N Tryz.f190 uc [true,true,false,true,false] []
theorem YX (N:Nat) (ar:Int) (x:Rows) (bl:Int) (qD:Bytes) (eu:Rows) (ih:St→aV) (bz:Int):mq N ih (mo ar x bl bz qD eu)=rL Vm.bad lf ar x bl (fun bz=>ih (mo ar x bl bz qD eu)) bz:=by kernel_rfl
theorem YY (N:Nat) (ar:Int) (x:Rows) (bl:Int) (qD:Bytes) (eu:Rows) (m_:Nat):(fun bz=>aw (mq N) m_ (mo ar x bl bz qD eu))=iA Vm.bad lf N ar x bl m_:=by
 induction m_ with
 | zero=>rfl
 | succ m_ ih=>
  funext bz
  show mq N (aw (mq N) m_) (mo ar x bl bz qD eu)=_
  rw[YX N ar x bl qD eu]
  rw[ih]
  rfl
theorem aco (N:Nat) (s:aM) (ar:Int):bg Tryz.prog zJ zK N Tryz.f190 uc (s.enc++(.int ar::([])))=zL Vm.bad lf N s ar:=by
 have cm:bg Tryz.prog zJ zK N Tryz.f190 uc (s.enc++(.int ar::([])))=zM Vm.bad lf (fun x bl bz=>aw (mq N) N (mo ar x bl bz s.Key s.Table)) s ar:=by kernel_rfl
 refine cm.trans ?_
 unfold zL
 have e0:(fun x bl bz=>aw (mq N) N (mo ar x bl bz s.Key s.Table))=(fun x bl=>iA Vm.bad lf N ar x bl N):=by
  funext x bl
  exact YY N ar x bl s.Key s.Table N
 exact congrArg (fun l_=>zM Vm.bad lf l_ s ar) e0
theorem acp:Holds Tryz.prog 190 uc:=by
 refine aa (A:=zK) acn Tryz.func190 rfl (by kernel_rfl) (of_decide_eq_true (by kernel_rfl)) (of_decide_eq_true (by kernel_rfl)) ?_
 intro ds hw hok
 replace hw:WtL (aM.ct++((.int .i64)::([]))) ds:=hw
 obtain⟨s,ds,rfl,h_s,hw⟩:=aM.aZ (r:=_) hw
 obtain⟨ar,ds,rfl,vR,hw⟩:=of_wt_int hw
 obtain rfl:=of_wt_nil hw
 obtain⟨N,hN⟩:=acq Vm.bad lf s ar h_s vR
 exact⟨N,((aco N s ar).trans hN).trans (by kernel_rfl)⟩
def ue:Sum:= {ps:=[⟨[.str,.sl [.int .i64]],true⟩,⟨[.int .i64],false⟩],rs:=[⟨[.imm .bool],false⟩],fn:=fun ds=>(true,[.bool (ud (aM.ae ds 0) (rI ds 2))])}
def zN:Ctx:=[(125,d9),(201,HP)]
theorem acr:ai Tryz.prog zN:=ab eE (ab af2 aq)
def zO:List (Nat×dv):=[(4, {bJ:=[(1,.aU),(2,.aU),(5,.aU)],boxes:=[(128,[])]})]
def lg:Bool→aV:=(fun r0=>((true,[.bool r0]):aV))
def mr (ar:Int) (k:Int) (qD:Bytes) (eu:Rows):St:= {n:=38,sl:=[(1,.int .i64 ar),(2,.ptr 128 0),(5,.int .i64 k)],hp:=[(128,.box 70 [.str qD,.sl [.int .i64] eu])],ok:=true,ls:=[],lm:=[]}
noncomputable def mu (N:Nat):(St→aV)→St→aV:=dw Tryz.prog zN zO N Tryz.f175 ue [true,true,false,true,false] []
theorem YZ (N:Nat) (ar:Int) (qD:Bytes) (eu:Rows) (ih:St→aV) (k:Int):mu N ih (mr ar k qD eu)=rM Vm.bad lg ar eu (fun k=>ih (mr ar k qD eu)) k:=by kernel_rfl
theorem Y0 (N:Nat) (ar:Int) (qD:Bytes) (eu:Rows) (m_:Nat):(fun k=>aw (mu N) m_ (mr ar k qD eu))=iB Vm.bad lg N ar eu m_:=by
 induction m_ with
 | zero=>rfl
 | succ m_ ih=>
  funext k
  show mu N (aw (mu N) m_) (mr ar k qD eu)=_
  rw[YZ N ar qD eu]
  rw[ih]
  rfl
theorem acs (N:Nat) (s:aM) (ar:Int):bg Tryz.prog zN zO N Tryz.f175 ue (s.enc++(.int ar::([])))=zP Vm.bad lg N s ar:=by
 have cm:bg Tryz.prog zN zO N Tryz.f175 ue (s.enc++(.int ar::([])))=zQ Vm.bad lg (fun eu k=>aw (mu N) N (mr ar k s.Key eu)) s ar:=by kernel_rfl
 refine cm.trans ?_
 unfold zP
 have e0:(fun eu k=>aw (mu N) N (mr ar k s.Key eu))=(fun eu=>iB Vm.bad lg N ar eu N):=by
  funext eu
  exact Y0 N ar s.Key eu N
 exact congrArg (fun l_=>zQ Vm.bad lg l_ s ar) e0
theorem acu:Holds Tryz.prog 175 ue:=by
 refine aa (A:=zO) acr Tryz.func175 rfl (by kernel_rfl) (of_decide_eq_true (by kernel_rfl)) (of_decide_eq_true (by kernel_rfl)) ?_
 intro ds hw hok
 replace hw:WtL (aM.ct++((.int .i64)::([]))) ds:=hw
 obtain⟨s,ds,rfl,h_s,hw⟩:=aM.aZ (r:=_) hw
 obtain⟨ar,ds,rfl,vR,hw⟩:=of_wt_int hw
 obtain rfl:=of_wt_nil hw
 obtain⟨N,hN⟩:=acv Vm.bad lg s ar h_s vR
 exact⟨N,((acs N s ar).trans hN).trans (by kernel_rfl)⟩
def kd:Sum:= {ps:=[⟨[.sl [.int .i64,.int .i64,.int .i64,.int .i64,.int .i64,.int .i64,.int .i64,.int .i64,.int .i64],.sl [.int .i64,.int .i64,.int .i64,.int .i64,.int .i64,.int .i64,.int .i64],.str,.sl [.int .i64]],true⟩,⟨[.int .i64],false⟩],rs:=[⟨[.imm .bool],false⟩],fn:=fun ds=>(true,[.bool (eS (al.ae ds 0) (rI ds 4))])}
def pX:Ctx:=[(188,vS),(189,rK),(190,uc)]
theorem Vt:ai Tryz.prog pX:=ab af3 (ab afW (ab acp aq))
def pY:List (Nat×dv):=[(4, {bJ:=[(1,.aU),(2,.aU),(27,.aU),(28,.aU),(29,.aU)],boxes:=[(128,[])]}),(10, {bJ:=[(1,.aU),(45,.aU),(46,.aU),(47,.aU)],boxes:=[(128,[])]})]
def eF:Bool→aV:=(fun r0=>((true,[.bool r0]):aV))
def iC (ar:Int) (x:Rows) (bl:Int) (bz:Int) (qD:Rows) (eu:Rows) (HE:Bytes) (HF:Rows):St:= {n:=61,sl:=[(1,.int .i64 ar),(2,.ptr 128 0),(27,.sl [.int .i64,.int .i64,.int .i64,.int .i64,.int .i64,.int .i64,.int .i64,.int .i64,.int .i64] x),(28,.int .i64 bl),(29,.int .i64 bz)],hp:=[(128,.box 72 [.sl [.int .i64,.int .i64,.int .i64,.int .i64,.int .i64,.int .i64,.int .i64,.int .i64,.int .i64] qD,.sl [.int .i64,.int .i64,.int .i64,.int .i64,.int .i64,.int .i64,.int .i64] eu,.str HE,.sl [.int .i64] HF])],ok:=true,ls:=[],lm:=[]}
def nf (ar:Int) (eu:Rows) (D5:Int) (Hw:Int) (qD:Rows) (s_6:Rows) (HE:Bytes) (HF:Rows):St:= {n:=61,sl:=[(1,.int .i64 ar),(45,.sl [.int .i64,.int .i64,.int .i64,.int .i64,.int .i64,.int .i64,.int .i64] eu),(46,.int .i64 D5),(47,.int .i64 Hw)],hp:=[(128,.box 72 [.sl [.int .i64,.int .i64,.int .i64,.int .i64,.int .i64,.int .i64,.int .i64,.int .i64,.int .i64] qD,.sl [.int .i64,.int .i64,.int .i64,.int .i64,.int .i64,.int .i64,.int .i64] s_6,.str HE,.sl [.int .i64] HF])],ok:=true,ls:=[],lm:=[]}
noncomputable def ng (N:Nat):(St→aV)→St→aV:=dw Tryz.prog pX pY N Tryz.f147 kd [true,true,true,false,true,false] []
noncomputable def iD (N:Nat):(St→aV)→St→aV:=dw Tryz.prog pX pY N Tryz.f147 kd [true,true,false,true,false] []
theorem Ts (N:Nat) (ar:Int) (eu:Rows) (D5:Int) (qD:Rows) (s_6:Rows) (HE:Bytes) (HF:Rows) (ih:St→aV) (Hw:Int):ng N ih (nf ar eu D5 Hw qD s_6 HE HF)=nh Vm.bad eF ar eu D5 (fun Hw=>ih (nf ar eu D5 Hw qD s_6 HE HF)) Hw:=by kernel_rfl
theorem Tt (N:Nat) (ar:Int) (eu:Rows) (D5:Int) (qD:Rows) (s_6:Rows) (HE:Bytes) (HF:Rows) (m_:Nat):(fun Hw=>aw (ng N) m_ (nf ar eu D5 Hw qD s_6 HE HF))=fP Vm.bad eF N ar eu D5 m_:=by
 induction m_ with
 | zero=>rfl
 | succ m_ ih=>
  funext Hw
  show ng N (aw (ng N) m_) (nf ar eu D5 Hw qD s_6 HE HF)=_
  rw[Ts N ar eu D5 qD s_6 HE HF]
  rw[ih]
  rfl
theorem Tu (N:Nat) (ar:Int) (x:Rows) (bl:Int) (qD:Rows) (eu:Rows) (HE:Bytes) (HF:Rows) (ih:St→aV) (bz:Int):iD N ih (iC ar x bl bz qD eu HE HF)=ni Vm.bad eF (fun D5 Hw=>aw (ng N) N (nf ar eu D5 Hw qD eu HE HF)) ar x bl eu (fun bz=>ih (iC ar x bl bz qD eu HE HF)) bz:=by kernel_rfl
theorem Tv (N:Nat) (ar:Int) (x:Rows) (bl:Int) (qD:Rows) (eu:Rows) (HE:Bytes) (HF:Rows) (m_:Nat):(fun bz=>aw (iD N) m_ (iC ar x bl bz qD eu HE HF))=fQ Vm.bad eF N ar x bl eu m_:=by
 induction m_ with
 | zero=>rfl
 | succ m_ ih=>
  funext bz
  show iD N (aw (iD N) m_) (iC ar x bl bz qD eu HE HF)=_
  rw[Tu N ar x bl qD eu HE HF]
  have e1:=funext fun D5=>Tt N ar eu D5 qD eu HE HF N
  rw[e1]
  rw[ih]
  rfl
theorem Vu (N:Nat) (s:al) (ar:Int):bg Tryz.prog pX pY N Tryz.f147 kd (s.enc++(.int ar::([])))=vc Vm.bad eF N s ar:=by
 have cm:bg Tryz.prog pX pY N Tryz.f147 kd (s.enc++(.int ar::([])))=vd Vm.bad eF (fun x bl eu bz=>aw (iD N) N (iC ar x bl bz s.bW eu s.bj.Key s.bj.Table)) s ar:=by kernel_rfl
 refine cm.trans ?_
 unfold vc
 have e0:(fun x bl eu bz=>aw (iD N) N (iC ar x bl bz s.bW eu s.bj.Key s.bj.Table))=(fun x bl eu=>fQ Vm.bad eF N ar x bl eu N):=by
  funext x bl eu
  exact Tv N ar x bl s.bW eu s.bj.Key s.bj.Table N
 exact congrArg (fun l_=>vd Vm.bad eF l_ s ar) e0
theorem Vv:Holds Tryz.prog 147 kd:=by
 refine aa (A:=pY) Vt Tryz.func147 rfl (by kernel_rfl) (of_decide_eq_true (by kernel_rfl)) (of_decide_eq_true (by kernel_rfl)) ?_
 intro ds hw hok
 replace hw:WtL (al.ct++((.int .i64)::([]))) ds:=hw
 obtain⟨s,ds,rfl,h_s,hw⟩:=al.aZ (r:=_) hw
 obtain⟨ar,ds,rfl,vR,hw⟩:=of_wt_int hw
 obtain rfl:=of_wt_nil hw
 obtain⟨N,hN⟩:=Vw Vm.bad eF s ar h_s vR
 exact⟨N,((Vu N s ar).trans hN).trans (by kernel_rfl)⟩
def ke:Sum:= {ps:=[⟨[.sl [.int .i64,.int .i64,.int .i64,.int .i64,.int .i64,.int .i64,.int .i64,.int .i64,.int .i64],.sl [.int .i64,.int .i64,.int .i64,.int .i64,.int .i64,.int .i64,.int .i64],.str,.sl [.int .i64]],true⟩,⟨[.int .i64],false⟩],rs:=[⟨[.imm .bool],false⟩],fn:=fun ds=>(true,[.bool (eS (al.ae ds 0) (rI ds 4))])}
def pZ:Ctx:=[(173,vT),(174,vQ),(175,ue)]
theorem Vx:ai Tryz.prog pZ:=ab af4 (ab af0 (ab acu aq))
def p5:List (Nat×dv):=[(4, {bJ:=[(1,.aU),(2,.aU),(5,.aU)],boxes:=[(128,[])]}),(9, {bJ:=[(1,.aU),(2,.aU),(6,.aU)],boxes:=[(128,[])]})]
def eG:Bool→aV:=(fun r0=>((true,[.bool r0]):aV))
def iE (ar:Int) (k:Int) (qD:Rows) (eu:Rows) (HE:Bytes) (HF:Rows):St:= {n:=56,sl:=[(1,.int .i64 ar),(2,.ptr 128 0),(5,.int .i64 k)],hp:=[(128,.box 72 [.sl [.int .i64,.int .i64,.int .i64,.int .i64,.int .i64,.int .i64,.int .i64,.int .i64,.int .i64] qD,.sl [.int .i64,.int .i64,.int .i64,.int .i64,.int .i64,.int .i64,.int .i64] eu,.str HE,.sl [.int .i64] HF])],ok:=true,ls:=[],lm:=[]}
def nj (ar:Int) (aW:Int) (qD:Rows) (eu:Rows) (HE:Bytes) (HF:Rows):St:= {n:=56,sl:=[(1,.int .i64 ar),(2,.ptr 128 0),(6,.int .i64 aW)],hp:=[(128,.box 72 [.sl [.int .i64,.int .i64,.int .i64,.int .i64,.int .i64,.int .i64,.int .i64,.int .i64,.int .i64] qD,.sl [.int .i64,.int .i64,.int .i64,.int .i64,.int .i64,.int .i64,.int .i64] eu,.str HE,.sl [.int .i64] HF])],ok:=true,ls:=[],lm:=[]}
noncomputable def nk (N:Nat):(St→aV)→St→aV:=dw Tryz.prog pZ p5 N Tryz.f126 ke [true,true,true,false,true,false] []
noncomputable def iF (N:Nat):(St→aV)→St→aV:=dw Tryz.prog pZ p5 N Tryz.f126 ke [true,true,false,true,false] []
theorem Tw (N:Nat) (ar:Int) (qD:Rows) (eu:Rows) (HE:Bytes) (HF:Rows) (ih:St→aV) (aW:Int):nk N ih (nj ar aW qD eu HE HF)=nm Vm.bad eG ar eu (fun aW=>ih (nj ar aW qD eu HE HF)) aW:=by kernel_rfl
theorem Ty (N:Nat) (ar:Int) (qD:Rows) (eu:Rows) (HE:Bytes) (HF:Rows) (m_:Nat):(fun aW=>aw (nk N) m_ (nj ar aW qD eu HE HF))=fR Vm.bad eG N ar eu m_:=by
 induction m_ with
 | zero=>rfl
 | succ m_ ih=>
  funext aW
  show nk N (aw (nk N) m_) (nj ar aW qD eu HE HF)=_
  rw[Tw N ar qD eu HE HF]
  rw[ih]
  rfl
theorem Tz (N:Nat) (ar:Int) (qD:Rows) (eu:Rows) (HE:Bytes) (HF:Rows) (ih:St→aV) (k:Int):iF N ih (iE ar k qD eu HE HF)=nn Vm.bad eG (fun aW=>aw (nk N) N (nj ar aW qD eu HE HF)) ar qD eu (fun k=>ih (iE ar k qD eu HE HF)) k:=by kernel_rfl
theorem TA (N:Nat) (ar:Int) (qD:Rows) (eu:Rows) (HE:Bytes) (HF:Rows) (m_:Nat):(fun k=>aw (iF N) m_ (iE ar k qD eu HE HF))=fS Vm.bad eG N ar qD eu m_:=by
 induction m_ with
 | zero=>rfl
 | succ m_ ih=>
  funext k
  show iF N (aw (iF N) m_) (iE ar k qD eu HE HF)=_
  rw[Tz N ar qD eu HE HF]
  have e1:=Ty N ar qD eu HE HF N
  rw[e1]
  rw[ih]
  rfl
theorem Vy (N:Nat) (s:al) (ar:Int):bg Tryz.prog pZ p5 N Tryz.f126 ke (s.enc++(.int ar::([])))=ve Vm.bad eG N s ar:=by
 have cm:bg Tryz.prog pZ p5 N Tryz.f126 ke (s.enc++(.int ar::([])))=vf Vm.bad eG (fun qD eu k=>aw (iF N) N (iE ar k qD eu s.bj.Key s.bj.Table)) s ar:=by kernel_rfl
 refine cm.trans ?_
 unfold ve
 have e0:(fun qD eu k=>aw (iF N) N (iE ar k qD eu s.bj.Key s.bj.Table))=(fun qD eu=>fS Vm.bad eG N ar qD eu N):=by
  funext qD eu
  exact TA N ar qD eu s.bj.Key s.bj.Table N
 exact congrArg (fun l_=>vf Vm.bad eG l_ s ar) e0
theorem Vz:Holds Tryz.prog 126 ke:=by
 refine aa (A:=p5) Vx Tryz.func126 rfl (by kernel_rfl) (of_decide_eq_true (by kernel_rfl)) (of_decide_eq_true (by kernel_rfl)) ?_
 intro ds hw hok
 replace hw:WtL (al.ct++((.int .i64)::([]))) ds:=hw
 obtain⟨s,ds,rfl,h_s,hw⟩:=al.aZ (r:=_) hw
 obtain⟨ar,ds,rfl,vR,hw⟩:=of_wt_int hw
 obtain rfl:=of_wt_nil hw
 obtain⟨N,hN⟩:=VA Vm.bad eG s ar h_s vR
 exact⟨N,((Vy N s ar).trans hN).trans (by kernel_rfl)⟩
end
end Go.Proofs.YthpmalpdnnbkgaaGreat.Pl
