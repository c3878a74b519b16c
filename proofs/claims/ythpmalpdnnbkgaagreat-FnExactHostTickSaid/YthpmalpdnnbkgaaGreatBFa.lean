/- The contracts of functions of the program: each computes what its plain form says. Conditions: none. -/
import Derived.Test.YthpmalpdnnbkgaaGreatPFa
import Derived.Test.YthpmalpdnnbkgaaGreatRows
import Derived.Test.YthpmalpdnnbkgaaGreatBTq
set_option linter.unusedVariables false
set_option linter.unusedSimpArgs false
set_option maxRecDepth 100000
namespace Go.Proofs.YthpmalpdnnbkgaaGreat.Pl
open Vm
noncomputable section
def t6:Sum:= {ps:=[⟨[.int .i64,.int .i64,.int .i64,.int .i64,.int .i64],true⟩],rs:=[⟨[.imm (.int .i64)],false⟩],fn:=fun ds=>(true,[.int (dY (bh.ae ds 0))])}
def zA:Ctx:=[(215,EK)]
theorem ab6:ai Tryz.prog zA:=ab RO aq
def zB:List (Nat×dv):=[(3, {bJ:=[(3,.aU),(16,.aU),(17,.aU),(18,.aU)],boxes:=[(64,[])]})]
def kY:Int→aV:=(fun r0=>((true,[.int r0]):aV))
def mj (n:Int) (x:Int) (bl:Int) (ea:Int) (gx:Int) (d5:Int) (jL:Int) (jM:Int) (bz:Rows):St:= {n:=29,sl:=[(3,.int .i64 n),(16,.own 641024),(17,.int .i64 x),(18,.int .i64 bl)],hp:=[(64,.box 177 [.int .i64 ea,.int .i64 gx,.int .i64 d5,.int .i64 jL,.int .i64 jM]),(641024,.row 3 [.int .i64] bz false true)],ok:=true,ls:=[],lm:=[]}
noncomputable def ml (N:Nat):(St→aV)→St→aV:=dw Tryz.prog zA zB N Tryz.f216 t6 [true,true,false,true,false] []
theorem YS (N:Nat) (x:Int) (ea:Int) (gx:Int) (d5:Int) (jL:Int) (jM:Int) (bz:Rows) (ih:St→aV) (n:Int) (bl:Int):ml N ih (mj n x bl ea gx d5 jL jM bz)=xH Vm.bad kY x bz (fun n bl=>ih (mj n x bl ea gx d5 jL jM bz)) n bl:=by kernel_rfl
theorem YT (N:Nat) (x:Int) (ea:Int) (gx:Int) (d5:Int) (jL:Int) (jM:Int) (bz:Rows) (m_:Nat):(fun n bl=>aw (ml N) m_ (mj n x bl ea gx d5 jL jM bz))=fe Vm.bad kY N x bz m_:=by
 induction m_ with
 | zero=>rfl
 | succ m_ ih=>
  funext n bl
  show ml N (aw (ml N) m_) (mj n x bl ea gx d5 jL jM bz)=_
  rw[YS N x ea gx d5 jL jM bz]
  rw[ih]
  rfl
theorem ab7 (N:Nat) (f:bh):bg Tryz.prog zA zB N Tryz.f216 t6 (f.enc++([]))=zC Vm.bad kY N f:=by
 have cm:bg Tryz.prog zA zB N Tryz.f216 t6 (f.enc++([]))=zD Vm.bad kY (fun x bz n bl=>aw (ml N) N (mj n x bl f.Kind f.eb f.fb f.dt f.du bz)) f:=by kernel_rfl
 refine cm.trans ?_
 unfold zC
 have e0:(fun x bz n bl=>aw (ml N) N (mj n x bl f.Kind f.eb f.fb f.dt f.du bz))=(fun x bz=>fe Vm.bad kY N x bz N):=by
  funext x bz
  exact YT N x f.Kind f.eb f.fb f.dt f.du bz N
 exact congrArg (fun l_=>zD Vm.bad kY l_ f) e0
theorem ab8:Holds Tryz.prog 216 t6:=by
 refine aa (A:=zB) ab6 Tryz.func216 rfl (by kernel_rfl) (of_decide_eq_true (by kernel_rfl)) (of_decide_eq_true (by kernel_rfl)) ?_
 intro ds hw hok
 replace hw:WtL (bh.ct++([])) ds:=hw
 obtain⟨f,ds,rfl,Nb,hw⟩:=bh.aZ (r:=_) hw
 obtain rfl:=of_wt_nil hw
 obtain⟨N,hN⟩:=ab9 Vm.bad kY f Nb
 exact⟨N,((ab7 N f).trans hN).trans (by kernel_rfl)⟩
def t7:Sum:= {ps:=[⟨[.int .i64,.int .i64,.int .i64,.int .i64,.int .i64],true⟩],rs:=[⟨[.imm (.int .i64)],false⟩],fn:=fun ds=>(true,[.int (dY (bh.ae ds 0))])}
def zE:Ctx:=[]
theorem ab_:ai Tryz.prog zE:=aq
def zF:List (Nat×dv):=[(4, {bJ:=[(3,.aU),(4,.aU),(5,.aU)],boxes:=[(64,[])]})]
def kZ:Int→aV:=(fun r0=>((true,[.int r0]):aV))
def mm (n:Int) (k:Int) (ea:Int) (gx:Int) (d5:Int) (jL:Int) (jM:Int) (af:Rows):St:= {n:=32,sl:=[(3,.int .i64 n),(4,.own 640256),(5,.int .i64 k)],hp:=[(64,.box 177 [.int .i64 ea,.int .i64 gx,.int .i64 d5,.int .i64 jL,.int .i64 jM]),(640256,.row 3 [.int .i64] af false true)],ok:=true,ls:=[],lm:=[]}
noncomputable def mn (N:Nat):(St→aV)→St→aV:=dw Tryz.prog zE zF N Tryz.f214 t7 [true,true,true,false,true,false] []
theorem YU (N:Nat) (ea:Int) (gx:Int) (d5:Int) (jL:Int) (jM:Int) (af:Rows) (ih:St→aV) (n:Int) (k:Int):mn N ih (mm n k ea gx d5 jL jM af)=xI Vm.bad kZ af (fun n k=>ih (mm n k ea gx d5 jL jM af)) n k:=by kernel_rfl
theorem YV (N:Nat) (ea:Int) (gx:Int) (d5:Int) (jL:Int) (jM:Int) (af:Rows) (m_:Nat):(fun n k=>aw (mn N) m_ (mm n k ea gx d5 jL jM af))=ff Vm.bad kZ N af m_:=by
 induction m_ with
 | zero=>rfl
 | succ m_ ih=>
  funext n k
  show mn N (aw (mn N) m_) (mm n k ea gx d5 jL jM af)=_
  rw[YU N ea gx d5 jL jM af]
  rw[ih]
  rfl
theorem aca (N:Nat) (f:bh):bg Tryz.prog zE zF N Tryz.f214 t7 (f.enc++([]))=zG Vm.bad kZ N f:=by
 have cm:bg Tryz.prog zE zF N Tryz.f214 t7 (f.enc++([]))=zH Vm.bad kZ (fun af n k=>aw (mn N) N (mm n k f.Kind f.eb f.fb f.dt f.du af)) f:=by kernel_rfl
 refine cm.trans ?_
 unfold zG
 have e0:(fun af n k=>aw (mn N) N (mm n k f.Kind f.eb f.fb f.dt f.du af))=(fun af=>ff Vm.bad kZ N af N):=by
  funext af
  exact YV N f.Kind f.eb f.fb f.dt f.du af N
 exact congrArg (fun l_=>zH Vm.bad kZ l_ f) e0
theorem acb:Holds Tryz.prog 214 t7:=by
 refine aa (A:=zF) ab_ Tryz.func214 rfl (by kernel_rfl) (of_decide_eq_true (by kernel_rfl)) (of_decide_eq_true (by kernel_rfl)) ?_
 intro ds hw hok
 replace hw:WtL (bh.ct++([])) ds:=hw
 obtain⟨f,ds,rfl,Nb,hw⟩:=bh.aZ (r:=_) hw
 obtain rfl:=of_wt_nil hw
 obtain⟨N,hN⟩:=acd Vm.bad kZ f Nb
 exact⟨N,((aca N f).trans hN).trans (by kernel_rfl)⟩
def yU:Sum:= {ps:=[⟨[.sl [.int .i64,.int .i64,.int .i64,.int .i64,.int .i64,.int .i64,.int .i64]],true⟩,⟨[.int .i64,.int .i64,.int .i64,.int .i64,.int .i64],true⟩],rs:=[⟨[.imm (.int .i64)],false⟩],fn:=fun ds=>(true,[.int (Tq (ag.ae ds 0) (bh.ae ds 1))])}
def EL:Ctx:=[]
theorem ajq:ai Tryz.prog EL:=aq
def EM:List (Nat×dv):=[(2, {bJ:=[(3,.aU),(8,.aU),(9,.aU),(10,.aU)],boxes:=[(128,[]),(192,[])]})]
def qE:Int→aV:=(fun r0=>((true,[.int r0]):aV))
def rH (x:Rows) (bl:Int) (bz:Int) (fj:Rows) (ea:Int) (gx:Int) (d5:Int) (jL:Int) (jM:Int):St:= {n:=26,sl:=[(3,.ptr 192 0),(8,.sl [.int .i64,.int .i64,.int .i64,.int .i64,.int .i64,.int .i64,.int .i64] x),(9,.int .i64 bl),(10,.int .i64 bz)],hp:=[(128,.box 69 [.sl [.int .i64,.int .i64,.int .i64,.int .i64,.int .i64,.int .i64,.int .i64] fj]),(192,.box 177 [.int .i64 ea,.int .i64 gx,.int .i64 d5,.int .i64 jL,.int .i64 jM])],ok:=true,ls:=[],lm:=[]}
noncomputable def rJ (N:Nat):(St→aV)→St→aV:=dw Tryz.prog EL EM N Tryz.f208 yU [true,false,true,false] []
theorem afO (N:Nat) (x:Rows) (bl:Int) (fj:Rows) (ea:Int) (gx:Int) (d5:Int) (jL:Int) (jM:Int) (ih:St→aV) (bz:Int):rJ N ih (rH x bl bz fj ea gx d5 jL jM)=vM Vm.bad qE x bl ea gx d5 jL jM (fun bz=>ih (rH x bl bz fj ea gx d5 jL jM)) bz:=by kernel_rfl
theorem afP (N:Nat) (x:Rows) (bl:Int) (fj:Rows) (ea:Int) (gx:Int) (d5:Int) (jL:Int) (jM:Int) (m_:Nat):(fun bz=>aw (rJ N) m_ (rH x bl bz fj ea gx d5 jL jM))=na Vm.bad qE N x bl ea gx d5 jL jM m_:=by
 induction m_ with
 | zero=>rfl
 | succ m_ ih=>
  funext bz
  show rJ N (aw (rJ N) m_) (rH x bl bz fj ea gx d5 jL jM)=_
  rw[afO N x bl fj ea gx d5 jL jM]
  rw[ih]
  rfl
theorem ajr (N:Nat) (t:ag) (f:bh):bg Tryz.prog EL EM N Tryz.f208 yU (t.enc++(f.enc++([])))=EO Vm.bad qE N t f:=by
 have cm:bg Tryz.prog EL EM N Tryz.f208 yU (t.enc++(f.enc++([])))=EP Vm.bad qE (fun x bl ea gx d5 jL jM bz=>aw (rJ N) N (rH x bl bz t.aL ea gx d5 jL jM)) t f:=by kernel_rfl
 refine cm.trans ?_
 unfold EO
 have e0:(fun x bl ea gx d5 jL jM bz=>aw (rJ N) N (rH x bl bz t.aL ea gx d5 jL jM))=(fun x bl ea gx d5 jL jM=>na Vm.bad qE N x bl ea gx d5 jL jM N):=by
  funext x bl ea gx d5 jL jM
  exact afP N x bl t.aL ea gx d5 jL jM N
 exact congrArg (fun l_=>EP Vm.bad qE l_ t f) e0
theorem ajs:Holds Tryz.prog 208 yU:=by
 refine aa (A:=EM) ajq Tryz.func208 rfl (by kernel_rfl) (of_decide_eq_true (by kernel_rfl)) (of_decide_eq_true (by kernel_rfl)) ?_
 intro ds hw hok
 replace hw:WtL (ag.ct++(bh.ct++([]))) ds:=hw
 obtain⟨t,ds,rfl,h_t,hw⟩:=ag.aZ (r:=_) hw
 obtain⟨f,ds,rfl,Nb,hw⟩:=bh.aZ (r:=_) hw
 obtain rfl:=of_wt_nil hw
 obtain⟨N,hN⟩:=ajt Vm.bad qE t f h_t Nb
 exact⟨N,((ajr N t f).trans hN).trans (by kernel_rfl)⟩
def vN:Sum:= {ps:=[⟨[.sl [.int .i64,.int .i64,.int .i64,.int .i64,.int .i64,.int .i64,.int .i64]],true⟩,⟨[.int .i64,.int .i64,.int .i64,.int .i64,.int .i64],true⟩],rs:=[⟨[.imm (.int .i64)],false⟩],fn:=fun ds=>(aoK (ag.ae ds 0) (bh.ae ds 1),[.int (MG (ag.ae ds 0) (bh.ae ds 1))])}
def Bx:Ctx:=[(214,t7)]
theorem afQ:ai Tryz.prog Bx:=ab acb aq
def Bz:List (Nat×dv):=[(2, {bJ:=[(2,.aU),(3,.aU),(5,.aU)],boxes:=[(128,[]),(192,[])]})]
def nc:Int→aV:=(fun r0=>((true,[.int r0]):aV))
def oE (k:Int) (fj:Rows) (ea:Int) (gx:Int) (d5:Int) (jL:Int) (jM:Int):St:= {n:=41,sl:=[(2,.ptr 128 0),(3,.ptr 192 0),(5,.int .i64 k)],hp:=[(128,.box 69 [.sl [.int .i64,.int .i64,.int .i64,.int .i64,.int .i64,.int .i64,.int .i64] fj]),(192,.box 177 [.int .i64 ea,.int .i64 gx,.int .i64 d5,.int .i64 jL,.int .i64 jM])],ok:=true,ls:=[],lm:=[]}
noncomputable def oF (N:Nat):(St→aV)→St→aV:=dw Tryz.prog Bx Bz N Tryz.f200 vN [true,false,true,false] []
theorem ace (N:Nat) (fj:Rows) (ea:Int) (gx:Int) (d5:Int) (jL:Int) (jM:Int) (ih:St→aV) (k:Int):oF N ih (oE k fj ea gx d5 jL jM)=zI Vm.bad nc fj ea gx d5 jL jM (fun k=>ih (oE k fj ea gx d5 jL jM)) k:=by kernel_rfl
theorem acf (N:Nat) (fj:Rows) (ea:Int) (gx:Int) (d5:Int) (jL:Int) (jM:Int) (m_:Nat):(fun k=>aw (oF N) m_ (oE k fj ea gx d5 jL jM))=fI Vm.bad nc N fj ea gx d5 jL jM m_:=by
 induction m_ with
 | zero=>rfl
 | succ m_ ih=>
  funext k
  show oF N (aw (oF N) m_) (oE k fj ea gx d5 jL jM)=_
  rw[ace N fj ea gx d5 jL jM]
  rw[ih]
  rfl
theorem afR (N:Nat) (t:ag) (f:bh):bg Tryz.prog Bx Bz N Tryz.f200 vN (t.enc++(f.enc++([])))=BA Vm.bad nc N t f:=by
 have cm:bg Tryz.prog Bx Bz N Tryz.f200 vN (t.enc++(f.enc++([])))=BB Vm.bad nc (fun fj ea gx d5 jL jM k=>aw (oF N) N (oE k fj ea gx d5 jL jM)) t f:=by kernel_rfl
 refine cm.trans ?_
 unfold BA
 have e0:(fun fj ea gx d5 jL jM k=>aw (oF N) N (oE k fj ea gx d5 jL jM))=(fun fj ea gx d5 jL jM=>fI Vm.bad nc N fj ea gx d5 jL jM N):=by
  funext fj ea gx d5 jL jM
  exact acf N fj ea gx d5 jL jM N
 exact congrArg (fun l_=>BB Vm.bad nc l_ t f) e0
theorem afS:Holds Tryz.prog 200 vN:=by
 refine aa (A:=Bz) afQ Tryz.func200 rfl (by kernel_rfl) (of_decide_eq_true (by kernel_rfl)) (of_decide_eq_true (by kernel_rfl)) ?_
 intro ds hw hok
 replace hw:WtL (ag.ct++(bh.ct++([]))) ds:=hw
 obtain⟨t,ds,rfl,h_t,hw⟩:=ag.aZ (r:=_) hw
 obtain⟨f,ds,rfl,Nb,hw⟩:=bh.aZ (r:=_) hw
 obtain rfl:=of_wt_nil hw
 obtain⟨N,hN⟩:=afT Vm.bad nc t f h_t Nb hok
 exact⟨N,((afR N t f).trans hN).trans (by kernel_rfl)⟩
def BC:Sum:= {ps:=[⟨[.int .i64,.int .i64,.int .i64,.int .i64,.int .i64],true⟩],rs:=[⟨[.own 3 [.int .i64]],false⟩],fn:=fun ds=>(true,[.sl (GY (bh.ae ds 0))])}
def Hs:Ctx:=[(216,t6)]
theorem alX:ai Tryz.prog Hs:=ab ab8 aq
def Ht:List (Nat×dv):=[(3, {bJ:=[(1,.aU),(3,.aU),(4,.aU)],boxes:=[(64,[])]})]
def tv:Rows→aV:=(fun r0=>((true,[.sl r0]):aV))
def uQ (i:Int) (ea:Int) (gx:Int) (d5:Int) (jL:Int) (jM:Int) (az:Rows):St:= {n:=19,sl:=[(1,.ptr 64 0),(3,.own 640192),(4,.int .i64 i)],hp:=[(64,.box 177 [.int .i64 ea,.int .i64 gx,.int .i64 d5,.int .i64 jL,.int .i64 jM]),(640192,.row 3 [.int .i64] az false true)],ok:=true,ls:=[],lm:=[]}
noncomputable def uR (N:Nat):(St→aV)→St→aV:=dw Tryz.prog Hs Ht N Tryz.f209 BC [true,true,false,true,false] []
theorem aju (N:Nat) (ea:Int) (gx:Int) (d5:Int) (jL:Int) (jM:Int) (ih:St→aV) (i:Int) (az:Rows):uR N ih (uQ i ea gx d5 jL jM az)=ER Vm.bad tv ea gx d5 jL jM (fun i az=>ih (uQ i ea gx d5 jL jM az)) i az:=by kernel_rfl
theorem ajv (N:Nat) (ea:Int) (gx:Int) (d5:Int) (jL:Int) (jM:Int) (m_:Nat):(fun i az=>aw (uR N) m_ (uQ i ea gx d5 jL jM az))=jk Vm.bad tv N ea gx d5 jL jM m_:=by
 induction m_ with
 | zero=>rfl
 | succ m_ ih=>
  funext i az
  show uR N (aw (uR N) m_) (uQ i ea gx d5 jL jM az)=_
  rw[aju N ea gx d5 jL jM]
  rw[ih]
  rfl
theorem alY (N:Nat) (f:bh):bg Tryz.prog Hs Ht N Tryz.f209 BC (f.enc++([]))=Hu Vm.bad tv N f:=by
 have cm:bg Tryz.prog Hs Ht N Tryz.f209 BC (f.enc++([]))=Hv Vm.bad tv (fun ea gx d5 jL jM i az=>aw (uR N) N (uQ i ea gx d5 jL jM az)) f:=by kernel_rfl
 refine cm.trans ?_
 unfold Hu
 have e0:(fun ea gx d5 jL jM i az=>aw (uR N) N (uQ i ea gx d5 jL jM az))=(fun ea gx d5 jL jM=>jk Vm.bad tv N ea gx d5 jL jM N):=by
  funext ea gx d5 jL jM
  exact ajv N ea gx d5 jL jM N
 exact congrArg (fun l_=>Hv Vm.bad tv l_ f) e0
theorem alZ:Holds Tryz.prog 209 BC:=by
 refine aa (A:=Ht) alX Tryz.func209 rfl (by kernel_rfl) (of_decide_eq_true (by kernel_rfl)) (of_decide_eq_true (by kernel_rfl)) ?_
 intro ds hw hok
 replace hw:WtL (bh.ct++([])) ds:=hw
 obtain⟨f,ds,rfl,Nb,hw⟩:=bh.aZ (r:=_) hw
 obtain rfl:=of_wt_nil hw
 obtain⟨N,hN⟩:=al0 Vm.bad tv f Nb
 exact⟨N,((alY N f).trans hN).trans (by kernel_rfl)⟩
end
end Go.Proofs.YthpmalpdnnbkgaaGreat.Pl
