/- The contracts of functions of the program: each computes what its plain form says. Conditions: none. -/
import Derived.Test.YthpmalpdnnbkgaaGreatPFb
import Derived.Test.YthpmalpdnnbkgaaGreatRows
import Derived.Test.YthpmalpdnnbkgaaGreatBFa
set_option linter.unusedVariables false
set_option linter.unusedSimpArgs false
set_option maxRecDepth 100000
namespace Go.Proofs.YthpmalpdnnbkgaaGreat.Pl
open Vm
noncomputable section
def rK:Sum:= {ps:=[⟨[.sl [.int .i64,.int .i64,.int .i64,.int .i64,.int .i64,.int .i64,.int .i64]],true⟩],rs:=[⟨[.imm .bool],false⟩],fn:=fun ds=>(true,[.bool (vb (ag.ae ds 0))])}
def vO:Ctx:=[(143,dI),(208,yU),(209,BC)]
theorem afU:ai Tryz.prog vO:=ab dX (ab ajs (ab alZ aq))
def vP:List (Nat×dv):=[(4, {bJ:=[(1,.aU),(12,.aU),(13,.aU),(14,.aU)],boxes:=[(64,[])]}),(14, {bJ:=[(1,.aU),(3,.aU),(12,.aU),(13,.aU),(14,.aU),(49,.aU),(50,.aU),(51,.aU)],boxes:=[(64,[]),(256,[])]})]
def gz:Bool→aV:=(fun r0=>((true,[.bool r0]):aV))
def ig (x:Rows) (bl:Int) (bz:Int) (fj:Rows):St:= {n:=67,sl:=[(1,.ptr 64 0),(12,.sl [.int .i64,.int .i64,.int .i64,.int .i64,.int .i64,.int .i64,.int .i64] x),(13,.int .i64 bl),(14,.int .i64 bz)],hp:=[(64,.box 69 [.sl [.int .i64,.int .i64,.int .i64,.int .i64,.int .i64,.int .i64,.int .i64] fj])],ok:=true,ls:=[],lm:=[]}
def t8 (bz:Int) (x:Rows) (bl:Int) (Hw:Int) (x_6:Int) (x_7:Int) (fj:Rows) (s:Int) (qD:Int) (eu:Int) (HE:Int) (HF:Int) (s_5:Int) (s_6:Int) (U8:Rows):St:= {n:=67,sl:=[(1,.ptr 64 0),(3,.int .i64 bz),(12,.sl [.int .i64,.int .i64,.int .i64,.int .i64,.int .i64,.int .i64,.int .i64] x),(13,.int .i64 bl),(14,.int .i64 Hw),(49,.own 643136),(50,.int .i64 x_6),(51,.int .i64 x_7)],hp:=[(64,.box 69 [.sl [.int .i64,.int .i64,.int .i64,.int .i64,.int .i64,.int .i64,.int .i64] fj]),(256,.box 242 [.int .i64 s,.int .i64 qD,.int .i64 eu,.int .i64 HE,.int .i64 HF,.int .i64 s_5,.int .i64 s_6]),(643136,.row 3 [.int .i64] U8 false true)],ok:=true,ls:=[],lm:=[]}
noncomputable def t9 (N:Nat) (o0:St→aV):(St→aV)→St→aV:=dw Tryz.prog vO vP N Tryz.f189 rK [true,true,false,true,false,false,true,true,false,false,true,true,true,true,true,false] [o0]
noncomputable def la (N:Nat):(St→aV)→St→aV:=dw Tryz.prog vO vP N Tryz.f189 rK [true,true,false,true,false] []
theorem acg (N:Nat) (o0:St→aV) (bz:Int) (x:Rows) (bl:Int) (Hw:Int) (x_6:Int) (fj:Rows) (s:Int) (qD:Int) (eu:Int) (HE:Int) (HF:Int) (s_5:Int) (s_6:Int) (U8:Rows) (ih:St→aV) (x_7:Int):t9 N o0 ih (t8 bz x bl Hw x_6 x_7 fj s qD eu HE HF s_5 s_6 U8)=t_ Vm.bad gz (fun bz=>o0 (ig x bl bz fj)) bz Hw x_6 fj U8 (fun x_7=>ih (t8 bz x bl Hw x_6 x_7 fj s qD eu HE HF s_5 s_6 U8)) x_7:=by kernel_rfl
theorem ach (N:Nat) (o0:St→aV) (bz:Int) (x:Rows) (bl:Int) (Hw:Int) (x_6:Int) (fj:Rows) (s:Int) (qD:Int) (eu:Int) (HE:Int) (HF:Int) (s_5:Int) (s_6:Int) (U8:Rows) (m_:Nat):(fun x_7=>aw (t9 N o0) m_ (t8 bz x bl Hw x_6 x_7 fj s qD eu HE HF s_5 s_6 U8))=lb Vm.bad gz N (fun bz=>o0 (ig x bl bz fj)) bz Hw x_6 fj U8 m_:=by
 induction m_ with
 | zero=>rfl
 | succ m_ ih=>
  funext x_7
  show t9 N o0 (aw (t9 N o0) m_) (t8 bz x bl Hw x_6 x_7 fj s qD eu HE HF s_5 s_6 U8)=_
  rw[acg N o0 bz x bl Hw x_6 fj s qD eu HE HF s_5 s_6 U8]
  rw[ih]
  rfl
theorem aci (N:Nat) (x:Rows) (bl:Int) (fj:Rows) (ih:St→aV) (bz:Int):la N ih (ig x bl bz fj)=ua Vm.bad gz (fun bz Hw x_6 U8 x_7=>aw (t9 N ih) N (t8 bz x bl Hw x_6 x_7 fj (rI (nth x (Int.toNat bz)) 0) (rI (nth x (Int.toNat bz)) 1) (rI (nth x (Int.toNat bz)) 2) (rI (nth x (Int.toNat bz)) 3) (rI (nth x (Int.toNat bz)) 4) (rI (nth x (Int.toNat bz)) 5) (rI (nth x (Int.toNat bz)) 6) U8)) x bl fj (fun bz=>ih (ig x bl bz fj)) bz:=by kernel_rfl
theorem acj (N:Nat) (x:Rows) (bl:Int) (fj:Rows) (m_:Nat):(fun bz=>aw (la N) m_ (ig x bl bz fj))=ij Vm.bad gz N x bl fj m_:=by
 induction m_ with
 | zero=>rfl
 | succ m_ ih=>
  funext bz
  show la N (aw (la N) m_) (ig x bl bz fj)=_
  rw[aci N x bl fj]
  have e1:=funext fun bz=>funext fun Hw=>funext fun x_6=>funext fun U8=>ach N (aw (la N) m_) bz x bl Hw x_6 fj (rI (nth x (Int.toNat bz)) 0) (rI (nth x (Int.toNat bz)) 1) (rI (nth x (Int.toNat bz)) 2) (rI (nth x (Int.toNat bz)) 3) (rI (nth x (Int.toNat bz)) 4) (rI (nth x (Int.toNat bz)) 5) (rI (nth x (Int.toNat bz)) 6) U8 N
  rw[e1]
  rw[ih]
  rfl
theorem afV (N:Nat) (t:ag):bg Tryz.prog vO vP N Tryz.f189 rK (t.enc++([]))=BD Vm.bad gz N t:=by
 have cm:bg Tryz.prog vO vP N Tryz.f189 rK (t.enc++([]))=BF Vm.bad gz (fun x bl fj bz=>aw (la N) N (ig x bl bz fj)) t:=by kernel_rfl
 refine cm.trans ?_
 unfold BD
 have e0:(fun x bl fj bz=>aw (la N) N (ig x bl bz fj))=(fun x bl fj=>ij Vm.bad gz N x bl fj N):=by
  funext x bl fj
  exact acj N x bl fj N
 exact congrArg (fun l_=>BF Vm.bad gz l_ t) e0
theorem afW:Holds Tryz.prog 189 rK:=by
 refine aa (A:=vP) afU Tryz.func189 rfl (by kernel_rfl) (of_decide_eq_true (by kernel_rfl)) (of_decide_eq_true (by kernel_rfl)) ?_
 intro ds hw hok
 replace hw:WtL (ag.ct++([])) ds:=hw
 obtain⟨t,ds,rfl,h_t,hw⟩:=ag.aZ (r:=_) hw
 obtain rfl:=of_wt_nil hw
 obtain⟨N,hN⟩:=afX Vm.bad gz t h_t
 exact⟨N,((afV N t).trans hN).trans (by kernel_rfl)⟩
def vQ:Sum:= {ps:=[⟨[.sl [.int .i64,.int .i64,.int .i64,.int .i64,.int .i64,.int .i64,.int .i64]],true⟩],rs:=[⟨[.imm .bool],false⟩],fn:=fun ds=>(true,[.bool (vb (ag.ae ds 0))])}
def BG:Ctx:=[(125,d9),(200,vN)]
theorem afY:ai Tryz.prog BG:=ab eE (ab afS aq)
def BH:List (Nat×dv):=[(4, {bJ:=[(1,.aU),(3,.aU)],boxes:=[(64,[])]})]
def nd:Bool→aV:=(fun r0=>((true,[.bool r0]):aV))
def oG (k:Int) (fj:Rows):St:= {n:=49,sl:=[(1,.ptr 64 0),(3,.int .i64 k)],hp:=[(64,.box 69 [.sl [.int .i64,.int .i64,.int .i64,.int .i64,.int .i64,.int .i64,.int .i64] fj])],ok:=true,ls:=[],lm:=[]}
noncomputable def oH (N:Nat):(St→aV)→St→aV:=dw Tryz.prog BG BH N Tryz.f174 vQ [true,true,false,true,false] []
theorem ack (N:Nat) (fj:Rows) (ih:St→aV) (k:Int):oH N ih (oG k fj)=ub Vm.bad nd fj (fun k=>ih (oG k fj)) k:=by kernel_rfl
theorem acm (N:Nat) (fj:Rows) (m_:Nat):(fun k=>aw (oH N) m_ (oG k fj))=ld Vm.bad nd N fj m_:=by
 induction m_ with
 | zero=>rfl
 | succ m_ ih=>
  funext k
  show oH N (aw (oH N) m_) (oG k fj)=_
  rw[ack N fj]
  rw[ih]
  rfl
theorem afZ (N:Nat) (t:ag):bg Tryz.prog BG BH N Tryz.f174 vQ (t.enc++([]))=BI Vm.bad nd N t:=by
 have cm:bg Tryz.prog BG BH N Tryz.f174 vQ (t.enc++([]))=BJ Vm.bad nd (fun fj k=>aw (oH N) N (oG k fj)) t:=by kernel_rfl
 refine cm.trans ?_
 unfold BI
 have e0:(fun fj k=>aw (oH N) N (oG k fj))=(fun fj=>ld Vm.bad nd N fj N):=by
  funext fj
  exact acm N fj N
 exact congrArg (fun l_=>BJ Vm.bad nd l_ t) e0
theorem af0:Holds Tryz.prog 174 vQ:=by
 refine aa (A:=BH) afY Tryz.func174 rfl (by kernel_rfl) (of_decide_eq_true (by kernel_rfl)) (of_decide_eq_true (by kernel_rfl)) ?_
 intro ds hw hok
 replace hw:WtL (ag.ct++([])) ds:=hw
 obtain⟨t,ds,rfl,h_t,hw⟩:=ag.aZ (r:=_) hw
 obtain rfl:=of_wt_nil hw
 obtain⟨N,hN⟩:=af1 Vm.bad nd t h_t
 exact⟨N,((afZ N t).trans hN).trans (by kernel_rfl)⟩
end
end Go.Proofs.YthpmalpdnnbkgaaGreat.Pl
