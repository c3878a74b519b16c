/- The contracts of functions of the program: each computes what its plain form says. Conditions: none. -/
import Derived.Test.YthpmalpdnnbkgaaGreatPMo
import Derived.Test.YthpmalpdnnbkgaaGreatRows
import Derived.Test.YthpmalpdnnbkgaaGreatBMp
set_option linter.unusedVariables false
set_option linter.unusedSimpArgs false
set_option maxRecDepth 100000
namespace Go.Proofs.YthpmalpdnnbkgaaGreat.Pl
open Vm
noncomputable section
def tz:Sum:= {ps:=[⟨[.sl [.str]],false⟩],rs:=[⟨[.own 9 [.str]],false⟩],fn:=fun ds=>(sm (rR ds 0),[.sl (ca (rR ds 0))])}
def It:Ctx:=[]
theorem Ui:ai Tryz.prog It:=aq
def Iu:List (Nat×dv):=[]
theorem Uj (N:Nat) (l:Rows):bg Tryz.prog It Iu N Tryz.f138 tz (.sl l::([]))=A3 Vm.bad (fun r0=>((true,[.sl r0]):aV)) l:=by kernel_rfl
theorem Ib:Holds Tryz.prog 138 tz:=by
 refine aa (A:=Iu) Ui Tryz.func138 rfl (by kernel_rfl) (of_decide_eq_true (by kernel_rfl)) (of_decide_eq_true (by kernel_rfl)) ?_
 intro ds hw hok
 replace hw:WtL ((.sl [.str])::([])) ds:=hw
 obtain⟨l,ds,rfl,h_l,hw⟩:=of_wt_sl hw
 obtain rfl:=of_wt_nil hw
 exact⟨0,((Uj 0 l).trans (Uk Vm.bad _ l h_l hok)).trans (by kernel_rfl)⟩
def B4:Sum:= {ps:=[⟨[.sl [.str]],true⟩],rs:=[⟨[.own 9 [.str]],true⟩],fn:=fun ds=>(V1 (aK.ae ds 0),aK.enc (ca (aK.ae ds 0)))}
def J4:Ctx:=[(138,tz)]
theorem Xl:ai Tryz.prog J4:=ab Ib aq
def J5:List (Nat×dv):=[]
theorem Xm (N:Nat) (m:aK):bg Tryz.prog J4 J5 N Tryz.f131 B4 (m.enc++([]))=Dd Vm.bad (fun r0=>((true,aK.enc r0):aV)) m:=by kernel_rfl
theorem V_:Holds Tryz.prog 131 B4:=by
 refine aa (A:=J5) Xl Tryz.func131 rfl (by kernel_rfl) (of_decide_eq_true (by kernel_rfl)) (of_decide_eq_true (by kernel_rfl)) ?_
 intro ds hw hok
 replace hw:WtL (aK.ct++([])) ds:=hw
 obtain⟨m,ds,rfl,h_m,hw⟩:=aK.aZ (r:=_) hw
 obtain rfl:=of_wt_nil hw
 exact⟨0,((Xm 0 m).trans (Xn Vm.bad _ m h_m hok)).trans (by kernel_rfl)⟩
def uh:Sum:= {ps:=[⟨[.sl [.str]],true⟩],rs:=[⟨[.imm .bool],false⟩],fn:=fun ds=>(true,[.bool (jF (aK.ae ds 0))])}
def AB:Ctx:=[]
theorem aeQ:ai Tryz.prog AB:=aq
def AD:List (Nat×dv):=[(2, {bJ:=[(1,.aU),(6,.aU),(7,.aU),(8,.aU)],boxes:=[(64,[])]})]
def ly:Bool→aV:=(fun r0=>((true,[.bool r0]):aV))
def mV (x:Rows) (bl:Int) (bz:Int) (Bv:Rows):St:= {n:=20,sl:=[(1,.ptr 64 0),(6,.sl [.str] x),(7,.int .i64 bl),(8,.int .i64 bz)],hp:=[(64,.box 55 [.sl [.str] Bv])],ok:=true,ls:=[],lm:=[]}
noncomputable def mW (N:Nat):(St→aV)→St→aV:=dw Tryz.prog AB AD N Tryz.f139 uh [true,false,true,false] []
theorem aaE (N:Nat) (x:Rows) (bl:Int) (Bv:Rows) (ih:St→aV) (bz:Int):mW N ih (mV x bl bz Bv)=sB Vm.bad ly x bl Bv (fun bz=>ih (mV x bl bz Bv)) bz:=by kernel_rfl
theorem aaF (N:Nat) (x:Rows) (bl:Int) (Bv:Rows) (m_:Nat):(fun bz=>aw (mW N) m_ (mV x bl bz Bv))=mX Vm.bad ly N x bl Bv m_:=by
 induction m_ with
 | zero=>rfl
 | succ m_ ih=>
  funext bz
  show mW N (aw (mW N) m_) (mV x bl bz Bv)=_
  rw[aaE N x bl Bv]
  rw[ih]
  rfl
theorem aeR (N:Nat) (m:aK):bg Tryz.prog AB AD N Tryz.f139 uh (m.enc++([]))=AE Vm.bad ly N m:=by
 have cm:bg Tryz.prog AB AD N Tryz.f139 uh (m.enc++([]))=AF Vm.bad ly (fun x bl Bv bz=>aw (mW N) N (mV x bl bz Bv)) m:=by kernel_rfl
 refine cm.trans ?_
 unfold AE
 have e0:(fun x bl Bv bz=>aw (mW N) N (mV x bl bz Bv))=(fun x bl Bv=>mX Vm.bad ly N x bl Bv N):=by
  funext x bl Bv
  exact aaF N x bl Bv N
 exact congrArg (fun l_=>AF Vm.bad ly l_ m) e0
theorem acM:Holds Tryz.prog 139 uh:=by
 refine aa (A:=AD) aeQ Tryz.func139 rfl (by kernel_rfl) (of_decide_eq_true (by kernel_rfl)) (of_decide_eq_true (by kernel_rfl)) ?_
 intro ds hw hok
 replace hw:WtL (aK.ct++([])) ds:=hw
 obtain⟨m,ds,rfl,h_m,hw⟩:=aK.aZ (r:=_) hw
 obtain rfl:=of_wt_nil hw
 obtain⟨N,hN⟩:=aeS Vm.bad ly m h_m
 exact⟨N,((aeR N m).trans hN).trans (by kernel_rfl)⟩
def ui:Sum:= {ps:=[⟨[.sl [.str]],true⟩],rs:=[⟨[.imm .bool],false⟩],fn:=fun ds=>(true,[.bool (jF (aK.ae ds 0))])}
def AG:Ctx:=[]
theorem aeT:ai Tryz.prog AG:=aq
def AH:List (Nat×dv):=[(2, {bJ:=[(1,.aU),(3,.aU)],boxes:=[(64,[])]})]
def lz:Bool→aV:=(fun r0=>((true,[.bool r0]):aV))
def mY (k:Int) (Bv:Rows):St:= {n:=22,sl:=[(1,.ptr 64 0),(3,.int .i64 k)],hp:=[(64,.box 55 [.sl [.str] Bv])],ok:=true,ls:=[],lm:=[]}
noncomputable def mZ (N:Nat):(St→aV)→St→aV:=dw Tryz.prog AG AH N Tryz.f121 ui [true,false,true,false] []
theorem aaG (N:Nat) (Bv:Rows) (ih:St→aV) (k:Int):mZ N ih (mY k Bv)=sC Vm.bad lz Bv (fun k=>ih (mY k Bv)) k:=by kernel_rfl
theorem aaH (N:Nat) (Bv:Rows) (m_:Nat):(fun k=>aw (mZ N) m_ (mY k Bv))=m0 Vm.bad lz N Bv m_:=by
 induction m_ with
 | zero=>rfl
 | succ m_ ih=>
  funext k
  show mZ N (aw (mZ N) m_) (mY k Bv)=_
  rw[aaG N Bv]
  rw[ih]
  rfl
theorem aeU (N:Nat) (m:aK):bg Tryz.prog AG AH N Tryz.f121 ui (m.enc++([]))=AJ Vm.bad lz N m:=by
 have cm:bg Tryz.prog AG AH N Tryz.f121 ui (m.enc++([]))=AL Vm.bad lz (fun Bv k=>aw (mZ N) N (mY k Bv)) m:=by kernel_rfl
 refine cm.trans ?_
 unfold AJ
 have e0:(fun Bv k=>aw (mZ N) N (mY k Bv))=(fun Bv=>m0 Vm.bad lz N Bv N):=by
  funext Bv
  exact aaH N Bv N
 exact congrArg (fun l_=>AL Vm.bad lz l_ m) e0
theorem acN:Holds Tryz.prog 121 ui:=by
 refine aa (A:=AH) aeT Tryz.func121 rfl (by kernel_rfl) (of_decide_eq_true (by kernel_rfl)) (of_decide_eq_true (by kernel_rfl)) ?_
 intro ds hw hok
 replace hw:WtL (aK.ct++([])) ds:=hw
 obtain⟨m,ds,rfl,h_m,hw⟩:=aK.aZ (r:=_) hw
 obtain rfl:=of_wt_nil hw
 obtain⟨N,hN⟩:=aeV Vm.bad lz m h_m
 exact⟨N,((aeU N m).trans hN).trans (by kernel_rfl)⟩
end
end Go.Proofs.YthpmalpdnnbkgaaGreat.Pl
