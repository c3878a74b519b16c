/- The contracts of functions of the program: each computes what its plain form says. Conditions: none. -/
import Derived.Test.YthpmalpdnnbkgaaGreatPMp
import Derived.Test.YthpmalpdnnbkgaaGreatRows
import Derived.Test.YthpmalpdnnbkgaaGreatBSx
import Derived.Test.YthpmalpdnnbkgaaGreatBBa
set_option linter.unusedVariables false
set_option linter.unusedSimpArgs false
set_option maxRecDepth 100000
namespace Go.Proofs.YthpmalpdnnbkgaaGreat.Pl
open Vm
noncomputable section
def nY:Sum:= {ps:=[⟨[.sl [.int .i64,.int .i64,.int .i64,.bool]],false⟩,⟨[.int .i64],false⟩,⟨[.int .i64],false⟩],rs:=[⟨[.imm (.int .i64)],false⟩],fn:=fun ds=>(true,[.int (wI (rR ds 0) (rI ds 1) (rI ds 2))])}
def tM:Ctx:=[]
theorem Ul:ai Tryz.prog tM:=aq
def tN:List (Nat×dv):=[(2, {bJ:=[(1,.aU),(2,.aU),(9,.aU),(10,.aU),(11,.aU)],boxes:=[]})]
def fV:Int→aV:=(fun r0=>((true,[.int r0]):aV))
def hY (domain:Int) (dz:Int) (af:Rows) (bl:Int) (bz:Int):St:= {n:=28,sl:=[(1,.int .i64 domain),(2,.int .i64 dz),(9,.sl [.int .i64,.int .i64,.int .i64,.bool] af),(10,.int .i64 bl),(11,.int .i64 bz)],hp:=[],ok:=true,ls:=[],lm:=[]}
noncomputable def hZ (N:Nat):(St→aV)→St→aV:=dw Tryz.prog tM tN N Tryz.f182 nY [true,false,true,false] []
theorem RB (N:Nat) (domain:Int) (dz:Int) (af:Rows) (bl:Int) (ih:St→aV) (bz:Int):hZ N ih (hY domain dz af bl bz)=lQ Vm.bad fV domain dz af bl (fun bz=>ih (hY domain dz af bl bz)) bz:=by kernel_rfl
theorem RD (N:Nat) (domain:Int) (dz:Int) (af:Rows) (bl:Int) (m_:Nat):(fun bz=>aw (hZ N) m_ (hY domain dz af bl bz))=ia Vm.bad fV N domain dz af bl m_:=by
 induction m_ with
 | zero=>rfl
 | succ m_ ih=>
  funext bz
  show hZ N (aw (hZ N) m_) (hY domain dz af bl bz)=_
  rw[RB N domain dz af bl]
  rw[ih]
  rfl
theorem Um (N:Nat) (af:Rows) (domain:Int) (dz:Int):bg Tryz.prog tM tN N Tryz.f182 nY (.sl af::(.int domain::(.int dz::([]))))=tO Vm.bad fV N af domain dz:=by
 have cm:bg Tryz.prog tM tN N Tryz.f182 nY (.sl af::(.int domain::(.int dz::([]))))=tP Vm.bad fV (fun bl bz=>aw (hZ N) N (hY domain dz af bl bz)) af domain dz:=by kernel_rfl
 refine cm.trans ?_
 unfold tO
 have e0:(fun bl bz=>aw (hZ N) N (hY domain dz af bl bz))=(fun bl=>ia Vm.bad fV N domain dz af bl N):=by
  funext bl
  exact RD N domain dz af bl N
 exact congrArg (fun l_=>tP Vm.bad fV l_ af domain dz) e0
theorem Un:Holds Tryz.prog 182 nY:=by
 refine aa (A:=tN) Ul Tryz.func182 rfl (by kernel_rfl) (of_decide_eq_true (by kernel_rfl)) (of_decide_eq_true (by kernel_rfl)) ?_
 intro ds hw hok
 replace hw:WtL ((.sl [.int .i64,.int .i64,.int .i64,.bool])::((.int .i64)::((.int .i64)::([])))) ds:=hw
 obtain⟨af,ds,rfl,dZ,hw⟩:=of_wt_sl hw
 obtain⟨domain,ds,rfl,amM,hw⟩:=of_wt_int hw
 obtain⟨dz,ds,rfl,alo,hw⟩:=of_wt_int hw
 obtain rfl:=of_wt_nil hw
 obtain⟨N,hN⟩:=Uo Vm.bad fV af domain dz dZ amM alo
 exact⟨N,((Um N af domain dz).trans hN).trans (by kernel_rfl)⟩
def p7:Sum:= {ps:=[⟨[.sl [.int .i64,.int .i64,.int .i64,.bool]],false⟩],rs:=[⟨[.imm .bool],false⟩],fn:=fun ds=>(true,[.bool (eU (rR ds 0))])}
def vC:Ctx:=[(143,dI),(182,nY)]
theorem Xo:ai Tryz.prog vC:=ab dX (ab Un aq)
def vD:List (Nat×dv):=[(2, {bJ:=[(0,.aU),(5,.aU),(6,.aU),(7,.aU)],boxes:=[]})]
def gJ:Bool→aV:=(fun r0=>((true,[.bool r0]):aV))
def je (af:Rows) (x:Rows) (bl:Int) (bz:Int):St:= {n:=42,sl:=[(0,.sl [.int .i64,.int .i64,.int .i64,.bool] af),(5,.sl [.int .i64,.int .i64,.int .i64,.bool] x),(6,.int .i64 bl),(7,.int .i64 bz)],hp:=[],ok:=true,ls:=[],lm:=[]}
noncomputable def jf (N:Nat):(St→aV)→St→aV:=dw Tryz.prog vC vD N Tryz.f140 p7 [true,false,true,false] []
theorem Up (N:Nat) (af:Rows) (x:Rows) (bl:Int) (ih:St→aV) (bz:Int):jf N ih (je af x bl bz)=nZ Vm.bad gJ af x bl (fun bz=>ih (je af x bl bz)) bz:=by kernel_rfl
theorem Uq (N:Nat) (af:Rows) (x:Rows) (bl:Int) (m_:Nat):(fun bz=>aw (jf N) m_ (je af x bl bz))=jg Vm.bad gJ N af x bl m_:=by
 induction m_ with
 | zero=>rfl
 | succ m_ ih=>
  funext bz
  show jf N (aw (jf N) m_) (je af x bl bz)=_
  rw[Up N af x bl]
  rw[ih]
  rfl
theorem Xp (N:Nat) (af:Rows):bg Tryz.prog vC vD N Tryz.f140 p7 (.sl af::([]))=vE Vm.bad gJ N af:=by
 have cm:bg Tryz.prog vC vD N Tryz.f140 p7 (.sl af::([]))=vF Vm.bad gJ (fun x bl bz=>aw (jf N) N (je af x bl bz)) af:=by kernel_rfl
 refine cm.trans ?_
 unfold vE
 have e0:(fun x bl bz=>aw (jf N) N (je af x bl bz))=(fun x bl=>jg Vm.bad gJ N af x bl N):=by
  funext x bl
  exact Uq N af x bl N
 exact congrArg (fun l_=>vF Vm.bad gJ l_ af) e0
theorem VZ:Holds Tryz.prog 140 p7:=by
 refine aa (A:=vD) Xo Tryz.func140 rfl (by kernel_rfl) (of_decide_eq_true (by kernel_rfl)) (of_decide_eq_true (by kernel_rfl)) ?_
 intro ds hw hok
 replace hw:WtL ((.sl [.int .i64,.int .i64,.int .i64,.bool])::([])) ds:=hw
 obtain⟨af,ds,rfl,dZ,hw⟩:=of_wt_sl hw
 obtain rfl:=of_wt_nil hw
 obtain⟨N,hN⟩:=Xq Vm.bad gJ af dZ
 exact⟨N,((Xp N af).trans hN).trans (by kernel_rfl)⟩
def km:Sum:= {ps:=[⟨[.sl [.int .i64,.int .i64,.int .i64,.bool]],false⟩],rs:=[⟨[.imm .bool],false⟩],fn:=fun ds=>(true,[.bool (eU (rR ds 0))])}
def qy:Ctx:=[(125,d9)]
theorem Xr:ai Tryz.prog qy:=ab eE aq
def qz:List (Nat×dv):=[(4, {bJ:=[(0,.aU),(3,.aU)],boxes:=[]}),(10, {bJ:=[(0,.aU),(3,.aU),(4,.aU),(5,.aU)],boxes:=[(256,[])]})]
def eH:Bool→aV:=(fun r0=>((true,[.bool r0]):aV))
def eV (af:Rows) (k:Int):St:= {n:=58,sl:=[(0,.sl [.int .i64,.int .i64,.int .i64,.bool] af),(3,.int .i64 k)],hp:=[],ok:=true,ls:=[],lm:=[]}
def n0 (af:Rows) (k:Int) (i:Int) (x:Int) (bl:Int) (bz:Int) (U9:Bool):St:= {n:=58,sl:=[(0,.sl [.int .i64,.int .i64,.int .i64,.bool] af),(3,.int .i64 k),(4,.ptr 256 0),(5,.int .i64 i)],hp:=[(256,.box 157 [.int .i64 x,.int .i64 bl,.int .i64 bz,.bool U9])],ok:=true,ls:=[],lm:=[]}
noncomputable def n7 (N:Nat) (o0:St→aV):(St→aV)→St→aV:=dw Tryz.prog qy qz N Tryz.f122 km [true,true,false,true,false,false,true,false,false,true,true,true,false] [o0]
noncomputable def fW (N:Nat):(St→aV)→St→aV:=dw Tryz.prog qy qz N Tryz.f122 km [true,true,false,true,false] []
theorem Ur (N:Nat) (o0:St→aV) (af:Rows) (k:Int) (x:Int) (bl:Int) (bz:Int) (U9:Bool) (ih:St→aV) (i:Int):n7 N o0 ih (n0 af k i x bl bz U9)=n8 Vm.bad eH (fun k=>o0 (eV af k)) af k x bl (fun i=>ih (n0 af k i x bl bz U9)) i:=by kernel_rfl
theorem Us (N:Nat) (o0:St→aV) (af:Rows) (k:Int) (x:Int) (bl:Int) (bz:Int) (U9:Bool) (m_:Nat):(fun i=>aw (n7 N o0) m_ (n0 af k i x bl bz U9))=ek Vm.bad eH N (fun k=>o0 (eV af k)) af k x bl m_:=by
 induction m_ with
 | zero=>rfl
 | succ m_ ih=>
  funext i
  show n7 N o0 (aw (n7 N o0) m_) (n0 af k i x bl bz U9)=_
  rw[Ur N o0 af k x bl bz U9]
  rw[ih]
  rfl
theorem Ut (N:Nat) (af:Rows) (ih:St→aV) (k:Int):fW N ih (eV af k)=n9 Vm.bad eH (fun k x bl i=>aw (n7 N ih) N (n0 af k i x bl (rI (nth af (Int.toNat k)) 2) (rB (nth af (Int.toNat k)) 3))) af (fun k=>ih (eV af k)) k:=by kernel_rfl
theorem Uu (N:Nat) (af:Rows) (m_:Nat):(fun k=>aw (fW N) m_ (eV af k))=fX Vm.bad eH N af m_:=by
 induction m_ with
 | zero=>rfl
 | succ m_ ih=>
  funext k
  show fW N (aw (fW N) m_) (eV af k)=_
  rw[Ut N af]
  have e1:=funext fun k=>funext fun x=>funext fun bl=>Us N (aw (fW N) m_) af k x bl (rI (nth af (Int.toNat k)) 2) (rB (nth af (Int.toNat k)) 3) N
  rw[e1]
  rw[ih]
  rfl
theorem Xt (N:Nat) (af:Rows):bg Tryz.prog qy qz N Tryz.f122 km (.sl af::([]))=vG Vm.bad eH N af:=by
 have cm:bg Tryz.prog qy qz N Tryz.f122 km (.sl af::([]))=vH Vm.bad eH (fun k=>aw (fW N) N (eV af k)) af:=by kernel_rfl
 refine cm.trans ?_
 unfold vG
 have e0:(fun k=>aw (fW N) N (eV af k))=(fX Vm.bad eH N af N):=by
  exact Uu N af N
 exact congrArg (fun l_=>vH Vm.bad eH l_ af) e0
theorem V0:Holds Tryz.prog 122 km:=by
 refine aa (A:=qz) Xr Tryz.func122 rfl (by kernel_rfl) (of_decide_eq_true (by kernel_rfl)) (of_decide_eq_true (by kernel_rfl)) ?_
 intro ds hw hok
 replace hw:WtL ((.sl [.int .i64,.int .i64,.int .i64,.bool])::([])) ds:=hw
 obtain⟨af,ds,rfl,dZ,hw⟩:=of_wt_sl hw
 obtain rfl:=of_wt_nil hw
 obtain⟨N,hN⟩:=Xu Vm.bad eH af dZ
 exact⟨N,((Xt N af).trans hN).trans (by kernel_rfl)⟩
end
end Go.Proofs.YthpmalpdnnbkgaaGreat.Pl
