/- The contracts of functions of the program: each computes what its plain form says. Conditions: none. -/
import Derived.Test.YthpmalpdnnbkgaaGreatPBa
import Derived.Test.YthpmalpdnnbkgaaGreatRows
import Derived.Test.YthpmalpdnnbkgaaGreatBLs
set_option linter.unusedVariables false
set_option linter.unusedSimpArgs false
set_option maxRecDepth 100000
namespace Go.Proofs.YthpmalpdnnbkgaaGreat.Pl
open Vm
noncomputable section
def dI:Sum:= {ps:=[⟨[.int .i64],false⟩,⟨[.int .i64],false⟩,⟨[.int .i64],false⟩],rs:=[⟨[.imm .bool],false⟩],fn:=fun ds=>(true,[.bool (aA (rI ds 0) (rI ds 1) (rI ds 2))])}
def Ox:Ctx:=[]
theorem afK:ai Tryz.prog Ox:=aq
def Oy:List (Nat×dv):=[]
theorem afL (N:Nat) (n:Int) (low:Int) (high:Int):bg Tryz.prog Ox Oy N Tryz.f143 dI (.int n::(.int low::(.int high::([]))))=Bw (fun r0=>((true,[.bool r0]):aV)) n low high:=by kernel_rfl
theorem dX:Holds Tryz.prog 143 dI:=by
 refine aa (A:=Oy) afK Tryz.func143 rfl (by kernel_rfl) (of_decide_eq_true (by kernel_rfl)) (of_decide_eq_true (by kernel_rfl)) ?_
 intro ds hw hok
 replace hw:WtL ((.int .i64)::((.int .i64)::((.int .i64)::([])))) ds:=hw
 obtain⟨n,ds,rfl,h_n,hw⟩:=of_wt_int hw
 obtain⟨low,ds,rfl,auo,hw⟩:=of_wt_int hw
 obtain⟨high,ds,rfl,atF,hw⟩:=of_wt_int hw
 obtain rfl:=of_wt_nil hw
 exact⟨0,((afL 0 n low high).trans (afM _ n low high)).trans (by kernel_rfl)⟩
def d9:Sum:= {ps:=[⟨[.int .i64],false⟩,⟨[.int .i64],false⟩,⟨[.int .i64],false⟩],rs:=[⟨[.imm .bool],false⟩],fn:=fun ds=>(true,[.bool (aA (rI ds 0) (rI ds 1) (rI ds 2))])}
def U_:Ctx:=[]
theorem alU:ai Tryz.prog U_:=aq
def Va:List (Nat×dv):=[]
theorem alV (N:Nat) (x:Int) (least:Int) (most:Int):bg Tryz.prog U_ Va N Tryz.f125 d9 (.int x::(.int least::(.int most::([]))))=Vb (fun r0=>((true,[.bool r0]):aV)) x least most:=by kernel_rfl
theorem eE:Holds Tryz.prog 125 d9:=by
 refine aa (A:=Va) alU Tryz.func125 rfl (by kernel_rfl) (of_decide_eq_true (by kernel_rfl)) (of_decide_eq_true (by kernel_rfl)) ?_
 intro ds hw hok
 replace hw:WtL ((.int .i64)::((.int .i64)::((.int .i64)::([])))) ds:=hw
 obtain⟨x,ds,rfl,h_x,hw⟩:=of_wt_int hw
 obtain⟨least,ds,rfl,aoJ,hw⟩:=of_wt_int hw
 obtain⟨most,ds,rfl,apJ,hw⟩:=of_wt_int hw
 obtain rfl:=of_wt_nil hw
 exact⟨0,((alV 0 x least most).trans (alW _ x least most h_x aoJ apJ)).trans (by kernel_rfl)⟩
def tZ:Sum:= {ps:=[⟨[.int .i64,.bool,.sl [.int .i64]],true⟩],rs:=[⟨[.imm .bool],false⟩],fn:=fun ds=>(true,[.bool (m5 (aI.ae ds 0))])}
def zr:Ctx:=[(143,dI)]
theorem abY:ai Tryz.prog zr:=ab dX aq
def zs:List (Nat×dv):=[(2, {bJ:=[(1,.aU),(6,.aU),(7,.aU),(8,.aU)],boxes:=[(64,[])]})]
def kW:Bool→aV:=(fun r0=>((true,[.bool r0]):aV))
def mc (x:Rows) (bl:Int) (bz:Int) (ea:Int) (gx:Bool) (d5:Rows):St:= {n:=40,sl:=[(1,.ptr 64 0),(6,.sl [.int .i64] x),(7,.int .i64 bl),(8,.int .i64 bz)],hp:=[(64,.box 65 [.int .i64 ea,.bool gx,.sl [.int .i64] d5])],ok:=true,ls:=[],lm:=[]}
noncomputable def me (N:Nat):(St→aV)→St→aV:=dw Tryz.prog zr zs N Tryz.f142 tZ [true,false,true,false] []
theorem Yi (N:Nat) (x:Rows) (bl:Int) (ea:Int) (gx:Bool) (d5:Rows) (ih:St→aV) (bz:Int):me N ih (mc x bl bz ea gx d5)=ru Vm.bad kW x bl ea d5 (fun bz=>ih (mc x bl bz ea gx d5)) bz:=by kernel_rfl
theorem Yj (N:Nat) (x:Rows) (bl:Int) (ea:Int) (gx:Bool) (d5:Rows) (m_:Nat):(fun bz=>aw (me N) m_ (mc x bl bz ea gx d5))=mf Vm.bad kW N x bl ea d5 m_:=by
 induction m_ with
 | zero=>rfl
 | succ m_ ih=>
  funext bz
  show me N (aw (me N) m_) (mc x bl bz ea gx d5)=_
  rw[Yi N x bl ea gx d5]
  rw[ih]
  rfl
theorem abZ (N:Nat) (f:aI):bg Tryz.prog zr zs N Tryz.f142 tZ (f.enc++([]))=zt Vm.bad kW N f:=by
 have cm:bg Tryz.prog zr zs N Tryz.f142 tZ (f.enc++([]))=zu Vm.bad kW (fun x bl ea d5 bz=>aw (me N) N (mc x bl bz ea f.bA d5)) f:=by kernel_rfl
 refine cm.trans ?_
 unfold zt
 have e0:(fun x bl ea d5 bz=>aw (me N) N (mc x bl bz ea f.bA d5))=(fun x bl ea d5=>mf Vm.bad kW N x bl ea d5 N):=by
  funext x bl ea d5
  exact Yj N x bl ea f.bA d5 N
 exact congrArg (fun l_=>zu Vm.bad kW l_ f) e0
theorem ab0:Holds Tryz.prog 142 tZ:=by
 refine aa (A:=zs) abY Tryz.func142 rfl (by kernel_rfl) (of_decide_eq_true (by kernel_rfl)) (of_decide_eq_true (by kernel_rfl)) ?_
 intro ds hw hok
 replace hw:WtL (aI.ct++([])) ds:=hw
 obtain⟨f,ds,rfl,Nb,hw⟩:=aI.aZ (r:=_) hw
 obtain rfl:=of_wt_nil hw
 obtain⟨N,hN⟩:=ab1 Vm.bad kW f Nb
 exact⟨N,((abZ N f).trans hN).trans (by kernel_rfl)⟩
def t0:Sum:= {ps:=[⟨[.int .i64,.bool,.sl [.int .i64]],true⟩],rs:=[⟨[.imm .bool],false⟩],fn:=fun ds=>(true,[.bool (m5 (aI.ae ds 0))])}
def zw:Ctx:=[(125,d9)]
theorem ab2:ai Tryz.prog zw:=ab eE aq
def zx:List (Nat×dv):=[(2, {bJ:=[(1,.aU),(3,.aU)],boxes:=[(64,[])]})]
def kX:Bool→aV:=(fun r0=>((true,[.bool r0]):aV))
def mg (k:Int) (ea:Int) (gx:Bool) (d5:Rows):St:= {n:=45,sl:=[(1,.ptr 64 0),(3,.int .i64 k)],hp:=[(64,.box 65 [.int .i64 ea,.bool gx,.sl [.int .i64] d5])],ok:=true,ls:=[],lm:=[]}
noncomputable def mh (N:Nat):(St→aV)→St→aV:=dw Tryz.prog zw zx N Tryz.f124 t0 [true,false,true,false] []
theorem Yk (N:Nat) (ea:Int) (gx:Bool) (d5:Rows) (ih:St→aV) (k:Int):mh N ih (mg k ea gx d5)=rv Vm.bad kX ea d5 (fun k=>ih (mg k ea gx d5)) k:=by kernel_rfl
theorem Yl (N:Nat) (ea:Int) (gx:Bool) (d5:Rows) (m_:Nat):(fun k=>aw (mh N) m_ (mg k ea gx d5))=mi Vm.bad kX N ea d5 m_:=by
 induction m_ with
 | zero=>rfl
 | succ m_ ih=>
  funext k
  show mh N (aw (mh N) m_) (mg k ea gx d5)=_
  rw[Yk N ea gx d5]
  rw[ih]
  rfl
theorem ab3 (N:Nat) (f:aI):bg Tryz.prog zw zx N Tryz.f124 t0 (f.enc++([]))=zy Vm.bad kX N f:=by
 have cm:bg Tryz.prog zw zx N Tryz.f124 t0 (f.enc++([]))=zz Vm.bad kX (fun ea d5 k=>aw (mh N) N (mg k ea f.bA d5)) f:=by kernel_rfl
 refine cm.trans ?_
 unfold zy
 have e0:(fun ea d5 k=>aw (mh N) N (mg k ea f.bA d5))=(fun ea d5=>mi Vm.bad kX N ea d5 N):=by
  funext ea d5
  exact Yl N ea f.bA d5 N
 exact congrArg (fun l_=>zz Vm.bad kX l_ f) e0
theorem ab4:Holds Tryz.prog 124 t0:=by
 refine aa (A:=zx) ab2 Tryz.func124 rfl (by kernel_rfl) (of_decide_eq_true (by kernel_rfl)) (of_decide_eq_true (by kernel_rfl)) ?_
 intro ds hw hok
 replace hw:WtL (aI.ct++([])) ds:=hw
 obtain⟨f,ds,rfl,Nb,hw⟩:=aI.aZ (r:=_) hw
 obtain rfl:=of_wt_nil hw
 obtain⟨N,hN⟩:=ab5 Vm.bad kX f Nb
 exact⟨N,((ab3 N f).trans hN).trans (by kernel_rfl)⟩
end
end Go.Proofs.YthpmalpdnnbkgaaGreat.Pl
