/- The contracts of functions of the program: each computes what its plain form says. Conditions: none. -/
import Derived.Test.YthpmalpdnnbkgaaGreatPHo
import Derived.Test.YthpmalpdnnbkgaaGreatRows
import Derived.Test.YthpmalpdnnbkgaaGreatBFc
import Derived.Test.YthpmalpdnnbkgaaGreatBMo
set_option linter.unusedVariables false
set_option linter.unusedSimpArgs false
set_option maxRecDepth 100000
namespace Go.Proofs.YthpmalpdnnbkgaaGreat.Pl
open Vm
noncomputable section
def uS:Sum:= {ps:=[⟨[.sl [.str],.sl [.int .i64,.int .i64,.int .i64,.bool],.int .i64,.int .i64,.int .i64,.int .i64,.int .i64,.int .i64,.int .i64,.sl [.int .i64],.sl [.int .i64,.int .i64,.sl [.int .i64]],.int .i64,.sl [.int .i64,.int .i64,.int .i64,.int .i64,.int .i64,.int .i64,.int .i64,.int .i64,.int .i64,.int .i64,.int .i64,.int .i64,.int .i64,.int .i64,.int .i64,.int .i64,.int .i64,.int .i64,.int .i64,.int .i64,.int .i64,.int .i64,.int .i64,.int .i64,.int .i64,.str,.int .i64,.int .i64,.bool,.int .i64],.sl [.int .i64,.int .i64,.int .i64,.sl [.int .i64]],.sl [.int .i64,.int .i64,.int .i64,.int .i64,.bool,.bool],.sl [.bool],.int .i64,.bool,.sl [.int .i64],.sl [.int .i64,.int .i64,.int .i64,.int .i64,.int .i64,.int .i64,.int .i64,.int .i64,.int .i64],.sl [.int .i64,.int .i64,.int .i64,.int .i64,.int .i64,.int .i64,.int .i64],.str,.sl [.int .i64],.sl [.int .i64,.int .i64,.int .i64,.int .i64,.int .i64,.int .i64,.str,.bool],.bool,.sl [.str],.sl [.int .i64],.sl [.int .i64],.int .i64,.int .i64,.int .i64,.int .i64,.int .i64],true⟩],rs:=[⟨[.imm .bool],false⟩],fn:=fun ds=>(Gd (aB.ae ds 0),[.bool (AW (aB.ae ds 0))])}
def y5:Ctx:=[(139,uh),(140,p7),(141,FC),(142,tZ),(143,dI),(144,OQ),(145,qG),(146,zR),(147,kd)]
theorem ajw:ai Tryz.prog y5:=ab acM (ab VZ (ab amH (ab ab0 (ab dX (ab amI (ab KJ (ab Nl (ab Vv aq))))))))
def y6:List (Nat×dv):=[(5, {bJ:=[(1,.aU),(3,.aU),(61,.aU),(62,.aU)],boxes:=[(64,[])]}),(12, {bJ:=[(1,.aU),(3,.aU),(103,.aU),(104,.aU),(105,.aU)],boxes:=[(64,[]),(320,[])]})]
def jl:Bool→aV:=(fun r0=>((true,[.bool r0]):aV))
def rT (n:Int) (x:Int) (bl:Int) (nr:Rows) (h_2:Rows) (nt:Int) (nv:Int) (nw:Int) (nx:Int) (ny:Int) (nz:Int) (nA:Int) (dM:Rows) (dN:Rows) (dO:Int) (cX:Rows) (cn:Rows) (bI:Rows) (cr:Rows) (cA:Int) (cB:Bool) (cu:Rows) (bQ:Rows) (bR:Rows) (bU:Bytes) (bS:Rows) (cv:Rows) (dP:Bool) (cx:Rows) (cy:Rows) (cz:Rows) (c_:Int) (da:Int) (db:Int) (dc:Int) (dd:Int):St:= {n:=117,sl:=[(1,.ptr 64 0),(3,.int .i64 n),(61,.int .i64 x),(62,.int .i64 bl)],hp:=[(64,.box 76 [.sl [.str] nr,.sl [.int .i64,.int .i64,.int .i64,.bool] h_2,.int .i64 nt,.int .i64 nv,.int .i64 nw,.int .i64 nx,.int .i64 ny,.int .i64 nz,.int .i64 nA,.sl [.int .i64] dM,.sl [.int .i64,.int .i64,.sl [.int .i64]] dN,.int .i64 dO,.sl [.int .i64,.int .i64,.int .i64,.int .i64,.int .i64,.int .i64,.int .i64,.int .i64,.int .i64,.int .i64,.int .i64,.int .i64,.int .i64,.int .i64,.int .i64,.int .i64,.int .i64,.int .i64,.int .i64,.int .i64,.int .i64,.int .i64,.int .i64,.int .i64,.int .i64,.str,.int .i64,.int .i64,.bool,.int .i64] cX,.sl [.int .i64,.int .i64,.int .i64,.sl [.int .i64]] cn,.sl [.int .i64,.int .i64,.int .i64,.int .i64,.bool,.bool] bI,.sl [.bool] cr,.int .i64 cA,.bool cB,.sl [.int .i64] cu,.sl [.int .i64,.int .i64,.int .i64,.int .i64,.int .i64,.int .i64,.int .i64,.int .i64,.int .i64] bQ,.sl [.int .i64,.int .i64,.int .i64,.int .i64,.int .i64,.int .i64,.int .i64] bR,.str bU,.sl [.int .i64] bS,.sl [.int .i64,.int .i64,.int .i64,.int .i64,.int .i64,.int .i64,.str,.bool] cv,.bool dP,.sl [.str] cx,.sl [.int .i64] cy,.sl [.int .i64] cz,.int .i64 c_,.int .i64 da,.int .i64 db,.int .i64 dc,.int .i64 dd])],ok:=true,ls:=[],lm:=[]}
def vZ (n:Int) (bz:Int) (U9:Int) (nr:Rows) (h_2:Rows) (nt:Int) (nv:Int) (nw:Int) (nx:Int) (ny:Int) (nz:Int) (nA:Int) (dM:Rows) (dN:Rows) (dO:Int) (cX:Rows) (cn:Rows) (bI:Rows) (cr:Rows) (cA:Int) (cB:Bool) (cu:Rows) (bQ:Rows) (bR:Rows) (bU:Bytes) (bS:Rows) (cv:Rows) (dP:Bool) (cx:Rows) (cy:Rows) (cz:Rows) (c_:Int) (da:Int) (db:Int) (dc:Int) (dd:Int) (c:Int) (c_1:Int) (c_2:Int) (c_3:Int) (c_4:Int) (D5:Rows):St:= {n:=117,sl:=[(1,.ptr 64 0),(3,.int .i64 n),(103,.own 646592),(104,.int .i64 bz),(105,.int .i64 U9)],hp:=[(64,.box 76 [.sl [.str] nr,.sl [.int .i64,.int .i64,.int .i64,.bool] h_2,.int .i64 nt,.int .i64 nv,.int .i64 nw,.int .i64 nx,.int .i64 ny,.int .i64 nz,.int .i64 nA,.sl [.int .i64] dM,.sl [.int .i64,.int .i64,.sl [.int .i64]] dN,.int .i64 dO,.sl [.int .i64,.int .i64,.int .i64,.int .i64,.int .i64,.int .i64,.int .i64,.int .i64,.int .i64,.int .i64,.int .i64,.int .i64,.int .i64,.int .i64,.int .i64,.int .i64,.int .i64,.int .i64,.int .i64,.int .i64,.int .i64,.int .i64,.int .i64,.int .i64,.int .i64,.str,.int .i64,.int .i64,.bool,.int .i64] cX,.sl [.int .i64,.int .i64,.int .i64,.sl [.int .i64]] cn,.sl [.int .i64,.int .i64,.int .i64,.int .i64,.bool,.bool] bI,.sl [.bool] cr,.int .i64 cA,.bool cB,.sl [.int .i64] cu,.sl [.int .i64,.int .i64,.int .i64,.int .i64,.int .i64,.int .i64,.int .i64,.int .i64,.int .i64] bQ,.sl [.int .i64,.int .i64,.int .i64,.int .i64,.int .i64,.int .i64,.int .i64] bR,.str bU,.sl [.int .i64] bS,.sl [.int .i64,.int .i64,.int .i64,.int .i64,.int .i64,.int .i64,.str,.bool] cv,.bool dP,.sl [.str] cx,.sl [.int .i64] cy,.sl [.int .i64] cz,.int .i64 c_,.int .i64 da,.int .i64 db,.int .i64 dc,.int .i64 dd]),(320,.box 74 [.int .i64 c,.int .i64 c_1,.int .i64 c_2,.int .i64 c_3,.int .i64 c_4]),(646592,.row 3 [.int .i64] D5 false true)],ok:=true,ls:=[],lm:=[]}
noncomputable def v7 (N:Nat):(St→aV)→St→aV:=dw Tryz.prog y5 y6 N Tryz.f70 uS [true,true,true,true,true,false,true,false] []
noncomputable def rU (N:Nat):(St→aV)→St→aV:=dw Tryz.prog y5 y6 N Tryz.f70 uS [true,true,true,false,true,false] []
theorem af5 (N:Nat) (n:Int) (bz:Int) (nr:Rows) (h_2:Rows) (nt:Int) (nv:Int) (nw:Int) (nx:Int) (ny:Int) (nz:Int) (nA:Int) (dM:Rows) (dN:Rows) (dO:Int) (cX:Rows) (cn:Rows) (bI:Rows) (cr:Rows) (cA:Int) (cB:Bool) (cu:Rows) (bQ:Rows) (bR:Rows) (bU:Bytes) (bS:Rows) (cv:Rows) (dP:Bool) (cx:Rows) (cy:Rows) (cz:Rows) (c_:Int) (da:Int) (db:Int) (dc:Int) (dd:Int) (c:Int) (c_1:Int) (c_2:Int) (c_3:Int) (c_4:Int) (D5:Rows) (ih:St→aV) (U9:Int):v7 N ih (vZ n bz U9 nr h_2 nt nv nw nx ny nz nA dM dN dO cX cn bI cr cA cB cu bQ bR bU bS cv dP cx cy cz c_ da db dc dd c c_1 c_2 c_3 c_4 D5)=BS Vm.bad jl n bz bQ bR bU bS D5 (fun U9=>ih (vZ n bz U9 nr h_2 nt nv nw nx ny nz nA dM dN dO cX cn bI cr cA cB cu bQ bR bU bS cv dP cx cy cz c_ da db dc dd c c_1 c_2 c_3 c_4 D5)) U9:=by kernel_rfl
theorem af6 (N:Nat) (n:Int) (bz:Int) (nr:Rows) (h_2:Rows) (nt:Int) (nv:Int) (nw:Int) (nx:Int) (ny:Int) (nz:Int) (nA:Int) (dM:Rows) (dN:Rows) (dO:Int) (cX:Rows) (cn:Rows) (bI:Rows) (cr:Rows) (cA:Int) (cB:Bool) (cu:Rows) (bQ:Rows) (bR:Rows) (bU:Bytes) (bS:Rows) (cv:Rows) (dP:Bool) (cx:Rows) (cy:Rows) (cz:Rows) (c_:Int) (da:Int) (db:Int) (dc:Int) (dd:Int) (c:Int) (c_1:Int) (c_2:Int) (c_3:Int) (c_4:Int) (D5:Rows) (m_:Nat):(fun U9=>aw (v7 N) m_ (vZ n bz U9 nr h_2 nt nv nw nx ny nz nA dM dN dO cX cn bI cr cA cB cu bQ bR bU bS cv dP cx cy cz c_ da db dc dd c c_1 c_2 c_3 c_4 D5))=nB Vm.bad jl N n bz bQ bR bU bS D5 m_:=by
 induction m_ with
 | zero=>rfl
 | succ m_ ih=>
  funext U9
  show v7 N (aw (v7 N) m_) (vZ n bz U9 nr h_2 nt nv nw nx ny nz nA dM dN dO cX cn bI cr cA cB cu bQ bR bU bS cv dP cx cy cz c_ da db dc dd c c_1 c_2 c_3 c_4 D5)=_
  rw[af5 N n bz nr h_2 nt nv nw nx ny nz nA dM dN dO cX cn bI cr cA cB cu bQ bR bU bS cv dP cx cy cz c_ da db dc dd c c_1 c_2 c_3 c_4 D5]
  rw[ih]
  rfl
theorem af7 (N:Nat) (n:Int) (x:Int) (nr:Rows) (h_2:Rows) (nt:Int) (nv:Int) (nw:Int) (nx:Int) (ny:Int) (nz:Int) (nA:Int) (dM:Rows) (dN:Rows) (dO:Int) (cX:Rows) (cn:Rows) (bI:Rows) (cr:Rows) (cA:Int) (cB:Bool) (cu:Rows) (bQ:Rows) (bR:Rows) (bU:Bytes) (bS:Rows) (cv:Rows) (dP:Bool) (cx:Rows) (cy:Rows) (cz:Rows) (c_:Int) (da:Int) (db:Int) (dc:Int) (dd:Int) (ih:St→aV) (bl:Int):rU N ih (rT n x bl nr h_2 nt nv nw nx ny nz nA dM dN dO cX cn bI cr cA cB cu bQ bR bU bS cv dP cx cy cz c_ da db dc dd)=v8 Vm.bad jl (fun bz D5 U9=>aw (v7 N) N (vZ n bz U9 nr h_2 nt nv nw nx ny nz nA dM dN dO cX cn bI cr cA cB cu bQ bR bU bS cv dP cx cy cz c_ da db dc dd c_ da db dc dd D5)) n x cX cn bI bQ bR bU bS c_ da db dc dd (fun bl=>ih (rT n x bl nr h_2 nt nv nw nx ny nz nA dM dN dO cX cn bI cr cA cB cu bQ bR bU bS cv dP cx cy cz c_ da db dc dd)) bl:=by kernel_rfl
theorem af8 (N:Nat) (n:Int) (x:Int) (nr:Rows) (h_2:Rows) (nt:Int) (nv:Int) (nw:Int) (nx:Int) (ny:Int) (nz:Int) (nA:Int) (dM:Rows) (dN:Rows) (dO:Int) (cX:Rows) (cn:Rows) (bI:Rows) (cr:Rows) (cA:Int) (cB:Bool) (cu:Rows) (bQ:Rows) (bR:Rows) (bU:Bytes) (bS:Rows) (cv:Rows) (dP:Bool) (cx:Rows) (cy:Rows) (cz:Rows) (c_:Int) (da:Int) (db:Int) (dc:Int) (dd:Int) (m_:Nat):(fun bl=>aw (rU N) m_ (rT n x bl nr h_2 nt nv nw nx ny nz nA dM dN dO cX cn bI cr cA cB cu bQ bR bU bS cv dP cx cy cz c_ da db dc dd))=gB Vm.bad jl N n x cX cn bI bQ bR bU bS c_ da db dc dd m_:=by
 induction m_ with
 | zero=>rfl
 | succ m_ ih=>
  funext bl
  show rU N (aw (rU N) m_) (rT n x bl nr h_2 nt nv nw nx ny nz nA dM dN dO cX cn bI cr cA cB cu bQ bR bU bS cv dP cx cy cz c_ da db dc dd)=_
  rw[af7 N n x nr h_2 nt nv nw nx ny nz nA dM dN dO cX cn bI cr cA cB cu bQ bR bU bS cv dP cx cy cz c_ da db dc dd]
  have e1:=funext fun bz=>funext fun D5=>af6 N n bz nr h_2 nt nv nw nx ny nz nA dM dN dO cX cn bI cr cA cB cu bQ bR bU bS cv dP cx cy cz c_ da db dc dd c_ da db dc dd D5 N
  rw[e1]
  rw[ih]
  rfl
theorem ajx (N:Nat) (h:aB):bg Tryz.prog y5 y6 N Tryz.f70 uS (h.enc++([]))=ES Vm.bad jl N h:=by
 have cm:bg Tryz.prog y5 y6 N Tryz.f70 uS (h.enc++([]))=ET Vm.bad jl (fun n x cX cn bI bQ bR bU bS c_ da db dc dd bl=>aw (rU N) N (rT n x bl h.bV.dm h.Maps h.Tx.Ring.cP h.Tx.Ring.bB h.Tx.Ring.Head h.Tx.Ring.fk h.Tx.a_.cP h.Tx.a_.bB h.Tx.a_.Count h.Tx.a_.dn h.Tx.aG h.Tx.Next cX cn bI h.cj h.Filter.G3 h.Filter.bA h.Filter.cW bQ bR bU bS h.cO h.dp h.ic h.bK h.b_ c_ da db dc dd)) h:=by kernel_rfl
 refine cm.trans ?_
 unfold ES
 have e0:(fun n x cX cn bI bQ bR bU bS c_ da db dc dd bl=>aw (rU N) N (rT n x bl h.bV.dm h.Maps h.Tx.Ring.cP h.Tx.Ring.bB h.Tx.Ring.Head h.Tx.Ring.fk h.Tx.a_.cP h.Tx.a_.bB h.Tx.a_.Count h.Tx.a_.dn h.Tx.aG h.Tx.Next cX cn bI h.cj h.Filter.G3 h.Filter.bA h.Filter.cW bQ bR bU bS h.cO h.dp h.ic h.bK h.b_ c_ da db dc dd))=(fun n x cX cn bI bQ bR bU bS c_ da db dc dd=>gB Vm.bad jl N n x cX cn bI bQ bR bU bS c_ da db dc dd N):=by
  funext n x cX cn bI bQ bR bU bS c_ da db dc dd
  exact af8 N n x h.bV.dm h.Maps h.Tx.Ring.cP h.Tx.Ring.bB h.Tx.Ring.Head h.Tx.Ring.fk h.Tx.a_.cP h.Tx.a_.bB h.Tx.a_.Count h.Tx.a_.dn h.Tx.aG h.Tx.Next cX cn bI h.cj h.Filter.G3 h.Filter.bA h.Filter.cW bQ bR bU bS h.cO h.dp h.ic h.bK h.b_ c_ da db dc dd N
 exact congrArg (fun l_=>ET Vm.bad jl l_ h) e0
theorem ajy:Holds Tryz.prog 70 uS:=by
 refine aa (A:=y6) ajw Tryz.func70 rfl (by kernel_rfl) (of_decide_eq_true (by kernel_rfl)) (of_decide_eq_true (by kernel_rfl)) ?_
 intro ds hw hok
 replace hw:WtL (aB.ct++([])) ds:=hw
 obtain⟨h,ds,rfl,h_h,hw⟩:=aB.aZ (r:=_) hw
 obtain rfl:=of_wt_nil hw
 obtain⟨N,hN⟩:=ajz Vm.bad jl h h_h hok
 exact⟨N,((ajx N h).trans hN).trans (by kernel_rfl)⟩
def uT:Sum:= {ps:=[⟨[.sl [.str],.sl [.int .i64,.int .i64,.int .i64,.bool],.int .i64,.int .i64,.int .i64,.int .i64,.int .i64,.int .i64,.int .i64,.sl [.int .i64],.sl [.int .i64,.int .i64,.sl [.int .i64]],.int .i64,.sl [.int .i64,.int .i64,.int .i64,.int .i64,.int .i64,.int .i64,.int .i64,.int .i64,.int .i64,.int .i64,.int .i64,.int .i64,.int .i64,.int .i64,.int .i64,.int .i64,.int .i64,.int .i64,.int .i64,.int .i64,.int .i64,.int .i64,.int .i64,.int .i64,.int .i64,.str,.int .i64,.int .i64,.bool,.int .i64],.sl [.int .i64,.int .i64,.int .i64,.sl [.int .i64]],.sl [.int .i64,.int .i64,.int .i64,.int .i64,.bool,.bool],.sl [.bool],.int .i64,.bool,.sl [.int .i64],.sl [.int .i64,.int .i64,.int .i64,.int .i64,.int .i64,.int .i64,.int .i64,.int .i64,.int .i64],.sl [.int .i64,.int .i64,.int .i64,.int .i64,.int .i64,.int .i64,.int .i64],.str,.sl [.int .i64],.sl [.int .i64,.int .i64,.int .i64,.int .i64,.int .i64,.int .i64,.str,.bool],.bool,.sl [.str],.sl [.int .i64],.sl [.int .i64],.int .i64,.int .i64,.int .i64,.int .i64,.int .i64],true⟩],rs:=[⟨[.imm .bool],false⟩],fn:=fun ds=>(Gd (aB.ae ds 0),[.bool (AW (aB.ae ds 0))])}
def y7:Ctx:=[(121,ui),(122,km),(123,FD),(124,t0),(125,d9),(126,ke),(127,OR),(128,qH),(129,zS)]
theorem ajA:ai Tryz.prog y7:=ab acN (ab V0 (ab amJ (ab ab4 (ab eE (ab Vz (ab amK (ab KK (ab Nm aq))))))))
def y8:List (Nat×dv):=[(5, {bJ:=[(1,.aU),(3,.aU),(4,.aU)],boxes:=[(64,[])]}),(11, {bJ:=[(5,.aU),(6,.aU)],boxes:=[(64,[])]})]
def jm:Bool→aV:=(fun r0=>((true,[.bool r0]):aV))
def rV (n:Int) (k:Int) (nr:Rows) (h_2:Rows) (nt:Int) (nv:Int) (nw:Int) (nx:Int) (ny:Int) (nz:Int) (nA:Int) (dM:Rows) (dN:Rows) (dO:Int) (cX:Rows) (cn:Rows) (bI:Rows) (cr:Rows) (cA:Int) (cB:Bool) (cu:Rows) (bQ:Rows) (bR:Rows) (bU:Bytes) (bS:Rows) (cv:Rows) (dP:Bool) (cx:Rows) (cy:Rows) (cz:Rows) (c_:Int) (da:Int) (db:Int) (dc:Int) (dd:Int):St:= {n:=123,sl:=[(1,.ptr 64 0),(3,.int .i64 n),(4,.int .i64 k)],hp:=[(64,.box 76 [.sl [.str] nr,.sl [.int .i64,.int .i64,.int .i64,.bool] h_2,.int .i64 nt,.int .i64 nv,.int .i64 nw,.int .i64 nx,.int .i64 ny,.int .i64 nz,.int .i64 nA,.sl [.int .i64] dM,.sl [.int .i64,.int .i64,.sl [.int .i64]] dN,.int .i64 dO,.sl [.int .i64,.int .i64,.int .i64,.int .i64,.int .i64,.int .i64,.int .i64,.int .i64,.int .i64,.int .i64,.int .i64,.int .i64,.int .i64,.int .i64,.int .i64,.int .i64,.int .i64,.int .i64,.int .i64,.int .i64,.int .i64,.int .i64,.int .i64,.int .i64,.int .i64,.str,.int .i64,.int .i64,.bool,.int .i64] cX,.sl [.int .i64,.int .i64,.int .i64,.sl [.int .i64]] cn,.sl [.int .i64,.int .i64,.int .i64,.int .i64,.bool,.bool] bI,.sl [.bool] cr,.int .i64 cA,.bool cB,.sl [.int .i64] cu,.sl [.int .i64,.int .i64,.int .i64,.int .i64,.int .i64,.int .i64,.int .i64,.int .i64,.int .i64] bQ,.sl [.int .i64,.int .i64,.int .i64,.int .i64,.int .i64,.int .i64,.int .i64] bR,.str bU,.sl [.int .i64] bS,.sl [.int .i64,.int .i64,.int .i64,.int .i64,.int .i64,.int .i64,.str,.bool] cv,.bool dP,.sl [.str] cx,.sl [.int .i64] cy,.sl [.int .i64] cz,.int .i64 c_,.int .i64 da,.int .i64 db,.int .i64 dc,.int .i64 dd])],ok:=true,ls:=[],lm:=[]}
def v9 (aW:Int) (nr:Rows) (h_2:Rows) (nt:Int) (nv:Int) (nw:Int) (nx:Int) (ny:Int) (nz:Int) (nA:Int) (dM:Rows) (dN:Rows) (dO:Int) (cX:Rows) (cn:Rows) (bI:Rows) (cr:Rows) (cA:Int) (cB:Bool) (cu:Rows) (bQ:Rows) (bR:Rows) (bU:Bytes) (bS:Rows) (cv:Rows) (dP:Bool) (cx:Rows) (cy:Rows) (cz:Rows) (c_:Int) (da:Int) (db:Int) (dc:Int) (dd:Int) (af:Rows):St:= {n:=123,sl:=[(5,.own 640320),(6,.int .i64 aW)],hp:=[(64,.box 76 [.sl [.str] nr,.sl [.int .i64,.int .i64,.int .i64,.bool] h_2,.int .i64 nt,.int .i64 nv,.int .i64 nw,.int .i64 nx,.int .i64 ny,.int .i64 nz,.int .i64 nA,.sl [.int .i64] dM,.sl [.int .i64,.int .i64,.sl [.int .i64]] dN,.int .i64 dO,.sl [.int .i64,.int .i64,.int .i64,.int .i64,.int .i64,.int .i64,.int .i64,.int .i64,.int .i64,.int .i64,.int .i64,.int .i64,.int .i64,.int .i64,.int .i64,.int .i64,.int .i64,.int .i64,.int .i64,.int .i64,.int .i64,.int .i64,.int .i64,.int .i64,.int .i64,.str,.int .i64,.int .i64,.bool,.int .i64] cX,.sl [.int .i64,.int .i64,.int .i64,.sl [.int .i64]] cn,.sl [.int .i64,.int .i64,.int .i64,.int .i64,.bool,.bool] bI,.sl [.bool] cr,.int .i64 cA,.bool cB,.sl [.int .i64] cu,.sl [.int .i64,.int .i64,.int .i64,.int .i64,.int .i64,.int .i64,.int .i64,.int .i64,.int .i64] bQ,.sl [.int .i64,.int .i64,.int .i64,.int .i64,.int .i64,.int .i64,.int .i64] bR,.str bU,.sl [.int .i64] bS,.sl [.int .i64,.int .i64,.int .i64,.int .i64,.int .i64,.int .i64,.str,.bool] cv,.bool dP,.sl [.str] cx,.sl [.int .i64] cy,.sl [.int .i64] cz,.int .i64 c_,.int .i64 da,.int .i64 db,.int .i64 dc,.int .i64 dd]),(640320,.row 3 [.int .i64] af false true)],ok:=true,ls:=[],lm:=[]}
noncomputable def v_ (N:Nat):(St→aV)→St→aV:=dw Tryz.prog y7 y8 N Tryz.f67 uT [true,true,true,true,true,false,true,false] []
noncomputable def rW (N:Nat):(St→aV)→St→aV:=dw Tryz.prog y7 y8 N Tryz.f67 uT [true,true,true,false,true,false] []
theorem af9 (N:Nat) (nr:Rows) (h_2:Rows) (nt:Int) (nv:Int) (nw:Int) (nx:Int) (ny:Int) (nz:Int) (nA:Int) (dM:Rows) (dN:Rows) (dO:Int) (cX:Rows) (cn:Rows) (bI:Rows) (cr:Rows) (cA:Int) (cB:Bool) (cu:Rows) (bQ:Rows) (bR:Rows) (bU:Bytes) (bS:Rows) (cv:Rows) (dP:Bool) (cx:Rows) (cy:Rows) (cz:Rows) (c_:Int) (da:Int) (db:Int) (dc:Int) (dd:Int) (af:Rows) (ih:St→aV) (aW:Int):v_ N ih (v9 aW nr h_2 nt nv nw nx ny nz nA dM dN dO cX cn bI cr cA cB cu bQ bR bU bS cv dP cx cy cz c_ da db dc dd af)=BT Vm.bad jm af (fun aW=>ih (v9 aW nr h_2 nt nv nw nx ny nz nA dM dN dO cX cn bI cr cA cB cu bQ bR bU bS cv dP cx cy cz c_ da db dc dd af)) aW:=by kernel_rfl
theorem af_ (N:Nat) (nr:Rows) (h_2:Rows) (nt:Int) (nv:Int) (nw:Int) (nx:Int) (ny:Int) (nz:Int) (nA:Int) (dM:Rows) (dN:Rows) (dO:Int) (cX:Rows) (cn:Rows) (bI:Rows) (cr:Rows) (cA:Int) (cB:Bool) (cu:Rows) (bQ:Rows) (bR:Rows) (bU:Bytes) (bS:Rows) (cv:Rows) (dP:Bool) (cx:Rows) (cy:Rows) (cz:Rows) (c_:Int) (da:Int) (db:Int) (dc:Int) (dd:Int) (af:Rows) (m_:Nat):(fun aW=>aw (v_ N) m_ (v9 aW nr h_2 nt nv nw nx ny nz nA dM dN dO cX cn bI cr cA cB cu bQ bR bU bS cv dP cx cy cz c_ da db dc dd af))=nC Vm.bad jm N af m_:=by
 induction m_ with
 | zero=>rfl
 | succ m_ ih=>
  funext aW
  show v_ N (aw (v_ N) m_) (v9 aW nr h_2 nt nv nw nx ny nz nA dM dN dO cX cn bI cr cA cB cu bQ bR bU bS cv dP cx cy cz c_ da db dc dd af)=_
  rw[af9 N nr h_2 nt nv nw nx ny nz nA dM dN dO cX cn bI cr cA cB cu bQ bR bU bS cv dP cx cy cz c_ da db dc dd af]
  rw[ih]
  rfl
theorem aga (N:Nat) (n:Int) (nr:Rows) (h_2:Rows) (nt:Int) (nv:Int) (nw:Int) (nx:Int) (ny:Int) (nz:Int) (nA:Int) (dM:Rows) (dN:Rows) (dO:Int) (cX:Rows) (cn:Rows) (bI:Rows) (cr:Rows) (cA:Int) (cB:Bool) (cu:Rows) (bQ:Rows) (bR:Rows) (bU:Bytes) (bS:Rows) (cv:Rows) (dP:Bool) (cx:Rows) (cy:Rows) (cz:Rows) (c_:Int) (da:Int) (db:Int) (dc:Int) (dd:Int) (ih:St→aV) (k:Int):rW N ih (rV n k nr h_2 nt nv nw nx ny nz nA dM dN dO cX cn bI cr cA cB cu bQ bR bU bS cv dP cx cy cz c_ da db dc dd)=wc Vm.bad jm (fun af aW=>aw (v_ N) N (v9 aW nr h_2 nt nv nw nx ny nz nA dM dN dO cX cn bI cr cA cB cu bQ bR bU bS cv dP cx cy cz c_ da db dc dd af)) n cX cn bI c_ da db dc dd (fun k=>ih (rV n k nr h_2 nt nv nw nx ny nz nA dM dN dO cX cn bI cr cA cB cu bQ bR bU bS cv dP cx cy cz c_ da db dc dd)) k:=by kernel_rfl
theorem agb (N:Nat) (n:Int) (nr:Rows) (h_2:Rows) (nt:Int) (nv:Int) (nw:Int) (nx:Int) (ny:Int) (nz:Int) (nA:Int) (dM:Rows) (dN:Rows) (dO:Int) (cX:Rows) (cn:Rows) (bI:Rows) (cr:Rows) (cA:Int) (cB:Bool) (cu:Rows) (bQ:Rows) (bR:Rows) (bU:Bytes) (bS:Rows) (cv:Rows) (dP:Bool) (cx:Rows) (cy:Rows) (cz:Rows) (c_:Int) (da:Int) (db:Int) (dc:Int) (dd:Int) (m_:Nat):(fun k=>aw (rW N) m_ (rV n k nr h_2 nt nv nw nx ny nz nA dM dN dO cX cn bI cr cA cB cu bQ bR bU bS cv dP cx cy cz c_ da db dc dd))=gC Vm.bad jm N n cX cn bI c_ da db dc dd m_:=by
 induction m_ with
 | zero=>rfl
 | succ m_ ih=>
  funext k
  show rW N (aw (rW N) m_) (rV n k nr h_2 nt nv nw nx ny nz nA dM dN dO cX cn bI cr cA cB cu bQ bR bU bS cv dP cx cy cz c_ da db dc dd)=_
  rw[aga N n nr h_2 nt nv nw nx ny nz nA dM dN dO cX cn bI cr cA cB cu bQ bR bU bS cv dP cx cy cz c_ da db dc dd]
  have e1:=funext fun af=>af_ N nr h_2 nt nv nw nx ny nz nA dM dN dO cX cn bI cr cA cB cu bQ bR bU bS cv dP cx cy cz c_ da db dc dd af N
  rw[e1]
  rw[ih]
  rfl
theorem ajB (N:Nat) (h:aB):bg Tryz.prog y7 y8 N Tryz.f67 uT (h.enc++([]))=EU Vm.bad jm N h:=by
 have cm:bg Tryz.prog y7 y8 N Tryz.f67 uT (h.enc++([]))=EV Vm.bad jm (fun n cX cn bI c_ da db dc dd k=>aw (rW N) N (rV n k h.bV.dm h.Maps h.Tx.Ring.cP h.Tx.Ring.bB h.Tx.Ring.Head h.Tx.Ring.fk h.Tx.a_.cP h.Tx.a_.bB h.Tx.a_.Count h.Tx.a_.dn h.Tx.aG h.Tx.Next cX cn bI h.cj h.Filter.G3 h.Filter.bA h.Filter.cW h.aj.bW h.aj.Table.aL h.aj.bj.Key h.aj.bj.Table h.cO h.dp h.ic h.bK h.b_ c_ da db dc dd)) h:=by kernel_rfl
 refine cm.trans ?_
 unfold EU
 have e0:(fun n cX cn bI c_ da db dc dd k=>aw (rW N) N (rV n k h.bV.dm h.Maps h.Tx.Ring.cP h.Tx.Ring.bB h.Tx.Ring.Head h.Tx.Ring.fk h.Tx.a_.cP h.Tx.a_.bB h.Tx.a_.Count h.Tx.a_.dn h.Tx.aG h.Tx.Next cX cn bI h.cj h.Filter.G3 h.Filter.bA h.Filter.cW h.aj.bW h.aj.Table.aL h.aj.bj.Key h.aj.bj.Table h.cO h.dp h.ic h.bK h.b_ c_ da db dc dd))=(fun n cX cn bI c_ da db dc dd=>gC Vm.bad jm N n cX cn bI c_ da db dc dd N):=by
  funext n cX cn bI c_ da db dc dd
  exact agb N n h.bV.dm h.Maps h.Tx.Ring.cP h.Tx.Ring.bB h.Tx.Ring.Head h.Tx.Ring.fk h.Tx.a_.cP h.Tx.a_.bB h.Tx.a_.Count h.Tx.a_.dn h.Tx.aG h.Tx.Next cX cn bI h.cj h.Filter.G3 h.Filter.bA h.Filter.cW h.aj.bW h.aj.Table.aL h.aj.bj.Key h.aj.bj.Table h.cO h.dp h.ic h.bK h.b_ c_ da db dc dd N
 exact congrArg (fun l_=>EV Vm.bad jm l_ h) e0
theorem ajC:Holds Tryz.prog 67 uT:=by
 refine aa (A:=y8) ajA Tryz.func67 rfl (by kernel_rfl) (of_decide_eq_true (by kernel_rfl)) (of_decide_eq_true (by kernel_rfl)) ?_
 intro ds hw hok
 replace hw:WtL (aB.ct++([])) ds:=hw
 obtain⟨h,ds,rfl,h_h,hw⟩:=aB.aZ (r:=_) hw
 obtain rfl:=of_wt_nil hw
 obtain⟨N,hN⟩:=ajD Vm.bad jm h h_h hok
 exact⟨N,((ajB N h).trans hN).trans (by kernel_rfl)⟩
end
end Go.Proofs.YthpmalpdnnbkgaaGreat.Pl
