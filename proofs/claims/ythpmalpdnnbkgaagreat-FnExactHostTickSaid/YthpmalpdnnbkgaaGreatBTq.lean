/- The contracts of functions of the program: each computes what its plain form says. Conditions: none. -/
import Derived.Test.YthpmalpdnnbkgaaGreatPTq
import Derived.Test.YthpmalpdnnbkgaaGreatRows
import Derived.Test.YthpmalpdnnbkgaaGreatBRg
set_option linter.unusedVariables false
set_option linter.unusedSimpArgs false
set_option maxRecDepth 100000
namespace Go.Proofs.YthpmalpdnnbkgaaGreat.Pl
open Vm
noncomputable section
def FC:Sum:= {ps:=[⟨[.int .i64,.int .i64,.int .i64,.int .i64,.int .i64,.int .i64,.int .i64,.sl [.int .i64],.sl [.int .i64,.int .i64,.sl [.int .i64]],.int .i64],true⟩],rs:=[⟨[.imm .bool],false⟩],fn:=fun ds=>(FG (au.ae ds 0),[.bool (PD (au.ae ds 0))])}
def J8:Ctx:=[(143,dI),(145,qG),(183,Fe),(184,A5)]
theorem amT:ai Tryz.prog J8:=ab dX (ab KJ (ab SK (ab Uy aq)))
def J9:List (Nat×dv):=[(6, {bJ:=[(1,.aU),(3,.aU),(4,.aU),(30,.aU),(31,.aU),(32,.aU)],boxes:=[(64,[])]})]
def wM:Bool→aV:=(fun r0=>((true,[.bool r0]):aV))
def yx (left:Int) (x:Rows) (bl:Int) (bz:Int) (q_1:Int) (Ia:Int) (q_3:Int) (q_4:Int) (yG:Int) (yH:Int) (yI:Int) (yJ:Rows) (sT:Rows) (FE:Int) (all:Rows):St:= {n:=68,sl:=[(1,.ptr 64 0),(3,.int .i64 left),(4,.own 640256),(30,.sl [.int .i64,.int .i64,.sl [.int .i64]] x),(31,.int .i64 bl),(32,.int .i64 bz)],hp:=[(64,.box 61 [.int .i64 q_1,.int .i64 Ia,.int .i64 q_3,.int .i64 q_4,.int .i64 yG,.int .i64 yH,.int .i64 yI,.sl [.int .i64] yJ,.sl [.int .i64,.int .i64,.sl [.int .i64]] sT,.int .i64 FE]),(640256,.row 3 [.int .i64] all false true)],ok:=true,ls:=[],lm:=[]}
noncomputable def yy (N:Nat):(St→aV)→St→aV:=dw Tryz.prog J8 J9 N Tryz.f141 FC [true,true,true,true,false,true,false] []
theorem al1 (N:Nat) (x:Rows) (bl:Int) (q_1:Int) (Ia:Int) (q_3:Int) (q_4:Int) (yG:Int) (yH:Int) (yI:Int) (yJ:Rows) (sT:Rows) (FE:Int) (ih:St→aV) (left:Int) (bz:Int) (all:Rows):yy N ih (yx left x bl bz q_1 Ia q_3 q_4 yG yH yI yJ sT FE all)=Dn Vm.bad wM x bl yG yH yI yJ (fun left bz all=>ih (yx left x bl bz q_1 Ia q_3 q_4 yG yH yI yJ sT FE all)) left bz all:=by kernel_rfl
theorem al2 (N:Nat) (x:Rows) (bl:Int) (q_1:Int) (Ia:Int) (q_3:Int) (q_4:Int) (yG:Int) (yH:Int) (yI:Int) (yJ:Rows) (sT:Rows) (FE:Int) (m_:Nat):(fun left bz all=>aw (yy N) m_ (yx left x bl bz q_1 Ia q_3 q_4 yG yH yI yJ sT FE all))=lS Vm.bad wM N x bl yG yH yI yJ m_:=by
 induction m_ with
 | zero=>rfl
 | succ m_ ih=>
  funext left bz all
  show yy N (aw (yy N) m_) (yx left x bl bz q_1 Ia q_3 q_4 yG yH yI yJ sT FE all)=_
  rw[al1 N x bl q_1 Ia q_3 q_4 yG yH yI yJ sT FE]
  rw[ih]
  rfl
theorem amU (N:Nat) (q:au):bg Tryz.prog J8 J9 N Tryz.f141 FC (q.enc++([]))=J_ Vm.bad wM N q:=by
 have cm:bg Tryz.prog J8 J9 N Tryz.f141 FC (q.enc++([]))=Ka Vm.bad wM (fun x bl yG yH yI yJ left bz all=>aw (yy N) N (yx left x bl bz q.Ring.cP q.Ring.bB q.Ring.Head q.Ring.fk yG yH yI yJ q.aG q.Next all)) q:=by kernel_rfl
 refine cm.trans ?_
 unfold J_
 have e0:(fun x bl yG yH yI yJ left bz all=>aw (yy N) N (yx left x bl bz q.Ring.cP q.Ring.bB q.Ring.Head q.Ring.fk yG yH yI yJ q.aG q.Next all))=(fun x bl yG yH yI yJ=>lS Vm.bad wM N x bl yG yH yI yJ N):=by
  funext x bl yG yH yI yJ
  exact al2 N x bl q.Ring.cP q.Ring.bB q.Ring.Head q.Ring.fk yG yH yI yJ q.aG q.Next N
 exact congrArg (fun l_=>Ka Vm.bad wM l_ q) e0
theorem amH:Holds Tryz.prog 141 FC:=by
 refine aa (A:=J9) amT Tryz.func141 rfl (by kernel_rfl) (of_decide_eq_true (by kernel_rfl)) (of_decide_eq_true (by kernel_rfl)) ?_
 intro ds hw hok
 replace hw:WtL (au.ct++([])) ds:=hw
 obtain⟨q,ds,rfl,h_q,hw⟩:=au.aZ (r:=_) hw
 obtain rfl:=of_wt_nil hw
 obtain⟨N,hN⟩:=amV Vm.bad wM q h_q hok
 exact⟨N,((amU N q).trans hN).trans (by kernel_rfl)⟩
def FD:Sum:= {ps:=[⟨[.int .i64,.int .i64,.int .i64,.int .i64,.int .i64,.int .i64,.int .i64,.sl [.int .i64],.sl [.int .i64,.int .i64,.sl [.int .i64]],.int .i64],true⟩],rs:=[⟨[.imm .bool],false⟩],fn:=fun ds=>(FG (au.ae ds 0),[.bool (PD (au.ae ds 0))])}
def Kb:Ctx:=[(125,d9),(128,qH),(171,Fg),(172,A7)]
theorem amW:ai Tryz.prog Kb:=ab eE (ab KK (ab SP (ab UC aq)))
def Kc:List (Nat×dv):=[(6, {bJ:=[(1,.aU),(3,.aU),(4,.aU),(5,.aU)],boxes:=[(64,[])]})]
def wN:Bool→aV:=(fun r0=>((true,[.bool r0]):aV))
def yz (bJ:Int) (k:Int) (q_1:Int) (Ia:Int) (q_3:Int) (q_4:Int) (yG:Int) (yH:Int) (yI:Int) (yJ:Rows) (sT:Rows) (FE:Int) (all:Rows):St:= {n:=74,sl:=[(1,.ptr 64 0),(3,.int .i64 bJ),(4,.own 640256),(5,.int .i64 k)],hp:=[(64,.box 61 [.int .i64 q_1,.int .i64 Ia,.int .i64 q_3,.int .i64 q_4,.int .i64 yG,.int .i64 yH,.int .i64 yI,.sl [.int .i64] yJ,.sl [.int .i64,.int .i64,.sl [.int .i64]] sT,.int .i64 FE]),(640256,.row 3 [.int .i64] all false true)],ok:=true,ls:=[],lm:=[]}
noncomputable def yA (N:Nat):(St→aV)→St→aV:=dw Tryz.prog Kb Kc N Tryz.f123 FD [true,true,true,true,false,true,false] []
theorem al3 (N:Nat) (q_1:Int) (Ia:Int) (q_3:Int) (q_4:Int) (yG:Int) (yH:Int) (yI:Int) (yJ:Rows) (sT:Rows) (FE:Int) (ih:St→aV) (bJ:Int) (k:Int) (all:Rows):yA N ih (yz bJ k q_1 Ia q_3 q_4 yG yH yI yJ sT FE all)=Dp Vm.bad wN Ia yG yH yI yJ sT (fun bJ k all=>ih (yz bJ k q_1 Ia q_3 q_4 yG yH yI yJ sT FE all)) bJ k all:=by kernel_rfl
theorem al4 (N:Nat) (q_1:Int) (Ia:Int) (q_3:Int) (q_4:Int) (yG:Int) (yH:Int) (yI:Int) (yJ:Rows) (sT:Rows) (FE:Int) (m_:Nat):(fun bJ k all=>aw (yA N) m_ (yz bJ k q_1 Ia q_3 q_4 yG yH yI yJ sT FE all))=lT Vm.bad wN N Ia yG yH yI yJ sT m_:=by
 induction m_ with
 | zero=>rfl
 | succ m_ ih=>
  funext bJ k all
  show yA N (aw (yA N) m_) (yz bJ k q_1 Ia q_3 q_4 yG yH yI yJ sT FE all)=_
  rw[al3 N q_1 Ia q_3 q_4 yG yH yI yJ sT FE]
  rw[ih]
  rfl
theorem amX (N:Nat) (q:au):bg Tryz.prog Kb Kc N Tryz.f123 FD (q.enc++([]))=Kd Vm.bad wN N q:=by
 have cm:bg Tryz.prog Kb Kc N Tryz.f123 FD (q.enc++([]))=Ke Vm.bad wN (fun Ia yG yH yI yJ sT bJ k all=>aw (yA N) N (yz bJ k q.Ring.cP Ia q.Ring.Head q.Ring.fk yG yH yI yJ sT q.Next all)) q:=by kernel_rfl
 refine cm.trans ?_
 unfold Kd
 have e0:(fun Ia yG yH yI yJ sT bJ k all=>aw (yA N) N (yz bJ k q.Ring.cP Ia q.Ring.Head q.Ring.fk yG yH yI yJ sT q.Next all))=(fun Ia yG yH yI yJ sT=>lT Vm.bad wN N Ia yG yH yI yJ sT N):=by
  funext Ia yG yH yI yJ sT
  exact al4 N q.Ring.cP Ia q.Ring.Head q.Ring.fk yG yH yI yJ sT q.Next N
 exact congrArg (fun l_=>Ke Vm.bad wN l_ q) e0
theorem amJ:Holds Tryz.prog 123 FD:=by
 refine aa (A:=Kc) amW Tryz.func123 rfl (by kernel_rfl) (of_decide_eq_true (by kernel_rfl)) (of_decide_eq_true (by kernel_rfl)) ?_
 intro ds hw hok
 replace hw:WtL (au.ct++([])) ds:=hw
 obtain⟨q,ds,rfl,h_q,hw⟩:=au.aZ (r:=_) hw
 obtain rfl:=of_wt_nil hw
 obtain⟨N,hN⟩:=amY Vm.bad wN q h_q hok
 exact⟨N,((amX N q).trans hN).trans (by kernel_rfl)⟩
end
end Go.Proofs.YthpmalpdnnbkgaaGreat.Pl
