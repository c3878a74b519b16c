/- Conditions: as each says. -/
import Derived.Test.YteffpikahopfoaaGreatP0
import Derived.Test.YteffpikahopfoaaGreatRows
import Derived.Test.YteffpikahopfoaaGreatP1
import Derived.Test.YteffpikahopfoaaGreatP2
set_option linter.unusedVariables false
set_option linter.unusedSimpArgs false
set_option maxRecDepth 100000
open Go.Proofs.Tryz
open Go.Proofs.Tryz renaming prog→hO
open Int renaming toNat→hP
namespace Go.Proofs.YteffpikahopfoaaGreat.Pl
open Vm
noncomputable section
abbrev bX(a:Bool):B:=(true,[.bool a])
abbrev cp(a:Int):B:=(true,[.int a])
abbrev cu(a:u):B:=(true,[.sl a])
abbrev c5(a:x):B:=(true,[.str a])
abbrev ue:List Pj:=[.eV .i,.eV .i,.eV .i,.own 3 K]
abbrev As:List Pj:=[.eV .i,.eV .i,.eV .i,.eV .i,.eV .i,.eV .i,.eV .i,.own 3 K,.deep 138 [.i,.i,.sl K] [3],.eV .i]
abbrev NS:List Pj:=[.own 9 sK,.own 134 lU,.eV .i,.eV .i,.eV .i,.eV .i,.eV .i,.eV .i,.eV .i,.own 3 K,.deep 138 [.i,.i,.sl K] [3],.eV .i,.own 74 au,.deep 32 [.i,.i,.i,.sl K] [3],.own 77 EJ,.own 4 Cl,.eV .i,.eV .bool,.own 3 K,.own 147 uz,.own 151 Zi,.eV .str,.own 3 K,.own 170 qJ,.eV .bool,.own 9 sK,.own 3 K,.own 3 K,.eV .i,.eV .i,.eV .i,.eV .i,.eV .i]
abbrev O_:List Pj:=[.eV .i,.eV .i,.eV .i,.eV .i,.eV .bool,.eV .bool]
abbrev Zb:List Pj:=[.eV .i,.eV .i,.eV .i,.eV .i]
abbrev nu9:List Pj:=[.eV .i,.eV .i,.eV .i,.eV .i,.eV .i,.eV .i,.eV .i,.eV .str]
abbrev wU:List Pj:=[.eV .i,.eV .i,.eV .i,.eV .i,.eV .i,.eV .i,.eV .i,.eV .i,.eV .i,.eV .i,.eV .i,.eV .i,.eV .i,.eV .i,.eV .i,.eV .str]
abbrev dw:List Pj:=[.eV .i,.eV .i,.eV .i,.eV .i,.eV .i]
abbrev tC:List Pj:=[.eV .i,.eV .i,.eV .i,.eV .i,.eV .i,.eV .i,.eV .i,.eV .i,.eV .i,.eV .i,.eV .i,.eV .i,.eV .i,.eV .i,.eV .i,.eV .i,.eV .i,.eV .i,.eV .i,.eV .i,.eV .i,.eV .i,.eV .i,.eV .i,.eV .i,.eV .str,.eV .i,.eV .i,.eV .bool,.eV .i]
abbrev ngJ:List Pj:=[.eV .i,.eV .i,.eV .i,.eV .i,.eV .i,.eV .i,.eV .i,.eV .i,.eV .i,.eV .i,.eV .i,.eV .i,.eV .i,.eV .i,.eV .i,.eV .str,.eV .i,.eV .i]
abbrev na6:List Pj:=[.eV (.sl sK),.eV (.sl lU),.eV .i,.eV .i,.eV .i,.eV .i,.eV .i,.eV .i,.eV .i,.eV (.sl K),.eV (.sl [.i,.i,.sl K]),.eV .i,.eV (.sl au),.eV (.sl [.i,.i,.i,.sl K]),.eV (.sl EJ),.eV (.sl Cl),.eV .i,.eV .bool,.eV (.sl K),.eV (.sl uz),.eV (.sl Zi),.eV .str,.eV (.sl K),.eV (.sl qJ),.eV .bool,.eV (.sl sK),.eV (.sl K),.eV (.sl K),.eV .i,.eV .i,.eV .i,.eV .i,.eV .i]
def Y9:C:= {ps:=[⟨K,false⟩,⟨K,false⟩,⟨K,false⟩],rs:=[⟨[.eV .bool],false⟩],fn:=λa=>(true,[.bool (D (r a 0) (r a 1) (r a 2))])}
theorem mR:Np hO 25 Y9:=by refine R3 T func25 λc a _=>?_;obtain⟨n,c,rfl,_,a⟩:=Q_ a;obtain⟨d,c,rfl,_,a⟩:=Q_ a;obtain⟨b,rfl,_⟩:=Ap a;exact⟨0,Xy (nv3 bX n d b)⟩
theorem iH:Np hO 145 Y9:=by refine R3 T func145 λd b _=>?_;obtain⟨x,d,rfl,_,b⟩:=Q_ b;obtain⟨a,d,rfl,_,b⟩:=Q_ b;obtain⟨c,rfl,_⟩:=Ap b;exact⟨0,Xy (nv3 bX x a c)⟩
def O1:C:= {ps:=[⟨[.sl K],false⟩,⟨K,false⟩],rs:=[⟨[.eV .bool],false⟩],fn:=λa=>(true,[.bool (wc (df a 0) (r a 1))])}
def nfa:List (Nat×YJ):=[(2, {cx:=[(1,.AH),(7,.AH),(8,.AH),(9,.AH)],boxes:=[]})]
def evQ:Bool→B:=bX
def nEG(n:Int)(l:u)(a b:Int):E:= {n:=17,sl:=[(1,p n),(7,.sl K l),(8,p a),(9,p b)],hp:=[]}
theorem nnU:Np hO 107 O1:=by refine a0 (A:=nfa) T func107 λc a _=>?_;obtain⟨l,c,rfl,b,a⟩:=Tf a;obtain⟨n,rfl,_⟩:=Ap a;obtain⟨N,d⟩:=ndJ Vm.lf evQ l n b;exact⟨N,BV (λe=>YD Vm.lf evQ e l n) (funext λf=>Cj (n7 hO [] nfa N f107 O1 [true,false,true,false] []) (nEG n l f) _ N) d⟩
def NN:C:= {ps:=[⟨QD.ct,true⟩],rs:=[⟨[.eV .bool],false⟩],fn:=λa=>(true,[.bool (pY (QD.nd a 0))])}
def nvD:Ctx:=[(25,Y9)]
theorem nFP:qk hO nvD:=y mR T
def nrR:List (Nat×YJ):=[(2, {cx:=[(1,.AH),(6,.AH),(7,.AH),(8,.AH)],boxes:=[(64,[])]})]
def nfm:Bool→B:=bX
def nCd(x:u)(a b c:Int)(d:Bool)(e:u):E:= {n:=40,sl:=[(1,.ptr 64 0),(6,.sl K x),(7,p a),(8,p b)],hp:=[(64,.box 41 [p c,.bool d,.sl K e])]}
theorem nt9:Np hO 24 NN:=by refine a0 (A:=nrR) nFP func24 λc a _=>?_;obtain⟨f,c,rfl,b,a⟩:=QD.nX a;obtain rfl:=fi a;obtain⟨N,d⟩:=nhX Vm.lf nfm f b;exact⟨N,BV (λe=>bA Vm.lf nfm e f) (funext λx=>funext λg=>funext λh=>funext λi=>Cj (n7 hO nvD nrR N f24 NN [true,false,true,false] []) (λj=>nCd x g j h f.c i) _ N) d⟩
def nAA:Ctx:=[(145,Y9)]
theorem nlZ:qk hO nAA:=y iH T
def ns6:List (Nat×YJ):=[(2, {cx:=[(1,.AH),(3,.AH)],boxes:=[(64,[])]})]
def nlY:Bool→B:=bX
def nou(k a:Int)(b:Bool)(c:u):E:= {n:=45,sl:=[(1,.ptr 64 0),(3,p k)],hp:=[(64,.box 41 [p a,.bool b,.sl K c])]}
theorem nb7:Np hO 146 NN:=by refine a0 (A:=ns6) nlZ func146 λc a _=>?_;obtain⟨f,c,rfl,b,a⟩:=QD.nX a;obtain rfl:=fi a;obtain⟨N,d⟩:=nbw Vm.lf nlY f b;exact⟨N,BV (λe=>ux Vm.lf nlY e f) (funext λg=>funext λh=>Cj (n7 hO nAA ns6 N f146 NN [true,false,true,false] []) (λk=>nou k g f.c h) _ N) d⟩
def Qa:C:= {ps:=[⟨EP.ct,true⟩],rs:=[⟨[.eV .bool],false⟩],fn:=λa=>(true,[.bool (B5 (EP.nd a 0))])}
theorem ns3:Np hO 123 Qa:=by refine R3 (Γ:=[(25,Y9)]) (y mR T) func123 λb a _=>?_;obtain⟨g,b,rfl,_,a⟩:=EP.nX a;obtain rfl:=fi a;exact⟨0,Xy (ns_ bX g)⟩
theorem noh:Np hO 190 Qa:=by refine R3 (Γ:=[(145,Y9)]) (y iH T) func190 λb a _=>?_;obtain⟨g,b,rfl,_,a⟩:=EP.nX a;obtain rfl:=fi a;exact⟨0,Xy (nfn bX g)⟩
def bL:C:= {ps:=[⟨K,false⟩],rs:=[⟨[.eV .bool],false⟩],fn:=λa=>(true,[.bool (HL (r a 0))])}
theorem nui:Np hO 124 bL:=by refine R3 T func124 λb c _=>?_;obtain⟨a,rfl,_⟩:=Ap c;exact⟨0,Xy (nw0 bX a)⟩
def Tb:C:= {ps:=[⟨N.ct,true⟩],rs:=[⟨[.eV .bool],false⟩],fn:=λa=>(true,[.bool (Tp (N.nd a 0))])}
theorem We:Np hO 60 Tb:=by refine R3 (Γ:=[(25,Y9),(123,Qa),(124,bL)]) (y mR (y ns3 (y nui T))) func60 λb a _=>?_;obtain⟨p,b,rfl,_,a⟩:=N.nX a;obtain rfl:=fi a;exact⟨0,Xy (nsQ bX p)⟩
theorem c_:Np hO 133 Tb:=by refine R3 (Γ:=[(145,Y9),(190,Qa)]) (y iH (y noh T)) func133 λb a _=>?_;obtain⟨p,b,rfl,_,a⟩:=N.nX a;obtain rfl:=fi a;exact⟨0,Xy (nts bX p)⟩
def i9:C:= {ps:=[⟨[.sl lU],false⟩,⟨K,false⟩,⟨K,false⟩],rs:=[⟨[.eV .i],false⟩],fn:=λa=>(true,[.int (uW (df a 0) (r a 1) (r a 2))])}
def nhT:List (Nat×YJ):=[(2, {cx:=[(1,.AH),(2,.AH),(9,.AH),(10,.AH),(11,.AH)],boxes:=[]})]
def ncq:Int→B:=cp
def nyz(a b:Int)(list_:u)(c d:Int):E:= {n:=28,sl:=[(1,p a),(2,p b),(9,.sl lU list_),(10,p c),(11,p d)],hp:=[]}
theorem nfd:Np hO 56 i9:=by refine a0 (A:=nhT) T func56 λc b _=>?_;obtain⟨list_,c,rfl,e,b⟩:=Tf b;obtain⟨a,c,rfl,_,b⟩:=Q_ b;obtain⟨d,rfl,_⟩:=Ap b;obtain⟨N,f⟩:=nxe Vm.lf ncq list_ a d e;exact⟨N,BV (λg=>RT Vm.lf ncq g list_ a d) (funext λh=>Cj (n7 hO [] nhT N f56 i9 [true,false,true,false] []) (nyz a d list_ h) _ N) f⟩
def du:C:= {ps:=[⟨[.sl lU],false⟩],rs:=[⟨[.eV .bool],false⟩],fn:=λa=>(true,[.bool (mC (df a 0))])}
def nvM:Ctx:=[(25,Y9),(56,i9)]
theorem nvB:qk hO nvM:=y mR (y nfd T)
def ntk:List (Nat×YJ):=[(2, {cx:=[(0,.AH),(5,.AH),(6,.AH),(7,.AH)],boxes:=[]})]
def nC4:Bool→B:=bX
def nu8(list_ x:u)(a b:Int):E:= {n:=42,sl:=[(0,.sl lU list_),(5,.sl lU x),(6,p a),(7,p b)],hp:=[]}
theorem noR:Np hO 22 du:=by refine a0 (A:=ntk) nvB func22 λa b _=>?_;obtain⟨list_,rfl,c⟩:=nh b;obtain⟨N,d⟩:=nra Vm.lf nC4 list_ c;exact⟨N,BV (λe=>nFS Vm.lf nC4 e list_) (funext λx=>funext λf=>Cj (n7 hO nvM ntk N f22 du [true,false,true,false] []) (nu8 list_ x f) _ N) d⟩
def QC:Ctx:=[(145,Y9)]
theorem ntH:qk hO QC:=y iH T
def pP:List (Nat×YJ):=[(4, {cx:=[(0,.AH),(3,.AH)],boxes:=[]}),(10, {cx:=[(0,.AH),(3,.AH),(4,.AH),(5,.AH)],boxes:=[(256,[])]})]
def Nd:Bool→B:=bX
def kr(list_:u)(k:Int):E:= {n:=58,sl:=[(0,.sl lU list_),(3,p k)],hp:=[]}
def WD(list_:u)(k i x a b:Int)(c:Bool):E:= {n:=58,sl:=[(0,.sl lU list_),(3,p k),(4,.ptr 256 0),(5,p i)],hp:=[(256,.box 134 [p x,p a,p b,.bool c])]}
noncomputable def yg(N:Nat)(a:E→B):(E→B)→E→B:=n7 hO QC pP N f262 du [true,true,false,true,false,false,true,false,false,true,true,true,false] [a]
noncomputable def YU(N:Nat):(E→B)→E→B:=n7 hO QC pP N f262 du [true,true,false,true,false] []
theorem nBZ(N:Nat)(b:E→B)(list_:u)(k x a c:Int)(d:Bool)(e:E→B)(i:Int):yg N b e (WD list_ k i x a c d)=Rq Vm.lf Nd (λk=>b (kr list_ k)) list_ k x a (λi=>e (WD list_ k i x a c d)) i:=by kernel_rfl
theorem noI(N:Nat)(b:E→B)(list_:u)(k x c d:Int)(e:Bool)(a:Nat):(λi=>VB (yg N b) a (WD list_ k i x c d e))=lM Vm.lf Nd N (λk=>b (kr list_ k)) list_ k x c a:=by
 induction a with
 | zero=>rfl
 | succ a f=>
  funext i;refine (nBZ N b list_ k x c d e (VB (yg N b) a) i).trans ?_;rw[f];rfl
theorem nDw(N:Nat)(list_:u)(a:E→B)(k:Int):YU N a (kr list_ k)=Bq Vm.lf Nd (λk x b i=>VB (yg N a) N (WD list_ k i x b (r (q list_ (hP k)) 2) (Dd (q list_ (hP k)) 3))) list_ (λk=>a (kr list_ k)) k:=by kernel_rfl
theorem nwT(N:Nat)(list_:u)(a:Nat):(λk=>VB (YU N) a (kr list_ k))=zw Vm.lf Nd N list_ a:=by
 induction a with
 | zero=>rfl
 | succ a b=>
  funext k;refine (nDw N list_ (VB (YU N) a) k).trans ?_;have c:=funext λk=>funext λx=>funext λd=>noI N (VB (YU N) a) list_ k x d (r (q list_ (hP k)) 2) (Dd (q list_ (hP k)) 3) N;rw[c];rw[b];rfl
theorem nD4:Np hO 262 du:=by refine a0 (A:=pP) ntH func262 λa b _=>?_;obtain⟨list_,rfl,c⟩:=nh b;obtain⟨N,d⟩:=nxP Vm.lf Nd list_ c;refine⟨N,Eq.trans ?_ (d.trans (by kernel_rfl))⟩;unfold wV;rw[←nwT N list_ N];kernel_rfl
def zs:C:= {ps:=[⟨[.sl sK],false⟩],rs:=[⟨[.own 9 sK],false⟩],fn:=λa=>(Pw (df a 0),[.sl (F (df a 0))])}
theorem nv_:Np hO 92 zs:=by refine R3 T func92 λa b aN=>?_;obtain⟨l,rfl,_⟩:=nh b;exact⟨0,Xy (nk5 Vm.lf cu l aN)⟩
def pE:C:= {ps:=[⟨v.ct,true⟩],rs:=[⟨[.own 9 sK],true⟩],fn:=λa=>(WO (v.nd a 0),v.enc (F (v.nd a 0)))}
theorem nT:Np hO 85 pE:=by refine R3 (Γ:=[(92,zs)]) (y nv_ T) func85 λb a aN=>?_;obtain⟨m,b,rfl,_,a⟩:=v.nX a;obtain rfl:=fi a;exact⟨0,Xy (ncE Vm.lf (λc=>((true,v.enc c):B)) m aN)⟩
def uv:C:= {ps:=[⟨v.ct,true⟩],rs:=[⟨[.eV .bool],false⟩],fn:=λa=>(true,[.bool (Km (v.nd a 0))])}
def npe:List (Nat×YJ):=[(2, {cx:=[(1,.AH),(6,.AH),(7,.AH),(8,.AH)],boxes:=[(64,[])]})]
def nv8:Bool→B:=bX
def nBb(x:u)(a b:Int)(c:u):E:= {n:=20,sl:=[(1,.ptr 64 0),(6,.sl sK x),(7,p a),(8,p b)],hp:=[(64,.box 26 [.sl sK c])]}
theorem Yy:Np hO 21 uv:=by refine a0 (A:=npe) T func21 λb a _=>?_;obtain⟨m,b,rfl,c,a⟩:=v.nX a;obtain rfl:=fi a;obtain⟨N,d⟩:=nAb Vm.lf nv8 m c;exact⟨N,BV (λe=>W5 Vm.lf nv8 e m) (funext λx=>funext λf=>funext λg=>Cj (n7 hO [] npe N f21 uv [true,false,true,false] []) (λh=>nBb x f h g) _ N) d⟩
def naJ:List (Nat×YJ):=[(2, {cx:=[(1,.AH),(3,.AH)],boxes:=[(64,[])]})]
def nCW:Bool→B:=bX
def npp(k:Int)(a:u):E:= {n:=22,sl:=[(1,.ptr 64 0),(3,p k)],hp:=[(64,.box 26 [.sl sK a])]}
theorem nfE:Np hO 263 uv:=by refine a0 (A:=naJ) T func263 λb a _=>?_;obtain⟨m,b,rfl,c,a⟩:=v.nX a;obtain rfl:=fi a;obtain⟨N,d⟩:=nte Vm.lf nCW m c;exact⟨N,BV (λe=>neI Vm.lf nCW e m) (funext λf=>Cj (n7 hO [] naJ N f263 uv [true,false,true,false] []) (λk=>npp k f) _ N) d⟩
def RF:C:= {ps:=[⟨K,false⟩],rs:=[⟨[.eV .bool],false⟩],fn:=λa=>(true,[.bool (SI (r a 0))])}
theorem Fu:Np hO 121 RF:=by refine R3 T func121 λa b _=>?_;obtain⟨n,rfl,_⟩:=Ap b;exact⟨0,Xy (nzq bX n)⟩
theorem nv7:Np hO 256 RF:=by refine R3 T func256 λa b _=>?_;obtain⟨n,rfl,_⟩:=Ap b;exact⟨0,Xy (nzq bX n)⟩
def mP:C:= {ps:=[⟨K,false⟩],rs:=[⟨[.eV .bool],false⟩],fn:=λa=>(true,[.bool (Xv (r a 0))])}
theorem nyc:Np hO 128 mP:=by refine R3 T func128 λa b _=>?_;obtain⟨n,rfl,_⟩:=Ap b;exact⟨0,Xy (nEa bX n)⟩
theorem nym:Np hO 234 mP:=by refine R3 T func234 λa b _=>?_;obtain⟨n,rfl,_⟩:=Ap b;exact⟨0,Xy (nEa bX n)⟩
def fc:C:= {ps:=[⟨K,false⟩,⟨K,false⟩],rs:=[⟨[.eV .i],false⟩],fn:=λa=>(vt (r a 0) (r a 1),[.int (Rk (r a 0) (r a 1))])}
theorem Vx:Np hO 115 fc:=by refine R3 T func115 λb a aN=>?_;obtain⟨x,b,rfl,_,a⟩:=Q_ a;obtain⟨n,rfl,_⟩:=Ap a;exact⟨0,Xy (nbf Vm.lf cp x n aN)⟩
def Oy:C:= {ps:=[⟨I.ct,true⟩],rs:=[⟨[.eV .i],false⟩],fn:=λa=>(true,[.int (TG (I.nd a 0))])}
theorem Rm:Np hO 122 Oy:=by refine R3 (Γ:=[(115,fc),(121,RF)]) (y Vx (y Fu T)) func122 λc a _=>?_;obtain⟨r,c,rfl,b,a⟩:=I.nX a;obtain rfl:=fi a;exact⟨0,Xy (ncm Vm.lf cp r b)⟩
theorem nAt:Np hO 257 Oy:=by refine R3 (Γ:=[(256,RF)]) (y nv7 T) func257 λb a _=>?_;obtain⟨r,b,rfl,_,a⟩:=I.nX a;obtain rfl:=fi a;exact⟨0,Xy (nbM cp r)⟩
def EX:C:= {ps:=[⟨I.ct,true⟩],rs:=[⟨[.eV .bool],false⟩],fn:=λa=>(true,[.bool (Vd (I.nd a 0))])}
theorem PC:Np hO 57 EX:=by refine R3 (Γ:=[(25,Y9),(121,RF),(122,Oy)]) (y mR (y Fu (y Rm T))) func57 λb a _=>?_;obtain⟨r,b,rfl,_,a⟩:=I.nX a;obtain rfl:=fi a;exact⟨0,Xy (naA bX r)⟩
theorem nq6:Np hO 239 EX:=by refine R3 (Γ:=[(145,Y9),(256,RF),(257,Oy)]) (y iH (y nv7 (y nAt T))) func239 λb a _=>?_;obtain⟨r,b,rfl,_,a⟩:=I.nX a;obtain rfl:=fi a;exact⟨0,Xy (naA bX r)⟩
def Zl:C:= {ps:=[⟨CI.ct,true⟩],rs:=[⟨[.eV .bool],false⟩],fn:=λa=>(true,[.bool (dq (CI.nd a 0))])}
theorem nC0:Np hO 59 Zl:=by refine R3 (Γ:=[(25,Y9),(121,RF)]) (y mR (y Fu T)) func59 λb a _=>?_;obtain⟨q,b,rfl,_,a⟩:=CI.nX a;obtain rfl:=fi a;exact⟨0,Xy (ny5 bX q)⟩
def E5:C:= {ps:=[⟨Ue.ct,true⟩],rs:=[⟨[.eV .bool],false⟩],fn:=λa=>(true,[.bool (due (Ue.nd a 0))])}
theorem nn3:Np hO 61 E5:=by refine R3 T func61 λb a _=>?_;obtain⟨v,b,rfl,_,a⟩:=Ue.nX a;obtain rfl:=fi a;exact⟨0,Xy (nCH bX v)⟩
theorem nBN:Np hO 232 E5:=by refine R3 T func232 λb a _=>?_;obtain⟨v,b,rfl,_,a⟩:=Ue.nX a;obtain rfl:=fi a;exact⟨0,Xy (nCH bX v)⟩
def Ux:C:= {ps:=[⟨Ue.ct,true⟩],rs:=[⟨[.eV .bool],false⟩],fn:=λa=>(true,[.bool (iv (Ue.nd a 0))])}
theorem OX:Np hO 28 Ux:=by refine R3 (Γ:=[(25,Y9),(61,E5)]) (y mR (y nn3 T)) func28 λb a _=>?_;obtain⟨v,b,rfl,_,a⟩:=Ue.nX a;obtain rfl:=fi a;exact⟨0,Xy (nsM bX v)⟩
theorem nlq:Np hO 204 Ux:=by refine R3 (Γ:=[(145,Y9),(232,E5)]) (y iH (y nBN T)) func204 λb a _=>?_;obtain⟨v,b,rfl,_,a⟩:=Ue.nX a;obtain rfl:=fi a;exact⟨0,Xy (nsM bX v)⟩
def xR:C:= {ps:=[⟨S.ct,true⟩],rs:=[⟨[.eV .bool],false⟩],fn:=λa=>(true,[.bool (TH (S.nd a 0))])}
theorem PL:Np hO 26 xR:=by refine R3 (Γ:=[(25,Y9),(57,EX),(59,Zl),(60,Tb)]) (y mR (y PC (y nC0 (y We T)))) func26 λb a _=>?_;obtain⟨q,b,rfl,_,a⟩:=S.nX a;obtain rfl:=fi a;exact⟨0,Xy (ncP bX q)⟩
def RG:C:= {ps:=[⟨ao.ct,true⟩],rs:=[⟨[.eV .bool],false⟩],fn:=λa=>(true,[.bool (dG (ao.nd a 0))])}
theorem nxn:Np hO 125 RG:=by refine R3 (Γ:=[(25,Y9)]) (y mR T) func125 λb a _=>?_;obtain⟨r,b,rfl,_,a⟩:=ao.nX a;obtain rfl:=fi a;exact⟨0,Xy (nrf bX r)⟩
theorem nkn:Np hO 233 RG:=by refine R3 (Γ:=[(145,Y9)]) (y iH T) func233 λb a _=>?_;obtain⟨r,b,rfl,_,a⟩:=ao.nX a;obtain rfl:=fi a;exact⟨0,Xy (nrf bX r)⟩
def BG:C:= {ps:=[⟨[.sl uz],false⟩],rs:=[⟨[.eV .bool],false⟩],fn:=λa=>(true,[.bool (vz (df a 0))])}
def nft:Ctx:=[(125,RG)]
theorem nFA:qk hO nft:=y nxn T
def nit:List (Nat×YJ):=[(2, {cx:=[(0,.AH),(5,.AH),(6,.AH),(7,.AH)],boxes:=[]})]
def nwB:Bool→B:=bX
def nac(list_ x:u)(a b:Int):E:= {n:=18,sl:=[(0,.sl uz list_),(5,.sl uz x),(6,p a),(7,p b)],hp:=[]}
theorem nbV:Np hO 62 BG:=by refine a0 (A:=nit) nFA func62 λa b _=>?_;obtain⟨list_,rfl,c⟩:=nh b;obtain⟨N,d⟩:=ngA Vm.lf nwB list_ c;exact⟨N,BV (λe=>nw2 Vm.lf nwB e list_) (funext λx=>funext λf=>Cj (n7 hO nft nit N f62 BG [true,false,true,false] []) (nac list_ x f) _ N) d⟩
def nag:Ctx:=[(233,RG)]
theorem nbT:qk hO nag:=y nkn T
def nhu:List (Nat×YJ):=[(2, {cx:=[(0,.AH),(3,.AH)],boxes:=[]})]
def ng2:Bool→B:=bX
def ni5(list_:u)(k:Int):E:= {n:=19,sl:=[(0,.sl uz list_),(3,p k)],hp:=[]}
theorem ngP:Np hO 205 BG:=by refine a0 (A:=nhu) nbT func205 λa b _=>?_;obtain⟨list_,rfl,c⟩:=nh b;obtain⟨N,d⟩:=nl0 Vm.lf ng2 list_ c;exact⟨N,BV (λe=>ju Vm.lf ng2 e list_) (Cj (n7 hO nag nhu N f205 BG [true,false,true,false] []) (ni5 list_) _ N) d⟩
def wG:C:= {ps:=[⟨[.sl K],false⟩],rs:=[⟨[.own 3 K],false⟩],fn:=λa=>(Pw (df a 0),[.sl (F (df a 0))])}
theorem Bu:Np hO 93 wG:=by refine R3 T func93 λa b aN=>?_;obtain⟨l,rfl,_⟩:=nh b;exact⟨0,Xy (nwg Vm.lf cu l aN)⟩
def Qe:C:= {ps:=[⟨G.ct,true⟩],rs:=[⟨ue,true⟩],fn:=λa=>(aU (G.nd a 0),G.enc (F (G.nd a 0)))}
theorem T6:Np hO 88 Qe:=by refine R3 (Γ:=[(93,wG)]) (y Bu T) func88 λb a aN=>?_;obtain⟨p,b,rfl,_,a⟩:=G.nX a;obtain rfl:=fi a;exact⟨0,Xy (nqU Vm.lf (λc=>((true,G.enc c):B)) p aN)⟩
theorem nDr:Np hO 238 Qe:=by refine R3 T func238 λb a aN=>?_;obtain⟨p,b,rfl,_,a⟩:=G.nX a;obtain rfl:=fi a;exact⟨0,Xy (njs Vm.lf (λc=>((true,G.enc c):B)) p aN)⟩
def fZ:C:= {ps:=[⟨G.ct,true⟩],rs:=[⟨[.eV .bool],false⟩],fn:=λa=>(true,[.bool (PM (G.nd a 0))])}
def nw1:Ctx:=[(25,Y9)]
theorem nEL:qk hO nw1:=y mR T
def ntj:List (Nat×YJ):=[(5, {cx:=[(1,.AH),(3,.AH),(26,.AH),(27,.AH),(28,.AH)],boxes:=[(64,[])]})]
def nDZ:Bool→B:=bX
def nse(x:u)(b c d e f:Int)(g a:u):E:= {n:=48,sl:=[(1,.ptr 64 0),(3,.own 640192),(26,.sl K x),(27,p b),(28,p c)],hp:=[(64,.box 32 [p d,p e,p f,.sl K g]),(640192,.row 4 Cl a false true)]}
theorem ye:Np hO 27 fZ:=by refine a0 (A:=ntj) nEL func27 λd b _=>?_;obtain⟨p,d,rfl,c,b⟩:=G.nX b;obtain rfl:=fi b;obtain⟨N,e⟩:=nmS Vm.lf nDZ p c;exact⟨N,BV (λf=>ND Vm.lf nDZ f p) (funext λx=>funext λg=>funext λh=>rm (n7 hO nw1 ntj N f27 fZ [true,true,true,false,true,false] []) (λi a=>nse x g i p.b p.a h p.d a) _ N) e⟩
def np8:Ctx:=[(145,Y9)]
theorem no8:qk hO np8:=y iH T
def niD:List (Nat×YJ):=[(5, {cx:=[(1,.AH),(3,.AH),(4,.AH)],boxes:=[(64,[])]})]
def nB6:Bool→B:=bX
def nya(k b c d:Int)(e a:u):E:= {n:=58,sl:=[(1,.ptr 64 0),(3,.own 640192),(4,p k)],hp:=[(64,.box 32 [p b,p c,p d,.sl K e]),(640192,.row 4 Cl a false true)]}
theorem Gm:Np hO 235 fZ:=by refine a0 (A:=niD) no8 func235 λd b _=>?_;obtain⟨p,d,rfl,c,b⟩:=G.nX b;obtain rfl:=fi b;obtain⟨N,e⟩:=nvr Vm.lf nB6 p c;exact⟨N,BV (λf=>qm Vm.lf nB6 f p) (funext λg=>funext λh=>rm (n7 hO np8 niD N f235 fZ [true,true,true,false,true,false] []) (λk a=>nya k p.b p.a g h a) _ N) e⟩
def bO:C:= {ps:=[⟨G.ct,true⟩,⟨[.sl K],false⟩],rs:=[⟨ue,true⟩,⟨[.eV .bool],false⟩],fn:=λa=>(Ut (G.nd a 0) (df a 4),G.enc (Un (G.nd a 0) (df a 4)).1++[.bool (Un (G.nd a 0) (df a 4)).2])}
theorem zW:Np hO 58 bO:=by refine R3 (Γ:=[(27,fZ),(88,Qe)]) (y ye (y T6 T)) func58 λb a aN=>?_;obtain⟨p,b,rfl,_,a⟩:=G.nX a;obtain⟨list_,rfl,_⟩:=nh a;exact⟨0,Xy (nhh Vm.lf (λc d=>((true,G.enc c++[.bool d]):B)) p list_ aN)⟩
def Ou:C:= {ps:=[⟨Co.ct,true⟩],rs:=[⟨[.eV .bool],false⟩],fn:=λa=>(cF (Co.nd a 0),[.bool (Q7 (Co.nd a 0))])}
def ng4:Ctx:=[(25,Y9),(27,fZ),(57,EX),(58,bO)]
theorem nDV:qk hO ng4:=y mR (y ye (y PC (y zW T)))
def nl7:List (Nat×YJ):=[(6, {cx:=[(1,.AH),(3,.AH),(4,.AH),(30,.AH),(31,.AH),(32,.AH)],boxes:=[(64,[])]})]
def ncp:Bool→B:=bX
def gpF(left:Int)(x:u)(l m a b c d e f g:Int)(h j:u)(o:Int)(k:u):E:= {n:=68,sl:=[(1,.ptr 64 0),(3,p left),(4,.own 640256),(30,.sl [.i,.i,.sl K] x),(31,p l),(32,p m)],hp:=[(64,.box 35 [p a,p b,p c,p d,p e,p f,p g,.sl K h,.sl [.i,.i,.sl K] j,p o]),(640256,.row 3 K k false true)]}
theorem UL:Np hO 23 Ou:=by refine a0 (A:=nl7) nDV func23 λh a aN=>?_;obtain⟨q,h,rfl,b,a⟩:=Co.nX a;obtain rfl:=fi a;obtain⟨N,i⟩:=nAK Vm.lf ncp q b aN;exact⟨N,BV (λj=>vp Vm.lf ncp j q) (funext λx=>funext λk=>funext λc=>funext λd=>funext λe=>funext λf=>QS (n7 hO ng4 nl7 N f23 Ou [true,true,true,true,false,true,false] []) (λleft l g=>gpF left x k l q.b.b q.b.a q.b.d q.b.c c d e f q.c q.d g) _ N) i⟩
def ld:C:= {ps:=[⟨Ve.ct,true⟩],rs:=[⟨[.eV .i],false⟩],fn:=λa=>(true,[.int (Nb (Ve.nd a 0))])}
def naQ:Ctx:=[(115,fc)]
theorem njj:qk hO naQ:=y Vx T
def nei:List (Nat×YJ):=[(3, {cx:=[(3,.AH),(16,.AH),(17,.AH),(18,.AH)],boxes:=[(64,[])]})]
def ntX:Int→B:=cp
def nr7(n x a b c d e f:Int)(g:u):E:= {n:=29,sl:=[(3,p n),(16,.own 641024),(17,p x),(18,p a)],hp:=[(64,.box 149 [p b,p c,p d,p e,p f]),(641024,.row 3 K g false true)]}
theorem nvE:Np hO 187 ld:=by refine a0 (A:=nei) njj func187 λc a _=>?_;obtain⟨f,c,rfl,b,a⟩:=Ve.nX a;obtain rfl:=fi a;obtain⟨N,d⟩:=njL Vm.lf ntX f b;exact⟨N,BV (λe=>nsA Vm.lf ntX e f) (funext λx=>funext λg=>rm (n7 hO naQ nei N f187 ld [true,true,false,true,false] []) (λn h=>nr7 n x h f.c f.b f.d f.f f.e g) _ N) d⟩
def nal:List (Nat×YJ):=[(4, {cx:=[(3,.AH),(4,.AH),(5,.AH)],boxes:=[(64,[])]})]
def na8:Int→B:=cp
def nBx(n k a b c d e:Int)(list_:u):E:= {n:=32,sl:=[(3,p n),(4,.own 640256),(5,p k)],hp:=[(64,.box 149 [p a,p b,p c,p d,p e]),(640256,.row 3 K list_ false true)]}
theorem neS:Np hO 203 ld:=by refine a0 (A:=nal) T func203 λc a _=>?_;obtain⟨f,c,rfl,b,a⟩:=Ve.nX a;obtain rfl:=fi a;obtain⟨N,d⟩:=nB5 Vm.lf na8 f b;exact⟨N,BV (λe=>tq Vm.lf na8 e f) (funext λlist_=>rm (n7 hO [] nal N f203 ld [true,true,true,false,true,false] []) (λn k=>nBx n k f.c f.b f.d f.f f.e list_) _ N) d⟩
def Uq:C:= {ps:=[⟨mB.ct,true⟩,⟨Ve.ct,true⟩],rs:=[⟨[.eV .i],false⟩],fn:=λa=>(true,[.int (aJ (mB.nd a 0) (Ve.nd a 1))])}
def nbI:List (Nat×YJ):=[(2, {cx:=[(3,.AH),(8,.AH),(9,.AH),(10,.AH)],boxes:=[(128,[]),(192,[])]})]
def nAf:Int→B:=cp
def nuu(x:u)(a b:Int)(c:u)(d e f g h:Int):E:= {n:=26,sl:=[(3,.ptr 192 0),(8,.sl Zi x),(9,p a),(10,p b)],hp:=[(128,.box 45 [.sl Zi c]),(192,.box 149 [p d,p e,p f,p g,p h])]}
theorem nam:Np hO 126 Uq:=by refine a0 (A:=nbI) T func126 λb a _=>?_;obtain⟨t,b,rfl,c,a⟩:=mB.nX a;obtain⟨f,b,rfl,_,a⟩:=Ve.nX a;obtain rfl:=fi a;obtain⟨N,d⟩:=noj Vm.lf nAf t f c;exact⟨N,BV (λe=>Uo Vm.lf nAf e t f) (funext λx=>funext λg=>funext λh=>funext λi=>funext λj=>funext λk=>funext λl=>Cj (n7 hO [] nbI N f126 Uq [true,false,true,false] []) (λm=>nuu x g m t.a h i j k l) _ N) d⟩
def oR:C:= {ps:=[⟨mB.ct,true⟩,⟨Ve.ct,true⟩],rs:=[⟨[.eV .i],false⟩],fn:=λa=>(xS (mB.nd a 0) (Ve.nd a 1),[.int (zz (mB.nd a 0) (Ve.nd a 1))])}
def flW:Ctx:=[(203,ld)]
theorem nde:qk hO flW:=y neS T
def ncs:List (Nat×YJ):=[(2, {cx:=[(2,.AH),(3,.AH),(5,.AH)],boxes:=[(128,[]),(192,[])]})]
def nj6:Int→B:=cp
def nmm(k:Int)(a:u)(b c d e f:Int):E:= {n:=41,sl:=[(2,.ptr 128 0),(3,.ptr 192 0),(5,p k)],hp:=[(128,.box 45 [.sl Zi a]),(192,.box 149 [p b,p c,p d,p e,p f])]}
theorem nAq:Np hO 202 oR:=by refine a0 (A:=ncs) nde func202 λb a aN=>?_;obtain⟨t,b,rfl,_,a⟩:=mB.nX a;obtain⟨f,b,rfl,_,a⟩:=Ve.nX a;obtain rfl:=fi a;obtain⟨N,c⟩:=npY Vm.lf nj6 t f aN;exact⟨N,BV (λd=>DL Vm.lf nj6 d t f) (funext λe=>funext λg=>funext λh=>funext λi=>funext λj=>funext λl=>Cj (n7 hO flW ncs N f202 oR [true,false,true,false] []) (λk=>nmm k e g h i j l) _ N) c⟩
def Ee:C:= {ps:=[⟨Ve.ct,true⟩],rs:=[⟨[.own 3 K],false⟩],fn:=λa=>(true,[.sl (tD (Ve.nd a 0))])}
def nC9:Ctx:=[(187,ld)]
theorem nwK:qk hO nC9:=y nvE T
def neY:List (Nat×YJ):=[(3, {cx:=[(1,.AH),(3,.AH),(4,.AH)],boxes:=[(64,[])]})]
def nl5:u→B:=cu
def nwl(i a b c d e:Int)(f:u):E:= {n:=19,sl:=[(1,.ptr 64 0),(3,.own 640192),(4,p i)],hp:=[(64,.box 149 [p a,p b,p c,p d,p e]),(640192,.row 3 K f false true)]}
theorem nen:Np hO 127 Ee:=by refine a0 (A:=neY) nwK func127 λb a _=>?_;obtain⟨f,b,rfl,_,a⟩:=Ve.nX a;obtain rfl:=fi a;obtain⟨N,c⟩:=npy Vm.lf nl5 f;exact⟨N,BV (λd=>NQ Vm.lf nl5 d f) (funext λe=>funext λg=>funext λh=>funext λj=>funext λk=>rm (n7 hO nC9 neY N f127 Ee [true,true,false,true,false] []) (λi l=>nwl i e g h j k l) _ N) c⟩
def fr:C:= {ps:=[⟨mB.ct,true⟩],rs:=[⟨[.eV .bool],false⟩],fn:=λa=>(true,[.bool (Fo (mB.nd a 0))])}
def R2:Ctx:=[(25,Y9),(126,Uq),(127,Ee)]
theorem npD:qk hO R2:=y mR (y nam (y nen T))
def Rs:List (Nat×YJ):=[(4, {cx:=[(1,.AH),(12,.AH),(13,.AH),(14,.AH)],boxes:=[(64,[])]}),(14, {cx:=[(1,.AH),(3,.AH),(12,.AH),(13,.AH),(14,.AH),(49,.AH),(50,.AH),(51,.AH)],boxes:=[(64,[]),(256,[])]})]
def Ex:Bool→B:=bX
def gV(x:u)(a b:Int)(c:u):E:= {n:=67,sl:=[(1,.ptr 64 0),(12,.sl Zi x),(13,p a),(14,p b)],hp:=[(64,.box 45 [.sl Zi c])]}
def cl(d:Int)(x:u)(e f g h:Int)(j:u)(s k l m a b c:Int)(o:u):E:= {n:=67,sl:=[(1,.ptr 64 0),(3,p d),(12,.sl Zi x),(13,p e),(14,p f),(49,.own 643136),(50,p g),(51,p h)],hp:=[(64,.box 45 [.sl Zi j]),(256,.box 151 [p s,p k,p l,p m,p a,p b,p c]),(643136,.row 3 K o false true)]}
noncomputable def vA(N:Nat)(a:E→B):(E→B)→E→B:=n7 hO R2 Rs N f63 fr [true,true,false,true,false,false,true,true,false,false,true,true,true,true,true,false] [a]
noncomputable def fl(N:Nat):(E→B)→E→B:=n7 hO R2 Rs N f63 fr [true,true,false,true,false] []
theorem nrY(N:Nat)(k:E→B)(a:Int)(x:u)(g h i:Int)(e:u)(s l m n b c d:Int)(j:u)(o:E→B)(f:Int):vA N k o (cl a x g h i f e s l m n b c d j)=gm Vm.lf Ex (λa=>k (gV x g a e)) a h i e j (λf=>o (cl a x g h i f e s l m n b c d j)) f:=by kernel_rfl
theorem nkz(N:Nat)(f:E→B)(a:Int)(x:u)(h i j:Int)(g:u)(s m n o b c d:Int)(k:u)(e:Nat):(λl=>VB (vA N f) e (cl a x h i j l g s m n o b c d k))=cd Vm.lf Ex N (λa=>f (gV x h a g)) a i j g k e:=by
 induction e with
 | zero=>rfl
 | succ e p=>
  funext l;refine (nrY N f a x h i j g s m n o b c d k (VB (vA N f) e) l).trans ?_;rw[p];rfl
theorem nCY(N:Nat)(x:u)(b:Int)(c:u)(d:E→B)(a:Int):fl N d (gV x b a c)=w7 Vm.lf Ex (λa e f g h=>VB (vA N d) N (cl a x b e f h c (r (q x (hP a)) 0) (r (q x (hP a)) 1) (r (q x (hP a)) 2) (r (q x (hP a)) 3) (r (q x (hP a)) 4) (r (q x (hP a)) 5) (r (q x (hP a)) 6) g)) x b c (λa=>d (gV x b a c)) a:=by kernel_rfl
theorem nBV(N:Nat)(x:u)(c:Int)(d:u)(b:Nat):(λa=>VB (fl N) b (gV x c a d))=bm Vm.lf Ex N x c d b:=by
 induction b with
 | zero=>rfl
 | succ b e=>
  funext a;refine (nCY N x c d (VB (fl N) b) a).trans ?_;have f:=funext λa=>funext λg=>funext λh=>funext λi=>nkz N (VB (fl N) b) a x c g h d (r (q x (hP a)) 0) (r (q x (hP a)) 1) (r (q x (hP a)) 2) (r (q x (hP a)) 3) (r (q x (hP a)) 4) (r (q x (hP a)) 5) (r (q x (hP a)) 6) i N;rw[f];rw[e];rfl
theorem nxs(N:Nat)(t:mB):dM hO R2 Rs N f63 fr (t.enc++([]))=d8 Vm.lf Ex N t:=by
 have c:dM hO R2 Rs N f63 fr (t.enc++([]))=rr Vm.lf Ex (λx a b d=>VB (fl N) N (gV x a d b)) t:=by kernel_rfl
 refine c.trans ?_;unfold d8;have e:(λx a b d=>VB (fl N) N (gV x a d b))=(λx a b=>bm Vm.lf Ex N x a b N):=by funext x a b;exact nBV N x a b N
 exact congrArg (λf=>rr Vm.lf Ex f t) e
theorem ne3:Np hO 63 fr:=by refine a0 (A:=Rs) npD func63 λc a _=>?_;obtain⟨t,c,rfl,b,a⟩:=mB.nX a;obtain rfl:=fi a;obtain⟨N,d⟩:=nCc Vm.lf Ex t b;exact⟨N,((nxs N t).trans d).trans (by kernel_rfl)⟩
def nl1:Ctx:=[(145,Y9),(202,oR)]
theorem nmv:qk hO nl1:=y iH (y nAq T)
def nki:List (Nat×YJ):=[(4, {cx:=[(1,.AH),(3,.AH)],boxes:=[(64,[])]})]
def nuq:Bool→B:=bX
def nyH(k:Int)(a:u):E:= {n:=49,sl:=[(1,.ptr 64 0),(3,p k)],hp:=[(64,.box 45 [.sl Zi a])]}
theorem njc:Np hO 201 fr:=by refine a0 (A:=nki) nmv func201 λc a _=>?_;obtain⟨t,c,rfl,b,a⟩:=mB.nX a;obtain rfl:=fi a;obtain⟨N,d⟩:=nAy Vm.lf nuq t b;exact⟨N,BV (λe=>Q0 Vm.lf nuq e t) (funext λf=>Cj (n7 hO nl1 nki N f201 fr [true,true,false,true,false] []) (λk=>nyH k f) _ N) d⟩
def wY:C:= {ps:=[⟨iI.ct,true⟩,⟨K,false⟩],rs:=[⟨[.eV .bool],false⟩],fn:=λa=>(true,[.bool (Dv (iI.nd a 0) (r a 2))])}
def nnJ:Ctx:=[(25,Y9),(128,mP)]
theorem nop:qk hO nnJ:=y mR (y nyc T)
def nis:List (Nat×YJ):=[(4, {cx:=[(1,.AH),(24,.AH),(25,.AH),(26,.AH)],boxes:=[(128,[])]})]
def nfc:Bool→B:=bX
def ni3(a:Int)(Z:u)(b c:Int)(d:x)(e:u):E:= {n:=36,sl:=[(1,p a),(24,.sl K Z),(25,p b),(26,p c)],hp:=[(128,.box 47 [.str d,.sl K e])]}
theorem nCP:Np hO 64 wY:=by refine a0 (A:=nis) nop func64 λc a _=>?_;obtain⟨s,c,rfl,d,a⟩:=iI.nX a;obtain⟨b,rfl,_⟩:=Ap a;obtain⟨N,e⟩:=nzP Vm.lf nfc s b d;exact⟨N,BV (λf=>ZQ Vm.lf nfc f s b) (funext λx=>funext λg=>Cj (n7 hO nnJ nis N f64 wY [true,true,false,true,false] []) (λh=>ni3 b x g h s.b s.a) _ N) e⟩
def nmo:Ctx:=[(145,Y9),(234,mP)]
theorem nff:qk hO nmo:=y iH (y nym T)
def nC2:List (Nat×YJ):=[(4, {cx:=[(1,.AH),(2,.AH),(5,.AH)],boxes:=[(128,[])]})]
def nq4:Bool→B:=bX
def nnq(a k:Int)(b:x)(c:u):E:= {n:=38,sl:=[(1,p a),(2,.ptr 128 0),(5,p k)],hp:=[(128,.box 47 [.str b,.sl K c])]}
theorem njp:Np hO 206 wY:=by refine a0 (A:=nC2) nff func206 λc a _=>?_;obtain⟨s,c,rfl,d,a⟩:=iI.nX a;obtain⟨b,rfl,_⟩:=Ap a;obtain⟨N,e⟩:=ncJ Vm.lf nq4 s b d;exact⟨N,BV (λf=>Nq Vm.lf nq4 f s b) (funext λg=>Cj (n7 hO nmo nC2 N f206 wY [true,true,false,true,false] []) (λk=>nnq b k s.b g) _ N) e⟩
def YC:C:= {ps:=[⟨se.ct,true⟩,⟨K,false⟩],rs:=[⟨[.eV .bool],false⟩],fn:=λa=>(true,[.bool (DA (se.nd a 0) (r a 4))])}
def bD:Ctx:=[(62,BG),(63,fr),(64,wY)]
theorem npL:qk hO bD:=y nbV (y ne3 (y nCP T))
def Ej:List (Nat×YJ):=[(4, {cx:=[(1,.AH),(2,.AH),(27,.AH),(28,.AH),(29,.AH)],boxes:=[(128,[])]}),(10, {cx:=[(1,.AH),(45,.AH),(46,.AH),(47,.AH)],boxes:=[(128,[])]})]
def N0:Bool→B:=bX
def yi(b:Int)(Z:u)(c d:Int)(e f:u)(g:x)(a:u):E:= {n:=61,sl:=[(1,p b),(2,.ptr 128 0),(27,.sl uz Z),(28,p c),(29,p d)],hp:=[(128,.box 49 [.sl uz e,.sl Zi f,.str g,.sl K a])]}
def cg(c:Int)(d:u)(e f:Int)(g a:u)(h:x)(b:u):E:= {n:=61,sl:=[(1,p c),(45,.sl Zi d),(46,p e),(47,p f)],hp:=[(128,.box 49 [.sl uz g,.sl Zi a,.str h,.sl K b])]}
noncomputable def kY(N:Nat):(E→B)→E→B:=n7 hO bD Ej N f29 YC [true,true,true,false,true,false] []
noncomputable def wy(N:Nat):(E→B)→E→B:=n7 hO bD Ej N f29 YC [true,true,false,true,false] []
theorem ng6(N:Nat)(d:Int)(e:u)(f:Int)(g a:u)(h:x)(b:u)(i:E→B)(c:Int):kY N i (cg d e f c g a h b)=WV Vm.lf N0 d e f (λc=>i (cg d e f c g a h b)) c:=by kernel_rfl
theorem ngD(N:Nat)(d:Int)(e:u)(f:Int)(h a:u)(i:x)(b:u)(c:Nat):(λg=>VB (kY N) c (cg d e f g h a i b))=nB Vm.lf N0 N d e f c:=by
 induction c with
 | zero=>rfl
 | succ c j=>
  funext g;refine (ng6 N d e f h a i b (VB (kY N) c) g).trans ?_;rw[j];rfl
theorem nrX(N:Nat)(c:Int)(Z:u)(e:Int)(f b:u)(g:x)(a:u)(h:E→B)(d:Int):wy N h (yi c Z e d f b g a)=OZ Vm.lf N0 (λi j=>VB (kY N) N (cg c b i j f b g a)) c Z e b (λd=>h (yi c Z e d f b g a)) d:=by kernel_rfl
theorem nl4(N:Nat)(d:Int)(Z:u)(e:Int)(f b:u)(g:x)(a:u)(c:Nat):(λh=>VB (wy N) c (yi d Z e h f b g a))=Al Vm.lf N0 N d Z e b c:=by
 induction c with
 | zero=>rfl
 | succ c i=>
  funext h;refine (nrX N d Z e f b g a (VB (wy N) c) h).trans ?_;have j:=funext λk=>ngD N d b k f b g a N;rw[j];rw[i];rfl
theorem nBv(N:Nat)(s:se)(a:Int):dM hO bD Ej N f29 YC (s.enc++(.int a::([])))=fy Vm.lf N0 N s a:=by
 have d:dM hO bD Ej N f29 YC (s.enc++(.int a::([])))=Nw Vm.lf N0 (λx b c e=>VB (wy N) N (yi a x b e s.c c s.b.b s.b.a)) s a:=by kernel_rfl
 refine d.trans ?_;unfold fy;have f:(λx b c e=>VB (wy N) N (yi a x b e s.c c s.b.b s.b.a))=(λx b c=>Al Vm.lf N0 N a x b c N):=by funext x b c;exact nl4 N a x b s.c c s.b.b s.b.a N
 exact congrArg (λg=>Nw Vm.lf N0 g s a) f
theorem ns2:Np hO 29 YC:=by refine a0 (A:=Ej) npL func29 λb a _=>?_;obtain⟨s,b,rfl,d,a⟩:=se.nX a;obtain⟨c,rfl,_⟩:=Ap a;obtain⟨N,e⟩:=nq1 Vm.lf N0 s c d;exact⟨N,((nBv N s c).trans e).trans (by kernel_rfl)⟩
def ou:Ctx:=[(201,fr),(205,BG),(206,wY)]
theorem txQ:qk hO ou:=y njc (y ngP (y njp T))
def dC:List (Nat×YJ):=[(4, {cx:=[(1,.AH),(2,.AH),(5,.AH)],boxes:=[(128,[])]}),(9, {cx:=[(1,.AH),(2,.AH),(6,.AH)],boxes:=[(128,[])]})]
def ze:Bool→B:=bX
def C6(b k:Int)(c d:u)(e:x)(a:u):E:= {n:=56,sl:=[(1,p b),(2,.ptr 128 0),(5,p k)],hp:=[(128,.box 49 [.sl uz c,.sl Zi d,.str e,.sl K a])]}
def IQ(c a:Int)(d e:u)(f:x)(b:u):E:= {n:=56,sl:=[(1,p c),(2,.ptr 128 0),(6,p a)],hp:=[(128,.box 49 [.sl uz d,.sl Zi e,.str f,.sl K b])]}
noncomputable def QR(N:Nat):(E→B)→E→B:=n7 hO ou dC N f147 YC [true,true,true,false,true,false] []
noncomputable def b8(N:Nat):(E→B)→E→B:=n7 hO ou dC N f147 YC [true,true,false,true,false] []
theorem nlO(N:Nat)(c:Int)(e d:u)(f:x)(b:u)(g:E→B)(a:Int):QR N g (IQ c a e d f b)=wD Vm.lf ze c d (λa=>g (IQ c a e d f b)) a:=by kernel_rfl
theorem npP(N:Nat)(d:Int)(f e:u)(g:x)(b:u)(c:Nat):(λa=>VB (QR N) c (IQ d a f e g b))=cR Vm.lf ze N d e c:=by
 induction c with
 | zero=>rfl
 | succ c h=>
  funext a;refine (nlO N d f e g b (VB (QR N) c) a).trans ?_;rw[h];rfl
theorem nCi(N:Nat)(b:Int)(c d:u)(e:x)(a:u)(g:E→B)(k:Int):b8 N g (C6 b k c d e a)=fe Vm.lf ze (λf=>VB (QR N) N (IQ b f c d e a)) b c d (λk=>g (C6 b k c d e a)) k:=by kernel_rfl
theorem hmL(N:Nat)(c:Int)(d e:u)(f:x)(a:u)(b:Nat):(λk=>VB (b8 N) b (C6 c k d e f a))=TJ Vm.lf ze N c d e b:=by
 induction b with
 | zero=>rfl
 | succ b g=>
  funext k;refine (nCi N c d e f a (VB (b8 N) b) k).trans ?_;have h:=npP N c d e f a N;rw[h];rw[g];rfl
theorem neM(N:Nat)(s:se)(a:Int):dM hO ou dC N f147 YC (s.enc++(.int a::([])))=TP Vm.lf ze N s a:=by
 have d:dM hO ou dC N f147 YC (s.enc++(.int a::([])))=Tw Vm.lf ze (λb c k=>VB (b8 N) N (C6 a k b c s.b.b s.b.a)) s a:=by kernel_rfl
 refine d.trans ?_;unfold TP;have e:(λb c k=>VB (b8 N) N (C6 a k b c s.b.b s.b.a))=(λb c=>TJ Vm.lf ze N a b c N):=by funext b c;exact hmL N a b c s.b.b s.b.a N
 exact congrArg (λf=>Tw Vm.lf ze f s a) e
theorem nih:Np hO 147 YC:=by refine a0 (A:=dC) txQ func147 λb a _=>?_;obtain⟨s,b,rfl,d,a⟩:=se.nX a;obtain⟨c,rfl,_⟩:=Ap a;obtain⟨N,e⟩:=nfs Vm.lf ze s c d;exact⟨N,((neM N s c).trans e).trans (by kernel_rfl)⟩
def Bw:C:= {ps:=[⟨z.ct,true⟩],rs:=[⟨[.eV .bool],false⟩],fn:=λa=>(Aa (z.nd a 0),[.bool (zp (z.nd a 0))])}
def vE:Ctx:=[(21,uv),(22,du),(23,Ou),(24,NN),(25,Y9),(26,xR),(27,fZ),(28,Ux),(29,YC)]
theorem nBR:qk hO vE:=y Yy (y noR (y UL (y nt9 (y mR (y PL (y ye (y OX (y ns2 T))))))))
def OL:List (Nat×YJ):=[(5, {cx:=[(1,.AH),(3,.AH),(61,.AH),(62,.AH)],boxes:=[(64,[])]}),(12, {cx:=[(1,.AH),(3,.AH),(103,.AH),(104,.AH),(105,.AH)],boxes:=[(64,[]),(320,[])]})]
def gN:Bool→B:=bX
def V9(n X b:Int)(c a:u)(d e f g h j k:Int)(l m:u)(o:Int)(Y q r s:u)(t:Int)(Z:Bool)(v w y:u)(z:x)(A B:u)(C:Bool)(D W F:u)(G H I J V:Int):E:= {n:=117,sl:=[(1,.ptr 64 0),(3,p n),(61,p X),(62,p b)],hp:=[(64,.box 54 [.sl sK c,.sl lU a,p d,p e,p f,p g,p h,p j,p k,.sl K l,.sl [.i,.i,.sl K] m,p o,.sl au Y,.sl [.i,.i,.i,.sl K] q,.sl EJ r,.sl Cl s,p t,.bool Z,.sl K v,.sl uz w,.sl Zi y,.str z,.sl K A,.sl qJ B,.bool C,.sl sK D,.sl K W,.sl K F,p G,p H,p I,p J,p V])]}
def eH(n f g:Int)(h a:u)(j k l m o Y q:Int)(r s:u)(t:Int)(Z v w X:u)(y:Int)(z:Bool)(A B C:u)(D:x)(W F:u)(G:Bool)(H I J:u)(V L M N O c P b d e:Int)(Q:u):E:= {n:=117,sl:=[(1,.ptr 64 0),(3,p n),(103,.own 646592),(104,p f),(105,p g)],hp:=[(64,.box 54 [.sl sK h,.sl lU a,p j,p k,p l,p m,p o,p Y,p q,.sl K r,.sl [.i,.i,.sl K] s,p t,.sl au Z,.sl [.i,.i,.i,.sl K] v,.sl EJ w,.sl Cl X,p y,.bool z,.sl K A,.sl uz B,.sl Zi C,.str D,.sl K W,.sl qJ F,.bool G,.sl sK H,.sl K I,.sl K J,p V,p L,p M,p N,p O]),(320,.box 52 [p c,p P,p b,p d,p e]),(646592,.row 3 K Q false true)]}
noncomputable def nL(N:Nat):(E→B)→E→B:=n7 hO vE OL N f9 Bw [true,true,true,true,true,false,true,false] []
noncomputable def DQ(N:Nat):(E→B)→E→B:=n7 hO vE OL N f9 Bw [true,true,true,false,true,false] []
theorem nBF(N:Nat)(n g:Int)(m a:u)(o p q r s t Z:Int)(v w:u)(Y:Int)(y z A X:u)(C:Int)(D:Bool)(W h i:u)(j:x)(k F:u)(G:Bool)(H I J:u)(K L M O P c Q b d e:Int)(l:u)(R:E→B)(f:Int):nL N R (eH n g f m a o p q r s t Z v w Y y z A X C D W h i j k F G H I J K L M O P c Q b d e l)=fX Vm.lf gN n g h i j k l (λf=>R (eH n g f m a o p q r s t Z v w Y y z A X C D W h i j k F G H I J K L M O P c Q b d e l)) f:=by kernel_rfl
theorem nh_(N:Nat)(n g:Int)(o a:u)(p q r s t Z v:Int)(w Y:u)(y:Int)(z A B C:u)(D:Int)(E:Bool)(F h i:u)(j:x)(k G:u)(H:Bool)(I J K:u)(L M O P Q c R b d e:Int)(l:u)(f:Nat):(λm=>VB (nL N) f (eH n g m o a p q r s t Z v w Y y z A B C D E F h i j k G H I J K L M O P Q c R b d e l))=sm Vm.lf gN N n g h i j k l f:=by
 induction f with
 | zero=>rfl
 | succ f S=>
  funext m;refine (nBF N n g o a p q r s t Z v w Y y z A B C D E F h i j k G H I J K L M O P Q c R b d e l (VB (nL N) f) m).trans ?_;rw[S];rfl
theorem U32(N:Nat)(n Y:Int)(p a:u)(q r s t Z v w:Int)(y z:u)(A:Int)(g h i X:u)(C:Int)(D:Bool)(W j k:u)(l:x)(m F:u)(G:Bool)(H I J:u)(b c d e f:Int)(K:E→B)(o:Int):DQ N K (V9 n Y o p a q r s t Z v w y z A g h i X C D W j k l m F G H I J b c d e f)=VH Vm.lf gN (λL M O=>VB (nL N) N (eH n L O p a q r s t Z v w y z A g h i X C D W j k l m F G H I J b c d e f b c d e f M)) n Y g h i j k l m b c d e f (λo=>K (V9 n Y o p a q r s t Z v w y z A g h i X C D W j k l m F G H I J b c d e f)) o:=by kernel_rfl
theorem nwi(N:Nat)(n Y:Int)(p a:u)(q r s t Z v w:Int)(y z:u)(A:Int)(h i j B:u)(C:Int)(D:Bool)(E k l:u)(m:x)(o F:u)(G:Bool)(H I J:u)(b c d e f:Int)(g:Nat):(λK=>VB (DQ N) g (V9 n Y K p a q r s t Z v w y z A h i j B C D E k l m o F G H I J b c d e f))=eK Vm.lf gN N n Y h i j k l m o b c d e f g:=by
 induction g with
 | zero=>rfl
 | succ g L=>
  funext K;refine (U32 N n Y p a q r s t Z v w y z A h i j B C D E k l m o F G H I J b c d e f (VB (DQ N) g) K).trans ?_;have M:=funext λO=>funext λP=>nh_ N n O p a q r s t Z v w y z A h i j B C D E k l m o F G H I J b c d e f b c d e f P N;rw[M];rw[L];rfl
theorem naI(N:Nat)(h:z):dM hO vE OL N f9 Bw (h.enc++([]))=xm Vm.lf gN N h:=by
 have o:dM hO vE OL N f9 Bw (h.enc++([]))=kc Vm.lf gN (λn x a b c d e f g i j k l m p=>VB (DQ N) N (V9 n x p h.h.a h.j h.a.b.b h.a.b.a h.a.b.d h.a.b.c h.a.a.b h.a.a.a h.a.a.c h.a.a.d h.a.c h.a.d a b c h.i h.f.b h.f.c h.f.a d e f g h.k h.m h.l h.n h.o i j k l m)) h:=by kernel_rfl
 refine o.trans ?_;unfold xm;have q:(λn x a b c d e f g i j k l m p=>VB (DQ N) N (V9 n x p h.h.a h.j h.a.b.b h.a.b.a h.a.b.d h.a.b.c h.a.a.b h.a.a.a h.a.a.c h.a.a.d h.a.c h.a.d a b c h.i h.f.b h.f.c h.f.a d e f g h.k h.m h.l h.n h.o i j k l m))=(λn x a b c d e f g i j k l m=>eK Vm.lf gN N n x a b c d e f g i j k l m N):=by funext n x a b c d e f g i j k l m;exact nwi N n x h.h.a h.j h.a.b.b h.a.b.a h.a.b.d h.a.b.c h.a.a.b h.a.a.a h.a.a.c h.a.a.d h.a.c h.a.d a b c h.i h.f.b h.f.c h.f.a d e f g h.k h.m h.l h.n h.o i j k l m N
 exact congrArg (λr=>kc Vm.lf gN r h) q
theorem tV:Np hO 9 Bw:=by refine a0 (A:=OL) nBR func9 λb a aN=>?_;obtain⟨h,b,rfl,_,a⟩:=z.nX a;obtain rfl:=fi a;obtain⟨N,c⟩:=ndk Vm.lf gN h aN;exact⟨N,((naI N h).trans c).trans (by kernel_rfl)⟩
def MK:C:= {ps:=[⟨K,false⟩,⟨[.int .u8],false⟩],rs:=[⟨[.eV .str],false⟩],fn:=λa=>(WU (r a 0) (r a 1),[.str (vZ (r a 0) (r a 1))])}
def nxb:List (Nat×YJ):=[(3, {cx:=[(0,.AH),(1,.AH),(5,.AH),(6,.AH)],boxes:=[]})]
def neC:x→B:=c5
def nzg(n x i:Int)(a:u):E:= {n:=20,sl:=[(0,p n),(1,.int .u8 x),(5,.own 640320),(6,p i)],hp:=[(640320,.row 5 [.int .u8] a false true)]}
theorem lu:Np hO 80 MK:=by refine a0 (A:=nxb) T func80 λc a aN=>?_;obtain⟨n,c,rfl,_,a⟩:=Q_ a;obtain⟨x,rfl,b⟩:=Ap a;obtain⟨N,d⟩:=nqY Vm.lf neC n x b aN;exact⟨N,BV (λe=>yo Vm.lf neC e n x) (rm (n7 hO [] nxb N f80 MK [true,true,false,true,false] []) (nzg n x) _ N) d⟩
def Yt:C:= {ps:=[⟨[.int .u8],false⟩,⟨K,false⟩],rs:=[⟨[.eV .str],false⟩],fn:=λa=>(TT (r a 0) (r a 1),[.str (QU (r a 0) (r a 1))])}
def nju:List (Nat×YJ):=[(3, {cx:=[(0,.AH),(5,.AH),(10,.AH),(11,.AH)],boxes:=[]})]
def nmn:x→B:=c5
def nlA(b x a:Int)(c:u):E:= {n:=21,sl:=[(0,.int .u8 b),(5,.own 640320),(10,p x),(11,p a)],hp:=[(640320,.row 5 [.int .u8] c false true)]}
theorem nA7:Np hO 247 Yt:=by refine a0 (A:=nju) T func247 λd a aN=>?_;obtain⟨b,d,rfl,c,a⟩:=Q_ a;obtain⟨n,rfl,_⟩:=Ap a;obtain⟨N,e⟩:=nAM Vm.lf nmn b n c aN;exact⟨N,BV (λf=>uE Vm.lf nmn f b n) (funext λx=>rm (n7 hO [] nju N f247 Yt [true,true,false,true,false] []) (nlA b x) _ N) e⟩
def Wk:C:= {ps:=[⟨sK,false⟩,⟨K,false⟩],rs:=[⟨[.eV .i],false⟩],fn:=λa=>(true,[.int (Q2 (Gi a 0) (r a 1))])}
theorem qI:Np hO 132 Wk:=by refine R3 T func132 λb a _=>?_;obtain⟨s,b,rfl,c,a⟩:=cO a;obtain⟨eQ,rfl,d⟩:=Ap a;exact⟨0,Xy (nsf Vm.lf cp s eQ c d)⟩
def zK:C:= {ps:=[⟨sK,false⟩,⟨K,false⟩,⟨K,false⟩],rs:=[⟨[.eV .bool],false⟩],fn:=λa=>(true,[.bool (YK (Gi a 0) (r a 1) (r a 2))])}
theorem Uu:Np hO 72 zK:=by refine R3 T func72 λb a _=>?_;obtain⟨s,b,rfl,_,a⟩:=cO a;obtain⟨eQ,b,rfl,_,a⟩:=Q_ a;obtain⟨n,rfl,_⟩:=Ap a;exact⟨0,Xy (nwS bX s eQ n)⟩
def mE:C:= {ps:=[⟨sK,false⟩,⟨K,false⟩],rs:=[⟨[.eV .i],false⟩],fn:=λa=>(true,[.int (CW (Gi a 0) (r a 1))])}
theorem Ep:Np hO 210 mE:=by refine R3 (Γ:=[(72,zK)]) (y Uu T) func210 λb a _=>?_;obtain⟨s,b,rfl,c,a⟩:=cO a;obtain⟨eQ,rfl,_⟩:=Ap a;exact⟨0,Xy (nDu Vm.lf cp s eQ c)⟩
theorem O9:Np hO 211 Wk:=by refine R3 (Γ:=[(72,zK),(210,mE)]) (y Uu (y Ep T)) func211 λb a _=>?_;obtain⟨s,b,rfl,c,a⟩:=cO a;obtain⟨eQ,rfl,d⟩:=Ap a;exact⟨0,Xy (nsq cp s eQ c d)⟩
def VQ:C:= {ps:=[⟨K,false⟩],rs:=[⟨[.eV .str],false⟩],fn:=λa=>(true,[.str (jo (r a 0))])}
theorem DI:Np hO 166 VQ:=by refine R3 (Γ:=[(25,Y9)]) (y mR T) func166 λa b _=>?_;obtain⟨v,rfl,_⟩:=Ap b;exact⟨0,Xy (niJ c5 v)⟩
theorem iM:Np hO 192 VQ:=by refine R3 (Γ:=[(145,Y9)]) (y iH T) func192 λa b _=>?_;obtain⟨v,rfl,_⟩:=Ap b;exact⟨0,Xy (niJ c5 v)⟩
def Tc:C:= {ps:=[⟨sK,false⟩],rs:=[⟨[.eV .i],false⟩],fn:=λa=>(true,[.int (bq (Gi a 0))])}
def Pm:List (Nat×YJ):=[(3, {cx:=[(0,.AH),(3,.AH),(4,.AH)],boxes:=[]}),(7, {cx:=[(0,.AH),(3,.AH),(4,.AH),(5,.AH)],boxes:=[]})]
def sE:Int→B:=cp
def Tz(s:x)(c i:Int):E:= {n:=34,sl:=[(0,.str s),(3,.int .u32 c),(4,p i)],hp:=[]}
def Dg(s:x)(a i k:Int):E:= {n:=34,sl:=[(0,.str s),(3,.int .u32 a),(4,p i),(5,p k)],hp:=[]}
noncomputable def yC(N:Nat)(a:E→B):(E→B)→E→B:=n7 hO [] Pm N f222 Tc [true,true,false,true,false,false,true,false,false,true,true,false] [a]
noncomputable def F4(N:Nat):(E→B)→E→B:=n7 hO [] Pm N f222 Tc [true,true,false,true,false] []
theorem ndj(N:Nat)(b:E→B)(s:x)(i:Int)(d:E→B)(a k:Int):yC N b d (Dg s a i k)=sq Vm.lf sE (λc i=>b (Tz s c i)) i (λa k=>d (Dg s a i k)) a k:=by kernel_rfl
theorem nbL(N:Nat)(b:E→B)(s:x)(i:Int)(a:Nat):(λd k=>VB (yC N b) a (Dg s d i k))=gT Vm.lf sE N (λc i=>b (Tz s c i)) i a:=by
 induction a with
 | zero=>rfl
 | succ a e=>
  funext d k;refine (ndj N b s i (VB (yC N b) a) d k).trans ?_;rw[e];rfl
theorem nsi(N:Nat)(s:x)(a:E→B)(c i:Int):F4 N a (Tz s c i)=tX Vm.lf sE (λi b k=>VB (yC N a) N (Dg s b i k)) s (λc i=>a (Tz s c i)) c i:=by kernel_rfl
theorem noV(N:Nat)(s:x)(a:Nat):(λc i=>VB (F4 N) a (Tz s c i))=Up Vm.lf sE N s a:=by
 induction a with
 | zero=>rfl
 | succ a b=>
  funext c i;refine (nsi N s (VB (F4 N) a) c i).trans ?_;have d:=funext λi=>nbL N (VB (F4 N) a) s i N;rw[d];rw[b];rfl
theorem nyB:Np hO 222 Tc:=by refine a0 (A:=Pm) T func222 λa b _=>?_;obtain⟨s,rfl,c⟩:=Sd b;obtain⟨N,d⟩:=nAm Vm.lf sE s c;refine⟨N,Eq.trans ?_ (d.trans (by kernel_rfl))⟩;unfold Pu;rw[←noV N s N];kernel_rfl
def D8:List (Nat×YJ):=[(3, {cx:=[(0,.AH),(3,.AH),(4,.AH)],boxes:=[]}),(7, {cx:=[(0,.AH),(3,.AH),(4,.AH),(5,.AH)],boxes:=[]})]
def rQ:Int→B:=cp
def tA(s:x)(c i:Int):E:= {n:=32,sl:=[(0,.str s),(3,p c),(4,p i)],hp:=[]}
def bK(s:x)(a i k:Int):E:= {n:=32,sl:=[(0,.str s),(3,p a),(4,p i),(5,p k)],hp:=[]}
noncomputable def uB(N:Nat)(a:E→B):(E→B)→E→B:=n7 hO [] D8 N f138 Tc [true,true,false,true,false,false,true,false,false,true,true,false] [a]
noncomputable def Sg(N:Nat):(E→B)→E→B:=n7 hO [] D8 N f138 Tc [true,true,false,true,false] []
theorem nnW(N:Nat)(b:E→B)(s:x)(i:Int)(d:E→B)(a k:Int):uB N b d (bK s a i k)=xH Vm.lf rQ (λc i=>b (tA s c i)) i (λa k=>d (bK s a i k)) a k:=by kernel_rfl
theorem nbH(N:Nat)(b:E→B)(s:x)(i:Int)(a:Nat):(λd k=>VB (uB N b) a (bK s d i k))=dB Vm.lf rQ N (λc i=>b (tA s c i)) i a:=by
 induction a with
 | zero=>rfl
 | succ a e=>
  funext d k;refine (nnW N b s i (VB (uB N b) a) d k).trans ?_;rw[e];rfl
theorem nvV(N:Nat)(s:x)(a:E→B)(c i:Int):Sg N a (tA s c i)=RS Vm.lf rQ (λi b k=>VB (uB N a) N (bK s b i k)) s (λc i=>a (tA s c i)) c i:=by kernel_rfl
theorem nfh(N:Nat)(s:x)(a:Nat):(λc i=>VB (Sg N) a (tA s c i))=R9 Vm.lf rQ N s a:=by
 induction a with
 | zero=>rfl
 | succ a b=>
  funext c i;refine (nvV N s (VB (Sg N) a) c i).trans ?_;have d:=funext λi=>nbH N (VB (Sg N) a) s i N;rw[d];rw[b];rfl
theorem nkQ:Np hO 138 Tc:=by refine a0 (A:=D8) T func138 λa b _=>?_;obtain⟨s,rfl,c⟩:=Sd b;obtain⟨N,d⟩:=flI Vm.lf rQ s c;refine⟨N,Eq.trans ?_ (d.trans (by kernel_rfl))⟩;unfold vY;rw[←nfh N s N];kernel_rfl
def QN:C:= {ps:=[⟨K,false⟩],rs:=[⟨[.eV .str],false⟩],fn:=λa=>(true,[.str (Zt (r a 0))])}
theorem E6:Np hO 161 QN:=by refine R3 (Γ:=[(25,Y9)]) (y mR T) func161 λa b _=>?_;obtain⟨v,rfl,_⟩:=Ap b;exact⟨0,Xy (nmr c5 v)⟩
theorem O7:Np hO 191 QN:=by refine R3 (Γ:=[(145,Y9)]) (y iH T) func191 λa b _=>?_;obtain⟨v,rfl,_⟩:=Ap b;exact⟨0,Xy (nmr c5 v)⟩
def BF:C:= {ps:=[⟨K,false⟩,⟨K,false⟩],rs:=[⟨[.eV .i],false⟩],fn:=λa=>(true,[.int (Fv (r a 0) (r a 1))])}
theorem nAW:Np hO 261 BF:=by refine R3 (Γ:=[(25,Y9)]) (y mR T) func261 λd c _=>?_;obtain⟨a,d,rfl,_,c⟩:=Q_ c;obtain⟨b,rfl,_⟩:=Ap c;exact⟨0,Xy (svI cp a b)⟩
theorem ntF:Np hO 253 BF:=by refine R3 (Γ:=[(145,Y9)]) (y iH T) func253 λd c _=>?_;obtain⟨a,d,rfl,_,c⟩:=Q_ c;obtain⟨b,rfl,_⟩:=Ap c;exact⟨0,Xy (svI cp a b)⟩
def ss:C:= {ps:=[⟨sK,false⟩],rs:=[⟨[.eV .i],false⟩],fn:=λa=>(U (Gi a 0),[.int (xk (Gi a 0))])}
def ncN:Ctx:=[(261,BF)]
theorem naH:qk hO ncN:=y nAW T
def nA6:List (Nat×YJ):=[(3, {cx:=[(0,.AH),(3,.AH),(4,.AH)],boxes:=[]})]
def nEZ:Int→B:=cp
def nB7(s:x)(a i:Int):E:= {n:=33,sl:=[(0,.str s),(3,p a),(4,p i)],hp:=[]}
theorem nb1:Np hO 249 ss:=by refine a0 (A:=nA6) naH func249 λa b aN=>?_;obtain⟨s,rfl,c⟩:=Sd b;obtain⟨N,d⟩:=nxV Vm.lf nEZ s c aN;exact⟨N,BV (λe=>RA Vm.lf nEZ e s) (rm (n7 hO ncN nA6 N f249 ss [true,true,false,true,false] []) (nB7 s) _ N) d⟩
def ngI:Ctx:=[(253,BF)]
theorem nxi:qk hO ngI:=y ntF T
def nCS:List (Nat×YJ):=[(3, {cx:=[(0,.AH),(3,.AH),(4,.AH)],boxes:=[]})]
def nGt:Int→B:=cp
def nks(s:x)(a i:Int):E:= {n:=33,sl:=[(0,.str s),(3,p a),(4,p i)],hp:=[]}
theorem nAQ:Np hO 230 ss:=by refine a0 (A:=nCS) nxi func230 λa b aN=>?_;obtain⟨s,rfl,c⟩:=Sd b;obtain⟨N,d⟩:=noF Vm.lf nGt s c aN;exact⟨N,BV (λe=>pG Vm.lf nGt e s) (rm (n7 hO ngI nCS N f230 ss [true,true,false,true,false] []) (nks s) _ N) d⟩
def HW:C:= {ps:=[⟨sK,false⟩],rs:=[⟨[.eV .i],false⟩],fn:=λa=>(U (Gi a 0),[.int (Vu (Gi a 0))])}
theorem Az:Np hO 219 HW:=by refine R3 (Γ:=[(249,ss)]) (y nb1 T) func219 λa b aN=>?_;obtain⟨s,rfl,_⟩:=Sd b;exact⟨0,Xy (nGp Vm.lf cp s aN)⟩
theorem niH:Np hO 194 HW:=by refine R3 (Γ:=[(230,ss)]) (y nAQ T) func194 λa b aN=>?_;obtain⟨s,rfl,_⟩:=Sd b;exact⟨0,Xy (nGp Vm.lf cp s aN)⟩
def CJ:C:= {ps:=[⟨sK,false⟩,⟨K,false⟩,⟨sK,false⟩],rs:=[⟨[.eV .str],false⟩],fn:=λa=>(eZ (Gi a 0) (r a 1) (Gi a 2),[.str (B9 (Gi a 0) (r a 1) (Gi a 2))])}
theorem b_:Np hO 160 CJ:=by refine R3 T func160 λb a aN=>?_;obtain⟨s,b,rfl,_,a⟩:=cO a;obtain⟨eQ,b,rfl,_,a⟩:=Q_ a;obtain⟨part,rfl,_⟩:=Sd a;exact⟨0,Xy (nsD Vm.lf c5 s eQ part aN)⟩
theorem N7:Np hO 34 CJ:=by refine R3 (Γ:=[(72,zK)]) (y Uu T) func34 λb a aN=>?_;obtain⟨s,b,rfl,_,a⟩:=cO a;obtain⟨eQ,b,rfl,_,a⟩:=Q_ a;obtain⟨part,rfl,_⟩:=Sd a;exact⟨0,Xy (nyQ Vm.lf c5 s eQ part aN)⟩
def UH:C:= {ps:=[⟨K,false⟩,⟨K,false⟩,⟨K,false⟩,⟨K,false⟩],rs:=[⟨[.eV .str],false⟩,⟨[.eV .bool],false⟩],fn:=λa=>(true,[.str (TI (r a 0) (r a 1) (r a 2) (r a 3)).1]++[.bool (TI (r a 0) (r a 1) (r a 2) (r a 3)).2])}
theorem nDk:Np hO 218 UH:=by refine R3 (Γ:=[(25,Y9),(161,QN),(166,VQ)]) (y mR (y E6 (y DI T))) func218 λc a _=>?_;obtain⟨d,c,rfl,_,a⟩:=Q_ a;obtain⟨e,c,rfl,_,a⟩:=Q_ a;obtain⟨b,c,rfl,_,a⟩:=Q_ a;obtain⟨length,rfl,_⟩:=Ap a;exact⟨0,Xy (njk Vm.lf (λf g=>((true,[.str f]++[.bool g]):B)) d e b length)⟩
theorem noA:Np hO 193 UH:=by refine R3 (Γ:=[(145,Y9),(191,QN),(192,VQ)]) (y iH (y O7 (y iM T))) func193 λc a _=>?_;obtain⟨d,c,rfl,_,a⟩:=Q_ a;obtain⟨e,c,rfl,_,a⟩:=Q_ a;obtain⟨b,c,rfl,_,a⟩:=Q_ a;obtain⟨length,rfl,_⟩:=Ap a;exact⟨0,Xy (njk Vm.lf (λf g=>((true,[.str f]++[.bool g]):B)) d e b length)⟩
def Yc:C:= {ps:=[⟨K,false⟩],rs:=[⟨[.eV .i],false⟩],fn:=λa=>(true,[.int (OP (r a 0))])}
theorem sW:Np hO 216 Yc:=by refine R3 T func216 λb c _=>?_;obtain⟨a,rfl,_⟩:=Ap c;exact⟨0,Xy (ndq cp a)⟩
def nbR:C:= {ps:=[⟨EP.ct,true⟩],rs:=[⟨[.eV .str],false⟩],fn:=λa=>(Wf (EP.nd a 0),[.str (Vl (EP.nd a 0))])}
theorem nhU:Np hO 244 nbR:=by refine R3 (Γ:=[(161,QN),(166,VQ)]) (y E6 (y DI T)) func244 λb a aN=>?_;obtain⟨g,b,rfl,_,a⟩:=EP.nX a;obtain rfl:=fi a;exact⟨0,Xy (nv6 Vm.lf c5 g aN)⟩
def Nm:C:= {ps:=[⟨K,false⟩,⟨K,false⟩,⟨EP.ct,true⟩],rs:=[⟨[.eV .str],false⟩,⟨[.eV .bool],false⟩],fn:=λa=>(true,[.str (ic (r a 0) (r a 1) (EP.nd a 2)).1]++[.bool (ic (r a 0) (r a 1) (EP.nd a 2)).2])}
theorem nEF:Np hO 212 Nm:=by refine R3 (Γ:=[(123,Qa),(160,CJ),(161,QN),(216,Yc),(218,UH),(219,HW),(244,nbR)]) (y ns3 (y b_ (y E6 (y sW (y nDk (y Az (y nhU T))))))) func212 λb (a:Q (.i::(.i::(EP.ct++[]))) b) _=>?_;obtain⟨c,b,rfl,_,a⟩:=Q_ a;obtain⟨d,b,rfl,_,a⟩:=Q_ a;obtain⟨g,b,rfl,_,a⟩:=EP.nX a;obtain rfl:=fi a;exact⟨0,Xy (nns Vm.lf (λe f=>((true,[.str e]++[.bool f]):B)) c d g)⟩
theorem nza:Np hO 134 Nm:=by refine R3 (Γ:=[(34,CJ),(190,Qa),(191,QN),(192,VQ),(193,UH),(194,HW)]) (y N7 (y noh (y O7 (y iM (y noA (y niH T)))))) func134 λb (a:Q (.i::(.i::(EP.ct++[]))) b) _=>?_;obtain⟨c,b,rfl,_,a⟩:=Q_ a;obtain⟨d,b,rfl,_,a⟩:=Q_ a;obtain⟨g,b,rfl,_,a⟩:=EP.nX a;obtain rfl:=fi a;exact⟨0,Xy (nlc Vm.lf (λe f=>((true,[.str e]++[.bool f]):B)) c d g)⟩
def SX:C:= {ps:=[⟨qw.ct,true⟩],rs:=[⟨[.eV .bool],false⟩],fn:=λa=>(true,[.bool (Yg (qw.nd a 0))])}
theorem nuM:Np hO 260 SX:=by refine R3 (Γ:=[(25,Y9)]) (y mR T) func260 λb a _=>?_;obtain⟨d,b,rfl,_,a⟩:=qw.nX a;obtain rfl:=fi a;exact⟨0,Xy (npQ bX d)⟩
theorem nwc:Np hO 231 SX:=by refine R3 (Γ:=[(145,Y9)]) (y iH T) func231 λb a _=>?_;obtain⟨d,b,rfl,_,a⟩:=qw.nX a;obtain rfl:=fi a;exact⟨0,Xy (npQ bX d)⟩
def qt:C:= {ps:=[⟨qw.ct,true⟩],rs:=[⟨[.eV .str],false⟩,⟨[.eV .bool],false⟩],fn:=λa=>(true,[.str (Vw (qw.nd a 0)).1]++[.bool (Vw (qw.nd a 0)).2])}
theorem nlF:Np hO 245 qt:=by refine R3 (Γ:=[(160,CJ),(161,QN),(166,VQ),(219,HW),(260,SX)]) (y b_ (y E6 (y DI (y Az (y nuM T))))) func245 λb a _=>?_;obtain⟨d,b,rfl,_,a⟩:=qw.nX a;obtain rfl:=fi a;exact⟨0,Xy (nnQ Vm.lf (λc e=>((true,[.str c]++[.bool e]):B)) d)⟩
theorem nwG:Np hO 195 qt:=by refine R3 (Γ:=[(34,CJ),(191,QN),(192,VQ),(194,HW),(231,SX)]) (y N7 (y O7 (y iM (y niH (y nwc T))))) func195 λb a _=>?_;obtain⟨d,b,rfl,_,a⟩:=qw.nX a;obtain rfl:=fi a;exact⟨0,Xy (nnQ Vm.lf (λc e=>((true,[.str c]++[.bool e]):B)) d)⟩
def bE:C:= {ps:=[⟨qw.ct,true⟩],rs:=[⟨[.eV .str],false⟩,⟨[.eV .bool],false⟩],fn:=λa=>(true,[.str (yf (qw.nd a 0)).1]++[.bool (yf (qw.nd a 0)).2])}
theorem ndo:Np hO 213 bE:=by refine R3 (Γ:=[(245,qt)]) (y nlF T) func213 λb a _=>?_;obtain⟨d,b,rfl,_,a⟩:=qw.nX a;obtain rfl:=fi a;exact⟨0,Xy (nzL Vm.lf (λc e=>((true,[.str c]++[.bool e]):B)) d)⟩
theorem nxc:Np hO 135 bE:=by refine R3 (Γ:=[(195,qt)]) (y nwG T) func135 λb a _=>?_;obtain⟨d,b,rfl,_,a⟩:=qw.nX a;obtain rfl:=fi a;exact⟨0,Xy (nzL Vm.lf (λc e=>((true,[.str c]++[.bool e]):B)) d)⟩
def u5:C:= {ps:=[⟨sK,false⟩],rs:=[⟨[.eV .str],false⟩],fn:=λa=>(true,[.str (la (Gi a 0))])}
theorem nEp:Np hO 215 u5:=by refine R3 (Γ:=[(247,Yt)]) (y nA7 T) func215 λa b _=>?_;obtain⟨s,rfl,c⟩:=Sd b;exact⟨0,Xy (nbB Vm.lf c5 s c)⟩
theorem nc8:Np hO 137 u5:=by refine R3 (Γ:=[(80,MK)]) (y lu T) func137 λa b _=>?_;obtain⟨s,rfl,c⟩:=Sd b;exact⟨0,Xy (nyp Vm.lf c5 s c)⟩
def Ox:C:= {ps:=[⟨xW.ct,true⟩],rs:=[⟨[.eV .bool],false⟩],fn:=λa=>(true,[.bool (zA (xW.nd a 0))])}
theorem nqS:Np hO 223 Ox:=by refine R3 (Γ:=[(25,Y9)]) (y mR T) func223 λb a _=>?_;obtain⟨e,b,rfl,_,a⟩:=xW.nX a;obtain rfl:=fi a;exact⟨0,Xy (ni6 bX e)⟩
theorem nas:Np hO 196 Ox:=by refine R3 (Γ:=[(145,Y9)]) (y iH T) func196 λb a _=>?_;obtain⟨e,b,rfl,_,a⟩:=xW.nX a;obtain rfl:=fi a;exact⟨0,Xy (ni6 bX e)⟩
def jS:C:= {ps:=[⟨K,false⟩],rs:=[⟨[.eV .str],false⟩],fn:=λa=>(true,[.str (DT (r a 0))])}
theorem nBJ:Np hO 246 jS:=by refine R3 (Γ:=[(161,QN),(166,VQ)]) (y E6 (y DI T)) func246 λb c _=>?_;obtain⟨a,rfl,_⟩:=Ap c;exact⟨0,Xy (nBp Vm.lf c5 a)⟩
theorem nk4:Np hO 197 jS:=by refine R3 (Γ:=[(191,QN),(192,VQ)]) (y O7 (y iM T)) func197 λa b _=>?_;obtain⟨x,rfl,_⟩:=Ap b;exact⟨0,Xy (nBp Vm.lf c5 x)⟩
def Zm:C:= {ps:=[⟨xW.ct,true⟩],rs:=[⟨[.eV .str],false⟩,⟨[.eV .bool],false⟩],fn:=λa=>(true,[.str (jn (xW.nd a 0)).1]++[.bool (jn (xW.nd a 0)).2])}
theorem ngY:Np hO 214 Zm:=by refine R3 (Γ:=[(161,QN),(223,Ox),(246,jS)]) (y E6 (y nqS (y nBJ T))) func214 λb a _=>?_;obtain⟨e,b,rfl,_,a⟩:=xW.nX a;obtain rfl:=fi a;exact⟨0,Xy (nyo Vm.lf (λc d=>((true,[.str c]++[.bool d]):B)) e)⟩
theorem ntr:Np hO 136 Zm:=by refine R3 (Γ:=[(191,QN),(196,Ox),(197,jS)]) (y O7 (y nas (y nk4 T))) func136 λb a _=>?_;obtain⟨e,b,rfl,_,a⟩:=xW.nX a;obtain rfl:=fi a;exact⟨0,Xy (nrh Vm.lf (λc d=>((true,[.str c]++[.bool d]):B)) e)⟩
def BJ:C:= {ps:=[⟨N.ct,true⟩],rs:=[⟨[.eV .str],false⟩,⟨[.eV .bool],false⟩],fn:=λa=>(true,[.str (O3 (N.nd a 0)).1]++[.bool (O3 (N.nd a 0)).2])}
theorem F7:Np hO 158 BJ:=by refine R3 (Γ:=[(60,Tb),(212,Nm),(213,bE),(214,Zm),(215,u5)]) (y We (y nEF (y ndo (y ngY (y nEp T))))) func158 λb a _=>?_;obtain⟨p,b,rfl,_,a⟩:=N.nX a;obtain rfl:=fi a;exact⟨0,Xy (nGo (λc d=>((true,[.str c]++[.bool d]):B)) p)⟩
theorem nxh:Np hO 70 BJ:=by refine R3 (Γ:=[(133,Tb),(134,Nm),(135,bE),(136,Zm),(137,u5)]) (y c_ (y nza (y nxc (y ntr (y nc8 T))))) func70 λb a _=>?_;obtain⟨p,b,rfl,_,a⟩:=N.nX a;obtain rfl:=fi a;exact⟨0,Xy (nGo (λc d=>((true,[.str c]++[.bool d]):B)) p)⟩
def fa:C:= {ps:=[⟨N.ct,true⟩],rs:=[⟨[.eV .bool],false⟩],fn:=λa=>(true,[.bool (Dc (N.nd a 0))])}
theorem fF:Np hO 106 fa:=by refine R3 (Γ:=[(60,Tb)]) (y We T) func106 λb a _=>?_;obtain⟨p,b,rfl,_,a⟩:=N.nX a;obtain rfl:=fi a;exact⟨0,Xy (nr1 bX p)⟩
theorem nxD:Np hO 69 fa:=by refine R3 (Γ:=[(133,Tb)]) (y c_ T) func69 λb a _=>?_;obtain⟨p,b,rfl,_,a⟩:=N.nX a;obtain rfl:=fi a;exact⟨0,Xy (nr1 bX p)⟩
def ngO:C:= {ps:=[⟨[.sl lU],false⟩,⟨K,false⟩,⟨K,false⟩,⟨Cl,false⟩],rs:=[⟨[.eV .i],false⟩],fn:=λa=>(true,[.int (place (df a 0) (r a 1) (r a 2) (Dd a 3))])}
theorem nww:Np hO 188 ngO:=by refine R3 (Γ:=[(56,i9)]) (y nfd T) func188 λd c _=>?_;obtain⟨list_,d,rfl,e,c⟩:=Tf c;obtain⟨b,d,rfl,_,c⟩:=Q_ c;obtain⟨a,d,rfl,_,c⟩:=Q_ c;obtain⟨write,rfl,_⟩:=Vv c;exact⟨0,Xy (nvR Vm.lf cp list_ b a write e)⟩
def zf:C:= {ps:=[⟨v.ct,true⟩,⟨K,false⟩,⟨K,false⟩],rs:=[⟨[.eV .bool],false⟩],fn:=λa=>(true,[.bool (within (v.nd a 0) (r a 1) (r a 2))])}
theorem nk2:Np hO 189 zf:=by refine R3 (Γ:=[(21,uv)]) (y Yy T) func189 λb a _=>?_;replace a:Q (v.ct++o9) b:=a;obtain⟨m,b,rfl,_,a⟩:=v.nX a;obtain⟨eQ,b,rfl,_,a⟩:=Q_ a;obtain⟨n,rfl,_⟩:=Ap a;exact⟨0,Xy (nfj bX m eQ n)⟩
theorem nz_:Np hO 265 zf:=by refine R3 (Γ:=[(263,uv)]) (y nfE T) func265 λb a _=>?_;replace a:Q (v.ct++o9) b:=a;obtain⟨m,b,rfl,d,a⟩:=v.nX a;obtain⟨eQ,b,rfl,e,a⟩:=Q_ a;obtain⟨n,rfl,c⟩:=Ap a;exact⟨0,Xy (ncU bX m eQ n d e c)⟩
def l7:C:= {ps:=[⟨v.ct,true⟩,⟨K,false⟩,⟨sK,false⟩],rs:=[⟨[.own 9 sK],true⟩,⟨[.eV .bool],false⟩],fn:=λa=>(l6 (v.nd a 0) (r a 1) (Gi a 2),v.enc (jc (v.nd a 0) (r a 1) (Gi a 2)).1++[.bool (jc (v.nd a 0) (r a 1) (Gi a 2)).2])}
def nmb:Ctx:=[(1125899906842657,jh),(85,pE),(189,zf)]
theorem nmY:qk hO nmb:=y o_ (y nT (y nk2 T))
def nf4:List (Nat×YJ):=[(4, {cx:=[(1,.AH),(2,.AH),(6,.AH),(8,.AH)],boxes:=[(192,[]),(384,[]),(512,[])]})]
def nzO:v→Bool→B:=(λa b=>((true,v.enc a++[.bool b]):B))
def nnk(a:Int)(b:x)(c d:u):E:= {n:=50,sl:=[(1,p a),(2,.str b),(6,.ptr 384 0),(8,.ptr 512 0)],hp:=[(192,.box 26 [.sl sK c]),(384,.box 26 [.nil]),(512,.box 26 [.own 1411072]),(1411072,.row 9 sK d false true)]}
theorem ntP:Np hO 248 l7:=by refine a0 (A:=nf4) nmY func248 λb a c=>?_;replace a:Q (v.ct++[.i,.str]) b:=a;obtain⟨m,b,rfl,d,a⟩:=v.nX a;obtain⟨eQ,b,rfl,_,a⟩:=Q_ a;obtain⟨s,rfl,_⟩:=Sd a;obtain⟨N,e⟩:=nup Vm.lf nzO m eQ s d c;exact⟨N,BV (λf=>npr Vm.lf nzO f m eQ s) (QS (n7 hO nmb nf4 N f248 l7 [true,true,true,false,false] []) (λg h j=>nnk g h m.a j) _ N) e⟩
def O0:C:= {ps:=[⟨[.sl lU],false⟩,⟨v.ct,true⟩,⟨K,false⟩,⟨K,false⟩,⟨K,false⟩,⟨Cl,false⟩],rs:=[⟨[.own 219 o9],false⟩,⟨[.eV .bool],false⟩],fn:=λa=>(true,[.sl (Av (df a 0) (v.nd a 1) (r a 2) (r a 3) (r a 4) (Dd a 5)).1]++[.bool (Av (df a 0) (v.nd a 1) (r a 2) (r a 3) (r a 4) (Dd a 5)).2])}
def nfO:Ctx:=[(21,uv),(22,du),(25,Y9),(188,ngO),(189,zf)]
theorem nj_:qk hO nfO:=y Yy (y noR (y mR (y nww (y nk2 T))))
def nbv:List (Nat×YJ):=[(8, {cx:=[(0,.AH),(2,.AH),(3,.AH),(4,.AH),(5,.AH),(7,.AH),(14,.AH)],boxes:=[(448,[])]})]
def na_:u→Bool→B:=(λa b=>((true,[.sl a]++[.bool b]):B))
def nvt(list_:u)(a c b:Int)(write:Bool)(d e:u):E:= {n:=75,sl:=[(0,.sl lU list_),(2,p a),(3,p c),(4,p b),(5,.bool write),(7,.ptr 448 0),(14,.own 640896)],hp:=[(448,.box 26 [.sl sK d]),(640896,.row 219 o9 e false true)]}
theorem ntA:Np hO 129 O0:=by refine a0 (A:=nbv) nj_ func129 λc b _=>?_;replace b:Q ((.sl lU)::(v.ct++lU)) c:=b;obtain⟨list_,c,rfl,_,b⟩:=Tf b;obtain⟨m,c,rfl,_,b⟩:=v.nX b;obtain⟨a,c,rfl,_,b⟩:=Q_ b;obtain⟨eQ,c,rfl,e,b⟩:=Q_ b;obtain⟨n,c,rfl,_,b⟩:=Q_ b;obtain⟨write,rfl,_⟩:=Vv b;obtain⟨N,f⟩:=nEr Vm.lf na_ list_ m a eQ n write e;exact⟨N,BV (λg=>tN Vm.lf na_ g list_ m a eQ n write) (funext λh=>QS (n7 hO nfO nbv N f129 O0 [true,true,true,true,true,false,false] []) (λj d k=>nvt list_ a j d write h k) _ N) f⟩
def Z0:C:= {ps:=[⟨[.sl lU],false⟩,⟨v.ct,true⟩,⟨K,false⟩,⟨K,false⟩,⟨sK,false⟩,⟨Cl,false⟩],rs:=[⟨[.own 9 sK],true⟩,⟨[.eV .bool],false⟩],fn:=λa=>(Xu (df a 0) (v.nd a 1) (r a 2) (r a 3) (Gi a 4) (Dd a 5),v.enc (put (df a 0) (v.nd a 1) (r a 2) (r a 3) (Gi a 4) (Dd a 5)).1++[.bool (put (df a 0) (v.nd a 1) (r a 2) (r a 3) (Gi a 4) (Dd a 5)).2])}
def nAg:Ctx:=[(85,pE),(129,O0),(248,l7)]
theorem nak:qk hO nAg:=y nT (y ntA (y ntP T))
def nj5:List (Nat×YJ):=[(6, {cx:=[(4,.AH),(12,.AH),(14,.AH),(35,.AH),(36,.AH),(37,.AH)],boxes:=[(448,[]),(768,[]),(896,[])]})]
def nsr:v→Bool→B:=(λa b=>((true,v.enc a++[.bool b]):B))
def evN(a:x)(Z b:Int)(c d e:u):E:= {n:=58,sl:=[(4,.str a),(12,.ptr 768 0),(14,.ptr 896 0),(35,.own 642240),(36,p Z),(37,p b)],hp:=[(448,.box 26 [.sl sK c]),(768,.box 26 [.nil]),(896,.box 26 [.own 1509376]),(642240,.row 219 o9 d false true),(1509376,.row 9 sK e false true)]}
theorem nsB:Np hO 217 Z0:=by refine a0 (A:=nj5) nak func217 λc b d=>?_;replace b:Q ((.sl lU)::(v.ct++[.i,.i,.str,.bool])) c:=b;obtain⟨list_,c,rfl,_,b⟩:=Tf b;obtain⟨m,c,rfl,e,b⟩:=v.nX b;obtain⟨a,c,rfl,_,b⟩:=Q_ b;obtain⟨eQ,c,rfl,_,b⟩:=Q_ b;obtain⟨s,c,rfl,f,b⟩:=cO b;obtain⟨write,rfl,_⟩:=Vv b;obtain⟨N,g⟩:=nxE Vm.lf nsr list_ m a eQ s write e f d;exact⟨N,BV (λh=>ZA Vm.lf nsr h list_ m a eQ s write) (funext λx=>funext λj=>QS (n7 hO nAg nj5 N f217 Z0 [true,true,true,true,false,true,false] []) (λk l n=>evN k x l m.a j n) _ N) g⟩
def Yx:C:= {ps:=[⟨[.sl lU],false⟩,⟨v.ct,true⟩,⟨K,false⟩,⟨K,false⟩,⟨sK,false⟩],rs:=[⟨[.own 9 sK],true⟩,⟨[.eV .bool],false⟩],fn:=λa=>(zE (df a 0) (v.nd a 1) (r a 2) (r a 3) (Gi a 4),v.enc (YI (df a 0) (v.nd a 1) (r a 2) (r a 3) (Gi a 4)).1++[.bool (YI (df a 0) (v.nd a 1) (r a 2) (r a 3) (Gi a 4)).2])}
theorem NC:Np hO 182 Yx:=by refine R3 (Γ:=[(217,Z0)]) (y nsB T) func182 λc a d=>?_;replace a:Q ((.sl lU)::(v.ct++[.i,.i,.str])) c:=a;obtain⟨list_,c,rfl,_,a⟩:=Tf a;obtain⟨m,c,rfl,_,a⟩:=v.nX a;obtain⟨b,c,rfl,_,a⟩:=Q_ a;obtain⟨eQ,c,rfl,_,a⟩:=Q_ a;obtain⟨s,rfl,_⟩:=Sd a;exact⟨0,Xy (ndd Vm.lf (λe f=>((true,v.enc e++[.bool f]):B)) list_ m b eQ s d)⟩
def YS:C:= {ps:=[⟨K,false⟩],rs:=[⟨[.own 9 sK],true⟩],fn:=λa=>(true,v.enc (Rz (r a 0)))}
def ng7:Ctx:=[(80,MK)]
theorem nh2:qk hO ng7:=y lu T
def nhJ:List (Nat×YJ):=[(3, {cx:=[(0,.AH),(2,.AH),(3,.AH),(4,.AH)],boxes:=[(128,[]),(192,[(0,.own 9)])]})]
def nri:v→B:=(λa=>((true,v.enc a):B))
def nv2(b k:Int)(a:u):E:= {n:=22,sl:=[(0,p b),(2,.ptr 128 0),(3,.ptr 192 0),(4,p k)],hp:=[(128,.box 26 [.nil]),(192,.box 26 [.own 1329152]),(1329152,.row 9 sK a false true)]}
theorem nn1:Np hO 148 YS:=by refine a0 (A:=nhJ) nh2 func148 λb c _=>?_;obtain⟨a,rfl,_⟩:=Ap c;obtain⟨N,d⟩:=poD Vm.lf nri a;exact⟨N,BV (λe=>Gc Vm.lf nri e a) (rm (n7 hO ng7 nhJ N f148 YS [true,true,false,true,false] []) (nv2 a) _ N) d⟩
def qAt:C:= {ps:=[⟨[.sl lU],false⟩,⟨K,false⟩,⟨K,false⟩,⟨Cl,false⟩],rs:=[⟨[.eV .i],false⟩],fn:=λa=>(true,[.int (gx (df a 0) (r a 1) (r a 2) (Dd a 3))])}
def nq5:List (Nat×YJ):=[(2, {cx:=[(0,.AH),(1,.AH),(2,.AH),(3,.AH),(9,.AH)],boxes:=[]})]
def nwJ:Int→B:=cp
def ntv(list_:u)(a b:Int)(write:Bool)(k:Int):E:= {n:=48,sl:=[(0,.sl lU list_),(1,p a),(2,p b),(3,.bool write),(9,p k)],hp:=[]}
theorem nL3:Np hO 264 qAt:=by refine a0 (A:=nq5) T func264 λc b _=>?_;obtain⟨list_,c,rfl,e,b⟩:=Tf b;obtain⟨a,c,rfl,_,b⟩:=Q_ b;obtain⟨d,c,rfl,_,b⟩:=Q_ b;obtain⟨write,rfl,_⟩:=Vv b;obtain⟨N,f⟩:=nlb Vm.lf nwJ list_ a d write e;exact⟨N,BV (λg=>lv Vm.lf nwJ g list_ a d write) (Cj (n7 hO [] nq5 N f264 qAt [true,false,true,false] []) (ntv list_ a d write) _ N) f⟩
def Yb:C:= {ps:=[⟨[.sl lU],false⟩,⟨v.ct,true⟩,⟨K,false⟩,⟨K,false⟩,⟨K,false⟩,⟨Cl,false⟩],rs:=[⟨[.own 3 K],false⟩,⟨[.own 3 K],false⟩,⟨[.eV .bool],false⟩],fn:=λa=>(true,[.sl (oz (df a 0) (v.nd a 1) (r a 2) (r a 3) (r a 4) (Dd a 5)).1]++[.sl (oz (df a 0) (v.nd a 1) (r a 2) (r a 3) (r a 4) (Dd a 5)).2.1]++[.bool (oz (df a 0) (v.nd a 1) (r a 2) (r a 3) (r a 4) (Dd a 5)).2.2])}
def nDJ:Ctx:=[(145,Y9),(262,du),(263,uv),(264,qAt),(265,zf)]
theorem dv8:qk hO nDJ:=y iH (y nD4 (y nfE (y nL3 (y nz_ T))))
def noq:List (Nat×YJ):=[(5, {cx:=[(0,.AH),(2,.AH),(3,.AH),(4,.AH),(5,.AH),(7,.AH),(15,.AH),(16,.AH)],boxes:=[(448,[])]})]
def ni7:u→u→Bool→B:=(λa b c=>((true,[.sl a]++[.sl b]++[.bool c]):B))
def nxA(list_:u)(a d c:Int)(write:Bool)(e b f:u):E:= {n:=83,sl:=[(0,.sl lU list_),(2,p a),(3,p d),(4,p c),(5,.bool write),(7,.ptr 448 0),(15,.own 640960),(16,.own 641024)],hp:=[(448,.box 26 [.sl sK e]),(640960,.row 3 K b false true),(641024,.row 3 K f false true)]}
theorem nap:Np hO 254 Yb:=by refine a0 (A:=noq) dv8 func254 λd b _=>?_;replace b:Q ((.sl lU)::(v.ct++lU)) d:=b;obtain⟨list_,d,rfl,_,b⟩:=Tf b;obtain⟨m,d,rfl,f,b⟩:=v.nX b;obtain⟨a,d,rfl,_,b⟩:=Q_ b;obtain⟨eQ,d,rfl,g,b⟩:=Q_ b;obtain⟨n,d,rfl,_,b⟩:=Q_ b;obtain⟨write,rfl,_⟩:=Vv b;obtain⟨N,h⟩:=ngf Vm.lf ni7 list_ m a eQ n write f g;exact⟨N,BV (λj=>VP Vm.lf ni7 j list_ m a eQ n write) (funext λk=>nl3 (n7 hO nDJ noq N f254 Yb [true,true,true,true,false,false] []) (λl e c o=>nxA list_ a l e write k c o) _ N) h⟩
def ZF:C:= {ps:=[⟨v.ct,true⟩,⟨K,false⟩,⟨K,false⟩],rs:=[⟨[.eV .str],false⟩,⟨[.eV .bool],false⟩],fn:=λa=>(true,[.str (pD (v.nd a 0) (r a 1) (r a 2)).1]++[.bool (pD (v.nd a 0) (r a 1) (r a 2)).2])}
def no5:Ctx:=[(189,zf)]
theorem nhy:qk hO no5:=y nk2 T
def nAs:List (Nat×YJ):=[(4, {cx:=[(1,.AH),(2,.AH),(3,.AH),(8,.AH)],boxes:=[(192,[])]})]
def neX:x→Bool→B:=(λa b=>((true,[.str a]++[.bool b]):B))
def nk9(a n:Int)(b c:u):E:= {n:=50,sl:=[(1,p a),(2,p n),(3,.ptr 192 0),(8,.own 640512)],hp:=[(192,.box 26 [.sl sK b]),(640512,.row 5 [.int .u8] c false true)]}
theorem ncL:Np hO 130 ZF:=by refine a0 (A:=nAs) nhy func130 λb a _=>?_;replace a:Q (v.ct++o9) b:=a;obtain⟨m,b,rfl,c,a⟩:=v.nX a;obtain⟨eQ,b,rfl,_,a⟩:=Q_ a;obtain⟨n,rfl,_⟩:=Ap a;obtain⟨N,d⟩:=nfG Vm.lf neX m eQ n c;exact⟨N,BV (λe=>nox Vm.lf neX e m eQ n) (funext λf=>rm (n7 hO no5 nAs N f130 ZF [true,true,true,false,false] []) (λg h=>nk9 g n f h) _ N) d⟩
def Xg:C:= {ps:=[⟨[.sl lU],false⟩,⟨v.ct,true⟩,⟨K,false⟩,⟨K,false⟩,⟨K,false⟩],rs:=[⟨[.eV .str],false⟩,⟨[.eV .bool],false⟩],fn:=λa=>(true,[.str (Eo (df a 0) (v.nd a 1) (r a 2) (r a 3) (r a 4)).1]++[.bool (Eo (df a 0) (v.nd a 1) (r a 2) (r a 3) (r a 4)).2])}
def nkm:Ctx:=[(129,O0),(130,ZF)]
theorem ntU:qk hO nkm:=y ntA (y ncL T)
def nBO:List (Nat×YJ):=[(6, {cx:=[(6,.AH),(14,.AH),(30,.AH),(31,.AH),(32,.AH)],boxes:=[(384,[])]})]
def nkV:x→Bool→B:=(λa b=>((true,[.str a]++[.bool b]):B))
def nqX(a:x)(Z b:Int)(c d:u):E:= {n:=50,sl:=[(6,.ptr 384 0),(14,.str a),(30,.own 641920),(31,p Z),(32,p b)],hp:=[(384,.box 26 [.sl sK c]),(641920,.row 219 o9 d false true)]}
theorem Tg:Np hO 65 Xg:=by refine a0 (A:=nBO) ntU func65 λc b _=>?_;replace b:Q ((.sl lU)::(v.ct++[.i,.i,.i])) c:=b;obtain⟨list_,c,rfl,_,b⟩:=Tf b;obtain⟨m,c,rfl,d,b⟩:=v.nX b;obtain⟨a,c,rfl,_,b⟩:=Q_ b;obtain⟨eQ,c,rfl,_,b⟩:=Q_ b;obtain⟨n,rfl,_⟩:=Ap b;obtain⟨N,e⟩:=nkR Vm.lf nkV list_ m a eQ n d;exact⟨N,BV (λf=>Nv Vm.lf nkV f list_ m a eQ n) (funext λx=>funext λg=>funext λh=>rm (n7 hO nkm nBO N f65 Xg [true,true,true,true,false,true,false] []) (λj k=>nqX j x k g h) _ N) e⟩
def uq:C:= {ps:=[⟨v.ct,true⟩],rs:=[⟨[.own 9 sK],true⟩],fn:=λa=>(WO (v.nd a 0),v.enc (F (v.nd a 0)))}
theorem YH:Np hO 237 uq:=by refine R3 T func237 λb a aN=>?_;obtain⟨m,b,rfl,_,a⟩:=v.nX a;obtain rfl:=fi a;exact⟨0,Xy (nfX Vm.lf (λc=>((true,v.enc c):B)) m aN)⟩
def nlJ:C:= {ps:=[⟨v.ct,true⟩,⟨K,false⟩,⟨sK,false⟩],rs:=[⟨[.own 9 sK],true⟩,⟨[.eV .bool],false⟩],fn:=λa=>(l6 (v.nd a 0) (r a 1) (Gi a 2),v.enc (jc (v.nd a 0) (r a 1) (Gi a 2)).1++[.bool (jc (v.nd a 0) (r a 1) (Gi a 2)).2])}
def nrN:Ctx:=[(34,CJ),(237,uq),(265,zf)]
theorem ntO:qk hO nrN:=y N7 (y YH (y nz_ T))
def ne8:List (Nat×YJ):=[(4, {cx:=[(1,.AH),(2,.AH),(6,.AH),(8,.AH)],boxes:=[(192,[]),(384,[]),(512,[])]})]
def nsN:v→Bool→B:=(λa b=>((true,v.enc a++[.bool b]):B))
def nbG(a:Int)(b:x)(c d:u):E:= {n:=53,sl:=[(1,p a),(2,.str b),(6,.ptr 384 0),(8,.ptr 512 0)],hp:=[(192,.box 26 [.sl sK c]),(384,.box 26 [.nil]),(512,.box 26 [.own 1411072]),(1411072,.row 9 sK d false true)]}
theorem nkA:Np hO 255 nlJ:=by refine a0 (A:=ne8) ntO func255 λb a c=>?_;replace a:Q (v.ct++[.i,.str]) b:=a;obtain⟨m,b,rfl,d,a⟩:=v.nX a;obtain⟨eQ,b,rfl,_,a⟩:=Q_ a;obtain⟨s,rfl,_⟩:=Sd a;obtain⟨N,e⟩:=nEB Vm.lf nsN m eQ s d c;exact⟨N,BV (λf=>XF Vm.lf nsN f m eQ s) (QS (n7 hO nrN ne8 N f255 nlJ [true,true,true,false,false] []) (λg h j=>nbG g h m.a j) _ N) e⟩
def Ps:C:= {ps:=[⟨[.sl lU],false⟩,⟨v.ct,true⟩,⟨K,false⟩,⟨K,false⟩,⟨sK,false⟩],rs:=[⟨[.own 9 sK],true⟩,⟨[.eV .bool],false⟩],fn:=λa=>(zE (df a 0) (v.nd a 1) (r a 2) (r a 3) (Gi a 4),v.enc (YI (df a 0) (v.nd a 1) (r a 2) (r a 3) (Gi a 4)).1++[.bool (YI (df a 0) (v.nd a 1) (r a 2) (r a 3) (Gi a 4)).2])}
def nz1:Ctx:=[(237,uq),(254,Yb),(255,nlJ)]
theorem ngB:qk hO nz1:=y YH (y nap (y nkA T))
def nES:List (Nat×YJ):=[(6, {cx:=[(4,.AH),(10,.AH),(12,.AH),(13,.AH),(15,.AH),(16,.AH)],boxes:=[(384,[]),(640,[]),(960,[])]})]
def nAi:v→Bool→B:=(λa b=>((true,v.enc a++[.bool b]):B))
def nhN(b:x)(k:Int)(c a d e:u):E:= {n:=61,sl:=[(4,.str b),(10,.ptr 640 0),(12,.own 640768),(13,.own 640832),(15,.ptr 960 0),(16,p k)],hp:=[(384,.box 26 [.sl sK c]),(640,.box 26 [.nil]),(960,.box 26 [.own 1525760]),(640768,.row 3 K a false true),(640832,.row 3 K d false true),(1525760,.row 9 sK e false true)]}
theorem nDI:Np hO 236 Ps:=by refine a0 (A:=nES) ngB func236 λd b e=>?_;replace b:Q ((.sl lU)::(v.ct++[.i,.i,.str])) d:=b;obtain⟨list_,d,rfl,_,b⟩:=Tf b;obtain⟨m,d,rfl,f,b⟩:=v.nX b;obtain⟨a,d,rfl,_,b⟩:=Q_ b;obtain⟨eQ,d,rfl,_,b⟩:=Q_ b;obtain⟨s,rfl,g⟩:=Sd b;obtain⟨N,h⟩:=nDL Vm.lf nAi list_ m a eQ s f g e;exact⟨N,BV (λj=>ndY Vm.lf nAi j list_ m a eQ s) (funext λc=>funext λl=>QS (n7 hO nz1 nES N f236 Ps [true,true,true,true,false,true,false] []) (λn k o=>nhN n k m.a c l o) _ N) h⟩
def Zs:C:= {ps:=[⟨[.sl lU],false⟩,⟨v.ct,true⟩,⟨K,false⟩,⟨K,false⟩,⟨sK,false⟩],rs:=[⟨[.own 9 sK],true⟩,⟨[.eV .bool],false⟩],fn:=λa=>(Oz (df a 0) (v.nd a 1) (r a 2) (r a 3) (Gi a 4),v.enc (zJ (df a 0) (v.nd a 1) (r a 2) (r a 3) (Gi a 4)).1++[.bool (zJ (df a 0) (v.nd a 1) (r a 2) (r a 3) (Gi a 4)).2])}
theorem nxR:Np hO 162 Zs:=by refine R3 (Γ:=[(217,Z0)]) (y nsB T) func162 λc a d=>?_;replace a:Q ((.sl lU)::(v.ct++[.i,.i,.str])) c:=a;obtain⟨list_,c,rfl,_,a⟩:=Tf a;obtain⟨m,c,rfl,_,a⟩:=v.nX a;obtain⟨b,c,rfl,_,a⟩:=Q_ a;obtain⟨eQ,c,rfl,_,a⟩:=Q_ a;obtain⟨s,rfl,_⟩:=Sd a;exact⟨0,Xy (nFa Vm.lf (λe f=>((true,v.enc e++[.bool f]):B)) list_ m b eQ s d)⟩
def nzh:Ctx:=[(236,Ps)]
theorem fsS:qk hO nzh:=y nDI T
def ns8:List (Nat×YJ):=[(3, {cx:=[(0,.AH),(2,.AH),(3,.AH),(4,.AH),(6,.AH),(10,.AH),(12,.AH),(13,.AH)],boxes:=[(384,[]),(640,[])]})]
def ni9:v→Bool→B:=(λa b=>((true,v.enc a++[.bool b]):B))
def nsz(list_:u)(a eQ:Int)(s:x)(k:Int)(c b:u):E:= {n:=39,sl:=[(0,.sl lU list_),(2,p a),(3,p eQ),(4,.str s),(6,.ptr 384 0),(10,.ptr 640 0),(12,.own 640768),(13,p k)],hp:=[(384,.box 26 [.sl sK c]),(640,.box 26 [.nil]),(640768,.row 134 lU b false true)]}
theorem naO:Np hO 208 Zs:=by refine a0 (A:=ns8) fsS func208 λd b e=>?_;replace b:Q ((.sl lU)::(v.ct++[.i,.i,.str])) d:=b;obtain⟨list_,d,rfl,f,b⟩:=Tf b;obtain⟨m,d,rfl,_,b⟩:=v.nX b;obtain⟨a,d,rfl,_,b⟩:=Q_ b;obtain⟨eQ,d,rfl,_,b⟩:=Q_ b;obtain⟨s,rfl,_⟩:=Sd b;obtain⟨N,g⟩:=nnf Vm.lf ni9 list_ m a eQ s f e;exact⟨N,BV (λh=>cC Vm.lf ni9 h list_ m a eQ s) (funext λj=>rm (n7 hO nzh ns8 N f208 Zs [true,true,false,true,false] []) (λk c=>nsz list_ a eQ s k j c) _ N) g⟩
def bV:C:= {ps:=[⟨QD.ct,true⟩],rs:=[⟨[.eV .i,.eV .bool,.own 3 K],true⟩],fn:=λa=>(PO (QD.nd a 0),QD.enc (F (QD.nd a 0)))}
theorem naP:Np hO 150 bV:=by refine R3 T func150 λb a aN=>?_;obtain⟨f,b,rfl,_,a⟩:=QD.nX a;obtain rfl:=fi a;exact⟨0,Xy (nbZ Vm.lf (λc=>((true,QD.enc c):B)) f aN)⟩
theorem nm7:Np hO 89 bV:=by refine R3 (Γ:=[(93,wG)]) (y Bu T) func89 λb a aN=>?_;obtain⟨f,b,rfl,_,a⟩:=QD.nX a;obtain rfl:=fi a;exact⟨0,Xy (ntm Vm.lf (λc=>((true,QD.enc c):B)) f aN)⟩
def AY:C:= {ps:=[⟨mB.ct,true⟩],rs:=[⟨[.own 151 Zi],true⟩],fn:=λa=>(tc (mB.nd a 0),mB.enc (F (mB.nd a 0)))}
theorem nCU:Np hO 200 AY:=by refine R3 T func200 λb a aN=>?_;obtain⟨t,b,rfl,_,a⟩:=mB.nX a;obtain rfl:=fi a;exact⟨0,Xy (no4 Vm.lf (λc=>((true,mB.enc c):B)) t aN)⟩
theorem nf5:Np hO 156 AY:=by refine R3 T func156 λb a aN=>?_;obtain⟨t,b,rfl,_,a⟩:=mB.nX a;obtain rfl:=fi a;exact⟨0,Xy (nbi Vm.lf (λc=>((true,mB.enc c):B)) t aN)⟩
def ndR:C:= {ps:=[⟨iI.ct,true⟩],rs:=[⟨[.eV .str,.own 3 K],true⟩],fn:=λa=>(qF (iI.nd a 0),iI.enc (F (iI.nd a 0)))}
theorem nAu:Np hO 157 ndR:=by refine R3 (Γ:=[(93,wG)]) (y Bu T) func157 λb a aN=>?_;obtain⟨s,b,rfl,_,a⟩:=iI.nX a;obtain rfl:=fi a;exact⟨0,Xy (nxO Vm.lf (λc=>((true,iI.enc c):B)) s aN)⟩
def KR:C:= {ps:=[⟨se.ct,true⟩],rs:=[⟨[.own 147 uz,.own 151 Zi,.eV .str,.own 3 K],true⟩],fn:=λa=>(bu (se.nd a 0),se.enc (F (se.nd a 0)))}
theorem nec:Np hO 151 KR:=by refine R3 (Γ:=[(200,AY)]) (y nCU T) func151 λb a aN=>?_;obtain⟨s,b,rfl,_,a⟩:=se.nX a;obtain rfl:=fi a;exact⟨0,Xy (nyu Vm.lf (λc=>((true,se.enc c):B)) s aN)⟩
theorem nzm:Np hO 90 KR:=by refine R3 (Γ:=[(156,AY),(157,ndR)]) (y nf5 (y nAu T)) func90 λb a aN=>?_;obtain⟨s,b,rfl,_,a⟩:=se.nX a;obtain rfl:=fi a;exact⟨0,Xy (ncI Vm.lf (λc=>((true,se.enc c):B)) s aN)⟩
def nvq:C:= {ps:=[⟨[.sl lU],false⟩],rs:=[⟨[.own 134 lU],false⟩],fn:=λa=>(Pw (df a 0),[.sl (F (df a 0))])}
theorem nr_:Np hO 86 nvq:=by refine R3 T func86 λa b aN=>?_;obtain⟨list_,rfl,_⟩:=nh b;exact⟨0,Xy (nxw Vm.lf cu list_ aN)⟩
def Bo:C:= {ps:=[⟨[.sl qJ],false⟩],rs:=[⟨[.own 170 qJ],false⟩],fn:=λa=>(Pw (df a 0),[.sl (F (df a 0))])}
theorem Od:Np hO 91 Bo:=by refine R3 T func91 λa b aN=>?_;obtain⟨list_,rfl,_⟩:=nh b;exact⟨0,Xy (niU Vm.lf cu list_ aN)⟩
def PY:C:= {ps:=[⟨[.sl [.i,.i,.sl K]],false⟩],rs:=[⟨[.deep 138 [.i,.i,.sl K] [3]],false⟩],fn:=λa=>(NI (df a 0),[.sl (F (df a 0))])}
def nby:Ctx:=[(1125899906842630,jh),(1125899906842646,jh),(1125899906842647,jh),(93,wG)]
theorem pgs:qk hO nby:=y o_ (y o_ (y o_ (y Bu T)))
def nwP:List (Nat×YJ):=[(3, {cx:=[(3,.AH),(7,.AH),(8,.AH),(9,.AH)],boxes:=[]})]
def nsO:u→B:=cu
def nuJ(list_:u)(a b:Int)(c:u):E:= {n:=26,sl:=[(3,.own 640192),(7,.sl [.i,.i,.sl K] list_),(8,p a),(9,p b)],hp:=[(640192,.deep 138 [.i,.i,.sl K] [3] c none)]}
theorem nip:Np hO 103 PY:=by refine a0 (A:=nwP) pgs func103 λa b aN=>?_;obtain⟨list_,rfl,c⟩:=nh b;obtain⟨N,d⟩:=nuh Vm.lf nsO list_ c aN;exact⟨N,BV (λe=>zk Vm.lf nsO e list_) (funext λf=>rm (n7 hO nby nwP N f103 PY [true,true,false,true,false] []) (nuJ list_ f) _ N) d⟩
def Eh:C:= {ps:=[⟨Co.ct,true⟩],rs:=[⟨As,true⟩],fn:=λa=>(yK (Co.nd a 0),Co.enc (F (Co.nd a 0)))}
theorem kS:Np hO 87 Eh:=by refine R3 (Γ:=[(88,Qe),(103,PY)]) (y T6 (y nip T)) func87 λb a aN=>?_;obtain⟨q,b,rfl,_,a⟩:=Co.nX a;obtain rfl:=fi a;exact⟨0,Xy (nAL Vm.lf (λc=>((true,Co.enc c):B)) q aN)⟩
def Yo:C:= {ps:=[⟨z.ct,true⟩],rs:=[⟨NS,true⟩],fn:=λa=>(mD (z.nd a 0),z.enc (F (z.nd a 0)))}
def nvG:Ctx:=[(1125899906842648,jh),(1125899906842661,jh),(1125899906842662,jh),(85,pE),(86,nvq),(87,Eh),(88,Qe),(89,bV),(90,KR),(91,Bo),(92,zs),(93,wG)]
theorem nwy:qk hO nvG:=y o_ (y o_ (y o_ (y nT (y nr_ (y kS (y T6 (y nm7 (y nzm (y Od (y nv_ (y Bu T)))))))))))
def nlr:List (Nat×YJ):=[(8, {cx:=[(1,.AH),(2,.AH),(3,.AH),(27,.AH),(28,.AH),(29,.AH)],boxes:=[(64,[]),(128,[]),(192,[])]})]
def nGR:z→B:=(λa=>((true,z.enc a):B))
def ngp(abB:u)(d e:Int)(f a:u)(g h j k l m o:Int)(abd q:u)(r:Int)(s t aax v:u)(w:Int)(y:Bool)(z A B:u)(C:x)(D ac_:u)(F:Bool)(G H I:u)(J ae0 L M N O P Q R S T U V W:Int)(X:Bool)(Y:x)(Z:Bool)(y6 y7 y8 y9 y_ og qR qS qT qz qA qB qU:Int)(rT tJ:u)(rK:Int)(rL:Bool)(rZ r7 r9:u)(r_:x)(sa b:u)(qg:Bool)(sb sd c:u)(qo qh zO qi qj:Int)(oH pB pJ pd oL pI:u):E:= {n:=76,sl:=[(1,.ptr 64 0),(2,.ptr 128 0),(3,.ptr 192 0),(27,.sl [.i,.i,.i,.sl K] abB),(28,p d),(29,p e)],hp:=[(64,.box 54 [.sl sK f,.sl lU a,p g,p h,p j,p k,p l,p m,p o,.sl K abd,.sl [.i,.i,.sl K] q,p r,.sl au s,.sl [.i,.i,.i,.sl K] t,.sl EJ aax,.sl Cl v,p w,.bool y,.sl K z,.sl uz A,.sl Zi B,.str C,.sl K D,.sl qJ ac_,.bool F,.sl sK G,.sl K H,.sl K I,p J,p ae0,p L,p M,p N]),(128,.box 54 [.nil,.nil,p O,p P,p Q,p R,p S,p T,p U,.nil,.nil,p V,.nil,.nil,.nil,.nil,p W,.bool X,.nil,.nil,.nil,.str Y,.nil,.nil,.bool Z,.nil,.nil,.nil,p y6,p y7,p y8,p y9,p y_]),(192,.box 54 [.own 1329152,.own 1329153,p og,p qR,p qS,p qT,p qz,p qA,p qB,.own 1329161,.own 1329162,p qU,.own 1329164,.own 1329165,.sl EJ rT,.sl Cl tJ,p rK,.bool rL,.sl K rZ,.sl uz r7,.sl Zi r9,.str r_,.sl K sa,.sl qJ b,.bool qg,.sl sK sb,.sl K sd,.sl K c,p qo,p qh,p zO,p qi,p qj]),(1329152,.row 9 sK oH false true),(1329153,.row 134 lU pB false true),(1329161,.row 3 K pJ false true),(1329162,.deep 138 [.i,.i,.sl K] [3] pd none),(1329164,.row 74 au oL false true),(1329165,.deep 32 [.i,.i,.i,.sl K] [3] pI none)]}
theorem QW:Np hO 42 Yo:=by refine a0 (A:=nlr) nwy func42 λc a aN=>?_;obtain⟨h,c,rfl,b,a⟩:=z.nX a;obtain rfl:=fi a;obtain⟨N,d⟩:=nA0 Vm.lf nGR h b aN;exact⟨N,BV (λe=>sU Vm.lf nGR e h) (funext λx=>funext λf=>funext λg=>funext λi=>funext λj=>funext λk=>funext λl=>funext λm=>funext λn=>funext λo=>funext λp=>funext λq=>funext λs=>funext λt=>funext λu=>funext λv=>funext λw=>funext λy=>funext λZ=>funext λB=>funext λC=>funext λD=>funext λE=>funext λF=>funext λG=>funext λH=>funext λI=>funext λJ=>funext λK=>funext λL=>funext λM=>funext λO=>funext λP=>funext λQ=>rm (n7 hO nvG nlr N f42 Yo [true,true,true,true,true,true,true,false,true,false] []) (λR S=>ngp x f R h.h.a h.j h.a.b.b h.a.b.a h.a.b.d h.a.b.c h.a.a.b h.a.a.a h.a.a.c h.a.a.d h.a.c h.a.d h.b h.e g i j k l m n o p q h.m s t u h.c.a h.c.b h.c.e h.c.c h.c.d 0 0 0 0 0 0 0 0 0 false [] false 0 0 0 0 0 v w y Z B C D E h.g h.i h.f.b h.f.c h.f.a h.d.c h.d.a.a h.d.b.b h.d.b.a h.k F h.l h.n h.o G H I J K L M O P Q S) _ N) d⟩
def aP:C:= {ps:=[⟨Ue.ct,true⟩],rs:=[⟨O_,true⟩],fn:=λa=>(true,Ue.enc (zY (Ue.nd a 0)))}
theorem BX:Np hO 119 aP:=by refine R3 (Γ:=[(61,E5)]) (y nn3 T) func119 λb a _=>?_;obtain⟨v,b,rfl,_,a⟩:=Ue.nX a;obtain rfl:=fi a;exact⟨0,Xy (nsb (λc=>((true,Ue.enc c):B)) v)⟩
def nno:C:= {ps:=[⟨Ue.ct,true⟩],rs:=[⟨O_,true⟩],fn:=λa=>(true,Ue.enc (Rb (Ue.nd a 0)))}
theorem nqO:Np hO 52 nno:=by refine R3 (Γ:=[(28,Ux),(119,aP)]) (y OX (y BX T)) func52 λb a _=>?_;obtain⟨v,b,rfl,_,a⟩:=Ue.nX a;obtain rfl:=fi a;exact⟨0,Xy (nCG (λc=>((true,Ue.enc c):B)) v)⟩
def zh:C:= {ps:=[⟨z.ct,true⟩],rs:=[⟨NS,true⟩],fn:=λa=>(fY (z.nd a 0),z.enc (Xa (z.nd a 0)))}
def nwm:Ctx:=[(9,Bw),(42,Yo),(52,nno)]
theorem np3:qk hO nwm:=y tV (y QW (y nqO T))
def nwv:List (Nat×YJ):=[(5, {cx:=[(2,.AH),(3,.AH),(13,.AH),(14,.AH)],boxes:=[(64,[]),(128,[]),(192,[])]})]
def nEQ:z→B:=(λa=>((true,z.enc a):B))
def nmy(abC b:Int)(c a:u)(d e f g h j k:Int)(l m:u)(o:Int)(abe q r s:u)(t:Int)(aay:Bool)(v w y:u)(z:x)(A B:u)(C:Bool)(D ada F:u)(G H I J ae1 L M N O P Q R S T:Int)(U:Bool)(V:x)(W:Bool)(X Y Z y9 y_ og qR qS qT qz qA qB qU rT:Int)(tJ:Bool)(rK:x)(rL:Bool)(rZ r7 r9 r_ sa:Int)(oH pB pJ pd oL pI pU pQ qg sb sd qo qh qi qj rV:u):E:= {n:=29,sl:=[(2,.ptr 128 0),(3,.ptr 192 0),(13,p abC),(14,p b)],hp:=[(64,.box 54 [.sl sK c,.sl lU a,p d,p e,p f,p g,p h,p j,p k,.sl K l,.sl [.i,.i,.sl K] m,p o,.sl au abe,.sl [.i,.i,.i,.sl K] q,.sl EJ r,.sl Cl s,p t,.bool aay,.sl K v,.sl uz w,.sl Zi y,.str z,.sl K A,.sl qJ B,.bool C,.sl sK D,.sl K ada,.sl K F,p G,p H,p I,p J,p ae1]),(128,.box 54 [.nil,.nil,p L,p M,p N,p O,p P,p Q,p R,.nil,.nil,p S,.nil,.nil,.nil,.nil,p T,.bool U,.nil,.nil,.nil,.str V,.nil,.nil,.bool W,.nil,.nil,.nil,p X,p Y,p Z,p y9,p y_]),(192,.box 54 [.own 1329152,.own 1329153,p og,p qR,p qS,p qT,p qz,p qA,p qB,.own 1329161,.own 1329162,p qU,.own 1329164,.own 1329165,.own 1329166,.own 1329167,p rT,.bool tJ,.own 1329170,.own 1329171,.own 1329172,.str rK,.own 1329174,.own 1329175,.bool rL,.own 1329177,.own 1329178,.own 1329179,p rZ,p r7,p r9,p r_,p sa]),(1329152,.row 9 sK oH false true),(1329153,.row 134 lU pB false true),(1329161,.row 3 K pJ false true),(1329162,.deep 138 [.i,.i,.sl K] [3] pd none),(1329164,.row 74 au oL false true),(1329165,.deep 32 [.i,.i,.i,.sl K] [3] pI none),(1329166,.row 77 EJ pU false true),(1329167,.row 4 Cl pQ false true),(1329170,.row 3 K qg false true),(1329171,.row 147 uz sb false true),(1329172,.row 151 Zi sd false true),(1329174,.row 3 K qo false true),(1329175,.row 170 qJ qh false true),(1329177,.row 9 sK qi false true),(1329178,.row 3 K qj false true),(1329179,.row 3 K rV false true)]}
theorem ntK:Np hO 19 zh:=by refine a0 (A:=nwv) np3 func19 λc a aN=>?_;obtain⟨h,c,rfl,b,a⟩:=z.nX a;obtain rfl:=fi a;obtain⟨N,d⟩:=ntZ Vm.lf nEQ h b aN;exact⟨N,BV (λe=>St Vm.lf nEQ e h) (funext λx=>funext λf=>funext λg=>funext λi=>funext λj=>funext λk=>funext λl=>funext λm=>funext λn=>funext λo=>funext λp=>funext λq=>funext λs=>funext λt=>funext λu=>funext λv=>funext λw=>funext λy=>funext λZ=>funext λB=>funext λC=>funext λD=>funext λE=>funext λF=>funext λG=>funext λH=>funext λI=>funext λJ=>funext λK=>funext λL=>funext λM=>funext λO=>funext λP=>rm (n7 hO nwm nwv N f19 zh [true,true,true,false,true,false] []) (λQ R=>nmy x Q h.h.a h.j h.a.b.b h.a.b.a h.a.b.d h.a.b.c h.a.a.b h.a.a.a h.a.a.c h.a.a.d h.a.c h.a.d h.b h.e h.g h.i h.f.b h.f.c h.f.a h.d.c h.d.a.a h.d.b.b h.d.b.a h.k h.m h.l h.n h.o h.c.a h.c.b h.c.e h.c.c h.c.d 0 0 0 0 0 0 0 0 0 false [] false 0 0 0 0 0 f g i j k l m n o p q s t u v w y Z B C D E F R G H I J K L M O P) _ N) d⟩
def gW:C:= {ps:=[⟨sK,false⟩,⟨K,false⟩],rs:=[⟨[.eV .i],false⟩],fn:=λa=>(true,[.int (CW (Gi a 0) (r a 1))])}
theorem Ts:Np hO 131 gW:=by refine R3 T func131 λb a _=>?_;obtain⟨s,b,rfl,c,a⟩:=cO a;obtain⟨eQ,rfl,_⟩:=Ap a;exact⟨0,Xy (nD9 Vm.lf cp s eQ c)⟩
def oC:C:= {ps:=[⟨sK,false⟩],rs:=[⟨[.eV .i],false⟩,⟨[.eV .i],false⟩],fn:=λa=>(true,[.int (U0 (Gi a 0)).1]++[.int (U0 (Gi a 0)).2])}
theorem nwr:Np hO 159 oC:=by refine R3 (Γ:=[(131,gW),(216,Yc)]) (y Ts (y sW T)) func159 λc d _=>?_;obtain⟨a,rfl,b⟩:=Sd d;exact⟨0,Xy (nwk Vm.lf (λe f=>((true,[.int e]++[.int f]):B)) a b)⟩
def vx:C:= {ps:=[⟨N.ct,true⟩],rs:=[⟨[.eV .str],false⟩,⟨[.eV .bool],false⟩],fn:=λa=>(true,[.str (e7 (N.nd a 0)).1]++[.bool (e7 (N.nd a 0)).2])}
theorem nhY:Np hO 94 vx:=by refine R3 (Γ:=[(158,BJ),(159,oC),(160,CJ),(161,QN)]) (y F7 (y nwr (y b_ (y E6 T)))) func94 λb a _=>?_;obtain⟨p,b,rfl,_,a⟩:=N.nX a;obtain rfl:=fi a;exact⟨0,Xy (nrK Vm.lf (λc d=>((true,[.str c]++[.bool d]):B)) p)⟩
def Cm:C:= {ps:=[⟨I.ct,true⟩],rs:=[⟨[.eV .i],false⟩],fn:=λa=>(true,[.int (Ry (I.nd a 0))])}
theorem nhV:Np hO 95 Cm:=by refine R3 (Γ:=[(57,EX),(122,Oy)]) (y PC (y Rm T)) func95 λb a _=>?_;obtain⟨r,b,rfl,_,a⟩:=I.nX a;obtain rfl:=fi a;exact⟨0,Xy (nEP cp r)⟩
theorem nbN:Np hO 240 Cm:=by refine R3 (Γ:=[(239,EX),(257,Oy)]) (y nq6 (y nAt T)) func240 λb a _=>?_;obtain⟨r,b,rfl,_,a⟩:=I.nX a;obtain rfl:=fi a;exact⟨0,Xy (nEP cp r)⟩
def UM:C:= {ps:=[⟨G.ct,true⟩,⟨K,false⟩],rs:=[⟨[.eV .i],false⟩],fn:=λa=>(true,[.int (Q6 (G.nd a 0) (r a 4))])}
theorem uR:Np hO 163 UM:=by refine R3 (Γ:=[(25,Y9),(27,fZ)]) (y mR (y ye T)) func163 λb a _=>?_;obtain⟨p,b,rfl,_,a⟩:=G.nX a;obtain⟨k,rfl,_⟩:=Ap a;exact⟨0,Xy (no3 cp p k)⟩
theorem nDW:Np hO 243 UM:=by refine R3 (Γ:=[(145,Y9),(235,fZ)]) (y iH (y Gm T)) func243 λb a _=>?_;obtain⟨p,b,rfl,_,a⟩:=G.nX a;obtain⟨k,rfl,_⟩:=Ap a;exact⟨0,Xy (no3 cp p k)⟩
def aR:C:= {ps:=[⟨Zz.ct,true⟩],rs:=[⟨[.eV .bool],false⟩],fn:=λa=>(true,[.bool (GC (Zz.nd a 0))])}
theorem ngF:Np hO 165 aR:=by refine R3 (Γ:=[(25,Y9)]) (y mR T) func165 λb a _=>?_;obtain⟨x,b,rfl,_,a⟩:=Zz.nX a;obtain rfl:=fi a;exact⟨0,Xy (nwa bX x)⟩
theorem nnd:Np hO 259 aR:=by refine R3 (Γ:=[(145,Y9)]) (y iH T) func259 λb a _=>?_;obtain⟨x,b,rfl,_,a⟩:=Zz.nX a;obtain rfl:=fi a;exact⟨0,Xy (nwa bX x)⟩
def dF:C:= {ps:=[⟨Co.ct,true⟩],rs:=[⟨[.eV .i],false⟩],fn:=λa=>(true,[.int (da (Co.nd a 0))])}
def np0:List (Nat×YJ):=[(3, {cx:=[(3,.AH),(7,.AH),(8,.AH),(9,.AH)],boxes:=[(64,[])]})]
def nkJ:Int→B:=cp
def nl8(n:Int)(x:u)(k l a b c d e f g:Int)(h j:u)(m:Int):E:= {n:=19,sl:=[(3,p n),(7,.sl [.i,.i,.sl K] x),(8,p k),(9,p l)],hp:=[(64,.box 35 [p a,p b,p c,p d,p e,p f,p g,.sl K h,.sl [.i,.i,.sl K] j,p m])]}
theorem nFI:Np hO 96 dF:=by refine a0 (A:=np0) T func96 λc a _=>?_;obtain⟨q,c,rfl,b,a⟩:=Co.nX a;obtain rfl:=fi a;obtain⟨N,d⟩:=nmh Vm.lf nkJ q b;exact⟨N,BV (λe=>nzl Vm.lf nkJ e q) (funext λx=>funext λf=>rm (n7 hO [] np0 N f96 dF [true,true,false,true,false] []) (λn g=>nl8 n x f g q.b.b q.b.a q.b.d q.b.c q.a.b q.a.a q.a.c q.a.d q.c q.d) _ N) d⟩
def cH:C:= {ps:=[⟨[.sl o9],false⟩],rs:=[⟨[.eV .bool],false⟩],fn:=λa=>(true,[.bool (HT (df a 0))])}
def niC:Ctx:=[(25,Y9)]
theorem nky:qk hO niC:=y mR T
def nmd:List (Nat×YJ):=[(2, {cx:=[(0,.AH),(5,.AH),(6,.AH),(7,.AH)],boxes:=[]})]
def nhm:Bool→B:=bX
def naE(list_ x:u)(a b:Int):E:= {n:=24,sl:=[(0,.sl o9 list_),(5,.sl o9 x),(6,p a),(7,p b)],hp:=[]}
theorem ngr:Np hO 164 cH:=by refine a0 (A:=nmd) nky func164 λa b _=>?_;obtain⟨list_,rfl,c⟩:=nh b;obtain⟨N,d⟩:=ncQ Vm.lf nhm list_ c;exact⟨N,BV (λe=>Ra Vm.lf nhm e list_) (funext λx=>funext λf=>Cj (n7 hO niC nmd N f164 cH [true,false,true,false] []) (naE list_ x f) _ N) d⟩
def v7:C:= {ps:=[⟨I.ct,true⟩,⟨K,false⟩],rs:=[⟨[.eV .i],false⟩],fn:=λa=>(true,[.int (lO (I.nd a 0) (r a 4))])}
theorem neE:Np hO 180 v7:=by refine R3 (Γ:=[(57,EX)]) (y PC T) func180 λc b _=>?_;obtain⟨r,c,rfl,_,b⟩:=I.nX b;obtain⟨a,rfl,_⟩:=Ap b;exact⟨0,Xy (neA Vm.lf cp r a)⟩
theorem nm1:Np hO 258 v7:=by refine R3 (Γ:=[(239,EX)]) (y nq6 T) func258 λc b _=>?_;obtain⟨r,c,rfl,_,b⟩:=I.nX b;obtain⟨a,rfl,_⟩:=Ap b;exact⟨0,Xy (rpP Vm.lf cp r a)⟩
def nhn:C:= {ps:=[⟨G.ct,true⟩,⟨K,false⟩],rs:=[⟨ue,true⟩,⟨[.own 3 K],false⟩,⟨[.eV .bool],false⟩],fn:=λa=>(ud (G.nd a 0) (r a 4),G.enc (pN (G.nd a 0) (r a 4)).1++[.sl (pN (G.nd a 0) (r a 4)).2.1]++[.bool (pN (G.nd a 0) (r a 4)).2.2])}
theorem nyP:Np hO 97 nhn:=by refine R3 (Γ:=[(25,Y9),(27,fZ),(88,Qe),(93,wG)]) (y mR (y ye (y T6 (y Bu T)))) func97 λb a aN=>?_;obtain⟨p,b,rfl,_,a⟩:=G.nX a;obtain⟨n,rfl,_⟩:=Ap a;exact⟨0,Xy (nxH Vm.lf (λc d e=>((true,G.enc c++[.sl d]++[.bool e]):B)) p n aN)⟩
def AB:C:= {ps:=[⟨Zz.ct,true⟩],rs:=[⟨[.eV .str],false⟩],fn:=λa=>(true,[.str (UA (Zz.nd a 0))])}
theorem rM:Np hO 100 AB:=by refine R3 (Γ:=[(161,QN),(165,aR),(166,VQ)]) (y E6 (y ngF (y DI T))) func100 λb a _=>?_;obtain⟨x,b,rfl,_,a⟩:=Zz.nX a;obtain rfl:=fi a;exact⟨0,Xy (nrB Vm.lf c5 x)⟩
theorem ngv:Np hO 242 AB:=by refine R3 (Γ:=[(191,QN),(192,VQ),(259,aR)]) (y O7 (y iM (y nnd T))) func242 λb a _=>?_;obtain⟨x,b,rfl,_,a⟩:=Zz.nX a;obtain rfl:=fi a;exact⟨0,Xy (nrB Vm.lf c5 x)⟩
def Y5:C:= {ps:=[⟨[.sl o9],false⟩,⟨K,false⟩,⟨K,false⟩],rs:=[⟨[.eV (.sl d_)],false⟩],fn:=λa=>(true,[.sl (VJ (df a 0) (r a 1) (r a 2))])}
def rv:Ctx:=[(25,Y9),(164,cH),(165,aR)]
theorem nbj:qk hO rv:=y mR (y ngr (y ngF T))
def N8:List (Nat×YJ):=[(5, {cx:=[(0,.AH),(2,.AH),(7,.AH),(30,.AH),(31,.AH),(32,.AH)],boxes:=[]}),(13, {cx:=[(7,.eV 190),(54,.eV 190),(55,.AH),(56,.AH)],boxes:=[]})]
def Ym:u→B:=cu
def O8(a:u)(b:Int)(x:u)(c d:Int)(e:u):E:= {n:=65,sl:=[(0,.sl o9 a),(2,p b),(7,.own 640448),(30,.sl o9 x),(31,p c),(32,p d)],hp:=[(640448,.row 190 d_ e false true)]}
def rJ(a b:u)(c d:Int):E:= {n:=65,sl:=[(7,.sl d_ a),(54,.sl d_ b),(55,p c),(56,p d)],hp:=[]}
noncomputable def LZ(N:Nat):(E→B)→E→B:=n7 hO rv N8 N f99 Y5 [true,true,true,true,false,true,false] []
noncomputable def UC(N:Nat):(E→B)→E→B:=n7 hO rv N8 N f99 Y5 [true,true,true,false,true,false] []
theorem nai(N:Nat)(b c:u)(d:Int)(e:E→B)(a:Int):LZ N e (rJ b c d a)=ZH Vm.lf Ym b c d (λa=>e (rJ b c d a)) a:=by kernel_rfl
theorem nkK(N:Nat)(b c:u)(d:Int)(a:Nat):(λe=>VB (LZ N) a (rJ b c d e))=wg Vm.lf Ym N b c d a:=by
 induction a with
 | zero=>rfl
 | succ a f=>
  funext e;refine (nai N b c d (VB (LZ N) a) e).trans ?_;rw[f];rfl
theorem cj2(N:Nat)(a:u)(b:Int)(x:u)(e:Int)(f:E→B)(d:Int)(c:u):UC N f (O8 a b x e d c)=lF Vm.lf Ym (λc g h i=>VB (LZ N) N (rJ c g h i)) a b x e (λd c=>f (O8 a b x e d c)) d c:=by kernel_rfl
theorem nzu(N:Nat)(a:u)(b:Int)(x:u)(e:Int)(c:Nat):(λf d=>VB (UC N) c (O8 a b x e f d))=Fi Vm.lf Ym N a b x e c:=by
 induction c with
 | zero=>rfl
 | succ c g=>
  funext f d;refine (cj2 N a b x e (VB (UC N) c) f d).trans ?_;have h:=funext λd=>funext λi=>funext λj=>nkK N d i j N;rw[h];rw[g];rfl
theorem nuF(N:Nat)(a:u)(size b:Int):dM hO rv N8 N f99 Y5 (.sl a::(.int size::(.int b::([]))))=jm Vm.lf Ym N a size b:=by
 have d:dM hO rv N8 N f99 Y5 (.sl a::(.int size::(.int b::([]))))=mS Vm.lf Ym (λx c e f=>VB (UC N) N (O8 a b x c e f)) a size b:=by kernel_rfl
 refine d.trans ?_;unfold jm;have g:(λx c e f=>VB (UC N) N (O8 a b x c e f))=(λx c=>Fi Vm.lf Ym N a b x c N):=by funext x c;exact nzu N a b x c N
 exact congrArg (λh=>mS Vm.lf Ym h a size b) g
theorem nFN:Np hO 99 Y5:=by refine a0 (A:=N8) nbj func99 λd c _=>?_;obtain⟨a,d,rfl,e,c⟩:=Tf c;obtain⟨size,d,rfl,_,c⟩:=Q_ c;obtain⟨b,rfl,_⟩:=Ap c;obtain⟨N,f⟩:=nD8 Vm.lf Ym a size b e;exact⟨N,((nuF N a size b).trans f).trans (by kernel_rfl)⟩
def cb:C:= {ps:=[⟨[.sl lU],false⟩,⟨v.ct,true⟩,⟨K,false⟩,⟨I.ct,true⟩,⟨sK,false⟩],rs:=[⟨[.own 9 sK],true⟩,⟨Zb,true⟩,⟨[.eV .bool],false⟩],fn:=λa=>(CY (df a 0) (v.nd a 1) (r a 2) (I.nd a 3) (Gi a 7),v.enc (RC (df a 0) (v.nd a 1) (r a 2) (I.nd a 3) (Gi a 7)).1++I.enc (RC (df a 0) (v.nd a 1) (r a 2) (I.nd a 3) (Gi a 7)).2.1++[.bool (RC (df a 0) (v.nd a 1) (r a 2) (I.nd a 3) (Gi a 7)).2.2])}
theorem nDY:Np hO 167 cb:=by refine R3 (Γ:=[(85,pE),(95,Cm),(180,v7),(182,Yx)]) (y nT (y nhV (y neE (y NC T)))) func167 λd a e=>?_;replace a:Q ((.sl lU)::(v.ct++(.i::(I.ct++sK)))) d:=a;obtain⟨list_,d,rfl,_,a⟩:=Tf a;obtain⟨m,d,rfl,_,a⟩:=v.nX a;obtain⟨b,d,rfl,_,a⟩:=Q_ a;obtain⟨r,d,rfl,_,a⟩:=I.nX a;obtain⟨c,rfl,_⟩:=Sd a;exact⟨0,Xy (nv0 Vm.lf (λf g h=>((true,v.enc f++I.enc g++[.bool h]):B)) list_ m b r c e)⟩
theorem nnc:Np hO 241 cb:=by refine R3 (Γ:=[(236,Ps),(237,uq),(240,Cm),(258,v7)]) (y nDI (y YH (y nbN (y nm1 T)))) func241 λd a e=>?_;replace a:Q ((.sl lU)::(v.ct++(.i::(I.ct++sK)))) d:=a;obtain⟨list_,d,rfl,_,a⟩:=Tf a;obtain⟨m,d,rfl,_,a⟩:=v.nX a;obtain⟨b,d,rfl,_,a⟩:=Q_ a;obtain⟨r,d,rfl,_,a⟩:=I.nX a;obtain⟨c,rfl,_⟩:=Sd a;exact⟨0,Xy (nD_ Vm.lf (λf g h=>((true,v.enc f++I.enc g++[.bool h]):B)) list_ m b r c e)⟩
def nuj:C:= {ps:=[⟨[.sl lU],false⟩,⟨v.ct,true⟩,⟨K,false⟩,⟨I.ct,true⟩,⟨[.sl sK],false⟩],rs:=[⟨[.own 9 sK],true⟩,⟨Zb,true⟩,⟨[.eV .bool],false⟩],fn:=λa=>(CY (df a 0) (v.nd a 1) (r a 2) (I.nd a 3) (df a 7),v.enc (R6 (df a 0) (v.nd a 1) (r a 2) (I.nd a 3) (df a 7)).1++I.enc (R6 (df a 0) (v.nd a 1) (r a 2) (I.nd a 3) (df a 7)).2.1++[.bool (R6 (df a 0) (v.nd a 1) (r a 2) (I.nd a 3) (df a 7)).2.2])}
def nsU:Ctx:=[(85,pE),(167,cb)]
theorem nd6:qk hO nsU:=y nT (y nDY T)
def nAn:List (Nat×YJ):=[(3, {cx:=[(0,.AH),(2,.AH),(6,.AH),(8,.AH),(10,.AH),(11,.AH),(13,.AH),(14,.AH),(21,.AH),(22,.AH),(23,.AH)],boxes:=[(384,[]),(512,[]),(640,[]),(704,[]),(832,[]),(896,[])]})]
def neF:v→I→Bool→B:=(λa b c=>((true,v.enc a++I.enc b++[.bool c]):B))
def nrJ(list_:u)(b:Int)(a:u)(Z q:Int)(r:u)(c d e f g h j k next l m o:Int)(s:u):E:= {n:=45,sl:=[(0,.sl lU list_),(2,p b),(6,.ptr 384 0),(8,.ptr 512 0),(10,.ptr 640 0),(11,.ptr 704 0),(13,.ptr 832 0),(14,.ptr 896 0),(21,.sl sK a),(22,p Z),(23,p q)],hp:=[(384,.box 26 [.sl sK r]),(512,.box 29 [p c,p d,p e,p f]),(640,.box 26 [.nil]),(704,.box 29 [p g,p h,p j,p k]),(832,.box 26 [.own 1492992]),(896,.box 29 [p next,p l,p m,p o]),(1492992,.row 9 sK s false true)]}
theorem nvl:Np hO 101 nuj:=by refine a0 (A:=nAn) nd6 func101 λd c o=>?_;replace c:Q ((.sl lU)::(v.ct++(.i::(I.ct++[.sl sK])))) d:=c;obtain⟨list_,d,rfl,_,c⟩:=Tf c;obtain⟨m,d,rfl,_,c⟩:=v.nX c;obtain⟨b,d,rfl,_,c⟩:=Q_ c;obtain⟨r,d,rfl,_,c⟩:=I.nX c;obtain⟨a,rfl,e⟩:=nh c;obtain⟨N,p⟩:=nL2 Vm.lf neF list_ m b r a e o;exact⟨N,BV (λq=>lP Vm.lf neF q list_ m b r a) (funext λs=>funext λt=>funext λf=>funext λg=>funext λh=>funext λj=>nf6 (n7 hO nsU nAn N f101 nuj [true,true,false,true,false] []) (λu next k l n Z=>nrJ list_ b a s u t f g h j 0 0 0 0 next k l n Z) _ N) p⟩
def nET:C:= {ps:=[⟨[.sl lU],false⟩,⟨v.ct,true⟩,⟨K,false⟩,⟨G.ct,true⟩,⟨[.sl K],false⟩,⟨sK,false⟩,⟨K,false⟩],rs:=[⟨[.own 9 sK],true⟩,⟨[.own 256 o9],false⟩,⟨[.eV .bool],false⟩],fn:=λa=>(Td (df a 0) (v.nd a 1) (r a 2) (G.nd a 3) (df a 7) (Gi a 8) (r a 9),v.enc (mi (df a 0) (v.nd a 1) (r a 2) (G.nd a 3) (df a 7) (Gi a 8) (r a 9)).1++[.sl (mi (df a 0) (v.nd a 1) (r a 2) (G.nd a 3) (df a 7) (Gi a 8) (r a 9)).2.1]++[.bool (mi (df a 0) (v.nd a 1) (r a 2) (G.nd a 3) (df a 7) (Gi a 8) (r a 9)).2.2]),ms:=[none,some (.kv [.flat 9]),none,none,none,none,none]}
def nfe:Ctx:=[(162,Zs),(163,UM)]
theorem spN:qk hO nfe:=y nxR (y uR T)
def nda:List (Nat×YJ):=[(3, {cx:=[(0,.AH),(1,.AH),(2,.AH),(5,.AH),(6,.AH),(8,.AH),(10,.AH),(14,.AH),(17,.AH),(24,.AH),(25,.AH),(26,.AH)],boxes:=[(512,[]),(640,[]),(896,[])]})]
def nv4:v→u→Bool→B:=(λa b c=>((true,v.enc a++[.sl b]++[.bool c]):B))
def nhs(list_:u)(a:Int)(e:x)(c:Int)(f:u)(g h j k l:Int)(m b d:u):E:= {n:=2199023255619,sl:=[(0,.sl lU list_),(1,.ga),(2,p a),(5,.str e),(6,p c),(8,.ptr 512 0),(10,.ptr 640 0),(14,.ptr 896 0),(17,.own 641088),(24,.sl K f),(25,p g),(26,p h)],hp:=[(512,.box 26 [.own 1411072]),(640,.box 32 [p j,p k,p l,.sl K m]),(896,.box 26 [.nil]),(641088,.row 256 o9 b false true),(1411072,.row 9 sK d false true)]}
theorem nzx:fh hO 98 nET:=by refine aq (A:=nda) spN func98 λd b l=>?_;replace b:Q ((.sl lU)::(v.ct++(.i::(G.ct++[.sl K,.str,.i])))) d:=b;obtain⟨list_,d,rfl,_,b⟩:=Tf b;obtain⟨m,d,rfl,_,b⟩:=v.nX b;obtain⟨a,d,rfl,_,b⟩:=Q_ b;obtain⟨p,d,rfl,_,b⟩:=G.nX b;obtain⟨f,d,rfl,g,b⟩:=Tf b;obtain⟨t,d,rfl,h,b⟩:=cO b;obtain⟨e,rfl,j⟩:=Ap b;obtain⟨N,n⟩:=ndW Vm.lf nv4 list_ m a p f t e g h j l;exact⟨N,BV (λo=>OB Vm.lf nv4 o list_ m a p f t e) (funext λq=>funext λs=>funext λu=>funext λZ=>funext λw=>nl3 (yS hO nfe nda N f98 nET [true,true,false,true,false] []) (λx y c k=>nhs list_ a x e f q y s u Z w c k) _ N) n⟩
def nc7:C:= {ps:=[⟨[.sl lU],false⟩,⟨v.ct,true⟩,⟨K,false⟩,⟨Co.ct,true⟩,⟨N.ct,true⟩,⟨K,false⟩,⟨K,false⟩],rs:=[⟨[.own 9 sK],true⟩,⟨As,true⟩,⟨[.eV .bool],false⟩],fn:=λa=>(sf (df a 0) (v.nd a 1) (r a 2) (Co.nd a 3) (N.nd a 13) (r a 29) (r a 30),v.enc (tY (df a 0) (v.nd a 1) (r a 2) (Co.nd a 3) (N.nd a 13) (r a 29) (r a 30)).1++Co.enc (tY (df a 0) (v.nd a 1) (r a 2) (Co.nd a 3) (N.nd a 13) (r a 29) (r a 30)).2.1++[.bool (tY (df a 0) (v.nd a 1) (r a 2) (Co.nd a 3) (N.nd a 13) (r a 29) (r a 30)).2.2])}
def nxq:Ctx:=[(1125899906842800,jh),(1125899906842801,jh),(23,Ou),(25,Y9),(60,Tb),(85,pE),(87,Eh),(94,vx),(95,Cm),(96,dF),(97,nhn),(98,nET),(99,Y5),(100,AB),(101,nuj)]
theorem nmP:qk hO nxq:=y o_ (y o_ (y UL (y mR (y We (y nT (y kS (y nhY (y nhV (y nFI (y nyP (y nzx (y nFN (y rM (y nvl T))))))))))))))
def nD0:List (Nat×YJ):=[(19, {cx:=[(0,.AH),(2,.AH),(10,.AH),(14,.AH),(15,.AH),(17,.AH),(18,.AH),(22,.AH),(24,.AH),(26,.AH),(28,.AH),(29,.AH),(139,.AH),(140,.AH),(141,.AH)],boxes:=[(512,[]),(640,[]),(704,[]),(896,[]),(960,[]),(1088,[]),(1152,[]),(1408,[]),(1664,[])]})]
def nj1:v→Co→Bool→B:=(λa b c=>((true,v.enc a++Co.enc b++[.bool c]):B))
def ntg(list_:u)(b:Int)(F abD:u)(G H:Int)(I:u)(c d e f g h j:Int)(k l:u)(J ae2 L M N O P Q R S T U V W X Y:Int)(m:x)(o abf q r s t aaz v Z w y z A B C D og qR qS qT qz qA qB qU:Int)(ql a VO Re adb xE rT UK:u):E:= {n:=186,sl:=[(0,.sl lU list_),(2,p b),(10,.ptr 640 0),(14,.ptr 896 0),(15,.ptr 960 0),(17,.ptr 1088 0),(18,.ptr 1152 0),(22,.ptr 1408 0),(24,.own 641536),(26,.ptr 1664 0),(28,.sl d_ F),(29,.own 641856),(139,.sl d_ abD),(140,p G),(141,p H)],hp:=[(512,.box 26 [.sl sK I]),(640,.box 35 [p c,p d,p e,p f,p g,p h,p j,.sl K k,.sl [.i,.i,.sl K] l,p J]),(704,.box 63 [p ae2,p L,p M,p N,p O,p P,p Q,p R,p S,p T,p U,p V,p W,p X,p Y,.str m]),(896,.box 26 [.nil]),(960,.box 35 [p o,p abf,p q,p r,p s,p t,p aaz,.nil,.nil,p v]),(1088,.box 26 [.own 1558528]),(1152,.box 35 [p Z,p w,p y,p z,p A,p B,p C,.own 1574919,.own 1574920,p D]),(1408,.box 35 [p og,p qR,p qS,p qT,p qz,p qA,p qB,.own 1640455,.own 1640456,p qU]),(1664,.box 26 [.own 1705984]),(641536,.row 3 K ql false true),(641856,.row 9 sK a false true),(1558528,.row 9 sK VO false true),(1574919,.row 3 K Re false true),(1574920,.deep 138 [.i,.i,.sl K] [3] adb none),(1640455,.row 3 K xE false true),(1640456,.deep 138 [.i,.i,.sl K] [3] rT none),(1705984,.row 9 sK UK false true)]}
theorem nhf:Np hO 43 nc7:=by refine a0 (A:=nD0) nmP func43 λd b w=>?_;replace b:Q ((.sl lU)::(v.ct++(.i::(Co.ct++(N.ct++o9))))) d:=b;obtain⟨list_,d,rfl,_,b⟩:=Tf b;obtain⟨m,d,rfl,_,b⟩:=v.nX b;obtain⟨a,d,rfl,_,b⟩:=Q_ b;obtain⟨q,d,rfl,_,b⟩:=Co.nX b;obtain⟨p,d,rfl,_,b⟩:=N.nX b;obtain⟨size,d,rfl,_,b⟩:=Q_ b;obtain⟨e,rfl,_⟩:=Ap b;obtain⟨X,y⟩:=nq7 Vm.lf nj1 list_ m a q p size e w;exact⟨X,BV (λz=>aH Vm.lf nj1 z list_ m a q p size e) (funext λB=>funext λx=>funext λC=>funext λf=>funext λg=>funext λh=>funext λj=>funext λD=>funext λE=>funext λk=>funext λl=>funext λn=>funext λo=>funext λs=>funext λt=>funext λu=>funext λY=>funext λG=>funext λH=>funext λI=>funext λJ=>funext λK=>funext λZ=>funext λL=>funext λM=>funext λO=>rm (n7 hO nxq nD0 X f43 nc7 [true,true,true,true,true,true,true,true,true,true,true,true,true,true,false,true,false] []) (λP c=>ntg list_ a B x C P m.a f g h j q.a.b q.a.a q.a.c q.a.d q.c D p.h p.i p.e p.f p.g p.c p.b p.d p.a.c p.a.f p.a.e p.a.d p.a.g p.a.b p.a.h p.a.a 0 0 0 0 0 0 0 0 E k l n o s t u (((F q).b).b) (((F q).b).a) (((F q).b).d) (((F q).b).c) Y G H ((F q).d) I c J K Z L M O) _ X) y⟩
def np6:C:= {ps:=[⟨z.ct,true⟩,⟨N.ct,true⟩,⟨K,false⟩,⟨K,false⟩],rs:=[⟨NS,true⟩,⟨[.eV .bool],false⟩],fn:=λa=>(tR (z.nd a 0) (N.nd a 33) (r a 49) (r a 50),z.enc (PK (z.nd a 0) (N.nd a 33) (r a 49) (r a 50)).1++[.bool (PK (z.nd a 0) (N.nd a 33) (r a 49) (r a 50)).2])}
theorem nxS:Np hO 15 np6:=by refine R3 (Γ:=[(9,Bw),(42,Yo),(43,nc7)]) (y tV (y QW (y nhf T))) func15 λb a d=>?_;replace a:Q (z.ct++(N.ct++o9)) b:=a;obtain⟨h,b,rfl,_,a⟩:=z.nX a;obtain⟨p,b,rfl,_,a⟩:=N.nX a;obtain⟨size,b,rfl,_,a⟩:=Q_ a;obtain⟨c,rfl,_⟩:=Ap a;exact⟨0,Xy (ntc Vm.lf (λe f=>((true,z.enc e++[.bool f]):B)) h p size c d)⟩
def RH:C:= {ps:=[⟨sK,false⟩],rs:=[⟨[.eV .i,.eV .i,.eV .i,.eV .i,.eV .i,.eV .i],true⟩,⟨[.eV .bool],false⟩],fn:=λa=>(true,Zz.enc (UX (Gi a 0)).1++[.bool (UX (Gi a 0)).2])}
theorem tT:Np hO 181 RH:=by refine R3 (Γ:=[(100,AB),(131,gW),(132,Wk)]) (y rM (y Ts (y qI T))) func181 λa b _=>?_;obtain⟨s,rfl,_⟩:=Sd b;exact⟨0,Xy (njD Vm.lf (λc d=>((true,Zz.enc c++[.bool d]):B)) s)⟩
def ch:C:= {ps:=[⟨[.sl lU],false⟩,⟨v.ct,true⟩,⟨K,false⟩,⟨I.ct,true⟩],rs:=[⟨[.eV .str],false⟩,⟨Zb,true⟩,⟨[.eV .bool],false⟩],fn:=λa=>(true,[.str (D0 (df a 0) (v.nd a 1) (r a 2) (I.nd a 3)).1]++I.enc (D0 (df a 0) (v.nd a 1) (r a 2) (I.nd a 3)).2.1++[.bool (D0 (df a 0) (v.nd a 1) (r a 2) (I.nd a 3)).2.2])}
theorem YP:Np hO 117 ch:=by refine R3 (Γ:=[(57,EX),(65,Xg),(122,Oy),(180,v7)]) (y PC (y Tg (y Rm (y neE T)))) func117 λc a _=>?_;replace a:Q ((.sl lU)::(v.ct++(.i::(I.ct++[])))) c:=a;obtain⟨list_,c,rfl,_,a⟩:=Tf a;obtain⟨m,c,rfl,_,a⟩:=v.nX a;obtain⟨b,c,rfl,_,a⟩:=Q_ a;obtain⟨r,c,rfl,_,a⟩:=I.nX a;obtain rfl:=fi a;exact⟨0,Xy (ntB Vm.lf (λd e f=>((true,[.str d]++I.enc e++[.bool f]):B)) list_ m b r)⟩
def yd:C:= {ps:=[⟨[.sl lU],false⟩,⟨v.ct,true⟩,⟨K,false⟩,⟨I.ct,true⟩],rs:=[⟨[.own 190 d_],false⟩,⟨Zb,true⟩,⟨[.eV .bool],false⟩],fn:=λa=>(true,[.sl (cN (df a 0) (v.nd a 1) (r a 2) (I.nd a 3)).1]++I.enc (cN (df a 0) (v.nd a 1) (r a 2) (I.nd a 3)).2.1++[.bool (cN (df a 0) (v.nd a 1) (r a 2) (I.nd a 3)).2.2])}
def nEi:Ctx:=[(57,EX),(117,ch),(122,Oy),(181,RH)]
theorem nfC:qk hO nEi:=y PC (y YP (y Rm (y tT T)))
def fhC:List (Nat×YJ):=[(6, {cx:=[(0,.AH),(2,.AH),(5,.AH),(7,.AH),(9,.AH),(11,.AH),(12,.AH)],boxes:=[(320,[]),(448,[]),(576,[]),(704,[])]})]
def nrE:u→I→Bool→B:=(λa b c=>((true,[.sl a]++I.enc b++[.bool c]):B))
def nwR(list_:u)(a:Int)(k:u)(c d e f l g h j b m o Z:Int)(q:u):E:= {n:=70,sl:=[(0,.sl lU list_),(2,p a),(5,.ptr 320 0),(7,.ptr 448 0),(9,.ptr 576 0),(11,.ptr 704 0),(12,.own 640768)],hp:=[(320,.box 26 [.sl sK k]),(448,.box 29 [p c,p d,p e,p f]),(576,.box 29 [p l,p g,p h,p j]),(704,.box 29 [p b,p m,p o,p Z]),(640768,.row 190 d_ q false true)]}
theorem ntS:Np hO 168 yd:=by refine a0 (A:=fhC) nfC func168 λd b _=>?_;replace b:Q ((.sl lU)::(v.ct++(.i::(I.ct++[])))) d:=b;obtain⟨list_,d,rfl,_,b⟩:=Tf b;obtain⟨m,d,rfl,_,b⟩:=v.nX b;obtain⟨a,d,rfl,_,b⟩:=Q_ b;obtain⟨r,d,rfl,_,b⟩:=I.nX b;obtain rfl:=fi b;obtain⟨N,j⟩:=nxM Vm.lf nrE list_ m a r;exact⟨N,BV (λk=>i_ Vm.lf nrE k list_ m a r) (funext λl=>funext λc=>funext λn=>funext λo=>funext λp=>WK (n7 hO nEi fhC N f168 yd [true,true,true,true,true,false,false] []) (λe f g h q=>nwR list_ a l e f g h 0 0 0 0 c n o p q) _ N) j⟩
def Vg:C:= {ps:=[⟨[.sl d_],false⟩],rs:=[⟨[.eV (.sl o9)],false⟩,⟨[.eV .i],false⟩,⟨[.eV .i],false⟩,⟨[.eV .bool],false⟩],fn:=λa=>(Q5 (df a 0),[.sl (N6 (df a 0)).1]++[.int (N6 (df a 0)).2.1]++[.int (N6 (df a 0)).2.2.1]++[.bool (N6 (df a 0)).2.2.2])}
def L5:Ctx:=[(99,Y5)]
theorem nhk:qk hO L5:=y nFN T
def yk:List (Nat×YJ):=[(5, {cx:=[(0,.AH),(6,.AH),(18,.AH),(19,.AH),(20,.AH)],boxes:=[]}),(14, {cx:=[(0,.AH),(6,.AH),(9,.AH),(10,.AH),(11,.AH),(51,.AH),(52,.AH)],boxes:=[]})]
def WL:u→Int→Int→Bool→B:=(λa b c d=>((true,[.sl a]++[.int b]++[.int c]++[.bool d]):B))
def lJ(list_ x:u)(b c:Int)(a:u):E:= {n:=68,sl:=[(0,.sl d_ list_),(6,.own 640384),(18,.sl d_ x),(19,p b),(20,p c)],hp:=[(640384,.row 256 o9 a false true)]}
def OC(list_ a:u)(size b:Int)(c:u)(d e:Int):E:= {n:=68,sl:=[(0,.sl d_ list_),(6,.sl o9 a),(9,p size),(10,p b),(11,.sl d_ c),(51,p d),(52,p e)],hp:=[]}
noncomputable def Zn(N:Nat):(E→B)→E→B:=n7 hO L5 yk N f169 Vg [true,true,true,true,true,true,true,false,true,false] []
noncomputable def Qp(N:Nat):(E→B)→E→B:=n7 hO L5 yk N f169 Vg [true,true,true,false,true,false] []
theorem cpN(N:Nat)(list_ a:u)(size b:Int)(c:u)(e:Int)(f:E→B)(d:Int):Zn N f (OC list_ a size b c e d)=aZ Vm.lf WL list_ a size b c e (λd=>f (OC list_ a size b c e d)) d:=by kernel_rfl
theorem ndh(N:Nat)(list_ a:u)(size b:Int)(c:u)(e:Int)(d:Nat):(λf=>VB (Zn N) d (OC list_ a size b c e f))=sM Vm.lf WL N list_ a size b c e d:=by
 induction d with
 | zero=>rfl
 | succ d g=>
  funext f;refine (cpN N list_ a size b c e (VB (Zn N) d) f).trans ?_;rw[g];rfl
theorem ndI(N:Nat)(list_ x:u)(e:Int)(f:E→B)(d:Int)(a:u):Qp N f (lJ list_ x e d a)=Cn Vm.lf WL (λa size b c g h=>VB (Zn N) N (OC list_ a size b c g h)) list_ x e (λd a=>f (lJ list_ x e d a)) d a:=by kernel_rfl
theorem nlR(N:Nat)(list_ x:u)(e:Int)(c:Nat):(λf a=>VB (Qp N) c (lJ list_ x e f a))=UT Vm.lf WL N list_ x e c:=by
 induction c with
 | zero=>rfl
 | succ c g=>
  funext f a;refine (ndI N list_ x e (VB (Qp N) c) f a).trans ?_;have h:=funext λa=>funext λsize=>funext λb=>funext λd=>funext λi=>ndh N list_ a size b d i N;rw[h];rw[g];rfl
theorem nuL(N:Nat)(list_:u):dM hO L5 yk N f169 Vg (.sl list_::([]))=QO Vm.lf WL N list_:=by
 have c:dM hO L5 yk N f169 Vg (.sl list_::([]))=gI Vm.lf WL (λx b d a=>VB (Qp N) N (lJ list_ x b d a)) list_:=by kernel_rfl
 refine c.trans ?_;unfold QO;have e:(λx b d a=>VB (Qp N) N (lJ list_ x b d a))=(λx b=>UT Vm.lf WL N list_ x b N):=by funext x b;exact nlR N list_ x b N
 exact congrArg (λf=>gI Vm.lf WL f list_) e
theorem nDN:Np hO 169 Vg:=by refine a0 (A:=yk) nhk func169 λa b aN=>?_;obtain⟨list_,rfl,c⟩:=nh b;obtain⟨N,d⟩:=nrG Vm.lf WL list_ c aN;exact⟨N,((nuL N list_).trans d).trans (by kernel_rfl)⟩
def PV:C:= {ps:=[⟨[.sl lU],false⟩,⟨v.ct,true⟩,⟨K,false⟩,⟨[.sl o9],false⟩],rs:=[⟨[.eV .str],false⟩,⟨[.eV .bool],false⟩],fn:=λa=>(true,[.str (U_ (df a 0) (v.nd a 1) (r a 2) (df a 3)).1]++[.bool (U_ (df a 0) (v.nd a 1) (r a 2) (df a 3)).2])}
def nfQ:Ctx:=[(65,Xg),(164,cH)]
theorem nqL:qk hO nfQ:=y Tg (y ngr T)
def nst:List (Nat×YJ):=[(5, {cx:=[(0,.AH),(2,.AH),(5,.AH),(10,.AH),(18,.AH),(19,.AH),(20,.AH)],boxes:=[(320,[])]})]
def nqH:x→Bool→B:=(λa b=>((true,[.str a]++[.bool b]):B))
def pF1(list_:u)(a:Int)(c:x)(b:u)(d e:Int)(f:u):E:= {n:=42,sl:=[(0,.sl lU list_),(2,p a),(5,.ptr 320 0),(10,.str c),(18,.sl o9 b),(19,p d),(20,p e)],hp:=[(320,.box 26 [.sl sK f])]}
theorem nvg:Np hO 170 PV:=by refine a0 (A:=nst) nqL func170 λd c _=>?_;replace c:Q ((.sl lU)::(v.ct++[.i,.sl o9])) d:=c;obtain⟨list_,d,rfl,_,c⟩:=Tf c;obtain⟨m,d,rfl,e,c⟩:=v.nX c;obtain⟨a,d,rfl,_,c⟩:=Q_ c;obtain⟨b,rfl,f⟩:=nh c;obtain⟨N,g⟩:=nhD Vm.lf nqH list_ m a b e f;exact⟨N,BV (λh=>nti Vm.lf nqH h list_ m a b) (funext λj=>funext λk=>rm (n7 hO nfQ nst N f170 PV [true,true,true,false,true,false] []) (λl n=>pF1 list_ a l b j n k) _ N) g⟩
def TB:C:= {ps:=[⟨sK,false⟩],rs:=[⟨[.eV .i,.eV .i,.eV .i,.eV .i,.eV .str],true⟩,⟨[.eV .bool],false⟩],fn:=λa=>(true,xW.enc (Ab (Gi a 0)).1++[.bool (Ab (Gi a 0)).2])}
theorem nct:Np hO 174 TB:=by refine R3 (Γ:=[(131,gW),(132,Wk),(223,Ox)]) (y Ts (y qI (y nqS T))) func174 λa b _=>?_;obtain⟨s,rfl,c⟩:=Sd b;exact⟨0,Xy (nqK Vm.lf (λd e=>((true,xW.enc d++[.bool e]):B)) s c)⟩
theorem nsF:Np hO 153 TB:=by refine R3 (Γ:=[(196,Ox),(210,mE),(211,Wk)]) (y nas (y Ep (y O9 T))) func153 λa b _=>?_;obtain⟨s,rfl,c⟩:=Sd b;exact⟨0,Xy (nss Vm.lf (λd e=>((true,xW.enc d++[.bool e]):B)) s c)⟩
def W1:C:= {ps:=[⟨sK,false⟩],rs:=[⟨[.eV .i,.eV .i,.eV .i,.eV .i,.eV .i,.eV .i,.eV .str],true⟩,⟨[.eV .bool],false⟩],fn:=λa=>(true,qw.enc (UP (Gi a 0)).1++[.bool (UP (Gi a 0)).2])}
theorem nob:Np hO 175 W1:=by refine R3 (Γ:=[(131,gW),(132,Wk),(213,bE)]) (y Ts (y qI (y ndo T))) func175 λa b _=>?_;obtain⟨s,rfl,c⟩:=Sd b;exact⟨0,Xy (nAe Vm.lf (λd e=>((true,qw.enc d++[.bool e]):B)) s c)⟩
theorem nkc:Np hO 154 W1:=by refine R3 (Γ:=[(135,bE),(210,mE),(211,Wk)]) (y nxc (y Ep (y O9 T))) func154 λa b _=>?_;obtain⟨s,rfl,c⟩:=Sd b;exact⟨0,Xy (nAe Vm.lf (λd e=>((true,qw.enc d++[.bool e]):B)) s c)⟩
def ln:C:= {ps:=[⟨K,false⟩,⟨K,false⟩,⟨K,false⟩,⟨sK,false⟩],rs:=[⟨nu9,true⟩,⟨[.eV .bool],false⟩],fn:=λa=>(true,EP.enc (kK (r a 0) (r a 1) (r a 2) (Gi a 3)).1++[.bool (kK (r a 0) (r a 1) (r a 2) (Gi a 3)).2])}
theorem nnE:Np hO 176 ln:=by refine R3 (Γ:=[(131,gW),(132,Wk),(212,Nm)]) (y Ts (y qI (y nEF T))) func176 λc a _=>?_;obtain⟨d,c,rfl,_,a⟩:=Q_ a;obtain⟨e,c,rfl,_,a⟩:=Q_ a;obtain⟨b,c,rfl,_,a⟩:=Q_ a;obtain⟨s,rfl,f⟩:=Sd a;exact⟨0,Xy (njH Vm.lf (λg h=>((true,EP.enc g++[.bool h]):B)) d e b s f)⟩
theorem nvW:Np hO 155 ln:=by refine R3 (Γ:=[(134,Nm),(210,mE),(211,Wk)]) (y nza (y Ep (y O9 T))) func155 λc a _=>?_;obtain⟨d,c,rfl,_,a⟩:=Q_ a;obtain⟨e,c,rfl,_,a⟩:=Q_ a;obtain⟨b,c,rfl,_,a⟩:=Q_ a;obtain⟨s,rfl,f⟩:=Sd a;exact⟨0,Xy (njH Vm.lf (λg h=>((true,EP.enc g++[.bool h]):B)) d e b s f)⟩
def QE:C:= {ps:=[⟨sK,false⟩],rs:=[⟨wU,true⟩,⟨[.eV .i],false⟩],fn:=λa=>(true,N.enc (BT (Gi a 0)).1++[.int (BT (Gi a 0)).2])}
theorem CK:Np hO 105 QE:=by refine R3 (Γ:=[(60,Tb),(174,TB),(175,W1),(176,ln)]) (y We (y nct (y nob (y nnE T)))) func105 λa b _=>?_;obtain⟨s,rfl,_⟩:=Sd b;exact⟨0,Xy (nyW (λc d=>((true,N.enc c++[.int d]):B)) s)⟩
theorem nbX:Np hO 82 QE:=by refine R3 (Γ:=[(133,Tb),(153,TB),(154,W1),(155,ln)]) (y c_ (y nsF (y nkc (y nvW T)))) func82 λa b _=>?_;obtain⟨s,rfl,_⟩:=Sd b;exact⟨0,Xy (nyW (λc d=>((true,N.enc c++[.int d]):B)) s)⟩
def OS:C:= {ps:=[⟨sK,false⟩],rs:=[⟨[.eV .str],false⟩],fn:=λa=>(U (Gi a 0),[.str (Yl (Gi a 0))])}
theorem nCC:Np hO 173 OS:=by refine R3 (Γ:=[(222,Tc)]) (y nyB T) func173 λa b aN=>?_;obtain⟨s,rfl,_⟩:=Sd b;exact⟨0,Xy (nD1 Vm.lf c5 s aN)⟩
theorem ni1:Np hO 71 OS:=by refine R3 (Γ:=[(138,Tc)]) (y nkQ T) func71 λa b aN=>?_;obtain⟨s,rfl,_⟩:=Sd b;exact⟨0,Xy (nD1 Vm.lf c5 s aN)⟩
def Wr:C:= {ps:=[⟨N.ct,true⟩],rs:=[⟨[.eV .str],false⟩,⟨[.eV .bool],false⟩],fn:=λa=>(true,[.str (YA (N.nd a 0)).1]++[.bool (YA (N.nd a 0)).2])}
theorem nhW:Np hO 250 Wr:=by refine R3 (Γ:=[(106,fa),(158,BJ),(173,OS)]) (y fF (y F7 (y nCC T))) func250 λb a _=>?_;obtain⟨p,b,rfl,_,a⟩:=N.nX a;obtain rfl:=fi a;exact⟨0,Xy (nxp Vm.lf (λc d=>((true,[.str c]++[.bool d]):B)) p)⟩
theorem naZ:Np hO 32 Wr:=by refine R3 (Γ:=[(69,fa),(70,BJ),(71,OS)]) (y nxD (y nxh (y ni1 T))) func32 λb a _=>?_;obtain⟨p,b,rfl,_,a⟩:=N.nX a;obtain rfl:=fi a;exact⟨0,Xy (npf Vm.lf (λc d=>((true,[.str c]++[.bool d]):B)) p)⟩
def br:C:= {ps:=[⟨[.sl t8],false⟩],rs:=[⟨[.own 9 sK],false⟩],fn:=λa=>(tB (df a 0),[.sl (ae (df a 0))])}
def nfZ:Ctx:=[(250,Wr)]
theorem nrd:qk hO nfZ:=y nhW T
def nbq:List (Nat×YJ):=[(3, {cx:=[(3,.AH),(9,.AH),(10,.AH),(11,.AH)],boxes:=[]})]
def nr8:u→B:=cu
def nc2(list_:u)(a b:Int)(c:u):E:= {n:=27,sl:=[(3,.own 640192),(9,.sl t8 list_),(10,p a),(11,p b)],hp:=[(640192,.row 9 sK c false true)]}
theorem nyr:Np hO 220 br:=by refine a0 (A:=nbq) nrd func220 λa b aN=>?_;obtain⟨list_,rfl,c⟩:=nh b;obtain⟨N,d⟩:=nx9 Vm.lf nr8 list_ c aN;exact⟨N,BV (λe=>vv Vm.lf nr8 e list_) (funext λf=>rm (n7 hO nfZ nbq N f220 br [true,true,false,true,false] []) (nc2 list_ f) _ N) d⟩
def Uz:C:= {ps:=[⟨N.ct,true⟩,⟨K,false⟩],rs:=[⟨[.own 63 t8],false⟩],fn:=λa=>(true,[.sl (Split (N.nd a 0) (r a 16))])}
def nim:Ctx:=[(25,Y9),(60,Tb)]
theorem nn6:qk hO nim:=y mR (y We T)
def nrT:List (Nat×YJ):=[(8, {cx:=[(1,.AH),(2,.AH),(5,.AH),(6,.AH),(7,.AH)],boxes:=[(128,[])]})]
def nwF:u→B:=cu
def nuD(size:Int)(a:x)(k c d e f g h j l m o Y q r s t:Int)(b:x)(Z:u):E:= {n:=88,sl:=[(1,p size),(2,.ptr 128 0),(5,.str a),(6,.own 640384),(7,p k)],hp:=[(128,.box 63 [p c,p d,p e,p f,p g,p h,p j,p l,p m,p o,p Y,p q,p r,p s,p t,.str b]),(640384,.row 63 t8 Z false true)]}
theorem nGu:Np hO 221 Uz:=by refine a0 (A:=nrT) nn6 func221 λc b _=>?_;obtain⟨p,c,rfl,_,b⟩:=N.nX b;obtain⟨size,rfl,_⟩:=Ap b;obtain⟨Z,d⟩:=ncS Vm.lf nwF p size;exact⟨Z,BV (λe=>njM Vm.lf nwF e p size) (funext λa=>funext λf=>funext λg=>funext λh=>funext λj=>funext λl=>funext λm=>funext λn=>funext λo=>funext λq=>funext λs=>funext λt=>funext λu=>funext λv=>funext λw=>funext λx=>rm (n7 hO nim nrT Z f221 Uz [true,true,true,true,true,false,true,false] []) (λk y=>nuD size a k f g h j l m n o q s t u v w x p.a.a y) _ Z) d⟩
def nax:C:= {ps:=[⟨N.ct,true⟩,⟨K,false⟩],rs:=[⟨[.own 9 sK],false⟩],fn:=λa=>(true,[.sl (cT (N.nd a 0) (r a 16))])}
theorem ner:Np hO 172 nax:=by refine R3 (Γ:=[(220,br),(221,Uz)]) (y nyr (y nGu T)) func172 λb a _=>?_;obtain⟨p,b,rfl,_,a⟩:=N.nX a;obtain⟨size,rfl,_⟩:=Ap a;exact⟨0,Xy (nBG Vm.lf cu p size)⟩
def ncM:C:= {ps:=[⟨K,false⟩,⟨K,false⟩],rs:=[⟨O_,true⟩,⟨[.eV .bool],false⟩],fn:=λa=>(true,Ue.enc (mW (r a 0) (r a 1)).1++[.bool (mW (r a 0) (r a 1)).2])}
theorem nd1:Np hO 144 ncM:=by refine R3 (Γ:=[(204,Ux)]) (y nlq T) func144 λd c _=>?_;obtain⟨a,d,rfl,_,c⟩:=Q_ c;obtain⟨b,rfl,_⟩:=Ap c;exact⟨0,Xy (ngT (λe f=>((true,Ue.enc e++[.bool f]):B)) a b)⟩
def xX:C:= {ps:=[⟨K,false⟩,⟨K,false⟩,⟨K,false⟩],rs:=[⟨ue,true⟩,⟨[.eV .bool],false⟩],fn:=λa=>(TY (r a 0) (r a 1) (r a 2),G.enc (bh (r a 0) (r a 1) (r a 2)).1++[.bool (bh (r a 0) (r a 1) (r a 2)).2])}
def nmg:Ctx:=[(235,fZ)]
theorem nhC:qk hO nmg:=y Gm T
def nvi:List (Nat×YJ):=[(3, {cx:=[(2,.AH),(6,.AH),(8,.AH),(9,.AH)],boxes:=[(384,[]),(512,[(3,.own 3)])]})]
def hrM:G→Bool→B:=(λa b=>((true,G.enc a++[.bool b]):B))
def nfS(a k d b c base size e:Int)(f:u):E:= {n:=34,sl:=[(2,p a),(6,.ptr 384 0),(8,.ptr 512 0),(9,p k)],hp:=[(384,.box 32 [p d,p b,p c,.nil]),(512,.box 32 [p base,p size,p e,.own 1411075]),(1411075,.row 3 K f false true)]}
theorem nvU:Np hO 207 xX:=by refine a0 (A:=nvi) nhC func207 λc b aN=>?_;obtain⟨base,c,rfl,_,b⟩:=Q_ b;obtain⟨size,c,rfl,_,b⟩:=Q_ b;obtain⟨a,rfl,_⟩:=Ap b;obtain⟨N,d⟩:=nCQ Vm.lf hrM base size a aN;exact⟨N,BV (λe=>rq Vm.lf hrM e base size a) (funext λf=>rm (n7 hO nmg nvi N f207 xX [true,true,false,true,false] []) (λk g=>nfS a k 0 0 0 base size f g) _ N) d⟩
def v5:C:= {ps:=[⟨[.sl lU],false⟩,⟨v.ct,true⟩,⟨K,false⟩,⟨I.ct,true⟩,⟨G.ct,true⟩],rs:=[⟨[.own 9 sK],true⟩,⟨Zb,true⟩,⟨ue,true⟩,⟨[.eV .i],false⟩],fn:=λa=>(p_ (df a 0) (v.nd a 1) (r a 2) (I.nd a 3) (G.nd a 7),v.enc (HJ (df a 0) (v.nd a 1) (r a 2) (I.nd a 3) (G.nd a 7)).1++I.enc (HJ (df a 0) (v.nd a 1) (r a 2) (I.nd a 3) (G.nd a 7)).2.1++G.enc (HJ (df a 0) (v.nd a 1) (r a 2) (I.nd a 3) (G.nd a 7)).2.2.1++[.int (HJ (df a 0) (v.nd a 1) (r a 2) (I.nd a 3) (G.nd a 7)).2.2.2])}
def nkW:Ctx:=[(27,fZ),(57,EX),(85,pE),(88,Qe),(93,wG),(100,AB),(163,UM),(167,cb)]
theorem njy:qk hO nkW:=y ye (y PC (y nT (y T6 (y Bu (y rM (y uR (y nDY T)))))))
def nsW:List (Nat×YJ):=[(6, {cx:=[(0,.AH),(2,.AH),(8,.AH),(9,.AH),(10,.AH),(11,.AH),(12,.AH),(14,.AH),(15,.AH),(16,.AH),(39,.AH),(40,.AH),(41,.AH)],boxes:=[(384,[]),(512,[]),(576,[]),(640,[]),(704,[]),(768,[]),(896,[]),(960,[])]})]
def niN:v→I→G→Int→B:=(λa b c d=>((true,v.enc a++I.enc b++G.enc c++[.int d]):B))
def nd4(list_:u)(a n:Int)(x:u)(l m:Int)(o:u)(b c d e Y q r:Int)(s:u)(f g h j k t Z v w y:Int)(z A:u):E:= {n:=80,sl:=[(0,.sl lU list_),(2,p a),(8,.ptr 512 0),(9,.ptr 576 0),(10,.ptr 640 0),(11,.ptr 704 0),(12,.ptr 768 0),(14,.ptr 896 0),(15,.ptr 960 0),(16,p n),(39,.sl K x),(40,p l),(41,p m)],hp:=[(384,.box 26 [.sl sK o]),(512,.box 29 [p b,p c,p d,p e]),(576,.box 32 [p Y,p q,p r,.sl K s]),(640,.box 26 [.nil]),(704,.box 29 [p f,p g,p h,p j]),(768,.box 32 [p k,p t,p Z,.nil]),(896,.box 26 [.own 1509376]),(960,.box 32 [p v,p w,p y,.own 1525763]),(1509376,.row 9 sK z false true),(1525763,.row 3 K A false true)]}
theorem nAh:Np hO 186 v5:=by refine a0 (A:=nsW) njy func186 λc b h=>?_;replace b:Q ((.sl lU)::(v.ct++(.i::(I.ct++(G.ct++[]))))) c:=b;obtain⟨list_,c,rfl,_,b⟩:=Tf b;obtain⟨m,c,rfl,_,b⟩:=v.nX b;obtain⟨a,c,rfl,_,b⟩:=Q_ b;obtain⟨r,c,rfl,_,b⟩:=I.nX b;obtain⟨p,c,rfl,_,b⟩:=G.nX b;obtain rfl:=fi b;obtain⟨N,j⟩:=nEx Vm.lf niN list_ m a r p h;exact⟨N,BV (λk=>nxN Vm.lf niN k list_ m a r p) (funext λx=>funext λl=>funext λo=>funext λq=>funext λs=>funext λt=>funext λu=>funext λZ=>funext λw=>dW (n7 hO nkW nsW N f186 v5 [true,true,true,true,false,true,false] []) (λn y d e f g z=>nd4 list_ a n x l y m.a d e f g o q s t 0 0 0 0 0 0 0 u Z w z ((F p).d)) _ N) j⟩
def nC5:Ctx:=[(235,fZ),(237,uq),(238,Qe),(239,EX),(240,Cm),(241,cb),(242,AB),(243,UM)]
theorem ni0:qk hO nC5:=y Gm (y YH (y nDr (y nq6 (y nbN (y nnc (y ngv (y nDW T)))))))
def ncx:List (Nat×YJ):=[(6, {cx:=[(0,.AH),(2,.AH),(8,.AH),(9,.AH),(10,.AH),(11,.AH),(12,.AH),(14,.AH),(15,.AH),(16,.AH)],boxes:=[(384,[]),(512,[]),(576,[]),(640,[]),(704,[]),(768,[]),(896,[]),(960,[])]})]
def nfB:v→I→G→Int→B:=(λa b c d=>((true,v.enc a++I.enc b++G.enc c++[.int d]):B))
def nzs(list_:u)(a n:Int)(l:u)(b c d e m o Y:Int)(q:u)(f g h j k r s t Z v:Int)(w x:u):E:= {n:=82,sl:=[(0,.sl lU list_),(2,p a),(8,.ptr 512 0),(9,.ptr 576 0),(10,.ptr 640 0),(11,.ptr 704 0),(12,.ptr 768 0),(14,.ptr 896 0),(15,.ptr 960 0),(16,p n)],hp:=[(384,.box 26 [.sl sK l]),(512,.box 29 [p b,p c,p d,p e]),(576,.box 32 [p m,p o,p Y,.sl K q]),(640,.box 26 [.nil]),(704,.box 29 [p f,p g,p h,p j]),(768,.box 32 [p k,p r,p s,.nil]),(896,.box 26 [.own 1509376]),(960,.box 32 [p t,p Z,p v,.own 1525763]),(1509376,.row 9 sK w false true),(1525763,.row 3 K x false true)]}
theorem nqd:Np hO 209 v5:=by refine a0 (A:=ncx) ni0 func209 λc b h=>?_;replace b:Q ((.sl lU)::(v.ct++(.i::(I.ct++(G.ct++[]))))) c:=b;obtain⟨list_,c,rfl,_,b⟩:=Tf b;obtain⟨m,c,rfl,_,b⟩:=v.nX b;obtain⟨a,c,rfl,_,b⟩:=Q_ b;obtain⟨r,c,rfl,_,b⟩:=I.nX b;obtain⟨p,c,rfl,_,b⟩:=G.nX b;obtain rfl:=fi b;obtain⟨N,j⟩:=nlj Vm.lf nfB list_ m a r p h;exact⟨N,BV (λk=>Se Vm.lf nfB k list_ m a r p) (funext λl=>funext λo=>funext λq=>funext λs=>funext λt=>funext λu=>funext λZ=>dW (n7 hO nC5 ncx N f209 v5 [true,true,true,true,true,false,false] []) (λn d e f g w x=>nzs list_ a n m.a d e f g l o q s 0 0 0 0 0 0 0 t u Z w x) _ N) j⟩
def neN:C:= {ps:=[],rs:=[⟨As,true⟩],fn:=λa=>(true,Co.enc TW)}
theorem nAR:Np hO 149 neN:=by refine R3 (Γ:=[(207,xX)]) (y nvU T) func149 λc a _=>?_;obtain rfl:=fi a;exact⟨0,Xy (nrZ Vm.lf (λb=>((true,Co.enc b):B)))⟩
def npW:C:= {ps:=[⟨z.ct,true⟩,⟨K,false⟩],rs:=[],fn:=λa=>(zl (z.nd a 0) (r a 33),z.enc (Yh (z.nd a 0) (r a 33))),ms:=[some (.cZ 54 [.flat 9,.flat 134,.flat 3,.deep 138 [3],.flat 74,.deep 32 [3],.flat 77,.flat 4,.flat 3,.flat 147,.flat 151,.flat 3,.flat 170,.flat 9,.flat 3,.flat 3]),none]}
def nkE:Ctx:=[(80,MK),(207,xX),(208,Zs),(209,v5)]
theorem nmE:qk hO nkE:=y lu (y nvU (y naO (y nqd T)))
theorem nyM:fh hO 152 npW:=by refine aq (A:=[]) nmE func152 λc a aN=>?_;obtain⟨h,c,rfl,b,a⟩:=z.nX a;obtain⟨k,rfl,_⟩:=Ap a;exact⟨0,Xy (nlL Vm.lf (λd=>((true,z.enc d):B)) h k b aN)⟩
def Qx:C:= {ps:=[⟨K,false⟩,⟨QD.ct,true⟩,⟨se.ct,true⟩,⟨Cl,false⟩,⟨K,false⟩,⟨K,false⟩],rs:=[⟨NS,true⟩,⟨[.eV .bool],false⟩],fn:=λa=>(OT (r a 0) (QD.nd a 1) (se.nd a 4) (Dd a 8) (r a 9) (r a 10),z.enc (Aw (r a 0) (QD.nd a 1) (se.nd a 4) (Dd a 8) (r a 9) (r a 10)).1++[.bool (Aw (r a 0) (QD.nd a 1) (se.nd a 4) (Dd a 8) (r a 9) (r a 10)).2])}
def Pt:Ctx:=[(1125899906842706,jh),(1125899906842707,jh),(144,ncM),(145,Y9),(146,NN),(147,YC),(148,YS),(149,neN),(150,bV),(151,KR),(152,npW)]
theorem nva:qk hO Pt:=y o_ (y o_ (y nd1 (y iH (y nb7 (y nih (y nn1 (y nAR (y naP (y nec (y nyM T))))))))))
def TC:List (Nat×YJ):=[(6, {cx:=[(0,.AH),(12,.AH),(14,.AH),(16,.AH),(17,.AH)],boxes:=[(448,[]),(512,[]),(768,[]),(896,[]),(1024,[(1,.own 134)])]}),(10, {cx:=[(0,.AH),(12,.AH),(14,.AH),(16,.AH),(18,.AH)],boxes:=[(448,[]),(512,[]),(768,[]),(896,[]),(1024,[(12,.own 74),(13,.deep 32 [3]),(14,.own 77),(15,.own 4),(23,.own 170),(25,.own 9),(26,.own 3),(27,.own 3)])]})]
def ay:z→Bool→B:=(λa b=>((true,z.enc a++[.bool b]):B))
def rI(d abg e:Int)(f:Bool)(g j k:u)(l:x)(m:u)(a o q r s t aaA w abE:Int)(y:Bool)(z:x)(A:Bool)(B C D ade F v G H I:Int)(J ae3:Bool)(h L b M N O P Q R:Int)(S:Bool)(T:x)(U:Bool)(V W X Y Z:Int)(c za wR uh qV qQ pR pT:u):E:= {n:=99,sl:=[(0,p d),(12,.ptr 768 0),(14,.ptr 896 0),(16,.ptr 1024 0),(17,p abg)],hp:=[(448,.box 41 [p e,.bool f,.sl K g]),(512,.box 49 [.sl uz j,.sl Zi k,.str l,.sl K m]),(768,.box 54 [.nil,.nil,p a,p o,p q,p r,p s,p t,p aaA,.nil,.nil,p w,.nil,.nil,.nil,.nil,p abE,.bool y,.nil,.nil,.nil,.str z,.nil,.nil,.bool A,.nil,.nil,.nil,p B,p C,p D,p ade,p F]),(896,.box 77 [p v,p G,p H,p I,.bool J,.bool ae3]),(1024,.box 54 [.own 1542144,.own 1542145,p h,p L,p b,p M,p N,p O,p P,.own 1542153,.own 1542154,p Q,.nil,.nil,.nil,.nil,p R,.bool S,.own 1542162,.own 1542163,.own 1542164,.str T,.own 1542166,.nil,.bool U,.nil,.nil,.nil,p V,p W,p X,p Y,p Z]),(1542144,.row 9 sK c false true),(1542145,.row 134 lU za false true),(1542153,.row 3 K wR false true),(1542154,.deep 138 [.i,.i,.sl K] [3] uh none),(1542162,.row 3 K qV false true),(1542163,.row 147 uz qQ false true),(1542164,.row 151 Zi pR false true),(1542166,.row 3 K pT false true)]}
def Sb(g k h:Int)(j:Bool)(l m o:u)(abh:x)(q:u)(a r s t aaB w abF y z:Int)(A:Bool)(B:x)(C:Bool)(D adf F G H v I J ae4:Int)(L M:Bool)(N O P Q R S T U V:Int)(W:Bool)(X:x)(Y:Bool)(Z b c d e:Int)(Zd Ze f TZ xL xM xN xO S7 T0 T3 T4 S8 S9 S_ Ta:u):E:= {n:=99,sl:=[(0,p g),(12,.ptr 768 0),(14,.ptr 896 0),(16,.ptr 1024 0),(18,p k)],hp:=[(448,.box 41 [p h,.bool j,.sl K l]),(512,.box 49 [.sl uz m,.sl Zi o,.str abh,.sl K q]),(768,.box 54 [.nil,.nil,p a,p r,p s,p t,p aaB,p w,p abF,.nil,.nil,p y,.nil,.nil,.nil,.nil,p z,.bool A,.nil,.nil,.nil,.str B,.nil,.nil,.bool C,.nil,.nil,.nil,p D,p adf,p F,p G,p H]),(896,.box 77 [p v,p I,p J,p ae4,.bool L,.bool M]),(1024,.box 54 [.own 1542144,.own 1542145,p N,p O,p P,p Q,p R,p S,p T,.own 1542153,.own 1542154,p U,.own 1542156,.own 1542157,.own 1542158,.own 1542159,p V,.bool W,.own 1542162,.own 1542163,.own 1542164,.str X,.own 1542166,.own 1542167,.bool Y,.own 1542169,.own 1542170,.own 1542171,p Z,p b,p c,p d,p e]),(1542144,.row 9 sK Zd false true),(1542145,.row 134 lU Ze false true),(1542153,.row 3 K f false true),(1542154,.deep 138 [.i,.i,.sl K] [3] TZ none),(1542156,.row 74 au xL false true),(1542157,.deep 32 [.i,.i,.i,.sl K] [3] xM none),(1542158,.row 77 EJ xN false true),(1542159,.row 4 Cl xO false true),(1542162,.row 3 K S7 false true),(1542163,.row 147 uz T0 false true),(1542164,.row 151 Zi T3 false true),(1542166,.row 3 K T4 false true),(1542167,.row 170 qJ S8 false true),(1542169,.row 9 sK S9 false true),(1542170,.row 3 K S_ false true),(1542171,.row 3 K Ta false true)]}
noncomputable def lH(N:Nat):(E→B)→E→B:=n7 hO Pt TC N f77 Qx [true,true,true,true,true,false,true,false] []
noncomputable def cm(N:Nat):(E→B)→E→B:=n7 hO Pt TC N f77 Qx [true,true,true,true,false,true,false] []
theorem nna(N:Nat)(K R:Int)(S:Bool)(T U V:u)(W:x)(X:u)(f Y Z Wt Wu Wv Ww Wx Wy:Int)(Wz:Bool)(Qg:x)(Qh:Bool)(Qi Qj Qk Ql Qm v L M O:Int)(P Q:Bool)(ih:E→B)(k g h i j l m n o p:Int)(q:Bool)(r:x)(s:Bool)(t a b c d:Int)(aaC w e abG y z A acN C D adg F G H I J:u):lH N ih (Sb K k R S T U V W X f Y Z Wt Wu Wv Ww Wx Wy Wz Qg Qh Qi Qj Qk Ql Qm v L M O P Q g h i j l m n o p q r s t a b c d aaC w e abG y z A acN C D adg F G H I J)=NR Vm.lf ay K v L M O P Q (λk g h i j l m n o p q r s t a b c d aaC w e abG y z A acN C D adg F G H I J=>ih (Sb K k R S T U V W X f Y Z Wt Wu Wv Ww Wx Wy Wz Qg Qh Qi Qj Qk Ql Qm v L M O P Q g h i j l m n o p q r s t a b c d aaC w e abG y z A acN C D adg F G H I J)) k g h i j l m n o p q r s t a b c d aaC w e abG y z A acN C D adg F G H I J:=by kernel_rfl
theorem nkt(N:Nat)(h S:Int)(T:Bool)(U V W:u)(X:x)(Y:u)(f Z RW Wt Wu Wv Ww Wx Wy:Int)(Wz:Bool)(Qg:x)(Qh:Bool)(Qi Qj Qk Ql Qm v i j l:Int)(m n:Bool)(g:Nat):(λk o p q r s t aaD w abH y z A B a b c d C D e E F G H I J K L M O P Q R=>VB (lH N) g (Sb h k S T U V W X Y f Z RW Wt Wu Wv Ww Wx Wy Wz Qg Qh Qi Qj Qk Ql Qm v i j l m n o p q r s t aaD w abH y z A B a b c d C D e E F G H I J K L M O P Q R))=ZV Vm.lf ay N h v i j l m n g:=by
 induction g with
 | zero=>rfl
 | succ g ih=>
  funext k o p q r s t aaD w abH y z A B a b c d C D e E F G H I J K L M O P Q R;refine (nna N h S T U V W X Y f Z RW Wt Wu Wv Ww Wx Wy Wz Qg Qh Qi Qj Qk Ql Qm v i j l m n (VB (lH N) g) k o p q r s t aaD w abH y z A B a b c d C D e E F G H I J K L M O P Q R).trans ?_;rw[ih];rfl
theorem niT(N:Nat)(d m:Int)(n:Bool)(o q r:u)(s:x)(t:u)(a aaE w abI y z A acO C:Int)(D:Bool)(adh:x)(F:Bool)(G H I J K v e f g:Int)(i j:Bool)(h L b M O P Q R S:Int)(T:Bool)(U:x)(V:Bool)(W X Y Z qP:Int)(c wR uh qV qQ pR pT:u)(ih:E→B)(p:Int)(l:u):cm N ih (rI d p m n o q r s t a aaE w abI y z A acO C D adh F G H I J K v e f g i j h L b M O P Q R S T U V W X Y Z qP c l wR uh qV qQ pR pT)=UZ Vm.lf ay (λk rE qE qy rz sF rf rh rA rF rG rN rH uo nnF nnG nnH nnI Zd Ze nba TZ xL xM xN xO S7 T0 T3 T4 S8 S9 S_ Ta=>VB (lH N) N (Sb d k m n o q r s t a aaE w abI y z A acO C D adh F G H I J K v e f g i j rE qE qy rz sF rf rh rA rF rG rN rH uo nnF nnG nnH nnI Zd Ze nba TZ xL xM xN xO S7 T0 T3 T4 S8 S9 S_ Ta)) d v e f g i j h L b M O P Q R S T U V W X Y Z qP c wR uh qV qQ pR pT (λp l=>ih (rI d p m n o q r s t a aaE w abI y z A acO C D adh F G H I J K v e f g i j h L b M O P Q R S T U V W X Y Z qP c l wR uh qV qQ pR pT)) p l:=by kernel_rfl
theorem nvs(N:Nat)(e l:Int)(m:Bool)(n o q:u)(r:x)(s:u)(a t aaF w abJ y z A B:Int)(C:Bool)(D:x)(E:Bool)(F G H I J v f g i:Int)(j k:Bool)(h K b L M O P Q R:Int)(S:Bool)(T:x)(U:Bool)(V W X Y Z:Int)(c wR uh qV qQ pR pT:u)(d:Nat):(λp za=>VB (cm N) d (rI e p l m n o q r s a t aaF w abJ y z A B C D E F G H I J v f g i j k h K b L M O P Q R S T U V W X Y Z c za wR uh qV qQ pR pT))=ZT Vm.lf ay N e v f g i j k h K b L M O P Q R S T U V W X Y Z c wR uh qV qQ pR pT d:=by
 induction d with
 | zero=>rfl
 | succ d ih=>
  funext p za;refine (niT N e l m n o q r s a t aaF w abJ y z A B C D E F G H I J v f g i j k h K b L M O P Q R S T U V W X Y Z c wR uh qV qQ pR pT (VB (cm N) d) p za).trans ?_;have e1:=nkt N e l m n o q r s a t aaF w abJ y z A B C D E F G H I J v f g i j k N;rw[e1];rw[ih];rfl
theorem nwN(N:Nat)(g:Int)(a:QD)(c:se)(i:Bool)(b d:Int):dM hO Pt TC N f77 Qx (.int g::(a.enc++(c.enc++(.bool i::(.int b::(.int d::([])))))))=bn Vm.lf ay N g a c i b d:=by
 have K:dM hO Pt TC N f77 Qx (.int g::(a.enc++(c.enc++(.bool i::(.int b::(.int d::([])))))))=xG Vm.lf ay (λv j k l m n h o e q r s t u w x y z A B C D f E F G H I J p L=>VB (cm N) N (rI g p a.b a.c a.a c.c c.a.a c.b.b c.b.a 0 0 0 0 0 0 0 0 0 false [] false 0 0 0 0 0 v j k l m n h o e q r s t u w x y i z A B C D f L E F G H I J)) g a c i b d:=by kernel_rfl
 refine K.trans ?_;unfold bn;have M:(λv j k l m n h o e q r s t u w x y z A B C D f E F G H I J p L=>VB (cm N) N (rI g p a.b a.c a.a c.c c.a.a c.b.b c.b.a 0 0 0 0 0 0 0 0 0 false [] false 0 0 0 0 0 v j k l m n h o e q r s t u w x y i z A B C D f L E F G H I J))=(λv j k l m n h o e q r s t u w x y z A B C D f E F G H I J=>ZT Vm.lf ay N g v j k l m n h o e q r s t u w x y i z A B C D f E F G H I J N):=by funext v j k l m n h o e q r s t u w x y z A B C D f E F G H I J;exact nvs N g a.b a.c a.a c.c c.a.a c.b.b c.b.a 0 0 0 0 0 0 0 0 0 false [] false 0 0 0 0 0 v j k l m n h o e q r s t u w x y i z A B C D f E F G H I J N
 exact congrArg (λO=>xG Vm.lf ay O g a c i b d) M
theorem nCK:Np hO 77 Qx:=by refine a0 (A:=TC) nva func77 λe b j=>?_;replace b:Q (.i::(QD.ct++(se.ct++[.bool,.i,.i]))) e:=b;obtain⟨f,e,rfl,_,b⟩:=Q_ b;obtain⟨a,e,rfl,_,b⟩:=QD.nX b;obtain⟨g,e,rfl,_,b⟩:=se.nX b;obtain⟨h,e,rfl,_,b⟩:=tW b;obtain⟨c,e,rfl,_,b⟩:=Q_ b;obtain⟨d,rfl,_⟩:=Ap b;obtain⟨N,k⟩:=ny4 Vm.lf ay f a g h c d j;exact⟨N,((nwN N f a g h c d).trans k).trans (by kernel_rfl)⟩
def CX:C:= {ps:=[⟨Ja.ct,true⟩],rs:=[⟨[.eV .bool],false⟩],fn:=λa=>(true,[.bool (tQ (Ja.nd a 0))])}
theorem npg:Np hO 227 CX:=by refine R3 (Γ:=[(25,Y9)]) (y mR T) func227 λb a _=>?_;obtain⟨x,b,rfl,_,a⟩:=Ja.nX a;obtain rfl:=fi a;exact⟨0,Xy (nqb bX x)⟩
def rxP:C:= {ps:=[⟨Ja.ct,true⟩,⟨K,false⟩],rs:=[⟨[.eV .str],false⟩],fn:=λa=>(true,[.str (eM (Ja.nd a 0) (r a 5))])}
theorem nE0:Np hO 228 rxP:=by refine R3 (Γ:=[(25,Y9),(161,QN),(166,VQ),(227,CX)]) (y mR (y E6 (y DI (y npg T)))) func228 λc b _=>?_;obtain⟨x,c,rfl,_,b⟩:=Ja.nX b;obtain⟨a,rfl,_⟩:=Ap b;exact⟨0,Xy (nkY Vm.lf c5 x a)⟩
def Oe:C:= {ps:=[⟨N.ct,true⟩],rs:=[⟨dw,true⟩],fn:=λa=>(true,Ve.enc (Ng (N.nd a 0)))}
theorem HK:Np hO 110 Oe:=by refine R3 T func110 λb a _=>?_;obtain⟨p,b,rfl,_,a⟩:=N.nX a;obtain rfl:=fi a;exact⟨0,Xy (nu1 (λc=>((true,Ve.enc c):B)) p)⟩
theorem nrP:Np hO 83 Oe:=by refine R3 T func83 λb a _=>?_;obtain⟨p,b,rfl,_,a⟩:=N.nX a;obtain rfl:=fi a;exact⟨0,Xy (nu1 (λc=>((true,Ve.enc c):B)) p)⟩
def no1:C:= {ps:=[⟨Ve.ct,true⟩],rs:=[⟨[.eV .str],false⟩],fn:=λa=>(true,[.str (WQ (Ve.nd a 0))])}
theorem ny1:Np hO 226 no1:=by refine R3 (Γ:=[(161,QN),(166,VQ)]) (y E6 (y DI T)) func226 λb a _=>?_;obtain⟨f,b,rfl,_,a⟩:=Ve.nX a;obtain rfl:=fi a;exact⟨0,Xy (nkN Vm.lf c5 f)⟩
def nFR:C:= {ps:=[⟨Ue.ct,true⟩],rs:=[⟨O_,true⟩],fn:=λa=>(true,Ue.enc (Uw (Ue.nd a 0)))}
theorem npa:Np hO 116 nFR:=by refine R3 (Γ:=[(28,Ux),(119,aP)]) (y OX (y BX T)) func116 λb a _=>?_;obtain⟨v,b,rfl,_,a⟩:=Ue.nX a;obtain rfl:=fi a;exact⟨0,Xy (nr4 (λc=>((true,Ue.enc c):B)) v)⟩
def Rl:C:= {ps:=[⟨sK,false⟩,⟨K,false⟩],rs:=[⟨[.eV .i],false⟩],fn:=λa=>(pX (Gi a 0) (r a 1),[.int (nV (Gi a 0) (r a 1))])}
theorem nzG:Np hO 251 Rl:=by refine R3 T func251 λc a aN=>?_;obtain⟨s,c,rfl,d,a⟩:=cO a;obtain⟨i,rfl,b⟩:=Ap a;exact⟨0,Xy (nBT Vm.lf cp s i d b aN)⟩
def fj:C:= {ps:=[⟨sK,false⟩,⟨K,false⟩],rs:=[⟨[.eV .i],false⟩],fn:=λa=>(true,[.int (af (Gi a 0) (r a 1))])}
def nqR:Ctx:=[(25,Y9),(251,Rl)]
theorem nvk:qk hO nqR:=y mR (y nzG T)
def nB2:List (Nat×YJ):=[(5, {cx:=[(0,.AH),(1,.AH),(5,.AH),(6,.AH)],boxes:=[]})]
def nvF:Int→B:=cp
def nnD(key:x)(a n i:Int):E:= {n:=29,sl:=[(0,.str key),(1,p a),(5,p n),(6,p i)],hp:=[]}
theorem nyT:Np hO 252 fj:=by refine a0 (A:=nB2) nvk func252 λc b _=>?_;obtain⟨key,c,rfl,_,b⟩:=cO b;obtain⟨a,rfl,_⟩:=Ap b;obtain⟨N,d⟩:=nb8 Vm.lf nvF key a;exact⟨N,BV (λe=>fO Vm.lf nvF e key a) (rm (n7 hO nqR nB2 N f252 fj [true,true,true,false,true,false] []) (nnD key a) _ N) d⟩
def DP:C:= {ps:=[⟨sK,false⟩,⟨sK,false⟩],rs:=[⟨[.eV .i],false⟩],fn:=λa=>(true,[.int (kf (Gi a 0) (Gi a 1))])}
def njW:Ctx:=[(251,Rl),(252,fj)]
theorem swW:qk hO njW:=y nzG (y nyT T)
def nex:List (Nat×YJ):=[(5, {cx:=[(0,.AH),(1,.AH),(5,.AH),(6,.AH)],boxes:=[]})]
def nfT:Int→B:=cp
def nbx(key a:x)(h i:Int):E:= {n:=32,sl:=[(0,.str key),(1,.str a),(5,p h),(6,p i)],hp:=[]}
theorem faF:Np hO 225 DP:=by refine a0 (A:=nex) swW func225 λd b _=>?_;obtain⟨key,d,rfl,_,b⟩:=cO b;obtain⟨a,rfl,c⟩:=Sd b;obtain⟨N,e⟩:=niE Vm.lf nfT key a c;exact⟨N,BV (λf=>bw Vm.lf nfT f key a) (rm (n7 hO njW nex N f225 DP [true,true,true,false,true,false] []) (nbx key a) _ N) e⟩
def II:C:= {ps:=[⟨sK,false⟩,⟨Ve.ct,true⟩],rs:=[⟨[.eV .i],false⟩],fn:=λa=>(true,[.int (NK (Gi a 0) (Ve.nd a 1))])}
theorem Rp:Np hO 183 II:=by refine R3 (Γ:=[(225,DP),(226,no1)]) (y faF (y ny1 T)) func183 λb a _=>?_;obtain⟨key,b,rfl,_,a⟩:=cO a;obtain⟨f,b,rfl,_,a⟩:=Ve.nX a;obtain rfl:=fi a;exact⟨0,Xy (nL6 cp key f)⟩
def oO:C:= {ps:=[⟨CI.ct,true⟩],rs:=[⟨[.eV .i],false⟩],fn:=λa=>(true,[.int (PW (CI.nd a 0))])}
theorem na7:Np hO 68 oO:=by refine R3 T func68 λb a _=>?_;obtain⟨q,b,rfl,_,a⟩:=CI.nX a;obtain rfl:=fi a;exact⟨0,Xy (npd cp q)⟩
def E0:C:= {ps:=[⟨CI.ct,true⟩],rs:=[⟨[.eV .i],false⟩],fn:=λa=>(dq (CI.nd a 0),[.int (WC (CI.nd a 0))])}
theorem nuG:Np hO 66 E0:=by refine R3 T func66 λb a aN=>?_;obtain⟨q,b,rfl,_,a⟩:=CI.nX a;obtain rfl:=fi a;exact⟨0,Xy (nz0 Vm.lf cp q aN)⟩
def QG:C:= {ps:=[⟨[.sl lU],false⟩,⟨v.ct,true⟩,⟨K,false⟩,⟨CI.ct,true⟩,⟨Ja.ct,true⟩],rs:=[⟨[.own 9 sK],true⟩,⟨[.eV .i,.eV .i,.eV .i],true⟩,⟨[.eV .bool],false⟩],fn:=λa=>(TF (df a 0) (v.nd a 1) (r a 2) (CI.nd a 3) (Ja.nd a 6),v.enc (Yi (df a 0) (v.nd a 1) (r a 2) (CI.nd a 3) (Ja.nd a 6)).1++CI.enc (Yi (df a 0) (v.nd a 1) (r a 2) (CI.nd a 3) (Ja.nd a 6)).2.1++[.bool (Yi (df a 0) (v.nd a 1) (r a 2) (CI.nd a 3) (Ja.nd a 6)).2.2])}
theorem nvJ:Np hO 184 QG:=by refine R3 (Γ:=[(59,Zl),(66,E0),(68,oO),(85,pE),(182,Yx),(227,CX),(228,rxP)]) (y nC0 (y nuG (y na7 (y nT (y NC (y npg (y nE0 T))))))) func184 λc a d=>?_;replace a:Q ((.sl lU)::(v.ct++(.i::(CI.ct++(Ja.ct++[]))))) c:=a;obtain⟨list_,c,rfl,_,a⟩:=Tf a;obtain⟨m,c,rfl,_,a⟩:=v.nX a;obtain⟨b,c,rfl,_,a⟩:=Q_ a;obtain⟨q,c,rfl,_,a⟩:=CI.nX a;obtain⟨x,c,rfl,_,a⟩:=Ja.nX a;obtain rfl:=fi a;exact⟨0,Xy (niM Vm.lf (λe f g=>((true,v.enc e++CI.enc f++[.bool g]):B)) list_ m b q x d)⟩
def dsA:C:= {ps:=[⟨[.sl lU],false⟩,⟨v.ct,true⟩,⟨K,false⟩,⟨S.ct,true⟩,⟨sK,false⟩,⟨sK,false⟩],rs:=[⟨[.eV (.sl sK)],true⟩,⟨[.eV .i,.eV .i,.eV .i],true⟩,⟨[.eV .bool],false⟩],fn:=λa=>(NP (df a 0) (v.nd a 1) (r a 2) (S.nd a 3) (Gi a 33) (Gi a 34),v.enc (jt (df a 0) (v.nd a 1) (r a 2) (S.nd a 3) (Gi a 33) (Gi a 34)).1++CI.enc (jt (df a 0) (v.nd a 1) (r a 2) (S.nd a 3) (Gi a 33) (Gi a 34)).2.1++[.bool (jt (df a 0) (v.nd a 1) (r a 2) (S.nd a 3) (Gi a 33) (Gi a 34)).2.2])}
theorem nu7:Np hO 118 dsA:=by refine R3 (Γ:=[(110,Oe),(158,BJ),(181,RH),(182,Yx),(183,II),(184,QG)]) (y HK (y F7 (y tT (y NC (y Rp (y nvJ T)))))) func118 λd a e=>?_;replace a:Q ((.sl lU)::(v.ct++(.i::(S.ct++[.str,.str])))) d:=a;obtain⟨list_,d,rfl,_,a⟩:=Tf a;obtain⟨m,d,rfl,_,a⟩:=v.nX a;obtain⟨b,d,rfl,_,a⟩:=Q_ a;obtain⟨q,d,rfl,_,a⟩:=S.nX a;obtain⟨key,d,rfl,_,a⟩:=cO a;obtain⟨c,rfl,_⟩:=Sd a;exact⟨0,Xy (nb0 Vm.lf (λf g h=>((true,v.enc f++CI.enc g++[.bool h]):B)) list_ m b q key c e)⟩
def nxd:C:= {ps:=[⟨[.sl lU],false⟩,⟨v.ct,true⟩,⟨K,false⟩,⟨S.ct,true⟩,⟨sK,false⟩,⟨sK,false⟩],rs:=[⟨[.own 9 sK],true⟩,⟨[.eV .i,.eV .i,.eV .i],true⟩,⟨[.eV .bool],false⟩],fn:=λa=>(VI (df a 0) (v.nd a 1) (r a 2) (S.nd a 3) (Gi a 33) (Gi a 34),v.enc (jt (df a 0) (v.nd a 1) (r a 2) (S.nd a 3) (Gi a 33) (Gi a 34)).1++CI.enc (jt (df a 0) (v.nd a 1) (r a 2) (S.nd a 3) (Gi a 33) (Gi a 34)).2.1++[.bool (jt (df a 0) (v.nd a 1) (r a 2) (S.nd a 3) (Gi a 33) (Gi a 34)).2.2])}
theorem nB9:Np hO 118 nxd:=by refine R3 (Γ:=[(110,Oe),(158,BJ),(181,RH),(182,Yx),(183,II),(184,QG)]) (y HK (y F7 (y tT (y NC (y Rp (y nvJ T)))))) func118 λd a e=>?_;replace a:Q ((.sl lU)::(v.ct++(.i::(S.ct++[.str,.str])))) d:=a;obtain⟨list_,d,rfl,_,a⟩:=Tf a;obtain⟨m,d,rfl,_,a⟩:=v.nX a;obtain⟨b,d,rfl,_,a⟩:=Q_ a;obtain⟨q,d,rfl,_,a⟩:=S.nX a;obtain⟨key,d,rfl,_,a⟩:=cO a;obtain⟨c,rfl,_⟩:=Sd a;exact⟨0,Xy (veD Vm.lf (λf g h=>((true,v.enc f++CI.enc g++[.bool h]):B)) list_ m b q key c e)⟩
def nji:C:= {ps:=[⟨[.sl lU],false⟩,⟨v.ct,true⟩,⟨K,false⟩,⟨S.ct,true⟩,⟨sK,false⟩],rs:=[⟨[.own 9 sK],true⟩,⟨tC,true⟩],fn:=λa=>(fJ (df a 0) (v.nd a 1) (r a 2) (S.nd a 3) (Gi a 33),v.enc (Wd (df a 0) (v.nd a 1) (r a 2) (S.nd a 3) (Gi a 33)).1++S.enc (Wd (df a 0) (v.nd a 1) (r a 2) (S.nd a 3) (Gi a 33)).2)}
theorem noi:Np hO 51 nji:=by refine R3 (Γ:=[(26,xR),(85,pE),(117,ch),(118,nxd)]) (y PL (y nT (y YP (y nB9 T)))) func51 λc a d=>?_;replace a:Q ((.sl lU)::(v.ct++(.i::(S.ct++sK)))) c:=a;obtain⟨list_,c,rfl,_,a⟩:=Tf a;obtain⟨m,c,rfl,_,a⟩:=v.nX a;obtain⟨b,c,rfl,_,a⟩:=Q_ a;obtain⟨q,c,rfl,_,a⟩:=S.nX a;obtain⟨key,rfl,_⟩:=Sd a;exact⟨0,Xy (nvT Vm.lf (λe f=>((true,v.enc e++S.enc f):B)) list_ m b q key d)⟩
def nt0:C:= {ps:=[⟨[.sl lU],false⟩,⟨v.ct,true⟩,⟨K,false⟩,⟨S.ct,true⟩,⟨sK,false⟩],rs:=[⟨[.own 9 sK],true⟩,⟨tC,true⟩],fn:=λa=>(SS (df a 0) (v.nd a 1) (r a 2) (S.nd a 3) (Gi a 33),v.enc (Wd (df a 0) (v.nd a 1) (r a 2) (S.nd a 3) (Gi a 33)).1++S.enc (Wd (df a 0) (v.nd a 1) (r a 2) (S.nd a 3) (Gi a 33)).2)}
theorem ndp:Np hO 51 nt0:=by refine R3 (Γ:=[(26,xR),(85,pE),(117,ch),(118,dsA)]) (y PL (y nT (y YP (y nu7 T)))) func51 λc a d=>?_;replace a:Q ((.sl lU)::(v.ct++(.i::(S.ct++sK)))) c:=a;obtain⟨list_,c,rfl,_,a⟩:=Tf a;obtain⟨m,c,rfl,_,a⟩:=v.nX a;obtain⟨b,c,rfl,_,a⟩:=Q_ a;obtain⟨q,c,rfl,_,a⟩:=S.nX a;obtain⟨key,rfl,_⟩:=Sd a;exact⟨0,Xy (nEf Vm.lf (λe f=>((true,v.enc e++S.enc f):B)) list_ m b q key d)⟩
def Fg:C:= {ps:=[⟨[.sl lU],false⟩,⟨v.ct,true⟩,⟨K,false⟩,⟨S.ct,true⟩,⟨sK,false⟩],rs:=[⟨[.own 9 sK],true⟩,⟨tC,true⟩],fn:=λa=>(aX (df a 0) (v.nd a 1) (r a 2) (S.nd a 3) (Gi a 33),v.enc (Wd (df a 0) (v.nd a 1) (r a 2) (S.nd a 3) (Gi a 33)).1++S.enc (Wd (df a 0) (v.nd a 1) (r a 2) (S.nd a 3) (Gi a 33)).2)}
theorem ne4:Np hO 51 Fg:=nz8 noi ndp rfl rfl rfl rfl (λ_=>rfl) (λ_=>rfl) (λa h=>by show (fJ (df a 0) (v.nd a 1) (r a 2) (S.nd a 3) (Gi a 33))=true∨(SS (df a 0) (v.nd a 1) (r a 2) (S.nd a 3) (Gi a 33))=true;exact nmz h)
def lR:C:= {ps:=[⟨z.ct,true⟩,⟨K,false⟩,⟨K,false⟩],rs:=[],fn:=λa=>(Hf (z.nd a 0) (r a 33) (r a 34),z.enc (Nc (z.nd a 0) (r a 33) (r a 34))),ms:=[some (.cZ 54 [.flat 9,.flat 134,.flat 3,.deep 138 [3],.flat 74,.deep 32 [3],.flat 77,.flat 4,.flat 3,.flat 147,.flat 151,.flat 3,.flat 170,.flat 9,.flat 3,.flat 3]),none,none]}
def ncT:Ctx:=[(115,fc),(116,nFR)]
theorem njR:qk hO ncT:=y Vx (y npa T)
def nqh:List (Nat×YJ):=[(2, {cx:=[(0,.AH),(1,.AH),(7,.AH)],boxes:=[(320000062,[]),(384,[])]})]
def nmV:z→B:=(λa=>((true,z.enc a):B))
def ngy(k n c e f g h j l m o:Int)(Y:Bool)(q:x)(r:Bool)(s t Z v w d a b:Int)(X y z A B C D W F G H I J V L M:u):E:= {n:=1099511627818,sl:=[(0,.ptr 320000062 0),(1,p k),(7,p n)],hp:=[(320000062,.box 54 [.own 81921295872,.own 81921295873,p c,p e,p f,p g,p h,p j,p l,.own 81921295881,.own 81921295882,p m,.own 81921295884,.own 81921295885,.own 81921295886,.own 81921295887,p o,.bool Y,.own 81921295890,.own 81921295891,.own 81921295892,.str q,.own 81921295894,.own 81921295895,.bool r,.own 81921295897,.own 81921295898,.own 81921295899,p s,p t,p Z,p v,p w]),(384,.box 70 [p d,p a,p b]),(81921295872,.row 9 sK X false true),(81921295873,.row 134 lU y false true),(81921295881,.row 3 K z false true),(81921295882,.deep 138 [.i,.i,.sl K] [3] A none),(81921295884,.row 74 au B false true),(81921295885,.deep 32 [.i,.i,.i,.sl K] [3] C none),(81921295886,.row 77 EJ D false true),(81921295887,.row 4 Cl W false true),(81921295890,.row 3 K F false true),(81921295891,.row 147 uz G false true),(81921295892,.row 151 Zi H false true),(81921295894,.row 3 K I false true),(81921295895,.row 170 qJ J false true),(81921295897,.row 9 sK V false true),(81921295898,.row 3 K L false true),(81921295899,.row 3 K M false true)]}
theorem naq:fh hO 50 lR:=by refine aq (A:=nqh) njR func50 λc b e=>?_;replace b:Q (z.ct++o9) c:=b;obtain⟨h,c,rfl,d,b⟩:=z.nX b;obtain⟨k,c,rfl,_,b⟩:=Q_ b;obtain⟨a,rfl,_⟩:=Ap b;obtain⟨N,f⟩:=nmD Vm.lf nmV h k a d e;exact⟨N,BV (λg=>e9 Vm.lf nmV g h k a) (funext λj=>funext λl=>funext λm=>funext λo=>funext λp=>funext λZ=>funext λs=>funext λt=>funext λu=>funext λv=>funext λw=>funext λx=>funext λy=>funext λY=>funext λB=>funext λC=>funext λD=>funext λE=>funext λF=>funext λG=>funext λH=>funext λI=>funext λJ=>funext λK=>funext λL=>funext λM=>funext λO=>funext λP=>funext λX=>funext λR=>funext λS=>funext λT=>rm (yS hO ncT nqh N f50 lR [true,true,false] []) (λn U=>ngy k n j l m o p Z s t u v w x y Y B C D (r (q h.b (hP k)) 4) (r (q h.b (hP k)) 5) (r (q h.b (hP k)) 6) E F G H I J U K L M O P X R S T) _ N) f⟩
def GO:C:= {ps:=[⟨z.ct,true⟩],rs:=[⟨NS,true⟩],fn:=λa=>(KQ (z.nd a 0),z.enc (Ys (z.nd a 0)))}
def WS:Ctx:=[(9,Bw),(42,Yo),(50,lR),(51,Fg)]
theorem nhL:qk hO WS:=y tV (y QW (y naq (y ne4 T)))
def PN:List (Nat×YJ):=[(5, {cx:=[(1,.AH),(2,.AH),(3,.AH),(13,.AH),(14,.AH)],boxes:=[(64,[]),(128,[]),(192,[])]})]
def Yw:z→B:=(λa=>((true,z.enc a):B))
def bc(abK b:Int)(c a:u)(d e f g h j k:Int)(l m:u)(o:Int)(abi q r s:u)(t:Int)(aaG:Bool)(v w y:u)(z:x)(A B:u)(C:Bool)(D adi F:u)(G H I J ae5 L M N O P Q R S T:Int)(U:Bool)(V:x)(W:Bool)(X Y Z y9 y_ og qR qS qT qz qA qB qU rT:Int)(tJ:Bool)(rK:x)(rL:Bool)(rZ r7 r9 r_ sa:Int)(oH pB pJ pd oL pI pU pQ qg sb sd qo qh qi qj rV:u):E:= {n:=50,sl:=[(1,.ptr 64 0),(2,.ptr 128 0),(3,.ptr 192 0),(13,p abK),(14,p b)],hp:=[(64,.box 54 [.sl sK c,.sl lU a,p d,p e,p f,p g,p h,p j,p k,.sl K l,.sl [.i,.i,.sl K] m,p o,.sl au abi,.sl [.i,.i,.i,.sl K] q,.sl EJ r,.sl Cl s,p t,.bool aaG,.sl K v,.sl uz w,.sl Zi y,.str z,.sl K A,.sl qJ B,.bool C,.sl sK D,.sl K adi,.sl K F,p G,p H,p I,p J,p ae5]),(128,.box 54 [.nil,.nil,p L,p M,p N,p O,p P,p Q,p R,.nil,.nil,p S,.nil,.nil,.nil,.nil,p T,.bool U,.nil,.nil,.nil,.str V,.nil,.nil,.bool W,.nil,.nil,.nil,p X,p Y,p Z,p y9,p y_]),(192,.box 54 [.own 1329152,.own 1329153,p og,p qR,p qS,p qT,p qz,p qA,p qB,.own 1329161,.own 1329162,p qU,.own 1329164,.own 1329165,.own 1329166,.own 1329167,p rT,.bool tJ,.own 1329170,.own 1329171,.own 1329172,.str rK,.own 1329174,.own 1329175,.bool rL,.own 1329177,.own 1329178,.own 1329179,p rZ,p r7,p r9,p r_,p sa]),(1329152,.row 9 sK oH false true),(1329153,.row 134 lU pB false true),(1329161,.row 3 K pJ false true),(1329162,.deep 138 [.i,.i,.sl K] [3] pd none),(1329164,.row 74 au oL false true),(1329165,.deep 32 [.i,.i,.i,.sl K] [3] pI none),(1329166,.row 77 EJ pU false true),(1329167,.row 4 Cl pQ false true),(1329170,.row 3 K qg false true),(1329171,.row 147 uz sb false true),(1329172,.row 151 Zi sd false true),(1329174,.row 3 K qo false true),(1329175,.row 170 qJ qh false true),(1329177,.row 9 sK qi false true),(1329178,.row 3 K qj false true),(1329179,.row 3 K rV false true)]}
noncomputable def Fj(N:Nat):(E→B)→E→B:=n7 hO WS PN N f18 GO [true,true,true,false,true,false] []
theorem ng5(N:Nat)(abL:Int)(L a:u)(M O P Q R S T:Int)(U V:u)(W:Int)(K X Y Z:u)(rE:Int)(qV:Bool)(qQ pR qE:u)(pT:x)(qy rz:u)(sF:Bool)(rf rh rA:u)(rF rG rN rH uo b2 SY SZ S0 S1 S2 S3 S4 S5:Int)(S6:Bool)(yZ:x)(y5:Bool)(y6 y7 y8 y9 y_:Int)(ih:E→B)(b c d e f g h i j k:Int)(l:Bool)(m:x)(n:Bool)(o p q r s:Int)(t aaH v w y z A acP C D adj F G H I J:u):Fj N ih (bc abL b L a M O P Q R S T U V W K X Y Z rE qV qQ pR qE pT qy rz sF rf rh rA rF rG rN rH uo b2 SY SZ S0 S1 S2 S3 S4 S5 S6 yZ y5 y6 y7 y8 y9 y_ c d e f g h i j k l m n o p q r s t aaH v w y z A acP C D adj F G H I J)=vu Vm.lf Yw abL K (λb c d e f g h i j k l m n o p q r s t aaH v w y z A acP C D adj F G H I J=>ih (bc abL b L a M O P Q R S T U V W K X Y Z rE qV qQ pR qE pT qy rz sF rf rh rA rF rG rN rH uo b2 SY SZ S0 S1 S2 S3 S4 S5 S6 yZ y5 y6 y7 y8 y9 y_ c d e f g h i j k l m n o p q r s t aaH v w y z A acP C D adj F G H I J)) b c d e f g h i j k l m n o p q r s t aaH v w y z A acP C D adj F G H I J:=by kernel_rfl
theorem nzQ(N:Nat)(abM:Int)(M a:u)(O P Q R S T U:Int)(V W:u)(X:Int)(c Y Z qP:u)(rE:Int)(qV:Bool)(qQ pR qE:u)(pT:x)(qy rz:u)(sF:Bool)(rf rh rA:u)(rF rG rN rH uo b2 SY SZ S0 S1 S2 S3 S4 S5:Int)(S6:Bool)(yZ:x)(y5:Bool)(y6 y7 y8 y9 y_:Int)(b:Nat):(λd e f g h i j k l m n o p q r s t aaI v w y z A B C D E F G H I J K L=>VB (Fj N) b (bc abM d M a O P Q R S T U V W X c Y Z qP rE qV qQ pR qE pT qy rz sF rf rh rA rF rG rN rH uo b2 SY SZ S0 S1 S2 S3 S4 S5 S6 yZ y5 y6 y7 y8 y9 y_ e f g h i j k l m n o p q r s t aaI v w y z A B C D E F G H I J K L))=bU Vm.lf Yw N abM c b:=by
 induction b with
 | zero=>rfl
 | succ b ih=>
  funext d e f g h i j k l m n o p q r s t aaI v w y z A B C D E F G H I J K L;refine (ng5 N abM M a O P Q R S T U V W X c Y Z qP rE qV qQ pR qE pT qy rz sF rf rh rA rF rG rN rH uo b2 SY SZ S0 S1 S2 S3 S4 S5 S6 yZ y5 y6 y7 y8 y9 y_ (VB (Fj N) b) d e f g h i j k l m n o p q r s t aaI v w y z A B C D E F G H I J K L).trans ?_;rw[ih];rfl
theorem ny3(N:Nat)(h:z):dM hO WS PN N f18 GO (h.enc++([]))=Zy Vm.lf Yw N h:=by
 have b:dM hO WS PN N f18 GO (h.enc++([]))=iZ Vm.lf Yw (λx a c d e f g i j k l m n o p q r s t u v w y Z A B C D E F G H I J K L=>VB (Fj N) N (bc x c h.h.a h.j h.a.b.b h.a.b.a h.a.b.d h.a.b.c h.a.a.b h.a.a.a h.a.a.c h.a.a.d h.a.c h.a.d a h.e h.g h.i h.f.b h.f.c h.f.a h.d.c h.d.a.a h.d.b.b h.d.b.a h.k h.m h.l h.n h.o h.c.a h.c.b h.c.e h.c.c h.c.d 0 0 0 0 0 0 0 0 0 false [] false 0 0 0 0 0 d e f g i j k l m n o p q r s t u v w y Z A B C D E F G H I J K L)) h:=by kernel_rfl
 refine b.trans ?_;unfold Zy;have M:(λx a c d e f g i j k l m n o p q r s t u v w y Z A B C D E F G H I J K L=>VB (Fj N) N (bc x c h.h.a h.j h.a.b.b h.a.b.a h.a.b.d h.a.b.c h.a.a.b h.a.a.a h.a.a.c h.a.a.d h.a.c h.a.d a h.e h.g h.i h.f.b h.f.c h.f.a h.d.c h.d.a.a h.d.b.b h.d.b.a h.k h.m h.l h.n h.o h.c.a h.c.b h.c.e h.c.c h.c.d 0 0 0 0 0 0 0 0 0 false [] false 0 0 0 0 0 d e f g i j k l m n o p q r s t u v w y Z A B C D E F G H I J K L))=(λx a=>bU Vm.lf Yw N x a N):=by funext x a;exact nzQ N x h.h.a h.j h.a.b.b h.a.b.a h.a.b.d h.a.b.c h.a.a.b h.a.a.a h.a.a.c h.a.a.d h.a.c h.a.d a h.e h.g h.i h.f.b h.f.c h.f.a h.d.c h.d.a.a h.d.b.b h.d.b.a h.k h.m h.l h.n h.o h.c.a h.c.b h.c.e h.c.c h.c.d 0 0 0 0 0 0 0 0 0 false [] false 0 0 0 0 0 N
 exact congrArg (λO=>iZ Vm.lf Yw O h) M
theorem ntL:Np hO 18 GO:=by refine a0 (A:=PN) nhL func18 λc a aN=>?_;obtain⟨h,c,rfl,b,a⟩:=z.nX a;obtain rfl:=fi a;obtain⟨N,d⟩:=nre Vm.lf Yw h b aN;exact⟨N,((ny3 N h).trans d).trans (by kernel_rfl)⟩
def nmU:C:= {ps:=[⟨sK,false⟩],rs:=[⟨[.eV .str],false⟩,⟨[.eV .bool],false⟩],fn:=λa=>(U (Gi a 0),[.str (WX (Gi a 0)).1]++[.bool (WX (Gi a 0)).2])}
theorem no2:Np hO 171 nmU:=by refine R3 (Γ:=[(94,vx),(105,QE),(131,gW),(132,Wk),(158,BJ),(159,oC),(160,CJ),(161,QN),(174,TB),(216,Yc),(218,UH),(219,HW)]) (y nhY (y CK (y Ts (y qI (y F7 (y nwr (y b_ (y E6 (y nct (y sW (y nDk (y Az T)))))))))))) func171 λa b aN=>?_;obtain⟨t,rfl,_⟩:=Sd b;exact⟨0,Xy (nBy Vm.lf (λc d=>((true,[.str c]++[.bool d]):B)) t aN)⟩
def nCX:C:= {ps:=[⟨[.sl lU],false⟩,⟨v.ct,true⟩,⟨K,false⟩,⟨I.ct,true⟩],rs:=[⟨Zb,true⟩,⟨[.own 9 sK],false⟩,⟨[.eV .i],false⟩],fn:=λa=>(true,I.enc (Ar (df a 0) (v.nd a 1) (r a 2) (I.nd a 3)).1++[.sl (Ar (df a 0) (v.nd a 1) (r a 2) (I.nd a 3)).2.1]++[.int (Ar (df a 0) (v.nd a 1) (r a 2) (I.nd a 3)).2.2])}
theorem nCx:Np hO 102 nCX:=by refine R3 (Γ:=[(57,EX),(105,QE),(122,Oy),(168,yd),(169,Vg),(170,PV),(171,nmU),(172,nax)]) (y PC (y CK (y Rm (y ntS (y nDN (y nvg (y no2 (y ner T)))))))) func102 λc a _=>?_;replace a:Q ((.sl lU)::(v.ct++(.i::(I.ct++[])))) c:=a;obtain⟨list_,c,rfl,_,a⟩:=Tf a;obtain⟨m,c,rfl,d,a⟩:=v.nX a;obtain⟨b,c,rfl,_,a⟩:=Q_ a;obtain⟨r,c,rfl,_,a⟩:=I.nX a;obtain rfl:=fi a;exact⟨0,Xy (nDA Vm.lf (λe f g=>((true,I.enc e++[.sl f]++[.int g]):B)) list_ m b r d)⟩
def U9:C:= {ps:=[⟨[.sl lU],false⟩,⟨v.ct,true⟩,⟨K,false⟩,⟨I.ct,true⟩],rs:=[⟨Zb,true⟩,⟨[.own 9 sK],false⟩,⟨[.eV .i],false⟩,⟨[.eV .i],false⟩],fn:=λa=>(true,I.enc (PU (df a 0) (v.nd a 1) (r a 2) (I.nd a 3)).1++[.sl (PU (df a 0) (v.nd a 1) (r a 2) (I.nd a 3)).2.1]++[.int (PU (df a 0) (v.nd a 1) (r a 2) (I.nd a 3)).2.2.1]++[.int (PU (df a 0) (v.nd a 1) (r a 2) (I.nd a 3)).2.2.2])}
def nyD:Ctx:=[(102,nCX)]
theorem nbp:qk hO nyD:=y nCx T
def nes:List (Nat×YJ):=[(3, {cx:=[(0,.AH),(2,.AH),(5,.AH),(7,.AH),(8,.AH),(12,.AH),(13,.AH),(14,.AH)],boxes:=[(320,[]),(448,[]),(512,[])]})]
def ntl:I→u→Int→Int→B:=(λa b c d=>((true,I.enc a++[.sl b]++[.int c]++[.int d]):B))
def noN(list_:u)(a b c:Int)(m:u)(d e f g o h j k:Int)(l:u):E:= {n:=45,sl:=[(0,.sl lU list_),(2,p a),(5,.ptr 320 0),(7,.ptr 448 0),(8,.ptr 512 0),(12,.own 640768),(13,p b),(14,p c)],hp:=[(320,.box 26 [.sl sK m]),(448,.box 29 [p d,p e,p f,p g]),(512,.box 29 [p o,p h,p j,p k]),(640768,.row 9 sK l false true)]}
theorem cj1:Np hO 44 U9:=by refine a0 (A:=nes) nbp func44 λc b _=>?_;replace b:Q ((.sl lU)::(v.ct++(.i::(I.ct++[])))) c:=b;obtain⟨list_,c,rfl,_,b⟩:=Tf b;obtain⟨m,c,rfl,_,b⟩:=v.nX b;obtain⟨a,c,rfl,_,b⟩:=Q_ b;obtain⟨r,c,rfl,_,b⟩:=I.nX b;obtain rfl:=fi b;obtain⟨N,l⟩:=nn_ Vm.lf ntl list_ m a r;exact⟨N,BV (λn=>qW Vm.lf ntl n list_ m a r) (funext λo=>dW (n7 hO nyD nes N f44 U9 [true,true,true,false] []) (λd e f g h j k=>noN list_ a d e o f g h j 0 0 0 0 k) _ N) l⟩
def sJ:C:= {ps:=[⟨Co.ct,true⟩,⟨K,false⟩],rs:=[⟨As,true⟩,⟨[.own 3 K],false⟩],fn:=λa=>(PX (Co.nd a 0) (r a 10),Co.enc (sC (Co.nd a 0) (r a 10)).1++[.sl (sC (Co.nd a 0) (r a 10)).2])}
def nyl:Ctx:=[(23,Ou),(25,Y9),(58,bO),(87,Eh),(103,PY)]
theorem niF:qk hO nyl:=y UL (y mR (y zW (y kS (y nip T))))
def nAI:List (Nat×YJ):=[(6, {cx:=[(1,.AH),(2,.AH),(4,.AH),(6,.AH),(7,.AH),(28,.AH),(29,.AH),(30,.AH)],boxes:=[(128,[]),(256,[]),(384,[])]})]
def nph:Co→u→B:=(λa b=>((true,Co.enc a++[.sl b]):B))
def nqc(n:Int)(x:u)(t Z a b c d e f g:Int)(h j:u)(v w k l m o Y q r y z A B C D X F:Int)(s G H:u):E:= {n:=57,sl:=[(1,p n),(2,.ptr 128 0),(4,.ptr 256 0),(6,.ptr 384 0),(7,.own 640448),(28,.sl [.i,.i,.sl K] x),(29,p t),(30,p Z)],hp:=[(128,.box 35 [p a,p b,p c,p d,p e,p f,p g,.sl K h,.sl [.i,.i,.sl K] j,p v]),(256,.box 35 [p w,p k,p l,p m,p o,p Y,p q,.nil,.nil,p r]),(384,.box 35 [p y,p z,p A,p B,p C,p D,p X,.own 1378311,.own 1378312,p F]),(640448,.row 3 K s false true),(1378311,.row 3 K G false true),(1378312,.deep 138 [.i,.i,.sl K] [3] H none)]}
theorem nrU:Np hO 45 sJ:=by refine a0 (A:=nAI) niF func45 λd a aN=>?_;obtain⟨q,d,rfl,_,a⟩:=Co.nX a;obtain⟨n,rfl,_⟩:=Ap a;obtain⟨N,e⟩:=nsl Vm.lf nph q n aN;exact⟨N,BV (λf=>Bz Vm.lf nph f q n) (funext λx=>funext λg=>funext λb=>funext λh=>funext λj=>funext λk=>funext λl=>funext λm=>nf6 (n7 hO nyl nAI N f45 sJ [true,true,true,true,false,true,false] []) (λo p s t c u=>nqc n x g o q.b.b q.b.a q.b.d q.b.c q.a.b q.a.a q.a.c q.a.d b q.d 0 0 0 0 0 0 0 0 h j k l p s t m c u ((F q).c)) _ N) e⟩
def njf:C:= {ps:=[⟨z.ct,true⟩],rs:=[⟨NS,true⟩],fn:=λa=>(Yu (z.nd a 0),z.enc (ZC (z.nd a 0)))}
theorem nu4:Np hO 16 njf:=by refine R3 (Γ:=[(9,Bw),(42,Yo),(44,U9),(45,sJ)]) (y tV (y QW (y cj1 (y nrU T)))) func16 λb a aN=>?_;obtain⟨h,b,rfl,_,a⟩:=z.nX a;obtain rfl:=fi a;exact⟨0,Xy (nbC Vm.lf (λc=>((true,z.enc c):B)) h aN)⟩
def nEy:C:= {ps:=[⟨Ue.ct,true⟩],rs:=[⟨O_,true⟩,⟨[.eV .bool],false⟩],fn:=λa=>(true,Ue.enc (jI (Ue.nd a 0)).1++[.bool (jI (Ue.nd a 0)).2])}
theorem neL:Np hO 53 nEy:=by refine R3 (Γ:=[(28,Ux)]) (y OX T) func53 λb a _=>?_;obtain⟨v,b,rfl,_,a⟩:=Ue.nX a;obtain rfl:=fi a;exact⟨0,Xy (ntx (λc d=>((true,Ue.enc c++[.bool d]):B)) v)⟩
def nAB:C:= {ps:=[⟨Ue.ct,true⟩],rs:=[⟨O_,true⟩],fn:=λa=>(true,Ue.enc (eY (Ue.nd a 0)))}
theorem nvu:Np hO 55 nAB:=by refine R3 (Γ:=[(28,Ux),(119,aP)]) (y OX (y BX T)) func55 λb a _=>?_;obtain⟨v,b,rfl,_,a⟩:=Ue.nX a;obtain rfl:=fi a;exact⟨0,Xy (nnZ (λc=>((true,Ue.enc c):B)) v)⟩
def nfM:C:= {ps:=[⟨sK,false⟩],rs:=[⟨dw,true⟩,⟨[.eV .i],false⟩,⟨[.eV .bool],false⟩],fn:=λa=>(true,Ja.enc (YQ (Gi a 0)).1++[.int (YQ (Gi a 0)).2.1]++[.bool (YQ (Gi a 0)).2.2])}
theorem nzz:Np hO 67 nfM:=by refine R3 (Γ:=[(131,gW),(132,Wk)]) (y Ts (y qI T)) func67 λa b _=>?_;obtain⟨s,rfl,_⟩:=Sd b;exact⟨0,Xy (nwo (λc d e=>((true,Ja.enc c++[.int d]++[.bool e]):B)) s)⟩
def ph:C:= {ps:=[⟨[.sl lU],false⟩,⟨v.ct,true⟩,⟨K,false⟩,⟨CI.ct,true⟩],rs:=[⟨dw,true⟩,⟨[.eV .i,.eV .i,.eV .i],true⟩,⟨[.eV .bool],false⟩],fn:=λa=>(true,Ja.enc (Sf (df a 0) (v.nd a 1) (r a 2) (CI.nd a 3)).1++CI.enc (Sf (df a 0) (v.nd a 1) (r a 2) (CI.nd a 3)).2.1++[.bool (Sf (df a 0) (v.nd a 1) (r a 2) (CI.nd a 3)).2.2])}
theorem nu0:Np hO 30 ph:=by refine R3 (Γ:=[(59,Zl),(65,Xg),(66,E0),(67,nfM),(68,oO)]) (y nC0 (y Tg (y nuG (y nzz (y na7 T))))) func30 λc a _=>?_;replace a:Q ((.sl lU)::(v.ct++(.i::(CI.ct++[])))) c:=a;obtain⟨list_,c,rfl,_,a⟩:=Tf a;obtain⟨m,c,rfl,_,a⟩:=v.nX a;obtain⟨b,c,rfl,_,a⟩:=Q_ a;obtain⟨q,c,rfl,_,a⟩:=CI.nX a;obtain rfl:=fi a;exact⟨0,Xy (npC Vm.lf (λd e f=>((true,Ja.enc d++CI.enc e++[.bool f]):B)) list_ m b q)⟩
def Rd:C:= {ps:=[⟨[.sl qJ],false⟩,⟨Ve.ct,true⟩],rs:=[⟨[.eV .i],false⟩],fn:=λa=>(true,[.int (Uf (df a 0) (Ve.nd a 1))])}
def nsS:List (Nat×YJ):=[(2, {cx:=[(3,.AH),(7,.AH),(8,.AH),(9,.AH)],boxes:=[(192,[])]})]
def nf7:Int→B:=cp
def nyR(list_:u)(a b c d e f g:Int):E:= {n:=20,sl:=[(3,.ptr 192 0),(7,.sl qJ list_),(8,p a),(9,p b)],hp:=[(192,.box 149 [p c,p d,p e,p f,p g])]}
theorem nm2:Np hO 229 Rd:=by refine a0 (A:=nsS) T func229 λb a _=>?_;obtain⟨list_,b,rfl,c,a⟩:=Tf a;obtain⟨f,b,rfl,_,a⟩:=Ve.nX a;obtain rfl:=fi a;obtain⟨N,d⟩:=ni_ Vm.lf nf7 list_ f c;exact⟨N,BV (λe=>Qw Vm.lf nf7 e list_ f) (funext λg=>funext λh=>funext λj=>funext λk=>funext λl=>funext λm=>Cj (n7 hO [] nsS N f229 Rd [true,false,true,false] []) (λn=>nyR list_ g n h j k l m) _ N) d⟩
def ncW:List (Nat×YJ):=[(2, {cx:=[(0,.AH),(3,.AH),(5,.AH)],boxes:=[(192,[])]})]
def nCb:Int→B:=cp
def nrS(list_:u)(k a b c d e:Int):E:= {n:=20,sl:=[(0,.sl qJ list_),(3,.ptr 192 0),(5,p k)],hp:=[(192,.box 149 [p a,p b,p c,p d,p e])]}
theorem nsR:Np hO 84 Rd:=by refine a0 (A:=ncW) T func84 λb a _=>?_;obtain⟨list_,b,rfl,c,a⟩:=Tf a;obtain⟨f,b,rfl,_,a⟩:=Ve.nX a;obtain rfl:=fi a;obtain⟨N,d⟩:=nmT Vm.lf nCb list_ f c;exact⟨N,BV (λe=>A6 Vm.lf nCb e list_ f) (funext λg=>funext λh=>funext λj=>funext λl=>funext λm=>Cj (n7 hO [] ncW N f84 Rd [true,false,true,false] []) (λk=>nrS list_ k g h j l m) _ N) d⟩
def nbK:C:= {ps:=[⟨[.sl qJ],false⟩,⟨N.ct,true⟩],rs:=[⟨[.own 170 qJ],false⟩],fn:=λa=>(jN (df a 0) (N.nd a 1),[.sl (Dh (df a 0) (N.nd a 1))])}
theorem htA:Np hO 185 nbK:=by refine R3 (Γ:=[(60,Tb),(91,Bo),(110,Oe),(115,fc),(161,QN),(229,Rd)]) (y We (y Od (y HK (y Vx (y E6 (y nm2 T)))))) func185 λb a aN=>?_;obtain⟨list_,b,rfl,d,a⟩:=Tf a;obtain⟨p,b,rfl,c,a⟩:=N.nX a;obtain rfl:=fi a;exact⟨0,Xy (nf9 Vm.lf cu list_ p d c aN)⟩
def ntT:C:= {ps:=[⟨[.sl lU],false⟩,⟨v.ct,true⟩,⟨K,false⟩,⟨S.ct,true⟩,⟨G.ct,true⟩,⟨[.sl qJ],false⟩,⟨K,false⟩],rs:=[⟨[.own 9 sK],true⟩,⟨tC,true⟩,⟨ue,true⟩,⟨[.own 170 qJ],false⟩,⟨[.eV .i],false⟩],fn:=λa=>(b9 (df a 0) (v.nd a 1) (r a 2) (S.nd a 3) (G.nd a 33) (df a 37) (r a 38),v.enc (sO (df a 0) (v.nd a 1) (r a 2) (S.nd a 3) (G.nd a 33) (df a 37) (r a 38)).1++S.enc (sO (df a 0) (v.nd a 1) (r a 2) (S.nd a 3) (G.nd a 33) (df a 37) (r a 38)).2.1++G.enc (sO (df a 0) (v.nd a 1) (r a 2) (S.nd a 3) (G.nd a 33) (df a 37) (r a 38)).2.2.1++[.sl (sO (df a 0) (v.nd a 1) (r a 2) (S.nd a 3) (G.nd a 33) (df a 37) (r a 38)).2.2.2.1]++[.int (sO (df a 0) (v.nd a 1) (r a 2) (S.nd a 3) (G.nd a 33) (df a 37) (r a 38)).2.2.2.2])}
def niO:Ctx:=[(1125899906842645,jh),(25,Y9),(26,xR),(27,fZ),(30,ph),(58,bO),(65,Xg),(85,pE),(88,Qe),(91,Bo),(105,QE),(163,UM),(185,nbK),(186,v5)]
theorem njZ:qk hO niO:=y o_ (y mR (y PL (y ye (y nu0 (y zW (y Tg (y nT (y T6 (y Od (y CK (y uR (y htA (y nAh T)))))))))))))
def nmM:List (Nat×YJ):=[(5, {cx:=[(0,.AH),(2,.AH),(6,.AH),(10,.AH),(14,.AH),(15,.AH),(16,.AH),(19,.AH),(20,.AH),(21,.AH),(22,.AH)],boxes:=[(512,[]),(640,[]),(704,[]),(896,[]),(960,[]),(1024,[]),(1216,[]),(1280,[])]})]
def neB:v→S→G→u→Int→B:=(λa b c d e=>((true,v.enc a++S.enc b++G.enc c++[.sl d]++[.int e]):B))
def njq(list_:u)(a b n:Int)(ta:u)(c d e f g h j k l Vc m o abj q r s t i v w abN y z A B:Int)(C:x)(D adk:Int)(F:Bool)(G wI vn um:Int)(vj:u)(H I J ae6 L M N O P Q R S T U V W X Y Z nFp nFq nFr nFs nFt nFu:Int)(nFv:x)(nFw nFx:Int)(nFy:Bool)(nFz b16 nF7 nF8 vC sr su:Int)(all oH uk:u):E:= {n:=122,sl:=[(0,.sl lU list_),(2,p a),(6,p b),(10,.ptr 640 0),(14,.ptr 896 0),(15,.ptr 960 0),(16,.ptr 1024 0),(19,.ptr 1216 0),(20,.ptr 1280 0),(21,.own 641344),(22,p n)],hp:=[(512,.box 26 [.sl sK ta]),(640,.box 74 [p c,p d,p e,p f,p g,p h,p j,p k,p l,p Vc,p m,p o,p abj,p q,p r,p s,p t,p i,p v,p w,p abN,p y,p z,p A,p B,.str C,p D,p adk,.bool F,p G]),(704,.box 32 [p wI,p vn,p um,.sl K vj]),(896,.box 26 [.nil]),(960,.box 74 [p H,p I,p J,p ae6,p L,p M,p N,p O,p P,p Q,p R,p S,p T,p U,p V,p W,p X,p Y,p Z,p nFp,p nFq,p nFr,p nFs,p nFt,p nFu,.str nFv,p nFw,p nFx,.bool nFy,p nFz]),(1024,.box 32 [p b16,p nF7,p nF8,.nil]),(1216,.box 26 [.own 1591296]),(1280,.box 32 [p vC,p sr,p su,.own 1607683]),(641344,.row 170 qJ all false true),(1591296,.row 9 sK oH false true),(1607683,.row 3 K uk false true)]}
theorem nAr:Np hO 120 ntT:=by refine a0 (A:=nmM) njZ func120 λe d R=>?_;replace d:Q ((.sl lU)::(v.ct++(.i::(S.ct++(G.ct++[.sl qJ,.i]))))) e:=d;obtain⟨list_,e,rfl,_,d⟩:=Tf d;obtain⟨m,e,rfl,_,d⟩:=v.nX d;obtain⟨a,e,rfl,_,d⟩:=Q_ d;obtain⟨q,e,rfl,_,d⟩:=S.nX d;obtain⟨p,e,rfl,_,d⟩:=G.nX d;obtain⟨c,e,rfl,_,d⟩:=Tf d;obtain⟨b,rfl,_⟩:=Ap d;obtain⟨N,ahr⟩:=nfk Vm.lf neB list_ m a q p c b R;exact⟨N,BV (λT=>W_ Vm.lf neB T list_ m a q p c b) (funext λf=>funext λg=>funext λh=>funext λj=>funext λk=>funext λl=>funext λo=>funext λs=>funext λt=>funext λu=>funext λabn=>funext λw=>funext λx=>funext λy=>funext λz=>funext λB=>funext λC=>funext λD=>funext λE=>funext λF=>funext λaee=>funext λH=>funext λI=>funext λJ=>funext λK=>funext λL=>funext λM=>funext λU=>ntn (n7 hO niO nmM N f120 ntT [true,true,true,true,false,false] []) (λn O P V W X Y af8 Z=>njq list_ a b n m.a f g h j k l o O P V s t u abn w x y z B C D E F aee H I J K L M p.b p.a p.c p.d 0 0 0 0 0 0 0 0 0 0 0 0 0 0 0 0 0 0 0 0 0 0 0 0 0 [] 0 0 false 0 0 0 0 W X Y af8 U Z) _ N) ahr⟩
def ngu:C:= {ps:=[⟨z.ct,true⟩,⟨K,false⟩,⟨K,false⟩],rs:=[⟨[.eV .i],false⟩],fn:=λa=>(aK (z.nd a 0) (r a 33) (r a 34),[.int (tv (z.nd a 0) (r a 33) (r a 34)).1]++z.enc (tv (z.nd a 0) (r a 33) (r a 34)).2),ms:=[some (.cZ 54 [.flat 9,.flat 134,.flat 3,.deep 138 [3],.flat 74,.deep 32 [3],.flat 77,.flat 4,.flat 3,.flat 147,.flat 151,.flat 3,.flat 170,.flat 9,.flat 3,.flat 3]),none,none]}
def kwF:Ctx:=[(1125899906842666,jh),(120,ntT)]
theorem nfD:qk hO kwF:=y o_ (y nAr T)
theorem nij:fh hO 54 ngu:=by refine aq (A:=[]) nfD func54 λc b e=>?_;replace b:Q (z.ct++o9) c:=b;obtain⟨h,c,rfl,d,b⟩:=z.nX b;obtain⟨k,c,rfl,_,b⟩:=Q_ b;obtain⟨a,rfl,_⟩:=Ap b;exact⟨0,Xy (naV Vm.lf (λf g=>((true,[.int f]++z.enc g):B)) h k a d e)⟩
def ON:C:= {ps:=[⟨z.ct,true⟩,⟨K,false⟩],rs:=[⟨NS,true⟩,⟨[.eV .i],false⟩],fn:=λa=>(wN (z.nd a 0) (r a 33),z.enc (uf (z.nd a 0) (r a 33)).1++[.int (uf (z.nd a 0) (r a 33)).2])}
def VV:Ctx:=[(9,Bw),(25,Y9),(42,Yo),(53,nEy),(54,ngu),(55,nAB)]
theorem naY:qk hO VV:=y tV (y mR (y QW (y neL (y nij (y nvu T)))))
def Rn:List (Nat×YJ):=[(6, {cx:=[(1,.AH),(4,.AH),(6,.AH),(7,.AH),(25,.AH),(26,.AH)],boxes:=[(128,[]),(256,[]),(384,[])]})]
def Qd:z→Int→B:=(λa b=>((true,z.enc a++[.int b]):B))
def gH(a b abO v:Int)(w c:u)(y z A B C D adl:Int)(F G:u)(H:Int)(I J ae7 L:u)(M:Int)(N:Bool)(O P Q:u)(R:x)(S T:u)(U:Bool)(V W X:u)(Y Z rN rH uo b4 d e f g h j k l:Int)(m:Bool)(o:x)(abk:Bool)(q r s t aaJ og qR qS qT qz qA qB qU rT:Int)(tJ:Bool)(rK:x)(rL:Bool)(rZ r7 r9 r_ sa:Int)(oH pB pJ pd oL pI pU pQ qg sb sd qo qh qi qj rV:u):E:= {n:=80,sl:=[(1,p a),(4,.ptr 256 0),(6,.ptr 384 0),(7,p b),(25,p abO),(26,p v)],hp:=[(128,.box 54 [.sl sK w,.sl lU c,p y,p z,p A,p B,p C,p D,p adl,.sl K F,.sl [.i,.i,.sl K] G,p H,.sl au I,.sl [.i,.i,.i,.sl K] J,.sl EJ ae7,.sl Cl L,p M,.bool N,.sl K O,.sl uz P,.sl Zi Q,.str R,.sl K S,.sl qJ T,.bool U,.sl sK V,.sl K W,.sl K X,p Y,p Z,p rN,p rH,p uo]),(256,.box 54 [.nil,.nil,p b4,p d,p e,p f,p g,p h,p j,.nil,.nil,p k,.nil,.nil,.nil,.nil,p l,.bool m,.nil,.nil,.nil,.str o,.nil,.nil,.bool abk,.nil,.nil,.nil,p q,p r,p s,p t,p aaJ]),(384,.box 54 [.own 1378304,.own 1378305,p og,p qR,p qS,p qT,p qz,p qA,p qB,.own 1378313,.own 1378314,p qU,.own 1378316,.own 1378317,.own 1378318,.own 1378319,p rT,.bool tJ,.own 1378322,.own 1378323,.own 1378324,.str rK,.own 1378326,.own 1378327,.bool rL,.own 1378329,.own 1378330,.own 1378331,p rZ,p r7,p r9,p r_,p sa]),(1378304,.row 9 sK oH false true),(1378305,.row 134 lU pB false true),(1378313,.row 3 K pJ false true),(1378314,.deep 138 [.i,.i,.sl K] [3] pd none),(1378316,.row 74 au oL false true),(1378317,.deep 32 [.i,.i,.i,.sl K] [3] pI none),(1378318,.row 77 EJ pU false true),(1378319,.row 4 Cl pQ false true),(1378322,.row 3 K qg false true),(1378323,.row 147 uz sb false true),(1378324,.row 151 Zi sd false true),(1378326,.row 3 K qo false true),(1378327,.row 170 qJ qh false true),(1378329,.row 9 sK qi false true),(1378330,.row 3 K qj false true),(1378331,.row 3 K rV false true)]}
noncomputable def xo(N:Nat):(E→B)→E→B:=n7 hO VV Rn N f20 ON [true,true,true,true,false,true,false] []
theorem ncB(N:Nat)(a abP:Int)(xq c:u)(xr xt xu xv xw xx xy:Int)(rD tL:u)(ry:Int)(qf qX qd qP:u)(rE:Int)(qV:Bool)(qQ pR qE:u)(pT:x)(qy rz:u)(sF:Bool)(rf rh rA:u)(rF rG rN rH uo b4 d e f g h i j k:Int)(l:Bool)(m:x)(n:Bool)(o p q r s:Int)(ih:E→B)(b t aaK v w y z A acQ C D:Int)(adm:Bool)(F:x)(G:Bool)(H I J K L:Int)(M O P Q R S T U V W X Y Z qi qj rV:u):xo N ih (gH a b abP t xq c xr xt xu xv xw xx xy rD tL ry qf qX qd qP rE qV qQ pR qE pT qy rz sF rf rh rA rF rG rN rH uo b4 d e f g h i j k l m n o p q r s aaK v w y z A acQ C D adm F G H I J K L M O P Q R S T U V W X Y Z qi qj rV)=jx Vm.lf Qd a abP (λb t aaK v w y z A acQ C D adm F G H I J K L M O P Q R S T U V W X Y Z qi qj rV=>ih (gH a b abP t xq c xr xt xu xv xw xx xy rD tL ry qf qX qd qP rE qV qQ pR qE pT qy rz sF rf rh rA rF rG rN rH uo b4 d e f g h i j k l m n o p q r s aaK v w y z A acQ C D adm F G H I J K L M O P Q R S T U V W X Y Z qi qj rV)) b t aaK v w y z A acQ C D adm F G H I J K L M O P Q R S T U V W X Y Z qi qj rV:=by kernel_rfl
theorem nuv(N:Nat)(a abQ:Int)(xq c:u)(xr xt xu xv xw xx xy:Int)(rD tL:u)(ry:Int)(qf qX qd qP:u)(rE:Int)(qV:Bool)(qQ pR qE:u)(pT:x)(qy rz:u)(sF:Bool)(rf rh rA:u)(rF rG rN rH uo b4 d e f g h i j k:Int)(l:Bool)(m:x)(n:Bool)(o p q r s:Int)(t:Nat):(λb aaL v w y z A B C D E F G H I J K L M O P Q R S T U V W X Y Z qh qi qj rV=>VB (xo N) t (gH a b abQ aaL xq c xr xt xu xv xw xx xy rD tL ry qf qX qd qP rE qV qQ pR qE pT qy rz sF rf rh rA rF rG rN rH uo b4 d e f g h i j k l m n o p q r s v w y z A B C D E F G H I J K L M O P Q R S T U V W X Y Z qh qi qj rV))=gC Vm.lf Qd N a abQ t:=by
 induction t with
 | zero=>rfl
 | succ t ih=>
  funext b aaL v w y z A B C D E F G H I J K L M O P Q R S T U V W X Y Z qh qi qj rV;refine (ncB N a abQ xq c xr xt xu xv xw xx xy rD tL ry qf qX qd qP rE qV qQ pR qE pT qy rz sF rf rh rA rF rG rN rH uo b4 d e f g h i j k l m n o p q r s (VB (xo N) t) b aaL v w y z A B C D E F G H I J K L M O P Q R S T U V W X Y Z qh qi qj rV).trans ?_;rw[ih];rfl
theorem nh1(N:Nat)(h:z)(a:Int):dM hO VV Rn N f20 ON (h.enc++(.int a::([])))=RB Vm.lf Qd N h a:=by
 have c:dM hO VV Rn N f20 ON (h.enc++(.int a::([])))=Q4 Vm.lf Qd (λx b d e f g i j k l m n o p q r s t u v w y Z A B C D E F G H I J K L M=>VB (xo N) N (gH a b x d h.h.a h.j h.a.b.b h.a.b.a h.a.b.d h.a.b.c h.a.a.b h.a.a.a h.a.a.c h.a.a.d h.a.c h.a.d h.b h.e h.g h.i h.f.b h.f.c h.f.a h.d.c h.d.a.a h.d.b.b h.d.b.a h.k h.m h.l h.n h.o h.c.a h.c.b h.c.e h.c.c h.c.d 0 0 0 0 0 0 0 0 0 false [] false 0 0 0 0 0 e f g i j k l m n o p q r s t u v w y Z A B C D E F G H I J K L M)) h a:=by kernel_rfl
 refine c.trans ?_;unfold RB;have O:(λx b d e f g i j k l m n o p q r s t u v w y Z A B C D E F G H I J K L M=>VB (xo N) N (gH a b x d h.h.a h.j h.a.b.b h.a.b.a h.a.b.d h.a.b.c h.a.a.b h.a.a.a h.a.a.c h.a.a.d h.a.c h.a.d h.b h.e h.g h.i h.f.b h.f.c h.f.a h.d.c h.d.a.a h.d.b.b h.d.b.a h.k h.m h.l h.n h.o h.c.a h.c.b h.c.e h.c.c h.c.d 0 0 0 0 0 0 0 0 0 false [] false 0 0 0 0 0 e f g i j k l m n o p q r s t u v w y Z A B C D E F G H I J K L M))=(λx=>gC Vm.lf Qd N a x N):=by funext x;exact nuv N a x h.h.a h.j h.a.b.b h.a.b.a h.a.b.d h.a.b.c h.a.a.b h.a.a.a h.a.a.c h.a.a.d h.a.c h.a.d h.b h.e h.g h.i h.f.b h.f.c h.f.a h.d.c h.d.a.a h.d.b.b h.d.b.a h.k h.m h.l h.n h.o h.c.a h.c.b h.c.e h.c.c h.c.d 0 0 0 0 0 0 0 0 0 false [] false 0 0 0 0 0 N
 exact congrArg (λP=>Q4 Vm.lf Qd P h a) O
theorem ncC:Np hO 20 ON:=by refine a0 (A:=Rn) naY func20 λd b aN=>?_;obtain⟨h,d,rfl,c,b⟩:=z.nX b;obtain⟨a,rfl,_⟩:=Ap b;obtain⟨N,e⟩:=npb Vm.lf Qd h a c aN;exact⟨N,((nh1 N h a).trans e).trans (by kernel_rfl)⟩
def fM:C:= {ps:=[⟨sK,false⟩],rs:=[⟨[.eV .str],false⟩,⟨[.eV .bool],false⟩],fn:=λa=>(SQ (Gi a 0),[.str (lr (Gi a 0)).1]++[.bool (lr (Gi a 0)).2])}
theorem okH:Np hO 104 fM:=by refine R3 (Γ:=[(173,OS)]) (y nCC T) func104 λa b aN=>?_;obtain⟨s,rfl,_⟩:=Sd b;exact⟨0,Xy (no0 Vm.lf (λc d=>((true,[.str c]++[.bool d]):B)) s aN)⟩
theorem nfg:Np hO 81 fM:=by refine R3 (Γ:=[(71,OS)]) (y ni1 T) func81 λa b aN=>?_;obtain⟨s,rfl,_⟩:=Sd b;exact⟨0,Xy (nxt Vm.lf (λc d=>((true,[.str c]++[.bool d]):B)) s aN)⟩
def nA5:C:= {ps:=[⟨QD.ct,true⟩,⟨N.ct,true⟩],rs:=[⟨[.eV .bool],false⟩],fn:=λa=>(true,[.bool (lj (QD.nd a 0) (N.nd a 3))])}
theorem nd0:Np hO 47 nA5:=by refine R3 (Γ:=[(24,NN),(107,O1)]) (y nt9 (y nnU T)) func47 λb a _=>?_;obtain⟨f,b,rfl,_,a⟩:=QD.nX a;obtain⟨p,b,rfl,_,a⟩:=N.nX a;obtain rfl:=fi a;exact⟨0,Xy (nBY bX f p)⟩
def rxD:C:= {ps:=[⟨K,false⟩,⟨K,false⟩,⟨K,false⟩],rs:=[⟨[.eV .bool],false⟩],fn:=λa=>(YR (r a 0) (r a 1) (r a 2),[.bool (Ax (r a 0) (r a 1) (r a 2))])}
theorem nuE:Np hO 224 rxD:=by refine R3 T func224 λe c aN=>?_;obtain⟨a,e,rfl,_,c⟩:=Q_ c;obtain⟨b,e,rfl,_,c⟩:=Q_ c;obtain⟨d,rfl,_⟩:=Ap c;exact⟨0,Xy (nx0 Vm.lf bX a b d aN)⟩
def nma:C:= {ps:=[⟨N.ct,true⟩,⟨N.ct,true⟩],rs:=[⟨[.eV .bool],false⟩],fn:=λa=>(true,[.bool (xp (N.nd a 0) (N.nd a 16))])}
theorem nfy:Np hO 179 nma:=by refine R3 T func179 λd c _=>?_;obtain⟨a,d,rfl,_,c⟩:=N.nX c;obtain⟨b,d,rfl,_,c⟩:=N.nX c;obtain rfl:=fi c;exact⟨0,Xy (nzf bX a b)⟩
def nAS:C:= {ps:=[⟨N.ct,true⟩],rs:=[⟨ngJ,true⟩],fn:=λa=>(true,QI.enc (iU (N.nd a 0)))}
theorem ntb:Np hO 114 nAS:=by refine R3 T func114 λb a _=>?_;obtain⟨p,b,rfl,_,a⟩:=N.nX a;obtain rfl:=fi a;exact⟨0,Xy (nEg (λc=>((true,QI.enc c):B)) p)⟩
def noU:C:= {ps:=[⟨iI.ct,true⟩,⟨Ve.ct,true⟩],rs:=[⟨[.eV .i],false⟩],fn:=λa=>(true,[.int (AK (iI.nd a 0) (Ve.nd a 2))])}
theorem ncY:Np hO 178 noU:=by refine R3 (Γ:=[(183,II)]) (y Rp T) func178 λb a _=>?_;obtain⟨s,b,rfl,_,a⟩:=iI.nX a;obtain⟨f,b,rfl,_,a⟩:=Ve.nX a;obtain rfl:=fi a;exact⟨0,Xy (nyj Vm.lf cp s f)⟩
def Zv:C:= {ps:=[⟨sK,false⟩],rs:=[⟨wU,true⟩,⟨[.eV .i],false⟩],fn:=λa=>(SQ (Gi a 0),N.enc (aA (Gi a 0)).1++[.int (aA (Gi a 0)).2])}
theorem nos:Np hO 46 Zv:=by refine R3 (Γ:=[(104,fM),(105,QE),(106,fa)]) (y okH (y CK (y fF T))) func46 λa b aN=>?_;obtain⟨s,rfl,_⟩:=Sd b;exact⟨0,Xy (njJ Vm.lf (λc d=>((true,N.enc c++[.int d]):B)) s aN)⟩
theorem np5:Np hO 40 Zv:=by refine R3 (Γ:=[(69,fa),(81,fM),(82,QE)]) (y nxD (y nfg (y nbX T))) func40 λa b aN=>?_;obtain⟨s,rfl,_⟩:=Sd b;exact⟨0,Xy (njJ Vm.lf (λc d=>((true,N.enc c++[.int d]):B)) s aN)⟩
def ntY:C:= {ps:=[⟨ao.ct,true⟩,⟨N.ct,true⟩],rs:=[⟨[.eV .bool],false⟩],fn:=λa=>(true,[.bool (xh (ao.nd a 0) (N.nd a 9))])}
theorem phQ:Np hO 177 ntY:=by refine R3 (Γ:=[(25,Y9),(60,Tb),(125,RG),(224,rxD)]) (y mR (y We (y nxn (y nuE T)))) func177 λb a _=>?_;obtain⟨r,b,rfl,_,a⟩:=ao.nX a;obtain⟨p,b,rfl,_,a⟩:=N.nX a;obtain rfl:=fi a;exact⟨0,Xy (nzX Vm.lf bX r p)⟩
def njx:C:= {ps:=[⟨[.sl uz],false⟩,⟨N.ct,true⟩],rs:=[⟨[.eV .i],false⟩],fn:=λa=>(true,[.int (I2 (df a 0) (N.nd a 1))])}
def nrA:Ctx:=[(62,BG),(177,ntY)]
theorem ncH:qk hO nrA:=y nbV (y phQ T)
def ndv:List (Nat×YJ):=[(5, {cx:=[(0,.AH),(3,.AH),(5,.AH),(11,.AH),(12,.AH),(13,.AH)],boxes:=[(192,[])]})]
def nBr:Int→B:=cp
def nyn(list_:u)(a:Int)(X:u)(c d e f g h j k l m o Y q r s t Z:Int)(b:x):E:= {n:=38,sl:=[(0,.sl uz list_),(3,.ptr 192 0),(5,p a),(11,.sl uz X),(12,p c),(13,p d)],hp:=[(192,.box 63 [p e,p f,p g,p h,p j,p k,p l,p m,p o,p Y,p q,p r,p s,p t,p Z,.str b])]}
theorem ndt:Np hO 108 njx:=by refine a0 (A:=ndv) ncH func108 λb a _=>?_;obtain⟨list_,b,rfl,e,a⟩:=Tf a;obtain⟨p,b,rfl,_,a⟩:=N.nX a;obtain rfl:=fi a;obtain⟨Z,f⟩:=nnX Vm.lf nBr list_ p e;exact⟨Z,BV (λg=>vf Vm.lf nBr g list_ p) (funext λx=>funext λh=>funext λj=>funext λk=>funext λl=>funext λm=>funext λn=>funext λo=>funext λq=>funext λs=>funext λt=>funext λu=>funext λv=>funext λw=>funext λy=>funext λz=>funext λB=>funext λc=>rm (n7 hO nrA ndv Z f108 njx [true,true,true,false,true,false] []) (λd C=>nyn list_ d x h C j k l m n o q s t u v w y z B c) _ Z) f⟩
def nq0:C:= {ps:=[⟨mB.ct,true⟩,⟨Ve.ct,true⟩],rs:=[⟨[.eV .i],false⟩],fn:=λa=>(true,[.int (lK (mB.nd a 0) (Ve.nd a 1))])}
theorem nzt:Np hO 109 nq0:=by refine R3 (Γ:=[(63,fr),(126,Uq)]) (y ne3 (y nam T)) func109 λb a _=>?_;obtain⟨t,b,rfl,_,a⟩:=mB.nX a;obtain⟨f,b,rfl,_,a⟩:=Ve.nX a;obtain rfl:=fi a;exact⟨0,Xy (nfW cp t f)⟩
def ndX:C:= {ps:=[⟨iI.ct,true⟩,⟨K,false⟩,⟨Ve.ct,true⟩],rs:=[⟨[.eV .i],false⟩],fn:=λa=>(true,[.int (lL (iI.nd a 0) (r a 2) (Ve.nd a 3))])}
theorem nCT:Np hO 111 ndX:=by refine R3 (Γ:=[(64,wY),(178,noU)]) (y nCP (y ncY T)) func111 λb a _=>?_;replace a:Q (iI.ct++(.i::(Ve.ct++[]))) b:=a;obtain⟨s,b,rfl,_,a⟩:=iI.nX a;obtain⟨c,b,rfl,_,a⟩:=Q_ a;obtain⟨f,b,rfl,_,a⟩:=Ve.nX a;obtain rfl:=fi a;exact⟨0,Xy (nsY Vm.lf cp s c f)⟩
def nBu:C:= {ps:=[⟨se.ct,true⟩,⟨K,false⟩,⟨N.ct,true⟩],rs:=[⟨[.eV .i],false⟩],fn:=λa=>(true,[.int (Sp (se.nd a 0) (r a 4) (N.nd a 5))])}
theorem nnV:Np hO 48 nBu:=by refine R3 (Γ:=[(29,YC),(60,Tb),(108,njx),(109,nq0),(110,Oe),(111,ndX)]) (y ns2 (y We (y ndt (y nzt (y HK (y nCT T)))))) func48 λb a _=>?_;replace a:Q (se.ct++(.i::(N.ct++[]))) b:=a;obtain⟨s,b,rfl,_,a⟩:=se.nX a;obtain⟨c,b,rfl,_,a⟩:=Q_ a;obtain⟨p,b,rfl,_,a⟩:=N.nX a;obtain rfl:=fi a;exact⟨0,Xy (nCp Vm.lf cp s c p)⟩
def eN:C:= {ps:=[⟨QI.ct,true⟩,⟨N.ct,true⟩],rs:=[⟨[.eV .bool],false⟩],fn:=λa=>(true,[.bool (U5 (QI.nd a 0) (N.nd a 18))])}
theorem nt6:Np hO 112 eN:=by refine R3 (Γ:=[(25,Y9),(60,Tb),(106,fa),(124,bL),(179,nma)]) (y mR (y We (y fF (y nui (y nfy T))))) func112 λb a _=>?_;obtain⟨s,b,rfl,_,a⟩:=QI.nX a;obtain⟨p,b,rfl,_,a⟩:=N.nX a;obtain rfl:=fi a;exact⟨0,Xy (nn2 Vm.lf bX s p)⟩
def neo:C:= {ps:=[⟨QI.ct,true⟩,⟨N.ct,true⟩],rs:=[⟨ngJ,true⟩],fn:=λa=>(true,QI.enc (jd (QI.nd a 0) (N.nd a 18)))}
theorem nrV:Np hO 113 neo:=by refine R3 (Γ:=[(112,eN)]) (y nt6 T) func113 λb a _=>?_;obtain⟨s,b,rfl,_,a⟩:=QI.nX a;obtain⟨p,b,rfl,_,a⟩:=N.nX a;obtain rfl:=fi a;exact⟨0,Xy (nb2 Vm.lf (λc=>((true,QI.enc c):B)) s p)⟩
def nbn:C:= {ps:=[⟨[.sl lU],false⟩,⟨v.ct,true⟩,⟨K,false⟩,⟨S.ct,true⟩,⟨sK,false⟩,⟨N.ct,true⟩,⟨Cl,false⟩],rs:=[⟨[.own 9 sK],true⟩,⟨tC,true⟩],fn:=λa=>(gu (df a 0) (v.nd a 1) (r a 2) (S.nd a 3) (Gi a 33) (N.nd a 34) (Dd a 50),v.enc (mY (df a 0) (v.nd a 1) (r a 2) (S.nd a 3) (Gi a 33) (N.nd a 34) (Dd a 50)).1++S.enc (mY (df a 0) (v.nd a 1) (r a 2) (S.nd a 3) (Gi a 33) (N.nd a 34) (Dd a 50)).2)}
theorem nEJ:Np hO 49 nbn:=by refine R3 (Γ:=[(26,xR),(51,Fg),(85,pE),(106,fa),(112,eN),(113,neo),(114,nAS)]) (y PL (y ne4 (y nT (y fF (y nt6 (y nrV (y ntb T))))))) func49 λc a d=>?_;replace a:Q ((.sl lU)::(v.ct++(.i::(S.ct++(.str::(N.ct++Cl)))))) c:=a;obtain⟨list_,c,rfl,_,a⟩:=Tf a;obtain⟨m,c,rfl,_,a⟩:=v.nX a;obtain⟨b,c,rfl,_,a⟩:=Q_ a;obtain⟨q,c,rfl,_,a⟩:=S.nX a;obtain⟨key,c,rfl,_,a⟩:=cO a;obtain⟨p,c,rfl,_,a⟩:=N.nX a;obtain⟨e,rfl,_⟩:=Vv a;exact⟨0,Xy (nhq Vm.lf (λf g=>((true,v.enc f++S.enc g):B)) list_ m b q key p e d)⟩
def np2:C:= {ps:=[⟨z.ct,true⟩,⟨sK,false⟩],rs:=[⟨NS,true⟩],fn:=λa=>(Xf (z.nd a 0) (Gi a 33),z.enc (rC (z.nd a 0) (Gi a 33)))}
theorem nsa:Np hO 17 np2:=by refine R3 (Γ:=[(9,Bw),(42,Yo),(46,Zv),(47,nA5),(48,nBu),(49,nbn),(50,lR)]) (y tV (y QW (y nos (y nd0 (y nnV (y nEJ (y naq T))))))) func17 λd b aN=>?_;obtain⟨h,d,rfl,c,b⟩:=z.nX b;obtain⟨a,rfl,_⟩:=Sd b;exact⟨0,Xy (nAd Vm.lf (λe=>((true,z.enc e):B)) h a c aN)⟩
def V4:C:= {ps:=[⟨[.sl [.int .u8]],false⟩],rs:=[],fn:=λa=>(true,w.enc (Yn (df a 0))),pt:=some (101,[.sl [.int .u8],.i,.i])}
def nx3:List (Nat×YJ):=[(3, {cx:=[(0,.AH),(3,.AH),(4,.AH)],boxes:=[]})]
def nA4:w→B:=(λa=>((true,w.enc a):B))
def nxJ(a:u)(h i:Int):E:= {n:=32,sl:=[(0,.sl [.int .u8] a),(3,p h),(4,p i)],hp:=[]}
theorem nfL:VF hO 12 V4 101 [.sl [.int .u8],.i,.i]:=by refine njG (A:=nx3) T func12 rfl (by kernel_rfl) (of_decide_eq_true (by kernel_rfl)) (of_decide_eq_true (by kernel_rfl)) λb c _=>?_;obtain⟨a,rfl,d⟩:=nh c;obtain⟨N,e⟩:=ncg Vm.lf nA4 a d;exact⟨N,BV (λf=>So Vm.lf nA4 f a) (rm (n7 hO [] nx3 N f12 V4 [true,true,false,true,false] []) (nxJ a) _ N) e⟩
def PS:C:= {ps:=[⟨w.ct,true⟩],rs:=[⟨[.eV .i],false⟩],fn:=λa=>(vl (w.nd a 0),[.int (E4 (w.nd a 0)).1]++w.enc (E4 (w.nd a 0)).2),ms:=[some (.box 101)]}
theorem nzr:fh hO 73 PS:=by refine aq (A:=[]) T func73 λb a aN=>?_;obtain⟨c,b,rfl,_,a⟩:=w.nX a;obtain rfl:=fi a;exact⟨0,Xy (hbF Vm.lf (λd e=>((true,[.int d]++w.enc e):B)) c aN)⟩
def bt:C:= {ps:=[⟨w.ct,true⟩,⟨K,false⟩],rs:=[⟨[.eV .i],false⟩],fn:=λa=>(pe (w.nd a 0) (r a 3),[.int (mz (w.nd a 0) (r a 3)).1]++w.enc (mz (w.nd a 0) (r a 3)).2),ms:=[some (.box 101),none]}
def ng1:Ctx:=[(73,PS)]
theorem nCl:qk hO ng1:=y nzr T
theorem NB:fh hO 35 bt:=by refine aq (A:=[]) nCl func35 λb a aN=>?_;obtain⟨c,b,rfl,_,a⟩:=w.nX a;obtain⟨n,rfl,_⟩:=Ap a;exact⟨0,Xy (nix Vm.lf (λd e=>((true,[.int d]++w.enc e):B)) c n aN)⟩
def pK:C:= {ps:=[⟨w.ct,true⟩,⟨K,false⟩],rs:=[⟨[.eV .bool],false⟩],fn:=λa=>(pe (w.nd a 0) (r a 3),[.bool (US (w.nd a 0) (r a 3)).1]++w.enc (US (w.nd a 0) (r a 3)).2),ms:=[some (.box 101),none]}
def nqT:Ctx:=[(35,bt)]
theorem ntD:qk hO nqT:=y NB T
theorem xZ:fh hO 33 pK:=by refine aq (A:=[]) ntD func33 λb a aN=>?_;obtain⟨c,b,rfl,_,a⟩:=w.nX a;obtain⟨n,rfl,_⟩:=Ap a;exact⟨0,Xy (nq8 Vm.lf (λd e=>((true,[.bool d]++w.enc e):B)) c n aN)⟩
def oM:C:= {ps:=[⟨w.ct,true⟩,⟨[.sl K],false⟩],rs:=[⟨[.eV .i],false⟩],fn:=λa=>(VE (w.nd a 0) (df a 3),[.int (Pv (w.nd a 0) (df a 3)).1]++w.enc (Pv (w.nd a 0) (df a 3)).2),ms:=[some (.box 101),none]}
def nrQ:Ctx:=[(35,bt)]
theorem nCN:qk hO nrQ:=y NB T
theorem YN:fh hO 38 oM:=by refine aq (A:=[]) nCN func38 λb a aN=>?_;obtain⟨c,b,rfl,_,a⟩:=w.nX a;obtain⟨list_,rfl,_⟩:=nh a;exact⟨0,Xy (noZ Vm.lf (λd e=>((true,[.int d]++w.enc e):B)) c list_ aN)⟩
def kL:C:= {ps:=[⟨w.ct,true⟩,⟨K,false⟩],rs:=[⟨[.eV .str],false⟩],fn:=λa=>(pe (w.nd a 0) (r a 3),[.str (GF (w.nd a 0) (r a 3)).1]++w.enc (GF (w.nd a 0) (r a 3)).2),ms:=[some (.box 101),none]}
def nzv:Ctx:=[(73,PS)]
theorem noE:qk hO nzv:=y nzr T
def ndz:List (Nat×YJ):=[(5, {cx:=[(0,.AH),(1,.AH),(5,.AH),(6,.AH)],boxes:=[(320000000,[])]})]
def ntu:x→w→B:=(λa b=>((true,[.str a]++w.enc b):B))
def nAU(a i:Int)(b:u)(c d:Int)(e:u):E:= {n:=1099511627799,sl:=[(0,.ptr 320000000 0),(1,p a),(5,.own 640320),(6,p i)],hp:=[(320000000,.box 101 [.sl [.int .u8] b,p c,p d]),(640320,.row 5 [.int .u8] e false true)]}
theorem WY:fh hO 36 kL:=by refine aq (A:=ndz) noE func36 λd a aN=>?_;obtain⟨c,d,rfl,_,a⟩:=w.nX a;obtain⟨n,rfl,_⟩:=Ap a;obtain⟨N,e⟩:=nxQ Vm.lf ntu c n aN;exact⟨N,BV (λf=>nwe Vm.lf ntu f c n) (funext λb=>WK (yS hO nzv ndz N f36 kL [true,true,true,false,true,false] []) (nAU b) _ N) e⟩
def nAc:C:= {ps:=[⟨[.sl [.int .u8]],false⟩],rs:=[⟨[.eV .bool],false⟩],fn:=λa=>(true,[.bool (QZ (df a 0))])}
theorem nlH:Np hO 5 nAc:=by refine R3 T func5 λb c _=>?_;obtain⟨a,rfl,_⟩:=nh c;exact⟨0,Xy (nj7 bX a)⟩
def Gn:C:= {ps:=[⟨w.ct,true⟩],rs:=[⟨[.eV .i],false⟩],fn:=λa=>(ZL (w.nd a 0),[.int (rB (w.nd a 0)).1]++w.enc (rB (w.nd a 0)).2),ms:=[some (.box 101)]}
def nhl:Ctx:=[(35,bt)]
theorem nbt:qk hO nhl:=y NB T
theorem Wa:fh hO 74 Gn:=by refine aq (A:=[]) nbt func74 λb a aN=>?_;obtain⟨c,b,rfl,_,a⟩:=w.nX a;obtain rfl:=fi a;exact⟨0,Xy (nwM Vm.lf (λd e=>((true,[.int d]++w.enc e):B)) c aN)⟩
def noW:C:= {ps:=[⟨w.ct,true⟩],rs:=[⟨[.eV .i],false⟩],fn:=λa=>(KL (w.nd a 0),[.int (B7 (w.nd a 0)).1]++w.enc (B7 (w.nd a 0)).2),ms:=[some (.box 101)]}
def nDH:Ctx:=[(38,oM)]
theorem nb5:qk hO nDH:=y YN T
theorem nmA:fh hO 139 noW:=by refine aq (A:=[]) nb5 func139 λb a aN=>?_;obtain⟨c,b,rfl,_,a⟩:=w.nX a;obtain rfl:=fi a;exact⟨0,Xy (nzR Vm.lf (λd e=>((true,[.int d]++w.enc e):B)) c aN)⟩
def ncf:C:= {ps:=[⟨w.ct,true⟩,⟨K,false⟩],rs:=[⟨nu9,true⟩],fn:=λa=>(Bt (w.nd a 0) (r a 3),EP.enc (yM (w.nd a 0) (r a 3)).1++w.enc (yM (w.nd a 0) (r a 3)).2),ms:=[some (.box 101),none]}
def njC:Ctx:=[(33,pK),(35,bt),(36,kL),(38,oM),(139,noW)]
theorem nrO:qk hO njC:=y xZ (y NB (y WY (y YN (y nmA T))))
theorem nnO:fh hO 75 ncf:=by refine aq (A:=[]) nrO func75 λd b aN=>?_;obtain⟨c,d,rfl,_,b⟩:=w.nX b;obtain⟨a,rfl,_⟩:=Ap b;exact⟨0,Xy (nsK Vm.lf (λe f=>((true,EP.enc e++w.enc f):B)) c a aN)⟩
def nnb:C:= {ps:=[⟨w.ct,true⟩,⟨K,false⟩],rs:=[⟨wU,true⟩],fn:=λa=>(Ef (w.nd a 0) (r a 3),N.enc (W8 (w.nd a 0) (r a 3)).1++w.enc (W8 (w.nd a 0) (r a 3)).2),ms:=[some (.box 101),none]}
def ngm:Ctx:=[(33,pK),(35,bt),(36,kL),(38,oM),(74,Gn),(75,ncf)]
theorem nEh:qk hO ngm:=y xZ (y NB (y WY (y YN (y Wa (y nnO T)))))
theorem nkM:fh hO 37 nnb:=by refine aq (A:=[]) nEh func37 λd b aN=>?_;obtain⟨c,d,rfl,_,b⟩:=w.nX b;obtain⟨a,rfl,_⟩:=Ap b;exact⟨0,Xy (nCE Vm.lf (λe f=>((true,N.enc e++w.enc f):B)) c a aN)⟩
def nF_:C:= {ps:=[⟨w.ct,true⟩],rs:=[⟨[.eV .str],false⟩],fn:=λa=>(vl (w.nd a 0),[.str (kj (w.nd a 0)).1]++w.enc (kj (w.nd a 0)).2),ms:=[some (.box 101)]}
def fsN:Ctx:=[(36,kL)]
theorem nGe:qk hO fsN:=y WY T
theorem nBj:fh hO 198 nF_:=by refine aq (A:=[]) nGe func198 λb a aN=>?_;obtain⟨c,b,rfl,_,a⟩:=w.nX a;obtain rfl:=fi a;exact⟨0,Xy (nbz Vm.lf (λd e=>((true,[.str d]++w.enc e):B)) c aN)⟩
def nun:C:= {ps:=[⟨w.ct,true⟩],rs:=[⟨dw,true⟩],fn:=λa=>(vl (w.nd a 0),Ve.enc (VX (w.nd a 0)).1++w.enc (VX (w.nd a 0)).2),ms:=[some (.box 101)]}
def nED:Ctx:=[(35,bt),(38,oM),(74,Gn)]
theorem net:qk hO nED:=y NB (y YN (y Wa T))
theorem nCr:fh hO 143 nun:=by refine aq (A:=[]) net func143 λb a aN=>?_;obtain⟨c,b,rfl,_,a⟩:=w.nX a;obtain rfl:=fi a;exact⟨0,Xy (nEE Vm.lf (λd e=>((true,Ve.enc d++w.enc e):B)) c aN)⟩
def nE7:C:= {ps:=[⟨w.ct,true⟩],rs:=[⟨[.eV .i,.eV .bool,.own 3 K],true⟩],fn:=λa=>(vl (w.nd a 0),QD.enc (wM (w.nd a 0)).1++w.enc (wM (w.nd a 0)).2),ms:=[some (.box 101)]}
def nEe:Ctx:=[(33,pK)]
theorem nAE:qk hO nEe:=y xZ T
theorem nDU:fh hO 78 nE7:=by refine aq (A:=[]) nAE func78 λb a aN=>?_;obtain⟨c,b,rfl,_,a⟩:=w.nX a;obtain rfl:=fi a;exact⟨0,Xy (njl Vm.lf (λd e=>((true,QD.enc d++w.enc e):B)) c aN)⟩
def nw4:C:= {ps:=[⟨w.ct,true⟩],rs:=[⟨[.eV .i,.eV .i,.eV .i,.eV .i,.eV .i,.eV .i,.eV .i,.eV .i,.eV .i],true⟩],fn:=λa=>(vl (w.nd a 0),ao.enc (Vh (w.nd a 0)).1++w.enc (Vh (w.nd a 0)).2),ms:=[some (.box 101)]}
def nEw:Ctx:=[(35,bt),(38,oM),(74,Gn)]
theorem nrC:qk hO nEw:=y NB (y YN (y Wa T))
theorem nwx:fh hO 199 nw4:=by refine aq (A:=[]) nrC func199 λb a aN=>?_;obtain⟨c,b,rfl,_,a⟩:=w.nX a;obtain rfl:=fi a;exact⟨0,Xy (neV Vm.lf (λd e=>((true,ao.enc d++w.enc e):B)) c aN)⟩
def nw8:C:= {ps:=[],rs:=[⟨[.own 151 Zi],true⟩],fn:=λa=>(true,mB.enc P4)}
theorem niy:Np hO 79 nw8:=by refine R3 T func79 λc a _=>?_;obtain rfl:=fi a;exact⟨0,Xy (nlI (λb=>((true,mB.enc b):B)))⟩
def noH:C:= {ps:=[⟨Cl,false⟩],rs:=[⟨[.eV .i],false⟩],fn:=λa=>(true,[.int (gU (Dd a 0))])}
theorem ncR:Np hO 8 noH:=by refine R3 T func8 λa c _=>?_;obtain⟨b,rfl,_⟩:=Vv c;exact⟨0,Xy (nbu cp b)⟩
def nqQ:C:= {ps:=[⟨Ue.ct,true⟩],rs:=[⟨[.eV .i],false⟩],fn:=λa=>(true,[.int (iy (Ue.nd a 0))])}
theorem nm5:Np hO 11 nqQ:=by refine R3 (Γ:=[(28,Ux)]) (y OX T) func11 λb a _=>?_;obtain⟨v,b,rfl,_,a⟩:=Ue.nX a;obtain rfl:=fi a;exact⟨0,Xy (nyO cp v)⟩
def noP:C:= {ps:=[⟨[.sl lU],false⟩,⟨v.ct,true⟩,⟨K,false⟩,⟨S.ct,true⟩],rs:=[⟨[.eV .bool],false⟩],fn:=λa=>(true,[.bool (SV (df a 0) (v.nd a 1) (r a 2) (S.nd a 3))])}
theorem nnA:Np hO 10 noP:=by refine R3 (Γ:=[(26,xR),(30,ph)]) (y PL (y nu0 T)) func10 λc a _=>?_;replace a:Q ((.sl lU)::(v.ct++(.i::(S.ct++[])))) c:=a;obtain⟨list_,c,rfl,_,a⟩:=Tf a;obtain⟨m,c,rfl,_,a⟩:=v.nX a;obtain⟨b,c,rfl,_,a⟩:=Q_ a;obtain⟨q,c,rfl,_,a⟩:=S.nX a;obtain rfl:=fi a;exact⟨0,Xy (nAP bX list_ m b q)⟩
def Xx:C:= {ps:=[⟨w.ct,true⟩],rs:=[⟨[.own 147 uz],false⟩],fn:=λa=>(vl (w.nd a 0),[.sl (Dj (w.nd a 0)).1]++w.enc (Dj (w.nd a 0)).2),ms:=[some (.box 101)]}
def nzY:Ctx:=[(35,bt),(199,nw4)]
theorem rpF:qk hO nzY:=y NB (y nwx T)
def nAv:List (Nat×YJ):=[(3, {cx:=[(0,.AH),(3,.AH),(4,.AH)],boxes:=[(320000000,[])]})]
def nDX:u→w→B:=(λa b=>((true,[.sl a]++w.enc b):B))
def nvb(k:Int)(a:u)(b c:Int)(d:u):E:= {n:=1099511627794,sl:=[(0,.ptr 320000000 0),(3,.own 640192),(4,p k)],hp:=[(320000000,.box 101 [.sl [.int .u8] a,p b,p c]),(640192,.row 147 uz d false true)]}
theorem noC:fh hO 141 Xx:=by refine aq (A:=nAv) rpF func141 λb a aN=>?_;obtain⟨c,b,rfl,_,a⟩:=w.nX a;obtain rfl:=fi a;obtain⟨N,d⟩:=nht Vm.lf nDX c aN;exact⟨N,BV (λe=>ndr Vm.lf nDX e c) (WK (yS hO nzY nAv N f141 Xx [true,true,false,true,false] []) (nvb) _ N) d⟩
def ndn:C:= {ps:=[⟨w.ct,true⟩],rs:=[⟨[.eV .str,.own 3 K],true⟩,⟨[.eV .i],false⟩],fn:=λa=>(vl (w.nd a 0),iI.enc (yt (w.nd a 0)).1++[.int (yt (w.nd a 0)).2.1]++w.enc (yt (w.nd a 0)).2.2),ms:=[some (.box 101)]}
def nB4:Ctx:=[(35,bt),(38,oM),(198,nF_)]
theorem nf_:qk hO nB4:=y NB (y YN (y nBj T))
def nzJ:List (Nat×YJ):=[(4, {cx:=[(0,.AH),(2,.AH),(4,.AH),(5,.AH),(6,.AH)],boxes:=[(320000000,[]),(128,[]),(320,[(1,.own 3)])]})]
def npB:iI→Int→w→B:=(λa b c=>((true,iI.enc a++[.int b]++w.enc c):B))
def nhb(a k:Int)(b:u)(c d:Int)(e s:x)(f:u):E:= {n:=1099511627806,sl:=[(0,.ptr 320000000 0),(2,.ptr 128 0),(4,p a),(5,.ptr 320 0),(6,p k)],hp:=[(320000000,.box 101 [.sl [.int .u8] b,p c,p d]),(128,.box 47 [.str e,.nil]),(320,.box 47 [.str s,.own 1361921]),(1361921,.row 3 K f false true)]}
theorem noo:fh hO 140 ndn:=by refine aq (A:=nzJ) nf_ func140 λb a aN=>?_;obtain⟨c,b,rfl,_,a⟩:=w.nX a;obtain rfl:=fi a;obtain⟨N,d⟩:=njU Vm.lf npB c aN;exact⟨N,BV (λe=>f0 Vm.lf npB e c) (funext λf=>funext λs=>WK (yS hO nB4 nzJ N f140 ndn [true,true,true,false,true,false] []) (λk g h i j=>nhb f k g h i [] s j) _ N) d⟩
def dI:C:= {ps:=[⟨w.ct,true⟩,⟨[.sl t8],false⟩],rs:=[⟨[.own 170 qJ],false⟩],fn:=λa=>(qu (w.nd a 0) (df a 3),[.sl (Yz (w.nd a 0) (df a 3)).1]++w.enc (Yz (w.nd a 0) (df a 3)).2),ms:=[some (.box 101),none]}
def nAN:Ctx:=[(33,pK),(38,oM),(83,Oe),(84,Rd)]
theorem nwA:qk hO nAN:=y xZ (y YN (y nrP (y nsR T)))
def nnT:List (Nat×YJ):=[(3, {cx:=[(0,.AH),(1,.AH),(5,.AH),(6,.AH)],boxes:=[(320000000,[])]})]
def nGq:u→w→B:=(λa b=>((true,[.sl a]++w.enc b):B))
def nDS(a:u)(k:Int)(b:u)(c d:Int)(e:u):E:= {n:=1099511627829,sl:=[(0,.ptr 320000000 0),(1,.sl t8 a),(5,.own 640320),(6,p k)],hp:=[(320000000,.box 101 [.sl [.int .u8] b,p c,p d]),(640320,.row 170 qJ e false true)]}
theorem nzd:fh hO 41 dI:=by refine aq (A:=nnT) nwA func41 λd a aN=>?_;obtain⟨c,d,rfl,_,a⟩:=w.nX a;obtain⟨b,rfl,_⟩:=nh a;obtain⟨N,e⟩:=cpR Vm.lf nGq c b aN;exact⟨N,BV (λf=>wW Vm.lf nGq f c b) (WK (yS hO nAN nnT N f41 dI [true,true,false,true,false] []) (nDS b) _ N) e⟩
def Xw:C:= {ps:=[⟨mB.ct,true⟩,⟨Ve.ct,true⟩,⟨K,false⟩],rs:=[⟨[.own 151 Zi],true⟩,⟨[.eV .bool],false⟩],fn:=λa=>(HO (mB.nd a 0) (Ve.nd a 1) (r a 6),mB.enc (Zq (mB.nd a 0) (Ve.nd a 1) (r a 6)).1++[.bool (Zq (mB.nd a 0) (Ve.nd a 1) (r a 6)).2])}
def njO:Ctx:=[(145,Y9),(200,AY),(201,fr),(202,oR),(203,ld)]
theorem nAo:qk hO njO:=y iH (y nCU (y njc (y nAq (y neS T))))
def nEN:List (Nat×YJ):=[(6, {cx:=[(2,.AH),(3,.AH),(4,.AH),(6,.AH),(8,.AH),(9,.AH),(10,.AH)],boxes:=[(192,[]),(256,[]),(384,[]),(512,[])]})]
def nh4:mB→Bool→B:=(λa b=>((true,mB.enc a++[.bool b]):B))
def nC6(a i k:Int)(b:u)(c d e f g:Int)(h:u):E:= {n:=58,sl:=[(2,p a),(3,.ptr 192 0),(4,.ptr 256 0),(6,.ptr 384 0),(8,.ptr 512 0),(9,p i),(10,p k)],hp:=[(192,.box 45 [.sl Zi b]),(256,.box 149 [p c,p d,p e,p f,p g]),(384,.box 45 [.nil]),(512,.box 45 [.own 1411072]),(1411072,.row 151 Zi h false true)]}
theorem nDz:Np hO 142 Xw:=by refine a0 (A:=nEN) nAo func142 λc b d=>?_;replace b:Q (mB.ct++(Ve.ct++K)) c:=b;obtain⟨t,c,rfl,_,b⟩:=mB.nX b;obtain⟨f,c,rfl,_,b⟩:=Ve.nX b;obtain⟨a,rfl,_⟩:=Ap b;obtain⟨N,e⟩:=nty Vm.lf nh4 t f a d;exact⟨N,BV (λg=>nwW Vm.lf nh4 g t f a) (funext λh=>funext λj=>funext λl=>funext λm=>funext λn=>funext λo=>funext λp=>rm (n7 hO njO nEN N f142 Xw [true,true,true,true,false,true,false] []) (λi k=>nC6 a i k h j l m n o p) _ N) e⟩
def Di:C:= {ps:=[⟨w.ct,true⟩,⟨K,false⟩],rs:=[⟨[.own 63 t8],false⟩],fn:=λa=>(bC (w.nd a 0) (r a 3),[.sl (s_ (w.nd a 0) (r a 3)).1]++w.enc (s_ (w.nd a 0) (r a 3)).2),ms:=[some (.box 101),none]}
def ndN:Ctx:=[(33,pK),(35,bt),(36,kL),(37,nnb),(38,oM)]
theorem nA2:qk hO ndN:=y xZ (y NB (y WY (y nkM (y YN T))))
def nvm:List (Nat×YJ):=[(5, {cx:=[(0,.AH),(5,.AH),(6,.AH),(7,.AH),(8,.AH)],boxes:=[(320000000,[]),(384,[])]})]
def nA:u→w→B:=(λa b=>((true,[.sl a]++w.enc b):B))
def o7(size k:Int)(a:u)(b c Y d e f g h j l m o q r s t Z:Int)(v:x)(w:u):E:= {n:=1099511627853,sl:=[(0,.ptr 320000000 0),(5,.own 640320),(6,.ptr 384 0),(7,p size),(8,p k)],hp:=[(320000000,.box 101 [.sl [.int .u8] a,p b,p c]),(384,.box 63 [p Y,p d,p e,p f,p g,p h,p j,p l,p m,p o,p q,p r,p s,p t,p Z,.str v]),(640320,.row 63 t8 w false true)]}
noncomputable def ngw(N:Nat):(E→B)→E→B:=yS hO ndN nvm N f31 Di [true,true,true,true,false,true,false] []
theorem nsZ(N:Nat)(v:E→B)(size k:Int)(a:u)(b c p d e f g h i j l m n o q r s:Int)(t:x)(Z:u):ngw N v (o7 size k a b c p d e f g h i j l m n o q r s t Z)=zF Vm.lf nA (λsize k a b c p d e f g h i j l m n o q r s t Z=>v (o7 size k a b c p d e f g h i j l m n o q r s t Z)) size k a b c p d e f g h i j l m n o q r s t Z:=by kernel_rfl
theorem nr9(N a:Nat):(λsize k b c d p e f g h i j l m n o q r s t u v=>VB (ngw N) a (o7 size k b c d p e f g h i j l m n o q r s t u v))=Vo Vm.lf nA N a:=by
 induction a with
 | zero=>rfl
 | succ a w=>
  funext size k b c d p e f g h i j l m n o q r s t u v;refine (nsZ N (VB (ngw N) a) size k b c d p e f g h i j l m n o q r s t u v).trans ?_;rw[w];rfl
theorem neT:fh hO 31 Di:=by refine aq (A:=nvm) nA2 func31 λd b aN=>?_;obtain⟨c,d,rfl,_,b⟩:=w.nX b;obtain⟨a,rfl,_⟩:=Ap b;obtain⟨N,e⟩:=nqk Vm.lf nA c a aN;refine⟨N,Eq.trans ?_ (e.trans (by kernel_rfl))⟩;unfold yn;rw[←nr9 N N];kernel_rfl
def Fw:C:= {ps:=[⟨w.ct,true⟩],rs:=[⟨[.own 147 uz,.own 151 Zi,.eV .str,.own 3 K],true⟩,⟨[.eV .i],false⟩],fn:=λa=>(vl (w.nd a 0),se.enc (ng (w.nd a 0)).1++[.int (ng (w.nd a 0)).2.1]++w.enc (ng (w.nd a 0)).2.2),ms:=[some (.box 101)]}
def Y8:Ctx:=[(33,pK),(35,bt),(79,nw8),(140,ndn),(141,Xx),(142,Xw),(143,nun)]
theorem ne_:qk hO Y8:=y xZ (y NB (y niy (y noo (y noC (y nDz (y nCr T))))))
def X6:List (Nat×YJ):=[(7, {cx:=[(0,.AH),(2,.AH),(4,.AH),(6,.AH),(7,.AH)],boxes:=[(320000000,[]),(128,[]),(256,[(0,.own 147)])]}),(11, {cx:=[(0,.AH),(2,.AH),(4,.AH),(6,.AH),(8,.AH)],boxes:=[(320000000,[]),(128,[]),(256,[])]})]
def kW:se→Int→w→B:=(λa b c=>((true,se.enc a++[.int b]++w.enc c):B))
def Fa(a k:Int)(b:u)(c d:Int)(e s:x)(f g h:u):E:= {n:=1099511627839,sl:=[(0,.ptr 320000000 0),(2,.ptr 128 0),(4,.ptr 256 0),(6,p a),(7,p k)],hp:=[(320000000,.box 101 [.sl [.int .u8] b,p c,p d]),(128,.box 49 [.nil,.nil,.str e,.nil]),(256,.box 49 [.own 1345536,.own 1345537,.str s,.own 1345539]),(1345536,.row 147 uz f false true),(1345537,.row 151 Zi g false true),(1345539,.row 3 K h false true)]}
def B8(b a:Int)(c:u)(d e:Int)(f s:x)(g h j:u):E:= {n:=1099511627839,sl:=[(0,.ptr 320000000 0),(2,.ptr 128 0),(4,.ptr 256 0),(6,p b),(8,p a)],hp:=[(320000000,.box 101 [.sl [.int .u8] c,p d,p e]),(128,.box 49 [.nil,.nil,.str f,.nil]),(256,.box 49 [.own 1345536,.own 1345537,.str s,.own 1345539]),(1345536,.row 147 uz g false true),(1345537,.row 151 Zi h false true),(1345539,.row 3 K j false true)]}
noncomputable def kT(N:Nat):(E→B)→E→B:=yS hO Y8 X6 N f76 Fw [true,true,true,true,true,true,false,true,false] []
noncomputable def VL(N:Nat):(E→B)→E→B:=yS hO Y8 X6 N f76 Fw [true,true,true,true,true,false,true,false] []
theorem ncb(N:Nat)(f:Int)(i s:x)(g h:u)(j:E→B)(a:Int)(b:u)(c d:Int)(e:u):kT N j (B8 f a b c d i s g e h)=eA Vm.lf kW f s g h (λa b c d e=>j (B8 f a b c d i s g e h)) a b c d e:=by kernel_rfl
theorem nd7(N:Nat)(c:Int)(j s:x)(d e:u)(b:Nat):(λa f g h i=>VB (kT N) b (B8 c a f g h j s d i e))=xQ Vm.lf kW N c s d e b:=by
 induction b with
 | zero=>rfl
 | succ b k=>
  funext a f g h i;refine (ncb N c j s d e (VB (kT N) b) a f g h i).trans ?_;rw[k];rfl
theorem nD7(N:Nat)(b:Int)(d:u)(e f:Int)(g s:x)(h c:u)(j:E→B)(k:Int)(a:u):VL N j (Fa b k d e f g s a h c)=bQ Vm.lf kW (λa i l m n o=>VB (kT N) N (B8 b i l m n g s a o c)) b d e f s h c (λk a=>j (Fa b k d e f g s a h c)) k a:=by kernel_rfl
theorem nbA(N:Nat)(c:Int)(e:u)(f g:Int)(h s:x)(i d:u)(a:Nat):(λk b=>VB (VL N) a (Fa c k e f g h s b i d))=gy Vm.lf kW N c e f g s i d a:=by
 induction a with
 | zero=>rfl
 | succ a j=>
  funext k b;refine (nD7 N c e f g h s i d (VB (VL N) a) k b).trans ?_;have l:=funext λb=>nd7 N c h s b d N;rw[l];rw[j];rfl
theorem nfb(N:Nat)(c:w):P7 hO Y8 X6 N f76 Fw (c.enc++([]))=DK Vm.lf kW N c:=by
 have h:P7 hO Y8 X6 N f76 Fw (c.enc++([]))=tn Vm.lf kW (λa b d e s f g k i=>VB (VL N) N (Fa a k b d e [] s i f g)) c:=by kernel_rfl
 refine h.trans ?_;unfold DK;have j:(λa b d e s f g k i=>VB (VL N) N (Fa a k b d e [] s i f g))=(λa b d e s f g=>gy Vm.lf kW N a b d e s f g N):=by funext a b d e s f g;exact nbA N a b d e [] s f g N
 exact congrArg (λl=>tn Vm.lf kW l c) j
theorem nhe:fh hO 76 Fw:=by refine aq (A:=X6) ne_ func76 λb a aN=>?_;obtain⟨c,b,rfl,_,a⟩:=w.nX a;obtain rfl:=fi a;obtain⟨N,d⟩:=nay Vm.lf kW c aN;exact⟨N,((nfb N c).trans d).trans (by kernel_rfl)⟩
def gM:C:= {ps:=[⟨w.ct,true⟩],rs:=[⟨NS,true⟩],fn:=λa=>(vl (w.nd a 0),z.enc (Sh (w.nd a 0)).1++w.enc (Sh (w.nd a 0)).2),ms:=[some (.box 101)]}
def Tj:Ctx:=[(35,bt),(76,Fw),(77,Qx),(78,nE7),(79,nw8),(80,MK)]
theorem nfl:qk hO Tj:=y NB (y nhe (y nCK (y nDU (y niy (y lu T)))))
def uQ:List (Nat×YJ):=[(2, {cx:=[(0,.AH),(2,.AH),(3,.AH)],boxes:=[(320000000,[]),(128,[])]}),(6, {cx:=[(0,.AH),(2,.AH),(3,.AH),(4,.AH),(5,.AH),(6,.AH)],boxes:=[(320000000,[]),(128,[]),(256,[])]})]
def Qu:z→w→B:=(λa b=>((true,z.enc a++w.enc b):B))
def OK(k:Int)(a:u)(b c d e f g h i j l m:Int)(o:Bool)(Y:x)(q:Bool)(r s t Z v:Int):E:= {n:=1099511627837,sl:=[(0,.ptr 320000000 0),(2,.ptr 128 0),(3,p k)],hp:=[(320000000,.box 101 [.sl [.int .u8] a,p b,p c]),(128,.box 54 [.nil,.nil,p d,p e,p f,p g,p h,p i,p j,.nil,.nil,p l,.nil,.nil,.nil,.nil,p m,.bool o,.nil,.nil,.nil,.str Y,.nil,.nil,.bool q,.nil,.nil,.nil,p r,p s,p t,p Z,p v])]}
def WE(k a i:Int)(b:u)(c d e f g h j l m o Y:Int)(q:Bool)(r:x)(t:Bool)(Z v w X y:Int)(s:x)(z A B:u):E:= {n:=1099511627837,sl:=[(0,.ptr 320000000 0),(2,.ptr 128 0),(3,p k),(4,.ptr 256 0),(5,p a),(6,p i)],hp:=[(320000000,.box 101 [.sl [.int .u8] b,p c,p d]),(128,.box 54 [.nil,.nil,p e,p f,p g,p h,p j,p l,p m,.nil,.nil,p o,.nil,.nil,.nil,.nil,p Y,.bool q,.nil,.nil,.nil,.str r,.nil,.nil,.bool t,.nil,.nil,.nil,p Z,p v,p w,p X,p y]),(256,.box 49 [.own 1345536,.own 1345537,.str s,.own 1345539]),(1345536,.row 147 uz z false true),(1345537,.row 151 Zi A false true),(1345539,.row 3 K B false true)]}
noncomputable def xj(N:Nat)(a:E→B):(E→B)→E→B:=yS hO Tj uQ N f39 gM [true,false,true,false,false,true,false,false,true,false,true,false] [a]
noncomputable def vB(N:Nat):(E→B)→E→B:=yS hO Tj uQ N f39 gM [true,false,true,false] []
theorem nir(N:Nat)(X:E→B)(k b:Int)(c:u)(d e f g h j l m n o p:Int)(q:Bool)(r:x)(t:Bool)(Z v w Y y:Int)(s:x)(z A:u)(C:E→B)(i:Int)(a:u):xj N X C (WE k b i c d e f g h j l m n o p q r t Z v w Y y s a z A)=Bx Vm.lf Qu (λk D W F=>X (OK k D W F f g h j l m n o p q r t Z v w Y y)) k b c d e s z A (λi a=>C (WE k b i c d e f g h j l m n o p q r t Z v w Y y s a z A)) i a:=by kernel_rfl
theorem nli(N:Nat)(b:E→B)(k c:Int)(d:u)(e f g h j l m n o p q:Int)(r:Bool)(t:x)(Z:Bool)(v w Y y z:Int)(s:x)(A X:u)(a:Nat):(λi C=>VB (xj N b) a (WE k c i d e f g h j l m n o p q r t Z v w Y y z s C A X))=Wm Vm.lf Qu N (λk D W F=>b (OK k D W F g h j l m n o p q r t Z v w Y y z)) k c d e f s A X a:=by
 induction a with
 | zero=>rfl
 | succ a G=>
  funext i C;refine (nir N b k c d e f g h j l m n o p q r t Z v w Y y z s A X (VB (xj N b) a) i C).trans ?_;rw[G];rfl
theorem hsV(N:Nat)(d e f g h j l m n:Int)(o:Bool)(p:x)(q:Bool)(r t Z v w:Int)(Y:E→B)(k:Int)(a:u)(b c:Int):vB N Y (OK k a b c d e f g h j l m n o p q r t Z v w)=lN Vm.lf Qu (λk y z A X s C D i W=>VB (xj N Y) N (WE k y i z A X d e f g h j l m n o p q r t Z v w s W C D)) (λk a b c=>Y (OK k a b c d e f g h j l m n o p q r t Z v w)) k a b c:=by kernel_rfl
theorem ndQ(N:Nat)(b c d e f g h i j:Int)(l:Bool)(m:x)(n:Bool)(o p q r t:Int)(a:Nat):(λk u v w=>VB (vB N) a (OK k u v w b c d e f g h i j l m n o p q r t))=yR Vm.lf Qu N a:=by
 induction a with
 | zero=>rfl
 | succ a Z=>
  funext k u v w;refine (hsV N b c d e f g h i j l m n o p q r t (VB (vB N) a) k u v w).trans ?_;have y:=funext λk=>funext λz=>funext λA=>funext λB=>funext λC=>funext λs=>funext λD=>funext λE=>nli N (VB (vB N) a) k z A B C b c d e f g h i j l m n o p q r t s D E N;rw[y];rw[Z];rfl
theorem nBX:fh hO 39 gM:=by refine aq (A:=uQ) nfl func39 λb a aN=>?_;obtain⟨c,b,rfl,_,a⟩:=w.nX a;obtain rfl:=fi a;obtain⟨N,d⟩:=nCf Vm.lf Qu c aN;refine⟨N,Eq.trans ?_ (d.trans (by kernel_rfl))⟩;unfold nJ;rw[←ndQ N 0 0 0 0 0 0 0 0 0 false [] false 0 0 0 0 0 N];kernel_rfl
def T8:C:= {ps:=[⟨w.ct,true⟩,⟨Cl,false⟩],rs:=[⟨[.own 65 Zu],false⟩],fn:=λa=>(oY (w.nd a 0) (Dd a 3),[.sl (tg (w.nd a 0) (Dd a 3)).1]++w.enc (tg (w.nd a 0) (Dd a 3)).2),ms:=[some (.box 101),none]}
def njw:Ctx:=[(31,Di),(32,Wr),(33,pK),(34,CJ),(35,bt),(36,kL),(37,nnb),(38,oM)]
theorem ngk:qk hO njw:=y neT (y naZ (y xZ (y N7 (y NB (y WY (y nkM (y YN T)))))))
def npc:List (Nat×YJ):=[(4, {cx:=[(0,.AH),(1,.AH),(5,.AH),(6,.AH),(7,.AH)],boxes:=[(320000000,[])]})]
def no9:u→w→B:=(λa b=>((true,[.sl a]++w.enc b):B))
def npM(a:Bool)(k:Int)(b:u)(c d:Int)(e list_:u):E:= {n:=1099511627872,sl:=[(0,.ptr 320000000 0),(1,.bool a),(5,.own 640320),(6,.own 640384),(7,p k)],hp:=[(320000000,.box 101 [.sl [.int .u8] b,p c,p d]),(640320,.row 65 Zu e false true),(640384,.row 63 t8 list_ false true)]}
theorem nj3:fh hO 13 T8:=by refine aq (A:=npc) ngk func13 λd a aN=>?_;obtain⟨c,d,rfl,_,a⟩:=w.nX a;obtain⟨b,rfl,_⟩:=Vv a;obtain⟨N,e⟩:=nc4 Vm.lf no9 c b aN;exact⟨N,BV (λf=>nry Vm.lf no9 f c b) (funext λlist_=>WK (yS hO njw npc N f13 T8 [true,true,true,false,true,false] []) (λk g h i j=>npM b k g h i j list_) _ N) e⟩
def nEI:C:= {ps:=[⟨w.ct,true⟩,⟨[.sl Zu],false⟩],rs:=[⟨NS,true⟩],fn:=λa=>(oD (w.nd a 0) (df a 3),z.enc (Fc (w.nd a 0) (df a 3)).1++w.enc (Fc (w.nd a 0) (df a 3)).2),ms:=[some (.box 101),none]}
def nCy:Ctx:=[(39,gM),(40,Zv),(41,dI)]
theorem nwO:qk hO nCy:=y nBX (y np5 (y nzd T))
def nll:List (Nat×YJ):=[(4, {cx:=[(0,.AH),(1,.AH),(4,.AH),(5,.AH),(6,.AH),(7,.AH)],boxes:=[(320000000,[]),(256,[]),(320,[])]})]
def nFJ:z→w→B:=(λa b=>((true,z.enc a++w.enc b):B))
def nv1(w:u)(k:Int)(abR:u)(y z A a b c d e f g j:Int)(l:Bool)(m:x)(o:Bool)(abl q r s t h B aaM C D adn F G H:Int)(I:Bool)(J:x)(ae8:Bool)(L M N O P:Int)(Q v R S T U V W X Y Z pR pT qy sF rf rh:u):E:= {n:=1099511627815,sl:=[(0,.ptr 320000000 0),(1,.sl Zu w),(4,.ptr 256 0),(5,.ptr 320 0),(6,.own 640384),(7,p k)],hp:=[(320000000,.box 101 [.sl [.int .u8] abR,p y,p z]),(256,.box 54 [.nil,.nil,p A,p a,p b,p c,p d,p e,p f,.nil,.nil,p g,.nil,.nil,.nil,.nil,p j,.bool l,.nil,.nil,.nil,.str m,.nil,.nil,.bool o,.nil,.nil,.nil,p abl,p q,p r,p s,p t]),(320,.box 54 [.own 1361920,.own 1361921,p h,p B,p aaM,p C,p D,p adn,p F,.own 1361929,.own 1361930,p G,.own 1361932,.own 1361933,.own 1361934,.own 1361935,p H,.bool I,.own 1361938,.own 1361939,.own 1361940,.str J,.own 1361942,.own 1361943,.bool ae8,.own 1361945,.own 1361946,.own 1361947,p L,p M,p N,p O,p P]),(640384,.row 63 t8 Q false true),(1361920,.row 9 sK v false true),(1361921,.row 134 lU R false true),(1361929,.row 3 K S false true),(1361930,.deep 138 [.i,.i,.sl K] [3] T none),(1361932,.row 74 au U false true),(1361933,.deep 32 [.i,.i,.i,.sl K] [3] V none),(1361934,.row 77 EJ W false true),(1361935,.row 4 Cl X false true),(1361938,.row 3 K Y false true),(1361939,.row 147 uz Z false true),(1361940,.row 151 Zi pR false true),(1361942,.row 3 K pT false true),(1361943,.row 170 qJ qy false true),(1361945,.row 9 sK sF false true),(1361946,.row 3 K rf false true),(1361947,.row 3 K rh false true)]}
theorem nrl:fh hO 14 nEI:=by refine aq (A:=nll) nwO func14 λf a aN=>?_;obtain⟨c,f,rfl,_,a⟩:=w.nX a;obtain⟨b,rfl,_⟩:=nh a;obtain⟨N,g⟩:=ngl Vm.lf nFJ c b aN;exact⟨N,BV (λj=>nlV Vm.lf nFJ j c b) (funext λl=>funext λm=>funext λn=>funext λh=>funext λo=>funext λd=>funext λp=>funext λq=>funext λs=>funext λt=>funext λu=>funext λv=>funext λZ=>funext λx=>funext λy=>funext λz=>funext λB=>funext λC=>funext λD=>funext λE=>funext λe=>funext λF=>funext λG=>funext λH=>funext λI=>funext λJ=>funext λK=>funext λL=>funext λM=>funext λO=>funext λP=>funext λQ=>funext λR=>funext λS=>funext λT=>rm (yS hO nCy nll N f14 nEI [true,true,true,false,true,false] []) (λk U=>nv1 b k l m n 0 0 0 0 0 0 0 0 0 false [] false 0 0 0 0 0 h o d p q s t u v Z x y z B C D E U e F G H I J K L M O P Q (((Sh c).1).k) R S T) _ N) g⟩
def nnS:C:= {ps:=[⟨[.sl [.int .u8]],false⟩],rs:=[⟨na6,true⟩,⟨[.eV (.sl Zu)],false⟩],fn:=λa=>(true,z.enc (Vf (df a 0)).1++[.sl (Vf (df a 0)).2])}
theorem njv:Np hO 6 nnS:=by refine R3 (Γ:=[(12,V4),(13,T8),(14,nEI)]) (y nfL (y nj3 (y nrl T))) func6 λb c _=>?_;obtain⟨a,rfl,d⟩:=nh c;exact⟨0,Xy (nig Vm.lf (λe f=>((true,z.enc e++[.sl f]):B)) a d)⟩
def neK:C:= {ps:=[⟨z.ct,true⟩,⟨hE.ct,true⟩],rs:=[⟨na6,true⟩,⟨[.eV .i],false⟩],fn:=λa=>(cq (z.nd a 0) (hE.nd a 33),z.enc (WW (z.nd a 0) (hE.nd a 33)).1++[.int (WW (z.nd a 0) (hE.nd a 33)).2])}
theorem nuH:Np hO 7 neK:=by refine R3 (Γ:=[(8,noH),(15,np6),(16,njf),(17,np2),(18,GO),(19,zh),(20,ON)]) (y ncR (y nxS (y nu4 (y nsa (y ntL (y ntK (y ncC T))))))) func7 λc b aN=>?_;obtain⟨h,c,rfl,_,b⟩:=z.nX b;obtain⟨a,c,rfl,_,b⟩:=hE.nX b;obtain rfl:=fi b;exact⟨0,Xy (nn9 Vm.lf (λd e=>((true,z.enc d++[.int e]):B)) h a aN)⟩
def AX:C:= {ps:=[⟨[.sl [.int .u8]],false⟩],rs:=[⟨[.eV .bool],false⟩],fn:=λa=>(cK ((.sl [.int .u8])::([])) a,[.bool true])}
def YL:Ctx:=[(5,nAc),(6,nnS),(7,neK),(9,Bw),(10,noP),(11,nqQ)]
theorem nab:qk hO YL:=y nlH (y njv (y nuH (y tV (y nnA (y nm5 T)))))
def cV:List (Nat×YJ):=[(5, {cx:=[(3,.AH),(4,.AH),(5,.AH)],boxes:=[(192,[])]}),(11, {cx:=[(3,.AH),(4,.AH),(5,.AH),(6,.AH),(8,.AH)],boxes:=[(192,[]),(384,[])]})]
def eJ:Bool→B:=bX
def mh(b:u)(i:Int)(h c:u)(a d e f g j k:Int)(l m:u)(o:Int)(Y q r s:u)(t:Int)(Z:Bool)(v w X:u)(y:x)(z A:u)(B:Bool)(C D W:u)(F G H I J:Int):E:= {n:=93,sl:=[(3,.ptr 192 0),(4,.sl Zu b),(5,p i)],hp:=[(192,.box 54 [.sl sK h,.sl lU c,p a,p d,p e,p f,p g,p j,p k,.sl K l,.sl [.i,.i,.sl K] m,p o,.sl au Y,.sl [.i,.i,.i,.sl K] q,.sl EJ r,.sl Cl s,p t,.bool Z,.sl K v,.sl uz w,.sl Zi X,.str y,.sl K z,.sl qJ A,.bool B,.sl sK C,.sl K D,.sl K W,p F,p G,p H,p I,p J])]}
def CS(c:u)(i k:Int)(h d:u)(a e f g j l m:Int)(o abm:u)(q:Int)(r s t aaN:u)(v:Int)(w:Bool)(y z A:u)(B:x)(C D:u)(ado:Bool)(F G H:u)(I J ae9 L M:Int)(abS N:u)(O P Q R S T U:Int)(b V:u)(W:Int)(X Y Z V1:u)(XO:Int)(XP:Bool)(XQ XR XS:u)(XT:x)(XU XV:u)(XW:Bool)(XX XY XZ:u)(X0 X1 X2 X3 X4:Int):E:= {n:=93,sl:=[(3,.ptr 192 0),(4,.sl Zu c),(5,p i),(6,.ptr 384 0),(8,p k)],hp:=[(192,.box 54 [.sl sK h,.sl lU d,p a,p e,p f,p g,p j,p l,p m,.sl K o,.sl [.i,.i,.sl K] abm,p q,.sl au r,.sl [.i,.i,.i,.sl K] s,.sl EJ t,.sl Cl aaN,p v,.bool w,.sl K y,.sl uz z,.sl Zi A,.str B,.sl K C,.sl qJ D,.bool ado,.sl sK F,.sl K G,.sl K H,p I,p J,p ae9,p L,p M]),(384,.box 54 [.sl sK abS,.sl lU N,p O,p P,p Q,p R,p S,p T,p U,.sl K b,.sl [.i,.i,.sl K] V,p W,.sl au X,.sl [.i,.i,.i,.sl K] Y,.sl EJ Z,.sl Cl V1,p XO,.bool XP,.sl K XQ,.sl uz XR,.sl Zi XS,.str XT,.sl K XU,.sl qJ XV,.bool XW,.sl sK XX,.sl K XY,.sl K XZ,p X0,p X1,p X2,p X3,p X4])]}
noncomputable def mf(N:Nat)(a:E→B):(E→B)→E→B:=n7 hO YL cV N f4 AX [true,true,true,false,true,false,false,true,false,false,true,true,false,true,false] [a]
noncomputable def SB(N:Nat):(E→B)→E→B:=n7 hO YL cV N f4 AX [true,true,true,false,true,false] []
theorem hmN(N:Nat)(o0:E→B)(L:u)(i:Int)(h c:u)(a d e f g j l:Int)(m n:u)(o:Int)(p q r s:u)(t:Int)(aaO:Bool)(v w y:u)(z:x)(A acR:u)(C:Bool)(D adp F:u)(G H I J K:Int)(abT M:u)(O P Q R S T U:Int)(b V:u)(W:Int)(X Y Z V1:u)(XO:Int)(XP:Bool)(XQ XR XS:u)(XT:x)(XU XV:u)(XW:Bool)(XX XY XZ:u)(X0 X1 X2 X3 X4:Int)(ih:E→B)(k:Int):mf N o0 ih (CS L i k h c a d e f g j l m n o p q r s t aaO v w y z A acR C D adp F G H I J K abT M O P Q R S T U b V W X Y Z V1 XO XP XQ XR XS XT XU XV XW XX XY XZ X0 X1 X2 X3 X4)=jv Vm.lf eJ (λi h c a d e f g j l m n o p q r s t aaO v w y z A acR C D adp F G H I J K=>o0 (mh L i h c a d e f g j l m n o p q r s t aaO v w y z A acR C D adp F G H I J K)) i abT M O P Q R S T U b V W X Y Z V1 XO XP XQ XR XS XT XU XV XW XX XY XZ X0 X1 X2 X3 X4 (λk=>ih (CS L i k h c a d e f g j l m n o p q r s t aaO v w y z A acR C D adp F G H I J K abT M O P Q R S T U b V W X Y Z V1 XO XP XQ XR XS XT XU XV XW XX XY XZ X0 X1 X2 X3 X4)) k:=by kernel_rfl
theorem neu(N:Nat)(d:E→B)(O:u)(i:Int)(h e:u)(a f g j l m n:Int)(o p:u)(q:Int)(r s t aaP:u)(v:Int)(w:Bool)(y z A:u)(acS:x)(C D:u)(adq:Bool)(F G H:u)(I J K L M:Int)(abU P:u)(Q R S T U V W:Int)(b X:u)(Y:Int)(Z XN V0 V1:u)(XO:Int)(XP:Bool)(XQ XR XS:u)(XT:x)(XU XV:u)(XW:Bool)(XX XY XZ:u)(X0 X1 X2 X3 X4:Int)(c:Nat):(λk=>VB (mf N d) c (CS O i k h e a f g j l m n o p q r s t aaP v w y z A acS C D adq F G H I J K L M abU P Q R S T U V W b X Y Z XN V0 V1 XO XP XQ XR XS XT XU XV XW XX XY XZ X0 X1 X2 X3 X4))=mw Vm.lf eJ N (λi h e a f g j l m n o p q r s t aaP v w y z A acS C D adq F G H I J K L M=>d (mh O i h e a f g j l m n o p q r s t aaP v w y z A acS C D adq F G H I J K L M)) i abU P Q R S T U V W b X Y Z XN V0 V1 XO XP XQ XR XS XT XU XV XW XX XY XZ X0 X1 X2 X3 X4 c:=by
 induction c with
 | zero=>rfl
 | succ c ih=>
  funext k;refine (hmN N d O i h e a f g j l m n o p q r s t aaP v w y z A acS C D adq F G H I J K L M abU P Q R S T U V W b X Y Z XN V0 V1 XO XP XQ XR XS XT XU XV XW XX XY XZ X0 X1 X2 X3 X4 (VB (mf N d) c) k).trans ?_;rw[ih];rfl
theorem npz(N:Nat)(K:u)(L:E→B)(i:Int)(h b:u)(a c d e f g j:Int)(l m:u)(n:Int)(o p q r:u)(s:Int)(t:Bool)(aaQ v w:u)(y:x)(z A:u)(acT:Bool)(C D adr:u)(F G H I J:Int):SB N L (mh K i h b a c d e f g j l m n o p q r s t aaQ v w y z A acT C D adr F G H I J)=Hq Vm.lf eJ (λi abV O P Q R S T U V M W X Y Z V0 V1 XO XP XQ XR XS XT XU XV XW XX XY XZ X0 X1 X2 X3 X4 k=>VB (mf N L) N (CS K i k h b a c d e f g j l m n o p q r s t aaQ v w y z A acT C D adr F G H I J abV O P Q R S T U V M W X Y Z V0 V1 XO XP XQ XR XS XT XU XV XW XX XY XZ X0 X1 X2 X3 X4)) K (λi h b a c d e f g j l m n o p q r s t aaQ v w y z A acT C D adr F G H I J=>L (mh K i h b a c d e f g j l m n o p q r s t aaQ v w y z A acT C D adr F G H I J)) i h b a c d e f g j l m n o p q r s t aaQ v w y z A acT C D adr F G H I J:=by kernel_rfl
theorem cjX(N:Nat)(c:u)(b:Nat):(λi h d a e f g j k l m n o p q r s t aaR v w y z A B C D E F G H I J K=>VB (SB N) b (mh c i h d a e f g j k l m n o p q r s t aaR v w y z A B C D E F G H I J K))=Sc Vm.lf eJ N c b:=by
 induction b with
 | zero=>rfl
 | succ b M=>
  funext i h d a e f g j k l m n o p q r s t aaR v w y z A B C D E F G H I J K;refine (npz N c (VB (SB N) b) i h d a e f g j k l m n o p q r s t aaR v w y z A B C D E F G H I J K).trans ?_;have O:=funext λi=>funext λx=>funext λP=>funext λQ=>funext λR=>funext λS=>funext λT=>funext λU=>funext λV=>funext λW=>funext λL=>funext λX=>funext λY=>funext λZ=>funext λXN=>funext λV0=>funext λV1=>funext λXO=>funext λXP=>funext λXQ=>funext λXR=>funext λXS=>funext λXT=>funext λXU=>funext λXV=>funext λXW=>funext λXX=>funext λXY=>funext λXZ=>funext λX0=>funext λX1=>funext λX2=>funext λX3=>funext λX4=>neu N (VB (SB N) b) c i h d a e f g j k l m n o p q r s t aaR v w y z A B C D E F G H I J K x P Q R S T U V W L X Y Z XN V0 V1 XO XP XQ XR XS XT XU XV XW XX XY XZ X0 X1 X2 X3 X4 N;rw[O];rw[M];rfl
theorem noe(N:Nat)(a:u):dM hO YL cV N f4 AX (.sl a::([]))=bG Vm.lf eJ N a:=by
 have d:dM hO YL cV N f4 AX (.sl a::([]))=XD Vm.lf eJ (λb i h e c f g j k l m n o p q r s t Z v w x y z A B C D E F G H I J K=>VB (SB N) N (mh b i h e c f g j k l m n o p q r s t Z v w x y z A B C D E F G H I J K)) a:=by kernel_rfl
 refine d.trans ?_;unfold bG;have L:(λb i h e c f g j k l m n o p q r s t Z v w x y z A B C D E F G H I J K=>VB (SB N) N (mh b i h e c f g j k l m n o p q r s t Z v w x y z A B C D E F G H I J K))=(λb=>Sc Vm.lf eJ N b N):=by funext b;exact cjX N b N
 exact congrArg (λM=>XD Vm.lf eJ M a) L
theorem nho:Np hO 4 AX:=by refine a0 (A:=cV) nab func4 λb c aN=>?_;obtain⟨a,rfl,d⟩:=nh c;obtain⟨N,e⟩:=njT Vm.lf eJ a d aN;exact⟨N,((noe N a).trans e).trans (by kernel_rfl)⟩
end
end Go.Proofs.YteffpikahopfoaaGreat.Pl
