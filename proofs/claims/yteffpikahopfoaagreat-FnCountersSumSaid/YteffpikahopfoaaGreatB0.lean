/- Contracts. Conditions: as each says. -/
import Derived.Test.YteffpikahopfoaaGreatP0
import Derived.Test.YteffpikahopfoaaGreatRows
import Derived.Test.YteffpikahopfoaaGreatP1
import Derived.Test.YteffpikahopfoaaGreatP2
set_option linter.unusedVariables false
set_option linter.unusedSimpArgs false
set_option maxRecDepth 100000
open Go.Proofs.Tryz
open Go.Proofs.Tryz renaming prog→hS
open Int renaming toNat→h_
namespace Go.Proofs.YteffpikahopfoaaGreat.Pl
open Vm
noncomputable section
def Cy:Sum:= {ps:=[⟨vL,false⟩,⟨vL,false⟩,⟨vL,false⟩],rs:=[⟨[.eN .bool],false⟩],fn:=λa=>(true,[.bool (nn (J a 0) (J a 1) (J a 2))])}
theorem vN:gk hS 25 Cy:=by refine ly Ns func25 λc (a:i_ ([.i,.i,.i]) c) _=>?_;obtain⟨n,c,rfl,_,a⟩:=O_ a;obtain⟨d,c,rfl,_,a⟩:=O_ a;obtain⟨b,rfl,_⟩:=sX a;exact⟨0,BL (nB0 (λe=>((true,[.bool e]):zW)) n d b)⟩
theorem X2:gk hS 145 Cy:=by refine ly Ns func145 λd (b:i_ ([.i,.i,.i]) d) _=>?_;obtain⟨x,d,rfl,_,b⟩:=O_ b;obtain⟨a,d,rfl,_,b⟩:=O_ b;obtain⟨c,rfl,_⟩:=sX b;exact⟨0,BL (nB0 (λe=>((true,[.bool e]):zW)) x a c)⟩
def Yz:Sum:= {ps:=[⟨[.sl vL],false⟩,⟨vL,false⟩],rs:=[⟨[.eN .bool],false⟩],fn:=λa=>(true,[.bool (eD (Zc a 0) (J a 1))])}
def nAZ:List (Nat×iT):=[(2, {cx:=[(1,.Ay),(7,.Ay),(8,.Ay),(9,.Ay)],boxes:=[]})]
def niR:Bool→zW:=(λa=>((true,[.bool a]):zW))
def nxh(n:Int)(l:rM)(a b:Int):CO:= {n:=17,sl:=[(1,D7 n),(7,.sl vL l),(8,D7 a),(9,D7 b)],hp:=[]}
theorem nfV:gk hS 107 Yz:=by refine lH (A:=nAZ) Ns func107 λc (a:i_ ([.sl vL,.i]) c) _=>?_;obtain⟨l,c,rfl,b,a⟩:=dh a;obtain⟨n,rfl,_⟩:=sX a;obtain⟨N,d⟩:=nuv Vm.kW niR l n b;exact⟨N,TX (λe=>xZ Vm.kW niR e l n) (funext λf=>z_ (HN hS [] nAZ N f107 Yz [true,false,true,false] []) (nxh n l f) _ N) d⟩
def Cz:Sum:= {ps:=[⟨AP.ct,true⟩],rs:=[⟨[.eN .bool],false⟩],fn:=λa=>(true,[.bool (mG (AP.nd a 0))])}
def nu1:Ctx:=[(25,Cy)]
theorem ndv:Wq hS nu1:=aU vN Ns
def ngP:List (Nat×iT):=[(2, {cx:=[(1,.Ay),(6,.Ay),(7,.Ay),(8,.Ay)],boxes:=[(64,[])]})]
def fsN:Bool→zW:=(λa=>((true,[.bool a]):zW))
def nqM(x:rM)(a b c:Int)(d:Bool)(e:rM):CO:= {n:=40,sl:=[(1,.ptr 64 0),(6,.sl vL x),(7,D7 a),(8,D7 b)],hp:=[(64,.box 41 [D7 c,.bool d,.sl vL e])]}
theorem nhK:gk hS 24 Cz:=by refine lH (A:=ngP) ndv func24 λc (a:i_ (AP.ct++[]) c) _=>?_;obtain⟨f,c,rfl,b,a⟩:=AP.nX (r:=_) a;obtain rfl:=R5 a;obtain⟨N,d⟩:=nBQ Vm.kW fsN f b;exact⟨N,TX (λe=>P_ Vm.kW fsN e f) (funext λx=>funext λg=>funext λh=>funext λi=>z_ (HN hS nu1 ngP N f24 Cz [true,false,true,false] []) (λj=>nqM x g j h f.n9 i) _ N) d⟩
def noA:Ctx:=[(145,Cy)]
theorem nnR:Wq hS noA:=aU X2 Ns
def naT:List (Nat×iT):=[(2, {cx:=[(1,.Ay),(3,.Ay)],boxes:=[(64,[])]})]
def nkV:Bool→zW:=(λa=>((true,[.bool a]):zW))
def nAb(k a:Int)(b:Bool)(c:rM):CO:= {n:=45,sl:=[(1,.ptr 64 0),(3,D7 k)],hp:=[(64,.box 41 [D7 a,.bool b,.sl vL c])]}
theorem nvX:gk hS 146 Cz:=by refine lH (A:=naT) nnR func146 λc (a:i_ (AP.ct++[]) c) _=>?_;obtain⟨f,c,rfl,b,a⟩:=AP.nX (r:=_) a;obtain rfl:=R5 a;obtain⟨N,d⟩:=niX Vm.kW nkV f b;exact⟨N,TX (λe=>CA Vm.kW nkV e f) (funext λg=>funext λh=>z_ (HN hS noA naT N f146 Cz [true,false,true,false] []) (λk=>nAb k g f.n9 h) _ N) d⟩
def EG:Sum:= {ps:=[⟨ch.ct,true⟩],rs:=[⟨[.eN .bool],false⟩],fn:=λa=>(true,[.bool (Xi (ch.nd a 0))])}
theorem nzQ:gk hS 123 EG:=by refine ly (Γ:=[(25,Cy)]) (aU vN Ns) func123 λb (a:i_ (ch.ct++[]) b) _=>?_;obtain⟨g,b,rfl,_,a⟩:=ch.nX (r:=_) a;obtain rfl:=R5 a;exact⟨0,BL (nht (λc=>((true,[.bool c]):zW)) g)⟩
theorem nmm:gk hS 190 EG:=by refine ly (Γ:=[(145,Cy)]) (aU X2 Ns) func190 λb (a:i_ (ch.ct++[]) b) _=>?_;obtain⟨g,b,rfl,_,a⟩:=ch.nX (r:=_) a;obtain rfl:=R5 a;exact⟨0,BL (ngF (λc=>((true,[.bool c]):zW)) g)⟩
def gM:Sum:= {ps:=[⟨vL,false⟩],rs:=[⟨[.eN .bool],false⟩],fn:=λa=>(true,[.bool (EY (J a 0))])}
theorem nuf:gk hS 124 gM:=by refine ly Ns func124 λb (c:i_ (vL) b) _=>?_;obtain⟨a,rfl,_⟩:=sX c;exact⟨0,BL (nlJ (λd=>((true,[.bool d]):zW)) a)⟩
def uM:Sum:= {ps:=[⟨oY.ct,true⟩],rs:=[⟨[.eN .bool],false⟩],fn:=λa=>(true,[.bool (rZ (oY.nd a 0))])}
theorem DQ:gk hS 60 uM:=by refine ly (Γ:=[(25,Cy),(123,EG),(124,gM)]) (aU vN (aU nzQ (aU nuf Ns))) func60 λb (a:i_ (oY.ct++[]) b) _=>?_;obtain⟨p,b,rfl,_,a⟩:=oY.nX (r:=_) a;obtain rfl:=R5 a;exact⟨0,BL (nqR (λc=>((true,[.bool c]):zW)) p)⟩
theorem Db:gk hS 133 uM:=by refine ly (Γ:=[(145,Cy),(190,EG)]) (aU X2 (aU nmm Ns)) func133 λb (a:i_ (oY.ct++[]) b) _=>?_;obtain⟨p,b,rfl,_,a⟩:=oY.nX (r:=_) a;obtain rfl:=R5 a;exact⟨0,BL (nqf (λc=>((true,[.bool c]):zW)) p)⟩
def mI:Sum:= {ps:=[⟨[.sl UB],false⟩,⟨vL,false⟩,⟨vL,false⟩],rs:=[⟨[.eN .i],false⟩],fn:=λa=>(true,[.int (lI (Zc a 0) (J a 1) (J a 2))])}
def niv:List (Nat×iT):=[(2, {cx:=[(1,.Ay),(2,.Ay),(9,.Ay),(10,.Ay),(11,.Ay)],boxes:=[]})]
def nrP:Int→zW:=(λa=>((true,[.int a]):zW))
def nma(a b:Int)(Z:rM)(c d:Int):CO:= {n:=28,sl:=[(1,D7 a),(2,D7 b),(9,.sl UB Z),(10,D7 c),(11,D7 d)],hp:=[]}
theorem npH:gk hS 56 mI:=by refine lH (A:=niv) Ns func56 λc (b:i_ ([.sl UB,.i,.i]) c) _=>?_;obtain⟨Z,c,rfl,e,b⟩:=dh b;obtain⟨a,c,rfl,_,b⟩:=O_ b;obtain⟨d,rfl,_⟩:=sX b;obtain⟨N,f⟩:=nAc Vm.kW nrP Z a d e;exact⟨N,TX (λg=>x_ Vm.kW nrP g Z a d) (funext λh=>z_ (HN hS [] niv N f56 mI [true,false,true,false] []) (nma a d Z h) _ N) f⟩
def u3:Sum:= {ps:=[⟨[.sl UB],false⟩],rs:=[⟨[.eN .bool],false⟩],fn:=λa=>(true,[.bool (cz (Zc a 0))])}
def ncF:Ctx:=[(25,Cy),(56,mI)]
theorem nwO:Wq hS ncF:=aU vN (aU npH Ns)
def niN:List (Nat×iT):=[(2, {cx:=[(0,.Ay),(5,.Ay),(6,.Ay),(7,.Ay)],boxes:=[]})]
def neR:Bool→zW:=(λa=>((true,[.bool a]):zW))
def nCa(Z x:rM)(a b:Int):CO:= {n:=42,sl:=[(0,.sl UB Z),(5,.sl UB x),(6,D7 a),(7,D7 b)],hp:=[]}
theorem nyH:gk hS 22 u3:=by refine lH (A:=niN) nwO func22 λa (b:i_ ([.sl UB]) a) _=>?_;obtain⟨Z,rfl,c⟩:=ga b;obtain⟨N,d⟩:=nBX Vm.kW neR Z c;exact⟨N,TX (λe=>BO Vm.kW neR e Z) (funext λx=>funext λf=>z_ (HN hS ncF niN N f22 u3 [true,false,true,false] []) (nCa Z x f) _ N) d⟩
def cQ:Ctx:=[(145,Cy)]
theorem no_:Wq hS cQ:=aU X2 Ns
def QN:List (Nat×iT):=[(4, {cx:=[(0,.Ay),(3,.Ay)],boxes:=[]}),(10, {cx:=[(0,.Ay),(3,.Ay),(4,.Ay),(5,.Ay)],boxes:=[(256,[])]})]
def Tu:Bool→zW:=(λa=>((true,[.bool a]):zW))
def wH(Z:rM)(k:Int):CO:= {n:=58,sl:=[(0,.sl UB Z),(3,D7 k)],hp:=[]}
def VF(Z:rM)(k i x a b:Int)(c:Bool):CO:= {n:=58,sl:=[(0,.sl UB Z),(3,D7 k),(4,.ptr 256 0),(5,D7 i)],hp:=[(256,.box 134 [D7 x,D7 a,D7 b,.bool c])]}
noncomputable def TD(N:Nat)(a:CO→zW):(CO→zW)→CO→zW:=HN hS cQ QN N f262 u3 [true,true,false,true,false,false,true,false,false,true,true,true,false] [a]
noncomputable def YA(N:Nat):(CO→zW)→CO→zW:=HN hS cQ QN N f262 u3 [true,true,false,true,false] []
theorem nsd(N:Nat)(b:CO→zW)(Z:rM)(k x a c:Int)(d:Bool)(e:CO→zW)(i:Int):TD N b e (VF Z k i x a c d)=A2 Vm.kW Tu (λk=>b (wH Z k)) Z k x a (λi=>e (VF Z k i x a c d)) i:=by kernel_rfl
theorem nhS(N:Nat)(b:CO→zW)(Z:rM)(k x c d:Int)(e:Bool)(a:Nat):(λi=>Vd (TD N b) a (VF Z k i x c d e))=TL Vm.kW Tu N (λk=>b (wH Z k)) Z k x c a:=by
 induction a with
 | zero=>rfl
 | succ a f=>
  funext i;refine (nsd N b Z k x c d e (Vd (TD N b) a) i).trans ?_;rw[f];rfl
theorem ngk(N:Nat)(Z:rM)(a:CO→zW)(k:Int):YA N a (wH Z k)=RO Vm.kW Tu (λk x b i=>Vd (TD N a) N (VF Z k i x b (J (V Z (h_ k)) 2) (yz (V Z (h_ k)) 3))) Z (λk=>a (wH Z k)) k:=by kernel_rfl
theorem nAD(N:Nat)(Z:rM)(a:Nat):(λk=>Vd (YA N) a (wH Z k))=F3 Vm.kW Tu N Z a:=by
 induction a with
 | zero=>rfl
 | succ a b=>
  funext k;refine (ngk N Z (Vd (YA N) a) k).trans ?_;have c:=funext λk=>funext λx=>funext λd=>nhS N (Vd (YA N) a) Z k x d (J (V Z (h_ k)) 2) (yz (V Z (h_ k)) 3) N;rw[c];rw[b];rfl
theorem ngH:gk hS 262 u3:=by refine lH (A:=QN) no_ func262 λa (b:i_ ([.sl UB]) a) _=>?_;obtain⟨Z,rfl,c⟩:=ga b;obtain⟨N,d⟩:=ncD Vm.kW Tu Z c;refine⟨N,Eq.trans ?_ (d.trans (by kernel_rfl))⟩;unfold bS;rw[←nAD N Z N];kernel_rfl
def ld:Sum:= {ps:=[⟨[.sl VB],false⟩],rs:=[⟨[.own 9 VB],false⟩],fn:=λa=>(Of (Zc a 0),[.sl (cp (Zc a 0))])}
theorem nrW:gk hS 92 ld:=by refine ly Ns func92 λa (b:i_ ([.sl VB]) a) aN=>?_;obtain⟨l,rfl,_⟩:=ga b;exact⟨0,BL (nw0 Vm.kW (λc=>((true,[.sl c]):zW)) l aN)⟩
def Qd:Sum:= {ps:=[⟨TV.ct,true⟩],rs:=[⟨[.own 9 VB],true⟩],fn:=λa=>(zH (TV.nd a 0),TV.enc (cp (TV.nd a 0)))}
theorem HB:gk hS 85 Qd:=by refine ly (Γ:=[(92,ld)]) (aU nrW Ns) func85 λb (a:i_ (TV.ct++[]) b) aN=>?_;obtain⟨m,b,rfl,_,a⟩:=TV.nX (r:=_) a;obtain rfl:=R5 a;exact⟨0,BL (nbk Vm.kW (λc=>((true,TV.enc c):zW)) m aN)⟩
def e9:Sum:= {ps:=[⟨TV.ct,true⟩],rs:=[⟨[.eN .bool],false⟩],fn:=λa=>(true,[.bool (pw (TV.nd a 0))])}
def noz:List (Nat×iT):=[(2, {cx:=[(1,.Ay),(6,.Ay),(7,.Ay),(8,.Ay)],boxes:=[(64,[])]})]
def nrD:Bool→zW:=(λa=>((true,[.bool a]):zW))
def ngp(x:rM)(a b:Int)(c:rM):CO:= {n:=20,sl:=[(1,.ptr 64 0),(6,.sl VB x),(7,D7 a),(8,D7 b)],hp:=[(64,.box 26 [.sl VB c])]}
theorem TQ:gk hS 21 e9:=by refine lH (A:=noz) Ns func21 λb (a:i_ (TV.ct++[]) b) _=>?_;obtain⟨m,b,rfl,c,a⟩:=TV.nX (r:=_) a;obtain rfl:=R5 a;obtain⟨N,d⟩:=nzA Vm.kW nrD m c;exact⟨N,TX (λe=>dK Vm.kW nrD e m) (funext λx=>funext λf=>funext λg=>z_ (HN hS [] noz N f21 e9 [true,false,true,false] []) (λh=>ngp x f h g) _ N) d⟩
def nl9:List (Nat×iT):=[(2, {cx:=[(1,.Ay),(3,.Ay)],boxes:=[(64,[])]})]
def nd7:Bool→zW:=(λa=>((true,[.bool a]):zW))
def ncI(k:Int)(a:rM):CO:= {n:=22,sl:=[(1,.ptr 64 0),(3,D7 k)],hp:=[(64,.box 26 [.sl VB a])]}
theorem nuT:gk hS 263 e9:=by refine lH (A:=nl9) Ns func263 λb (a:i_ (TV.ct++[]) b) _=>?_;obtain⟨m,b,rfl,c,a⟩:=TV.nX (r:=_) a;obtain rfl:=R5 a;obtain⟨N,d⟩:=nbb Vm.kW nd7 m c;exact⟨N,TX (λe=>ON Vm.kW nd7 e m) (funext λf=>z_ (HN hS [] nl9 N f263 e9 [true,false,true,false] []) (λk=>ncI k f) _ N) d⟩
def S5:Sum:= {ps:=[⟨vL,false⟩],rs:=[⟨[.eN .bool],false⟩],fn:=λa=>(true,[.bool (Uo (J a 0))])}
theorem Xq:gk hS 121 S5:=by refine ly Ns func121 λa (b:i_ (vL) a) _=>?_;obtain⟨n,rfl,_⟩:=sX b;exact⟨0,BL (nnb (λc=>((true,[.bool c]):zW)) n)⟩
theorem nA4:gk hS 256 S5:=by refine ly Ns func256 λa (b:i_ (vL) a) _=>?_;obtain⟨n,rfl,_⟩:=sX b;exact⟨0,BL (nnb (λc=>((true,[.bool c]):zW)) n)⟩
def jS:Sum:= {ps:=[⟨vL,false⟩],rs:=[⟨[.eN .bool],false⟩],fn:=λa=>(true,[.bool (Yi (J a 0))])}
theorem nc3:gk hS 128 jS:=by refine ly Ns func128 λa (b:i_ (vL) a) _=>?_;obtain⟨n,rfl,_⟩:=sX b;exact⟨0,BL (nk7 (λc=>((true,[.bool c]):zW)) n)⟩
theorem njb:gk hS 234 jS:=by refine ly Ns func234 λa (b:i_ (vL) a) _=>?_;obtain⟨n,rfl,_⟩:=sX b;exact⟨0,BL (nk7 (λc=>((true,[.bool c]):zW)) n)⟩
def cV:Sum:= {ps:=[⟨vL,false⟩,⟨vL,false⟩],rs:=[⟨[.eN .i],false⟩],fn:=λa=>(DZ (J a 0) (J a 1),[.int (NU (J a 0) (J a 1))])}
theorem nm:gk hS 115 cV:=by refine ly Ns func115 λb (a:i_ (bG) b) aN=>?_;obtain⟨x,b,rfl,_,a⟩:=O_ a;obtain⟨n,rfl,_⟩:=sX a;exact⟨0,BL (nui Vm.kW (λc=>((true,[.int c]):zW)) x n aN)⟩
def d3:Sum:= {ps:=[⟨jW.ct,true⟩],rs:=[⟨[.eN .i],false⟩],fn:=λa=>(true,[.int (UU (jW.nd a 0))])}
theorem YR:gk hS 122 d3:=by refine ly (Γ:=[(115,cV),(121,S5)]) (aU nm (aU Xq Ns)) func122 λc (a:i_ (jW.ct++[]) c) _=>?_;obtain⟨r,c,rfl,b,a⟩:=jW.nX (r:=_) a;obtain rfl:=R5 a;exact⟨0,BL (nvt Vm.kW (λd=>((true,[.int d]):zW)) r b)⟩
theorem neZ:gk hS 257 d3:=by refine ly (Γ:=[(256,S5)]) (aU nA4 Ns) func257 λb (a:i_ (jW.ct++[]) b) _=>?_;obtain⟨r,b,rfl,_,a⟩:=jW.nX (r:=_) a;obtain rfl:=R5 a;exact⟨0,BL (nov (λc=>((true,[.int c]):zW)) r)⟩
def Vq:Sum:= {ps:=[⟨jW.ct,true⟩],rs:=[⟨[.eN .bool],false⟩],fn:=λa=>(true,[.bool (Wi (jW.nd a 0))])}
theorem VS:gk hS 57 Vq:=by refine ly (Γ:=[(25,Cy),(121,S5),(122,d3)]) (aU vN (aU Xq (aU YR Ns))) func57 λb (a:i_ (jW.ct++[]) b) _=>?_;obtain⟨r,b,rfl,_,a⟩:=jW.nX (r:=_) a;obtain rfl:=R5 a;exact⟨0,BL (nBi (λc=>((true,[.bool c]):zW)) r)⟩
theorem bb:gk hS 239 Vq:=by refine ly (Γ:=[(145,Cy),(256,S5),(257,d3)]) (aU X2 (aU nA4 (aU neZ Ns))) func239 λb (a:i_ (jW.ct++[]) b) _=>?_;obtain⟨r,b,rfl,_,a⟩:=jW.nX (r:=_) a;obtain rfl:=R5 a;exact⟨0,BL (nBi (λc=>((true,[.bool c]):zW)) r)⟩
def az:Sum:= {ps:=[⟨QR.ct,true⟩],rs:=[⟨[.eN .bool],false⟩],fn:=λa=>(true,[.bool (xn (QR.nd a 0))])}
theorem zQ:gk hS 59 az:=by refine ly (Γ:=[(25,Cy),(121,S5)]) (aU vN (aU Xq Ns)) func59 λb (a:i_ (QR.ct++[]) b) _=>?_;obtain⟨q,b,rfl,_,a⟩:=QR.nX (r:=_) a;obtain rfl:=R5 a;exact⟨0,BL (nsz (λc=>((true,[.bool c]):zW)) q)⟩
def mU:Sum:= {ps:=[⟨Tj.ct,true⟩],rs:=[⟨[.eN .bool],false⟩],fn:=λa=>(true,[.bool (due (Tj.nd a 0))])}
theorem nbq:gk hS 61 mU:=by refine ly Ns func61 λb (a:i_ (Tj.ct++[]) b) _=>?_;obtain⟨v,b,rfl,_,a⟩:=Tj.nX (r:=_) a;obtain rfl:=R5 a;exact⟨0,BL (ndf (λc=>((true,[.bool c]):zW)) v)⟩
theorem nnQ:gk hS 232 mU:=by refine ly Ns func232 λb (a:i_ (Tj.ct++[]) b) _=>?_;obtain⟨v,b,rfl,_,a⟩:=Tj.nX (r:=_) a;obtain rfl:=R5 a;exact⟨0,BL (ndf (λc=>((true,[.bool c]):zW)) v)⟩
def xw:Sum:= {ps:=[⟨Tj.ct,true⟩],rs:=[⟨[.eN .bool],false⟩],fn:=λa=>(true,[.bool (fm (Tj.nd a 0))])}
theorem Wh:gk hS 28 xw:=by refine ly (Γ:=[(25,Cy),(61,mU)]) (aU vN (aU nbq Ns)) func28 λb (a:i_ (Tj.ct++[]) b) _=>?_;obtain⟨v,b,rfl,_,a⟩:=Tj.nX (r:=_) a;obtain rfl:=R5 a;exact⟨0,BL (nrC (λc=>((true,[.bool c]):zW)) v)⟩
theorem nou:gk hS 204 xw:=by refine ly (Γ:=[(145,Cy),(232,mU)]) (aU X2 (aU nnQ Ns)) func204 λb (a:i_ (Tj.ct++[]) b) _=>?_;obtain⟨v,b,rfl,_,a⟩:=Tj.nX (r:=_) a;obtain rfl:=R5 a;exact⟨0,BL (nrC (λc=>((true,[.bool c]):zW)) v)⟩
def ml:Sum:= {ps:=[⟨pE.ct,true⟩],rs:=[⟨[.eN .bool],false⟩],fn:=λa=>(true,[.bool (iy (pE.nd a 0))])}
theorem qd:gk hS 26 ml:=by refine ly (Γ:=[(25,Cy),(57,Vq),(59,az),(60,uM)]) (aU vN (aU VS (aU zQ (aU DQ Ns)))) func26 λb (a:i_ (pE.ct++[]) b) _=>?_;obtain⟨q,b,rfl,_,a⟩:=pE.nX (r:=_) a;obtain rfl:=R5 a;exact⟨0,BL (niq (λc=>((true,[.bool c]):zW)) q)⟩
def xF:Sum:= {ps:=[⟨sY.ct,true⟩],rs:=[⟨[.eN .bool],false⟩],fn:=λa=>(true,[.bool (WN (sY.nd a 0))])}
theorem ngX:gk hS 125 xF:=by refine ly (Γ:=[(25,Cy)]) (aU vN Ns) func125 λb (a:i_ (sY.ct++[]) b) _=>?_;obtain⟨r,b,rfl,_,a⟩:=sY.nX (r:=_) a;obtain rfl:=R5 a;exact⟨0,BL (nzz (λc=>((true,[.bool c]):zW)) r)⟩
theorem nzP:gk hS 233 xF:=by refine ly (Γ:=[(145,Cy)]) (aU X2 Ns) func233 λb (a:i_ (sY.ct++[]) b) _=>?_;obtain⟨r,b,rfl,_,a⟩:=sY.nX (r:=_) a;obtain rfl:=R5 a;exact⟨0,BL (nzz (λc=>((true,[.bool c]):zW)) r)⟩
def aZ:Sum:= {ps:=[⟨[.sl nS],false⟩],rs:=[⟨[.eN .bool],false⟩],fn:=λa=>(true,[.bool (HK (Zc a 0))])}
def nnk:Ctx:=[(125,xF)]
theorem nkb:Wq hS nnk:=aU ngX Ns
def nmt:List (Nat×iT):=[(2, {cx:=[(0,.Ay),(5,.Ay),(6,.Ay),(7,.Ay)],boxes:=[]})]
def nuF:Bool→zW:=(λa=>((true,[.bool a]):zW))
def nvf(Z x:rM)(a b:Int):CO:= {n:=18,sl:=[(0,.sl nS Z),(5,.sl nS x),(6,D7 a),(7,D7 b)],hp:=[]}
theorem nBa:gk hS 62 aZ:=by refine lH (A:=nmt) nkb func62 λa (b:i_ ([.sl nS]) a) _=>?_;obtain⟨Z,rfl,c⟩:=ga b;obtain⟨N,d⟩:=nw9 Vm.kW nuF Z c;exact⟨N,TX (λe=>zr Vm.kW nuF e Z) (funext λx=>funext λf=>z_ (HN hS nnk nmt N f62 aZ [true,false,true,false] []) (nvf Z x f) _ N) d⟩
def ngr:Ctx:=[(233,xF)]
theorem ndU:Wq hS ngr:=aU nzP Ns
def nsD:List (Nat×iT):=[(2, {cx:=[(0,.Ay),(3,.Ay)],boxes:=[]})]
def nb3:Bool→zW:=(λa=>((true,[.bool a]):zW))
def nqW(Z:rM)(k:Int):CO:= {n:=19,sl:=[(0,.sl nS Z),(3,D7 k)],hp:=[]}
theorem nsY:gk hS 205 aZ:=by refine lH (A:=nsD) ndU func205 λa (b:i_ ([.sl nS]) a) _=>?_;obtain⟨Z,rfl,c⟩:=ga b;obtain⟨N,d⟩:=nBo Vm.kW nb3 Z c;exact⟨N,TX (λe=>DJ Vm.kW nb3 e Z) (z_ (HN hS ngr nsD N f205 aZ [true,false,true,false] []) (nqW Z) _ N) d⟩
def PQ:Sum:= {ps:=[⟨[.sl vL],false⟩],rs:=[⟨[.own 3 vL],false⟩],fn:=λa=>(Of (Zc a 0),[.sl (cp (Zc a 0))])}
theorem iA:gk hS 93 PQ:=by refine ly Ns func93 λa (b:i_ ([.sl vL]) a) aN=>?_;obtain⟨l,rfl,_⟩:=ga b;exact⟨0,BL (nAx Vm.kW (λc=>((true,[.sl c]):zW)) l aN)⟩
def Nc:Sum:= {ps:=[⟨Cf.ct,true⟩],rs:=[⟨[.eN .i,.eN .i,.eN .i,.own 3 vL],true⟩],fn:=λa=>(ig (Cf.nd a 0),Cf.enc (cp (Cf.nd a 0)))}
theorem oG:gk hS 88 Nc:=by refine ly (Γ:=[(93,PQ)]) (aU iA Ns) func88 λb (a:i_ (Cf.ct++[]) b) aN=>?_;obtain⟨p,b,rfl,_,a⟩:=Cf.nX (r:=_) a;obtain rfl:=R5 a;exact⟨0,BL (nnp Vm.kW (λc=>((true,Cf.enc c):zW)) p aN)⟩
theorem nlB:gk hS 238 Nc:=by refine ly Ns func238 λb (a:i_ (Cf.ct++[]) b) aN=>?_;obtain⟨p,b,rfl,_,a⟩:=Cf.nX (r:=_) a;obtain rfl:=R5 a;exact⟨0,BL (nf_ Vm.kW (λc=>((true,Cf.enc c):zW)) p aN)⟩
def Yf:Sum:= {ps:=[⟨Cf.ct,true⟩],rs:=[⟨[.eN .bool],false⟩],fn:=λa=>(true,[.bool (mK (Cf.nd a 0))])}
def niL:Ctx:=[(25,Cy)]
theorem no5:Wq hS niL:=aU vN Ns
def njr:List (Nat×iT):=[(5, {cx:=[(1,.Ay),(3,.Ay),(26,.Ay),(27,.Ay),(28,.Ay)],boxes:=[(64,[])]})]
def naE:Bool→zW:=(λa=>((true,[.bool a]):zW))
def nDL(x:rM)(b c d e f:Int)(g a:rM):CO:= {n:=48,sl:=[(1,.ptr 64 0),(3,.own 640192),(26,.sl vL x),(27,D7 b),(28,D7 c)],hp:=[(64,.box 32 [D7 d,D7 e,D7 f,.sl vL g]),(640192,.row 4 sJ a false true)]}
theorem Nw:gk hS 27 Yf:=by refine lH (A:=njr) no5 func27 λd (b:i_ (Cf.ct++[]) d) _=>?_;obtain⟨p,d,rfl,c,b⟩:=Cf.nX (r:=_) b;obtain rfl:=R5 b;obtain⟨N,e⟩:=nxx Vm.kW naE p c;exact⟨N,TX (λf=>Nv Vm.kW naE f p) (funext λx=>funext λg=>funext λh=>vI (HN hS niL njr N f27 Yf [true,true,true,false,true,false] []) (λi a=>nDL x g i p.nW p.nA h p.oq a) _ N) e⟩
def nz7:Ctx:=[(145,Cy)]
theorem nAp:Wq hS nz7:=aU X2 Ns
def nkA:List (Nat×iT):=[(5, {cx:=[(1,.Ay),(3,.Ay),(4,.Ay)],boxes:=[(64,[])]})]
def nbx:Bool→zW:=(λa=>((true,[.bool a]):zW))
def nf0(k b c d:Int)(e a:rM):CO:= {n:=58,sl:=[(1,.ptr 64 0),(3,.own 640192),(4,D7 k)],hp:=[(64,.box 32 [D7 b,D7 c,D7 d,.sl vL e]),(640192,.row 4 sJ a false true)]}
theorem bV:gk hS 235 Yf:=by refine lH (A:=nkA) nAp func235 λd (b:i_ (Cf.ct++[]) d) _=>?_;obtain⟨p,d,rfl,c,b⟩:=Cf.nX (r:=_) b;obtain rfl:=R5 b;obtain⟨N,e⟩:=na2 Vm.kW nbx p c;exact⟨N,TX (λf=>jY Vm.kW nbx f p) (funext λg=>funext λh=>vI (HN hS nz7 nkA N f235 Yf [true,true,true,false,true,false] []) (λk a=>nf0 k p.nW p.nA g h a) _ N) e⟩
def Bx:Sum:= {ps:=[⟨Cf.ct,true⟩,⟨[.sl vL],false⟩],rs:=[⟨[.eN .i,.eN .i,.eN .i,.own 3 vL],true⟩,⟨[.eN .bool],false⟩],fn:=λa=>(Z6 (Cf.nd a 0) (Zc a 4),Cf.enc (Ni (Cf.nd a 0) (Zc a 4)).1++[.bool (Ni (Cf.nd a 0) (Zc a 4)).2])}
theorem ov:gk hS 58 Bx:=by refine ly (Γ:=[(27,Yf),(88,Nc)]) (aU Nw (aU oG Ns)) func58 λb (a:i_ (Cf.ct++[.sl vL]) b) aN=>?_;obtain⟨p,b,rfl,_,a⟩:=Cf.nX (r:=_) a;obtain⟨Z,rfl,_⟩:=ga a;exact⟨0,BL (nDR Vm.kW (λc d=>((true,Cf.enc c++[.bool d]):zW)) p Z aN)⟩
def xN:Sum:= {ps:=[⟨Sx.ct,true⟩],rs:=[⟨[.eN .bool],false⟩],fn:=λa=>(TC (Sx.nd a 0),[.bool (Yo (Sx.nd a 0))])}
def nah:Ctx:=[(25,Cy),(27,Yf),(57,Vq),(58,Bx)]
theorem njj:Wq hS nah:=aU vN (aU Nw (aU VS (aU ov Ns)))
def ny9:List (Nat×iT):=[(6, {cx:=[(1,.Ay),(3,.Ay),(4,.Ay),(30,.Ay),(31,.Ay),(32,.Ay)],boxes:=[(64,[])]})]
def nBU:Bool→zW:=(λa=>((true,[.bool a]):zW))
def nia(left:Int)(x:rM)(l m a b c d e f g:Int)(h j:rM)(o:Int)(k:rM):CO:= {n:=68,sl:=[(1,.ptr 64 0),(3,D7 left),(4,.own 640256),(30,.sl [.i,.i,.sl vL] x),(31,D7 l),(32,D7 m)],hp:=[(64,.box 35 [D7 a,D7 b,D7 c,D7 d,D7 e,D7 f,D7 g,.sl vL h,.sl [.i,.i,.sl vL] j,D7 o]),(640256,.row 3 vL k false true)]}
theorem TI:gk hS 23 xN:=by refine lH (A:=ny9) njj func23 λh (a:i_ (Sx.ct++[]) h) aN=>?_;obtain⟨q,h,rfl,b,a⟩:=Sx.nX (r:=_) a;obtain rfl:=R5 a;obtain⟨N,i⟩:=nkS Vm.kW nBU q b aN;exact⟨N,TX (λj=>VV Vm.kW nBU j q) (funext λx=>funext λk=>funext λc=>funext λd=>funext λe=>funext λf=>W7 (HN hS nah ny9 N f23 xN [true,true,true,true,false,true,false] []) (λleft l g=>nia left x k l q.d5.nW q.d5.nA q.d5.ej q.d5.pj c d e f q.nx q.en g) _ N) i⟩
def OO:Sum:= {ps:=[⟨SA.ct,true⟩],rs:=[⟨[.eN .i],false⟩],fn:=λa=>(true,[.int (Rp (SA.nd a 0))])}
def nwr:Ctx:=[(115,cV)]
theorem npA:Wq hS nwr:=aU nm Ns
def nnG:List (Nat×iT):=[(3, {cx:=[(3,.Ay),(16,.Ay),(17,.Ay),(18,.Ay)],boxes:=[(64,[])]})]
def nC3:Int→zW:=(λa=>((true,[.int a]):zW))
def nCM(n x a b c d e f:Int)(g:rM):CO:= {n:=29,sl:=[(3,D7 n),(16,.own 641024),(17,D7 x),(18,D7 a)],hp:=[(64,.box 149 [D7 b,D7 c,D7 d,D7 e,D7 f]),(641024,.row 3 vL g false true)]}
theorem neE:gk hS 187 OO:=by refine lH (A:=nnG) npA func187 λc (a:i_ (SA.ct++[]) c) _=>?_;obtain⟨f,c,rfl,b,a⟩:=SA.nX (r:=_) a;obtain rfl:=R5 a;obtain⟨N,d⟩:=nmn Vm.kW nC3 f b;exact⟨N,TX (λe=>Yd Vm.kW nC3 e f) (funext λx=>funext λg=>vI (HN hS nwr nnG N f187 OO [true,true,false,true,false] []) (λn h=>nCM n x h f.eh f.py f.pN f.oC f.oz g) _ N) d⟩
def nBc:List (Nat×iT):=[(4, {cx:=[(3,.Ay),(4,.Ay),(5,.Ay)],boxes:=[(64,[])]})]
def nrw:Int→zW:=(λa=>((true,[.int a]):zW))
def hrK(n k a b c d e:Int)(Z:rM):CO:= {n:=32,sl:=[(3,D7 n),(4,.own 640256),(5,D7 k)],hp:=[(64,.box 149 [D7 a,D7 b,D7 c,D7 d,D7 e]),(640256,.row 3 vL Z false true)]}
theorem nxX:gk hS 203 OO:=by refine lH (A:=nBc) Ns func203 λc (a:i_ (SA.ct++[]) c) _=>?_;obtain⟨f,c,rfl,b,a⟩:=SA.nX (r:=_) a;obtain rfl:=R5 a;obtain⟨N,d⟩:=ngN Vm.kW nrw f b;exact⟨N,TX (λe=>P1 Vm.kW nrw e f) (funext λZ=>vI (HN hS [] nBc N f203 OO [true,true,true,false,true,false] []) (λn k=>hrK n k f.eh f.py f.pN f.oC f.oz Z) _ N) d⟩
def Y3:Sum:= {ps:=[⟨W4.ct,true⟩,⟨SA.ct,true⟩],rs:=[⟨[.eN .i],false⟩],fn:=λa=>(true,[.int (Uu (W4.nd a 0) (SA.nd a 1))])}
def nep:List (Nat×iT):=[(2, {cx:=[(3,.Ay),(8,.Ay),(9,.Ay),(10,.Ay)],boxes:=[(128,[]),(192,[])]})]
def nBl:Int→zW:=(λa=>((true,[.int a]):zW))
def np5(x:rM)(a b:Int)(c:rM)(d e f g h:Int):CO:= {n:=26,sl:=[(3,.ptr 192 0),(8,.sl xT x),(9,D7 a),(10,D7 b)],hp:=[(128,.box 45 [.sl xT c]),(192,.box 149 [D7 d,D7 e,D7 f,D7 g,D7 h])]}
theorem nuJ:gk hS 126 Y3:=by refine lH (A:=nep) Ns func126 λb (a:i_ (W4.ct++(SA.ct++[])) b) _=>?_;obtain⟨t,b,rfl,c,a⟩:=W4.nX (r:=_) a;obtain⟨f,b,rfl,_,a⟩:=SA.nX (r:=_) a;obtain rfl:=R5 a;obtain⟨N,d⟩:=ndD Vm.kW nBl t f c;exact⟨N,TX (λe=>Oy Vm.kW nBl e t f) (funext λx=>funext λg=>funext λh=>funext λi=>funext λj=>funext λk=>funext λl=>z_ (HN hS [] nep N f126 Y3 [true,false,true,false] []) (λm=>np5 x g m t.nO h i j k l) _ N) d⟩
def NY:Sum:= {ps:=[⟨W4.ct,true⟩,⟨SA.ct,true⟩],rs:=[⟨[.eN .i],false⟩],fn:=λa=>(Qu (W4.nd a 0) (SA.nd a 1),[.int (TN (W4.nd a 0) (SA.nd a 1))])}
def ncx:Ctx:=[(203,OO)]
theorem nuj:Wq hS ncx:=aU nxX Ns
def nnA:List (Nat×iT):=[(2, {cx:=[(2,.Ay),(3,.Ay),(5,.Ay)],boxes:=[(128,[]),(192,[])]})]
def nzn:Int→zW:=(λa=>((true,[.int a]):zW))
def ncn(k:Int)(a:rM)(b c d e f:Int):CO:= {n:=41,sl:=[(2,.ptr 128 0),(3,.ptr 192 0),(5,D7 k)],hp:=[(128,.box 45 [.sl xT a]),(192,.box 149 [D7 b,D7 c,D7 d,D7 e,D7 f])]}
theorem nBq:gk hS 202 NY:=by refine lH (A:=nnA) nuj func202 λb (a:i_ (W4.ct++(SA.ct++[])) b) aN=>?_;obtain⟨t,b,rfl,_,a⟩:=W4.nX (r:=_) a;obtain⟨f,b,rfl,_,a⟩:=SA.nX (r:=_) a;obtain rfl:=R5 a;obtain⟨N,c⟩:=hmN Vm.kW nzn t f aN;exact⟨N,TX (λd=>wg Vm.kW nzn d t f) (funext λe=>funext λg=>funext λh=>funext λi=>funext λj=>funext λl=>z_ (HN hS ncx nnA N f202 NY [true,false,true,false] []) (λk=>ncn k e g h i j l) _ N) c⟩
def fj:Sum:= {ps:=[⟨SA.ct,true⟩],rs:=[⟨[.own 3 vL],false⟩],fn:=λa=>(true,[.sl (B9 (SA.nd a 0))])}
def nq8:Ctx:=[(187,OO)]
theorem nmq:Wq hS nq8:=aU neE Ns
def nhd:List (Nat×iT):=[(3, {cx:=[(1,.Ay),(3,.Ay),(4,.Ay)],boxes:=[(64,[])]})]
def nCn:rM→zW:=(λa=>((true,[.sl a]):zW))
def njP(i a b c d e:Int)(f:rM):CO:= {n:=19,sl:=[(1,.ptr 64 0),(3,.own 640192),(4,D7 i)],hp:=[(64,.box 149 [D7 a,D7 b,D7 c,D7 d,D7 e]),(640192,.row 3 vL f false true)]}
theorem nve:gk hS 127 fj:=by refine lH (A:=nhd) nmq func127 λb (a:i_ (SA.ct++[]) b) _=>?_;obtain⟨f,b,rfl,_,a⟩:=SA.nX (r:=_) a;obtain rfl:=R5 a;obtain⟨N,c⟩:=nal Vm.kW nCn f;exact⟨N,TX (λd=>nkl Vm.kW nCn d f) (funext λe=>funext λg=>funext λh=>funext λj=>funext λk=>vI (HN hS nq8 nhd N f127 fj [true,true,false,true,false] []) (λi l=>njP i e g h j k l) _ N) c⟩
def YL:Sum:= {ps:=[⟨W4.ct,true⟩],rs:=[⟨[.eN .bool],false⟩],fn:=λa=>(true,[.bool (xG (W4.nd a 0))])}
def qi:Ctx:=[(25,Cy),(126,Y3),(127,fj)]
theorem nrv:Wq hS qi:=aU vN (aU nuJ (aU nve Ns))
def zp:List (Nat×iT):=[(4, {cx:=[(1,.Ay),(12,.Ay),(13,.Ay),(14,.Ay)],boxes:=[(64,[])]}),(14, {cx:=[(1,.Ay),(3,.Ay),(12,.Ay),(13,.Ay),(14,.Ay),(49,.Ay),(50,.Ay),(51,.Ay)],boxes:=[(64,[]),(256,[])]})]
def Da:Bool→zW:=(λa=>((true,[.bool a]):zW))
def mn(x:rM)(a b:Int)(c:rM):CO:= {n:=67,sl:=[(1,.ptr 64 0),(12,.sl xT x),(13,D7 a),(14,D7 b)],hp:=[(64,.box 45 [.sl xT c])]}
def ZC(f:Int)(x:rM)(g h a b:Int)(j:rM)(s k l m c d e:Int)(o:rM):CO:= {n:=67,sl:=[(1,.ptr 64 0),(3,D7 f),(12,.sl xT x),(13,D7 g),(14,D7 h),(49,.own 643136),(50,D7 a),(51,D7 b)],hp:=[(64,.box 45 [.sl xT j]),(256,.box 151 [D7 s,D7 k,D7 l,D7 m,D7 c,D7 d,D7 e]),(643136,.row 3 vL o false true)]}
noncomputable def Ey(N:Nat)(a:CO→zW):(CO→zW)→CO→zW:=HN hS qi zp N f63 YL [true,true,false,true,false,false,true,true,false,false,true,true,true,true,true,false] [a]
noncomputable def Vv(N:Nat):(CO→zW)→CO→zW:=HN hS qi zp N f63 YL [true,true,false,true,false] []
theorem ntC(N:Nat)(k:CO→zW)(c:Int)(x:rM)(h i b:Int)(g:rM)(s l m n d e f:Int)(j:rM)(o:CO→zW)(a:Int):Ey N k o (ZC c x h i b a g s l m n d e f j)=G5 Vm.kW Da (λc=>k (mn x h c g)) c i b g j (λa=>o (ZC c x h i b a g s l m n d e f j)) a:=by kernel_rfl
theorem nt_(N:Nat)(h:CO→zW)(c:Int)(x:rM)(j k a:Int)(i:rM)(s m n o d e f:Int)(l:rM)(g:Nat):(λb=>Vd (Ey N h) g (ZC c x j k a b i s m n o d e f l))=Zg Vm.kW Da N (λc=>h (mn x j c i)) c k a i l g:=by
 induction g with
 | zero=>rfl
 | succ g p=>
  funext b;refine (ntC N h c x j k a i s m n o d e f l (Vd (Ey N h) g) b).trans ?_;rw[p];rfl
theorem nkh(N:Nat)(x:rM)(b:Int)(c:rM)(d:CO→zW)(a:Int):Vv N d (mn x b a c)=ZN Vm.kW Da (λa g e h f=>Vd (Ey N d) N (ZC a x b g e f c (J (V x (h_ a)) 0) (J (V x (h_ a)) 1) (J (V x (h_ a)) 2) (J (V x (h_ a)) 3) (J (V x (h_ a)) 4) (J (V x (h_ a)) 5) (J (V x (h_ a)) 6) h)) x b c (λa=>d (mn x b a c)) a:=by kernel_rfl
theorem ny0(N:Nat)(x:rM)(c:Int)(d:rM)(b:Nat):(λa=>Vd (Vv N) b (mn x c a d))=EW Vm.kW Da N x c d b:=by
 induction b with
 | zero=>rfl
 | succ b f=>
  funext a;refine (nkh N x c d (Vd (Vv N) b) a).trans ?_;have g:=funext λa=>funext λh=>funext λe=>funext λi=>nt_ N (Vd (Vv N) b) a x c h e d (J (V x (h_ a)) 0) (J (V x (h_ a)) 1) (J (V x (h_ a)) 2) (J (V x (h_ a)) 3) (J (V x (h_ a)) 4) (J (V x (h_ a)) 5) (J (V x (h_ a)) 6) i N;rw[g];rw[f];rfl
theorem nlo(N:Nat)(t:W4):Xe hS qi zp N f63 YL (t.enc++([]))=WV Vm.kW Da N t:=by
 have c:Xe hS qi zp N f63 YL (t.enc++([]))=rW Vm.kW Da (λx a b d=>Vd (Vv N) N (mn x a d b)) t:=by kernel_rfl
 refine c.trans ?_;unfold WV;have e:(λx a b d=>Vd (Vv N) N (mn x a d b))=(λx a b=>EW Vm.kW Da N x a b N):=by funext x a b;exact ny0 N x a b N
 exact congrArg (λf=>rW Vm.kW Da f t) e
theorem nmj:gk hS 63 YL:=by refine lH (A:=zp) nrv func63 λc (a:i_ (W4.ct++[]) c) _=>?_;obtain⟨t,c,rfl,b,a⟩:=W4.nX (r:=_) a;obtain rfl:=R5 a;obtain⟨N,d⟩:=nhr Vm.kW Da t b;exact⟨N,((nlo N t).trans d).trans (by kernel_rfl)⟩
def nwQ:Ctx:=[(145,Cy),(202,NY)]
theorem nBn:Wq hS nwQ:=aU X2 (aU nBq Ns)
def naK:List (Nat×iT):=[(4, {cx:=[(1,.Ay),(3,.Ay)],boxes:=[(64,[])]})]
def noU:Bool→zW:=(λa=>((true,[.bool a]):zW))
def nij(k:Int)(a:rM):CO:= {n:=49,sl:=[(1,.ptr 64 0),(3,D7 k)],hp:=[(64,.box 45 [.sl xT a])]}
theorem nyJ:gk hS 201 YL:=by refine lH (A:=naK) nBn func201 λc (a:i_ (W4.ct++[]) c) _=>?_;obtain⟨t,c,rfl,b,a⟩:=W4.nX (r:=_) a;obtain rfl:=R5 a;obtain⟨N,d⟩:=opR Vm.kW noU t b;exact⟨N,TX (λe=>Vn Vm.kW noU e t) (funext λf=>z_ (HN hS nwQ naK N f201 YL [true,true,false,true,false] []) (λk=>nij k f) _ N) d⟩
def AY:Sum:= {ps:=[⟨aV.ct,true⟩,⟨vL,false⟩],rs:=[⟨[.eN .bool],false⟩],fn:=λa=>(true,[.bool (xx (aV.nd a 0) (J a 2))])}
def ncR:Ctx:=[(25,Cy),(128,jS)]
theorem nbo:Wq hS ncR:=aU vN (aU nc3 Ns)
def naG:List (Nat×iT):=[(4, {cx:=[(1,.Ay),(24,.Ay),(25,.Ay),(26,.Ay)],boxes:=[(128,[])]})]
def nkn:Bool→zW:=(λa=>((true,[.bool a]):zW))
def nva(a:Int)(x:rM)(b c:Int)(d:Y)(e:rM):CO:= {n:=36,sl:=[(1,D7 a),(24,.sl vL x),(25,D7 b),(26,D7 c)],hp:=[(128,.box 47 [.str d,.sl vL e])]}
theorem nDh:gk hS 64 AY:=by refine lH (A:=naG) nbo func64 λc (a:i_ (aV.ct++vL) c) _=>?_;obtain⟨s,c,rfl,d,a⟩:=aV.nX (r:=_) a;obtain⟨b,rfl,_⟩:=sX a;obtain⟨N,e⟩:=nxS Vm.kW nkn s b d;exact⟨N,TX (λf=>tN Vm.kW nkn f s b) (funext λx=>funext λg=>z_ (HN hS ncR naG N f64 AY [true,true,false,true,false] []) (λh=>nva b x g h s.eJ s.eb) _ N) e⟩
def nyW:Ctx:=[(145,Cy),(234,jS)]
theorem ner:Wq hS nyW:=aU X2 (aU njb Ns)
def nkc:List (Nat×iT):=[(4, {cx:=[(1,.Ay),(2,.Ay),(5,.Ay)],boxes:=[(128,[])]})]
def ng8:Bool→zW:=(λa=>((true,[.bool a]):zW))
def nof(a k:Int)(b:Y)(c:rM):CO:= {n:=38,sl:=[(1,D7 a),(2,.ptr 128 0),(5,D7 k)],hp:=[(128,.box 47 [.str b,.sl vL c])]}
theorem nm6:gk hS 206 AY:=by refine lH (A:=nkc) ner func206 λc (a:i_ (aV.ct++vL) c) _=>?_;obtain⟨s,c,rfl,d,a⟩:=aV.nX (r:=_) a;obtain⟨b,rfl,_⟩:=sX a;obtain⟨N,e⟩:=nic Vm.kW ng8 s b d;exact⟨N,TX (λf=>mT Vm.kW ng8 f s b) (funext λg=>z_ (HN hS nyW nkc N f206 AY [true,true,false,true,false] []) (λk=>nof b k s.eJ g) _ N) e⟩
def Pr:Sum:= {ps:=[⟨nJ.ct,true⟩,⟨vL,false⟩],rs:=[⟨[.eN .bool],false⟩],fn:=λa=>(true,[.bool (F_ (nJ.nd a 0) (J a 4))])}
def ET:Ctx:=[(62,aZ),(63,YL),(64,AY)]
theorem ntE:Wq hS ET:=aU nBa (aU nmj (aU nDh Ns))
def SW:List (Nat×iT):=[(4, {cx:=[(1,.Ay),(2,.Ay),(27,.Ay),(28,.Ay),(29,.Ay)],boxes:=[(128,[])]}),(10, {cx:=[(1,.Ay),(45,.Ay),(46,.Ay),(47,.Ay)],boxes:=[(128,[])]})]
def XV:Bool→zW:=(λa=>((true,[.bool a]):zW))
def oL(b:Int)(x:rM)(c d:Int)(e f:rM)(g:Y)(a:rM):CO:= {n:=61,sl:=[(1,D7 b),(2,.ptr 128 0),(27,.sl nS x),(28,D7 c),(29,D7 d)],hp:=[(128,.box 49 [.sl nS e,.sl xT f,.str g,.sl vL a])]}
def EU(c:Int)(d:rM)(e f:Int)(g a:rM)(h:Y)(b:rM):CO:= {n:=61,sl:=[(1,D7 c),(45,.sl xT d),(46,D7 e),(47,D7 f)],hp:=[(128,.box 49 [.sl nS g,.sl xT a,.str h,.sl vL b])]}
noncomputable def qX(N:Nat):(CO→zW)→CO→zW:=HN hS ET SW N f29 Pr [true,true,true,false,true,false] []
noncomputable def bu(N:Nat):(CO→zW)→CO→zW:=HN hS ET SW N f29 Pr [true,true,false,true,false] []
theorem nc_(N:Nat)(d:Int)(e:rM)(f:Int)(g a:rM)(h:Y)(b:rM)(i:CO→zW)(c:Int):qX N i (EU d e f c g a h b)=X4 Vm.kW XV d e f (λc=>i (EU d e f c g a h b)) c:=by kernel_rfl
theorem ns8(N:Nat)(d:Int)(e:rM)(f:Int)(h a:rM)(i:Y)(b:rM)(c:Nat):(λg=>Vd (qX N) c (EU d e f g h a i b))=ZU Vm.kW XV N d e f c:=by
 induction c with
 | zero=>rfl
 | succ c j=>
  funext g;refine (nc_ N d e f h a i b (Vd (qX N) c) g).trans ?_;rw[j];rfl
theorem nyp(N:Nat)(c:Int)(x:rM)(e:Int)(f b:rM)(g:Y)(a:rM)(h:CO→zW)(d:Int):bu N h (oL c x e d f b g a)=DE Vm.kW XV (λi j=>Vd (qX N) N (EU c b i j f b g a)) c x e b (λd=>h (oL c x e d f b g a)) d:=by kernel_rfl
theorem nvu(N:Nat)(d:Int)(x:rM)(e:Int)(f b:rM)(g:Y)(a:rM)(c:Nat):(λh=>Vd (bu N) c (oL d x e h f b g a))=yJ Vm.kW XV N d x e b c:=by
 induction c with
 | zero=>rfl
 | succ c i=>
  funext h;refine (nyp N d x e f b g a (Vd (bu N) c) h).trans ?_;have j:=funext λk=>ns8 N d b k f b g a N;rw[j];rw[i];rfl
theorem nrk(N:Nat)(s:nJ)(a:Int):Xe hS ET SW N f29 Pr (s.enc++(.int a::([])))=uZ Vm.kW XV N s a:=by
 have d:Xe hS ET SW N f29 Pr (s.enc++(.int a::([])))=Nm Vm.kW XV (λx b c e=>Vd (bu N) N (oL a x b e s.oQ c s.nV.eJ s.nV.eb)) s a:=by kernel_rfl
 refine d.trans ?_;unfold uZ;have f:(λx b c e=>Vd (bu N) N (oL a x b e s.oQ c s.nV.eJ s.nV.eb))=(λx b c=>yJ Vm.kW XV N a x b c N):=by funext x b c;exact nvu N a x b s.oQ c s.nV.eJ s.nV.eb N
 exact congrArg (λg=>Nm Vm.kW XV g s a) f
theorem np7:gk hS 29 Pr:=by refine lH (A:=SW) ntE func29 λb (a:i_ (nJ.ct++vL) b) _=>?_;obtain⟨s,b,rfl,d,a⟩:=nJ.nX (r:=_) a;obtain⟨c,rfl,_⟩:=sX a;obtain⟨N,e⟩:=nye Vm.kW XV s c d;exact⟨N,((nrk N s c).trans e).trans (by kernel_rfl)⟩
def tP:Ctx:=[(201,YL),(205,aZ),(206,AY)]
theorem nCY:Wq hS tP:=aU nyJ (aU nsY (aU nm6 Ns))
def QL:List (Nat×iT):=[(4, {cx:=[(1,.Ay),(2,.Ay),(5,.Ay)],boxes:=[(128,[])]}),(9, {cx:=[(1,.Ay),(2,.Ay),(6,.Ay)],boxes:=[(128,[])]})]
def U2:Bool→zW:=(λa=>((true,[.bool a]):zW))
def Bu(b k:Int)(c d:rM)(e:Y)(a:rM):CO:= {n:=56,sl:=[(1,D7 b),(2,.ptr 128 0),(5,D7 k)],hp:=[(128,.box 49 [.sl nS c,.sl xT d,.str e,.sl vL a])]}
def Re(c a:Int)(d e:rM)(f:Y)(b:rM):CO:= {n:=56,sl:=[(1,D7 c),(2,.ptr 128 0),(6,D7 a)],hp:=[(128,.box 49 [.sl nS d,.sl xT e,.str f,.sl vL b])]}
noncomputable def R4(N:Nat):(CO→zW)→CO→zW:=HN hS tP QL N f147 Pr [true,true,true,false,true,false] []
noncomputable def GG(N:Nat):(CO→zW)→CO→zW:=HN hS tP QL N f147 Pr [true,true,false,true,false] []
theorem npC(N:Nat)(c:Int)(e d:rM)(f:Y)(b:rM)(g:CO→zW)(a:Int):R4 N g (Re c a e d f b)=Dt Vm.kW U2 c d (λa=>g (Re c a e d f b)) a:=by kernel_rfl
theorem nmi(N:Nat)(d:Int)(f e:rM)(g:Y)(b:rM)(c:Nat):(λa=>Vd (R4 N) c (Re d a f e g b))=ax Vm.kW U2 N d e c:=by
 induction c with
 | zero=>rfl
 | succ c h=>
  funext a;refine (npC N d f e g b (Vd (R4 N) c) a).trans ?_;rw[h];rfl
theorem nzY(N:Nat)(b:Int)(c d:rM)(e:Y)(a:rM)(g:CO→zW)(k:Int):GG N g (Bu b k c d e a)=Xk Vm.kW U2 (λf=>Vd (R4 N) N (Re b f c d e a)) b c d (λk=>g (Bu b k c d e a)) k:=by kernel_rfl
theorem noD(N:Nat)(c:Int)(d e:rM)(f:Y)(a:rM)(b:Nat):(λk=>Vd (GG N) b (Bu c k d e f a))=ZA Vm.kW U2 N c d e b:=by
 induction b with
 | zero=>rfl
 | succ b g=>
  funext k;refine (nzY N c d e f a (Vd (GG N) b) k).trans ?_;have h:=nmi N c d e f a N;rw[h];rw[g];rfl
theorem noM(N:Nat)(s:nJ)(a:Int):Xe hS tP QL N f147 Pr (s.enc++(.int a::([])))=xD Vm.kW U2 N s a:=by
 have d:Xe hS tP QL N f147 Pr (s.enc++(.int a::([])))=yi Vm.kW U2 (λb c k=>Vd (GG N) N (Bu a k b c s.nV.eJ s.nV.eb)) s a:=by kernel_rfl
 refine d.trans ?_;unfold xD;have e:(λb c k=>Vd (GG N) N (Bu a k b c s.nV.eJ s.nV.eb))=(λb c=>ZA Vm.kW U2 N a b c N):=by funext b c;exact noD N a b c s.nV.eJ s.nV.eb N
 exact congrArg (λf=>yi Vm.kW U2 f s a) e
theorem nlX:gk hS 147 Pr:=by refine lH (A:=QL) nCY func147 λb (a:i_ (nJ.ct++vL) b) _=>?_;obtain⟨s,b,rfl,d,a⟩:=nJ.nX (r:=_) a;obtain⟨c,rfl,_⟩:=sX a;obtain⟨N,e⟩:=nr9 Vm.kW U2 s c d;exact⟨N,((noM N s c).trans e).trans (by kernel_rfl)⟩
def Rs:Sum:= {ps:=[⟨QP.ct,true⟩],rs:=[⟨[.eN .bool],false⟩],fn:=λa=>(jV (QP.nd a 0),[.bool (sN (QP.nd a 0))])}
def Pp:Ctx:=[(21,e9),(22,u3),(23,xN),(24,Cz),(25,Cy),(26,ml),(27,Yf),(28,xw),(29,Pr)]
theorem nuP:Wq hS Pp:=aU TQ (aU nyH (aU TI (aU nhK (aU vN (aU qd (aU Nw (aU Wh (aU np7 Ns))))))))
def SK:List (Nat×iT):=[(5, {cx:=[(1,.Ay),(3,.Ay),(61,.Ay),(62,.Ay)],boxes:=[(64,[])]}),(12, {cx:=[(1,.Ay),(3,.Ay),(103,.Ay),(104,.Ay),(105,.Ay)],boxes:=[(64,[]),(320,[])]})]
def iC:Bool→zW:=(λa=>((true,[.bool a]):zW))
def LZ(n x b:Int)(c a:rM)(d e f g h j k:Int)(l m:rM)(o:Int)(p q r s:rM)(t:Int)(u:Bool)(v w y:rM)(z:Y)(A B:rM)(C:Bool)(D E F:rM)(G H I K L:Int):CO:= {n:=117,sl:=[(1,.ptr 64 0),(3,D7 n),(61,D7 x),(62,D7 b)],hp:=[(64,.box 54 [.sl VB c,.sl UB a,D7 d,D7 e,D7 f,D7 g,D7 h,D7 j,D7 k,.sl vL l,.sl [.i,.i,.sl vL] m,D7 o,.sl CR p,.sl [.i,.i,.i,.sl vL] q,.sl UC r,.sl sJ s,D7 t,.bool u,.sl vL v,.sl nS w,.sl xT y,.str z,.sl vL A,.sl Qn B,.bool C,.sl VB D,.sl vL E,.sl vL F,D7 G,D7 H,D7 I,D7 K,D7 L])]}
def i7(n f g:Int)(h a:rM)(j k l m o p q:Int)(r s:rM)(t:Int)(u v w x:rM)(y:Int)(z:Bool)(A B C:rM)(D:Y)(E F:rM)(G:Bool)(H I K:rM)(L M N O P c Q b d e:Int)(R:rM):CO:= {n:=117,sl:=[(1,.ptr 64 0),(3,D7 n),(103,.own 646592),(104,D7 f),(105,D7 g)],hp:=[(64,.box 54 [.sl VB h,.sl UB a,D7 j,D7 k,D7 l,D7 m,D7 o,D7 p,D7 q,.sl vL r,.sl [.i,.i,.sl vL] s,D7 t,.sl CR u,.sl [.i,.i,.i,.sl vL] v,.sl UC w,.sl sJ x,D7 y,.bool z,.sl vL A,.sl nS B,.sl xT C,.str D,.sl vL E,.sl Qn F,.bool G,.sl VB H,.sl vL I,.sl vL K,D7 L,D7 M,D7 N,D7 O,D7 P]),(320,.box 52 [D7 c,D7 Q,D7 b,D7 d,D7 e]),(646592,.row 3 vL R false true)]}
noncomputable def uf(N:Nat):(CO→zW)→CO→zW:=HN hS Pp SK N f9 Rs [true,true,true,true,true,false,true,false] []
noncomputable def DY(N:Nat):(CO→zW)→CO→zW:=HN hS Pp SK N f9 Rs [true,true,true,false,true,false] []
theorem ngC(N:Nat)(n g:Int)(m a:rM)(o p q r s t u:Int)(v w:rM)(x:Int)(y z A B:rM)(C:Int)(D:Bool)(E h i:rM)(j:Y)(k F:rM)(G:Bool)(H I K:rM)(L M O P Q c R b d e:Int)(l:rM)(S:CO→zW)(f:Int):uf N S (i7 n g f m a o p q r s t u v w x y z A B C D E h i j k F G H I K L M O P Q c R b d e l)=mF Vm.kW iC n g h i j k l (λf=>S (i7 n g f m a o p q r s t u v w x y z A B C D E h i j k F G H I K L M O P Q c R b d e l)) f:=by kernel_rfl
theorem nl2(N:Nat)(n g:Int)(o a:rM)(p q r s t u v:Int)(w x:rM)(y:Int)(z A B C:rM)(D:Int)(E:Bool)(F h i:rM)(j:Y)(k G:rM)(H:Bool)(I K L:rM)(M O P Q R c S b d e:Int)(l:rM)(f:Nat):(λm=>Vd (uf N) f (i7 n g m o a p q r s t u v w x y z A B C D E F h i j k G H I K L M O P Q R c S b d e l))=Pg Vm.kW iC N n g h i j k l f:=by
 induction f with
 | zero=>rfl
 | succ f T=>
  funext m;refine (ngC N n g o a p q r s t u v w x y z A B C D E F h i j k G H I K L M O P Q R c S b d e l (Vd (uf N) f) m).trans ?_;rw[T];rfl
theorem nAN(N:Nat)(n x:Int)(p a:rM)(q r s t u v w:Int)(y z:rM)(A:Int)(g h i B:rM)(C:Int)(D:Bool)(E j k:rM)(l:Y)(m F:rM)(G:Bool)(H I K:rM)(b c d e f:Int)(L:CO→zW)(o:Int):DY N L (LZ n x o p a q r s t u v w y z A g h i B C D E j k l m F G H I K b c d e f)=U6 Vm.kW iC (λM O P=>Vd (uf N) N (i7 n M P p a q r s t u v w y z A g h i B C D E j k l m F G H I K b c d e f b c d e f O)) n x g h i j k l m b c d e f (λo=>L (LZ n x o p a q r s t u v w y z A g h i B C D E j k l m F G H I K b c d e f)) o:=by kernel_rfl
theorem nwA(N:Nat)(n x:Int)(p a:rM)(q r s t u v w:Int)(y z:rM)(A:Int)(h i j B:rM)(C:Int)(D:Bool)(E k l:rM)(m:Y)(o F:rM)(G:Bool)(H I K:rM)(b c d e f:Int)(g:Nat):(λL=>Vd (DY N) g (LZ n x L p a q r s t u v w y z A h i j B C D E k l m o F G H I K b c d e f))=Uw Vm.kW iC N n x h i j k l m o b c d e f g:=by
 induction g with
 | zero=>rfl
 | succ g M=>
  funext L;refine (nAN N n x p a q r s t u v w y z A h i j B C D E k l m o F G H I K b c d e f (Vd (DY N) g) L).trans ?_;have O:=funext λP=>funext λQ=>nl2 N n P p a q r s t u v w y z A h i j B C D E k l m o F G H I K b c d e f b c d e f Q N;rw[O];rw[M];rfl
theorem nyo(N:Nat)(h:QP):Xe hS Pp SK N f9 Rs (h.enc++([]))=TS Vm.kW iC N h:=by
 have o:Xe hS Pp SK N f9 Rs (h.enc++([]))=sf Vm.kW iC (λn x a b c d e f g i j k l m p=>Vd (DY N) N (LZ n x p h.oa.nQ h.ei h.Tx.d5.nW h.Tx.d5.nA h.Tx.d5.ej h.Tx.d5.pj h.Tx.nM.nW h.Tx.nM.nA h.Tx.nM.d9 h.Tx.nM.oq h.Tx.nx h.Tx.en a b c h.n8 h.ec.N8 h.ec.n9 h.ec.pO d e f g h.oI h.oU h.tB h.ox h.oV i j k l m)) h:=by kernel_rfl
 refine o.trans ?_;unfold TS;have q:(λn x a b c d e f g i j k l m p=>Vd (DY N) N (LZ n x p h.oa.nQ h.ei h.Tx.d5.nW h.Tx.d5.nA h.Tx.d5.ej h.Tx.d5.pj h.Tx.nM.nW h.Tx.nM.nA h.Tx.nM.d9 h.Tx.nM.oq h.Tx.nx h.Tx.en a b c h.n8 h.ec.N8 h.ec.n9 h.ec.pO d e f g h.oI h.oU h.tB h.ox h.oV i j k l m))=(λn x a b c d e f g i j k l m=>Uw Vm.kW iC N n x a b c d e f g i j k l m N):=by funext n x a b c d e f g i j k l m;exact nwA N n x h.oa.nQ h.ei h.Tx.d5.nW h.Tx.d5.nA h.Tx.d5.ej h.Tx.d5.pj h.Tx.nM.nW h.Tx.nM.nA h.Tx.nM.d9 h.Tx.nM.oq h.Tx.nx h.Tx.en a b c h.n8 h.ec.N8 h.ec.n9 h.ec.pO d e f g h.oI h.oU h.tB h.ox h.oV i j k l m N
 exact congrArg (λr=>sf Vm.kW iC r h) q
theorem Ql:gk hS 9 Rs:=by refine lH (A:=SK) nuP func9 λb (a:i_ (QP.ct++[]) b) aN=>?_;obtain⟨h,b,rfl,_,a⟩:=QP.nX (r:=_) a;obtain rfl:=R5 a;obtain⟨N,c⟩:=gpF Vm.kW iC h aN;exact⟨N,((nyo N h).trans c).trans (by kernel_rfl)⟩
def yB:Sum:= {ps:=[⟨vL,false⟩,⟨[.int .u8],false⟩],rs:=[⟨[.eN .str],false⟩],fn:=λa=>(ie (J a 0) (J a 1),[.str (Vu (J a 0) (J a 1))])}
def nev:List (Nat×iT):=[(3, {cx:=[(0,.Ay),(1,.Ay),(5,.Ay),(6,.Ay)],boxes:=[]})]
def ni7:Y→zW:=(λa=>((true,[.str a]):zW))
def nqw(n x i:Int)(a:rM):CO:= {n:=20,sl:=[(0,D7 n),(1,.int .u8 x),(5,.own 640320),(6,D7 i)],hp:=[(640320,.row 5 [.int .u8] a false true)]}
theorem MU:gk hS 80 yB:=by refine lH (A:=nev) Ns func80 λc (a:i_ ([.i,.int .u8]) c) aN=>?_;obtain⟨n,c,rfl,_,a⟩:=O_ a;obtain⟨x,rfl,b⟩:=sX a;obtain⟨N,d⟩:=np1 Vm.kW ni7 n x b aN;exact⟨N,TX (λe=>iZ Vm.kW ni7 e n x) (vI (HN hS [] nev N f80 yB [true,true,false,true,false] []) (nqw n x) _ N) d⟩
def RM:Sum:= {ps:=[⟨[.int .u8],false⟩,⟨vL,false⟩],rs:=[⟨[.eN .str],false⟩],fn:=λa=>(Vf (J a 0) (J a 1),[.str (dL (J a 0) (J a 1))])}
def ndw:List (Nat×iT):=[(3, {cx:=[(0,.Ay),(5,.Ay),(10,.Ay),(11,.Ay)],boxes:=[]})]
def nxF:Y→zW:=(λa=>((true,[.str a]):zW))
def nL4(b x a:Int)(c:rM):CO:= {n:=21,sl:=[(0,.int .u8 b),(5,.own 640320),(10,D7 x),(11,D7 a)],hp:=[(640320,.row 5 [.int .u8] c false true)]}
theorem nbA:gk hS 247 RM:=by refine lH (A:=ndw) Ns func247 λd (a:i_ ([.int .u8,.i]) d) aN=>?_;obtain⟨b,d,rfl,c,a⟩:=O_ a;obtain⟨n,rfl,_⟩:=sX a;obtain⟨N,e⟩:=nbC Vm.kW nxF b n c aN;exact⟨N,TX (λf=>mR Vm.kW nxF f b n) (funext λx=>vI (HN hS [] ndw N f247 RM [true,true,false,true,false] []) (nL4 b x) _ N) e⟩
def ae:Sum:= {ps:=[⟨VB,false⟩,⟨vL,false⟩],rs:=[⟨[.eN .i],false⟩],fn:=λa=>(true,[.int (N5 (fJ a 0) (J a 1))])}
theorem lM:gk hS 132 ae:=by refine ly Ns func132 λb (a:i_ ([.str,.i]) b) _=>?_;obtain⟨s,b,rfl,c,a⟩:=WW a;obtain⟨gZ,rfl,d⟩:=sX a;exact⟨0,BL (nbm Vm.kW (λe=>((true,[.int e]):zW)) s gZ c d)⟩
def cF:Sum:= {ps:=[⟨VB,false⟩,⟨vL,false⟩,⟨vL,false⟩],rs:=[⟨[.eN .bool],false⟩],fn:=λa=>(true,[.bool (WU (fJ a 0) (J a 1) (J a 2))])}
theorem zB:gk hS 72 cF:=by refine ly Ns func72 λb (a:i_ ([.str,.i,.i]) b) _=>?_;obtain⟨s,b,rfl,_,a⟩:=WW a;obtain⟨gZ,b,rfl,_,a⟩:=O_ a;obtain⟨n,rfl,_⟩:=sX a;exact⟨0,BL (nbG (λc=>((true,[.bool c]):zW)) s gZ n)⟩
def S2:Sum:= {ps:=[⟨VB,false⟩,⟨vL,false⟩],rs:=[⟨[.eN .i],false⟩],fn:=λa=>(true,[.int (tC (fJ a 0) (J a 1))])}
theorem dN:gk hS 210 S2:=by refine ly (Γ:=[(72,cF)]) (aU zB Ns) func210 λb (a:i_ ([.str,.i]) b) _=>?_;obtain⟨s,b,rfl,c,a⟩:=WW a;obtain⟨gZ,rfl,_⟩:=sX a;exact⟨0,BL (ngf Vm.kW (λd=>((true,[.int d]):zW)) s gZ c)⟩
theorem UZ:gk hS 211 ae:=by refine ly (Γ:=[(72,cF),(210,S2)]) (aU zB (aU dN Ns)) func211 λb (a:i_ ([.str,.i]) b) _=>?_;obtain⟨s,b,rfl,c,a⟩:=WW a;obtain⟨gZ,rfl,d⟩:=sX a;exact⟨0,BL (njs (λe=>((true,[.int e]):zW)) s gZ c d)⟩
def og:Sum:= {ps:=[⟨vL,false⟩],rs:=[⟨[.eN .str],false⟩],fn:=λa=>(true,[.str (v7 (J a 0))])}
theorem VU:gk hS 166 og:=by refine ly (Γ:=[(25,Cy)]) (aU vN Ns) func166 λa (b:i_ (vL) a) _=>?_;obtain⟨v,rfl,_⟩:=sX b;exact⟨0,BL (ne3 (λc=>((true,[.str c]):zW)) v)⟩
theorem XD:gk hS 192 og:=by refine ly (Γ:=[(145,Cy)]) (aU X2 Ns) func192 λa (b:i_ (vL) a) _=>?_;obtain⟨v,rfl,_⟩:=sX b;exact⟨0,BL (ne3 (λc=>((true,[.str c]):zW)) v)⟩
def Oc:Sum:= {ps:=[⟨VB,false⟩],rs:=[⟨[.eN .i],false⟩],fn:=λa=>(true,[.int (Qv (fJ a 0))])}
def G2:List (Nat×iT):=[(3, {cx:=[(0,.Ay),(3,.Ay),(4,.Ay)],boxes:=[]}),(7, {cx:=[(0,.Ay),(3,.Ay),(4,.Ay),(5,.Ay)],boxes:=[]})]
def cl:Int→zW:=(λa=>((true,[.int a]):zW))
def qe(s:Y)(c i:Int):CO:= {n:=34,sl:=[(0,.str s),(3,.int .u32 c),(4,D7 i)],hp:=[]}
def N9(s:Y)(a i k:Int):CO:= {n:=34,sl:=[(0,.str s),(3,.int .u32 a),(4,D7 i),(5,D7 k)],hp:=[]}
noncomputable def Iy(N:Nat)(a:CO→zW):(CO→zW)→CO→zW:=HN hS [] G2 N f222 Oc [true,true,false,true,false,false,true,false,false,true,true,false] [a]
noncomputable def Xd(N:Nat):(CO→zW)→CO→zW:=HN hS [] G2 N f222 Oc [true,true,false,true,false] []
theorem nfv(N:Nat)(b:CO→zW)(s:Y)(i:Int)(d:CO→zW)(a k:Int):Iy N b d (N9 s a i k)=ay Vm.kW cl (λc i=>b (qe s c i)) i (λa k=>d (N9 s a i k)) a k:=by kernel_rfl
theorem nAn(N:Nat)(b:CO→zW)(s:Y)(i:Int)(a:Nat):(λd k=>Vd (Iy N b) a (N9 s d i k))=l5 Vm.kW cl N (λc i=>b (qe s c i)) i a:=by
 induction a with
 | zero=>rfl
 | succ a e=>
  funext d k;refine (nfv N b s i (Vd (Iy N b) a) d k).trans ?_;rw[e];rfl
theorem nfy(N:Nat)(s:Y)(a:CO→zW)(c i:Int):Xd N a (qe s c i)=Xw Vm.kW cl (λi b k=>Vd (Iy N a) N (N9 s b i k)) s (λc i=>a (qe s c i)) c i:=by kernel_rfl
theorem npO(N:Nat)(s:Y)(a:Nat):(λc i=>Vd (Xd N) a (qe s c i))=qb Vm.kW cl N s a:=by
 induction a with
 | zero=>rfl
 | succ a b=>
  funext c i;refine (nfy N s (Vd (Xd N) a) c i).trans ?_;have d:=funext λi=>nAn N (Vd (Xd N) a) s i N;rw[d];rw[b];rfl
theorem njN:gk hS 222 Oc:=by refine lH (A:=G2) Ns func222 λa (b:i_ (VB) a) _=>?_;obtain⟨s,rfl,c⟩:=T8 b;obtain⟨N,d⟩:=nq3 Vm.kW cl s c;refine⟨N,Eq.trans ?_ (d.trans (by kernel_rfl))⟩;unfold YG;rw[←npO N s N];kernel_rfl
def qq:List (Nat×iT):=[(3, {cx:=[(0,.Ay),(3,.Ay),(4,.Ay)],boxes:=[]}),(7, {cx:=[(0,.Ay),(3,.Ay),(4,.Ay),(5,.Ay)],boxes:=[]})]
def pz:Int→zW:=(λa=>((true,[.int a]):zW))
def Hf(s:Y)(c i:Int):CO:= {n:=32,sl:=[(0,.str s),(3,D7 c),(4,D7 i)],hp:=[]}
def nU(s:Y)(a i k:Int):CO:= {n:=32,sl:=[(0,.str s),(3,D7 a),(4,D7 i),(5,D7 k)],hp:=[]}
noncomputable def pI(N:Nat)(a:CO→zW):(CO→zW)→CO→zW:=HN hS [] qq N f138 Oc [true,true,false,true,false,false,true,false,false,true,true,false] [a]
noncomputable def Yj(N:Nat):(CO→zW)→CO→zW:=HN hS [] qq N f138 Oc [true,true,false,true,false] []
theorem niZ(N:Nat)(b:CO→zW)(s:Y)(i:Int)(d:CO→zW)(a k:Int):pI N b d (nU s a i k)=Uh Vm.kW pz (λc i=>b (Hf s c i)) i (λa k=>d (nU s a i k)) a k:=by kernel_rfl
theorem nqF(N:Nat)(b:CO→zW)(s:Y)(i:Int)(a:Nat):(λd k=>Vd (pI N b) a (nU s d i k))=yL Vm.kW pz N (λc i=>b (Hf s c i)) i a:=by
 induction a with
 | zero=>rfl
 | succ a e=>
  funext d k;refine (niZ N b s i (Vd (pI N b) a) d k).trans ?_;rw[e];rfl
theorem nbv(N:Nat)(s:Y)(a:CO→zW)(c i:Int):Yj N a (Hf s c i)=rh Vm.kW pz (λi b k=>Vd (pI N a) N (nU s b i k)) s (λc i=>a (Hf s c i)) c i:=by kernel_rfl
theorem nt4(N:Nat)(s:Y)(a:Nat):(λc i=>Vd (Yj N) a (Hf s c i))=E5 Vm.kW pz N s a:=by
 induction a with
 | zero=>rfl
 | succ a b=>
  funext c i;refine (nbv N s (Vd (Yj N) a) c i).trans ?_;have d:=funext λi=>nqF N (Vd (Yj N) a) s i N;rw[d];rw[b];rfl
theorem nmC:gk hS 138 Oc:=by refine lH (A:=qq) Ns func138 λa (b:i_ (VB) a) _=>?_;obtain⟨s,rfl,c⟩:=T8 b;obtain⟨N,d⟩:=nfa Vm.kW pz s c;refine⟨N,Eq.trans ?_ (d.trans (by kernel_rfl))⟩;unfold SE;rw[←nt4 N s N];kernel_rfl
def Hb:Sum:= {ps:=[⟨vL,false⟩],rs:=[⟨[.eN .str],false⟩],fn:=λa=>(true,[.str (Ro (J a 0))])}
theorem d8:gk hS 161 Hb:=by refine ly (Γ:=[(25,Cy)]) (aU vN Ns) func161 λa (b:i_ (vL) a) _=>?_;obtain⟨v,rfl,_⟩:=sX b;exact⟨0,BL (nro (λc=>((true,[.str c]):zW)) v)⟩
theorem TJ:gk hS 191 Hb:=by refine ly (Γ:=[(145,Cy)]) (aU X2 Ns) func191 λa (b:i_ (vL) a) _=>?_;obtain⟨v,rfl,_⟩:=sX b;exact⟨0,BL (nro (λc=>((true,[.str c]):zW)) v)⟩
def Af:Sum:= {ps:=[⟨vL,false⟩,⟨vL,false⟩],rs:=[⟨[.eN .i],false⟩],fn:=λa=>(true,[.int (Oa (J a 0) (J a 1))])}
theorem nr3:gk hS 261 Af:=by refine ly (Γ:=[(25,Cy)]) (aU vN Ns) func261 λd (c:i_ (bG) d) _=>?_;obtain⟨a,d,rfl,_,c⟩:=O_ c;obtain⟨b,rfl,_⟩:=sX c;exact⟨0,BL (nmU (λe=>((true,[.int e]):zW)) a b)⟩
theorem nfI:gk hS 253 Af:=by refine ly (Γ:=[(145,Cy)]) (aU X2 Ns) func253 λd (c:i_ (bG) d) _=>?_;obtain⟨a,d,rfl,_,c⟩:=O_ c;obtain⟨b,rfl,_⟩:=sX c;exact⟨0,BL (nmU (λe=>((true,[.int e]):zW)) a b)⟩
def v_:Sum:= {ps:=[⟨VB,false⟩],rs:=[⟨[.eN .i],false⟩],fn:=λa=>(AK (fJ a 0),[.int (Fo (fJ a 0))])}
def nhn:Ctx:=[(261,Af)]
theorem nmD:Wq hS nhn:=aU nr3 Ns
def nde:List (Nat×iT):=[(3, {cx:=[(0,.Ay),(3,.Ay),(4,.Ay)],boxes:=[]})]
def nhI:Int→zW:=(λa=>((true,[.int a]):zW))
def nBI(s:Y)(a i:Int):CO:= {n:=33,sl:=[(0,.str s),(3,D7 a),(4,D7 i)],hp:=[]}
theorem nsX:gk hS 249 v_:=by refine lH (A:=nde) nmD func249 λa (b:i_ (VB) a) aN=>?_;obtain⟨s,rfl,c⟩:=T8 b;obtain⟨N,d⟩:=nxw Vm.kW nhI s c aN;exact⟨N,TX (λe=>gL Vm.kW nhI e s) (vI (HN hS nhn nde N f249 v_ [true,true,false,true,false] []) (nBI s) _ N) d⟩
def nxg:Ctx:=[(253,Af)]
theorem no6:Wq hS nxg:=aU nfI Ns
def nzB:List (Nat×iT):=[(3, {cx:=[(0,.Ay),(3,.Ay),(4,.Ay)],boxes:=[]})]
def nxR:Int→zW:=(λa=>((true,[.int a]):zW))
def nA5(s:Y)(a i:Int):CO:= {n:=33,sl:=[(0,.str s),(3,D7 a),(4,D7 i)],hp:=[]}
theorem ned:gk hS 230 v_:=by refine lH (A:=nzB) no6 func230 λa (b:i_ (VB) a) aN=>?_;obtain⟨s,rfl,c⟩:=T8 b;obtain⟨N,d⟩:=noj Vm.kW nxR s c aN;exact⟨N,TX (λe=>pR Vm.kW nxR e s) (vI (HN hS nxg nzB N f230 v_ [true,true,false,true,false] []) (nA5 s) _ N) d⟩
def ZV:Sum:= {ps:=[⟨VB,false⟩],rs:=[⟨[.eN .i],false⟩],fn:=λa=>(AK (fJ a 0),[.int (rf (fJ a 0))])}
theorem NN:gk hS 219 ZV:=by refine ly (Γ:=[(249,v_)]) (aU nsX Ns) func219 λa (b:i_ (VB) a) aN=>?_;obtain⟨s,rfl,_⟩:=T8 b;exact⟨0,BL (nAt Vm.kW (λc=>((true,[.int c]):zW)) s aN)⟩
theorem nbT:gk hS 194 ZV:=by refine ly (Γ:=[(230,v_)]) (aU ned Ns) func194 λa (b:i_ (VB) a) aN=>?_;obtain⟨s,rfl,_⟩:=T8 b;exact⟨0,BL (nAt Vm.kW (λc=>((true,[.int c]):zW)) s aN)⟩
def qF:Sum:= {ps:=[⟨VB,false⟩,⟨vL,false⟩,⟨VB,false⟩],rs:=[⟨[.eN .str],false⟩],fn:=λa=>(Ei (fJ a 0) (J a 1) (fJ a 2),[.str (iU (fJ a 0) (J a 1) (fJ a 2))])}
theorem lf:gk hS 160 qF:=by refine ly Ns func160 λb (a:i_ ([.str,.i,.str]) b) aN=>?_;obtain⟨s,b,rfl,_,a⟩:=WW a;obtain⟨gZ,b,rfl,_,a⟩:=O_ a;obtain⟨part,rfl,_⟩:=T8 a;exact⟨0,BL (nr2 Vm.kW (λc=>((true,[.str c]):zW)) s gZ part aN)⟩
theorem W_:gk hS 34 qF:=by refine ly (Γ:=[(72,cF)]) (aU zB Ns) func34 λb (a:i_ ([.str,.i,.str]) b) aN=>?_;obtain⟨s,b,rfl,_,a⟩:=WW a;obtain⟨gZ,b,rfl,_,a⟩:=O_ a;obtain⟨part,rfl,_⟩:=T8 a;exact⟨0,BL (nkZ Vm.kW (λc=>((true,[.str c]):zW)) s gZ part aN)⟩
def AQ:Sum:= {ps:=[⟨vL,false⟩,⟨vL,false⟩,⟨vL,false⟩,⟨vL,false⟩],rs:=[⟨[.eN .str],false⟩,⟨[.eN .bool],false⟩],fn:=λa=>(true,[.str (aO (J a 0) (J a 1) (J a 2) (J a 3)).1]++[.bool (aO (J a 0) (J a 1) (J a 2) (J a 3)).2])}
theorem nzg:gk hS 218 AQ:=by refine ly (Γ:=[(25,Cy),(161,Hb),(166,og)]) (aU vN (aU d8 (aU VU Ns))) func218 λc (a:i_ ([.i,.i,.i,.i]) c) _=>?_;obtain⟨d,c,rfl,_,a⟩:=O_ a;obtain⟨e,c,rfl,_,a⟩:=O_ a;obtain⟨b,c,rfl,_,a⟩:=O_ a;obtain⟨length,rfl,_⟩:=sX a;exact⟨0,BL (nce Vm.kW (λf g=>((true,[.str f]++[.bool g]):zW)) d e b length)⟩
theorem nzv:gk hS 193 AQ:=by refine ly (Γ:=[(145,Cy),(191,Hb),(192,og)]) (aU X2 (aU TJ (aU XD Ns))) func193 λc (a:i_ ([.i,.i,.i,.i]) c) _=>?_;obtain⟨d,c,rfl,_,a⟩:=O_ a;obtain⟨e,c,rfl,_,a⟩:=O_ a;obtain⟨b,c,rfl,_,a⟩:=O_ a;obtain⟨length,rfl,_⟩:=sX a;exact⟨0,BL (nce Vm.kW (λf g=>((true,[.str f]++[.bool g]):zW)) d e b length)⟩
def we:Sum:= {ps:=[⟨vL,false⟩],rs:=[⟨[.eN .i],false⟩],fn:=λa=>(true,[.int (wj (J a 0))])}
theorem qU:gk hS 216 we:=by refine ly Ns func216 λb (c:i_ (vL) b) _=>?_;obtain⟨a,rfl,_⟩:=sX c;exact⟨0,BL (nn8 (λd=>((true,[.int d]):zW)) a)⟩
def na4:Sum:= {ps:=[⟨ch.ct,true⟩],rs:=[⟨[.eN .str],false⟩],fn:=λa=>(i9 (ch.nd a 0),[.str (yk (ch.nd a 0))])}
theorem ne2:gk hS 244 na4:=by refine ly (Γ:=[(161,Hb),(166,og)]) (aU d8 (aU VU Ns)) func244 λb (a:i_ (ch.ct++[]) b) aN=>?_;obtain⟨g,b,rfl,_,a⟩:=ch.nX (r:=_) a;obtain rfl:=R5 a;exact⟨0,BL (nv9 Vm.kW (λc=>((true,[.str c]):zW)) g aN)⟩
def Pw:Sum:= {ps:=[⟨vL,false⟩,⟨vL,false⟩,⟨ch.ct,true⟩],rs:=[⟨[.eN .str],false⟩,⟨[.eN .bool],false⟩],fn:=λa=>(true,[.str (k8 (J a 0) (J a 1) (ch.nd a 2)).1]++[.bool (k8 (J a 0) (J a 1) (ch.nd a 2)).2])}
theorem nlg:gk hS 212 Pw:=by refine ly (Γ:=[(123,EG),(160,qF),(161,Hb),(216,we),(218,AQ),(219,ZV),(244,na4)]) (aU nzQ (aU lf (aU d8 (aU qU (aU nzg (aU NN (aU ne2 Ns))))))) func212 λb (a:i_ (.i::(.i::(ch.ct++[]))) b) _=>?_;obtain⟨c,b,rfl,_,a⟩:=O_ a;obtain⟨d,b,rfl,_,a⟩:=O_ a;obtain⟨g,b,rfl,_,a⟩:=ch.nX (r:=_) a;obtain rfl:=R5 a;exact⟨0,BL (nzJ Vm.kW (λe f=>((true,[.str e]++[.bool f]):zW)) c d g)⟩
theorem nxq:gk hS 134 Pw:=by refine ly (Γ:=[(34,qF),(190,EG),(191,Hb),(192,og),(193,AQ),(194,ZV)]) (aU W_ (aU nmm (aU TJ (aU XD (aU nzv (aU nbT Ns)))))) func134 λb (a:i_ (.i::(.i::(ch.ct++[]))) b) _=>?_;obtain⟨c,b,rfl,_,a⟩:=O_ a;obtain⟨d,b,rfl,_,a⟩:=O_ a;obtain⟨g,b,rfl,_,a⟩:=ch.nX (r:=_) a;obtain rfl:=R5 a;exact⟨0,BL (nCt Vm.kW (λe f=>((true,[.str e]++[.bool f]):zW)) c d g)⟩
def jZ:Sum:= {ps:=[⟨Tc.ct,true⟩],rs:=[⟨[.eN .bool],false⟩],fn:=λa=>(true,[.bool (Gs (Tc.nd a 0))])}
theorem nfZ:gk hS 260 jZ:=by refine ly (Γ:=[(25,Cy)]) (aU vN Ns) func260 λb (a:i_ (Tc.ct++[]) b) _=>?_;obtain⟨d,b,rfl,_,a⟩:=Tc.nX (r:=_) a;obtain rfl:=R5 a;exact⟨0,BL (nCo (λc=>((true,[.bool c]):zW)) d)⟩
theorem ncj:gk hS 231 jZ:=by refine ly (Γ:=[(145,Cy)]) (aU X2 Ns) func231 λb (a:i_ (Tc.ct++[]) b) _=>?_;obtain⟨d,b,rfl,_,a⟩:=Tc.nX (r:=_) a;obtain rfl:=R5 a;exact⟨0,BL (nCo (λc=>((true,[.bool c]):zW)) d)⟩
def pT:Sum:= {ps:=[⟨Tc.ct,true⟩],rs:=[⟨[.eN .str],false⟩,⟨[.eN .bool],false⟩],fn:=λa=>(true,[.str (ZS (Tc.nd a 0)).1]++[.bool (ZS (Tc.nd a 0)).2])}
theorem ney:gk hS 245 pT:=by refine ly (Γ:=[(160,qF),(161,Hb),(166,og),(219,ZV),(260,jZ)]) (aU lf (aU d8 (aU VU (aU NN (aU nfZ Ns))))) func245 λb (a:i_ (Tc.ct++[]) b) _=>?_;obtain⟨d,b,rfl,_,a⟩:=Tc.nX (r:=_) a;obtain rfl:=R5 a;exact⟨0,BL (noJ Vm.kW (λc e=>((true,[.str c]++[.bool e]):zW)) d)⟩
theorem nhY:gk hS 195 pT:=by refine ly (Γ:=[(34,qF),(191,Hb),(192,og),(194,ZV),(231,jZ)]) (aU W_ (aU TJ (aU XD (aU nbT (aU ncj Ns))))) func195 λb (a:i_ (Tc.ct++[]) b) _=>?_;obtain⟨d,b,rfl,_,a⟩:=Tc.nX (r:=_) a;obtain rfl:=R5 a;exact⟨0,BL (noJ Vm.kW (λc e=>((true,[.str c]++[.bool e]):zW)) d)⟩
def UO:Sum:= {ps:=[⟨Tc.ct,true⟩],rs:=[⟨[.eN .str],false⟩,⟨[.eN .bool],false⟩],fn:=λa=>(true,[.str (PA (Tc.nd a 0)).1]++[.bool (PA (Tc.nd a 0)).2])}
theorem ng2:gk hS 213 UO:=by refine ly (Γ:=[(245,pT)]) (aU ney Ns) func213 λb (a:i_ (Tc.ct++[]) b) _=>?_;obtain⟨d,b,rfl,_,a⟩:=Tc.nX (r:=_) a;obtain rfl:=R5 a;exact⟨0,BL (neQ Vm.kW (λc e=>((true,[.str c]++[.bool e]):zW)) d)⟩
theorem nks:gk hS 135 UO:=by refine ly (Γ:=[(195,pT)]) (aU nhY Ns) func135 λb (a:i_ (Tc.ct++[]) b) _=>?_;obtain⟨d,b,rfl,_,a⟩:=Tc.nX (r:=_) a;obtain rfl:=R5 a;exact⟨0,BL (neQ Vm.kW (λc e=>((true,[.str c]++[.bool e]):zW)) d)⟩
def ze:Sum:= {ps:=[⟨VB,false⟩],rs:=[⟨[.eN .str],false⟩],fn:=λa=>(true,[.str (V4 (fJ a 0))])}
theorem neV:gk hS 215 ze:=by refine ly (Γ:=[(247,RM)]) (aU nbA Ns) func215 λa (b:i_ (VB) a) _=>?_;obtain⟨s,rfl,c⟩:=T8 b;exact⟨0,BL (nsQ Vm.kW (λd=>((true,[.str d]):zW)) s c)⟩
theorem np3:gk hS 137 ze:=by refine ly (Γ:=[(80,yB)]) (aU MU Ns) func137 λa (b:i_ (VB) a) _=>?_;obtain⟨s,rfl,c⟩:=T8 b;exact⟨0,BL (nif Vm.kW (λd=>((true,[.str d]):zW)) s c)⟩
def EA:Sum:= {ps:=[⟨Ps.ct,true⟩],rs:=[⟨[.eN .bool],false⟩],fn:=λa=>(true,[.bool (tf (Ps.nd a 0))])}
theorem nnO:gk hS 223 EA:=by refine ly (Γ:=[(25,Cy)]) (aU vN Ns) func223 λb (a:i_ (Ps.ct++[]) b) _=>?_;obtain⟨e,b,rfl,_,a⟩:=Ps.nX (r:=_) a;obtain rfl:=R5 a;exact⟨0,BL (nr5 (λc=>((true,[.bool c]):zW)) e)⟩
theorem ntl:gk hS 196 EA:=by refine ly (Γ:=[(145,Cy)]) (aU X2 Ns) func196 λb (a:i_ (Ps.ct++[]) b) _=>?_;obtain⟨e,b,rfl,_,a⟩:=Ps.nX (r:=_) a;obtain rfl:=R5 a;exact⟨0,BL (nr5 (λc=>((true,[.bool c]):zW)) e)⟩
def kY:Sum:= {ps:=[⟨vL,false⟩],rs:=[⟨[.eN .str],false⟩],fn:=λa=>(true,[.str (yw (J a 0))])}
theorem nm_:gk hS 246 kY:=by refine ly (Γ:=[(161,Hb),(166,og)]) (aU d8 (aU VU Ns)) func246 λb (c:i_ (vL) b) _=>?_;obtain⟨a,rfl,_⟩:=sX c;exact⟨0,BL (nCv Vm.kW (λd=>((true,[.str d]):zW)) a)⟩
theorem ns0:gk hS 197 kY:=by refine ly (Γ:=[(191,Hb),(192,og)]) (aU TJ (aU XD Ns)) func197 λa (b:i_ (vL) a) _=>?_;obtain⟨x,rfl,_⟩:=sX b;exact⟨0,BL (nCv Vm.kW (λc=>((true,[.str c]):zW)) x)⟩
def Fa:Sum:= {ps:=[⟨Ps.ct,true⟩],rs:=[⟨[.eN .str],false⟩,⟨[.eN .bool],false⟩],fn:=λa=>(true,[.str (Og (Ps.nd a 0)).1]++[.bool (Og (Ps.nd a 0)).2])}
theorem nwk:gk hS 214 Fa:=by refine ly (Γ:=[(161,Hb),(223,EA),(246,kY)]) (aU d8 (aU nnO (aU nm_ Ns))) func214 λb (a:i_ (Ps.ct++[]) b) _=>?_;obtain⟨e,b,rfl,_,a⟩:=Ps.nX (r:=_) a;obtain rfl:=R5 a;exact⟨0,BL (nCI Vm.kW (λc d=>((true,[.str c]++[.bool d]):zW)) e)⟩
theorem nmK:gk hS 136 Fa:=by refine ly (Γ:=[(191,Hb),(196,EA),(197,kY)]) (aU TJ (aU ntl (aU ns0 Ns))) func136 λb (a:i_ (Ps.ct++[]) b) _=>?_;obtain⟨e,b,rfl,_,a⟩:=Ps.nX (r:=_) a;obtain rfl:=R5 a;exact⟨0,BL (nbH Vm.kW (λc d=>((true,[.str c]++[.bool d]):zW)) e)⟩
def EX:Sum:= {ps:=[⟨oY.ct,true⟩],rs:=[⟨[.eN .str],false⟩,⟨[.eN .bool],false⟩],fn:=λa=>(true,[.str (dQ (oY.nd a 0)).1]++[.bool (dQ (oY.nd a 0)).2])}
theorem pF:gk hS 158 EX:=by refine ly (Γ:=[(60,uM),(212,Pw),(213,UO),(214,Fa),(215,ze)]) (aU DQ (aU nlg (aU ng2 (aU nwk (aU neV Ns))))) func158 λb (a:i_ (oY.ct++[]) b) _=>?_;obtain⟨p,b,rfl,_,a⟩:=oY.nX (r:=_) a;obtain rfl:=R5 a;exact⟨0,BL (nrR (λc d=>((true,[.str c]++[.bool d]):zW)) p)⟩
theorem nrb:gk hS 70 EX:=by refine ly (Γ:=[(133,uM),(134,Pw),(135,UO),(136,Fa),(137,ze)]) (aU Db (aU nxq (aU nks (aU nmK (aU np3 Ns))))) func70 λb (a:i_ (oY.ct++[]) b) _=>?_;obtain⟨p,b,rfl,_,a⟩:=oY.nX (r:=_) a;obtain rfl:=R5 a;exact⟨0,BL (nrR (λc d=>((true,[.str c]++[.bool d]):zW)) p)⟩
def U5:Sum:= {ps:=[⟨oY.ct,true⟩],rs:=[⟨[.eN .bool],false⟩],fn:=λa=>(true,[.bool (yc (oY.nd a 0))])}
theorem VX:gk hS 106 U5:=by refine ly (Γ:=[(60,uM)]) (aU DQ Ns) func106 λb (a:i_ (oY.ct++[]) b) _=>?_;obtain⟨p,b,rfl,_,a⟩:=oY.nX (r:=_) a;obtain rfl:=R5 a;exact⟨0,BL (nfX (λc=>((true,[.bool c]):zW)) p)⟩
theorem nvP:gk hS 69 U5:=by refine ly (Γ:=[(133,uM)]) (aU Db Ns) func69 λb (a:i_ (oY.ct++[]) b) _=>?_;obtain⟨p,b,rfl,_,a⟩:=oY.nX (r:=_) a;obtain rfl:=R5 a;exact⟨0,BL (nfX (λc=>((true,[.bool c]):zW)) p)⟩
def nmN:Sum:= {ps:=[⟨[.sl UB],false⟩,⟨vL,false⟩,⟨vL,false⟩,⟨sJ,false⟩],rs:=[⟨[.eN .i],false⟩],fn:=λa=>(true,[.int (place (Zc a 0) (J a 1) (J a 2) (yz a 3))])}
theorem njp:gk hS 188 nmN:=by refine ly (Γ:=[(56,mI)]) (aU npH Ns) func188 λd (c:i_ ([.sl UB,.i,.i,.bool]) d) _=>?_;obtain⟨Z,d,rfl,e,c⟩:=dh c;obtain⟨b,d,rfl,_,c⟩:=O_ c;obtain⟨a,d,rfl,_,c⟩:=O_ c;obtain⟨write,rfl,_⟩:=ZM c;exact⟨0,BL (nwN Vm.kW (λf=>((true,[.int f]):zW)) Z b a write e)⟩
def RC:Sum:= {ps:=[⟨TV.ct,true⟩,⟨vL,false⟩,⟨vL,false⟩],rs:=[⟨[.eN .bool],false⟩],fn:=λa=>(true,[.bool (within (TV.nd a 0) (J a 1) (J a 2))])}
theorem P0:gk hS 189 RC:=by refine ly (Γ:=[(21,e9)]) (aU TQ Ns) func189 λb a _=>?_;replace a:i_ (TV.ct++bG) b:=a;obtain⟨m,b,rfl,_,a⟩:=TV.nX (r:=_) a;obtain⟨gZ,b,rfl,_,a⟩:=O_ a;obtain⟨n,rfl,_⟩:=sX a;exact⟨0,BL (nAr (λc=>((true,[.bool c]):zW)) m gZ n)⟩
theorem nB1:gk hS 265 RC:=by refine ly (Γ:=[(263,e9)]) (aU nuT Ns) func265 λb a _=>?_;replace a:i_ (TV.ct++bG) b:=a;obtain⟨m,b,rfl,d,a⟩:=TV.nX (r:=_) a;obtain⟨gZ,b,rfl,e,a⟩:=O_ a;obtain⟨n,rfl,c⟩:=sX a;exact⟨0,BL (nfq (λf=>((true,[.bool f]):zW)) m gZ n d e c)⟩
def CP:Sum:= {ps:=[⟨TV.ct,true⟩,⟨vL,false⟩,⟨VB,false⟩],rs:=[⟨[.own 9 VB],true⟩,⟨[.eN .bool],false⟩],fn:=λa=>(jT (TV.nd a 0) (J a 1) (fJ a 2),TV.enc (Ga (TV.nd a 0) (J a 1) (fJ a 2)).1++[.bool (Ga (TV.nd a 0) (J a 1) (fJ a 2)).2])}
def noi:Ctx:=[(1125899906842657,iV),(85,Qd),(189,RC)]
theorem nAO:Wq hS noi:=aU XH (aU HB (aU P0 Ns))
def nur:List (Nat×iT):=[(4, {cx:=[(1,.Ay),(2,.Ay),(6,.Ay),(8,.Ay)],boxes:=[(192,[]),(384,[]),(512,[])]})]
def nsv:TV→Bool→zW:=(λa b=>((true,TV.enc a++[.bool b]):zW))
def nBb(a:Int)(b:Y)(c d:rM):CO:= {n:=50,sl:=[(1,D7 a),(2,.str b),(6,.ptr 384 0),(8,.ptr 512 0)],hp:=[(192,.box 26 [.sl VB c]),(384,.box 26 [.nil]),(512,.box 26 [.own 1411072]),(1411072,.row 9 VB d false true)]}
theorem cj2:gk hS 248 CP:=by refine lH (A:=nur) nAO func248 λb a c=>?_;replace a:i_ (TV.ct++[.i,.str]) b:=a;obtain⟨m,b,rfl,d,a⟩:=TV.nX (r:=_) a;obtain⟨gZ,b,rfl,_,a⟩:=O_ a;obtain⟨s,rfl,_⟩:=T8 a;obtain⟨N,e⟩:=nh6 Vm.kW nsv m gZ s d c;exact⟨N,TX (λf=>cH Vm.kW nsv f m gZ s) (W7 (HN hS noi nur N f248 CP [true,true,true,false,false] []) (λg h j=>nBb g h m.nQ j) _ N) e⟩
def kK:Sum:= {ps:=[⟨[.sl UB],false⟩,⟨TV.ct,true⟩,⟨vL,false⟩,⟨vL,false⟩,⟨vL,false⟩,⟨sJ,false⟩],rs:=[⟨[.own 219 bG],false⟩,⟨[.eN .bool],false⟩],fn:=λa=>(true,[.sl (Zi (Zc a 0) (TV.nd a 1) (J a 2) (J a 3) (J a 4) (yz a 5)).1]++[.bool (Zi (Zc a 0) (TV.nd a 1) (J a 2) (J a 3) (J a 4) (yz a 5)).2])}
def nga:Ctx:=[(21,e9),(22,u3),(25,Cy),(188,nmN),(189,RC)]
theorem ne_:Wq hS nga:=aU TQ (aU nyH (aU vN (aU njp (aU P0 Ns))))
def nC2:List (Nat×iT):=[(8, {cx:=[(0,.Ay),(2,.Ay),(3,.Ay),(4,.Ay),(5,.Ay),(7,.Ay),(14,.Ay)],boxes:=[(448,[])]})]
def nr0:rM→Bool→zW:=(λa b=>((true,[.sl a]++[.bool b]):zW))
def nnc(Z:rM)(a c b:Int)(write:Bool)(d e:rM):CO:= {n:=75,sl:=[(0,.sl UB Z),(2,D7 a),(3,D7 c),(4,D7 b),(5,.bool write),(7,.ptr 448 0),(14,.own 640896)],hp:=[(448,.box 26 [.sl VB d]),(640896,.row 219 bG e false true)]}
theorem nmJ:gk hS 129 kK:=by refine lH (A:=nC2) ne_ func129 λc b _=>?_;replace b:i_ ((.sl UB)::(TV.ct++UB)) c:=b;obtain⟨Z,c,rfl,_,b⟩:=dh b;obtain⟨m,c,rfl,_,b⟩:=TV.nX (r:=_) b;obtain⟨a,c,rfl,_,b⟩:=O_ b;obtain⟨gZ,c,rfl,e,b⟩:=O_ b;obtain⟨n,c,rfl,_,b⟩:=O_ b;obtain⟨write,rfl,_⟩:=ZM b;obtain⟨N,f⟩:=nuI Vm.kW nr0 Z m a gZ n write e;exact⟨N,TX (λg=>XW Vm.kW nr0 g Z m a gZ n write) (funext λh=>W7 (HN hS nga nC2 N f129 kK [true,true,true,true,true,false,false] []) (λj d k=>nnc Z a j d write h k) _ N) f⟩
def E8:Sum:= {ps:=[⟨[.sl UB],false⟩,⟨TV.ct,true⟩,⟨vL,false⟩,⟨vL,false⟩,⟨VB,false⟩,⟨sJ,false⟩],rs:=[⟨[.own 9 VB],true⟩,⟨[.eN .bool],false⟩],fn:=λa=>(QK (Zc a 0) (TV.nd a 1) (J a 2) (J a 3) (fJ a 4) (yz a 5),TV.enc (put (Zc a 0) (TV.nd a 1) (J a 2) (J a 3) (fJ a 4) (yz a 5)).1++[.bool (put (Zc a 0) (TV.nd a 1) (J a 2) (J a 3) (fJ a 4) (yz a 5)).2])}
def ne7:Ctx:=[(85,Qd),(129,kK),(248,CP)]
theorem nnq:Wq hS ne7:=aU HB (aU nmJ (aU cj2 Ns))
def dsA:List (Nat×iT):=[(6, {cx:=[(4,.Ay),(12,.Ay),(14,.Ay),(35,.Ay),(36,.Ay),(37,.Ay)],boxes:=[(448,[]),(768,[]),(896,[])]})]
def nz3:TV→Bool→zW:=(λa b=>((true,TV.enc a++[.bool b]):zW))
def nlx(a:Y)(x b:Int)(c d e:rM):CO:= {n:=58,sl:=[(4,.str a),(12,.ptr 768 0),(14,.ptr 896 0),(35,.own 642240),(36,D7 x),(37,D7 b)],hp:=[(448,.box 26 [.sl VB c]),(768,.box 26 [.nil]),(896,.box 26 [.own 1509376]),(642240,.row 219 bG d false true),(1509376,.row 9 VB e false true)]}
theorem nxJ:gk hS 217 E8:=by refine lH (A:=dsA) nnq func217 λc b d=>?_;replace b:i_ ((.sl UB)::(TV.ct++[.i,.i,.str,.bool])) c:=b;obtain⟨Z,c,rfl,_,b⟩:=dh b;obtain⟨m,c,rfl,e,b⟩:=TV.nX (r:=_) b;obtain⟨a,c,rfl,_,b⟩:=O_ b;obtain⟨gZ,c,rfl,_,b⟩:=O_ b;obtain⟨s,c,rfl,f,b⟩:=WW b;obtain⟨write,rfl,_⟩:=ZM b;obtain⟨N,g⟩:=flI Vm.kW nz3 Z m a gZ s write e f d;exact⟨N,TX (λh=>xE Vm.kW nz3 h Z m a gZ s write) (funext λx=>funext λj=>W7 (HN hS ne7 dsA N f217 E8 [true,true,true,true,false,true,false] []) (λk l n=>nlx k x l m.nQ j n) _ N) g⟩
def NI:Sum:= {ps:=[⟨[.sl UB],false⟩,⟨TV.ct,true⟩,⟨vL,false⟩,⟨vL,false⟩,⟨VB,false⟩],rs:=[⟨[.own 9 VB],true⟩,⟨[.eN .bool],false⟩],fn:=λa=>(zm (Zc a 0) (TV.nd a 1) (J a 2) (J a 3) (fJ a 4),TV.enc (Y2 (Zc a 0) (TV.nd a 1) (J a 2) (J a 3) (fJ a 4)).1++[.bool (Y2 (Zc a 0) (TV.nd a 1) (J a 2) (J a 3) (fJ a 4)).2])}
theorem Xu:gk hS 182 NI:=by refine ly (Γ:=[(217,E8)]) (aU nxJ Ns) func182 λc a d=>?_;replace a:i_ ((.sl UB)::(TV.ct++[.i,.i,.str])) c:=a;obtain⟨Z,c,rfl,_,a⟩:=dh a;obtain⟨m,c,rfl,_,a⟩:=TV.nX (r:=_) a;obtain⟨b,c,rfl,_,a⟩:=O_ a;obtain⟨gZ,c,rfl,_,a⟩:=O_ a;obtain⟨s,rfl,_⟩:=T8 a;exact⟨0,BL (nvv Vm.kW (λe f=>((true,TV.enc e++[.bool f]):zW)) Z m b gZ s d)⟩
def Ar:Sum:= {ps:=[⟨vL,false⟩],rs:=[⟨[.own 9 VB],true⟩],fn:=λa=>(true,TV.enc (C_ (J a 0)))}
def nx2:Ctx:=[(80,yB)]
theorem njm:Wq hS nx2:=aU MU Ns
def nso:List (Nat×iT):=[(3, {cx:=[(0,.Ay),(2,.Ay),(3,.Ay),(4,.Ay)],boxes:=[(128,[]),(192,[(0,.own 9)])]})]
def njc:TV→zW:=(λa=>((true,TV.enc a):zW))
def nqX(b k:Int)(a:rM):CO:= {n:=22,sl:=[(0,D7 b),(2,.ptr 128 0),(3,.ptr 192 0),(4,D7 k)],hp:=[(128,.box 26 [.nil]),(192,.box 26 [.own 1329152]),(1329152,.row 9 VB a false true)]}
theorem nsk:gk hS 148 Ar:=by refine lH (A:=nso) njm func148 λb (c:i_ (vL) b) _=>?_;obtain⟨a,rfl,_⟩:=sX c;obtain⟨N,d⟩:=ns5 Vm.kW njc a;exact⟨N,TX (λe=>dF Vm.kW njc e a) (vI (HN hS nx2 nso N f148 Ar [true,true,false,true,false] []) (nqX a) _ N) d⟩
def Gt:Sum:= {ps:=[⟨[.sl UB],false⟩,⟨vL,false⟩,⟨vL,false⟩,⟨sJ,false⟩],rs:=[⟨[.eN .i],false⟩],fn:=λa=>(true,[.int (jI (Zc a 0) (J a 1) (J a 2) (yz a 3))])}
def ntp:List (Nat×iT):=[(2, {cx:=[(0,.Ay),(1,.Ay),(2,.Ay),(3,.Ay),(9,.Ay)],boxes:=[]})]
def nL2:Int→zW:=(λa=>((true,[.int a]):zW))
def nvU(Z:rM)(a b:Int)(write:Bool)(k:Int):CO:= {n:=48,sl:=[(0,.sl UB Z),(1,D7 a),(2,D7 b),(3,.bool write),(9,D7 k)],hp:=[]}
theorem hfM:gk hS 264 Gt:=by refine lH (A:=ntp) Ns func264 λc (b:i_ ([.sl UB,.i,.i,.bool]) c) _=>?_;obtain⟨Z,c,rfl,e,b⟩:=dh b;obtain⟨a,c,rfl,_,b⟩:=O_ b;obtain⟨d,c,rfl,_,b⟩:=O_ b;obtain⟨write,rfl,_⟩:=ZM b;obtain⟨N,f⟩:=ng_ Vm.kW nL2 Z a d write e;exact⟨N,TX (λg=>QU Vm.kW nL2 g Z a d write) (z_ (HN hS [] ntp N f264 Gt [true,false,true,false] []) (nvU Z a d write) _ N) f⟩
def Ss:Sum:= {ps:=[⟨[.sl UB],false⟩,⟨TV.ct,true⟩,⟨vL,false⟩,⟨vL,false⟩,⟨vL,false⟩,⟨sJ,false⟩],rs:=[⟨[.own 3 vL],false⟩,⟨[.own 3 vL],false⟩,⟨[.eN .bool],false⟩],fn:=λa=>(true,[.sl (Ry (Zc a 0) (TV.nd a 1) (J a 2) (J a 3) (J a 4) (yz a 5)).1]++[.sl (Ry (Zc a 0) (TV.nd a 1) (J a 2) (J a 3) (J a 4) (yz a 5)).2.1]++[.bool (Ry (Zc a 0) (TV.nd a 1) (J a 2) (J a 3) (J a 4) (yz a 5)).2.2])}
def nvl:Ctx:=[(145,Cy),(262,u3),(263,e9),(264,Gt),(265,RC)]
theorem nCD:Wq hS nvl:=aU X2 (aU ngH (aU nuT (aU hfM (aU nB1 Ns))))
def nre:List (Nat×iT):=[(5, {cx:=[(0,.Ay),(2,.Ay),(3,.Ay),(4,.Ay),(5,.Ay),(7,.Ay),(15,.Ay),(16,.Ay)],boxes:=[(448,[])]})]
def nvs:rM→rM→Bool→zW:=(λa b c=>((true,[.sl a]++[.sl b]++[.bool c]):zW))
def nlO(Z:rM)(a d c:Int)(write:Bool)(e b f:rM):CO:= {n:=83,sl:=[(0,.sl UB Z),(2,D7 a),(3,D7 d),(4,D7 c),(5,.bool write),(7,.ptr 448 0),(15,.own 640960),(16,.own 641024)],hp:=[(448,.box 26 [.sl VB e]),(640960,.row 3 vL b false true),(641024,.row 3 vL f false true)]}
theorem nq1:gk hS 254 Ss:=by refine lH (A:=nre) nCD func254 λd b _=>?_;replace b:i_ ((.sl UB)::(TV.ct++UB)) d:=b;obtain⟨Z,d,rfl,_,b⟩:=dh b;obtain⟨m,d,rfl,f,b⟩:=TV.nX (r:=_) b;obtain⟨a,d,rfl,_,b⟩:=O_ b;obtain⟨gZ,d,rfl,g,b⟩:=O_ b;obtain⟨n,d,rfl,_,b⟩:=O_ b;obtain⟨write,rfl,_⟩:=ZM b;obtain⟨N,h⟩:=nxl Vm.kW nvs Z m a gZ n write f g;exact⟨N,TX (λj=>S1 Vm.kW nvs j Z m a gZ n write) (funext λk=>ntI (HN hS nvl nre N f254 Ss [true,true,true,true,false,false] []) (λl e c o=>nlO Z a l e write k c o) _ N) h⟩
def Py:Sum:= {ps:=[⟨TV.ct,true⟩,⟨vL,false⟩,⟨vL,false⟩],rs:=[⟨[.eN .str],false⟩,⟨[.eN .bool],false⟩],fn:=λa=>(true,[.str (NW (TV.nd a 0) (J a 1) (J a 2)).1]++[.bool (NW (TV.nd a 0) (J a 1) (J a 2)).2])}
def nf3:Ctx:=[(189,RC)]
theorem nmI:Wq hS nf3:=aU P0 Ns
def nl7:List (Nat×iT):=[(4, {cx:=[(1,.Ay),(2,.Ay),(3,.Ay),(8,.Ay)],boxes:=[(192,[])]})]
def nzu:Y→Bool→zW:=(λa b=>((true,[.str a]++[.bool b]):zW))
def nj3(a n:Int)(b c:rM):CO:= {n:=50,sl:=[(1,D7 a),(2,D7 n),(3,.ptr 192 0),(8,.own 640512)],hp:=[(192,.box 26 [.sl VB b]),(640512,.row 5 [.int .u8] c false true)]}
theorem nA9:gk hS 130 Py:=by refine lH (A:=nl7) nmI func130 λb a _=>?_;replace a:i_ (TV.ct++bG) b:=a;obtain⟨m,b,rfl,c,a⟩:=TV.nX (r:=_) a;obtain⟨gZ,b,rfl,_,a⟩:=O_ a;obtain⟨n,rfl,_⟩:=sX a;obtain⟨N,d⟩:=ntT Vm.kW nzu m gZ n c;exact⟨N,TX (λe=>yZ Vm.kW nzu e m gZ n) (funext λf=>vI (HN hS nf3 nl7 N f130 Py [true,true,true,false,false] []) (λg h=>nj3 g n f h) _ N) d⟩
def WC:Sum:= {ps:=[⟨[.sl UB],false⟩,⟨TV.ct,true⟩,⟨vL,false⟩,⟨vL,false⟩,⟨vL,false⟩],rs:=[⟨[.eN .str],false⟩,⟨[.eN .bool],false⟩],fn:=λa=>(true,[.str (vV (Zc a 0) (TV.nd a 1) (J a 2) (J a 3) (J a 4)).1]++[.bool (vV (Zc a 0) (TV.nd a 1) (J a 2) (J a 3) (J a 4)).2])}
def nss:Ctx:=[(129,kK),(130,Py)]
theorem okH:Wq hS nss:=aU nmJ (aU nA9 Ns)
def ni5:List (Nat×iT):=[(6, {cx:=[(6,.Ay),(14,.Ay),(30,.Ay),(31,.Ay),(32,.Ay)],boxes:=[(384,[])]})]
def nmW:Y→Bool→zW:=(λa b=>((true,[.str a]++[.bool b]):zW))
def nlR(a:Y)(x b:Int)(c d:rM):CO:= {n:=50,sl:=[(6,.ptr 384 0),(14,.str a),(30,.own 641920),(31,D7 x),(32,D7 b)],hp:=[(384,.box 26 [.sl VB c]),(641920,.row 219 bG d false true)]}
theorem Ob:gk hS 65 WC:=by refine lH (A:=ni5) okH func65 λc b _=>?_;replace b:i_ ((.sl UB)::(TV.ct++[.i,.i,.i])) c:=b;obtain⟨Z,c,rfl,_,b⟩:=dh b;obtain⟨m,c,rfl,d,b⟩:=TV.nX (r:=_) b;obtain⟨a,c,rfl,_,b⟩:=O_ b;obtain⟨gZ,c,rfl,_,b⟩:=O_ b;obtain⟨n,rfl,_⟩:=sX b;obtain⟨N,e⟩:=ni2 Vm.kW nmW Z m a gZ n d;exact⟨N,TX (λf=>Oh Vm.kW nmW f Z m a gZ n) (funext λx=>funext λg=>funext λh=>vI (HN hS nss ni5 N f65 WC [true,true,true,true,false,true,false] []) (λj k=>nlR j x k g h) _ N) e⟩
def gb:Sum:= {ps:=[⟨TV.ct,true⟩],rs:=[⟨[.own 9 VB],true⟩],fn:=λa=>(zH (TV.nd a 0),TV.enc (cp (TV.nd a 0)))}
theorem Pk:gk hS 237 gb:=by refine ly Ns func237 λb (a:i_ (TV.ct++[]) b) aN=>?_;obtain⟨m,b,rfl,_,a⟩:=TV.nX (r:=_) a;obtain rfl:=R5 a;exact⟨0,BL (nsL Vm.kW (λc=>((true,TV.enc c):zW)) m aN)⟩
def OM:Sum:= {ps:=[⟨TV.ct,true⟩,⟨vL,false⟩,⟨VB,false⟩],rs:=[⟨[.own 9 VB],true⟩,⟨[.eN .bool],false⟩],fn:=λa=>(jT (TV.nd a 0) (J a 1) (fJ a 2),TV.enc (Ga (TV.nd a 0) (J a 1) (fJ a 2)).1++[.bool (Ga (TV.nd a 0) (J a 1) (fJ a 2)).2])}
def nlD:Ctx:=[(34,qF),(237,gb),(265,RC)]
theorem nfO:Wq hS nlD:=aU W_ (aU Pk (aU nB1 Ns))
def nCg:List (Nat×iT):=[(4, {cx:=[(1,.Ay),(2,.Ay),(6,.Ay),(8,.Ay)],boxes:=[(192,[]),(384,[]),(512,[])]})]
def ngz:TV→Bool→zW:=(λa b=>((true,TV.enc a++[.bool b]):zW))
def nv_(a:Int)(b:Y)(c d:rM):CO:= {n:=53,sl:=[(1,D7 a),(2,.str b),(6,.ptr 384 0),(8,.ptr 512 0)],hp:=[(192,.box 26 [.sl VB c]),(384,.box 26 [.nil]),(512,.box 26 [.own 1411072]),(1411072,.row 9 VB d false true)]}
theorem nak:gk hS 255 OM:=by refine lH (A:=nCg) nfO func255 λb a c=>?_;replace a:i_ (TV.ct++[.i,.str]) b:=a;obtain⟨m,b,rfl,d,a⟩:=TV.nX (r:=_) a;obtain⟨gZ,b,rfl,_,a⟩:=O_ a;obtain⟨s,rfl,_⟩:=T8 a;obtain⟨N,e⟩:=nfc Vm.kW ngz m gZ s d c;exact⟨N,TX (λf=>Ng Vm.kW ngz f m gZ s) (W7 (HN hS nlD nCg N f255 OM [true,true,true,false,false] []) (λg h j=>nv_ g h m.nQ j) _ N) e⟩
def D9:Sum:= {ps:=[⟨[.sl UB],false⟩,⟨TV.ct,true⟩,⟨vL,false⟩,⟨vL,false⟩,⟨VB,false⟩],rs:=[⟨[.own 9 VB],true⟩,⟨[.eN .bool],false⟩],fn:=λa=>(zm (Zc a 0) (TV.nd a 1) (J a 2) (J a 3) (fJ a 4),TV.enc (Y2 (Zc a 0) (TV.nd a 1) (J a 2) (J a 3) (fJ a 4)).1++[.bool (Y2 (Zc a 0) (TV.nd a 1) (J a 2) (J a 3) (fJ a 4)).2])}
def njY:Ctx:=[(237,gb),(254,Ss),(255,OM)]
theorem nAo:Wq hS njY:=aU Pk (aU nq1 (aU nak Ns))
def nzG:List (Nat×iT):=[(6, {cx:=[(4,.Ay),(10,.Ay),(12,.Ay),(13,.Ay),(15,.Ay),(16,.Ay)],boxes:=[(384,[]),(640,[]),(960,[])]})]
def nBO:TV→Bool→zW:=(λa b=>((true,TV.enc a++[.bool b]):zW))
def nuk(b:Y)(k:Int)(c a d e:rM):CO:= {n:=61,sl:=[(4,.str b),(10,.ptr 640 0),(12,.own 640768),(13,.own 640832),(15,.ptr 960 0),(16,D7 k)],hp:=[(384,.box 26 [.sl VB c]),(640,.box 26 [.nil]),(960,.box 26 [.own 1525760]),(640768,.row 3 vL a false true),(640832,.row 3 vL d false true),(1525760,.row 9 VB e false true)]}
theorem ntH:gk hS 236 D9:=by refine lH (A:=nzG) nAo func236 λd b e=>?_;replace b:i_ ((.sl UB)::(TV.ct++[.i,.i,.str])) d:=b;obtain⟨Z,d,rfl,_,b⟩:=dh b;obtain⟨m,d,rfl,f,b⟩:=TV.nX (r:=_) b;obtain⟨a,d,rfl,_,b⟩:=O_ b;obtain⟨gZ,d,rfl,_,b⟩:=O_ b;obtain⟨s,rfl,g⟩:=T8 b;obtain⟨N,h⟩:=nnv Vm.kW nBO Z m a gZ s f g e;exact⟨N,TX (λj=>nw Vm.kW nBO j Z m a gZ s) (funext λc=>funext λl=>W7 (HN hS njY nzG N f236 D9 [true,true,true,true,false,true,false] []) (λn k o=>nuk n k m.nQ c l o) _ N) h⟩
def yK:Sum:= {ps:=[⟨[.sl UB],false⟩,⟨TV.ct,true⟩,⟨vL,false⟩,⟨vL,false⟩,⟨VB,false⟩],rs:=[⟨[.own 9 VB],true⟩,⟨[.eN .bool],false⟩],fn:=λa=>(au (Zc a 0) (TV.nd a 1) (J a 2) (J a 3) (fJ a 4),TV.enc (wD (Zc a 0) (TV.nd a 1) (J a 2) (J a 3) (fJ a 4)).1++[.bool (wD (Zc a 0) (TV.nd a 1) (J a 2) (J a 3) (fJ a 4)).2])}
theorem nCQ:gk hS 162 yK:=by refine ly (Γ:=[(217,E8)]) (aU nxJ Ns) func162 λc a d=>?_;replace a:i_ ((.sl UB)::(TV.ct++[.i,.i,.str])) c:=a;obtain⟨Z,c,rfl,_,a⟩:=dh a;obtain⟨m,c,rfl,_,a⟩:=TV.nX (r:=_) a;obtain⟨b,c,rfl,_,a⟩:=O_ a;obtain⟨gZ,c,rfl,_,a⟩:=O_ a;obtain⟨s,rfl,_⟩:=T8 a;exact⟨0,BL (nBr Vm.kW (λe f=>((true,TV.enc e++[.bool f]):zW)) Z m b gZ s d)⟩
def nvV:Ctx:=[(236,D9)]
theorem nwE:Wq hS nvV:=aU ntH Ns
def nxs:List (Nat×iT):=[(3, {cx:=[(0,.Ay),(2,.Ay),(3,.Ay),(4,.Ay),(6,.Ay),(10,.Ay),(12,.Ay),(13,.Ay)],boxes:=[(384,[]),(640,[])]})]
def nam:TV→Bool→zW:=(λa b=>((true,TV.enc a++[.bool b]):zW))
def nwj(Z:rM)(a gZ:Int)(s:Y)(k:Int)(c b:rM):CO:= {n:=39,sl:=[(0,.sl UB Z),(2,D7 a),(3,D7 gZ),(4,.str s),(6,.ptr 384 0),(10,.ptr 640 0),(12,.own 640768),(13,D7 k)],hp:=[(384,.box 26 [.sl VB c]),(640,.box 26 [.nil]),(640768,.row 134 UB b false true)]}
theorem nda:gk hS 208 yK:=by refine lH (A:=nxs) nwE func208 λd b e=>?_;replace b:i_ ((.sl UB)::(TV.ct++[.i,.i,.str])) d:=b;obtain⟨Z,d,rfl,f,b⟩:=dh b;obtain⟨m,d,rfl,_,b⟩:=TV.nX (r:=_) b;obtain⟨a,d,rfl,_,b⟩:=O_ b;obtain⟨gZ,d,rfl,_,b⟩:=O_ b;obtain⟨s,rfl,_⟩:=T8 b;obtain⟨N,g⟩:=nmP Vm.kW nam Z m a gZ s f e;exact⟨N,TX (λh=>Y5 Vm.kW nam h Z m a gZ s) (funext λj=>vI (HN hS nvV nxs N f208 yK [true,true,false,true,false] []) (λk c=>nwj Z a gZ s k j c) _ N) g⟩
def Pq:Sum:= {ps:=[⟨AP.ct,true⟩],rs:=[⟨[.eN .i,.eN .bool,.own 3 vL],true⟩],fn:=λa=>(C5 (AP.nd a 0),AP.enc (cp (AP.nd a 0)))}
theorem naJ:gk hS 150 Pq:=by refine ly Ns func150 λb (a:i_ (AP.ct++[]) b) aN=>?_;obtain⟨f,b,rfl,_,a⟩:=AP.nX (r:=_) a;obtain rfl:=R5 a;exact⟨0,BL (nkz Vm.kW (λc=>((true,AP.enc c):zW)) f aN)⟩
theorem ng5:gk hS 89 Pq:=by refine ly (Γ:=[(93,PQ)]) (aU iA Ns) func89 λb (a:i_ (AP.ct++[]) b) aN=>?_;obtain⟨f,b,rfl,_,a⟩:=AP.nX (r:=_) a;obtain rfl:=R5 a;exact⟨0,BL (ng9 Vm.kW (λc=>((true,AP.enc c):zW)) f aN)⟩
def Qj:Sum:= {ps:=[⟨W4.ct,true⟩],rs:=[⟨[.own 151 xT],true⟩],fn:=λa=>(ca (W4.nd a 0),W4.enc (cp (W4.nd a 0)))}
theorem nyV:gk hS 200 Qj:=by refine ly Ns func200 λb (a:i_ (W4.ct++[]) b) aN=>?_;obtain⟨t,b,rfl,_,a⟩:=W4.nX (r:=_) a;obtain rfl:=R5 a;exact⟨0,BL (nhk Vm.kW (λc=>((true,W4.enc c):zW)) t aN)⟩
theorem nsK:gk hS 156 Qj:=by refine ly Ns func156 λb (a:i_ (W4.ct++[]) b) aN=>?_;obtain⟨t,b,rfl,_,a⟩:=W4.nX (r:=_) a;obtain rfl:=R5 a;exact⟨0,BL (nel Vm.kW (λc=>((true,W4.enc c):zW)) t aN)⟩
def npS:Sum:= {ps:=[⟨aV.ct,true⟩],rs:=[⟨[.eN .str,.own 3 vL],true⟩],fn:=λa=>(ny (aV.nd a 0),aV.enc (cp (aV.nd a 0)))}
theorem nBJ:gk hS 157 npS:=by refine ly (Γ:=[(93,PQ)]) (aU iA Ns) func157 λb (a:i_ (aV.ct++[]) b) aN=>?_;obtain⟨s,b,rfl,_,a⟩:=aV.nX (r:=_) a;obtain rfl:=R5 a;exact⟨0,BL (no7 Vm.kW (λc=>((true,aV.enc c):zW)) s aN)⟩
def KQ:Sum:= {ps:=[⟨nJ.ct,true⟩],rs:=[⟨[.own 147 nS,.own 151 xT,.eN .str,.own 3 vL],true⟩],fn:=λa=>(ai (nJ.nd a 0),nJ.enc (cp (nJ.nd a 0)))}
theorem nim:gk hS 151 KQ:=by refine ly (Γ:=[(200,Qj)]) (aU nyV Ns) func151 λb (a:i_ (nJ.ct++[]) b) aN=>?_;obtain⟨s,b,rfl,_,a⟩:=nJ.nX (r:=_) a;obtain rfl:=R5 a;exact⟨0,BL (ntK Vm.kW (λc=>((true,nJ.enc c):zW)) s aN)⟩
theorem nyl:gk hS 90 KQ:=by refine ly (Γ:=[(156,Qj),(157,npS)]) (aU nsK (aU nBJ Ns)) func90 λb (a:i_ (nJ.ct++[]) b) aN=>?_;obtain⟨s,b,rfl,_,a⟩:=nJ.nX (r:=_) a;obtain rfl:=R5 a;exact⟨0,BL (naF Vm.kW (λc=>((true,nJ.enc c):zW)) s aN)⟩
def nhJ:Sum:= {ps:=[⟨[.sl UB],false⟩],rs:=[⟨[.own 134 UB],false⟩],fn:=λa=>(Of (Zc a 0),[.sl (cp (Zc a 0))])}
theorem nqp:gk hS 86 nhJ:=by refine ly Ns func86 λa (b:i_ ([.sl UB]) a) aN=>?_;obtain⟨Z,rfl,_⟩:=ga b;exact⟨0,BL (noE Vm.kW (λc=>((true,[.sl c]):zW)) Z aN)⟩
def Yy:Sum:= {ps:=[⟨[.sl Qn],false⟩],rs:=[⟨[.own 170 Qn],false⟩],fn:=λa=>(Of (Zc a 0),[.sl (cp (Zc a 0))])}
theorem kX:gk hS 91 Yy:=by refine ly Ns func91 λa (b:i_ ([.sl Qn]) a) aN=>?_;obtain⟨Z,rfl,_⟩:=ga b;exact⟨0,BL (ntx Vm.kW (λc=>((true,[.sl c]):zW)) Z aN)⟩
def pL:Sum:= {ps:=[⟨[.sl [.i,.i,.sl vL]],false⟩],rs:=[⟨[.deep 138 [.i,.i,.sl vL] [3]],false⟩],fn:=λa=>(wB (Zc a 0),[.sl (cp (Zc a 0))])}
def nle:Ctx:=[(1125899906842630,iV),(1125899906842646,iV),(1125899906842647,iV),(93,PQ)]
theorem neG:Wq hS nle:=aU XH (aU XH (aU XH (aU iA Ns)))
def nyd:List (Nat×iT):=[(3, {cx:=[(3,.Ay),(7,.Ay),(8,.Ay),(9,.Ay)],boxes:=[]})]
def nx7:rM→zW:=(λa=>((true,[.sl a]):zW))
def ndl(Z:rM)(a b:Int)(c:rM):CO:= {n:=26,sl:=[(3,.own 640192),(7,.sl [.i,.i,.sl vL] Z),(8,D7 a),(9,D7 b)],hp:=[(640192,.deep 138 [.i,.i,.sl vL] [3] c none)]}
theorem nj9:gk hS 103 pL:=by refine lH (A:=nyd) neG func103 λa (b:i_ ([.sl [.i,.i,.sl vL]]) a) aN=>?_;obtain⟨Z,rfl,c⟩:=ga b;obtain⟨N,d⟩:=nAF Vm.kW nx7 Z c aN;exact⟨N,TX (λe=>O8 Vm.kW nx7 e Z) (funext λf=>vI (HN hS nle nyd N f103 pL [true,true,false,true,false] []) (ndl Z f) _ N) d⟩
def Tz:Sum:= {ps:=[⟨Sx.ct,true⟩],rs:=[⟨[.eN .i,.eN .i,.eN .i,.eN .i,.eN .i,.eN .i,.eN .i,.own 3 vL,.deep 138 [.i,.i,.sl vL] [3],.eN .i],true⟩],fn:=λa=>(nG (Sx.nd a 0),Sx.enc (cp (Sx.nd a 0)))}
theorem xo:gk hS 87 Tz:=by refine ly (Γ:=[(88,Nc),(103,pL)]) (aU oG (aU nj9 Ns)) func87 λb (a:i_ (Sx.ct++[]) b) aN=>?_;obtain⟨q,b,rfl,_,a⟩:=Sx.nX (r:=_) a;obtain rfl:=R5 a;exact⟨0,BL (nlw Vm.kW (λc=>((true,Sx.enc c):zW)) q aN)⟩
def wT:Sum:= {ps:=[⟨QP.ct,true⟩],rs:=[⟨[.own 9 VB,.own 134 UB,.eN .i,.eN .i,.eN .i,.eN .i,.eN .i,.eN .i,.eN .i,.own 3 vL,.deep 138 [.i,.i,.sl vL] [3],.eN .i,.own 74 CR,.deep 32 [.i,.i,.i,.sl vL] [3],.own 77 UC,.own 4 sJ,.eN .i,.eN .bool,.own 3 vL,.own 147 nS,.own 151 xT,.eN .str,.own 3 vL,.own 170 Qn,.eN .bool,.own 9 VB,.own 3 vL,.own 3 vL,.eN .i,.eN .i,.eN .i,.eN .i,.eN .i],true⟩],fn:=λa=>(eW (QP.nd a 0),QP.enc (cp (QP.nd a 0)))}
def nh5:Ctx:=[(1125899906842648,iV),(1125899906842661,iV),(1125899906842662,iV),(85,Qd),(86,nhJ),(87,Tz),(88,Nc),(89,Pq),(90,KQ),(91,Yy),(92,ld),(93,PQ)]
theorem nuq:Wq hS nh5:=aU XH (aU XH (aU XH (aU HB (aU nqp (aU xo (aU oG (aU ng5 (aU nyl (aU kX (aU nrW (aU iA Ns)))))))))))
def nch:List (Nat×iT):=[(8, {cx:=[(1,.Ay),(2,.Ay),(3,.Ay),(27,.Ay),(28,.Ay),(29,.Ay)],boxes:=[(64,[]),(128,[]),(192,[])]})]
def nlW:QP→zW:=(λa=>((true,QP.enc a):zW))
def nhC(x:rM)(d e:Int)(f a:rM)(g h j k l m o:Int)(p q:rM)(r:Int)(s t u v:rM)(w:Int)(y:Bool)(z A B:rM)(C:Y)(D E:rM)(F:Bool)(G H I:rM)(K L M N O P Q R S T U W X Z:Int)(Sj:Bool)(yl:Y)(ym:Bool)(yn yo yp yq yr oe qz qA qB qk ql qm qC:Int)(rk tb:rM)(qY:Int)(qZ:Bool)(rC rD rE:rM)(rF:Y)(rG b:rM)(pW:Bool)(rH rJ c:rM)(qc pX y4 pY pZ:Int)(oD pq pD o7 oH pC:rM):CO:= {n:=76,sl:=[(1,.ptr 64 0),(2,.ptr 128 0),(3,.ptr 192 0),(27,.sl [.i,.i,.i,.sl vL] x),(28,D7 d),(29,D7 e)],hp:=[(64,.box 54 [.sl VB f,.sl UB a,D7 g,D7 h,D7 j,D7 k,D7 l,D7 m,D7 o,.sl vL p,.sl [.i,.i,.sl vL] q,D7 r,.sl CR s,.sl [.i,.i,.i,.sl vL] t,.sl UC u,.sl sJ v,D7 w,.bool y,.sl vL z,.sl nS A,.sl xT B,.str C,.sl vL D,.sl Qn E,.bool F,.sl VB G,.sl vL H,.sl vL I,D7 K,D7 L,D7 M,D7 N,D7 O]),(128,.box 54 [.nil,.nil,D7 P,D7 Q,D7 R,D7 S,D7 T,D7 U,D7 W,.nil,.nil,D7 X,.nil,.nil,.nil,.nil,D7 Z,.bool Sj,.nil,.nil,.nil,.str yl,.nil,.nil,.bool ym,.nil,.nil,.nil,D7 yn,D7 yo,D7 yp,D7 yq,D7 yr]),(192,.box 54 [.own 1329152,.own 1329153,D7 oe,D7 qz,D7 qA,D7 qB,D7 qk,D7 ql,D7 qm,.own 1329161,.own 1329162,D7 qC,.own 1329164,.own 1329165,.sl UC rk,.sl sJ tb,D7 qY,.bool qZ,.sl vL rC,.sl nS rD,.sl xT rE,.str rF,.sl vL rG,.sl Qn b,.bool pW,.sl VB rH,.sl vL rJ,.sl vL c,D7 qc,D7 pX,D7 y4,D7 pY,D7 pZ]),(1329152,.row 9 VB oD false true),(1329153,.row 134 UB pq false true),(1329161,.row 3 vL pD false true),(1329162,.deep 138 [.i,.i,.sl vL] [3] o7 none),(1329164,.row 74 CR oH false true),(1329165,.deep 32 [.i,.i,.i,.sl vL] [3] pC none)]}
theorem XZ:gk hS 42 wT:=by refine lH (A:=nch) nuq func42 λc (a:i_ (QP.ct++[]) c) aN=>?_;obtain⟨h,c,rfl,b,a⟩:=QP.nX (r:=_) a;obtain rfl:=R5 a;obtain⟨N,d⟩:=nwo Vm.kW nlW h b aN;exact⟨N,TX (λe=>rq Vm.kW nlW e h) (funext λx=>funext λf=>funext λg=>funext λi=>funext λj=>funext λk=>funext λl=>funext λm=>funext λn=>funext λo=>funext λp=>funext λq=>funext λs=>funext λt=>funext λu=>funext λv=>funext λw=>funext λy=>funext λz=>funext λB=>funext λC=>funext λD=>funext λE=>funext λF=>funext λG=>funext λH=>funext λI=>funext λK=>funext λL=>funext λM=>funext λO=>funext λP=>funext λQ=>funext λR=>vI (HN hS nh5 nch N f42 wT [true,true,true,true,true,true,true,false,true,false] []) (λS T=>nhC x f S h.oa.nQ h.ei h.Tx.d5.nW h.Tx.d5.nA h.Tx.d5.ej h.Tx.d5.pj h.Tx.nM.nW h.Tx.nM.nA h.Tx.nM.d9 h.Tx.nM.oq h.Tx.nx h.Tx.en h.Rx h.oh g i j k l m n o p q h.oU s t u h.d4.ek h.d4.zN h.d4.oB h.d4.oZ h.d4.qE 0 0 0 0 0 0 0 0 0 false [] false 0 0 0 0 0 v w y z B C D E h.nL h.n8 h.ec.N8 h.ec.n9 h.ec.pO h.ni.oQ h.ni.eb.nO h.ni.nV.eJ h.ni.nV.eb h.oI F h.tB h.ox h.oV G H I K L M O P Q R T) _ N) d⟩
def Vg:Sum:= {ps:=[⟨Tj.ct,true⟩],rs:=[⟨[.eN .i,.eN .i,.eN .i,.eN .i,.eN .bool,.eN .bool],true⟩],fn:=λa=>(true,Tj.enc (Ok (Tj.nd a 0)))}
theorem G7:gk hS 119 Vg:=by refine ly (Γ:=[(61,mU)]) (aU nbq Ns) func119 λb (a:i_ (Tj.ct++[]) b) _=>?_;obtain⟨v,b,rfl,_,a⟩:=Tj.nX (r:=_) a;obtain rfl:=R5 a;exact⟨0,BL (ne9 (λc=>((true,Tj.enc c):zW)) v)⟩
def nkI:Sum:= {ps:=[⟨Tj.ct,true⟩],rs:=[⟨[.eN .i,.eN .i,.eN .i,.eN .i,.eN .bool,.eN .bool],true⟩],fn:=λa=>(true,Tj.enc (We (Tj.nd a 0)))}
theorem nii:gk hS 52 nkI:=by refine ly (Γ:=[(28,xw),(119,Vg)]) (aU Wh (aU G7 Ns)) func52 λb (a:i_ (Tj.ct++[]) b) _=>?_;obtain⟨v,b,rfl,_,a⟩:=Tj.nX (r:=_) a;obtain rfl:=R5 a;exact⟨0,BL (nCO (λc=>((true,Tj.enc c):zW)) v)⟩
def px:Sum:= {ps:=[⟨QP.ct,true⟩],rs:=[⟨[.own 9 VB,.own 134 UB,.eN .i,.eN .i,.eN .i,.eN .i,.eN .i,.eN .i,.eN .i,.own 3 vL,.deep 138 [.i,.i,.sl vL] [3],.eN .i,.own 74 CR,.deep 32 [.i,.i,.i,.sl vL] [3],.own 77 UC,.own 4 sJ,.eN .i,.eN .bool,.own 3 vL,.own 147 nS,.own 151 xT,.eN .str,.own 3 vL,.own 170 Qn,.eN .bool,.own 9 VB,.own 3 vL,.own 3 vL,.eN .i,.eN .i,.eN .i,.eN .i,.eN .i],true⟩],fn:=λa=>(S4 (QP.nd a 0),QP.enc (A0 (QP.nd a 0)))}
def njV:Ctx:=[(9,Rs),(42,wT),(52,nkI)]
theorem nvW:Wq hS njV:=aU Ql (aU XZ (aU nii Ns))
def nnZ:List (Nat×iT):=[(5, {cx:=[(2,.Ay),(3,.Ay),(13,.Ay),(14,.Ay)],boxes:=[(64,[]),(128,[]),(192,[])]})]
def ndW:QP→zW:=(λa=>((true,QP.enc a):zW))
def nul(x b:Int)(c a:rM)(d e f g h j k:Int)(l m:rM)(o:Int)(p q r s:rM)(t:Int)(u:Bool)(v w y:rM)(z:Y)(A B:rM)(C:Bool)(D E F:rM)(G H I K L M N O P Q R S T U:Int)(W:Bool)(X:Y)(Z:Bool)(yn yo yp yq yr oe qz qA qB qk ql qm qC rk:Int)(tb:Bool)(qY:Y)(qZ:Bool)(rC rD rE rF rG:Int)(oD pq pD o7 oH pC pP pM pW rH rJ qc pX pY pZ rn:rM):CO:= {n:=29,sl:=[(2,.ptr 128 0),(3,.ptr 192 0),(13,D7 x),(14,D7 b)],hp:=[(64,.box 54 [.sl VB c,.sl UB a,D7 d,D7 e,D7 f,D7 g,D7 h,D7 j,D7 k,.sl vL l,.sl [.i,.i,.sl vL] m,D7 o,.sl CR p,.sl [.i,.i,.i,.sl vL] q,.sl UC r,.sl sJ s,D7 t,.bool u,.sl vL v,.sl nS w,.sl xT y,.str z,.sl vL A,.sl Qn B,.bool C,.sl VB D,.sl vL E,.sl vL F,D7 G,D7 H,D7 I,D7 K,D7 L]),(128,.box 54 [.nil,.nil,D7 M,D7 N,D7 O,D7 P,D7 Q,D7 R,D7 S,.nil,.nil,D7 T,.nil,.nil,.nil,.nil,D7 U,.bool W,.nil,.nil,.nil,.str X,.nil,.nil,.bool Z,.nil,.nil,.nil,D7 yn,D7 yo,D7 yp,D7 yq,D7 yr]),(192,.box 54 [.own 1329152,.own 1329153,D7 oe,D7 qz,D7 qA,D7 qB,D7 qk,D7 ql,D7 qm,.own 1329161,.own 1329162,D7 qC,.own 1329164,.own 1329165,.own 1329166,.own 1329167,D7 rk,.bool tb,.own 1329170,.own 1329171,.own 1329172,.str qY,.own 1329174,.own 1329175,.bool qZ,.own 1329177,.own 1329178,.own 1329179,D7 rC,D7 rD,D7 rE,D7 rF,D7 rG]),(1329152,.row 9 VB oD false true),(1329153,.row 134 UB pq false true),(1329161,.row 3 vL pD false true),(1329162,.deep 138 [.i,.i,.sl vL] [3] o7 none),(1329164,.row 74 CR oH false true),(1329165,.deep 32 [.i,.i,.i,.sl vL] [3] pC none),(1329166,.row 77 UC pP false true),(1329167,.row 4 sJ pM false true),(1329170,.row 3 vL pW false true),(1329171,.row 147 nS rH false true),(1329172,.row 151 xT rJ false true),(1329174,.row 3 vL qc false true),(1329175,.row 170 Qn pX false true),(1329177,.row 9 VB pY false true),(1329178,.row 3 vL pZ false true),(1329179,.row 3 vL rn false true)]}
theorem ncN:gk hS 19 px:=by refine lH (A:=nnZ) nvW func19 λc (a:i_ (QP.ct++[]) c) aN=>?_;obtain⟨h,c,rfl,b,a⟩:=QP.nX (r:=_) a;obtain rfl:=R5 a;obtain⟨N,d⟩:=nz4 Vm.kW ndW h b aN;exact⟨N,TX (λe=>P4 Vm.kW ndW e h) (funext λx=>funext λf=>funext λg=>funext λi=>funext λj=>funext λk=>funext λl=>funext λm=>funext λn=>funext λo=>funext λp=>funext λq=>funext λs=>funext λt=>funext λu=>funext λv=>funext λw=>funext λy=>funext λz=>funext λB=>funext λC=>funext λD=>funext λE=>funext λF=>funext λG=>funext λH=>funext λI=>funext λK=>funext λL=>funext λM=>funext λO=>funext λP=>funext λQ=>vI (HN hS njV nnZ N f19 px [true,true,true,false,true,false] []) (λR S=>nul x R h.oa.nQ h.ei h.Tx.d5.nW h.Tx.d5.nA h.Tx.d5.ej h.Tx.d5.pj h.Tx.nM.nW h.Tx.nM.nA h.Tx.nM.d9 h.Tx.nM.oq h.Tx.nx h.Tx.en h.Rx h.oh h.nL h.n8 h.ec.N8 h.ec.n9 h.ec.pO h.ni.oQ h.ni.eb.nO h.ni.nV.eJ h.ni.nV.eb h.oI h.oU h.tB h.ox h.oV h.d4.ek h.d4.zN h.d4.oB h.d4.oZ h.d4.qE 0 0 0 0 0 0 0 0 0 false [] false 0 0 0 0 0 f g i j k l m n o p q s t u v w y z B C D E F S G H I K L M O P Q) _ N) d⟩
def xU:Sum:= {ps:=[⟨VB,false⟩,⟨vL,false⟩],rs:=[⟨[.eN .i],false⟩],fn:=λa=>(true,[.int (tC (fJ a 0) (J a 1))])}
theorem bz:gk hS 131 xU:=by refine ly Ns func131 λb (a:i_ ([.str,.i]) b) _=>?_;obtain⟨s,b,rfl,c,a⟩:=WW a;obtain⟨gZ,rfl,_⟩:=sX a;exact⟨0,BL (nsW Vm.kW (λd=>((true,[.int d]):zW)) s gZ c)⟩
def Nn:Sum:= {ps:=[⟨VB,false⟩],rs:=[⟨[.eN .i],false⟩,⟨[.eN .i],false⟩],fn:=λa=>(true,[.int (ue (fJ a 0)).1]++[.int (ue (fJ a 0)).2])}
theorem nkT:gk hS 159 Nn:=by refine ly (Γ:=[(131,xU),(216,we)]) (aU bz (aU qU Ns)) func159 λc (d:i_ (VB) c) _=>?_;obtain⟨a,rfl,b⟩:=T8 d;exact⟨0,BL (nyS Vm.kW (λe f=>((true,[.int e]++[.int f]):zW)) a b)⟩
def CK:Sum:= {ps:=[⟨oY.ct,true⟩],rs:=[⟨[.eN .str],false⟩,⟨[.eN .bool],false⟩],fn:=λa=>(true,[.str (B0 (oY.nd a 0)).1]++[.bool (B0 (oY.nd a 0)).2])}
theorem npc:gk hS 94 CK:=by refine ly (Γ:=[(158,EX),(159,Nn),(160,qF),(161,Hb)]) (aU pF (aU nkT (aU lf (aU d8 Ns)))) func94 λb (a:i_ (oY.ct++[]) b) _=>?_;obtain⟨p,b,rfl,_,a⟩:=oY.nX (r:=_) a;obtain rfl:=R5 a;exact⟨0,BL (phQ Vm.kW (λc d=>((true,[.str c]++[.bool d]):zW)) p)⟩
def YN:Sum:= {ps:=[⟨jW.ct,true⟩],rs:=[⟨[.eN .i],false⟩],fn:=λa=>(true,[.int (P7 (jW.nd a 0))])}
theorem nAJ:gk hS 95 YN:=by refine ly (Γ:=[(57,Vq),(122,d3)]) (aU VS (aU YR Ns)) func95 λb (a:i_ (jW.ct++[]) b) _=>?_;obtain⟨r,b,rfl,_,a⟩:=jW.nX (r:=_) a;obtain rfl:=R5 a;exact⟨0,BL (nuK (λc=>((true,[.int c]):zW)) r)⟩
theorem nkM:gk hS 240 YN:=by refine ly (Γ:=[(239,Vq),(257,d3)]) (aU bb (aU neZ Ns)) func240 λb (a:i_ (jW.ct++[]) b) _=>?_;obtain⟨r,b,rfl,_,a⟩:=jW.nX (r:=_) a;obtain rfl:=R5 a;exact⟨0,BL (nuK (λc=>((true,[.int c]):zW)) r)⟩
def qG:Sum:= {ps:=[⟨Cf.ct,true⟩,⟨vL,false⟩],rs:=[⟨[.eN .i],false⟩],fn:=λa=>(true,[.int (zj (Cf.nd a 0) (J a 4))])}
theorem zG:gk hS 163 qG:=by refine ly (Γ:=[(25,Cy),(27,Yf)]) (aU vN (aU Nw Ns)) func163 λb (a:i_ (Cf.ct++vL) b) _=>?_;obtain⟨p,b,rfl,_,a⟩:=Cf.nX (r:=_) a;obtain⟨k,rfl,_⟩:=sX a;exact⟨0,BL (nko (λc=>((true,[.int c]):zW)) p k)⟩
theorem nuW:gk hS 243 qG:=by refine ly (Γ:=[(145,Cy),(235,Yf)]) (aU X2 (aU bV Ns)) func243 λb (a:i_ (Cf.ct++vL) b) _=>?_;obtain⟨p,b,rfl,_,a⟩:=Cf.nX (r:=_) a;obtain⟨k,rfl,_⟩:=sX a;exact⟨0,BL (nko (λc=>((true,[.int c]):zW)) p k)⟩
def ea:Sum:= {ps:=[⟨UJ.ct,true⟩],rs:=[⟨[.eN .bool],false⟩],fn:=λa=>(true,[.bool (Ze (UJ.nd a 0))])}
theorem nbd:gk hS 165 ea:=by refine ly (Γ:=[(25,Cy)]) (aU vN Ns) func165 λb (a:i_ (UJ.ct++[]) b) _=>?_;obtain⟨x,b,rfl,_,a⟩:=UJ.nX (r:=_) a;obtain rfl:=R5 a;exact⟨0,BL (nuO (λc=>((true,[.bool c]):zW)) x)⟩
theorem nCX:gk hS 259 ea:=by refine ly (Γ:=[(145,Cy)]) (aU X2 Ns) func259 λb (a:i_ (UJ.ct++[]) b) _=>?_;obtain⟨x,b,rfl,_,a⟩:=UJ.nX (r:=_) a;obtain rfl:=R5 a;exact⟨0,BL (nuO (λc=>((true,[.bool c]):zW)) x)⟩
def Pj:Sum:= {ps:=[⟨Sx.ct,true⟩],rs:=[⟨[.eN .i],false⟩],fn:=λa=>(true,[.int (ZI (Sx.nd a 0))])}
def naf:List (Nat×iT):=[(3, {cx:=[(3,.Ay),(7,.Ay),(8,.Ay),(9,.Ay)],boxes:=[(64,[])]})]
def nrQ:Int→zW:=(λa=>((true,[.int a]):zW))
def nwf(n:Int)(x:rM)(k l a b c d e f g:Int)(h j:rM)(m:Int):CO:= {n:=19,sl:=[(3,D7 n),(7,.sl [.i,.i,.sl vL] x),(8,D7 k),(9,D7 l)],hp:=[(64,.box 35 [D7 a,D7 b,D7 c,D7 d,D7 e,D7 f,D7 g,.sl vL h,.sl [.i,.i,.sl vL] j,D7 m])]}
theorem nk6:gk hS 96 Pj:=by refine lH (A:=naf) Ns func96 λc (a:i_ (Sx.ct++[]) c) _=>?_;obtain⟨q,c,rfl,b,a⟩:=Sx.nX (r:=_) a;obtain rfl:=R5 a;obtain⟨N,d⟩:=nn6 Vm.kW nrQ q b;exact⟨N,TX (λe=>PY Vm.kW nrQ e q) (funext λx=>funext λf=>vI (HN hS [] naf N f96 Pj [true,true,false,true,false] []) (λn g=>nwf n x f g q.d5.nW q.d5.nA q.d5.ej q.d5.pj q.nM.nW q.nM.nA q.nM.d9 q.nM.oq q.nx q.en) _ N) d⟩
def Tr:Sum:= {ps:=[⟨[.sl bG],false⟩],rs:=[⟨[.eN .bool],false⟩],fn:=λa=>(true,[.bool (b0 (Zc a 0))])}
def nlY:Ctx:=[(25,Cy)]
theorem nfF:Wq hS nlY:=aU vN Ns
def nwv:List (Nat×iT):=[(2, {cx:=[(0,.Ay),(5,.Ay),(6,.Ay),(7,.Ay)],boxes:=[]})]
def noh:Bool→zW:=(λa=>((true,[.bool a]):zW))
def nwG(Z x:rM)(a b:Int):CO:= {n:=24,sl:=[(0,.sl bG Z),(5,.sl bG x),(6,D7 a),(7,D7 b)],hp:=[]}
theorem ndG:gk hS 164 Tr:=by refine lH (A:=nwv) nfF func164 λa (b:i_ ([.sl bG]) a) _=>?_;obtain⟨Z,rfl,c⟩:=ga b;obtain⟨N,d⟩:=nt5 Vm.kW noh Z c;exact⟨N,TX (λe=>T4 Vm.kW noh e Z) (funext λx=>funext λf=>z_ (HN hS nlY nwv N f164 Tr [true,false,true,false] []) (nwG Z x f) _ N) d⟩
def Pz:Sum:= {ps:=[⟨jW.ct,true⟩,⟨vL,false⟩],rs:=[⟨[.eN .i],false⟩],fn:=λa=>(true,[.int (bn (jW.nd a 0) (J a 4))])}
theorem nBj:gk hS 180 Pz:=by refine ly (Γ:=[(57,Vq)]) (aU VS Ns) func180 λc (b:i_ (jW.ct++vL) c) _=>?_;obtain⟨r,c,rfl,_,b⟩:=jW.nX (r:=_) b;obtain⟨a,rfl,_⟩:=sX b;exact⟨0,BL (naw Vm.kW (λd=>((true,[.int d]):zW)) r a)⟩
theorem nh0:gk hS 258 Pz:=by refine ly (Γ:=[(239,Vq)]) (aU bb Ns) func258 λc (b:i_ (jW.ct++vL) c) _=>?_;obtain⟨r,c,rfl,_,b⟩:=jW.nX (r:=_) b;obtain⟨a,rfl,_⟩:=sX b;exact⟨0,BL (nih Vm.kW (λd=>((true,[.int d]):zW)) r a)⟩
def nvC:Sum:= {ps:=[⟨Cf.ct,true⟩,⟨vL,false⟩],rs:=[⟨[.eN .i,.eN .i,.eN .i,.own 3 vL],true⟩,⟨[.own 3 vL],false⟩,⟨[.eN .bool],false⟩],fn:=λa=>(Yk (Cf.nd a 0) (J a 4),Cf.enc (xy (Cf.nd a 0) (J a 4)).1++[.sl (xy (Cf.nd a 0) (J a 4)).2.1]++[.bool (xy (Cf.nd a 0) (J a 4)).2.2])}
theorem nqN:gk hS 97 nvC:=by refine ly (Γ:=[(25,Cy),(27,Yf),(88,Nc),(93,PQ)]) (aU vN (aU Nw (aU oG (aU iA Ns)))) func97 λb (a:i_ (Cf.ct++vL) b) aN=>?_;obtain⟨p,b,rfl,_,a⟩:=Cf.nX (r:=_) a;obtain⟨n,rfl,_⟩:=sX a;exact⟨0,BL (ntU Vm.kW (λc d e=>((true,Cf.enc c++[.sl d]++[.bool e]):zW)) p n aN)⟩
def BN:Sum:= {ps:=[⟨UJ.ct,true⟩],rs:=[⟨[.eN .str],false⟩],fn:=λa=>(true,[.str (St (UJ.nd a 0))])}
theorem pg:gk hS 100 BN:=by refine ly (Γ:=[(161,Hb),(165,ea),(166,og)]) (aU d8 (aU nbd (aU VU Ns))) func100 λb (a:i_ (UJ.ct++[]) b) _=>?_;obtain⟨x,b,rfl,_,a⟩:=UJ.nX (r:=_) a;obtain rfl:=R5 a;exact⟨0,BL (nmT Vm.kW (λc=>((true,[.str c]):zW)) x)⟩
theorem njS:gk hS 242 BN:=by refine ly (Γ:=[(191,Hb),(192,og),(259,ea)]) (aU TJ (aU XD (aU nCX Ns))) func242 λb (a:i_ (UJ.ct++[]) b) _=>?_;obtain⟨x,b,rfl,_,a⟩:=UJ.nX (r:=_) a;obtain rfl:=R5 a;exact⟨0,BL (nmT Vm.kW (λc=>((true,[.str c]):zW)) x)⟩
def th:Sum:= {ps:=[⟨[.sl bG],false⟩,⟨vL,false⟩,⟨vL,false⟩],rs:=[⟨[.eN (.sl WT)],false⟩],fn:=λa=>(true,[.sl (aj (Zc a 0) (J a 1) (J a 2))])}
def Vc:Ctx:=[(25,Cy),(164,Tr),(165,ea)]
theorem nL5:Wq hS Vc:=aU vN (aU ndG (aU nbd Ns))
def Rm:List (Nat×iT):=[(5, {cx:=[(0,.Ay),(2,.Ay),(7,.Ay),(30,.Ay),(31,.Ay),(32,.Ay)],boxes:=[]}),(13, {cx:=[(7,.eN 190),(54,.eN 190),(55,.Ay),(56,.Ay)],boxes:=[]})]
def zo:rM→zW:=(λa=>((true,[.sl a]):zW))
def YM(a:rM)(b:Int)(x:rM)(c d:Int)(e:rM):CO:= {n:=65,sl:=[(0,.sl bG a),(2,D7 b),(7,.own 640448),(30,.sl bG x),(31,D7 c),(32,D7 d)],hp:=[(640448,.row 190 WT e false true)]}
def Wt(a b:rM)(c d:Int):CO:= {n:=65,sl:=[(7,.sl WT a),(54,.sl WT b),(55,D7 c),(56,D7 d)],hp:=[]}
noncomputable def Zw(N:Nat):(CO→zW)→CO→zW:=HN hS Vc Rm N f99 th [true,true,true,true,false,true,false] []
noncomputable def XK(N:Nat):(CO→zW)→CO→zW:=HN hS Vc Rm N f99 th [true,true,true,false,true,false] []
theorem niU(N:Nat)(b c:rM)(d:Int)(e:CO→zW)(a:Int):Zw N e (Wt b c d a)=Tp Vm.kW zo b c d (λa=>e (Wt b c d a)) a:=by kernel_rfl
theorem hrP(N:Nat)(b c:rM)(d:Int)(a:Nat):(λe=>Vd (Zw N) a (Wt b c d e))=YX Vm.kW zo N b c d a:=by
 induction a with
 | zero=>rfl
 | succ a f=>
  funext e;refine (niU N b c d (Vd (Zw N) a) e).trans ?_;rw[f];rfl
theorem nqB(N:Nat)(a:rM)(b:Int)(x:rM)(e:Int)(f:CO→zW)(d:Int)(c:rM):XK N f (YM a b x e d c)=Qf Vm.kW zo (λc g h i=>Vd (Zw N) N (Wt c g h i)) a b x e (λd c=>f (YM a b x e d c)) d c:=by kernel_rfl
theorem nqo(N:Nat)(a:rM)(b:Int)(x:rM)(e:Int)(c:Nat):(λf d=>Vd (XK N) c (YM a b x e f d))=Ux Vm.kW zo N a b x e c:=by
 induction c with
 | zero=>rfl
 | succ c g=>
  funext f d;refine (nqB N a b x e (Vd (XK N) c) f d).trans ?_;have h:=funext λd=>funext λi=>funext λj=>hrP N d i j N;rw[h];rw[g];rfl
theorem ntX(N:Nat)(a:rM)(size b:Int):Xe hS Vc Rm N f99 th (.sl a::(.int size::(.int b::([]))))=C8 Vm.kW zo N a size b:=by
 have d:Xe hS Vc Rm N f99 th (.sl a::(.int size::(.int b::([]))))=dM Vm.kW zo (λx c e f=>Vd (XK N) N (YM a b x c e f)) a size b:=by kernel_rfl
 refine d.trans ?_;unfold C8;have g:(λx c e f=>Vd (XK N) N (YM a b x c e f))=(λx c=>Ux Vm.kW zo N a b x c N):=by funext x c;exact nqo N a b x c N
 exact congrArg (λh=>dM Vm.kW zo h a size b) g
theorem ntA:gk hS 99 th:=by refine lH (A:=Rm) nL5 func99 λd (c:i_ ([.sl bG,.i,.i]) d) _=>?_;obtain⟨a,d,rfl,e,c⟩:=dh c;obtain⟨size,d,rfl,_,c⟩:=O_ c;obtain⟨b,rfl,_⟩:=sX c;obtain⟨N,f⟩:=nyh Vm.kW zo a size b e;exact⟨N,((ntX N a size b).trans f).trans (by kernel_rfl)⟩
def CY:Sum:= {ps:=[⟨[.sl UB],false⟩,⟨TV.ct,true⟩,⟨vL,false⟩,⟨jW.ct,true⟩,⟨VB,false⟩],rs:=[⟨[.own 9 VB],true⟩,⟨[.eN .i,.eN .i,.eN .i,.eN .i],true⟩,⟨[.eN .bool],false⟩],fn:=λa=>(bX (Zc a 0) (TV.nd a 1) (J a 2) (jW.nd a 3) (fJ a 7),TV.enc (Xz (Zc a 0) (TV.nd a 1) (J a 2) (jW.nd a 3) (fJ a 7)).1++jW.enc (Xz (Zc a 0) (TV.nd a 1) (J a 2) (jW.nd a 3) (fJ a 7)).2.1++[.bool (Xz (Zc a 0) (TV.nd a 1) (J a 2) (jW.nd a 3) (fJ a 7)).2.2])}
theorem nje:gk hS 167 CY:=by refine ly (Γ:=[(85,Qd),(95,YN),(180,Pz),(182,NI)]) (aU HB (aU nAJ (aU nBj (aU Xu Ns)))) func167 λd a e=>?_;replace a:i_ ((.sl UB)::(TV.ct++(.i::(jW.ct++VB)))) d:=a;obtain⟨Z,d,rfl,_,a⟩:=dh a;obtain⟨m,d,rfl,_,a⟩:=TV.nX (r:=_) a;obtain⟨b,d,rfl,_,a⟩:=O_ a;obtain⟨r,d,rfl,_,a⟩:=jW.nX (r:=_) a;obtain⟨c,rfl,_⟩:=T8 a;exact⟨0,BL (nnK Vm.kW (λf g h=>((true,TV.enc f++jW.enc g++[.bool h]):zW)) Z m b r c e)⟩
theorem naW:gk hS 241 CY:=by refine ly (Γ:=[(236,D9),(237,gb),(240,YN),(258,Pz)]) (aU ntH (aU Pk (aU nkM (aU nh0 Ns)))) func241 λd a e=>?_;replace a:i_ ((.sl UB)::(TV.ct++(.i::(jW.ct++VB)))) d:=a;obtain⟨Z,d,rfl,_,a⟩:=dh a;obtain⟨m,d,rfl,_,a⟩:=TV.nX (r:=_) a;obtain⟨b,d,rfl,_,a⟩:=O_ a;obtain⟨r,d,rfl,_,a⟩:=jW.nX (r:=_) a;obtain⟨c,rfl,_⟩:=T8 a;exact⟨0,BL (nsR Vm.kW (λf g h=>((true,TV.enc f++jW.enc g++[.bool h]):zW)) Z m b r c e)⟩
def Vh:Sum:= {ps:=[⟨[.sl UB],false⟩,⟨TV.ct,true⟩,⟨vL,false⟩,⟨jW.ct,true⟩,⟨[.sl VB],false⟩],rs:=[⟨[.own 9 VB],true⟩,⟨[.eN .i,.eN .i,.eN .i,.eN .i],true⟩,⟨[.eN .bool],false⟩],fn:=λa=>(bX (Zc a 0) (TV.nd a 1) (J a 2) (jW.nd a 3) (Zc a 7),TV.enc (Bs (Zc a 0) (TV.nd a 1) (J a 2) (jW.nd a 3) (Zc a 7)).1++jW.enc (Bs (Zc a 0) (TV.nd a 1) (J a 2) (jW.nd a 3) (Zc a 7)).2.1++[.bool (Bs (Zc a 0) (TV.nd a 1) (J a 2) (jW.nd a 3) (Zc a 7)).2.2])}
def nww:Ctx:=[(85,Qd),(167,CY)]
theorem njh:Wq hS nww:=aU HB (aU nje Ns)
def nrJ:List (Nat×iT):=[(3, {cx:=[(0,.Ay),(2,.Ay),(6,.Ay),(8,.Ay),(10,.Ay),(11,.Ay),(13,.Ay),(14,.Ay),(21,.Ay),(22,.Ay),(23,.Ay)],boxes:=[(384,[]),(512,[]),(640,[]),(704,[]),(832,[]),(896,[])]})]
def nC0:TV→jW→Bool→zW:=(λa b c=>((true,TV.enc a++jW.enc b++[.bool c]):zW))
def nqS(Z:rM)(b:Int)(a:rM)(k l:Int)(m:rM)(o p q r c d e f next g h j:Int)(s:rM):CO:= {n:=45,sl:=[(0,.sl UB Z),(2,D7 b),(6,.ptr 384 0),(8,.ptr 512 0),(10,.ptr 640 0),(11,.ptr 704 0),(13,.ptr 832 0),(14,.ptr 896 0),(21,.sl VB a),(22,D7 k),(23,D7 l)],hp:=[(384,.box 26 [.sl VB m]),(512,.box 29 [D7 o,D7 p,D7 q,D7 r]),(640,.box 26 [.nil]),(704,.box 29 [D7 c,D7 d,D7 e,D7 f]),(832,.box 26 [.own 1492992]),(896,.box 29 [D7 next,D7 g,D7 h,D7 j]),(1492992,.row 9 VB s false true)]}
theorem nlV:gk hS 101 Vh:=by refine lH (A:=nrJ) njh func101 λd c j=>?_;replace c:i_ ((.sl UB)::(TV.ct++(.i::(jW.ct++[.sl VB])))) d:=c;obtain⟨Z,d,rfl,_,c⟩:=dh c;obtain⟨m,d,rfl,_,c⟩:=TV.nX (r:=_) c;obtain⟨b,d,rfl,_,c⟩:=O_ c;obtain⟨r,d,rfl,_,c⟩:=jW.nX (r:=_) c;obtain⟨a,rfl,e⟩:=ga c;obtain⟨N,k⟩:=nha Vm.kW nC0 Z m b r a e j;exact⟨N,TX (λl=>cy Vm.kW nC0 l Z m b r a) (funext λn=>funext λo=>funext λp=>funext λq=>funext λs=>funext λt=>nb6 (HN hS nww nrJ N f101 Vh [true,true,false,true,false] []) (λu next f g h v=>nqS Z b a n u o p q s t 0 0 0 0 next f g h v) _ N) k⟩
def Xc:Sum:= {ps:=[⟨[.sl UB],false⟩,⟨TV.ct,true⟩,⟨vL,false⟩,⟨Cf.ct,true⟩,⟨[.sl vL],false⟩,⟨VB,false⟩,⟨vL,false⟩],rs:=[⟨[.own 9 VB],true⟩,⟨[.own 256 bG],false⟩,⟨[.eN .bool],false⟩],fn:=λa=>(cu (Zc a 0) (TV.nd a 1) (J a 2) (Cf.nd a 3) (Zc a 7) (fJ a 8) (J a 9),TV.enc (y9 (Zc a 0) (TV.nd a 1) (J a 2) (Cf.nd a 3) (Zc a 7) (fJ a 8) (J a 9)).1++[.sl (y9 (Zc a 0) (TV.nd a 1) (J a 2) (Cf.nd a 3) (Zc a 7) (fJ a 8) (J a 9)).2.1]++[.bool (y9 (Zc a 0) (TV.nd a 1) (J a 2) (Cf.nd a 3) (Zc a 7) (fJ a 8) (J a 9)).2.2]),ms:=[none,some (.km [.flat 9]),none,none,none,none,none]}
def ngZ:Ctx:=[(162,yK),(163,qG)]
theorem nxG:Wq hS ngZ:=aU nCQ (aU zG Ns)
def nkg:List (Nat×iT):=[(3, {cx:=[(0,.Ay),(1,.Ay),(2,.Ay),(5,.Ay),(6,.Ay),(8,.Ay),(10,.Ay),(14,.Ay),(17,.Ay),(24,.Ay),(25,.Ay),(26,.Ay)],boxes:=[(512,[]),(640,[]),(896,[])]})]
def nhM:TV→rM→Bool→zW:=(λa b c=>((true,TV.enc a++[.sl b]++[.bool c]):zW))
def nuM(Z:rM)(a:Int)(e:Y)(c:Int)(f:rM)(g h j k l:Int)(m b d:rM):CO:= {n:=2199023255619,sl:=[(0,.sl UB Z),(1,.fV),(2,D7 a),(5,.str e),(6,D7 c),(8,.ptr 512 0),(10,.ptr 640 0),(14,.ptr 896 0),(17,.own 641088),(24,.sl vL f),(25,D7 g),(26,D7 h)],hp:=[(512,.box 26 [.own 1411072]),(640,.box 32 [D7 j,D7 k,D7 l,.sl vL m]),(896,.box 26 [.nil]),(641088,.row 256 bG b false true),(1411072,.row 9 VB d false true)]}
theorem nsV:UY hS 98 Xc:=by refine RE (A:=nkg) nxG func98 λd b l=>?_;replace b:i_ ((.sl UB)::(TV.ct++(.i::(Cf.ct++[.sl vL,.str,.i])))) d:=b;obtain⟨Z,d,rfl,_,b⟩:=dh b;obtain⟨m,d,rfl,_,b⟩:=TV.nX (r:=_) b;obtain⟨a,d,rfl,_,b⟩:=O_ b;obtain⟨p,d,rfl,_,b⟩:=Cf.nX (r:=_) b;obtain⟨f,d,rfl,g,b⟩:=dh b;obtain⟨t,d,rfl,h,b⟩:=WW b;obtain⟨e,rfl,j⟩:=sX b;obtain⟨N,n⟩:=nvD Vm.kW nhM Z m a p f t e g h j l;exact⟨N,TX (λo=>OU Vm.kW nhM o Z m a p f t e) (funext λq=>funext λs=>funext λu=>funext λv=>funext λw=>ntI (E0 hS ngZ nkg N f98 Xc [true,true,false,true,false] []) (λx y c k=>nuM Z a x e f q y s u v w c k) _ N) n⟩
def nfs:Sum:= {ps:=[⟨[.sl UB],false⟩,⟨TV.ct,true⟩,⟨vL,false⟩,⟨Sx.ct,true⟩,⟨oY.ct,true⟩,⟨vL,false⟩,⟨vL,false⟩],rs:=[⟨[.own 9 VB],true⟩,⟨[.eN .i,.eN .i,.eN .i,.eN .i,.eN .i,.eN .i,.eN .i,.own 3 vL,.deep 138 [.i,.i,.sl vL] [3],.eN .i],true⟩,⟨[.eN .bool],false⟩],fn:=λa=>(RR (Zc a 0) (TV.nd a 1) (J a 2) (Sx.nd a 3) (oY.nd a 13) (J a 29) (J a 30),TV.enc (vC (Zc a 0) (TV.nd a 1) (J a 2) (Sx.nd a 3) (oY.nd a 13) (J a 29) (J a 30)).1++Sx.enc (vC (Zc a 0) (TV.nd a 1) (J a 2) (Sx.nd a 3) (oY.nd a 13) (J a 29) (J a 30)).2.1++[.bool (vC (Zc a 0) (TV.nd a 1) (J a 2) (Sx.nd a 3) (oY.nd a 13) (J a 29) (J a 30)).2.2])}
def nc5:Ctx:=[(1125899906842800,iV),(1125899906842801,iV),(23,xN),(25,Cy),(60,uM),(85,Qd),(87,Tz),(94,CK),(95,YN),(96,Pj),(97,nvC),(98,Xc),(99,th),(100,BN),(101,Vh)]
theorem nte:Wq hS nc5:=aU XH (aU XH (aU TI (aU vN (aU DQ (aU HB (aU xo (aU npc (aU nAJ (aU nk6 (aU nqN (aU nsV (aU ntA (aU pg (aU nlV Ns))))))))))))))
def ngo:List (Nat×iT):=[(19, {cx:=[(0,.Ay),(2,.Ay),(10,.Ay),(14,.Ay),(15,.Ay),(17,.Ay),(18,.Ay),(22,.Ay),(24,.Ay),(26,.Ay),(28,.Ay),(29,.Ay),(139,.Ay),(140,.Ay),(141,.Ay)],boxes:=[(512,[]),(640,[]),(704,[]),(896,[]),(960,[]),(1088,[]),(1152,[]),(1408,[]),(1664,[])]})]
def nEP:TV→Sx→Bool→zW:=(λa b c=>((true,TV.enc a++Sx.enc b++[.bool c]):zW))
def nlc(Z:rM)(b:Int)(F x:rM)(G H:Int)(I:rM)(c d e f g h j:Int)(k l:rM)(K L M N O P Q R S T U W X vW uD vK:Int)(m:Y)(o p q r s t u v mC w y z A B C D oe qz qA qB qk ql qm qC:Int)(p_ a U3 QD E xa rk T0:rM):CO:= {n:=186,sl:=[(0,.sl UB Z),(2,D7 b),(10,.ptr 640 0),(14,.ptr 896 0),(15,.ptr 960 0),(17,.ptr 1088 0),(18,.ptr 1152 0),(22,.ptr 1408 0),(24,.own 641536),(26,.ptr 1664 0),(28,.sl WT F),(29,.own 641856),(139,.sl WT x),(140,D7 G),(141,D7 H)],hp:=[(512,.box 26 [.sl VB I]),(640,.box 35 [D7 c,D7 d,D7 e,D7 f,D7 g,D7 h,D7 j,.sl vL k,.sl [.i,.i,.sl vL] l,D7 K]),(704,.box 63 [D7 L,D7 M,D7 N,D7 O,D7 P,D7 Q,D7 R,D7 S,D7 T,D7 U,D7 W,D7 X,D7 vW,D7 uD,D7 vK,.str m]),(896,.box 26 [.nil]),(960,.box 35 [D7 o,D7 p,D7 q,D7 r,D7 s,D7 t,D7 u,.nil,.nil,D7 v]),(1088,.box 26 [.own 1558528]),(1152,.box 35 [D7 mC,D7 w,D7 y,D7 z,D7 A,D7 B,D7 C,.own 1574919,.own 1574920,D7 D]),(1408,.box 35 [D7 oe,D7 qz,D7 qA,D7 qB,D7 qk,D7 ql,D7 qm,.own 1640455,.own 1640456,D7 qC]),(1664,.box 26 [.own 1705984]),(641536,.row 3 vL p_ false true),(641856,.row 9 VB a false true),(1558528,.row 9 VB U3 false true),(1574919,.row 3 vL QD false true),(1574920,.deep 138 [.i,.i,.sl vL] [3] E none),(1640455,.row 3 vL xa false true),(1640456,.deep 138 [.i,.i,.sl vL] [3] rk none),(1705984,.row 9 VB T0 false true)]}
theorem nq4:gk hS 43 nfs:=by refine lH (A:=ngo) nte func43 λd b w=>?_;replace b:i_ ((.sl UB)::(TV.ct++(.i::(Sx.ct++(oY.ct++bG))))) d:=b;obtain⟨Z,d,rfl,_,b⟩:=dh b;obtain⟨m,d,rfl,_,b⟩:=TV.nX (r:=_) b;obtain⟨a,d,rfl,_,b⟩:=O_ b;obtain⟨q,d,rfl,_,b⟩:=Sx.nX (r:=_) b;obtain⟨p,d,rfl,_,b⟩:=oY.nX (r:=_) b;obtain⟨size,d,rfl,_,b⟩:=O_ b;obtain⟨e,rfl,_⟩:=sX b;obtain⟨N,y⟩:=nh8 Vm.kW nEP Z m a q p size e w;exact⟨N,TX (λz=>Ur Vm.kW nEP z Z m a q p size e) (funext λB=>funext λx=>funext λC=>funext λf=>funext λg=>funext λh=>funext λj=>funext λD=>funext λE=>funext λk=>funext λl=>funext λn=>funext λo=>funext λs=>funext λt=>funext λu=>funext λF=>funext λG=>funext λH=>funext λI=>funext λK=>funext λL=>funext λv=>funext λM=>funext λO=>funext λP=>vI (HN hS nc5 ngo N f43 nfs [true,true,true,true,true,true,true,true,true,true,true,true,true,true,false,true,false] []) (λQ c=>nlc Z a B x C Q m.nQ f g h j q.nM.nW q.nM.nA q.nM.d9 q.nM.oq q.nx D p.rA p.rN p.rX p.S9 p.Id p.Ta p.py p.pN p.pk.eh p.pk.oC p.pk.oz p.pk.e4 p.pk.XY p.pk.ez p.pk.su p.pk.ed 0 0 0 0 0 0 0 0 E k l n o s t u (((cp q).d5).nW) (((cp q).d5).nA) (((cp q).d5).ej) (((cp q).d5).pj) F G H ((cp q).en) I c K L v M O P) _ N) y⟩
def nrY:Sum:= {ps:=[⟨QP.ct,true⟩,⟨oY.ct,true⟩,⟨vL,false⟩,⟨vL,false⟩],rs:=[⟨[.own 9 VB,.own 134 UB,.eN .i,.eN .i,.eN .i,.eN .i,.eN .i,.eN .i,.eN .i,.own 3 vL,.deep 138 [.i,.i,.sl vL] [3],.eN .i,.own 74 CR,.deep 32 [.i,.i,.i,.sl vL] [3],.own 77 UC,.own 4 sJ,.eN .i,.eN .bool,.own 3 vL,.own 147 nS,.own 151 xT,.eN .str,.own 3 vL,.own 170 Qn,.eN .bool,.own 9 VB,.own 3 vL,.own 3 vL,.eN .i,.eN .i,.eN .i,.eN .i,.eN .i],true⟩,⟨[.eN .bool],false⟩],fn:=λa=>(D1 (QP.nd a 0) (oY.nd a 33) (J a 49) (J a 50),QP.enc (AR (QP.nd a 0) (oY.nd a 33) (J a 49) (J a 50)).1++[.bool (AR (QP.nd a 0) (oY.nd a 33) (J a 49) (J a 50)).2])}
theorem hfP:gk hS 15 nrY:=by refine ly (Γ:=[(9,Rs),(42,wT),(43,nfs)]) (aU Ql (aU XZ (aU nq4 Ns))) func15 λb a d=>?_;replace a:i_ (QP.ct++(oY.ct++bG)) b:=a;obtain⟨h,b,rfl,_,a⟩:=QP.nX (r:=_) a;obtain⟨p,b,rfl,_,a⟩:=oY.nX (r:=_) a;obtain⟨size,b,rfl,_,a⟩:=O_ a;obtain⟨c,rfl,_⟩:=sX a;exact⟨0,BL (nmo Vm.kW (λe f=>((true,QP.enc e++[.bool f]):zW)) h p size c d)⟩
def lF:Sum:= {ps:=[⟨VB,false⟩],rs:=[⟨[.eN .i,.eN .i,.eN .i,.eN .i,.eN .i,.eN .i],true⟩,⟨[.eN .bool],false⟩],fn:=λa=>(true,UJ.enc (lS (fJ a 0)).1++[.bool (lS (fJ a 0)).2])}
theorem V3:gk hS 181 lF:=by refine ly (Γ:=[(100,BN),(131,xU),(132,ae)]) (aU pg (aU bz (aU lM Ns))) func181 λa (b:i_ (VB) a) _=>?_;obtain⟨s,rfl,_⟩:=T8 b;exact⟨0,BL (nh9 Vm.kW (λc d=>((true,UJ.enc c++[.bool d]):zW)) s)⟩
def WG:Sum:= {ps:=[⟨[.sl UB],false⟩,⟨TV.ct,true⟩,⟨vL,false⟩,⟨jW.ct,true⟩],rs:=[⟨[.eN .str],false⟩,⟨[.eN .i,.eN .i,.eN .i,.eN .i],true⟩,⟨[.eN .bool],false⟩],fn:=λa=>(true,[.str (TZ (Zc a 0) (TV.nd a 1) (J a 2) (jW.nd a 3)).1]++jW.enc (TZ (Zc a 0) (TV.nd a 1) (J a 2) (jW.nd a 3)).2.1++[.bool (TZ (Zc a 0) (TV.nd a 1) (J a 2) (jW.nd a 3)).2.2])}
theorem vD:gk hS 117 WG:=by refine ly (Γ:=[(57,Vq),(65,WC),(122,d3),(180,Pz)]) (aU VS (aU Ob (aU YR (aU nBj Ns)))) func117 λc a _=>?_;replace a:i_ ((.sl UB)::(TV.ct++(.i::(jW.ct++[])))) c:=a;obtain⟨Z,c,rfl,_,a⟩:=dh a;obtain⟨m,c,rfl,_,a⟩:=TV.nX (r:=_) a;obtain⟨b,c,rfl,_,a⟩:=O_ a;obtain⟨r,c,rfl,_,a⟩:=jW.nX (r:=_) a;obtain rfl:=R5 a;exact⟨0,BL (nDH Vm.kW (λd e f=>((true,[.str d]++jW.enc e++[.bool f]):zW)) Z m b r)⟩
def Fk:Sum:= {ps:=[⟨[.sl UB],false⟩,⟨TV.ct,true⟩,⟨vL,false⟩,⟨jW.ct,true⟩],rs:=[⟨[.own 190 WT],false⟩,⟨[.eN .i,.eN .i,.eN .i,.eN .i],true⟩,⟨[.eN .bool],false⟩],fn:=λa=>(true,[.sl (V7 (Zc a 0) (TV.nd a 1) (J a 2) (jW.nd a 3)).1]++jW.enc (V7 (Zc a 0) (TV.nd a 1) (J a 2) (jW.nd a 3)).2.1++[.bool (V7 (Zc a 0) (TV.nd a 1) (J a 2) (jW.nd a 3)).2.2])}
def nfk:Ctx:=[(57,Vq),(117,WG),(122,d3),(181,lF)]
theorem nrd:Wq hS nfk:=aU VS (aU vD (aU YR (aU V3 Ns)))
def noN:List (Nat×iT):=[(6, {cx:=[(0,.Ay),(2,.Ay),(5,.Ay),(7,.Ay),(9,.Ay),(11,.Ay),(12,.Ay)],boxes:=[(320,[]),(448,[]),(576,[]),(704,[])]})]
def ncH:rM→jW→Bool→zW:=(λa b c=>((true,[.sl a]++jW.enc b++[.bool c]):zW))
def nuo(Z:rM)(a:Int)(f:rM)(g h j k l c d e b m o p:Int)(q:rM):CO:= {n:=70,sl:=[(0,.sl UB Z),(2,D7 a),(5,.ptr 320 0),(7,.ptr 448 0),(9,.ptr 576 0),(11,.ptr 704 0),(12,.own 640768)],hp:=[(320,.box 26 [.sl VB f]),(448,.box 29 [D7 g,D7 h,D7 j,D7 k]),(576,.box 29 [D7 l,D7 c,D7 d,D7 e]),(704,.box 29 [D7 b,D7 m,D7 o,D7 p]),(640768,.row 190 WT q false true)]}
theorem nEp:gk hS 168 Fk:=by refine lH (A:=noN) nrd func168 λd b _=>?_;replace b:i_ ((.sl UB)::(TV.ct++(.i::(jW.ct++[])))) d:=b;obtain⟨Z,d,rfl,_,b⟩:=dh b;obtain⟨m,d,rfl,_,b⟩:=TV.nX (r:=_) b;obtain⟨a,d,rfl,_,b⟩:=O_ b;obtain⟨r,d,rfl,_,b⟩:=jW.nX (r:=_) b;obtain rfl:=R5 b;obtain⟨N,e⟩:=nl3 Vm.kW ncH Z m a r;exact⟨N,TX (λf=>hX Vm.kW ncH f Z m a r) (funext λg=>funext λc=>funext λh=>funext λj=>funext λk=>wF (HN hS nfk noN N f168 Fk [true,true,true,true,true,false,false] []) (λl n o p q=>nuo Z a g l n o p 0 0 0 0 c h j k q) _ N) e⟩
def FW:Sum:= {ps:=[⟨[.sl WT],false⟩],rs:=[⟨[.eN (.sl bG)],false⟩,⟨[.eN .i],false⟩,⟨[.eN .i],false⟩,⟨[.eN .bool],false⟩],fn:=λa=>(dV (Zc a 0),[.sl (DF (Zc a 0)).1]++[.int (DF (Zc a 0)).2.1]++[.int (DF (Zc a 0)).2.2.1]++[.bool (DF (Zc a 0)).2.2.2])}
def PL:Ctx:=[(99,th)]
theorem cpR:Wq hS PL:=aU ntA Ns
def uG:List (Nat×iT):=[(5, {cx:=[(0,.Ay),(6,.Ay),(18,.Ay),(19,.Ay),(20,.Ay)],boxes:=[]}),(14, {cx:=[(0,.Ay),(6,.Ay),(9,.Ay),(10,.Ay),(11,.Ay),(51,.Ay),(52,.Ay)],boxes:=[]})]
def ta:rM→Int→Int→Bool→zW:=(λa b c d=>((true,[.sl a]++[.int b]++[.int c]++[.bool d]):zW))
def BA(Z x:rM)(b c:Int)(a:rM):CO:= {n:=68,sl:=[(0,.sl WT Z),(6,.own 640384),(18,.sl WT x),(19,D7 b),(20,D7 c)],hp:=[(640384,.row 256 bG a false true)]}
def Ae(Z a:rM)(size b:Int)(c:rM)(d e:Int):CO:= {n:=68,sl:=[(0,.sl WT Z),(6,.sl bG a),(9,D7 size),(10,D7 b),(11,.sl WT c),(51,D7 d),(52,D7 e)],hp:=[]}
noncomputable def eZ(N:Nat):(CO→zW)→CO→zW:=HN hS PL uG N f169 FW [true,true,true,true,true,true,true,false,true,false] []
noncomputable def zZ(N:Nat):(CO→zW)→CO→zW:=HN hS PL uG N f169 FW [true,true,true,false,true,false] []
theorem nqe(N:Nat)(Z a:rM)(size b:Int)(c:rM)(e:Int)(f:CO→zW)(d:Int):eZ N f (Ae Z a size b c e d)=U1 Vm.kW ta Z a size b c e (λd=>f (Ae Z a size b c e d)) d:=by kernel_rfl
theorem nuA(N:Nat)(Z a:rM)(size b:Int)(c:rM)(e:Int)(d:Nat):(λf=>Vd (eZ N) d (Ae Z a size b c e f))=Vt Vm.kW ta N Z a size b c e d:=by
 induction d with
 | zero=>rfl
 | succ d g=>
  funext f;refine (nqe N Z a size b c e (Vd (eZ N) d) f).trans ?_;rw[g];rfl
theorem nj2(N:Nat)(Z x:rM)(e:Int)(f:CO→zW)(d:Int)(a:rM):zZ N f (BA Z x e d a)=dE Vm.kW ta (λa size b c g h=>Vd (eZ N) N (Ae Z a size b c g h)) Z x e (λd a=>f (BA Z x e d a)) d a:=by kernel_rfl
theorem nf7(N:Nat)(Z x:rM)(e:Int)(c:Nat):(λf a=>Vd (zZ N) c (BA Z x e f a))=Zb Vm.kW ta N Z x e c:=by
 induction c with
 | zero=>rfl
 | succ c g=>
  funext f a;refine (nj2 N Z x e (Vd (zZ N) c) f a).trans ?_;have h:=funext λa=>funext λsize=>funext λb=>funext λd=>funext λi=>nuA N Z a size b d i N;rw[h];rw[g];rfl
theorem noK(N:Nat)(Z:rM):Xe hS PL uG N f169 FW (.sl Z::([]))=Yq Vm.kW ta N Z:=by
 have c:Xe hS PL uG N f169 FW (.sl Z::([]))=Od Vm.kW ta (λx b d a=>Vd (zZ N) N (BA Z x b d a)) Z:=by kernel_rfl
 refine c.trans ?_;unfold Yq;have e:(λx b d a=>Vd (zZ N) N (BA Z x b d a))=(λx b=>Zb Vm.kW ta N Z x b N):=by funext x b;exact nf7 N Z x b N
 exact congrArg (λf=>Od Vm.kW ta f Z) e
theorem nwK:gk hS 169 FW:=by refine lH (A:=uG) cpR func169 λa (b:i_ ([.sl WT]) a) aN=>?_;obtain⟨Z,rfl,c⟩:=ga b;obtain⟨N,d⟩:=nzR Vm.kW ta Z c aN;exact⟨N,((noK N Z).trans d).trans (by kernel_rfl)⟩
def Qa:Sum:= {ps:=[⟨[.sl UB],false⟩,⟨TV.ct,true⟩,⟨vL,false⟩,⟨[.sl bG],false⟩],rs:=[⟨[.eN .str],false⟩,⟨[.eN .bool],false⟩],fn:=λa=>(true,[.str (Wz (Zc a 0) (TV.nd a 1) (J a 2) (Zc a 3)).1]++[.bool (Wz (Zc a 0) (TV.nd a 1) (J a 2) (Zc a 3)).2])}
def nkv:Ctx:=[(65,WC),(164,Tr)]
theorem nbX:Wq hS nkv:=aU Ob (aU ndG Ns)
def ng4:List (Nat×iT):=[(5, {cx:=[(0,.Ay),(2,.Ay),(5,.Ay),(10,.Ay),(18,.Ay),(19,.Ay),(20,.Ay)],boxes:=[(320,[])]})]
def fsS:Y→Bool→zW:=(λa b=>((true,[.str a]++[.bool b]):zW))
def naS(Z:rM)(a:Int)(c:Y)(b:rM)(d e:Int)(f:rM):CO:= {n:=42,sl:=[(0,.sl UB Z),(2,D7 a),(5,.ptr 320 0),(10,.str c),(18,.sl bG b),(19,D7 d),(20,D7 e)],hp:=[(320,.box 26 [.sl VB f])]}
theorem ntL:gk hS 170 Qa:=by refine lH (A:=ng4) nbX func170 λd c _=>?_;replace c:i_ ((.sl UB)::(TV.ct++[.i,.sl bG])) d:=c;obtain⟨Z,d,rfl,_,c⟩:=dh c;obtain⟨m,d,rfl,e,c⟩:=TV.nX (r:=_) c;obtain⟨a,d,rfl,_,c⟩:=O_ c;obtain⟨b,rfl,f⟩:=ga c;obtain⟨N,g⟩:=ndB Vm.kW fsS Z m a b e f;exact⟨N,TX (λh=>cO Vm.kW fsS h Z m a b) (funext λj=>funext λk=>vI (HN hS nkv ng4 N f170 Qa [true,true,true,false,true,false] []) (λl n=>naS Z a l b j n k) _ N) g⟩
def TU:Sum:= {ps:=[⟨VB,false⟩],rs:=[⟨[.eN .i,.eN .i,.eN .i,.eN .i,.eN .str],true⟩,⟨[.eN .bool],false⟩],fn:=λa=>(true,Ps.enc (xV (fJ a 0)).1++[.bool (xV (fJ a 0)).2])}
theorem ndI:gk hS 174 TU:=by refine ly (Γ:=[(131,xU),(132,ae),(223,EA)]) (aU bz (aU lM (aU nnO Ns))) func174 λa (b:i_ (VB) a) _=>?_;obtain⟨s,rfl,c⟩:=T8 b;exact⟨0,BL (ny3 Vm.kW (λd e=>((true,Ps.enc d++[.bool e]):zW)) s c)⟩
theorem nqC:gk hS 153 TU:=by refine ly (Γ:=[(196,EA),(210,S2),(211,ae)]) (aU ntl (aU dN (aU UZ Ns))) func153 λa (b:i_ (VB) a) _=>?_;obtain⟨s,rfl,c⟩:=T8 b;exact⟨0,BL (pF1 Vm.kW (λd e=>((true,Ps.enc d++[.bool e]):zW)) s c)⟩
def yO:Sum:= {ps:=[⟨VB,false⟩],rs:=[⟨[.eN .i,.eN .i,.eN .i,.eN .i,.eN .i,.eN .i,.eN .str],true⟩,⟨[.eN .bool],false⟩],fn:=λa=>(true,Tc.enc (Xn (fJ a 0)).1++[.bool (Xn (fJ a 0)).2])}
theorem njX:gk hS 175 yO:=by refine ly (Γ:=[(131,xU),(132,ae),(213,UO)]) (aU bz (aU lM (aU ng2 Ns))) func175 λa (b:i_ (VB) a) _=>?_;obtain⟨s,rfl,c⟩:=T8 b;exact⟨0,BL (ntD Vm.kW (λd e=>((true,Tc.enc d++[.bool e]):zW)) s c)⟩
theorem nkp:gk hS 154 yO:=by refine ly (Γ:=[(135,UO),(210,S2),(211,ae)]) (aU nks (aU dN (aU UZ Ns))) func154 λa (b:i_ (VB) a) _=>?_;obtain⟨s,rfl,c⟩:=T8 b;exact⟨0,BL (ntD Vm.kW (λd e=>((true,Tc.enc d++[.bool e]):zW)) s c)⟩
def kR:Sum:= {ps:=[⟨vL,false⟩,⟨vL,false⟩,⟨vL,false⟩,⟨VB,false⟩],rs:=[⟨[.eN .i,.eN .i,.eN .i,.eN .i,.eN .i,.eN .i,.eN .i,.eN .str],true⟩,⟨[.eN .bool],false⟩],fn:=λa=>(true,ch.enc (NZ (J a 0) (J a 1) (J a 2) (fJ a 3)).1++[.bool (NZ (J a 0) (J a 1) (J a 2) (fJ a 3)).2])}
theorem nr8:gk hS 176 kR:=by refine ly (Γ:=[(131,xU),(132,ae),(212,Pw)]) (aU bz (aU lM (aU nlg Ns))) func176 λc (a:i_ ([.i,.i,.i,.str]) c) _=>?_;obtain⟨d,c,rfl,_,a⟩:=O_ a;obtain⟨e,c,rfl,_,a⟩:=O_ a;obtain⟨b,c,rfl,_,a⟩:=O_ a;obtain⟨s,rfl,f⟩:=T8 a;exact⟨0,BL (ncd Vm.kW (λg h=>((true,ch.enc g++[.bool h]):zW)) d e b s f)⟩
theorem txG:gk hS 155 kR:=by refine ly (Γ:=[(134,Pw),(210,S2),(211,ae)]) (aU nxq (aU dN (aU UZ Ns))) func155 λc (a:i_ ([.i,.i,.i,.str]) c) _=>?_;obtain⟨d,c,rfl,_,a⟩:=O_ a;obtain⟨e,c,rfl,_,a⟩:=O_ a;obtain⟨b,c,rfl,_,a⟩:=O_ a;obtain⟨s,rfl,f⟩:=T8 a;exact⟨0,BL (ncd Vm.kW (λg h=>((true,ch.enc g++[.bool h]):zW)) d e b s f)⟩
def PZ:Sum:= {ps:=[⟨VB,false⟩],rs:=[⟨[.eN .i,.eN .i,.eN .i,.eN .i,.eN .i,.eN .i,.eN .i,.eN .i,.eN .i,.eN .i,.eN .i,.eN .i,.eN .i,.eN .i,.eN .i,.eN .str],true⟩,⟨[.eN .i],false⟩],fn:=λa=>(true,oY.enc (uN (fJ a 0)).1++[.int (uN (fJ a 0)).2])}
theorem Gc:gk hS 105 PZ:=by refine ly (Γ:=[(60,uM),(174,TU),(175,yO),(176,kR)]) (aU DQ (aU ndI (aU njX (aU nr8 Ns)))) func105 λa (b:i_ (VB) a) _=>?_;obtain⟨s,rfl,_⟩:=T8 b;exact⟨0,BL (nqE (λc d=>((true,oY.enc c++[.int d]):zW)) s)⟩
theorem nqz:gk hS 82 PZ:=by refine ly (Γ:=[(133,uM),(153,TU),(154,yO),(155,kR)]) (aU Db (aU nqC (aU nkp (aU txG Ns)))) func82 λa (b:i_ (VB) a) _=>?_;obtain⟨s,rfl,_⟩:=T8 b;exact⟨0,BL (nqE (λc d=>((true,oY.enc c++[.int d]):zW)) s)⟩
def zx:Sum:= {ps:=[⟨VB,false⟩],rs:=[⟨[.eN .str],false⟩],fn:=λa=>(AK (fJ a 0),[.str (iR (fJ a 0))])}
theorem spN:gk hS 173 zx:=by refine ly (Γ:=[(222,Oc)]) (aU njN Ns) func173 λa (b:i_ (VB) a) aN=>?_;obtain⟨s,rfl,_⟩:=T8 b;exact⟨0,BL (ndJ Vm.kW (λc=>((true,[.str c]):zW)) s aN)⟩
theorem nA2:gk hS 71 zx:=by refine ly (Γ:=[(138,Oc)]) (aU nmC Ns) func71 λa (b:i_ (VB) a) aN=>?_;obtain⟨s,rfl,_⟩:=T8 b;exact⟨0,BL (ndJ Vm.kW (λc=>((true,[.str c]):zW)) s aN)⟩
def Oe:Sum:= {ps:=[⟨oY.ct,true⟩],rs:=[⟨[.eN .str],false⟩,⟨[.eN .bool],false⟩],fn:=λa=>(true,[.str (qL (oY.nd a 0)).1]++[.bool (qL (oY.nd a 0)).2])}
theorem ndT:gk hS 250 Oe:=by refine ly (Γ:=[(106,U5),(158,EX),(173,zx)]) (aU VX (aU pF (aU spN Ns))) func250 λb (a:i_ (oY.ct++[]) b) _=>?_;obtain⟨p,b,rfl,_,a⟩:=oY.nX (r:=_) a;obtain rfl:=R5 a;exact⟨0,BL (nbr Vm.kW (λc d=>((true,[.str c]++[.bool d]):zW)) p)⟩
theorem niQ:gk hS 32 Oe:=by refine ly (Γ:=[(69,U5),(70,EX),(71,zx)]) (aU nvP (aU nrb (aU nA2 Ns))) func32 λb (a:i_ (oY.ct++[]) b) _=>?_;obtain⟨p,b,rfl,_,a⟩:=oY.nX (r:=_) a;obtain rfl:=R5 a;exact⟨0,BL (nbB Vm.kW (λc d=>((true,[.str c]++[.bool d]):zW)) p)⟩
def iz:Sum:= {ps:=[⟨[.sl s_],false⟩],rs:=[⟨[.own 9 VB],false⟩],fn:=λa=>(Rl (Zc a 0),[.sl (AU (Zc a 0))])}
def nu9:Ctx:=[(250,Oe)]
theorem nrn:Wq hS nu9:=aU ndT Ns
def nhG:List (Nat×iT):=[(3, {cx:=[(3,.Ay),(9,.Ay),(10,.Ay),(11,.Ay)],boxes:=[]})]
def nuB:rM→zW:=(λa=>((true,[.sl a]):zW))
def nbt(Z:rM)(a b:Int)(c:rM):CO:= {n:=27,sl:=[(3,.own 640192),(9,.sl s_ Z),(10,D7 a),(11,D7 b)],hp:=[(640192,.row 9 VB c false true)]}
theorem hsQ:gk hS 220 iz:=by refine lH (A:=nhG) nrn func220 λa (b:i_ ([.sl s_]) a) aN=>?_;obtain⟨Z,rfl,c⟩:=ga b;obtain⟨N,d⟩:=nfW Vm.kW nuB Z c aN;exact⟨N,TX (λe=>QB Vm.kW nuB e Z) (funext λf=>vI (HN hS nu9 nhG N f220 iz [true,true,false,true,false] []) (nbt Z f) _ N) d⟩
def gO:Sum:= {ps:=[⟨oY.ct,true⟩,⟨vL,false⟩],rs:=[⟨[.own 63 s_],false⟩],fn:=λa=>(true,[.sl (Split (oY.nd a 0) (J a 16))])}
def nzV:Ctx:=[(25,Cy),(60,uM)]
theorem ntc:Wq hS nzV:=aU vN (aU DQ Ns)
def nbn:List (Nat×iT):=[(8, {cx:=[(1,.Ay),(2,.Ay),(5,.Ay),(6,.Ay),(7,.Ay)],boxes:=[(128,[])]})]
def nhE:rM→zW:=(λa=>((true,[.sl a]):zW))
def hbF(size:Int)(a:Y)(k c d e f g h j l m o p q r s t:Int)(b:Y)(u:rM):CO:= {n:=88,sl:=[(1,D7 size),(2,.ptr 128 0),(5,.str a),(6,.own 640384),(7,D7 k)],hp:=[(128,.box 63 [D7 c,D7 d,D7 e,D7 f,D7 g,D7 h,D7 j,D7 l,D7 m,D7 o,D7 p,D7 q,D7 r,D7 s,D7 t,.str b]),(640384,.row 63 s_ u false true)]}
theorem nDc:gk hS 221 gO:=by refine lH (A:=nbn) ntc func221 λc (b:i_ (oY.ct++vL) c) _=>?_;obtain⟨p,c,rfl,_,b⟩:=oY.nX (r:=_) b;obtain⟨size,rfl,_⟩:=sX b;obtain⟨N,d⟩:=nEd Vm.kW nhE p size;exact⟨N,TX (λe=>sq Vm.kW nhE e p size) (funext λa=>funext λf=>funext λg=>funext λh=>funext λj=>funext λl=>funext λm=>funext λn=>funext λo=>funext λq=>funext λs=>funext λt=>funext λu=>funext λv=>funext λw=>funext λx=>vI (HN hS nzV nbn N f221 gO [true,true,true,true,true,false,true,false] []) (λk y=>hbF size a k f g h j l m n o q s t u v w x p.pk.ed y) _ N) d⟩
def U32:Sum:= {ps:=[⟨oY.ct,true⟩,⟨vL,false⟩],rs:=[⟨[.own 9 VB],false⟩],fn:=λa=>(true,[.sl (Ui (oY.nd a 0) (J a 16))])}
theorem ncc:gk hS 172 U32:=by refine ly (Γ:=[(220,iz),(221,gO)]) (aU hsQ (aU nDc Ns)) func172 λb (a:i_ (oY.ct++vL) b) _=>?_;obtain⟨p,b,rfl,_,a⟩:=oY.nX (r:=_) a;obtain⟨size,rfl,_⟩:=sX a;exact⟨0,BL (nkY Vm.kW (λc=>((true,[.sl c]):zW)) p size)⟩
def nrH:Sum:= {ps:=[⟨vL,false⟩,⟨vL,false⟩],rs:=[⟨[.eN .i,.eN .i,.eN .i,.eN .i,.eN .bool,.eN .bool],true⟩,⟨[.eN .bool],false⟩],fn:=λa=>(true,Tj.enc (Xj (J a 0) (J a 1)).1++[.bool (Xj (J a 0) (J a 1)).2])}
theorem nx8:gk hS 144 nrH:=by refine ly (Γ:=[(204,xw)]) (aU nou Ns) func144 λd (c:i_ (bG) d) _=>?_;obtain⟨a,d,rfl,_,c⟩:=O_ c;obtain⟨b,rfl,_⟩:=sX c;exact⟨0,BL (nu3 (λe f=>((true,Tj.enc e++[.bool f]):zW)) a b)⟩
def Ts:Sum:= {ps:=[⟨vL,false⟩,⟨vL,false⟩,⟨vL,false⟩],rs:=[⟨[.eN .i,.eN .i,.eN .i,.own 3 vL],true⟩,⟨[.eN .bool],false⟩],fn:=λa=>(W5 (J a 0) (J a 1) (J a 2),Cf.enc (jl (J a 0) (J a 1) (J a 2)).1++[.bool (jl (J a 0) (J a 1) (J a 2)).2])}
def nz0:Ctx:=[(235,Yf)]
theorem nsi:Wq hS nz0:=aU bV Ns
def nkG:List (Nat×iT):=[(3, {cx:=[(2,.Ay),(6,.Ay),(8,.Ay),(9,.Ay)],boxes:=[(384,[]),(512,[(3,.own 3)])]})]
def nvc:Cf→Bool→zW:=(λa b=>((true,Cf.enc a++[.bool b]):zW))
def naI(a k d b c base size e:Int)(f:rM):CO:= {n:=34,sl:=[(2,D7 a),(6,.ptr 384 0),(8,.ptr 512 0),(9,D7 k)],hp:=[(384,.box 32 [D7 d,D7 b,D7 c,.nil]),(512,.box 32 [D7 base,D7 size,D7 e,.own 1411075]),(1411075,.row 3 vL f false true)]}
theorem nfU:gk hS 207 Ts:=by refine lH (A:=nkG) nsi func207 λc (b:i_ ([.i,.i,.i]) c) aN=>?_;obtain⟨base,c,rfl,_,b⟩:=O_ b;obtain⟨size,c,rfl,_,b⟩:=O_ b;obtain⟨a,rfl,_⟩:=sX b;obtain⟨N,d⟩:=nAK Vm.kW nvc base size a aN;exact⟨N,TX (λe=>Qh Vm.kW nvc e base size a) (funext λf=>vI (HN hS nz0 nkG N f207 Ts [true,true,false,true,false] []) (λk g=>naI a k 0 0 0 base size f g) _ N) d⟩
def IA:Sum:= {ps:=[⟨[.sl UB],false⟩,⟨TV.ct,true⟩,⟨vL,false⟩,⟨jW.ct,true⟩,⟨Cf.ct,true⟩],rs:=[⟨[.own 9 VB],true⟩,⟨[.eN .i,.eN .i,.eN .i,.eN .i],true⟩,⟨[.eN .i,.eN .i,.eN .i,.own 3 vL],true⟩,⟨[.eN .i],false⟩],fn:=λa=>(cE (Zc a 0) (TV.nd a 1) (J a 2) (jW.nd a 3) (Cf.nd a 7),TV.enc (zw (Zc a 0) (TV.nd a 1) (J a 2) (jW.nd a 3) (Cf.nd a 7)).1++jW.enc (zw (Zc a 0) (TV.nd a 1) (J a 2) (jW.nd a 3) (Cf.nd a 7)).2.1++Cf.enc (zw (Zc a 0) (TV.nd a 1) (J a 2) (jW.nd a 3) (Cf.nd a 7)).2.2.1++[.int (zw (Zc a 0) (TV.nd a 1) (J a 2) (jW.nd a 3) (Cf.nd a 7)).2.2.2])}
def ndO:Ctx:=[(27,Yf),(57,Vq),(85,Qd),(88,Nc),(93,PQ),(100,BN),(163,qG),(167,CY)]
theorem nxn:Wq hS ndO:=aU Nw (aU VS (aU HB (aU oG (aU iA (aU pg (aU zG (aU nje Ns)))))))
def nis:List (Nat×iT):=[(6, {cx:=[(0,.Ay),(2,.Ay),(8,.Ay),(9,.Ay),(10,.Ay),(11,.Ay),(12,.Ay),(14,.Ay),(15,.Ay),(16,.Ay),(39,.Ay),(40,.Ay),(41,.Ay)],boxes:=[(384,[]),(512,[]),(576,[]),(640,[]),(704,[]),(768,[]),(896,[]),(960,[])]})]
def nj1:TV→jW→Cf→Int→zW:=(λa b c d=>((true,TV.enc a++jW.enc b++Cf.enc c++[.int d]):zW))
def ngK(Z:rM)(a n:Int)(x:rM)(g h:Int)(j:rM)(k l m o p q r:Int)(s:rM)(b c d e f t u v w y:Int)(z A:rM):CO:= {n:=80,sl:=[(0,.sl UB Z),(2,D7 a),(8,.ptr 512 0),(9,.ptr 576 0),(10,.ptr 640 0),(11,.ptr 704 0),(12,.ptr 768 0),(14,.ptr 896 0),(15,.ptr 960 0),(16,D7 n),(39,.sl vL x),(40,D7 g),(41,D7 h)],hp:=[(384,.box 26 [.sl VB j]),(512,.box 29 [D7 k,D7 l,D7 m,D7 o]),(576,.box 32 [D7 p,D7 q,D7 r,.sl vL s]),(640,.box 26 [.nil]),(704,.box 29 [D7 b,D7 c,D7 d,D7 e]),(768,.box 32 [D7 f,D7 t,D7 u,.nil]),(896,.box 26 [.own 1509376]),(960,.box 32 [D7 v,D7 w,D7 y,.own 1525763]),(1509376,.row 9 VB z false true),(1525763,.row 3 vL A false true)]}
theorem nvS:gk hS 186 IA:=by refine lH (A:=nis) nxn func186 λc b d=>?_;replace b:i_ ((.sl UB)::(TV.ct++(.i::(jW.ct++(Cf.ct++[]))))) c:=b;obtain⟨Z,c,rfl,_,b⟩:=dh b;obtain⟨m,c,rfl,_,b⟩:=TV.nX (r:=_) b;obtain⟨a,c,rfl,_,b⟩:=O_ b;obtain⟨r,c,rfl,_,b⟩:=jW.nX (r:=_) b;obtain⟨p,c,rfl,_,b⟩:=Cf.nX (r:=_) b;obtain rfl:=R5 b;obtain⟨N,e⟩:=nea Vm.kW nj1 Z m a r p d;exact⟨N,TX (λf=>tw Vm.kW nj1 f Z m a r p) (funext λx=>funext λg=>funext λh=>funext λj=>funext λk=>funext λl=>funext λo=>funext λq=>funext λs=>Ao (HN hS ndO nis N f186 IA [true,true,true,true,false,true,false] []) (λn t u v w y z=>ngK Z a n x g t m.nQ u v w y h j k l 0 0 0 0 0 0 0 o q s z ((cp p).oq)) _ N) e⟩
def nl0:Ctx:=[(235,Yf),(237,gb),(238,Nc),(239,Vq),(240,YN),(241,CY),(242,BN),(243,qG)]
theorem nxI:Wq hS nl0:=aU bV (aU Pk (aU nlB (aU bb (aU nkM (aU naW (aU njS (aU nuW Ns)))))))
def nAj:List (Nat×iT):=[(6, {cx:=[(0,.Ay),(2,.Ay),(8,.Ay),(9,.Ay),(10,.Ay),(11,.Ay),(12,.Ay),(14,.Ay),(15,.Ay),(16,.Ay)],boxes:=[(384,[]),(512,[]),(576,[]),(640,[]),(704,[]),(768,[]),(896,[]),(960,[])]})]
def nDG:TV→jW→Cf→Int→zW:=(λa b c d=>((true,TV.enc a++jW.enc b++Cf.enc c++[.int d]):zW))
def nhm(Z:rM)(a n:Int)(g:rM)(h j k l m o p:Int)(q:rM)(b c d e f r s t u v:Int)(w x:rM):CO:= {n:=82,sl:=[(0,.sl UB Z),(2,D7 a),(8,.ptr 512 0),(9,.ptr 576 0),(10,.ptr 640 0),(11,.ptr 704 0),(12,.ptr 768 0),(14,.ptr 896 0),(15,.ptr 960 0),(16,D7 n)],hp:=[(384,.box 26 [.sl VB g]),(512,.box 29 [D7 h,D7 j,D7 k,D7 l]),(576,.box 32 [D7 m,D7 o,D7 p,.sl vL q]),(640,.box 26 [.nil]),(704,.box 29 [D7 b,D7 c,D7 d,D7 e]),(768,.box 32 [D7 f,D7 r,D7 s,.nil]),(896,.box 26 [.own 1509376]),(960,.box 32 [D7 t,D7 u,D7 v,.own 1525763]),(1509376,.row 9 VB w false true),(1525763,.row 3 vL x false true)]}
theorem nqV:gk hS 209 IA:=by refine lH (A:=nAj) nxI func209 λc b d=>?_;replace b:i_ ((.sl UB)::(TV.ct++(.i::(jW.ct++(Cf.ct++[]))))) c:=b;obtain⟨Z,c,rfl,_,b⟩:=dh b;obtain⟨m,c,rfl,_,b⟩:=TV.nX (r:=_) b;obtain⟨a,c,rfl,_,b⟩:=O_ b;obtain⟨r,c,rfl,_,b⟩:=jW.nX (r:=_) b;obtain⟨p,c,rfl,_,b⟩:=Cf.nX (r:=_) b;obtain rfl:=R5 b;obtain⟨N,e⟩:=nhs Vm.kW nDG Z m a r p d;exact⟨N,TX (λf=>HA Vm.kW nDG f Z m a r p) (funext λg=>funext λh=>funext λj=>funext λk=>funext λl=>funext λo=>funext λq=>Ao (HN hS nl0 nAj N f209 IA [true,true,true,true,true,false,false] []) (λn s t u v w x=>nhm Z a n m.nQ s t u v g h j k 0 0 0 0 0 0 0 l o q w x) _ N) e⟩
def nse:Sum:= {ps:=[],rs:=[⟨[.eN .i,.eN .i,.eN .i,.eN .i,.eN .i,.eN .i,.eN .i,.own 3 vL,.deep 138 [.i,.i,.sl vL] [3],.eN .i],true⟩],fn:=λa=>(true,Sx.enc Y9)}
theorem nsI:gk hS 149 nse:=by refine ly (Γ:=[(207,Ts)]) (aU nfU Ns) func149 λc a _=>?_;obtain rfl:=R5 a;exact⟨0,BL (ngD Vm.kW (λb=>((true,Sx.enc b):zW)))⟩
def nji:Sum:= {ps:=[⟨QP.ct,true⟩,⟨vL,false⟩],rs:=[],fn:=λa=>(jz (QP.nd a 0) (J a 33),QP.enc (QA (QP.nd a 0) (J a 33))),ms:=[some (.cZ 54 [.flat 9,.flat 134,.flat 3,.deep 138 [3],.flat 74,.deep 32 [3],.flat 77,.flat 4,.flat 3,.flat 147,.flat 151,.flat 3,.flat 170,.flat 9,.flat 3,.flat 3]),none]}
def niB:Ctx:=[(80,yB),(207,Ts),(208,yK),(209,IA)]
theorem ne4:Wq hS niB:=aU MU (aU nfU (aU nda (aU nqV Ns)))
theorem nvR:UY hS 152 nji:=by refine RE (A:=[]) ne4 func152 λc (a:i_ (QP.ct++vL) c) aN=>?_;obtain⟨h,c,rfl,b,a⟩:=QP.nX (r:=_) a;obtain⟨k,rfl,_⟩:=sX a;exact⟨0,BL (nxY Vm.kW (λd=>((true,QP.enc d):zW)) h k b aN)⟩
def Gj:Sum:= {ps:=[⟨vL,false⟩,⟨AP.ct,true⟩,⟨nJ.ct,true⟩,⟨sJ,false⟩,⟨vL,false⟩,⟨vL,false⟩],rs:=[⟨[.own 9 VB,.own 134 UB,.eN .i,.eN .i,.eN .i,.eN .i,.eN .i,.eN .i,.eN .i,.own 3 vL,.deep 138 [.i,.i,.sl vL] [3],.eN .i,.own 74 CR,.deep 32 [.i,.i,.i,.sl vL] [3],.own 77 UC,.own 4 sJ,.eN .i,.eN .bool,.own 3 vL,.own 147 nS,.own 151 xT,.eN .str,.own 3 vL,.own 170 Qn,.eN .bool,.own 9 VB,.own 3 vL,.own 3 vL,.eN .i,.eN .i,.eN .i,.eN .i,.eN .i],true⟩,⟨[.eN .bool],false⟩],fn:=λa=>(ib (J a 0) (AP.nd a 1) (nJ.nd a 4) (yz a 8) (J a 9) (J a 10),QP.enc (mJ (J a 0) (AP.nd a 1) (nJ.nd a 4) (yz a 8) (J a 9) (J a 10)).1++[.bool (mJ (J a 0) (AP.nd a 1) (nJ.nd a 4) (yz a 8) (J a 9) (J a 10)).2])}
def KK:Ctx:=[(1125899906842706,iV),(1125899906842707,iV),(144,nrH),(145,Cy),(146,Cz),(147,Pr),(148,Ar),(149,nse),(150,Pq),(151,KQ),(152,nji)]
theorem nA3:Wq hS KK:=aU XH (aU XH (aU nx8 (aU X2 (aU nvX (aU nlX (aU nsk (aU nsI (aU naJ (aU nim (aU nvR Ns))))))))))
def Rf:List (Nat×iT):=[(6, {cx:=[(0,.Ay),(12,.Ay),(14,.Ay),(16,.Ay),(17,.Ay)],boxes:=[(448,[]),(512,[]),(768,[]),(896,[]),(1024,[(1,.own 134)])]}),(10, {cx:=[(0,.Ay),(12,.Ay),(14,.Ay),(16,.Ay),(18,.Ay)],boxes:=[(448,[]),(512,[]),(768,[]),(896,[]),(1024,[(12,.own 74),(13,.deep 32 [3]),(14,.own 77),(15,.own 4),(23,.own 170),(25,.own 9),(26,.own 3),(27,.own 3)])]})]
def Wb:QP→Bool→zW:=(λa b=>((true,QP.enc a++[.bool b]):zW))
def dG(d p e:Int)(f:Bool)(g j k:rM)(l:Y)(m:rM)(a o q r s t u w x:Int)(y:Bool)(z:Y)(A:Bool)(B C D E F v G H I:Int)(K L:Bool)(h M b N O P Q R S:Int)(T:Bool)(U:Y)(W:Bool)(X Z rr qH ri:Int)(c yt wu tQ rm rj qu qw:rM):CO:= {n:=99,sl:=[(0,D7 d),(12,.ptr 768 0),(14,.ptr 896 0),(16,.ptr 1024 0),(17,D7 p)],hp:=[(448,.box 41 [D7 e,.bool f,.sl vL g]),(512,.box 49 [.sl nS j,.sl xT k,.str l,.sl vL m]),(768,.box 54 [.nil,.nil,D7 a,D7 o,D7 q,D7 r,D7 s,D7 t,D7 u,.nil,.nil,D7 w,.nil,.nil,.nil,.nil,D7 x,.bool y,.nil,.nil,.nil,.str z,.nil,.nil,.bool A,.nil,.nil,.nil,D7 B,D7 C,D7 D,D7 E,D7 F]),(896,.box 77 [D7 v,D7 G,D7 H,D7 I,.bool K,.bool L]),(1024,.box 54 [.own 1542144,.own 1542145,D7 h,D7 M,D7 b,D7 N,D7 O,D7 P,D7 Q,.own 1542153,.own 1542154,D7 R,.nil,.nil,.nil,.nil,D7 S,.bool T,.own 1542162,.own 1542163,.own 1542164,.str U,.own 1542166,.nil,.bool W,.nil,.nil,.nil,D7 X,D7 Z,D7 rr,D7 qH,D7 ri]),(1542144,.row 9 VB c false true),(1542145,.row 134 UB yt false true),(1542153,.row 3 vL wu false true),(1542154,.deep 138 [.i,.i,.sl vL] [3] tQ none),(1542162,.row 3 vL rm false true),(1542163,.row 147 nS rj false true),(1542164,.row 151 xT qu false true),(1542166,.row 3 vL qw false true)]}
def Xt(f k g:Int)(h:Bool)(j l m:rM)(o:Y)(p:rM)(a q r s t u w x y:Int)(z:Bool)(A:Y)(B:Bool)(C D E F G v H I K:Int)(L M:Bool)(N O P Q R S T U W:Int)(X:Bool)(Z:Y)(sV:Bool)(tU b c d e:Int)(X6 X7 Z4 Td xg xh xi xj Sk Te Tf Tg Sl Sm Sn So:rM):CO:= {n:=99,sl:=[(0,D7 f),(12,.ptr 768 0),(14,.ptr 896 0),(16,.ptr 1024 0),(18,D7 k)],hp:=[(448,.box 41 [D7 g,.bool h,.sl vL j]),(512,.box 49 [.sl nS l,.sl xT m,.str o,.sl vL p]),(768,.box 54 [.nil,.nil,D7 a,D7 q,D7 r,D7 s,D7 t,D7 u,D7 w,.nil,.nil,D7 x,.nil,.nil,.nil,.nil,D7 y,.bool z,.nil,.nil,.nil,.str A,.nil,.nil,.bool B,.nil,.nil,.nil,D7 C,D7 D,D7 E,D7 F,D7 G]),(896,.box 77 [D7 v,D7 H,D7 I,D7 K,.bool L,.bool M]),(1024,.box 54 [.own 1542144,.own 1542145,D7 N,D7 O,D7 P,D7 Q,D7 R,D7 S,D7 T,.own 1542153,.own 1542154,D7 U,.own 1542156,.own 1542157,.own 1542158,.own 1542159,D7 W,.bool X,.own 1542162,.own 1542163,.own 1542164,.str Z,.own 1542166,.own 1542167,.bool sV,.own 1542169,.own 1542170,.own 1542171,D7 tU,D7 b,D7 c,D7 d,D7 e]),(1542144,.row 9 VB X6 false true),(1542145,.row 134 UB X7 false true),(1542153,.row 3 vL Z4 false true),(1542154,.deep 138 [.i,.i,.sl vL] [3] Td none),(1542156,.row 74 CR xg false true),(1542157,.deep 32 [.i,.i,.i,.sl vL] [3] xh none),(1542158,.row 77 UC xi false true),(1542159,.row 4 sJ xj false true),(1542162,.row 3 vL Sk false true),(1542163,.row 147 nS Te false true),(1542164,.row 151 xT Tf false true),(1542166,.row 3 vL Tg false true),(1542167,.row 170 Qn Sl false true),(1542169,.row 9 VB Sm false true),(1542170,.row 3 vL Sn false true),(1542171,.row 3 vL So false true)]}
noncomputable def jE(N:Nat):(CO→zW)→CO→zW:=HN hS KK Rf N f77 Gj [true,true,true,true,true,false,true,false] []
noncomputable def zE(N:Nat):(CO→zW)→CO→zW:=HN hS KK Rf N f77 Gj [true,true,true,true,false,true,false] []
theorem nf4(N:Nat)(L S:Int)(T:Bool)(U W X:rM)(Z:Y)(uo:rM)(e Rb Rc VH VI VJ VK VL VM:Int)(VN:Bool)(PD:Y)(PE:Bool)(PF PG PH PI PJ v M O P:Int)(Q R:Bool)(ih:CO→zW)(k f g h i j l m n o:Int)(p:Bool)(q:Y)(r:Bool)(s a b c d:Int)(t u w x y z A B C D E F G H I K:rM):jE N ih (Xt L k S T U W X Z uo e Rb Rc VH VI VJ VK VL VM VN PD PE PF PG PH PI PJ v M O P Q R f g h i j l m n o p q r s a b c d t u w x y z A B C D E F G H I K)=cj Vm.kW Wb L v M O P Q R (λk f g h i j l m n o p q r s a b c d t u w x y z A B C D E F G H I K=>ih (Xt L k S T U W X Z uo e Rb Rc VH VI VJ VK VL VM VN PD PE PF PG PH PI PJ v M O P Q R f g h i j l m n o p q r s a b c d t u w x y z A B C D E F G H I K)) k f g h i j l m n o p q r s a b c d t u w x y z A B C D E F G H I K:=by kernel_rfl
theorem nyn(N:Nat)(g T:Int)(U:Bool)(W X Z:rM)(um:Y)(uo:rM)(e Rb Rc VH VI VJ VK VL VM:Int)(VN:Bool)(PD:Y)(PE:Bool)(PF PG PH PI PJ v h i j:Int)(l m:Bool)(f:Nat):(λk n o p q r s t u w x y z A a b c d B C D E F G H I K L M O P Q R S=>Vd (jE N) f (Xt g k T U W X Z um uo e Rb Rc VH VI VJ VK VL VM VN PD PE PF PG PH PI PJ v h i j l m n o p q r s t u w x y z A a b c d B C D E F G H I K L M O P Q R S))=wI Vm.kW Wb N g v h i j l m f:=by
 induction f with
 | zero=>rfl
 | succ f ih=>
  funext k n o p q r s t u w x y z A a b c d B C D E F G H I K L M O P Q R S;refine (nf4 N g T U W X Z um uo e Rb Rc VH VI VJ VK VL VM VN PD PE PF PG PH PI PJ v h i j l m (Vd (jE N) f) k n o p q r s t u w x y z A a b c d B C D E F G H I K L M O P Q R S).trans ?_;rw[ih];rfl
theorem nyX(N:Nat)(d m:Int)(n:Bool)(o q r:rM)(s:Y)(t:rM)(a u w x y z A B C:Int)(D:Bool)(E:Y)(F:Bool)(G H I K L v e f g:Int)(i j:Bool)(h M b O P Q R S T:Int)(U:Bool)(W:Y)(X:Bool)(Z qI rr qH ri:Int)(c wu tQ rm rj qu qw:rM)(ih:CO→zW)(p:Int)(l:rM):zE N ih (dG d p m n o q r s t a u w x y z A B C D E F G H I K L v e f g i j h M b O P Q R S T U W X Z qI rr qH ri c l wu tQ rm rj qu qw)=bQ Vm.kW Wb (λk sR qS qP sK uw sd se ru sT sU sZ sV tU nmE nmF nmG nmH X6 X7 Z4 Td xg xh xi xj Sk Te Tf Tg Sl Sm Sn So=>Vd (jE N) N (Xt d k m n o q r s t a u w x y z A B C D E F G H I K L v e f g i j sR qS qP sK uw sd se ru sT sU sZ sV tU nmE nmF nmG nmH X6 X7 Z4 Td xg xh xi xj Sk Te Tf Tg Sl Sm Sn So)) d v e f g i j h M b O P Q R S T U W X Z qI rr qH ri c wu tQ rm rj qu qw (λp l=>ih (dG d p m n o q r s t a u w x y z A B C D E F G H I K L v e f g i j h M b O P Q R S T U W X Z qI rr qH ri c l wu tQ rm rj qu qw)) p l:=by kernel_rfl
theorem nw7(N:Nat)(e l:Int)(m:Bool)(n o q:rM)(r:Y)(s:rM)(a t u w x y z A B:Int)(C:Bool)(D:Y)(E:Bool)(F G H I K v f g i:Int)(j k:Bool)(h L b M O P Q R S:Int)(T:Bool)(U:Y)(W:Bool)(X Z rr qH ri:Int)(c wu tQ rm rj qu qw:rM)(d:Nat):(λp yt=>Vd (zE N) d (dG e p l m n o q r s a t u w x y z A B C D E F G H I K v f g i j k h L b M O P Q R S T U W X Z rr qH ri c yt wu tQ rm rj qu qw))=ah Vm.kW Wb N e v f g i j k h L b M O P Q R S T U W X Z rr qH ri c wu tQ rm rj qu qw d:=by
 induction d with
 | zero=>rfl
 | succ d ih=>
  funext p yt;refine (nyX N e l m n o q r s a t u w x y z A B C D E F G H I K v f g i j k h L b M O P Q R S T U W X Z rr qH ri c wu tQ rm rj qu qw (Vd (zE N) d) p yt).trans ?_;have e1:=nyn N e l m n o q r s a t u w x y z A B C D E F G H I K v f g i j k N;rw[e1];rw[ih];rfl
theorem nk1(N:Nat)(g:Int)(a:AP)(c:nJ)(i:Bool)(b d:Int):Xe hS KK Rf N f77 Gj (.int g::(a.enc++(c.enc++(.bool i::(.int b::(.int d::([])))))))=YH Vm.kW Wb N g a c i b d:=by
 have L:Xe hS KK Rf N f77 Gj (.int g::(a.enc++(c.enc++(.bool i::(.int b::(.int d::([])))))))=EC Vm.kW Wb (λv j k l m n h o e q r s t u w x y z A B C D f E F G H I K p M=>Vd (zE N) N (dG g p a.N8 a.n9 a.pO c.oQ c.eb.nO c.nV.eJ c.nV.eb 0 0 0 0 0 0 0 0 0 false [] false 0 0 0 0 0 v j k l m n h o e q r s t u w x y i z A B C D f M E F G H I K)) g a c i b d:=by kernel_rfl
 refine L.trans ?_;unfold YH;have O:(λv j k l m n h o e q r s t u w x y z A B C D f E F G H I K p M=>Vd (zE N) N (dG g p a.N8 a.n9 a.pO c.oQ c.eb.nO c.nV.eJ c.nV.eb 0 0 0 0 0 0 0 0 0 false [] false 0 0 0 0 0 v j k l m n h o e q r s t u w x y i z A B C D f M E F G H I K))=(λv j k l m n h o e q r s t u w x y z A B C D f E F G H I K=>ah Vm.kW Wb N g v j k l m n h o e q r s t u w x y i z A B C D f E F G H I K N):=by funext v j k l m n h o e q r s t u w x y z A B C D f E F G H I K;exact nw7 N g a.N8 a.n9 a.pO c.oQ c.eb.nO c.nV.eJ c.nV.eb 0 0 0 0 0 0 0 0 0 false [] false 0 0 0 0 0 v j k l m n h o e q r s t u w x y i z A B C D f E F G H I K N
 exact congrArg (λP=>EC Vm.kW Wb P g a c i b d) O
theorem noO:gk hS 77 Gj:=by refine lH (A:=Rf) nA3 func77 λe b j=>?_;replace b:i_ (.i::(AP.ct++(nJ.ct++[.bool,.i,.i]))) e:=b;obtain⟨f,e,rfl,_,b⟩:=O_ b;obtain⟨a,e,rfl,_,b⟩:=AP.nX (r:=_) b;obtain⟨g,e,rfl,_,b⟩:=nJ.nX (r:=_) b;obtain⟨h,e,rfl,_,b⟩:=C4 b;obtain⟨c,e,rfl,_,b⟩:=O_ b;obtain⟨d,rfl,_⟩:=sX b;obtain⟨N,k⟩:=noG Vm.kW Wb f a g h c d j;exact⟨N,((nk1 N f a g h c d).trans k).trans (by kernel_rfl)⟩
def Al:Sum:= {ps:=[⟨F1.ct,true⟩],rs:=[⟨[.eN .bool],false⟩],fn:=λa=>(true,[.bool (YW (F1.nd a 0))])}
theorem rpP:gk hS 227 Al:=by refine ly (Γ:=[(25,Cy)]) (aU vN Ns) func227 λb (a:i_ (F1.ct++[]) b) _=>?_;obtain⟨x,b,rfl,_,a⟩:=F1.nX (r:=_) a;obtain rfl:=R5 a;exact⟨0,BL (nvm (λc=>((true,[.bool c]):zW)) x)⟩
def njR:Sum:= {ps:=[⟨F1.ct,true⟩,⟨vL,false⟩],rs:=[⟨[.eN .str],false⟩],fn:=λa=>(true,[.str (Po (F1.nd a 0) (J a 5))])}
theorem neH:gk hS 228 njR:=by refine ly (Γ:=[(25,Cy),(161,Hb),(166,og),(227,Al)]) (aU vN (aU d8 (aU VU (aU rpP Ns)))) func228 λc (b:i_ (F1.ct++vL) c) _=>?_;obtain⟨x,c,rfl,_,b⟩:=F1.nX (r:=_) b;obtain⟨a,rfl,_⟩:=sX b;exact⟨0,BL (nvT Vm.kW (λd=>((true,[.str d]):zW)) x a)⟩
def qO:Sum:= {ps:=[⟨oY.ct,true⟩],rs:=[⟨[.eN .i,.eN .i,.eN .i,.eN .i,.eN .i],true⟩],fn:=λa=>(true,SA.enc (sM (oY.nd a 0)))}
theorem dm:gk hS 110 qO:=by refine ly Ns func110 λb (a:i_ (oY.ct++[]) b) _=>?_;obtain⟨p,b,rfl,_,a⟩:=oY.nX (r:=_) a;obtain rfl:=R5 a;exact⟨0,BL (ndE (λc=>((true,SA.enc c):zW)) p)⟩
theorem nfM:gk hS 83 qO:=by refine ly Ns func83 λb (a:i_ (oY.ct++[]) b) _=>?_;obtain⟨p,b,rfl,_,a⟩:=oY.nX (r:=_) a;obtain rfl:=R5 a;exact⟨0,BL (ndE (λc=>((true,SA.enc c):zW)) p)⟩
def nCy:Sum:= {ps:=[⟨SA.ct,true⟩],rs:=[⟨[.eN .str],false⟩],fn:=λa=>(true,[.str (zk (SA.nd a 0))])}
theorem nkW:gk hS 226 nCy:=by refine ly (Γ:=[(161,Hb),(166,og)]) (aU d8 (aU VU Ns)) func226 λb (a:i_ (SA.ct++[]) b) _=>?_;obtain⟨f,b,rfl,_,a⟩:=SA.nX (r:=_) a;obtain rfl:=R5 a;exact⟨0,BL (nxm Vm.kW (λc=>((true,[.str c]):zW)) f)⟩
def nqt:Sum:= {ps:=[⟨Tj.ct,true⟩],rs:=[⟨[.eN .i,.eN .i,.eN .i,.eN .i,.eN .bool,.eN .bool],true⟩],fn:=λa=>(true,Tj.enc (Tv (Tj.nd a 0)))}
theorem nao:gk hS 116 nqt:=by refine ly (Γ:=[(28,xw),(119,Vg)]) (aU Wh (aU G7 Ns)) func116 λb (a:i_ (Tj.ct++[]) b) _=>?_;obtain⟨v,b,rfl,_,a⟩:=Tj.nX (r:=_) a;obtain rfl:=R5 a;exact⟨0,BL (nlC (λc=>((true,Tj.enc c):zW)) v)⟩
def VG:Sum:= {ps:=[⟨VB,false⟩,⟨vL,false⟩],rs:=[⟨[.eN .i],false⟩],fn:=λa=>(eI (fJ a 0) (J a 1),[.int (tA (fJ a 0) (J a 1))])}
theorem npa:gk hS 251 VG:=by refine ly Ns func251 λc (a:i_ ([.str,.i]) c) aN=>?_;obtain⟨s,c,rfl,d,a⟩:=WW a;obtain⟨i,rfl,b⟩:=sX a;exact⟨0,BL (nqr Vm.kW (λe=>((true,[.int e]):zW)) s i d b aN)⟩
def O2:Sum:= {ps:=[⟨VB,false⟩,⟨vL,false⟩],rs:=[⟨[.eN .i],false⟩],fn:=λa=>(true,[.int (NM (fJ a 0) (J a 1))])}
def nBw:Ctx:=[(25,Cy),(251,VG)]
theorem txt:Wq hS nBw:=aU vN (aU npa Ns)
def nfT:List (Nat×iT):=[(5, {cx:=[(0,.Ay),(1,.Ay),(5,.Ay),(6,.Ay)],boxes:=[]})]
def ngn:Int→zW:=(λa=>((true,[.int a]):zW))
def nu0(key:Y)(a n i:Int):CO:= {n:=29,sl:=[(0,.str key),(1,D7 a),(5,D7 n),(6,D7 i)],hp:=[]}
theorem nwp:gk hS 252 O2:=by refine lH (A:=nfT) txt func252 λc (b:i_ ([.str,.i]) c) _=>?_;obtain⟨key,c,rfl,_,b⟩:=WW b;obtain⟨a,rfl,_⟩:=sX b;obtain⟨N,d⟩:=no8 Vm.kW ngn key a;exact⟨N,TX (λe=>DD Vm.kW ngn e key a) (vI (HN hS nBw nfT N f252 O2 [true,true,true,false,true,false] []) (nu0 key a) _ N) d⟩
def U7:Sum:= {ps:=[⟨VB,false⟩,⟨VB,false⟩],rs:=[⟨[.eN .i],false⟩],fn:=λa=>(true,[.int (W2 (fJ a 0) (fJ a 1))])}
def nkq:Ctx:=[(251,VG),(252,O2)]
theorem fsK:Wq hS nkq:=aU npa (aU nwp Ns)
def nn5:List (Nat×iT):=[(5, {cx:=[(0,.Ay),(1,.Ay),(5,.Ay),(6,.Ay)],boxes:=[]})]
def nug:Int→zW:=(λa=>((true,[.int a]):zW))
def ncQ(key a:Y)(h i:Int):CO:= {n:=32,sl:=[(0,.str key),(1,.str a),(5,D7 h),(6,D7 i)],hp:=[]}
theorem ngx:gk hS 225 U7:=by refine lH (A:=nn5) fsK func225 λd (b:i_ ([.str,.str]) d) _=>?_;obtain⟨key,d,rfl,_,b⟩:=WW b;obtain⟨a,rfl,c⟩:=T8 b;obtain⟨N,e⟩:=nd8 Vm.kW nug key a c;exact⟨N,TX (λf=>TH Vm.kW nug f key a) (vI (HN hS nkq nn5 N f225 U7 [true,true,true,false,true,false] []) (ncQ key a) _ N) e⟩
def UD:Sum:= {ps:=[⟨VB,false⟩,⟨SA.ct,true⟩],rs:=[⟨[.eN .i],false⟩],fn:=λa=>(true,[.int (XE (fJ a 0) (SA.nd a 1))])}
theorem ia:gk hS 183 UD:=by refine ly (Γ:=[(225,U7),(226,nCy)]) (aU ngx (aU nkW Ns)) func183 λb (a:i_ (.str::(SA.ct++[])) b) _=>?_;obtain⟨key,b,rfl,_,a⟩:=WW a;obtain⟨f,b,rfl,_,a⟩:=SA.nX (r:=_) a;obtain rfl:=R5 a;exact⟨0,BL (nxD (λc=>((true,[.int c]):zW)) key f)⟩
def eQ:Sum:= {ps:=[⟨QR.ct,true⟩],rs:=[⟨[.eN .i],false⟩],fn:=λa=>(true,[.int (LX (QR.nd a 0))])}
theorem niA:gk hS 68 eQ:=by refine ly Ns func68 λb (a:i_ (QR.ct++[]) b) _=>?_;obtain⟨q,b,rfl,_,a⟩:=QR.nX (r:=_) a;obtain rfl:=R5 a;exact⟨0,BL (njq (λc=>((true,[.int c]):zW)) q)⟩
def Tw:Sum:= {ps:=[⟨QR.ct,true⟩],rs:=[⟨[.eN .i],false⟩],fn:=λa=>(xn (QR.nd a 0),[.int (Ek (QR.nd a 0))])}
theorem nDd:gk hS 66 Tw:=by refine ly Ns func66 λb (a:i_ (QR.ct++[]) b) aN=>?_;obtain⟨q,b,rfl,_,a⟩:=QR.nX (r:=_) a;obtain rfl:=R5 a;exact⟨0,BL (nDI Vm.kW (λc=>((true,[.int c]):zW)) q aN)⟩
def qp:Sum:= {ps:=[⟨[.sl UB],false⟩,⟨TV.ct,true⟩,⟨vL,false⟩,⟨QR.ct,true⟩,⟨F1.ct,true⟩],rs:=[⟨[.own 9 VB],true⟩,⟨[.eN .i,.eN .i,.eN .i],true⟩,⟨[.eN .bool],false⟩],fn:=λa=>(qx (Zc a 0) (TV.nd a 1) (J a 2) (QR.nd a 3) (F1.nd a 6),TV.enc (c_ (Zc a 0) (TV.nd a 1) (J a 2) (QR.nd a 3) (F1.nd a 6)).1++QR.enc (c_ (Zc a 0) (TV.nd a 1) (J a 2) (QR.nd a 3) (F1.nd a 6)).2.1++[.bool (c_ (Zc a 0) (TV.nd a 1) (J a 2) (QR.nd a 3) (F1.nd a 6)).2.2])}
theorem nna:gk hS 184 qp:=by refine ly (Γ:=[(59,az),(66,Tw),(68,eQ),(85,Qd),(182,NI),(227,Al),(228,njR)]) (aU zQ (aU nDd (aU niA (aU HB (aU Xu (aU rpP (aU neH Ns))))))) func184 λc a d=>?_;replace a:i_ ((.sl UB)::(TV.ct++(.i::(QR.ct++(F1.ct++[]))))) c:=a;obtain⟨Z,c,rfl,_,a⟩:=dh a;obtain⟨m,c,rfl,_,a⟩:=TV.nX (r:=_) a;obtain⟨b,c,rfl,_,a⟩:=O_ a;obtain⟨q,c,rfl,_,a⟩:=QR.nX (r:=_) a;obtain⟨x,c,rfl,_,a⟩:=F1.nX (r:=_) a;obtain rfl:=R5 a;exact⟨0,BL (nvI Vm.kW (λe f g=>((true,TV.enc e++QR.enc f++[.bool g]):zW)) Z m b q x d)⟩
def nb8:Sum:= {ps:=[⟨[.sl UB],false⟩,⟨TV.ct,true⟩,⟨vL,false⟩,⟨pE.ct,true⟩,⟨VB,false⟩,⟨VB,false⟩],rs:=[⟨[.eN (.sl VB)],true⟩,⟨[.eN .i,.eN .i,.eN .i],true⟩,⟨[.eN .bool],false⟩],fn:=λa=>(nI (Zc a 0) (TV.nd a 1) (J a 2) (pE.nd a 3) (fJ a 33) (fJ a 34),TV.enc (SU (Zc a 0) (TV.nd a 1) (J a 2) (pE.nd a 3) (fJ a 33) (fJ a 34)).1++QR.enc (SU (Zc a 0) (TV.nd a 1) (J a 2) (pE.nd a 3) (fJ a 33) (fJ a 34)).2.1++[.bool (SU (Zc a 0) (TV.nd a 1) (J a 2) (pE.nd a 3) (fJ a 33) (fJ a 34)).2.2])}
theorem nor:gk hS 118 nb8:=by refine ly (Γ:=[(110,qO),(158,EX),(181,lF),(182,NI),(183,UD),(184,qp)]) (aU dm (aU pF (aU V3 (aU Xu (aU ia (aU nna Ns)))))) func118 λd a e=>?_;replace a:i_ ((.sl UB)::(TV.ct++(.i::(pE.ct++[.str,.str])))) d:=a;obtain⟨Z,d,rfl,_,a⟩:=dh a;obtain⟨m,d,rfl,_,a⟩:=TV.nX (r:=_) a;obtain⟨b,d,rfl,_,a⟩:=O_ a;obtain⟨q,d,rfl,_,a⟩:=pE.nX (r:=_) a;obtain⟨key,d,rfl,_,a⟩:=WW a;obtain⟨c,rfl,_⟩:=T8 a;exact⟨0,BL (npd Vm.kW (λf g h=>((true,TV.enc f++QR.enc g++[.bool h]):zW)) Z m b q key c e)⟩
def nfj:Sum:= {ps:=[⟨[.sl UB],false⟩,⟨TV.ct,true⟩,⟨vL,false⟩,⟨pE.ct,true⟩,⟨VB,false⟩,⟨VB,false⟩],rs:=[⟨[.own 9 VB],true⟩,⟨[.eN .i,.eN .i,.eN .i],true⟩,⟨[.eN .bool],false⟩],fn:=λa=>(Vj (Zc a 0) (TV.nd a 1) (J a 2) (pE.nd a 3) (fJ a 33) (fJ a 34),TV.enc (SU (Zc a 0) (TV.nd a 1) (J a 2) (pE.nd a 3) (fJ a 33) (fJ a 34)).1++QR.enc (SU (Zc a 0) (TV.nd a 1) (J a 2) (pE.nd a 3) (fJ a 33) (fJ a 34)).2.1++[.bool (SU (Zc a 0) (TV.nd a 1) (J a 2) (pE.nd a 3) (fJ a 33) (fJ a 34)).2.2])}
theorem niO:gk hS 118 nfj:=by refine ly (Γ:=[(110,qO),(158,EX),(181,lF),(182,NI),(183,UD),(184,qp)]) (aU dm (aU pF (aU V3 (aU Xu (aU ia (aU nna Ns)))))) func118 λd a e=>?_;replace a:i_ ((.sl UB)::(TV.ct++(.i::(pE.ct++[.str,.str])))) d:=a;obtain⟨Z,d,rfl,_,a⟩:=dh a;obtain⟨m,d,rfl,_,a⟩:=TV.nX (r:=_) a;obtain⟨b,d,rfl,_,a⟩:=O_ a;obtain⟨q,d,rfl,_,a⟩:=pE.nX (r:=_) a;obtain⟨key,d,rfl,_,a⟩:=WW a;obtain⟨c,rfl,_⟩:=T8 a;exact⟨0,BL (nCR Vm.kW (λf g h=>((true,TV.enc f++QR.enc g++[.bool h]):zW)) Z m b q key c e)⟩
def frI:Sum:= {ps:=[⟨[.sl UB],false⟩,⟨TV.ct,true⟩,⟨vL,false⟩,⟨pE.ct,true⟩,⟨VB,false⟩],rs:=[⟨[.own 9 VB],true⟩,⟨[.eN .i,.eN .i,.eN .i,.eN .i,.eN .i,.eN .i,.eN .i,.eN .i,.eN .i,.eN .i,.eN .i,.eN .i,.eN .i,.eN .i,.eN .i,.eN .i,.eN .i,.eN .i,.eN .i,.eN .i,.eN .i,.eN .i,.eN .i,.eN .i,.eN .i,.eN .str,.eN .i,.eN .i,.eN .bool,.eN .i],true⟩],fn:=λa=>(TF (Zc a 0) (TV.nd a 1) (J a 2) (pE.nd a 3) (fJ a 33),TV.enc (OW (Zc a 0) (TV.nd a 1) (J a 2) (pE.nd a 3) (fJ a 33)).1++pE.enc (OW (Zc a 0) (TV.nd a 1) (J a 2) (pE.nd a 3) (fJ a 33)).2)}
theorem naX:gk hS 51 frI:=by refine ly (Γ:=[(26,ml),(85,Qd),(117,WG),(118,nfj)]) (aU qd (aU HB (aU vD (aU niO Ns)))) func51 λc a d=>?_;replace a:i_ ((.sl UB)::(TV.ct++(.i::(pE.ct++VB)))) c:=a;obtain⟨Z,c,rfl,_,a⟩:=dh a;obtain⟨m,c,rfl,_,a⟩:=TV.nX (r:=_) a;obtain⟨b,c,rfl,_,a⟩:=O_ a;obtain⟨q,c,rfl,_,a⟩:=pE.nX (r:=_) a;obtain⟨key,rfl,_⟩:=T8 a;exact⟨0,BL (nnn Vm.kW (λe f=>((true,TV.enc e++pE.enc f):zW)) Z m b q key d)⟩
def nCe:Sum:= {ps:=[⟨[.sl UB],false⟩,⟨TV.ct,true⟩,⟨vL,false⟩,⟨pE.ct,true⟩,⟨VB,false⟩],rs:=[⟨[.own 9 VB],true⟩,⟨[.eN .i,.eN .i,.eN .i,.eN .i,.eN .i,.eN .i,.eN .i,.eN .i,.eN .i,.eN .i,.eN .i,.eN .i,.eN .i,.eN .i,.eN .i,.eN .i,.eN .i,.eN .i,.eN .i,.eN .i,.eN .i,.eN .i,.eN .i,.eN .i,.eN .i,.eN .str,.eN .i,.eN .i,.eN .bool,.eN .i],true⟩],fn:=λa=>(UH (Zc a 0) (TV.nd a 1) (J a 2) (pE.nd a 3) (fJ a 33),TV.enc (OW (Zc a 0) (TV.nd a 1) (J a 2) (pE.nd a 3) (fJ a 33)).1++pE.enc (OW (Zc a 0) (TV.nd a 1) (J a 2) (pE.nd a 3) (fJ a 33)).2)}
theorem nzh:gk hS 51 nCe:=by refine ly (Γ:=[(26,ml),(85,Qd),(117,WG),(118,nb8)]) (aU qd (aU HB (aU vD (aU nor Ns)))) func51 λc a d=>?_;replace a:i_ ((.sl UB)::(TV.ct++(.i::(pE.ct++VB)))) c:=a;obtain⟨Z,c,rfl,_,a⟩:=dh a;obtain⟨m,c,rfl,_,a⟩:=TV.nX (r:=_) a;obtain⟨b,c,rfl,_,a⟩:=O_ a;obtain⟨q,c,rfl,_,a⟩:=pE.nX (r:=_) a;obtain⟨key,rfl,_⟩:=T8 a;exact⟨0,BL (nhz Vm.kW (λe f=>((true,TV.enc e++pE.enc f):zW)) Z m b q key d)⟩
def P5:Sum:= {ps:=[⟨[.sl UB],false⟩,⟨TV.ct,true⟩,⟨vL,false⟩,⟨pE.ct,true⟩,⟨VB,false⟩],rs:=[⟨[.own 9 VB],true⟩,⟨[.eN .i,.eN .i,.eN .i,.eN .i,.eN .i,.eN .i,.eN .i,.eN .i,.eN .i,.eN .i,.eN .i,.eN .i,.eN .i,.eN .i,.eN .i,.eN .i,.eN .i,.eN .i,.eN .i,.eN .i,.eN .i,.eN .i,.eN .i,.eN .i,.eN .i,.eN .str,.eN .i,.eN .i,.eN .bool,.eN .i],true⟩],fn:=λa=>(Xm (Zc a 0) (TV.nd a 1) (J a 2) (pE.nd a 3) (fJ a 33),TV.enc (OW (Zc a 0) (TV.nd a 1) (J a 2) (pE.nd a 3) (fJ a 33)).1++pE.enc (OW (Zc a 0) (TV.nd a 1) (J a 2) (pE.nd a 3) (fJ a 33)).2)}
theorem nst:gk hS 51 P5:=nhR naX nzh rfl rfl rfl rfl (λ_=>rfl) (λ_=>rfl) (λa h=>by show (TF (Zc a 0) (TV.nd a 1) (J a 2) (pE.nd a 3) (fJ a 33))=true∨(UH (Zc a 0) (TV.nd a 1) (J a 2) (pE.nd a 3) (fJ a 33))=true;exact nbK h)
def qR:Sum:= {ps:=[⟨QP.ct,true⟩,⟨vL,false⟩,⟨vL,false⟩],rs:=[],fn:=λa=>(lJ (QP.nd a 0) (J a 33) (J a 34),QP.enc (mL (QP.nd a 0) (J a 33) (J a 34))),ms:=[some (.cZ 54 [.flat 9,.flat 134,.flat 3,.deep 138 [3],.flat 74,.deep 32 [3],.flat 77,.flat 4,.flat 3,.flat 147,.flat 151,.flat 3,.flat 170,.flat 9,.flat 3,.flat 3]),none,none]}
def nnt:Ctx:=[(115,cV),(116,nqt)]
theorem nCV:Wq hS nnt:=aU nm (aU nao Ns)
def ncC:List (Nat×iT):=[(2, {cx:=[(0,.Ay),(1,.Ay),(7,.Ay)],boxes:=[(320000062,[]),(384,[])]})]
def nft:QP→zW:=(λa=>((true,QP.enc a):zW))
def nnf(k n c e f g h j l m o:Int)(p:Bool)(q:Y)(r:Bool)(s t u v w d a b:Int)(x y z A B C D E F G H I K L M N:rM):CO:= {n:=1099511627818,sl:=[(0,.ptr 320000062 0),(1,D7 k),(7,D7 n)],hp:=[(320000062,.box 54 [.own 81921295872,.own 81921295873,D7 c,D7 e,D7 f,D7 g,D7 h,D7 j,D7 l,.own 81921295881,.own 81921295882,D7 m,.own 81921295884,.own 81921295885,.own 81921295886,.own 81921295887,D7 o,.bool p,.own 81921295890,.own 81921295891,.own 81921295892,.str q,.own 81921295894,.own 81921295895,.bool r,.own 81921295897,.own 81921295898,.own 81921295899,D7 s,D7 t,D7 u,D7 v,D7 w]),(384,.box 70 [D7 d,D7 a,D7 b]),(81921295872,.row 9 VB x false true),(81921295873,.row 134 UB y false true),(81921295881,.row 3 vL z false true),(81921295882,.deep 138 [.i,.i,.sl vL] [3] A none),(81921295884,.row 74 CR B false true),(81921295885,.deep 32 [.i,.i,.i,.sl vL] [3] C none),(81921295886,.row 77 UC D false true),(81921295887,.row 4 sJ E false true),(81921295890,.row 3 vL F false true),(81921295891,.row 147 nS G false true),(81921295892,.row 151 xT H false true),(81921295894,.row 3 vL I false true),(81921295895,.row 170 Qn K false true),(81921295897,.row 9 VB L false true),(81921295898,.row 3 vL M false true),(81921295899,.row 3 vL N false true)]}
theorem naR:UY hS 50 qR:=by refine RE (A:=ncC) nCV func50 λc b e=>?_;replace b:i_ (QP.ct++bG) c:=b;obtain⟨h,c,rfl,d,b⟩:=QP.nX (r:=_) b;obtain⟨k,c,rfl,_,b⟩:=O_ b;obtain⟨a,rfl,_⟩:=sX b;obtain⟨N,f⟩:=nlp Vm.kW nft h k a d e;exact⟨N,TX (λg=>mN Vm.kW nft g h k a) (funext λj=>funext λl=>funext λm=>funext λo=>funext λp=>funext λq=>funext λs=>funext λt=>funext λu=>funext λv=>funext λw=>funext λx=>funext λy=>funext λz=>funext λB=>funext λC=>funext λD=>funext λE=>funext λF=>funext λG=>funext λH=>funext λI=>funext λK=>funext λL=>funext λM=>funext λO=>funext λP=>funext λQ=>funext λR=>funext λS=>funext λT=>funext λU=>vI (E0 hS nnt ncC N f50 qR [true,true,false] []) (λn W=>nnf k n j l m o p q s t u v w x y z B C D (J (V h.Rx (h_ k)) 4) (J (V h.Rx (h_ k)) 5) (J (V h.Rx (h_ k)) 6) E F G H I K W L M O P Q R S T U) _ N) f⟩
def V_:Sum:= {ps:=[⟨QP.ct,true⟩],rs:=[⟨[.own 9 VB,.own 134 UB,.eN .i,.eN .i,.eN .i,.eN .i,.eN .i,.eN .i,.eN .i,.own 3 vL,.deep 138 [.i,.i,.sl vL] [3],.eN .i,.own 74 CR,.deep 32 [.i,.i,.i,.sl vL] [3],.own 77 UC,.own 4 sJ,.eN .i,.eN .bool,.own 3 vL,.own 147 nS,.own 151 xT,.eN .str,.own 3 vL,.own 170 Qn,.eN .bool,.own 9 VB,.own 3 vL,.own 3 vL,.eN .i,.eN .i,.eN .i,.eN .i,.eN .i],true⟩],fn:=λa=>(gA (QP.nd a 0),QP.enc (NL (QP.nd a 0)))}
def af:Ctx:=[(9,Rs),(42,wT),(50,qR),(51,P5)]
theorem neU:Wq hS af:=aU Ql (aU XZ (aU naR (aU nst Ns)))
def zJ:List (Nat×iT):=[(5, {cx:=[(1,.Ay),(2,.Ay),(3,.Ay),(13,.Ay),(14,.Ay)],boxes:=[(64,[]),(128,[]),(192,[])]})]
def QT:QP→zW:=(λa=>((true,QP.enc a):zW))
def i6(x b:Int)(c a:rM)(d e f g h j k:Int)(l m:rM)(o:Int)(p q r s:rM)(t:Int)(u:Bool)(v w y:rM)(z:Y)(A B:rM)(C:Bool)(D E F:rM)(G H I K L M N O P Q R S T U:Int)(W:Bool)(X:Y)(Z:Bool)(yn yo yp yq yr oe qz qA qB qk ql qm qC rk:Int)(tb:Bool)(qY:Y)(qZ:Bool)(rC rD rE rF rG:Int)(oD pq pD o7 oH pC pP pM pW rH rJ qc pX pY pZ rn:rM):CO:= {n:=50,sl:=[(1,.ptr 64 0),(2,.ptr 128 0),(3,.ptr 192 0),(13,D7 x),(14,D7 b)],hp:=[(64,.box 54 [.sl VB c,.sl UB a,D7 d,D7 e,D7 f,D7 g,D7 h,D7 j,D7 k,.sl vL l,.sl [.i,.i,.sl vL] m,D7 o,.sl CR p,.sl [.i,.i,.i,.sl vL] q,.sl UC r,.sl sJ s,D7 t,.bool u,.sl vL v,.sl nS w,.sl xT y,.str z,.sl vL A,.sl Qn B,.bool C,.sl VB D,.sl vL E,.sl vL F,D7 G,D7 H,D7 I,D7 K,D7 L]),(128,.box 54 [.nil,.nil,D7 M,D7 N,D7 O,D7 P,D7 Q,D7 R,D7 S,.nil,.nil,D7 T,.nil,.nil,.nil,.nil,D7 U,.bool W,.nil,.nil,.nil,.str X,.nil,.nil,.bool Z,.nil,.nil,.nil,D7 yn,D7 yo,D7 yp,D7 yq,D7 yr]),(192,.box 54 [.own 1329152,.own 1329153,D7 oe,D7 qz,D7 qA,D7 qB,D7 qk,D7 ql,D7 qm,.own 1329161,.own 1329162,D7 qC,.own 1329164,.own 1329165,.own 1329166,.own 1329167,D7 rk,.bool tb,.own 1329170,.own 1329171,.own 1329172,.str qY,.own 1329174,.own 1329175,.bool qZ,.own 1329177,.own 1329178,.own 1329179,D7 rC,D7 rD,D7 rE,D7 rF,D7 rG]),(1329152,.row 9 VB oD false true),(1329153,.row 134 UB pq false true),(1329161,.row 3 vL pD false true),(1329162,.deep 138 [.i,.i,.sl vL] [3] o7 none),(1329164,.row 74 CR oH false true),(1329165,.deep 32 [.i,.i,.i,.sl vL] [3] pC none),(1329166,.row 77 UC pP false true),(1329167,.row 4 sJ pM false true),(1329170,.row 3 vL pW false true),(1329171,.row 147 nS rH false true),(1329172,.row 151 xT rJ false true),(1329174,.row 3 vL qc false true),(1329175,.row 170 Qn pX false true),(1329177,.row 9 VB pY false true),(1329178,.row 3 vL pZ false true),(1329179,.row 3 vL rn false true)]}
noncomputable def v8(N:Nat):(CO→zW)→CO→zW:=HN hS af zJ N f18 V_ [true,true,true,false,true,false] []
theorem nm8(N:Nat)(x:Int)(M a:rM)(O P Q R S T U:Int)(W X:rM)(Z:Int)(L rr qH ri:rM)(sR:Int)(rm:Bool)(rj qu qS:rM)(qw:Y)(qP sK:rM)(uw:Bool)(sd se ru:rM)(sT sU sZ sV tU b2 Sb Sc Sd Se Sf Sg Sh Si:Int)(Sj:Bool)(yl:Y)(ym:Bool)(yn yo yp yq yr:Int)(ih:CO→zW)(b c d e f g h i j k:Int)(l:Bool)(m:Y)(n:Bool)(o p q r s:Int)(t u v w y z A B C D E F G H I K:rM):v8 N ih (i6 x b M a O P Q R S T U W X Z L rr qH ri sR rm rj qu qS qw qP sK uw sd se ru sT sU sZ sV tU b2 Sb Sc Sd Se Sf Sg Sh Si Sj yl ym yn yo yp yq yr c d e f g h i j k l m n o p q r s t u v w y z A B C D E F G H I K)=Nl Vm.kW QT x L (λb c d e f g h i j k l m n o p q r s t u v w y z A B C D E F G H I K=>ih (i6 x b M a O P Q R S T U W X Z L rr qH ri sR rm rj qu qS qw qP sK uw sd se ru sT sU sZ sV tU b2 Sb Sc Sd Se Sf Sg Sh Si Sj yl ym yn yo yp yq yr c d e f g h i j k l m n o p q r s t u v w y z A B C D E F G H I K)) b c d e f g h i j k l m n o p q r s t u v w y z A B C D E F G H I K:=by kernel_rfl
theorem nv0(N:Nat)(x:Int)(O a:rM)(P Q R S T U W:Int)(X Z:rM)(sQ:Int)(c rr qH ri:rM)(sR:Int)(rm:Bool)(rj qu qS:rM)(qw:Y)(qP sK:rM)(uw:Bool)(sd se ru:rM)(sT sU sZ sV tU b2 Sb Sc Sd Se Sf Sg Sh Si:Int)(Sj:Bool)(yl:Y)(ym:Bool)(yn yo yp yq yr:Int)(b:Nat):(λd e f g h i j k l m n o p q r s t u v w y z A B C D E F G H I K L M=>Vd (v8 N) b (i6 x d O a P Q R S T U W X Z sQ c rr qH ri sR rm rj qu qS qw qP sK uw sd se ru sT sU sZ sV tU b2 Sb Sc Sd Se Sf Sg Sh Si Sj yl ym yn yo yp yq yr e f g h i j k l m n o p q r s t u v w y z A B C D E F G H I K L M))=aq Vm.kW QT N x c b:=by
 induction b with
 | zero=>rfl
 | succ b ih=>
  funext d e f g h i j k l m n o p q r s t u v w y z A B C D E F G H I K L M;refine (nm8 N x O a P Q R S T U W X Z sQ c rr qH ri sR rm rj qu qS qw qP sK uw sd se ru sT sU sZ sV tU b2 Sb Sc Sd Se Sf Sg Sh Si Sj yl ym yn yo yp yq yr (Vd (v8 N) b) d e f g h i j k l m n o p q r s t u v w y z A B C D E F G H I K L M).trans ?_;rw[ih];rfl
theorem nd6(N:Nat)(h:QP):Xe hS af zJ N f18 V_ (h.enc++([]))=Bf Vm.kW QT N h:=by
 have b:Xe hS af zJ N f18 V_ (h.enc++([]))=J3 Vm.kW QT (λx a c d e f g i j k l m n o p q r s t u v w y z A B C D E F G H I K L M=>Vd (v8 N) N (i6 x c h.oa.nQ h.ei h.Tx.d5.nW h.Tx.d5.nA h.Tx.d5.ej h.Tx.d5.pj h.Tx.nM.nW h.Tx.nM.nA h.Tx.nM.d9 h.Tx.nM.oq h.Tx.nx h.Tx.en a h.oh h.nL h.n8 h.ec.N8 h.ec.n9 h.ec.pO h.ni.oQ h.ni.eb.nO h.ni.nV.eJ h.ni.nV.eb h.oI h.oU h.tB h.ox h.oV h.d4.ek h.d4.zN h.d4.oB h.d4.oZ h.d4.qE 0 0 0 0 0 0 0 0 0 false [] false 0 0 0 0 0 d e f g i j k l m n o p q r s t u v w y z A B C D E F G H I K L M)) h:=by kernel_rfl
 refine b.trans ?_;unfold Bf;have O:(λx a c d e f g i j k l m n o p q r s t u v w y z A B C D E F G H I K L M=>Vd (v8 N) N (i6 x c h.oa.nQ h.ei h.Tx.d5.nW h.Tx.d5.nA h.Tx.d5.ej h.Tx.d5.pj h.Tx.nM.nW h.Tx.nM.nA h.Tx.nM.d9 h.Tx.nM.oq h.Tx.nx h.Tx.en a h.oh h.nL h.n8 h.ec.N8 h.ec.n9 h.ec.pO h.ni.oQ h.ni.eb.nO h.ni.nV.eJ h.ni.nV.eb h.oI h.oU h.tB h.ox h.oV h.d4.ek h.d4.zN h.d4.oB h.d4.oZ h.d4.qE 0 0 0 0 0 0 0 0 0 false [] false 0 0 0 0 0 d e f g i j k l m n o p q r s t u v w y z A B C D E F G H I K L M))=(λx a=>aq Vm.kW QT N x a N):=by funext x a;exact nv0 N x h.oa.nQ h.ei h.Tx.d5.nW h.Tx.d5.nA h.Tx.d5.ej h.Tx.d5.pj h.Tx.nM.nW h.Tx.nM.nA h.Tx.nM.d9 h.Tx.nM.oq h.Tx.nx h.Tx.en a h.oh h.nL h.n8 h.ec.N8 h.ec.n9 h.ec.pO h.ni.oQ h.ni.eb.nO h.ni.nV.eJ h.ni.nV.eb h.oI h.oU h.tB h.ox h.oV h.d4.ek h.d4.zN h.d4.oB h.d4.oZ h.d4.qE 0 0 0 0 0 0 0 0 0 false [] false 0 0 0 0 0 N
 exact congrArg (λP=>J3 Vm.kW QT P h) O
theorem ncy:gk hS 18 V_:=by refine lH (A:=zJ) neU func18 λc (a:i_ (QP.ct++[]) c) aN=>?_;obtain⟨h,c,rfl,b,a⟩:=QP.nX (r:=_) a;obtain rfl:=R5 a;obtain⟨N,d⟩:=nnD Vm.kW QT h b aN;exact⟨N,((nd6 N h).trans d).trans (by kernel_rfl)⟩
def ncO:Sum:= {ps:=[⟨VB,false⟩],rs:=[⟨[.eN .str],false⟩,⟨[.eN .bool],false⟩],fn:=λa=>(AK (fJ a 0),[.str (ij (fJ a 0)).1]++[.bool (ij (fJ a 0)).2])}
theorem nzx:gk hS 171 ncO:=by refine ly (Γ:=[(94,CK),(105,PZ),(131,xU),(132,ae),(158,EX),(159,Nn),(160,qF),(161,Hb),(174,TU),(216,we),(218,AQ),(219,ZV)]) (aU npc (aU Gc (aU bz (aU lM (aU pF (aU nkT (aU lf (aU d8 (aU ndI (aU qU (aU nzg (aU NN Ns)))))))))))) func171 λa (b:i_ (VB) a) aN=>?_;obtain⟨t,rfl,_⟩:=T8 b;exact⟨0,BL (nk3 Vm.kW (λc d=>((true,[.str c]++[.bool d]):zW)) t aN)⟩
def ny4:Sum:= {ps:=[⟨[.sl UB],false⟩,⟨TV.ct,true⟩,⟨vL,false⟩,⟨jW.ct,true⟩],rs:=[⟨[.eN .i,.eN .i,.eN .i,.eN .i],true⟩,⟨[.own 9 VB],false⟩,⟨[.eN .i],false⟩],fn:=λa=>(true,jW.enc (l7 (Zc a 0) (TV.nd a 1) (J a 2) (jW.nd a 3)).1++[.sl (l7 (Zc a 0) (TV.nd a 1) (J a 2) (jW.nd a 3)).2.1]++[.int (l7 (Zc a 0) (TV.nd a 1) (J a 2) (jW.nd a 3)).2.2])}
theorem cpF:gk hS 102 ny4:=by refine ly (Γ:=[(57,Vq),(105,PZ),(122,d3),(168,Fk),(169,FW),(170,Qa),(171,ncO),(172,U32)]) (aU VS (aU Gc (aU YR (aU nEp (aU nwK (aU ntL (aU nzx (aU ncc Ns)))))))) func102 λc a _=>?_;replace a:i_ ((.sl UB)::(TV.ct++(.i::(jW.ct++[])))) c:=a;obtain⟨Z,c,rfl,_,a⟩:=dh a;obtain⟨m,c,rfl,d,a⟩:=TV.nX (r:=_) a;obtain⟨b,c,rfl,_,a⟩:=O_ a;obtain⟨r,c,rfl,_,a⟩:=jW.nX (r:=_) a;obtain rfl:=R5 a;exact⟨0,BL (nqK Vm.kW (λe f g=>((true,jW.enc e++[.sl f]++[.int g]):zW)) Z m b r d)⟩
def L1:Sum:= {ps:=[⟨[.sl UB],false⟩,⟨TV.ct,true⟩,⟨vL,false⟩,⟨jW.ct,true⟩],rs:=[⟨[.eN .i,.eN .i,.eN .i,.eN .i],true⟩,⟨[.own 9 VB],false⟩,⟨[.eN .i],false⟩,⟨[.eN .i],false⟩],fn:=λa=>(true,jW.enc (xI (Zc a 0) (TV.nd a 1) (J a 2) (jW.nd a 3)).1++[.sl (xI (Zc a 0) (TV.nd a 1) (J a 2) (jW.nd a 3)).2.1]++[.int (xI (Zc a 0) (TV.nd a 1) (J a 2) (jW.nd a 3)).2.2.1]++[.int (xI (Zc a 0) (TV.nd a 1) (J a 2) (jW.nd a 3)).2.2.2])}
def nmZ:Ctx:=[(102,ny4)]
theorem htA:Wq hS nmZ:=aU cpF Ns
def ndX:List (Nat×iT):=[(3, {cx:=[(0,.Ay),(2,.Ay),(5,.Ay),(7,.Ay),(8,.Ay),(12,.Ay),(13,.Ay),(14,.Ay)],boxes:=[(320,[]),(448,[]),(512,[])]})]
def np4:jW→rM→Int→Int→zW:=(λa b c d=>((true,jW.enc a++[.sl b]++[.int c]++[.int d]):zW))
def nrp(Z:rM)(a b c:Int)(h:rM)(j k l m o d e f:Int)(g:rM):CO:= {n:=45,sl:=[(0,.sl UB Z),(2,D7 a),(5,.ptr 320 0),(7,.ptr 448 0),(8,.ptr 512 0),(12,.own 640768),(13,D7 b),(14,D7 c)],hp:=[(320,.box 26 [.sl VB h]),(448,.box 29 [D7 j,D7 k,D7 l,D7 m]),(512,.box 29 [D7 o,D7 d,D7 e,D7 f]),(640768,.row 9 VB g false true)]}
theorem nxo:gk hS 44 L1:=by refine lH (A:=ndX) htA func44 λc b _=>?_;replace b:i_ ((.sl UB)::(TV.ct++(.i::(jW.ct++[])))) c:=b;obtain⟨Z,c,rfl,_,b⟩:=dh b;obtain⟨m,c,rfl,_,b⟩:=TV.nX (r:=_) b;obtain⟨a,c,rfl,_,b⟩:=O_ b;obtain⟨r,c,rfl,_,b⟩:=jW.nX (r:=_) b;obtain rfl:=R5 b;obtain⟨N,g⟩:=nwU Vm.kW np4 Z m a r;exact⟨N,TX (λh=>Sr Vm.kW np4 h Z m a r) (funext λj=>Ao (HN hS nmZ ndX N f44 L1 [true,true,true,false] []) (λd e k l n o f=>nrp Z a d e j k l n o 0 0 0 0 f) _ N) g⟩
def G0:Sum:= {ps:=[⟨Sx.ct,true⟩,⟨vL,false⟩],rs:=[⟨[.eN .i,.eN .i,.eN .i,.eN .i,.eN .i,.eN .i,.eN .i,.own 3 vL,.deep 138 [.i,.i,.sl vL] [3],.eN .i],true⟩,⟨[.own 3 vL],false⟩],fn:=λa=>(U_ (Sx.nd a 0) (J a 10),Sx.enc (Vr (Sx.nd a 0) (J a 10)).1++[.sl (Vr (Sx.nd a 0) (J a 10)).2])}
def nkP:Ctx:=[(23,xN),(25,Cy),(58,Bx),(87,Tz),(103,pL)]
theorem byX:Wq hS nkP:=aU TI (aU vN (aU ov (aU xo (aU nj9 Ns))))
def nmk:List (Nat×iT):=[(6, {cx:=[(1,.Ay),(2,.Ay),(4,.Ay),(6,.Ay),(7,.Ay),(28,.Ay),(29,.Ay),(30,.Ay)],boxes:=[(128,[]),(256,[]),(384,[])]})]
def nzw:Sx→rM→zW:=(λa b=>((true,Sx.enc a++[.sl b]):zW))
def ndg(n:Int)(x:rM)(t u a b c d e f g:Int)(h j:rM)(v w k l m o p q r y z A B C D E F:Int)(s G H:rM):CO:= {n:=57,sl:=[(1,D7 n),(2,.ptr 128 0),(4,.ptr 256 0),(6,.ptr 384 0),(7,.own 640448),(28,.sl [.i,.i,.sl vL] x),(29,D7 t),(30,D7 u)],hp:=[(128,.box 35 [D7 a,D7 b,D7 c,D7 d,D7 e,D7 f,D7 g,.sl vL h,.sl [.i,.i,.sl vL] j,D7 v]),(256,.box 35 [D7 w,D7 k,D7 l,D7 m,D7 o,D7 p,D7 q,.nil,.nil,D7 r]),(384,.box 35 [D7 y,D7 z,D7 A,D7 B,D7 C,D7 D,D7 E,.own 1378311,.own 1378312,D7 F]),(640448,.row 3 vL s false true),(1378311,.row 3 vL G false true),(1378312,.deep 138 [.i,.i,.sl vL] [3] H none)]}
theorem nbS:gk hS 45 G0:=by refine lH (A:=nmk) byX func45 λd (a:i_ (Sx.ct++vL) d) aN=>?_;obtain⟨q,d,rfl,_,a⟩:=Sx.nX (r:=_) a;obtain⟨n,rfl,_⟩:=sX a;obtain⟨N,e⟩:=nDW Vm.kW nzw q n aN;exact⟨N,TX (λf=>sE Vm.kW nzw f q n) (funext λx=>funext λg=>funext λb=>funext λh=>funext λj=>funext λk=>funext λl=>funext λm=>nb6 (HN hS nkP nmk N f45 G0 [true,true,true,true,false,true,false] []) (λo p s t c u=>ndg n x g o q.d5.nW q.d5.nA q.d5.ej q.d5.pj q.nM.nW q.nM.nA q.nM.d9 q.nM.oq b q.en 0 0 0 0 0 0 0 0 h j k l p s t m c u ((cp q).nx)) _ N) e⟩
def nEg:Sum:= {ps:=[⟨QP.ct,true⟩],rs:=[⟨[.own 9 VB,.own 134 UB,.eN .i,.eN .i,.eN .i,.eN .i,.eN .i,.eN .i,.eN .i,.own 3 vL,.deep 138 [.i,.i,.sl vL] [3],.eN .i,.own 74 CR,.deep 32 [.i,.i,.i,.sl vL] [3],.own 77 UC,.own 4 sJ,.eN .i,.eN .bool,.own 3 vL,.own 147 nS,.own 151 xT,.eN .str,.own 3 vL,.own 170 Qn,.eN .bool,.own 9 VB,.own 3 vL,.own 3 vL,.eN .i,.eN .i,.eN .i,.eN .i,.eN .i],true⟩],fn:=λa=>(zD (QP.nd a 0),QP.enc (N3 (QP.nd a 0)))}
theorem nzZ:gk hS 16 nEg:=by refine ly (Γ:=[(9,Rs),(42,wT),(44,L1),(45,G0)]) (aU Ql (aU XZ (aU nxo (aU nbS Ns)))) func16 λb (a:i_ (QP.ct++[]) b) aN=>?_;obtain⟨h,b,rfl,_,a⟩:=QP.nX (r:=_) a;obtain rfl:=R5 a;exact⟨0,BL (frF Vm.kW (λc=>((true,QP.enc c):zW)) h aN)⟩
def naY:Sum:= {ps:=[⟨Tj.ct,true⟩],rs:=[⟨[.eN .i,.eN .i,.eN .i,.eN .i,.eN .bool,.eN .bool],true⟩,⟨[.eN .bool],false⟩],fn:=λa=>(true,Tj.enc (Uj (Tj.nd a 0)).1++[.bool (Uj (Tj.nd a 0)).2])}
theorem nm5:gk hS 53 naY:=by refine ly (Γ:=[(28,xw)]) (aU Wh Ns) func53 λb (a:i_ (Tj.ct++[]) b) _=>?_;obtain⟨v,b,rfl,_,a⟩:=Tj.nX (r:=_) a;obtain rfl:=R5 a;exact⟨0,BL (nud (λc d=>((true,Tj.enc c++[.bool d]):zW)) v)⟩
def nl5:Sum:= {ps:=[⟨Tj.ct,true⟩],rs:=[⟨[.eN .i,.eN .i,.eN .i,.eN .i,.eN .bool,.eN .bool],true⟩],fn:=λa=>(true,Tj.enc (Gi (Tj.nd a 0)))}
theorem nxa:gk hS 55 nl5:=by refine ly (Γ:=[(28,xw),(119,Vg)]) (aU Wh (aU G7 Ns)) func55 λb (a:i_ (Tj.ct++[]) b) _=>?_;obtain⟨v,b,rfl,_,a⟩:=Tj.nX (r:=_) a;obtain rfl:=R5 a;exact⟨0,BL (nbl (λc=>((true,Tj.enc c):zW)) v)⟩
def nvA:Sum:= {ps:=[⟨VB,false⟩],rs:=[⟨[.eN .i,.eN .i,.eN .i,.eN .i,.eN .i],true⟩,⟨[.eN .i],false⟩,⟨[.eN .bool],false⟩],fn:=λa=>(true,F1.enc (Zr (fJ a 0)).1++[.int (Zr (fJ a 0)).2.1]++[.bool (Zr (fJ a 0)).2.2])}
theorem nhw:gk hS 67 nvA:=by refine ly (Γ:=[(131,xU),(132,ae)]) (aU bz (aU lM Ns)) func67 λa (b:i_ (VB) a) _=>?_;obtain⟨s,rfl,_⟩:=T8 b;exact⟨0,BL (nwx (λc d e=>((true,F1.enc c++[.int d]++[.bool e]):zW)) s)⟩
def nEe:Sum:= {ps:=[⟨[.sl UB],false⟩,⟨TV.ct,true⟩,⟨vL,false⟩,⟨QR.ct,true⟩],rs:=[⟨[.eN .i,.eN .i,.eN .i,.eN .i,.eN .i],true⟩,⟨[.eN .i,.eN .i,.eN .i],true⟩,⟨[.eN .bool],false⟩],fn:=λa=>(true,F1.enc (Tt (Zc a 0) (TV.nd a 1) (J a 2) (QR.nd a 3)).1++QR.enc (Tt (Zc a 0) (TV.nd a 1) (J a 2) (QR.nd a 3)).2.1++[.bool (Tt (Zc a 0) (TV.nd a 1) (J a 2) (QR.nd a 3)).2.2])}
theorem ntg:gk hS 30 nEe:=by refine ly (Γ:=[(59,az),(65,WC),(66,Tw),(67,nvA),(68,eQ)]) (aU zQ (aU Ob (aU nDd (aU nhw (aU niA Ns))))) func30 λc a _=>?_;replace a:i_ ((.sl UB)::(TV.ct++(.i::(QR.ct++[])))) c:=a;obtain⟨Z,c,rfl,_,a⟩:=dh a;obtain⟨m,c,rfl,_,a⟩:=TV.nX (r:=_) a;obtain⟨b,c,rfl,_,a⟩:=O_ a;obtain⟨q,c,rfl,_,a⟩:=QR.nX (r:=_) a;obtain rfl:=R5 a;exact⟨0,BL (nrg Vm.kW (λd e f=>((true,F1.enc d++QR.enc e++[.bool f]):zW)) Z m b q)⟩
def ep:Sum:= {ps:=[⟨[.sl Qn],false⟩,⟨SA.ct,true⟩],rs:=[⟨[.eN .i],false⟩],fn:=λa=>(true,[.int (El (Zc a 0) (SA.nd a 1))])}
def nnU:List (Nat×iT):=[(2, {cx:=[(3,.Ay),(7,.Ay),(8,.Ay),(9,.Ay)],boxes:=[(192,[])]})]
def ngM:Int→zW:=(λa=>((true,[.int a]):zW))
def nBd(Z:rM)(a b c d e f g:Int):CO:= {n:=20,sl:=[(3,.ptr 192 0),(7,.sl Qn Z),(8,D7 a),(9,D7 b)],hp:=[(192,.box 149 [D7 c,D7 d,D7 e,D7 f,D7 g])]}
theorem nAy:gk hS 229 ep:=by refine lH (A:=nnU) Ns func229 λb (a:i_ ((.sl Qn)::(SA.ct++[])) b) _=>?_;obtain⟨Z,b,rfl,c,a⟩:=dh a;obtain⟨f,b,rfl,_,a⟩:=SA.nX (r:=_) a;obtain rfl:=R5 a;obtain⟨N,d⟩:=nqY Vm.kW ngM Z f c;exact⟨N,TX (λe=>zz Vm.kW ngM e Z f) (funext λg=>funext λh=>funext λj=>funext λk=>funext λl=>funext λm=>z_ (HN hS [] nnU N f229 ep [true,false,true,false] []) (λn=>nBd Z g n h j k l m) _ N) d⟩
def nnx:List (Nat×iT):=[(2, {cx:=[(0,.Ay),(3,.Ay),(5,.Ay)],boxes:=[(192,[])]})]
def njM:Int→zW:=(λa=>((true,[.int a]):zW))
def nt9(Z:rM)(k a b c d e:Int):CO:= {n:=20,sl:=[(0,.sl Qn Z),(3,.ptr 192 0),(5,D7 k)],hp:=[(192,.box 149 [D7 a,D7 b,D7 c,D7 d,D7 e])]}
theorem nC9:gk hS 84 ep:=by refine lH (A:=nnx) Ns func84 λb (a:i_ ((.sl Qn)::(SA.ct++[])) b) _=>?_;obtain⟨Z,b,rfl,c,a⟩:=dh a;obtain⟨f,b,rfl,_,a⟩:=SA.nX (r:=_) a;obtain rfl:=R5 a;obtain⟨N,d⟩:=npX Vm.kW njM Z f c;exact⟨N,TX (λe=>Yu Vm.kW njM e Z f) (funext λg=>funext λh=>funext λj=>funext λl=>funext λm=>z_ (HN hS [] nnx N f84 ep [true,false,true,false] []) (λk=>nt9 Z k g h j l m) _ N) d⟩
def nkf:Sum:= {ps:=[⟨[.sl Qn],false⟩,⟨oY.ct,true⟩],rs:=[⟨[.own 170 Qn],false⟩],fn:=λa=>(OA (Zc a 0) (oY.nd a 1),[.sl (yE (Zc a 0) (oY.nd a 1))])}
theorem npe:gk hS 185 nkf:=by refine ly (Γ:=[(60,uM),(91,Yy),(110,qO),(115,cV),(161,Hb),(229,ep)]) (aU DQ (aU kX (aU dm (aU nm (aU d8 (aU nAy Ns)))))) func185 λb (a:i_ ((.sl Qn)::(oY.ct++[])) b) aN=>?_;obtain⟨Z,b,rfl,d,a⟩:=dh a;obtain⟨p,b,rfl,c,a⟩:=oY.nX (r:=_) a;obtain rfl:=R5 a;exact⟨0,BL (nyb Vm.kW (λe=>((true,[.sl e]):zW)) Z p d c aN)⟩
def Y0:Sum:= {ps:=[⟨[.sl UB],false⟩,⟨TV.ct,true⟩,⟨vL,false⟩,⟨pE.ct,true⟩,⟨Cf.ct,true⟩,⟨[.sl Qn],false⟩,⟨vL,false⟩],rs:=[⟨[.own 9 VB],true⟩,⟨[.eN .i,.eN .i,.eN .i,.eN .i,.eN .i,.eN .i,.eN .i,.eN .i,.eN .i,.eN .i,.eN .i,.eN .i,.eN .i,.eN .i,.eN .i,.eN .i,.eN .i,.eN .i,.eN .i,.eN .i,.eN .i,.eN .i,.eN .i,.eN .i,.eN .i,.eN .str,.eN .i,.eN .i,.eN .bool,.eN .i],true⟩,⟨[.eN .i,.eN .i,.eN .i,.own 3 vL],true⟩,⟨[.own 170 Qn],false⟩,⟨[.eN .i],false⟩],fn:=λa=>(Nx (Zc a 0) (TV.nd a 1) (J a 2) (pE.nd a 3) (Cf.nd a 33) (Zc a 37) (J a 38),TV.enc (nz (Zc a 0) (TV.nd a 1) (J a 2) (pE.nd a 3) (Cf.nd a 33) (Zc a 37) (J a 38)).1++pE.enc (nz (Zc a 0) (TV.nd a 1) (J a 2) (pE.nd a 3) (Cf.nd a 33) (Zc a 37) (J a 38)).2.1++Cf.enc (nz (Zc a 0) (TV.nd a 1) (J a 2) (pE.nd a 3) (Cf.nd a 33) (Zc a 37) (J a 38)).2.2.1++[.sl (nz (Zc a 0) (TV.nd a 1) (J a 2) (pE.nd a 3) (Cf.nd a 33) (Zc a 37) (J a 38)).2.2.2.1]++[.int (nz (Zc a 0) (TV.nd a 1) (J a 2) (pE.nd a 3) (Cf.nd a 33) (Zc a 37) (J a 38)).2.2.2.2])}
def nck:Ctx:=[(1125899906842645,iV),(25,Cy),(26,ml),(27,Yf),(30,nEe),(58,Bx),(65,WC),(85,Qd),(88,Nc),(91,Yy),(105,PZ),(163,qG),(185,nkf),(186,IA)]
theorem nCT:Wq hS nck:=aU XH (aU vN (aU qd (aU Nw (aU ntg (aU ov (aU Ob (aU HB (aU oG (aU kX (aU Gc (aU zG (aU npe (aU nvS Ns)))))))))))))
def nka:List (Nat×iT):=[(5, {cx:=[(0,.Ay),(2,.Ay),(6,.Ay),(10,.Ay),(14,.Ay),(15,.Ay),(16,.Ay),(19,.Ay),(20,.Ay),(21,.Ay),(22,.Ay)],boxes:=[(512,[]),(640,[]),(704,[]),(896,[]),(960,[]),(1024,[]),(1216,[]),(1280,[])]})]
def nuu:TV→pE→Cf→rM→Int→zW:=(λa b c d e=>((true,TV.enc a++pE.enc b++Cf.enc c++[.sl d]++[.int e]):zW))
def nAg(Z:rM)(a b n:Int)(sB:rM)(c d e f g h j k l Us m o p q r s t u v w x y z A B:Int)(C:Y)(D E:Int)(F:Bool)(G v9 uV tT:Int)(uQ:rM)(H I K L M N O P Q R S T U W X nDq nDr nDs nDt nDu nDv nDw nDx nDy nDz:Int)(nDA:Y)(nDB nDC:Int)(nDD:Bool)(nDE b16 nD7 nD8 vf rT rU:Int)(all oD tS:rM):CO:= {n:=122,sl:=[(0,.sl UB Z),(2,D7 a),(6,D7 b),(10,.ptr 640 0),(14,.ptr 896 0),(15,.ptr 960 0),(16,.ptr 1024 0),(19,.ptr 1216 0),(20,.ptr 1280 0),(21,.own 641344),(22,D7 n)],hp:=[(512,.box 26 [.sl VB sB]),(640,.box 74 [D7 c,D7 d,D7 e,D7 f,D7 g,D7 h,D7 j,D7 k,D7 l,D7 Us,D7 m,D7 o,D7 p,D7 q,D7 r,D7 s,D7 t,D7 u,D7 v,D7 w,D7 x,D7 y,D7 z,D7 A,D7 B,.str C,D7 D,D7 E,.bool F,D7 G]),(704,.box 32 [D7 v9,D7 uV,D7 tT,.sl vL uQ]),(896,.box 26 [.nil]),(960,.box 74 [D7 H,D7 I,D7 K,D7 L,D7 M,D7 N,D7 O,D7 P,D7 Q,D7 R,D7 S,D7 T,D7 U,D7 W,D7 X,D7 nDq,D7 nDr,D7 nDs,D7 nDt,D7 nDu,D7 nDv,D7 nDw,D7 nDx,D7 nDy,D7 nDz,.str nDA,D7 nDB,D7 nDC,.bool nDD,D7 nDE]),(1024,.box 32 [D7 b16,D7 nD7,D7 nD8,.nil]),(1216,.box 26 [.own 1591296]),(1280,.box 32 [D7 vf,D7 rT,D7 rU,.own 1607683]),(641344,.row 170 Qn all false true),(1591296,.row 9 VB oD false true),(1607683,.row 3 vL tS false true)]}
theorem ns_:gk hS 120 Y0:=by refine lH (A:=nka) nCT func120 λe d S=>?_;replace d:i_ ((.sl UB)::(TV.ct++(.i::(pE.ct++(Cf.ct++[.sl Qn,.i]))))) e:=d;obtain⟨Z,e,rfl,_,d⟩:=dh d;obtain⟨m,e,rfl,_,d⟩:=TV.nX (r:=_) d;obtain⟨a,e,rfl,_,d⟩:=O_ d;obtain⟨q,e,rfl,_,d⟩:=pE.nX (r:=_) d;obtain⟨p,e,rfl,_,d⟩:=Cf.nX (r:=_) d;obtain⟨c,e,rfl,_,d⟩:=dh d;obtain⟨b,rfl,_⟩:=sX d;obtain⟨N,T⟩:=nqZ Vm.kW nuu Z m a q p c b S;exact⟨N,TX (λU=>Yw Vm.kW nuu U Z m a q p c b) (funext λf=>funext λg=>funext λh=>funext λj=>funext λk=>funext λl=>funext λo=>funext λs=>funext λt=>funext λu=>funext λv=>funext λw=>funext λx=>funext λy=>funext λz=>funext λB=>funext λC=>funext λD=>funext λE=>funext λF=>funext λG=>funext λH=>funext λI=>funext λK=>funext λL=>funext λM=>funext λO=>funext λW=>nCL (HN hS nck nka N f120 Y0 [true,true,true,true,false,false] []) (λn P Q X vf rT rU R tS=>nAg Z a b n m.nQ f g h j k l o P Q X s t u v w x y z B C D E F G H I K L M O p.nW p.nA p.d9 p.oq 0 0 0 0 0 0 0 0 0 0 0 0 0 0 0 0 0 0 0 0 0 0 0 0 0 [] 0 0 false 0 0 0 0 vf rT rU R W tS) _ N) T⟩
def nq9:Sum:= {ps:=[⟨QP.ct,true⟩,⟨vL,false⟩,⟨vL,false⟩],rs:=[⟨[.eN .i],false⟩],fn:=λa=>(kV (QP.nd a 0) (J a 33) (J a 34),[.int (YK (QP.nd a 0) (J a 33) (J a 34)).1]++QP.enc (YK (QP.nd a 0) (J a 33) (J a 34)).2),ms:=[some (.cZ 54 [.flat 9,.flat 134,.flat 3,.deep 138 [3],.flat 74,.deep 32 [3],.flat 77,.flat 4,.flat 3,.flat 147,.flat 151,.flat 3,.flat 170,.flat 9,.flat 3,.flat 3]),none,none]}
def na7:Ctx:=[(1125899906842666,iV),(120,Y0)]
theorem nvn:Wq hS na7:=aU XH (aU ns_ Ns)
theorem neD:UY hS 54 nq9:=by refine RE (A:=[]) nvn func54 λc b e=>?_;replace b:i_ (QP.ct++bG) c:=b;obtain⟨h,c,rfl,d,b⟩:=QP.nX (r:=_) b;obtain⟨k,c,rfl,_,b⟩:=O_ b;obtain⟨a,rfl,_⟩:=sX b;exact⟨0,BL (nfD Vm.kW (λf g=>((true,[.int f]++QP.enc g):zW)) h k a d e)⟩
def CB:Sum:= {ps:=[⟨QP.ct,true⟩,⟨vL,false⟩],rs:=[⟨[.own 9 VB,.own 134 UB,.eN .i,.eN .i,.eN .i,.eN .i,.eN .i,.eN .i,.eN .i,.own 3 vL,.deep 138 [.i,.i,.sl vL] [3],.eN .i,.own 74 CR,.deep 32 [.i,.i,.i,.sl vL] [3],.own 77 UC,.own 4 sJ,.eN .i,.eN .bool,.own 3 vL,.own 147 nS,.own 151 xT,.eN .str,.own 3 vL,.own 170 Qn,.eN .bool,.own 9 VB,.own 3 vL,.own 3 vL,.eN .i,.eN .i,.eN .i,.eN .i,.eN .i],true⟩,⟨[.eN .i],false⟩],fn:=λa=>(fe (QP.nd a 0) (J a 33),QP.enc (ua (QP.nd a 0) (J a 33)).1++[.int (ua (QP.nd a 0) (J a 33)).2])}
def bL:Ctx:=[(9,Rs),(25,Cy),(42,wT),(53,naY),(54,nq9),(55,nl5)]
theorem nCm:Wq hS bL:=aU Ql (aU vN (aU XZ (aU nm5 (aU neD (aU nxa Ns)))))
def Mv:List (Nat×iT):=[(6, {cx:=[(1,.Ay),(4,.Ay),(6,.Ay),(7,.Ay),(25,.Ay),(26,.Ay)],boxes:=[(128,[]),(256,[]),(384,[])]})]
def Ty:QP→Int→zW:=(λa b=>((true,QP.enc a++[.int b]):zW))
def YV(a b x v:Int)(w c:rM)(y z A B C D E:Int)(F G:rM)(H:Int)(I K L M:rM)(N:Int)(O:Bool)(P Q R:rM)(S:Y)(T U:rM)(W:Bool)(X Z ru:rM)(sT sU sZ sV tU b4 d e f g h j k l:Int)(m:Bool)(o:Y)(p:Bool)(q r s t u oe qz qA qB qk ql qm qC rk:Int)(tb:Bool)(qY:Y)(qZ:Bool)(rC rD rE rF rG:Int)(oD pq pD o7 oH pC pP pM pW rH rJ qc pX pY pZ rn:rM):CO:= {n:=80,sl:=[(1,D7 a),(4,.ptr 256 0),(6,.ptr 384 0),(7,D7 b),(25,D7 x),(26,D7 v)],hp:=[(128,.box 54 [.sl VB w,.sl UB c,D7 y,D7 z,D7 A,D7 B,D7 C,D7 D,D7 E,.sl vL F,.sl [.i,.i,.sl vL] G,D7 H,.sl CR I,.sl [.i,.i,.i,.sl vL] K,.sl UC L,.sl sJ M,D7 N,.bool O,.sl vL P,.sl nS Q,.sl xT R,.str S,.sl vL T,.sl Qn U,.bool W,.sl VB X,.sl vL Z,.sl vL ru,D7 sT,D7 sU,D7 sZ,D7 sV,D7 tU]),(256,.box 54 [.nil,.nil,D7 b4,D7 d,D7 e,D7 f,D7 g,D7 h,D7 j,.nil,.nil,D7 k,.nil,.nil,.nil,.nil,D7 l,.bool m,.nil,.nil,.nil,.str o,.nil,.nil,.bool p,.nil,.nil,.nil,D7 q,D7 r,D7 s,D7 t,D7 u]),(384,.box 54 [.own 1378304,.own 1378305,D7 oe,D7 qz,D7 qA,D7 qB,D7 qk,D7 ql,D7 qm,.own 1378313,.own 1378314,D7 qC,.own 1378316,.own 1378317,.own 1378318,.own 1378319,D7 rk,.bool tb,.own 1378322,.own 1378323,.own 1378324,.str qY,.own 1378326,.own 1378327,.bool qZ,.own 1378329,.own 1378330,.own 1378331,D7 rC,D7 rD,D7 rE,D7 rF,D7 rG]),(1378304,.row 9 VB oD false true),(1378305,.row 134 UB pq false true),(1378313,.row 3 vL pD false true),(1378314,.deep 138 [.i,.i,.sl vL] [3] o7 none),(1378316,.row 74 CR oH false true),(1378317,.deep 32 [.i,.i,.i,.sl vL] [3] pC none),(1378318,.row 77 UC pP false true),(1378319,.row 4 sJ pM false true),(1378322,.row 3 vL pW false true),(1378323,.row 147 nS rH false true),(1378324,.row 151 xT rJ false true),(1378326,.row 3 vL qc false true),(1378327,.row 170 Qn pX false true),(1378329,.row 9 VB pY false true),(1378330,.row 3 vL pZ false true),(1378331,.row 3 vL rn false true)]}
noncomputable def ZH(N:Nat):(CO→zW)→CO→zW:=HN hS bL Mv N f20 CB [true,true,true,true,false,true,false] []
theorem nf5(N:Nat)(a x:Int)(Ny c:rM)(Nz NA NB NC ND NF NG:Int)(sP wO:rM)(sQ:Int)(qI rr qH ri:rM)(sR:Int)(rm:Bool)(rj qu qS:rM)(qw:Y)(qP sK:rM)(uw:Bool)(sd se ru:rM)(sT sU sZ sV tU b4 d e f g h i j k:Int)(l:Bool)(m:Y)(n:Bool)(o p q r s:Int)(ih:CO→zW)(b t u v w y z A B C D:Int)(E:Bool)(F:Y)(G:Bool)(H I K L M:Int)(O P Q R S T U W X Z rJ qc pX pY pZ rn:rM):ZH N ih (YV a b x t Ny c Nz NA NB NC ND NF NG sP wO sQ qI rr qH ri sR rm rj qu qS qw qP sK uw sd se ru sT sU sZ sV tU b4 d e f g h i j k l m n o p q r s u v w y z A B C D E F G H I K L M O P Q R S T U W X Z rJ qc pX pY pZ rn)=WZ Vm.kW Ty a x (λb t u v w y z A B C D E F G H I K L M O P Q R S T U W X Z rJ qc pX pY pZ rn=>ih (YV a b x t Ny c Nz NA NB NC ND NF NG sP wO sQ qI rr qH ri sR rm rj qu qS qw qP sK uw sd se ru sT sU sZ sV tU b4 d e f g h i j k l m n o p q r s u v w y z A B C D E F G H I K L M O P Q R S T U W X Z rJ qc pX pY pZ rn)) b t u v w y z A B C D E F G H I K L M O P Q R S T U W X Z rJ qc pX pY pZ rn:=by kernel_rfl
theorem ndb(N:Nat)(a x:Int)(Ny c:rM)(Nz NA NB NC ND NF NG:Int)(sP wO:rM)(sQ:Int)(qI rr qH ri:rM)(sR:Int)(rm:Bool)(rj qu qS:rM)(qw:Y)(qP sK:rM)(uw:Bool)(sd se ru:rM)(sT sU sZ sV tU b4 d e f g h i j k:Int)(l:Bool)(m:Y)(n:Bool)(o p q r s:Int)(t:Nat):(λb u v w y z A B C D E F G H I K L M O P Q R S T U W X Z rH rJ qc pX pY pZ rn=>Vd (ZH N) t (YV a b x u Ny c Nz NA NB NC ND NF NG sP wO sQ qI rr qH ri sR rm rj qu qS qw qP sK uw sd se ru sT sU sZ sV tU b4 d e f g h i j k l m n o p q r s v w y z A B C D E F G H I K L M O P Q R S T U W X Z rH rJ qc pX pY pZ rn))=RV Vm.kW Ty N a x t:=by
 induction t with
 | zero=>rfl
 | succ t ih=>
  funext b u v w y z A B C D E F G H I K L M O P Q R S T U W X Z rH rJ qc pX pY pZ rn;refine (nf5 N a x Ny c Nz NA NB NC ND NF NG sP wO sQ qI rr qH ri sR rm rj qu qS qw qP sK uw sd se ru sT sU sZ sV tU b4 d e f g h i j k l m n o p q r s (Vd (ZH N) t) b u v w y z A B C D E F G H I K L M O P Q R S T U W X Z rH rJ qc pX pY pZ rn).trans ?_;rw[ih];rfl
theorem nrK(N:Nat)(h:QP)(a:Int):Xe hS bL Mv N f20 CB (h.enc++(.int a::([])))=xv Vm.kW Ty N h a:=by
 have c:Xe hS bL Mv N f20 CB (h.enc++(.int a::([])))=Hh Vm.kW Ty (λx b d e f g i j k l m n o p q r s t u v w y z A B C D E F G H I K L M O=>Vd (ZH N) N (YV a b x d h.oa.nQ h.ei h.Tx.d5.nW h.Tx.d5.nA h.Tx.d5.ej h.Tx.d5.pj h.Tx.nM.nW h.Tx.nM.nA h.Tx.nM.d9 h.Tx.nM.oq h.Tx.nx h.Tx.en h.Rx h.oh h.nL h.n8 h.ec.N8 h.ec.n9 h.ec.pO h.ni.oQ h.ni.eb.nO h.ni.nV.eJ h.ni.nV.eb h.oI h.oU h.tB h.ox h.oV h.d4.ek h.d4.zN h.d4.oB h.d4.oZ h.d4.qE 0 0 0 0 0 0 0 0 0 false [] false 0 0 0 0 0 e f g i j k l m n o p q r s t u v w y z A B C D E F G H I K L M O)) h a:=by kernel_rfl
 refine c.trans ?_;unfold xv;have P:(λx b d e f g i j k l m n o p q r s t u v w y z A B C D E F G H I K L M O=>Vd (ZH N) N (YV a b x d h.oa.nQ h.ei h.Tx.d5.nW h.Tx.d5.nA h.Tx.d5.ej h.Tx.d5.pj h.Tx.nM.nW h.Tx.nM.nA h.Tx.nM.d9 h.Tx.nM.oq h.Tx.nx h.Tx.en h.Rx h.oh h.nL h.n8 h.ec.N8 h.ec.n9 h.ec.pO h.ni.oQ h.ni.eb.nO h.ni.nV.eJ h.ni.nV.eb h.oI h.oU h.tB h.ox h.oV h.d4.ek h.d4.zN h.d4.oB h.d4.oZ h.d4.qE 0 0 0 0 0 0 0 0 0 false [] false 0 0 0 0 0 e f g i j k l m n o p q r s t u v w y z A B C D E F G H I K L M O))=(λx=>RV Vm.kW Ty N a x N):=by funext x;exact ndb N a x h.oa.nQ h.ei h.Tx.d5.nW h.Tx.d5.nA h.Tx.d5.ej h.Tx.d5.pj h.Tx.nM.nW h.Tx.nM.nA h.Tx.nM.d9 h.Tx.nM.oq h.Tx.nx h.Tx.en h.Rx h.oh h.nL h.n8 h.ec.N8 h.ec.n9 h.ec.pO h.ni.oQ h.ni.eb.nO h.ni.nV.eJ h.ni.nV.eb h.oI h.oU h.tB h.ox h.oV h.d4.ek h.d4.zN h.d4.oB h.d4.oZ h.d4.qE 0 0 0 0 0 0 0 0 0 false [] false 0 0 0 0 0 N
 exact congrArg (λQ=>Hh Vm.kW Ty Q h a) P
theorem nri:gk hS 20 CB:=by refine lH (A:=Mv) nCm func20 λd (b:i_ (QP.ct++vL) d) aN=>?_;obtain⟨h,d,rfl,c,b⟩:=QP.nX (r:=_) b;obtain⟨a,rfl,_⟩:=sX b;obtain⟨N,e⟩:=nCx Vm.kW Ty h a c aN;exact⟨N,((nrK N h a).trans e).trans (by kernel_rfl)⟩
def Fc:Sum:= {ps:=[⟨VB,false⟩],rs:=[⟨[.eN .str],false⟩,⟨[.eN .bool],false⟩],fn:=λa=>(E_ (fJ a 0),[.str (bE (fJ a 0)).1]++[.bool (bE (fJ a 0)).2])}
theorem nbj:gk hS 104 Fc:=by refine ly (Γ:=[(173,zx)]) (aU spN Ns) func104 λa (b:i_ (VB) a) aN=>?_;obtain⟨s,rfl,_⟩:=T8 b;exact⟨0,BL (nnu Vm.kW (λc d=>((true,[.str c]++[.bool d]):zW)) s aN)⟩
theorem nrq:gk hS 81 Fc:=by refine ly (Γ:=[(71,zx)]) (aU nA2 Ns) func81 λa (b:i_ (VB) a) aN=>?_;obtain⟨s,rfl,_⟩:=T8 b;exact⟨0,BL (nng Vm.kW (λc d=>((true,[.str c]++[.bool d]):zW)) s aN)⟩
def nfA:Sum:= {ps:=[⟨AP.ct,true⟩,⟨oY.ct,true⟩],rs:=[⟨[.eN .bool],false⟩],fn:=λa=>(true,[.bool (yf (AP.nd a 0) (oY.nd a 3))])}
theorem noL:gk hS 47 nfA:=by refine ly (Γ:=[(24,Cz),(107,Yz)]) (aU nhK (aU nfV Ns)) func47 λb (a:i_ (AP.ct++(oY.ct++[])) b) _=>?_;obtain⟨f,b,rfl,_,a⟩:=AP.nX (r:=_) a;obtain⟨p,b,rfl,_,a⟩:=oY.nX (r:=_) a;obtain rfl:=R5 a;exact⟨0,BL (njd (λc=>((true,[.bool c]):zW)) f p)⟩
def nup:Sum:= {ps:=[⟨vL,false⟩,⟨vL,false⟩,⟨vL,false⟩],rs:=[⟨[.eN .bool],false⟩],fn:=λa=>(mv (J a 0) (J a 1) (J a 2),[.bool (Gh (J a 0) (J a 1) (J a 2))])}
theorem ng3:gk hS 224 nup:=by refine ly Ns func224 λe (c:i_ ([.i,.i,.i]) e) aN=>?_;obtain⟨a,e,rfl,_,c⟩:=O_ c;obtain⟨b,e,rfl,_,c⟩:=O_ c;obtain⟨d,rfl,_⟩:=sX c;exact⟨0,BL (nAB Vm.kW (λf=>((true,[.bool f]):zW)) a b d aN)⟩
def np_:Sum:= {ps:=[⟨oY.ct,true⟩,⟨oY.ct,true⟩],rs:=[⟨[.eN .bool],false⟩],fn:=λa=>(true,[.bool (q_ (oY.nd a 0) (oY.nd a 16))])}
theorem ngL:gk hS 179 np_:=by refine ly Ns func179 λd (c:i_ (oY.ct++(oY.ct++[])) d) _=>?_;obtain⟨a,d,rfl,_,c⟩:=oY.nX (r:=_) c;obtain⟨b,d,rfl,_,c⟩:=oY.nX (r:=_) c;obtain rfl:=R5 c;exact⟨0,BL (nfS (λe=>((true,[.bool e]):zW)) a b)⟩
def nfB:Sum:= {ps:=[⟨oY.ct,true⟩],rs:=[⟨[.eN .i,.eN .i,.eN .i,.eN .i,.eN .i,.eN .i,.eN .i,.eN .i,.eN .i,.eN .i,.eN .i,.eN .i,.eN .i,.eN .i,.eN .i,.eN .str,.eN .i,.eN .i],true⟩],fn:=λa=>(true,jf.enc (Q7 (oY.nd a 0)))}
theorem nw_:gk hS 114 nfB:=by refine ly Ns func114 λb (a:i_ (oY.ct++[]) b) _=>?_;obtain⟨p,b,rfl,_,a⟩:=oY.nX (r:=_) a;obtain rfl:=R5 a;exact⟨0,BL (nB_ (λc=>((true,jf.enc c):zW)) p)⟩
def nrU:Sum:= {ps:=[⟨aV.ct,true⟩,⟨SA.ct,true⟩],rs:=[⟨[.eN .i],false⟩],fn:=λa=>(true,[.int (yN (aV.nd a 0) (SA.nd a 2))])}
theorem nsq:gk hS 178 nrU:=by refine ly (Γ:=[(183,UD)]) (aU ia Ns) func178 λb (a:i_ (aV.ct++(SA.ct++[])) b) _=>?_;obtain⟨s,b,rfl,_,a⟩:=aV.nX (r:=_) a;obtain⟨f,b,rfl,_,a⟩:=SA.nX (r:=_) a;obtain rfl:=R5 a;exact⟨0,BL (nlN Vm.kW (λc=>((true,[.int c]):zW)) s f)⟩
def gl:Sum:= {ps:=[⟨VB,false⟩],rs:=[⟨[.eN .i,.eN .i,.eN .i,.eN .i,.eN .i,.eN .i,.eN .i,.eN .i,.eN .i,.eN .i,.eN .i,.eN .i,.eN .i,.eN .i,.eN .i,.eN .str],true⟩,⟨[.eN .i],false⟩],fn:=λa=>(E_ (fJ a 0),oY.enc (dZ (fJ a 0)).1++[.int (dZ (fJ a 0)).2])}
theorem noQ:gk hS 46 gl:=by refine ly (Γ:=[(104,Fc),(105,PZ),(106,U5)]) (aU nbj (aU Gc (aU VX Ns))) func46 λa (b:i_ (VB) a) aN=>?_;obtain⟨s,rfl,_⟩:=T8 b;exact⟨0,BL (ncM Vm.kW (λc d=>((true,oY.enc c++[.int d]):zW)) s aN)⟩
theorem nrt:gk hS 40 gl:=by refine ly (Γ:=[(69,U5),(81,Fc),(82,PZ)]) (aU nvP (aU nrq (aU nqz Ns))) func40 λa (b:i_ (VB) a) aN=>?_;obtain⟨s,rfl,_⟩:=T8 b;exact⟨0,BL (ncM Vm.kW (λc d=>((true,oY.enc c++[.int d]):zW)) s aN)⟩
def ndr:Sum:= {ps:=[⟨sY.ct,true⟩,⟨oY.ct,true⟩],rs:=[⟨[.eN .bool],false⟩],fn:=λa=>(true,[.bool (lD (sY.nd a 0) (oY.nd a 9))])}
theorem ncB:gk hS 177 ndr:=by refine ly (Γ:=[(25,Cy),(60,uM),(125,xF),(224,nup)]) (aU vN (aU DQ (aU ngX (aU ng3 Ns)))) func177 λb (a:i_ (sY.ct++(oY.ct++[])) b) _=>?_;obtain⟨r,b,rfl,_,a⟩:=sY.nX (r:=_) a;obtain⟨p,b,rfl,_,a⟩:=oY.nX (r:=_) a;obtain rfl:=R5 a;exact⟨0,BL (neJ Vm.kW (λc=>((true,[.bool c]):zW)) r p)⟩
def PX:Sum:= {ps:=[⟨[.sl nS],false⟩,⟨oY.ct,true⟩],rs:=[⟨[.eN .i],false⟩],fn:=λa=>(true,[.int (rz (Zc a 0) (oY.nd a 1))])}
def neX:Ctx:=[(62,aZ),(177,ndr)]
theorem nhW:Wq hS neX:=aU nBa (aU ncB Ns)
def nca:List (Nat×iT):=[(5, {cx:=[(0,.Ay),(3,.Ay),(5,.Ay),(11,.Ay),(12,.Ay),(13,.Ay)],boxes:=[(192,[])]})]
def nsT:Int→zW:=(λa=>((true,[.int a]):zW))
def nrX(Z:rM)(a:Int)(x:rM)(c d e f g h j k l m o p q r s t u:Int)(b:Y):CO:= {n:=38,sl:=[(0,.sl nS Z),(3,.ptr 192 0),(5,D7 a),(11,.sl nS x),(12,D7 c),(13,D7 d)],hp:=[(192,.box 63 [D7 e,D7 f,D7 g,D7 h,D7 j,D7 k,D7 l,D7 m,D7 o,D7 p,D7 q,D7 r,D7 s,D7 t,D7 u,.str b])]}
theorem nmd:gk hS 108 PX:=by refine lH (A:=nca) nhW func108 λb (a:i_ ((.sl nS)::(oY.ct++[])) b) _=>?_;obtain⟨Z,b,rfl,e,a⟩:=dh a;obtain⟨p,b,rfl,_,a⟩:=oY.nX (r:=_) a;obtain rfl:=R5 a;obtain⟨N,f⟩:=nby Vm.kW nsT Z p e;exact⟨N,TX (λg=>cD Vm.kW nsT g Z p) (funext λx=>funext λh=>funext λj=>funext λk=>funext λl=>funext λm=>funext λn=>funext λo=>funext λq=>funext λs=>funext λt=>funext λu=>funext λv=>funext λw=>funext λy=>funext λz=>funext λB=>funext λc=>vI (HN hS neX nca N f108 PX [true,true,true,false,true,false] []) (λd C=>nrX Z d x h C j k l m n o q s t u v w y z B c) _ N) f⟩
def nkQ:Sum:= {ps:=[⟨W4.ct,true⟩,⟨SA.ct,true⟩],rs:=[⟨[.eN .i],false⟩],fn:=λa=>(true,[.int (Ac (W4.nd a 0) (SA.nd a 1))])}
theorem noF:gk hS 109 nkQ:=by refine ly (Γ:=[(63,YL),(126,Y3)]) (aU nmj (aU nuJ Ns)) func109 λb (a:i_ (W4.ct++(SA.ct++[])) b) _=>?_;obtain⟨t,b,rfl,_,a⟩:=W4.nX (r:=_) a;obtain⟨f,b,rfl,_,a⟩:=SA.nX (r:=_) a;obtain rfl:=R5 a;exact⟨0,BL (nj6 (λc=>((true,[.int c]):zW)) t f)⟩
def nh2:Sum:= {ps:=[⟨aV.ct,true⟩,⟨vL,false⟩,⟨SA.ct,true⟩],rs:=[⟨[.eN .i],false⟩],fn:=λa=>(true,[.int (Ye (aV.nd a 0) (J a 2) (SA.nd a 3))])}
theorem ngS:gk hS 111 nh2:=by refine ly (Γ:=[(64,AY),(178,nrU)]) (aU nDh (aU nsq Ns)) func111 λb a _=>?_;replace a:i_ (aV.ct++(.i::(SA.ct++[]))) b:=a;obtain⟨s,b,rfl,_,a⟩:=aV.nX (r:=_) a;obtain⟨c,b,rfl,_,a⟩:=O_ a;obtain⟨f,b,rfl,_,a⟩:=SA.nX (r:=_) a;obtain rfl:=R5 a;exact⟨0,BL (nfi Vm.kW (λd=>((true,[.int d]):zW)) s c f)⟩
def nhj:Sum:= {ps:=[⟨nJ.ct,true⟩,⟨vL,false⟩,⟨oY.ct,true⟩],rs:=[⟨[.eN .i],false⟩],fn:=λa=>(true,[.int (YI (nJ.nd a 0) (J a 4) (oY.nd a 5))])}
theorem nxL:gk hS 48 nhj:=by refine ly (Γ:=[(29,Pr),(60,uM),(108,PX),(109,nkQ),(110,qO),(111,nh2)]) (aU np7 (aU DQ (aU nmd (aU noF (aU dm (aU ngS Ns)))))) func48 λb a _=>?_;replace a:i_ (nJ.ct++(.i::(oY.ct++[]))) b:=a;obtain⟨s,b,rfl,_,a⟩:=nJ.nX (r:=_) a;obtain⟨c,b,rfl,_,a⟩:=O_ a;obtain⟨p,b,rfl,_,a⟩:=oY.nX (r:=_) a;obtain rfl:=R5 a;exact⟨0,BL (ndM Vm.kW (λd=>((true,[.int d]):zW)) s c p)⟩
def kG:Sum:= {ps:=[⟨jf.ct,true⟩,⟨oY.ct,true⟩],rs:=[⟨[.eN .bool],false⟩],fn:=λa=>(true,[.bool (Z7 (jf.nd a 0) (oY.nd a 18))])}
theorem nwJ:gk hS 112 kG:=by refine ly (Γ:=[(25,Cy),(60,uM),(106,U5),(124,gM),(179,np_)]) (aU vN (aU DQ (aU VX (aU nuf (aU ngL Ns))))) func112 λb (a:i_ (jf.ct++(oY.ct++[])) b) _=>?_;obtain⟨s,b,rfl,_,a⟩:=jf.nX (r:=_) a;obtain⟨p,b,rfl,_,a⟩:=oY.nX (r:=_) a;obtain rfl:=R5 a;exact⟨0,BL (ne6 Vm.kW (λc=>((true,[.bool c]):zW)) s p)⟩
def niu:Sum:= {ps:=[⟨jf.ct,true⟩,⟨oY.ct,true⟩],rs:=[⟨[.eN .i,.eN .i,.eN .i,.eN .i,.eN .i,.eN .i,.eN .i,.eN .i,.eN .i,.eN .i,.eN .i,.eN .i,.eN .i,.eN .i,.eN .i,.eN .str,.eN .i,.eN .i],true⟩],fn:=λa=>(true,jf.enc (dX (jf.nd a 0) (oY.nd a 18)))}
theorem nsO:gk hS 113 niu:=by refine ly (Γ:=[(112,kG)]) (aU nwJ Ns) func113 λb (a:i_ (jf.ct++(oY.ct++[])) b) _=>?_;obtain⟨s,b,rfl,_,a⟩:=jf.nX (r:=_) a;obtain⟨p,b,rfl,_,a⟩:=oY.nX (r:=_) a;obtain rfl:=R5 a;exact⟨0,BL (nkC Vm.kW (λc=>((true,jf.enc c):zW)) s p)⟩
def nu6:Sum:= {ps:=[⟨[.sl UB],false⟩,⟨TV.ct,true⟩,⟨vL,false⟩,⟨pE.ct,true⟩,⟨VB,false⟩,⟨oY.ct,true⟩,⟨sJ,false⟩],rs:=[⟨[.own 9 VB],true⟩,⟨[.eN .i,.eN .i,.eN .i,.eN .i,.eN .i,.eN .i,.eN .i,.eN .i,.eN .i,.eN .i,.eN .i,.eN .i,.eN .i,.eN .i,.eN .i,.eN .i,.eN .i,.eN .i,.eN .i,.eN .i,.eN .i,.eN .i,.eN .i,.eN .i,.eN .i,.eN .str,.eN .i,.eN .i,.eN .bool,.eN .i],true⟩],fn:=λa=>(Rn (Zc a 0) (TV.nd a 1) (J a 2) (pE.nd a 3) (fJ a 33) (oY.nd a 34) (yz a 50),TV.enc (R2 (Zc a 0) (TV.nd a 1) (J a 2) (pE.nd a 3) (fJ a 33) (oY.nd a 34) (yz a 50)).1++pE.enc (R2 (Zc a 0) (TV.nd a 1) (J a 2) (pE.nd a 3) (fJ a 33) (oY.nd a 34) (yz a 50)).2)}
theorem nd9:gk hS 49 nu6:=by refine ly (Γ:=[(26,ml),(51,P5),(85,Qd),(106,U5),(112,kG),(113,niu),(114,nfB)]) (aU qd (aU nst (aU HB (aU VX (aU nwJ (aU nsO (aU nw_ Ns))))))) func49 λc a d=>?_;replace a:i_ ((.sl UB)::(TV.ct++(.i::(pE.ct++(.str::(oY.ct++sJ)))))) c:=a;obtain⟨Z,c,rfl,_,a⟩:=dh a;obtain⟨m,c,rfl,_,a⟩:=TV.nX (r:=_) a;obtain⟨b,c,rfl,_,a⟩:=O_ a;obtain⟨q,c,rfl,_,a⟩:=pE.nX (r:=_) a;obtain⟨key,c,rfl,_,a⟩:=WW a;obtain⟨p,c,rfl,_,a⟩:=oY.nX (r:=_) a;obtain⟨e,rfl,_⟩:=ZM a;exact⟨0,BL (nqa Vm.kW (λf g=>((true,TV.enc f++pE.enc g):zW)) Z m b q key p e d)⟩
def nds:Sum:= {ps:=[⟨QP.ct,true⟩,⟨VB,false⟩],rs:=[⟨[.own 9 VB,.own 134 UB,.eN .i,.eN .i,.eN .i,.eN .i,.eN .i,.eN .i,.eN .i,.own 3 vL,.deep 138 [.i,.i,.sl vL] [3],.eN .i,.own 74 CR,.deep 32 [.i,.i,.i,.sl vL] [3],.own 77 UC,.own 4 sJ,.eN .i,.eN .bool,.own 3 vL,.own 147 nS,.own 151 xT,.eN .str,.own 3 vL,.own 170 Qn,.eN .bool,.own 9 VB,.own 3 vL,.own 3 vL,.eN .i,.eN .i,.eN .i,.eN .i,.eN .i],true⟩],fn:=λa=>(OG (QP.nd a 0) (fJ a 33),QP.enc (fE (QP.nd a 0) (fJ a 33)))}
theorem nq5:gk hS 17 nds:=by refine ly (Γ:=[(9,Rs),(42,wT),(46,gl),(47,nfA),(48,nhj),(49,nu6),(50,qR)]) (aU Ql (aU XZ (aU noQ (aU noL (aU nxL (aU nd9 (aU naR Ns))))))) func17 λd (b:i_ (QP.ct++VB) d) aN=>?_;obtain⟨h,d,rfl,c,b⟩:=QP.nX (r:=_) b;obtain⟨a,rfl,_⟩:=T8 b;exact⟨0,BL (nx3 Vm.kW (λe=>((true,QP.enc e):zW)) h a c aN)⟩
def SH:Sum:= {ps:=[⟨[.sl [.int .u8]],false⟩],rs:=[],fn:=λa=>(true,kJ.enc (VD (Zc a 0))),pt:=some (101,[.sl [.int .u8],.i,.i])}
def nxP:List (Nat×iT):=[(3, {cx:=[(0,.Ay),(3,.Ay),(4,.Ay)],boxes:=[]})]
def nkx:kJ→zW:=(λa=>((true,kJ.enc a):zW))
def nqi(a:rM)(h i:Int):CO:= {n:=32,sl:=[(0,.sl [.int .u8] a),(3,D7 h),(4,D7 i)],hp:=[]}
theorem nnX:jA hS 12 SH 101 [.sl [.int .u8],.i,.i]:=by refine nyC (A:=nxP) Ns func12 rfl (by kernel_rfl) (of_decide_eq_true (by kernel_rfl)) (of_decide_eq_true (by kernel_rfl)) λb (c:i_ ([.sl [.int .u8]]) b) _=>?_;obtain⟨a,rfl,d⟩:=ga c;obtain⟨N,e⟩:=nl_ Vm.kW nkx a d;exact⟨N,TX (λf=>NR Vm.kW nkx f a) (vI (HN hS [] nxP N f12 SH [true,true,false,true,false] []) (nqi a) _ N) e⟩
def eP:Sum:= {ps:=[⟨kJ.ct,true⟩],rs:=[⟨[.eN .i],false⟩],fn:=λa=>(DX (kJ.nd a 0),[.int (AW (kJ.nd a 0)).1]++kJ.enc (AW (kJ.nd a 0)).2),ms:=[some (.box 101)]}
theorem nDf:UY hS 73 eP:=by refine RE (A:=[]) Ns func73 λb (a:i_ (kJ.ct++[]) b) aN=>?_;obtain⟨c,b,rfl,_,a⟩:=kJ.nX (r:=_) a;obtain rfl:=R5 a;exact⟨0,BL (ndq Vm.kW (λd e=>((true,[.int d]++kJ.enc e):zW)) c aN)⟩
def Dw:Sum:= {ps:=[⟨kJ.ct,true⟩,⟨vL,false⟩],rs:=[⟨[.eN .i],false⟩],fn:=λa=>(qK (kJ.nd a 0) (J a 3),[.int (Ra (kJ.nd a 0) (J a 3)).1]++kJ.enc (Ra (kJ.nd a 0) (J a 3)).2),ms:=[some (.box 101),none]}
def nAG:Ctx:=[(73,eP)]
theorem nwl:Wq hS nAG:=aU nDf Ns
theorem SS:UY hS 35 Dw:=by refine RE (A:=[]) nwl func35 λb (a:i_ (kJ.ct++vL) b) aN=>?_;obtain⟨c,b,rfl,_,a⟩:=kJ.nX (r:=_) a;obtain⟨n,rfl,_⟩:=sX a;exact⟨0,BL (neS Vm.kW (λd e=>((true,[.int d]++kJ.enc e):zW)) c n aN)⟩
def jJ:Sum:= {ps:=[⟨kJ.ct,true⟩,⟨vL,false⟩],rs:=[⟨[.eN .bool],false⟩],fn:=λa=>(qK (kJ.nd a 0) (J a 3),[.bool (qQ (kJ.nd a 0) (J a 3)).1]++kJ.enc (qQ (kJ.nd a 0) (J a 3)).2),ms:=[some (.box 101),none]}
def ngY:Ctx:=[(35,Dw)]
theorem nfE:Wq hS ngY:=aU SS Ns
theorem F4:UY hS 33 jJ:=by refine RE (A:=[]) nfE func33 λb (a:i_ (kJ.ct++vL) b) aN=>?_;obtain⟨c,b,rfl,_,a⟩:=kJ.nX (r:=_) a;obtain⟨n,rfl,_⟩:=sX a;exact⟨0,BL (nbO Vm.kW (λd e=>((true,[.bool d]++kJ.enc e):zW)) c n aN)⟩
def v5:Sum:= {ps:=[⟨kJ.ct,true⟩,⟨[.sl vL],false⟩],rs:=[⟨[.eN .i],false⟩],fn:=λa=>(DI (kJ.nd a 0) (Zc a 3),[.int (kM (kJ.nd a 0) (Zc a 3)).1]++kJ.enc (kM (kJ.nd a 0) (Zc a 3)).2),ms:=[some (.box 101),none]}
def nqs:Ctx:=[(35,Dw)]
theorem nlU:Wq hS nqs:=aU SS Ns
theorem OK:UY hS 38 v5:=by refine RE (A:=[]) nlU func38 λb (a:i_ (kJ.ct++[.sl vL]) b) aN=>?_;obtain⟨c,b,rfl,_,a⟩:=kJ.nX (r:=_) a;obtain⟨Z,rfl,_⟩:=ga a;exact⟨0,BL (ndz Vm.kW (λd e=>((true,[.int d]++kJ.enc e):zW)) c Z aN)⟩
def S8:Sum:= {ps:=[⟨kJ.ct,true⟩,⟨vL,false⟩],rs:=[⟨[.eN .str],false⟩],fn:=λa=>(qK (kJ.nd a 0) (J a 3),[.str (zg (kJ.nd a 0) (J a 3)).1]++kJ.enc (zg (kJ.nd a 0) (J a 3)).2),ms:=[some (.box 101),none]}
def nBM:Ctx:=[(73,eP)]
theorem nlQ:Wq hS nBM:=aU nDf Ns
def nzl:List (Nat×iT):=[(5, {cx:=[(0,.Ay),(1,.Ay),(5,.Ay),(6,.Ay)],boxes:=[(320000000,[])]})]
def nh7:Y→kJ→zW:=(λa b=>((true,[.str a]++kJ.enc b):zW))
def nDg(a i:Int)(b:rM)(c d:Int)(e:rM):CO:= {n:=1099511627799,sl:=[(0,.ptr 320000000 0),(1,D7 a),(5,.own 640320),(6,D7 i)],hp:=[(320000000,.box 101 [.sl [.int .u8] b,D7 c,D7 d]),(640320,.row 5 [.int .u8] e false true)]}
theorem nZ:UY hS 36 S8:=by refine RE (A:=nzl) nlQ func36 λd (a:i_ (kJ.ct++vL) d) aN=>?_;obtain⟨c,d,rfl,_,a⟩:=kJ.nX (r:=_) a;obtain⟨n,rfl,_⟩:=sX a;obtain⟨N,e⟩:=nyt Vm.kW nh7 c n aN;exact⟨N,TX (λf=>XB Vm.kW nh7 f c n) (funext λb=>wF (E0 hS nBM nzl N f36 S8 [true,true,true,false,true,false] []) (nDg b) _ N) e⟩
def nuE:Sum:= {ps:=[⟨[.sl [.int .u8]],false⟩],rs:=[⟨[.eN .bool],false⟩],fn:=λa=>(true,[.bool (Gv (Zc a 0))])}
theorem ndm:gk hS 5 nuE:=by refine ly Ns func5 λb (c:i_ ([.sl [.int .u8]]) b) _=>?_;obtain⟨a,rfl,_⟩:=ga c;exact⟨0,BL (nkF (λd=>((true,[.bool d]):zW)) a)⟩
def Sq:Sum:= {ps:=[⟨kJ.ct,true⟩],rs:=[⟨[.eN .i],false⟩],fn:=λa=>(Bj (kJ.nd a 0),[.int (Z1 (kJ.nd a 0)).1]++kJ.enc (Z1 (kJ.nd a 0)).2),ms:=[some (.box 101)]}
def nvg:Ctx:=[(35,Dw)]
theorem nvJ:Wq hS nvg:=aU SS Ns
theorem RZ:UY hS 74 Sq:=by refine RE (A:=[]) nvJ func74 λb (a:i_ (kJ.ct++[]) b) aN=>?_;obtain⟨c,b,rfl,_,a⟩:=kJ.nX (r:=_) a;obtain rfl:=R5 a;exact⟨0,BL (nrS Vm.kW (λd e=>((true,[.int d]++kJ.enc e):zW)) c aN)⟩
def nqO:Sum:= {ps:=[⟨kJ.ct,true⟩],rs:=[⟨[.eN .i],false⟩],fn:=λa=>(tV (kJ.nd a 0),[.int (dr (kJ.nd a 0)).1]++kJ.enc (dr (kJ.nd a 0)).2),ms:=[some (.box 101)]}
def nhc:Ctx:=[(38,v5)]
theorem nzI:Wq hS nhc:=aU OK Ns
theorem fsY:UY hS 139 nqO:=by refine RE (A:=[]) nzI func139 λb (a:i_ (kJ.ct++[]) b) aN=>?_;obtain⟨c,b,rfl,_,a⟩:=kJ.nX (r:=_) a;obtain rfl:=R5 a;exact⟨0,BL (nk0 Vm.kW (λd e=>((true,[.int d]++kJ.enc e):zW)) c aN)⟩
def njg:Sum:= {ps:=[⟨kJ.ct,true⟩,⟨vL,false⟩],rs:=[⟨[.eN .i,.eN .i,.eN .i,.eN .i,.eN .i,.eN .i,.eN .i,.eN .str],true⟩],fn:=λa=>(w6 (kJ.nd a 0) (J a 3),ch.enc (Zu (kJ.nd a 0) (J a 3)).1++kJ.enc (Zu (kJ.nd a 0) (J a 3)).2),ms:=[some (.box 101),none]}
def niz:Ctx:=[(33,jJ),(35,Dw),(36,S8),(38,v5),(139,nqO)]
theorem noP:Wq hS niz:=aU F4 (aU SS (aU nZ (aU OK (aU fsY Ns))))
theorem ncV:UY hS 75 njg:=by refine RE (A:=[]) noP func75 λd (b:i_ (kJ.ct++vL) d) aN=>?_;obtain⟨c,d,rfl,_,b⟩:=kJ.nX (r:=_) b;obtain⟨a,rfl,_⟩:=sX b;exact⟨0,BL (nDM Vm.kW (λe f=>((true,ch.enc e++kJ.enc f):zW)) c a aN)⟩
def UK:Sum:= {ps:=[⟨kJ.ct,true⟩,⟨vL,false⟩],rs:=[⟨[.eN .i,.eN .i,.eN .i,.eN .i,.eN .i,.eN .i,.eN .i,.eN .i,.eN .i,.eN .i,.eN .i,.eN .i,.eN .i,.eN .i,.eN .i,.eN .str],true⟩],fn:=λa=>(E7 (kJ.nd a 0) (J a 3),oY.enc (Q4 (kJ.nd a 0) (J a 3)).1++kJ.enc (Q4 (kJ.nd a 0) (J a 3)).2),ms:=[some (.box 101),none]}
def nD_:Ctx:=[(33,jJ),(35,Dw),(36,S8),(38,v5),(74,Sq),(75,njg)]
theorem ni4:Wq hS nD_:=aU F4 (aU SS (aU nZ (aU OK (aU RZ (aU ncV Ns)))))
theorem nwR:UY hS 37 UK:=by refine RE (A:=[]) ni4 func37 λd (b:i_ (kJ.ct++vL) d) aN=>?_;obtain⟨c,d,rfl,_,b⟩:=kJ.nX (r:=_) b;obtain⟨a,rfl,_⟩:=sX b;exact⟨0,BL (nBL Vm.kW (λe f=>((true,oY.enc e++kJ.enc f):zW)) c a aN)⟩
def ndh:Sum:= {ps:=[⟨kJ.ct,true⟩],rs:=[⟨[.eN .str],false⟩],fn:=λa=>(DX (kJ.nd a 0),[.str (Rh (kJ.nd a 0)).1]++kJ.enc (Rh (kJ.nd a 0)).2),ms:=[some (.box 101)]}
def noe:Ctx:=[(36,S8)]
theorem nqD:Wq hS noe:=aU nZ Ns
theorem neK:UY hS 198 ndh:=by refine RE (A:=[]) nqD func198 λb (a:i_ (kJ.ct++[]) b) aN=>?_;obtain⟨c,b,rfl,_,a⟩:=kJ.nX (r:=_) a;obtain rfl:=R5 a;exact⟨0,BL (nxz Vm.kW (λd e=>((true,[.str d]++kJ.enc e):zW)) c aN)⟩
def npF:Sum:= {ps:=[⟨kJ.ct,true⟩],rs:=[⟨[.eN .i,.eN .i,.eN .i,.eN .i,.eN .i],true⟩],fn:=λa=>(DX (kJ.nd a 0),SA.enc (zy (kJ.nd a 0)).1++kJ.enc (zy (kJ.nd a 0)).2),ms:=[some (.box 101)]}
def ni0:Ctx:=[(35,Dw),(38,v5),(74,Sq)]
theorem nlK:Wq hS ni0:=aU SS (aU OK (aU RZ Ns))
theorem na9:UY hS 143 npF:=by refine RE (A:=[]) nlK func143 λb (a:i_ (kJ.ct++[]) b) aN=>?_;obtain⟨c,b,rfl,_,a⟩:=kJ.nX (r:=_) a;obtain rfl:=R5 a;exact⟨0,BL (noH Vm.kW (λd e=>((true,SA.enc d++kJ.enc e):zW)) c aN)⟩
def nex:Sum:= {ps:=[⟨kJ.ct,true⟩],rs:=[⟨[.eN .i,.eN .bool,.own 3 vL],true⟩],fn:=λa=>(DX (kJ.nd a 0),AP.enc (NP (kJ.nd a 0)).1++kJ.enc (NP (kJ.nd a 0)).2),ms:=[some (.box 101)]}
def nmM:Ctx:=[(33,jJ)]
theorem npE:Wq hS nmM:=aU F4 Ns
theorem nwM:UY hS 78 nex:=by refine RE (A:=[]) npE func78 λb (a:i_ (kJ.ct++[]) b) aN=>?_;obtain⟨c,b,rfl,_,a⟩:=kJ.nX (r:=_) a;obtain rfl:=R5 a;exact⟨0,BL (nfw Vm.kW (λd e=>((true,AP.enc d++kJ.enc e):zW)) c aN)⟩
def nln:Sum:= {ps:=[⟨kJ.ct,true⟩],rs:=[⟨[.eN .i,.eN .i,.eN .i,.eN .i,.eN .i,.eN .i,.eN .i,.eN .i,.eN .i],true⟩],fn:=λa=>(DX (kJ.nd a 0),sY.enc (Fg (kJ.nd a 0)).1++kJ.enc (Fg (kJ.nd a 0)).2),ms:=[some (.box 101)]}
def nax:Ctx:=[(35,Dw),(38,v5),(74,Sq)]
theorem pg0:Wq hS nax:=aU SS (aU OK (aU RZ Ns))
theorem ns7:UY hS 199 nln:=by refine RE (A:=[]) pg0 func199 λb (a:i_ (kJ.ct++[]) b) aN=>?_;obtain⟨c,b,rfl,_,a⟩:=kJ.nX (r:=_) a;obtain rfl:=R5 a;exact⟨0,BL (nB3 Vm.kW (λd e=>((true,sY.enc d++kJ.enc e):zW)) c aN)⟩
def ZG:Sum:= {ps:=[],rs:=[⟨[.own 151 xT],true⟩],fn:=λa=>(true,W4.enc SY)}
theorem neT:gk hS 79 ZG:=by refine ly Ns func79 λc a _=>?_;obtain rfl:=R5 a;exact⟨0,BL (npY (λb=>((true,W4.enc b):zW)))⟩
def fI:Sum:= {ps:=[⟨sJ,false⟩],rs:=[⟨[.eN .i],false⟩],fn:=λa=>(true,[.int (Sy (yz a 0))])}
theorem nky:gk hS 8 fI:=by refine ly Ns func8 λa (c:i_ (sJ) a) _=>?_;obtain⟨b,rfl,_⟩:=ZM c;exact⟨0,BL (naa (λd=>((true,[.int d]):zW)) b)⟩
def dU:Sum:= {ps:=[⟨kJ.ct,true⟩],rs:=[⟨[.own 147 nS],false⟩],fn:=λa=>(DX (kJ.nd a 0),[.sl (Vy (kJ.nd a 0)).1]++kJ.enc (Vy (kJ.nd a 0)).2),ms:=[some (.box 101)]}
def nDi:Ctx:=[(35,Dw),(199,nln)]
theorem nqH:Wq hS nDi:=aU SS (aU ns7 Ns)
def ngh:List (Nat×iT):=[(3, {cx:=[(0,.Ay),(3,.Ay),(4,.Ay)],boxes:=[(320000000,[])]})]
def nB7:rM→kJ→zW:=(λa b=>((true,[.sl a]++kJ.enc b):zW))
def cpN(k:Int)(a:rM)(b c:Int)(d:rM):CO:= {n:=1099511627794,sl:=[(0,.ptr 320000000 0),(3,.own 640192),(4,D7 k)],hp:=[(320000000,.box 101 [.sl [.int .u8] a,D7 b,D7 c]),(640192,.row 147 nS d false true)]}
theorem npP:UY hS 141 dU:=by refine RE (A:=ngh) nqH func141 λb (a:i_ (kJ.ct++[]) b) aN=>?_;obtain⟨c,b,rfl,_,a⟩:=kJ.nX (r:=_) a;obtain rfl:=R5 a;obtain⟨N,d⟩:=ndy Vm.kW nB7 c aN;exact⟨N,TX (λe=>O0 Vm.kW nB7 e c) (wF (E0 hS nDi ngh N f141 dU [true,true,false,true,false] []) (cpN) _ N) d⟩
def Rz:Sum:= {ps:=[⟨kJ.ct,true⟩],rs:=[⟨[.eN .str,.own 3 vL],true⟩,⟨[.eN .i],false⟩],fn:=λa=>(DX (kJ.nd a 0),aV.enc (bl (kJ.nd a 0)).1++[.int (bl (kJ.nd a 0)).2.1]++kJ.enc (bl (kJ.nd a 0)).2.2),ms:=[some (.box 101)]}
def nt6:Ctx:=[(35,Dw),(38,v5),(198,ndh)]
theorem njk:Wq hS nt6:=aU SS (aU OK (aU neK Ns))
def nyK:List (Nat×iT):=[(4, {cx:=[(0,.Ay),(2,.Ay),(4,.Ay),(5,.Ay),(6,.Ay)],boxes:=[(320000000,[]),(128,[]),(320,[(1,.own 3)])]})]
def nAM:aV→Int→kJ→zW:=(λa b c=>((true,aV.enc a++[.int b]++kJ.enc c):zW))
def nbF(a k:Int)(b:rM)(c d:Int)(e s:Y)(f:rM):CO:= {n:=1099511627806,sl:=[(0,.ptr 320000000 0),(2,.ptr 128 0),(4,D7 a),(5,.ptr 320 0),(6,D7 k)],hp:=[(320000000,.box 101 [.sl [.int .u8] b,D7 c,D7 d]),(128,.box 47 [.str e,.nil]),(320,.box 47 [.str s,.own 1361921]),(1361921,.row 3 vL f false true)]}
theorem nyO:UY hS 140 Rz:=by refine RE (A:=nyK) njk func140 λb (a:i_ (kJ.ct++[]) b) aN=>?_;obtain⟨c,b,rfl,_,a⟩:=kJ.nX (r:=_) a;obtain rfl:=R5 a;obtain⟨N,d⟩:=nfu Vm.kW nAM c aN;exact⟨N,TX (λe=>uu Vm.kW nAM e c) (funext λf=>funext λs=>wF (E0 hS nt6 nyK N f140 Rz [true,true,true,false,true,false] []) (λk g h i j=>nbF f k g h i [] s j) _ N) d⟩
def yA:Sum:= {ps:=[⟨kJ.ct,true⟩,⟨[.sl s_],false⟩],rs:=[⟨[.own 170 Qn],false⟩],fn:=λa=>(rL (kJ.nd a 0) (Zc a 3),[.sl (jb (kJ.nd a 0) (Zc a 3)).1]++kJ.enc (jb (kJ.nd a 0) (Zc a 3)).2),ms:=[some (.box 101),none]}
def npQ:Ctx:=[(33,jJ),(38,v5),(83,qO),(84,ep)]
theorem ncz:Wq hS npQ:=aU F4 (aU OK (aU nfM (aU nC9 Ns)))
def nbP:List (Nat×iT):=[(3, {cx:=[(0,.Ay),(1,.Ay),(5,.Ay),(6,.Ay)],boxes:=[(320000000,[])]})]
def niM:rM→kJ→zW:=(λa b=>((true,[.sl a]++kJ.enc b):zW))
def ntM(a:rM)(k:Int)(b:rM)(c d:Int)(e:rM):CO:= {n:=1099511627829,sl:=[(0,.ptr 320000000 0),(1,.sl s_ a),(5,.own 640320),(6,D7 k)],hp:=[(320000000,.box 101 [.sl [.int .u8] b,D7 c,D7 d]),(640320,.row 170 Qn e false true)]}
theorem nvp:UY hS 41 yA:=by refine RE (A:=nbP) ncz func41 λd (a:i_ (kJ.ct++[.sl s_]) d) aN=>?_;obtain⟨c,d,rfl,_,a⟩:=kJ.nX (r:=_) a;obtain⟨b,rfl,_⟩:=ga a;obtain⟨N,e⟩:=nqc Vm.kW niM c b aN;exact⟨N,TX (λf=>Vo Vm.kW niM f c b) (wF (E0 hS npQ nbP N f41 yA [true,true,false,true,false] []) (ntM b) _ N) e⟩
def WD:Sum:= {ps:=[⟨W4.ct,true⟩,⟨SA.ct,true⟩,⟨vL,false⟩],rs:=[⟨[.own 151 xT],true⟩,⟨[.eN .bool],false⟩],fn:=λa=>(ya (W4.nd a 0) (SA.nd a 1) (J a 6),W4.enc (SR (W4.nd a 0) (SA.nd a 1) (J a 6)).1++[.bool (SR (W4.nd a 0) (SA.nd a 1) (J a 6)).2])}
def nlL:Ctx:=[(145,Cy),(200,Qj),(201,YL),(202,NY),(203,OO)]
theorem nCP:Wq hS nlL:=aU X2 (aU nyV (aU nyJ (aU nBq (aU nxX Ns))))
def ny8:List (Nat×iT):=[(6, {cx:=[(2,.Ay),(3,.Ay),(4,.Ay),(6,.Ay),(8,.Ay),(9,.Ay),(10,.Ay)],boxes:=[(192,[]),(256,[]),(384,[]),(512,[])]})]
def ni3:W4→Bool→zW:=(λa b=>((true,W4.enc a++[.bool b]):zW))
def nrr(a i k:Int)(b:rM)(c d e f g:Int)(h:rM):CO:= {n:=58,sl:=[(2,D7 a),(3,.ptr 192 0),(4,.ptr 256 0),(6,.ptr 384 0),(8,.ptr 512 0),(9,D7 i),(10,D7 k)],hp:=[(192,.box 45 [.sl xT b]),(256,.box 149 [D7 c,D7 d,D7 e,D7 f,D7 g]),(384,.box 45 [.nil]),(512,.box 45 [.own 1411072]),(1411072,.row 151 xT h false true)]}
theorem nio:gk hS 142 WD:=by refine lH (A:=ny8) nCP func142 λc b d=>?_;replace b:i_ (W4.ct++(SA.ct++vL)) c:=b;obtain⟨t,c,rfl,_,b⟩:=W4.nX (r:=_) b;obtain⟨f,c,rfl,_,b⟩:=SA.nX (r:=_) b;obtain⟨a,rfl,_⟩:=sX b;obtain⟨N,e⟩:=ntR Vm.kW ni3 t f a d;exact⟨N,TX (λg=>bO Vm.kW ni3 g t f a) (funext λh=>funext λj=>funext λl=>funext λm=>funext λn=>funext λo=>funext λp=>vI (HN hS nlL ny8 N f142 WD [true,true,true,true,false,true,false] []) (λi k=>nrr a i k h j l m n o p) _ N) e⟩
def fC:Sum:= {ps:=[⟨kJ.ct,true⟩,⟨vL,false⟩],rs:=[⟨[.own 63 s_],false⟩],fn:=λa=>(gE (kJ.nd a 0) (J a 3),[.sl (VY (kJ.nd a 0) (J a 3)).1]++kJ.enc (VY (kJ.nd a 0) (J a 3)).2),ms:=[some (.box 101),none]}
def noX:Ctx:=[(33,jJ),(35,Dw),(36,S8),(37,UK),(38,v5)]
theorem njo:Wq hS noX:=aU F4 (aU SS (aU nZ (aU nwR (aU OK Ns))))
def nwz:List (Nat×iT):=[(5, {cx:=[(0,.Ay),(5,.Ay),(6,.Ay),(7,.Ay),(8,.Ay)],boxes:=[(320000000,[]),(384,[])]})]
def SM:rM→kJ→zW:=(λa b=>((true,[.sl a]++kJ.enc b):zW))
def Wr(size k:Int)(a:rM)(b c p d e f g h j l m o q r s t u:Int)(v:Y)(w:rM):CO:= {n:=1099511627853,sl:=[(0,.ptr 320000000 0),(5,.own 640320),(6,.ptr 384 0),(7,D7 size),(8,D7 k)],hp:=[(320000000,.box 101 [.sl [.int .u8] a,D7 b,D7 c]),(384,.box 63 [D7 p,D7 d,D7 e,D7 f,D7 g,D7 h,D7 j,D7 l,D7 m,D7 o,D7 q,D7 r,D7 s,D7 t,D7 u,.str v]),(640320,.row 63 s_ w false true)]}
noncomputable def gu(N:Nat):(CO→zW)→CO→zW:=E0 hS noX nwz N f31 fC [true,true,true,true,false,true,false] []
theorem nvF(N:Nat)(v:CO→zW)(size k:Int)(a:rM)(b c p d e f g h i j l m n o q r s:Int)(t:Y)(u:rM):gu N v (Wr size k a b c p d e f g h i j l m n o q r s t u)=g_ Vm.kW SM (λsize k a b c p d e f g h i j l m n o q r s t u=>v (Wr size k a b c p d e f g h i j l m n o q r s t u)) size k a b c p d e f g h i j l m n o q r s t u:=by kernel_rfl
theorem npG(N a:Nat):(λsize k b c d p e f g h i j l m n o q r s t u v=>Vd (gu N) a (Wr size k b c d p e f g h i j l m n o q r s t u v))=UW Vm.kW SM N a:=by
 induction a with
 | zero=>rfl
 | succ a w=>
  funext size k b c d p e f g h i j l m n o q r s t u v;refine (nvF N (Vd (gu N) a) size k b c d p e f g h i j l m n o q r s t u v).trans ?_;rw[w];rfl
theorem nx_:UY hS 31 fC:=by refine RE (A:=nwz) njo func31 λd (b:i_ (kJ.ct++vL) d) aN=>?_;obtain⟨c,d,rfl,_,b⟩:=kJ.nX (r:=_) b;obtain⟨a,rfl,_⟩:=sX b;obtain⟨N,e⟩:=nsF Vm.kW SM c a aN;refine⟨N,Eq.trans ?_ (e.trans (by kernel_rfl))⟩;unfold F6;rw[←npG N N];kernel_rfl
def x8:Sum:= {ps:=[⟨kJ.ct,true⟩],rs:=[⟨[.own 147 nS,.own 151 xT,.eN .str,.own 3 vL],true⟩,⟨[.eN .i],false⟩],fn:=λa=>(DX (kJ.nd a 0),nJ.enc (yW (kJ.nd a 0)).1++[.int (yW (kJ.nd a 0)).2.1]++kJ.enc (yW (kJ.nd a 0)).2.2),ms:=[some (.box 101)]}
def fQ:Ctx:=[(33,jJ),(35,Dw),(79,ZG),(140,Rz),(141,dU),(142,WD),(143,npF)]
theorem na_:Wq hS fQ:=aU F4 (aU SS (aU neT (aU nyO (aU npP (aU nio (aU na9 Ns))))))
def rb:List (Nat×iT):=[(7, {cx:=[(0,.Ay),(2,.Ay),(4,.Ay),(6,.Ay),(7,.Ay)],boxes:=[(320000000,[]),(128,[]),(256,[(0,.own 147)])]}),(11, {cx:=[(0,.Ay),(2,.Ay),(4,.Ay),(6,.Ay),(8,.Ay)],boxes:=[(320000000,[]),(128,[]),(256,[])]})]
def E2:nJ→Int→kJ→zW:=(λa b c=>((true,nJ.enc a++[.int b]++kJ.enc c):zW))
def TG(a k:Int)(b:rM)(c d:Int)(e s:Y)(f g h:rM):CO:= {n:=1099511627839,sl:=[(0,.ptr 320000000 0),(2,.ptr 128 0),(4,.ptr 256 0),(6,D7 a),(7,D7 k)],hp:=[(320000000,.box 101 [.sl [.int .u8] b,D7 c,D7 d]),(128,.box 49 [.nil,.nil,.str e,.nil]),(256,.box 49 [.own 1345536,.own 1345537,.str s,.own 1345539]),(1345536,.row 147 nS f false true),(1345537,.row 151 xT g false true),(1345539,.row 3 vL h false true)]}
def RB(b a:Int)(c:rM)(d e:Int)(f s:Y)(g h j:rM):CO:= {n:=1099511627839,sl:=[(0,.ptr 320000000 0),(2,.ptr 128 0),(4,.ptr 256 0),(6,D7 b),(8,D7 a)],hp:=[(320000000,.box 101 [.sl [.int .u8] c,D7 d,D7 e]),(128,.box 49 [.nil,.nil,.str f,.nil]),(256,.box 49 [.own 1345536,.own 1345537,.str s,.own 1345539]),(1345536,.row 147 nS g false true),(1345537,.row 151 xT h false true),(1345539,.row 3 vL j false true)]}
noncomputable def Ys(N:Nat):(CO→zW)→CO→zW:=E0 hS fQ rb N f76 x8 [true,true,true,true,true,true,false,true,false] []
noncomputable def T6(N:Nat):(CO→zW)→CO→zW:=E0 hS fQ rb N f76 x8 [true,true,true,true,true,false,true,false] []
theorem nmB(N:Nat)(f:Int)(i s:Y)(g h:rM)(j:CO→zW)(a:Int)(b:rM)(c d:Int)(e:rM):Ys N j (RB f a b c d i s g e h)=qt Vm.kW E2 f s g h (λa b c d e=>j (RB f a b c d i s g e h)) a b c d e:=by kernel_rfl
theorem nsG(N:Nat)(c:Int)(j s:Y)(d e:rM)(b:Nat):(λa f g h i=>Vd (Ys N) b (RB c a f g h j s d i e))=iY Vm.kW E2 N c s d e b:=by
 induction b with
 | zero=>rfl
 | succ b k=>
  funext a f g h i;refine (nmB N c j s d e (Vd (Ys N) b) a f g h i).trans ?_;rw[k];rfl
theorem nxT(N:Nat)(b:Int)(d:rM)(e f:Int)(g s:Y)(h c:rM)(j:CO→zW)(k:Int)(a:rM):T6 N j (TG b k d e f g s a h c)=aD Vm.kW E2 (λa i l m n o=>Vd (Ys N) N (RB b i l m n g s a o c)) b d e f s h c (λk a=>j (TG b k d e f g s a h c)) k a:=by kernel_rfl
theorem nvY(N:Nat)(c:Int)(e:rM)(f g:Int)(h s:Y)(i d:rM)(a:Nat):(λk b=>Vd (T6 N) a (TG c k e f g h s b i d))=da Vm.kW E2 N c e f g s i d a:=by
 induction a with
 | zero=>rfl
 | succ a j=>
  funext k b;refine (nxT N c e f g h s i d (Vd (T6 N) a) k b).trans ?_;have l:=funext λb=>nsG N c h s b d N;rw[l];rw[j];rfl
theorem npf(N:Nat)(c:kJ):Nu hS fQ rb N f76 x8 (c.enc++([]))=dW Vm.kW E2 N c:=by
 have h:Nu hS fQ rb N f76 x8 (c.enc++([]))=CF Vm.kW E2 (λa b d e s f g k i=>Vd (T6 N) N (TG a k b d e [] s i f g)) c:=by kernel_rfl
 refine h.trans ?_;unfold dW;have j:(λa b d e s f g k i=>Vd (T6 N) N (TG a k b d e [] s i f g))=(λa b d e s f g=>da Vm.kW E2 N a b d e s f g N):=by funext a b d e s f g;exact nvY N a b d e [] s f g N
 exact congrArg (λl=>CF Vm.kW E2 l c) j
theorem ns6:UY hS 76 x8:=by refine RE (A:=rb) na_ func76 λb (a:i_ (kJ.ct++[]) b) aN=>?_;obtain⟨c,b,rfl,_,a⟩:=kJ.nX (r:=_) a;obtain rfl:=R5 a;obtain⟨N,d⟩:=nit Vm.kW E2 c aN;exact⟨N,((npf N c).trans d).trans (by kernel_rfl)⟩
def l6:Sum:= {ps:=[⟨kJ.ct,true⟩],rs:=[⟨[.own 9 VB,.own 134 UB,.eN .i,.eN .i,.eN .i,.eN .i,.eN .i,.eN .i,.eN .i,.own 3 vL,.deep 138 [.i,.i,.sl vL] [3],.eN .i,.own 74 CR,.deep 32 [.i,.i,.i,.sl vL] [3],.own 77 UC,.own 4 sJ,.eN .i,.eN .bool,.own 3 vL,.own 147 nS,.own 151 xT,.eN .str,.own 3 vL,.own 170 Qn,.eN .bool,.own 9 VB,.own 3 vL,.own 3 vL,.eN .i,.eN .i,.eN .i,.eN .i,.eN .i],true⟩],fn:=λa=>(DX (kJ.nd a 0),QP.enc (fB (kJ.nd a 0)).1++kJ.enc (fB (kJ.nd a 0)).2),ms:=[some (.box 101)]}
def ZE:Ctx:=[(35,Dw),(76,x8),(77,Gj),(78,nex),(79,ZG),(80,yB)]
theorem hmL:Wq hS ZE:=aU SS (aU ns6 (aU noO (aU nwM (aU neT (aU MU Ns)))))
def WR:List (Nat×iT):=[(2, {cx:=[(0,.Ay),(2,.Ay),(3,.Ay)],boxes:=[(320000000,[]),(128,[])]}),(6, {cx:=[(0,.Ay),(2,.Ay),(3,.Ay),(4,.Ay),(5,.Ay),(6,.Ay)],boxes:=[(320000000,[]),(128,[]),(256,[])]})]
def Bp:QP→kJ→zW:=(λa b=>((true,QP.enc a++kJ.enc b):zW))
def eH(k:Int)(a:rM)(b c d e f g h i j l m:Int)(o:Bool)(p:Y)(q:Bool)(r s t u v:Int):CO:= {n:=1099511627837,sl:=[(0,.ptr 320000000 0),(2,.ptr 128 0),(3,D7 k)],hp:=[(320000000,.box 101 [.sl [.int .u8] a,D7 b,D7 c]),(128,.box 54 [.nil,.nil,D7 d,D7 e,D7 f,D7 g,D7 h,D7 i,D7 j,.nil,.nil,D7 l,.nil,.nil,.nil,.nil,D7 m,.bool o,.nil,.nil,.nil,.str p,.nil,.nil,.bool q,.nil,.nil,.nil,D7 r,D7 s,D7 t,D7 u,D7 v])]}
def Ot(k a i:Int)(b:rM)(c d e f g h j l m o p:Int)(q:Bool)(r:Y)(t:Bool)(u v w x y:Int)(s:Y)(z A B:rM):CO:= {n:=1099511627837,sl:=[(0,.ptr 320000000 0),(2,.ptr 128 0),(3,D7 k),(4,.ptr 256 0),(5,D7 a),(6,D7 i)],hp:=[(320000000,.box 101 [.sl [.int .u8] b,D7 c,D7 d]),(128,.box 54 [.nil,.nil,D7 e,D7 f,D7 g,D7 h,D7 j,D7 l,D7 m,.nil,.nil,D7 o,.nil,.nil,.nil,.nil,D7 p,.bool q,.nil,.nil,.nil,.str r,.nil,.nil,.bool t,.nil,.nil,.nil,D7 u,D7 v,D7 w,D7 x,D7 y]),(256,.box 49 [.own 1345536,.own 1345537,.str s,.own 1345539]),(1345536,.row 147 nS z false true),(1345537,.row 151 xT A false true),(1345539,.row 3 vL B false true)]}
noncomputable def RH(N:Nat)(a:CO→zW):(CO→zW)→CO→zW:=E0 hS ZE WR N f39 l6 [true,false,true,false,false,true,false,false,true,false,true,false] [a]
noncomputable def wm(N:Nat):(CO→zW)→CO→zW:=E0 hS ZE WR N f39 l6 [true,false,true,false] []
theorem nhb(N:Nat)(B:CO→zW)(k b:Int)(c:rM)(d e f g h j l m n o p:Int)(q:Bool)(r:Y)(t:Bool)(u v w x y:Int)(s:Y)(z A:rM)(C:CO→zW)(i:Int)(a:rM):RH N B C (Ot k b i c d e f g h j l m n o p q r t u v w x y s a z A)=QZ Vm.kW Bp (λk D E F=>B (eH k D E F f g h j l m n o p q r t u v w x y)) k b c d e s z A (λi a=>C (Ot k b i c d e f g h j l m n o p q r t u v w x y s a z A)) i a:=by kernel_rfl
theorem nDV(N:Nat)(b:CO→zW)(k c:Int)(d:rM)(e f g h j l m n o p q:Int)(r:Bool)(t:Y)(u:Bool)(v w x y z:Int)(s:Y)(A B:rM)(a:Nat):(λi C=>Vd (RH N b) a (Ot k c i d e f g h j l m n o p q r t u v w x y z s C A B))=Z3 Vm.kW Bp N (λk D E F=>b (eH k D E F g h j l m n o p q r t u v w x y z)) k c d e f s A B a:=by
 induction a with
 | zero=>rfl
 | succ a G=>
  funext i C;refine (nhb N b k c d e f g h j l m n o p q r t u v w x y z s A B (Vd (RH N b) a) i C).trans ?_;rw[G];rfl
theorem nb9(N:Nat)(d e f g h j l m n:Int)(o:Bool)(p:Y)(q:Bool)(r t u v w:Int)(x:CO→zW)(k:Int)(a:rM)(b c:Int):wm N x (eH k a b c d e f g h j l m n o p q r t u v w)=LR Vm.kW Bp (λk y z A B s C D i E=>Vd (RH N x) N (Ot k y i z A B d e f g h j l m n o p q r t u v w s E C D)) (λk a b c=>x (eH k a b c d e f g h j l m n o p q r t u v w)) k a b c:=by kernel_rfl
theorem ntZ(N:Nat)(b c d e f g h i j:Int)(l:Bool)(m:Y)(n:Bool)(o p q r t:Int)(a:Nat):(λk u v w=>Vd (wm N) a (eH k u v w b c d e f g h i j l m n o p q r t))=df Vm.kW Bp N a:=by
 induction a with
 | zero=>rfl
 | succ a x=>
  funext k u v w;refine (nb9 N b c d e f g h i j l m n o p q r t (Vd (wm N) a) k u v w).trans ?_;have y:=funext λk=>funext λz=>funext λA=>funext λB=>funext λC=>funext λs=>funext λD=>funext λE=>nDV N (Vd (wm N) a) k z A B C b c d e f g h i j l m n o p q r t s D E N;rw[y];rw[x];rfl
theorem nbR:UY hS 39 l6:=by refine RE (A:=WR) hmL func39 λb (a:i_ (kJ.ct++[]) b) aN=>?_;obtain⟨c,b,rfl,_,a⟩:=kJ.nX (r:=_) a;obtain rfl:=R5 a;obtain⟨N,d⟩:=nry Vm.kW Bp c aN;refine⟨N,Eq.trans ?_ (d.trans (by kernel_rfl))⟩;unfold dY;rw[←ntZ N 0 0 0 0 0 0 0 0 0 false [] false 0 0 0 0 0 N];kernel_rfl
def qJ:Sum:= {ps:=[⟨kJ.ct,true⟩,⟨sJ,false⟩],rs:=[⟨[.own 65 Gb],false⟩],fn:=λa=>(Uv (kJ.nd a 0) (yz a 3),[.sl (du (kJ.nd a 0) (yz a 3)).1]++kJ.enc (du (kJ.nd a 0) (yz a 3)).2),ms:=[some (.box 101),none]}
def nDe:Ctx:=[(31,fC),(32,Oe),(33,jJ),(34,qF),(35,Dw),(36,S8),(37,UK),(38,v5)]
theorem nhH:Wq hS nDe:=aU nx_ (aU niQ (aU F4 (aU W_ (aU SS (aU nZ (aU nwR (aU OK Ns)))))))
def neL:List (Nat×iT):=[(4, {cx:=[(0,.Ay),(1,.Ay),(5,.Ay),(6,.Ay),(7,.Ay)],boxes:=[(320000000,[])]})]
def nw1:rM→kJ→zW:=(λa b=>((true,[.sl a]++kJ.enc b):zW))
def nox(a:Bool)(k:Int)(b:rM)(c d:Int)(e Z:rM):CO:= {n:=1099511627872,sl:=[(0,.ptr 320000000 0),(1,.bool a),(5,.own 640320),(6,.own 640384),(7,D7 k)],hp:=[(320000000,.box 101 [.sl [.int .u8] b,D7 c,D7 d]),(640320,.row 65 Gb e false true),(640384,.row 63 s_ Z false true)]}
theorem nfd:UY hS 13 qJ:=by refine RE (A:=neL) nhH func13 λd (a:i_ (kJ.ct++sJ) d) aN=>?_;obtain⟨c,d,rfl,_,a⟩:=kJ.nX (r:=_) a;obtain⟨b,rfl,_⟩:=ZM a;obtain⟨N,e⟩:=ndR Vm.kW nw1 c b aN;exact⟨N,TX (λf=>uO Vm.kW nw1 f c b) (funext λZ=>wF (E0 hS nDe neL N f13 qJ [true,true,true,false,true,false] []) (λk g h i j=>nox b k g h i j Z) _ N) e⟩
def DU:Sum:= {ps:=[⟨kJ.ct,true⟩,⟨[.sl Gb],false⟩],rs:=[⟨[.own 9 VB,.own 134 UB,.eN .i,.eN .i,.eN .i,.eN .i,.eN .i,.eN .i,.eN .i,.own 3 vL,.deep 138 [.i,.i,.sl vL] [3],.eN .i,.own 74 CR,.deep 32 [.i,.i,.i,.sl vL] [3],.own 77 UC,.own 4 sJ,.eN .i,.eN .bool,.own 3 vL,.own 147 nS,.own 151 xT,.eN .str,.own 3 vL,.own 170 Qn,.eN .bool,.own 9 VB,.own 3 vL,.own 3 vL,.eN .i,.eN .i,.eN .i,.eN .i,.eN .i],true⟩],fn:=λa=>(S3 (kJ.nd a 0) (Zc a 3),QP.enc (te (kJ.nd a 0) (Zc a 3)).1++kJ.enc (te (kJ.nd a 0) (Zc a 3)).2),ms:=[some (.box 101),none]}
def ngG:Ctx:=[(39,l6),(40,gl),(41,yA)]
theorem ndV:Wq hS ngG:=aU nbR (aU nrt (aU nvp Ns))
def nvG:List (Nat×iT):=[(4, {cx:=[(0,.Ay),(1,.Ay),(4,.Ay),(5,.Ay),(6,.Ay),(7,.Ay)],boxes:=[(320000000,[]),(256,[]),(320,[])]})]
def ngU:QP→kJ→zW:=(λa b=>((true,QP.enc a++kJ.enc b):zW))
def njT(w:rM)(k:Int)(x:rM)(y z A a b c d e f g j:Int)(l:Bool)(m:Y)(o:Bool)(p q r s t h B u C D E F G H:Int)(I:Bool)(K:Y)(L:Bool)(M N O P Q:Int)(R v S T U W X Z xj rm rj qu qw qP uw sd se:rM):CO:= {n:=1099511627815,sl:=[(0,.ptr 320000000 0),(1,.sl Gb w),(4,.ptr 256 0),(5,.ptr 320 0),(6,.own 640384),(7,D7 k)],hp:=[(320000000,.box 101 [.sl [.int .u8] x,D7 y,D7 z]),(256,.box 54 [.nil,.nil,D7 A,D7 a,D7 b,D7 c,D7 d,D7 e,D7 f,.nil,.nil,D7 g,.nil,.nil,.nil,.nil,D7 j,.bool l,.nil,.nil,.nil,.str m,.nil,.nil,.bool o,.nil,.nil,.nil,D7 p,D7 q,D7 r,D7 s,D7 t]),(320,.box 54 [.own 1361920,.own 1361921,D7 h,D7 B,D7 u,D7 C,D7 D,D7 E,D7 F,.own 1361929,.own 1361930,D7 G,.own 1361932,.own 1361933,.own 1361934,.own 1361935,D7 H,.bool I,.own 1361938,.own 1361939,.own 1361940,.str K,.own 1361942,.own 1361943,.bool L,.own 1361945,.own 1361946,.own 1361947,D7 M,D7 N,D7 O,D7 P,D7 Q]),(640384,.row 63 s_ R false true),(1361920,.row 9 VB v false true),(1361921,.row 134 UB S false true),(1361929,.row 3 vL T false true),(1361930,.deep 138 [.i,.i,.sl vL] [3] U none),(1361932,.row 74 CR W false true),(1361933,.deep 32 [.i,.i,.i,.sl vL] [3] X none),(1361934,.row 77 UC Z false true),(1361935,.row 4 sJ xj false true),(1361938,.row 3 vL rm false true),(1361939,.row 147 nS rj false true),(1361940,.row 151 xT qu false true),(1361942,.row 3 vL qw false true),(1361943,.row 170 Qn qP false true),(1361945,.row 9 VB uw false true),(1361946,.row 3 vL sd false true),(1361947,.row 3 vL se false true)]}
theorem nxb:UY hS 14 DU:=by refine RE (A:=nvG) ndV func14 λf (a:i_ (kJ.ct++[.sl Gb]) f) aN=>?_;obtain⟨c,f,rfl,_,a⟩:=kJ.nX (r:=_) a;obtain⟨b,rfl,_⟩:=ga a;obtain⟨N,g⟩:=ncw Vm.kW ngU c b aN;exact⟨N,TX (λj=>uU Vm.kW ngU j c b) (funext λl=>funext λm=>funext λn=>funext λh=>funext λo=>funext λd=>funext λp=>funext λq=>funext λs=>funext λt=>funext λu=>funext λv=>funext λw=>funext λx=>funext λy=>funext λz=>funext λB=>funext λC=>funext λD=>funext λE=>funext λe=>funext λF=>funext λG=>funext λH=>funext λI=>funext λK=>funext λL=>funext λM=>funext λO=>funext λP=>funext λQ=>funext λR=>funext λS=>funext λT=>funext λU=>vI (E0 hS ngG nvG N f14 DU [true,true,true,false,true,false] []) (λk W=>njT b k l m n 0 0 0 0 0 0 0 0 0 false [] false 0 0 0 0 0 h o d p q s t u v w x y z B C D E W e F G H I K L M O P Q R (((fB c).1).oI) S T U) _ N) g⟩
def nz_:Sum:= {ps:=[⟨[.sl [.int .u8]],false⟩],rs:=[⟨[.eN (.sl VB),.eN (.sl UB),.eN .i,.eN .i,.eN .i,.eN .i,.eN .i,.eN .i,.eN .i,.eN (.sl vL),.eN (.sl [.i,.i,.sl vL]),.eN .i,.eN (.sl CR),.eN (.sl [.i,.i,.i,.sl vL]),.eN (.sl UC),.eN (.sl sJ),.eN .i,.eN .bool,.eN (.sl vL),.eN (.sl nS),.eN (.sl xT),.eN .str,.eN (.sl vL),.eN (.sl Qn),.eN .bool,.eN (.sl VB),.eN (.sl vL),.eN (.sl vL),.eN .i,.eN .i,.eN .i,.eN .i,.eN .i],true⟩,⟨[.eN (.sl Gb)],false⟩],fn:=λa=>(true,QP.enc (aH (Zc a 0)).1++[.sl (aH (Zc a 0)).2])}
theorem nAP:gk hS 6 nz_:=by refine ly (Γ:=[(12,SH),(13,qJ),(14,DU)]) (aU nnX (aU nfd (aU nxb Ns))) func6 λb (c:i_ ([.sl [.int .u8]]) b) _=>?_;obtain⟨a,rfl,d⟩:=ga c;exact⟨0,BL (nmL Vm.kW (λe f=>((true,QP.enc e++[.sl f]):zW)) a d)⟩
def nyf:Sum:= {ps:=[⟨QP.ct,true⟩,⟨Uy.ct,true⟩],rs:=[⟨[.eN (.sl VB),.eN (.sl UB),.eN .i,.eN .i,.eN .i,.eN .i,.eN .i,.eN .i,.eN .i,.eN (.sl vL),.eN (.sl [.i,.i,.sl vL]),.eN .i,.eN (.sl CR),.eN (.sl [.i,.i,.i,.sl vL]),.eN (.sl UC),.eN (.sl sJ),.eN .i,.eN .bool,.eN (.sl vL),.eN (.sl nS),.eN (.sl xT),.eN .str,.eN (.sl vL),.eN (.sl Qn),.eN .bool,.eN (.sl VB),.eN (.sl vL),.eN (.sl vL),.eN .i,.eN .i,.eN .i,.eN .i,.eN .i],true⟩,⟨[.eN .i],false⟩],fn:=λa=>(XJ (QP.nd a 0) (Uy.nd a 33),QP.enc (YQ (QP.nd a 0) (Uy.nd a 33)).1++[.int (YQ (QP.nd a 0) (Uy.nd a 33)).2])}
theorem nn4:gk hS 7 nyf:=by refine ly (Γ:=[(8,fI),(15,nrY),(16,nEg),(17,nds),(18,V_),(19,px),(20,CB)]) (aU nky (aU hfP (aU nzZ (aU nq5 (aU ncy (aU ncN (aU nri Ns))))))) func7 λc (b:i_ (QP.ct++(Uy.ct++[])) c) aN=>?_;obtain⟨h,c,rfl,_,b⟩:=QP.nX (r:=_) b;obtain⟨a,c,rfl,_,b⟩:=Uy.nX (r:=_) b;obtain rfl:=R5 b;exact⟨0,BL (nux Vm.kW (λd e=>((true,QP.enc d++[.int e]):zW)) h a aN)⟩
def IC:Sum:= {ps:=[⟨[.sl [.int .u8]],false⟩],rs:=[⟨[.eN .bool],false⟩],fn:=λa=>(kP ((.sl [.int .u8])::([])) a,[.bool true])}
def EB:Ctx:=[(5,nuE),(6,nz_),(7,nyf),(8,fI),(9,Rs)]
theorem nCk:Wq hS EB:=aU ndm (aU nAP (aU nn4 (aU nky (aU Ql Ns))))
def fc:List (Nat×iT):=[(7, {cx:=[(3,.Ay),(4,.Ay),(5,.Ay),(6,.Ay),(7,.Ay)],boxes:=[(192,[]),(384,[])]})]
def wq:Bool→zW:=(λa=>((true,[.bool a]):zW))
def C9(G:rM)(n k:Int)(h H:rM)(a I K L M N O:Int)(P Q:rM)(R:Int)(S T U W:rM)(X:Int)(Z:Bool)(rm rj qu:rM)(qS:Y)(qw qP:rM)(sK:Bool)(uw sd se:rM)(ru sT sU sZ sV:Int)(x oc:rM)(oE yj vi N7 b c Z0:Int)(d e:rM)(f:Int)(g j l m:rM)(o:Int)(p:Bool)(q r s:rM)(t:Y)(u v:rM)(w:Bool)(y z A:rM)(B C D E F:Int):CO:= {n:=75,sl:=[(3,.ptr 192 0),(4,.sl Gb G),(5,D7 n),(6,.ptr 384 0),(7,D7 k)],hp:=[(192,.box 54 [.sl VB h,.sl UB H,D7 a,D7 I,D7 K,D7 L,D7 M,D7 N,D7 O,.sl vL P,.sl [.i,.i,.sl vL] Q,D7 R,.sl CR S,.sl [.i,.i,.i,.sl vL] T,.sl UC U,.sl sJ W,D7 X,.bool Z,.sl vL rm,.sl nS rj,.sl xT qu,.str qS,.sl vL qw,.sl Qn qP,.bool sK,.sl VB uw,.sl vL sd,.sl vL se,D7 ru,D7 sT,D7 sU,D7 sZ,D7 sV]),(384,.box 54 [.sl VB x,.sl UB oc,D7 oE,D7 yj,D7 vi,D7 N7,D7 b,D7 c,D7 Z0,.sl vL d,.sl [.i,.i,.sl vL] e,D7 f,.sl CR g,.sl [.i,.i,.i,.sl vL] j,.sl UC l,.sl sJ m,D7 o,.bool p,.sl vL q,.sl nS r,.sl xT s,.str t,.sl vL u,.sl Qn v,.bool w,.sl VB y,.sl vL z,.sl vL A,D7 B,D7 C,D7 D,D7 E,D7 F])]}
noncomputable def Ri(N:Nat):(CO→zW)→CO→zW:=HN hS EB fc N f3 IC [true,true,true,true,true,false,true,false] []
theorem nav(N:Nat)(M h P:rM)(E Q R S T U W:Int)(X Z:rM)(wO:Int)(sQ qI rr qH:rM)(ri:Int)(sR:Bool)(rm rj qu:rM)(qS:Y)(qw qP:rM)(sK:Bool)(uw sd se:rM)(O sT sU sZ sV:Int)(ih:CO→zW)(n k:Int)(x F:rM)(G H I K a b L:Int)(c d:rM)(e:Int)(f g i j:rM)(l:Int)(m:Bool)(o p q:rM)(r:Y)(s t:rM)(u:Bool)(v w y:rM)(z A B C D:Int):Ri N ih (C9 M n k h P E Q R S T U W X Z wO sQ qI rr qH ri sR rm rj qu qS qw qP sK uw sd se O sT sU sZ sV x F G H I K a b L c d e f g i j l m o p q r s t u v w y z A B C D)=Zn Vm.kW wq M O (λn k x F G H I K a b L c d e f g i j l m o p q r s t u v w y z A B C D=>ih (C9 M n k h P E Q R S T U W X Z wO sQ qI rr qH ri sR rm rj qu qS qw qP sK uw sd se O sT sU sZ sV x F G H I K a b L c d e f g i j l m o p q r s t u v w y z A B C D)) n k x F G H I K a b L c d e f g i j l m o p q r s t u v w y z A B C D:=by kernel_rfl
theorem nbJ(N:Nat)(G h Q:rM)(E R S T U W X:Int)(Z sP:rM)(wO:Int)(sQ qI rr qH:rM)(ri:Int)(sR:Bool)(rm rj qu:rM)(qS:Y)(qw qP:rM)(sK:Bool)(uw sd se:rM)(H sT sU sZ sV:Int)(F:Nat):(λn k x I K L M O a b P c d e f g i j l m o p q r s t u v w y z A B C D=>Vd (Ri N) F (C9 G n k h Q E R S T U W X Z sP wO sQ qI rr qH ri sR rm rj qu qS qw qP sK uw sd se H sT sU sZ sV x I K L M O a b P c d e f g i j l m o p q r s t u v w y z A B C D))=gy Vm.kW wq N G H F:=by
 induction F with
 | zero=>rfl
 | succ F ih=>
  funext n k x I K L M O a b P c d e f g i j l m o p q r s t u v w y z A B C D;refine (nav N G h Q E R S T U W X Z sP wO sQ qI rr qH ri sR rm rj qu qS qw qP sK uw sd se H sT sU sZ sV (Vd (Ri N) F) n k x I K L M O a b P c d e f g i j l m o p q r s t u v w y z A B C D).trans ?_;rw[ih];rfl
theorem nm4(N:Nat)(a:rM):Xe hS EB fc N f3 IC (.sl a::([]))=bh Vm.kW wq N a:=by
 have G:Xe hS EB fc N f3 IC (.sl a::([]))=Ug Vm.kW wq (λb c n k x H I K L M d e O f g h i j l m o p q r s t u v w y z A B C D E F=>Vd (Ri N) N (C9 b n k ((((aH a).1).oa).nQ) (((aH a).1).ei) (((((aH a).1).Tx).d5).nW) (((((aH a).1).Tx).d5).nA) (((((aH a).1).Tx).d5).ej) (((((aH a).1).Tx).d5).pj) (((((aH a).1).Tx).nM).nW) (((((aH a).1).Tx).nM).nA) (((((aH a).1).Tx).nM).d9) (((((aH a).1).Tx).nM).oq) ((((aH a).1).Tx).nx) ((((aH a).1).Tx).en) (((aH a).1).Rx) (((aH a).1).oh) (((aH a).1).nL) (((aH a).1).n8) ((((aH a).1).ec).N8) ((((aH a).1).ec).n9) ((((aH a).1).ec).pO) ((((aH a).1).ni).oQ) (((((aH a).1).ni).eb).nO) (((((aH a).1).ni).nV).eJ) (((((aH a).1).ni).nV).eb) (((aH a).1).oI) (((aH a).1).oU) (((aH a).1).tB) (((aH a).1).ox) (((aH a).1).oV) c ((((aH a).1).d4).zN) ((((aH a).1).d4).oB) ((((aH a).1).d4).oZ) ((((aH a).1).d4).qE) x H I K L M d e O f g h i j l m o p q r s t u v w y z A B C D E F)) a:=by kernel_rfl
 refine G.trans ?_;unfold bh;have P:(λb c n k x H I K L M d e O f g h i j l m o p q r s t u v w y z A B C D E F=>Vd (Ri N) N (C9 b n k ((((aH a).1).oa).nQ) (((aH a).1).ei) (((((aH a).1).Tx).d5).nW) (((((aH a).1).Tx).d5).nA) (((((aH a).1).Tx).d5).ej) (((((aH a).1).Tx).d5).pj) (((((aH a).1).Tx).nM).nW) (((((aH a).1).Tx).nM).nA) (((((aH a).1).Tx).nM).d9) (((((aH a).1).Tx).nM).oq) ((((aH a).1).Tx).nx) ((((aH a).1).Tx).en) (((aH a).1).Rx) (((aH a).1).oh) (((aH a).1).nL) (((aH a).1).n8) ((((aH a).1).ec).N8) ((((aH a).1).ec).n9) ((((aH a).1).ec).pO) ((((aH a).1).ni).oQ) (((((aH a).1).ni).eb).nO) (((((aH a).1).ni).nV).eJ) (((((aH a).1).ni).nV).eb) (((aH a).1).oI) (((aH a).1).oU) (((aH a).1).tB) (((aH a).1).ox) (((aH a).1).oV) c ((((aH a).1).d4).zN) ((((aH a).1).d4).oB) ((((aH a).1).d4).oZ) ((((aH a).1).d4).qE) x H I K L M d e O f g h i j l m o p q r s t u v w y z A B C D E F))=(λb c=>gy Vm.kW wq N b c N):=by funext b c;exact nbJ N b ((((aH a).1).oa).nQ) (((aH a).1).ei) (((((aH a).1).Tx).d5).nW) (((((aH a).1).Tx).d5).nA) (((((aH a).1).Tx).d5).ej) (((((aH a).1).Tx).d5).pj) (((((aH a).1).Tx).nM).nW) (((((aH a).1).Tx).nM).nA) (((((aH a).1).Tx).nM).d9) (((((aH a).1).Tx).nM).oq) ((((aH a).1).Tx).nx) ((((aH a).1).Tx).en) (((aH a).1).Rx) (((aH a).1).oh) (((aH a).1).nL) (((aH a).1).n8) ((((aH a).1).ec).N8) ((((aH a).1).ec).n9) ((((aH a).1).ec).pO) ((((aH a).1).ni).oQ) (((((aH a).1).ni).eb).nO) (((((aH a).1).ni).nV).eJ) (((((aH a).1).ni).nV).eb) (((aH a).1).oI) (((aH a).1).oU) (((aH a).1).tB) (((aH a).1).ox) (((aH a).1).oV) c ((((aH a).1).d4).zN) ((((aH a).1).d4).oB) ((((aH a).1).d4).oZ) ((((aH a).1).d4).qE) N
 exact congrArg (λQ=>Ug Vm.kW wq Q a) P
theorem nhh:gk hS 3 IC:=by refine lH (A:=fc) nCk func3 λb (c:i_ ([.sl [.int .u8]]) b) aN=>?_;obtain⟨a,rfl,d⟩:=ga c;obtain⟨N,e⟩:=njU Vm.kW wq a d aN;exact⟨N,((nm4 N a).trans e).trans (by kernel_rfl)⟩
end
end Go.Proofs.YteffpikahopfoaaGreat.Pl
