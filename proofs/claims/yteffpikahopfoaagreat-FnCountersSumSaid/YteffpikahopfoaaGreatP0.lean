/- Plain forms. Conditions: as each says. -/
import Derived.Test.YteffpikahopfoaaGreatPre
import Derived.Test.YteffpikahopfoaaGreatLem
import Derived.Test.YteffpikahopfoaaGreatBit
import Derived.Test.YteffpikahopfoaaGreatDp
set_option linter.unusedVariables false
set_option linter.unusedSimpArgs false
set_option maxRecDepth 100000
open Int renaming toNat→lq,tmod→lZ,tdiv→l_,eq_ofNat_of_zero_le→nH,emod_nonneg→oR,tmod_eq_emod_of_nonneg→oT,toNat_of_nonneg→pv,emod_lt_of_pos→pA
open List renaming length_nil→l9,replicate→mf,length_drop→my,length_take→m8,length→m_,set→nq,getD_eq_getElem?_getD→ns,append_assoc→nF,length_replicate→oo,drop_eq_getElem_cons→oS,length_eq_zero_iff→pa,length_map→ph,all_cons→pS,append_nil→p0,all_eq_true→p6,foldl_cons→p8,map_cons→p9,map_replicate→qn,take_length→q4,getElem_of_mem→ra,getElem?_replicate_of_lt→r0,drop_eq_nil_of_le→r8
open Go.IntKind renaming wrap→ma,max→q0,signed→rI
open Bool renaming not_true→mc,not_not→o0,and_self→q5
open Nat renaming zero_add→mg,zero_le→m7,le_refl→pf
open BitVec renaming ofInt→m9
namespace Go.Proofs.YteffpikahopfoaaGreat.Pl
open Vm
noncomputable section
abbrev fN(α:Type):Type:=Int→Int→Int→Int→Int→Int→rM→α
abbrev oM(α:Type):Type:=Int→rM→Int→Int→rM→α
abbrev vL:List CT:=[.i]
abbrev VB:List CT:=[.str]
abbrev UB:List CT:=[.i,.i,.i,.bool]
abbrev nS:List CT:=[.i,.i,.i,.i,.i,.i,.i,.i,.i]
abbrev xT:List CT:=[.i,.i,.i,.i,.i,.i,.i]
abbrev Qn:List CT:=[.i,.i,.i,.i,.i,.i,.str,.bool]
abbrev sJ:List CT:=[.bool]
abbrev bG:List CT:=[.i,.i]
abbrev CR:List CT:=[.i,.i,.i,.i,.i,.i,.i,.i,.i,.i,.i,.i,.i,.i,.i,.i,.i,.i,.i,.i,.i,.i,.i,.i,.i,.str,.i,.i,.bool,.i]
abbrev UC:List CT:=[.i,.i,.i,.i,.bool,.bool]
abbrev WT:List CT:=[.i,.i,.i,.i,.i,.i]
abbrev s_:List CT:=[.i,.i,.i,.i,.i,.i,.i,.i,.i,.i,.i,.i,.i,.i,.i,.str]
abbrev Gb:List CT:=[.i,.i,.i,.i,.i,.i,.i,.i,.i,.i,.i,.i,.i,.i,.i,.i,.str,.i,.i,.str,.i]
variable {α:Type} (kW:α)
structure AP where
 N8:Int
 n9:Bool
 pO:rM
def AP.enc(x:AP):List DC:=[.int x.N8,.bool x.n9,.sl x.pO]
def AP.nd(r:List DC)(o:Nat):AP:=⟨J r (o+0),yz r (o+1),Zc r (o+2)⟩
def AP.ct:List CT:=[.i,.bool,.sl vL]
theorem AP.eta{r:List DC}(h:i_ AP.ct r):(AP.nd r 0).enc=r:=(show (AP.nd r 0).enc=nK AP.ct r 0 from by kernel_rfl).trans (DG h)
theorem AP.nX{r:List CT}{b:List DC}(h:i_ (AP.ct++r) b):∃(x:AP) (c:List DC),b=x.enc++c∧i_ AP.ct x.enc∧i_ r c:=by obtain⟨d,e,rfl,a,f⟩:=Vi h;exact⟨AP.nd d 0,e,by rw[AP.eta a],by rw[AP.eta a];exact a,f⟩
theorem AP.nzM{x:AP}(h:i_ AP.ct x.enc):Oj (.sl vL) (.sl x.pO):=Fh 2 h rfl rfl
def vU(a:Bool→α)(n c b:Int):α:=a (bif decide (c≤n) then decide (n≤b) else false)
def nn(n b a:Int):Bool:=vU id n b a
theorem nB0(a:Bool→α)(n c b:Int):vU a n c b=a (nn n c b):=by rfl
def Ow(a:Bool→α)(n:Int)(l:rM)(c:Int)(d:Int→α)(b:Int):α:=bif decide (b<c) then bif Bk true (idx b l) then bif (J (V l (lq b)) 0)==n then a true else d (ZK (b+1)) else kW else a false
def oO(a:Bool→α)(N:Nat)(n:Int)(l:rM)(b:Int)(c:Nat):Int→α:=WS (λ_=>kW) (Ow kW a n l b) c
theorem nCf(a:Bool→α)(N:Nat)(n:Int)(l:rM)(b:Int)(c:Nat):oO kW a N n l b (c+1)=Ow kW a n l b (oO kW a N n l b c):=rfl
def xZ(kW:α)(a:Bool→α)(b:Int→Int→α)(l:rM)(n:Int):α:=b (len l) 0
def nAh(a:Bool→α)(N:Nat)(l:rM)(n:Int):α:=xZ kW a (λb=>oO kW a N n l b N) l n
def eD(l:rM)(n:Int):Bool:=Pt (λ_ r=>(J r 0)==n) l 0
theorem nuv(a:Bool→α)(l:rM)(n:Int)(b:Oj (.sl vL) (.sl l)):∃N,nAh kW a N l n=a (eD l n):=by
 obtain⟨d,_⟩:=jD b;refine⟨l.length+1, ?_⟩;unfold nAh xZ;refine (P6 l (oO kW a (l.length+1) n l (len l)) (λi r c=>bif (J r 0)==n then a true else c) (a false) ?_ ?_).trans ?_
 ·intro n i h;rw[nCf];simp only[Ow,T9 h,uH h,Q8 h d,lN,cd,TK,HI]
 ·intro n;rw[nCf];simp only[Ow,hO,rl]
 ·exact (NS (λ_ r=>(J r 0)==n) (a true) (a false) l 0).trans (by unfold eD;cases Pt (λ_ r=>(J r 0)==n) l 0<;>rfl)
def WI(a:Bool→α)(x:rM)(e f:Int)(c:rM)(g:Int→α)(b:Int):α:=let d:Bool:= !(nn (J (V x (lq b)) 0) 0 4095);bif decide (b<e) then bif Bk true (idx b x) then bif lV d true (lV (decide (0<b)) (Bk true (idx (ZK (b - 1)) c)) true) then bif bif d then true else bif decide (0<b) then decide (J (V x (lq b)) 0≤J (V c (lq (ZK (b - 1)))) 0) else false then a false else g (ZK (b+1)) else kW else kW else a (bif nn f 0 281474976710654 then decide (len c≤8) else false)
def HH(a:Bool→α)(N:Nat)(x:rM)(b c:Int)(d:rM)(e:Nat):Int→α:=WS (λ_=>kW) (WI kW a x b c d) e
theorem nh3(a:Bool→α)(N:Nat)(x:rM)(b c:Int)(d:rM)(e:Nat):HH kW a N x b c d (e+1)=WI kW a x b c d (HH kW a N x b c d e):=rfl
def P_(kW:α)(a:Bool→α)(b:rM→Int→Int→rM→Int→α)(f:AP):α:=b f.pO (len f.pO) f.N8 f.pO 0
def nx1(a:Bool→α)(N:Nat)(f:AP):α:=P_ kW a (λx b c d=>HH kW a N x b c d N) f
def mG(f:AP):Bool:=bif Pt (λi r=>bif !(nn (J r 0) 0 4095) then true else bif decide ((0:Int)<(i:Int)) then decide (J r 0≤J (V f.pO (lq (ZK ((i:Int) - 1)))) 0) else false) f.pO 0 then false else bif nn f.N8 0 281474976710654 then decide (len f.pO≤8) else false
theorem nBQ(a:Bool→α)(f:AP)(d:i_ AP.ct f.enc):∃N,nx1 kW a N f=a (mG f):=by
 obtain⟨e,_⟩:=jD (AP.nzM d);refine⟨f.pO.length+1, ?_⟩;unfold nx1 P_;refine (P6 f.pO (HH kW a (f.pO.length+1) f.pO (len f.pO) f.N8 f.pO) (λi r c=>bif bif !(nn (J r 0) 0 4095) then true else bif decide ((0:Int)<(i:Int)) then decide (J r 0≤J (V f.pO (lq (ZK ((i:Int) - 1)))) 0) else false then a false else c) (a (bif nn f.N8 0 281474976710654 then decide (len f.pO≤8) else false)) ?_ ?_).trans ?_
 ·intro n i h;have g:decide ((0:Int)<(i:Int))=true→idx (ZK ((i:Int) - 1)) f.pO=true:=by intro b;have b:=of_decide_eq_true b;rw[Ou,show (i:Int) - 1=((i - 1:Nat):Int) by omega];exact uH (by omega)
  rw[nh3];simp only[WI,T9 h,uH h,Q8 h e,lN,cd,TK,HI];exact O3 (eE (λ_=>rfl) (λ_=>eE (λb=>g b) (λ_=>rfl)))
 ·intro n;rw[nh3];simp only[WI,hO,rl]
 ·refine (NS (λi r=>bif !(nn (J r 0) 0 4095) then true else bif decide ((0:Int)<(i:Int)) then decide (J r 0≤J (V f.pO (lq (ZK ((i:Int) - 1)))) 0) else false) _ _ f.pO 0).trans ?_;exact cU rfl rfl
def O6(a:Bool→α)(d:Int)(b:rM)(e:Int→α)(k:Int):α:=let c:Bool:= !(nn (J (V b (lq k)) 0) 0 4095);bif decide (k<len b) then bif lV c (Bk true (idx k b)) (lV (decide (0<k)) (Bk (Bk (Bk true (idx k b)) (idx k b)) (idx (ZK (k - 1)) b)) (Bk true (idx k b))) then bif bif c then true else bif decide (0<k) then decide (J (V b (lq k)) 0≤J (V b (lq (ZK (k - 1)))) 0) else false then a false else e (ZK (k+1)) else kW else a (bif nn d 0 281474976710654 then decide (len b≤8) else false)
def o8(a:Bool→α)(N:Nat)(b:Int)(c:rM)(d:Nat):Int→α:=WS (λ_=>kW) (O6 kW a b c) d
theorem nAY(a:Bool→α)(N:Nat)(b:Int)(c:rM)(d:Nat):o8 kW a N b c (d+1)=O6 kW a b c (o8 kW a N b c d):=rfl
def CA(kW:α)(a:Bool→α)(b:Int→rM→Int→α)(f:AP):α:=b f.N8 f.pO 0
def nA_(a:Bool→α)(N:Nat)(f:AP):α:=CA kW a (λb c=>o8 kW a N b c N) f
theorem niX(a:Bool→α)(f:AP)(d:i_ AP.ct f.enc):∃N,nA_ kW a N f=a (mG f):=by
 obtain⟨e,_⟩:=jD (AP.nzM d);refine⟨f.pO.length+1, ?_⟩;unfold nA_ CA;refine (P6 f.pO (o8 kW a (f.pO.length+1) f.N8 f.pO) (λi r c=>bif bif !(nn (J r 0) 0 4095) then true else bif decide ((0:Int)<(i:Int)) then decide (J r 0≤J (V f.pO (lq (ZK ((i:Int) - 1)))) 0) else false then a false else c) (a (bif nn f.N8 0 281474976710654 then decide (len f.pO≤8) else false)) ?_ ?_).trans ?_
 ·intro n i h;have g:decide ((0:Int)<(i:Int))=true→idx (ZK ((i:Int) - 1)) f.pO=true:=by intro b;have b:=of_decide_eq_true b;rw[Ou,show (i:Int) - 1=((i - 1:Nat):Int) by omega];exact uH (by omega)
  rw[nAY];simp only[O6,T9 h,uH h,Q8 h e,lN,cd,TK,HI];exact O3 (eE (λ_=>rfl) (λ_=>eE (λb=>g b) (λ_=>rfl)))
 ·intro n;rw[nAY];simp only[O6,hO,rl]
 ·refine (NS (λi r=>bif !(nn (J r 0) 0 4095) then true else bif decide ((0:Int)<(i:Int)) then decide (J r 0≤J (V f.pO (lq (ZK ((i:Int) - 1)))) 0) else false) _ _ f.pO 0).trans ?_;exact cU rfl rfl
structure ch where
 eh:Int
 oC:Int
 oz:Int
 e4:Int
 XY:Int
 ez:Int
 su:Int
 ed:Y
def ch.enc(x:ch):List DC:=[.int x.eh,.int x.oC,.int x.oz,.int x.e4,.int x.XY,.int x.ez,.int x.su,.str x.ed]
def ch.nd(r:List DC)(o:Nat):ch:=⟨J r (o+0),J r (o+1),J r (o+2),J r (o+3),J r (o+4),J r (o+5),J r (o+6),fJ r (o+7)⟩
def ch.ct:List CT:=[.i,.i,.i,.i,.i,.i,.i,.str]
theorem ch.eta{r:List DC}(h:i_ ch.ct r):(ch.nd r 0).enc=r:=(show (ch.nd r 0).enc=nK ch.ct r 0 from by kernel_rfl).trans (DG h)
theorem ch.nX{r:List CT}{b:List DC}(h:i_ (ch.ct++r) b):∃(x:ch) (c:List DC),b=x.enc++c∧i_ ch.ct x.enc∧i_ r c:=by obtain⟨d,e,rfl,a,f⟩:=Vi h;exact⟨ch.nd d 0,e,by rw[ch.eta a],by rw[ch.eta a];exact a,f⟩
theorem ch.nob{x:ch}(h:i_ ch.ct x.enc):Oj .i (.int x.eh):=Fh 0 h rfl rfl
theorem ch.nmf{x:ch}(h:i_ ch.ct x.enc):Oj .i (.int x.oC):=Fh 1 h rfl rfl
theorem ch.nme{x:ch}(h:i_ ch.ct x.enc):Oj .i (.int x.oz):=Fh 2 h rfl rfl
theorem ch.nD0{x:ch}(h:i_ ch.ct x.enc):Oj .i (.int x.e4):=Fh 3 h rfl rfl
theorem ch.nCz{x:ch}(h:i_ ch.ct x.enc):Oj .i (.int x.ez):=Fh 5 h rfl rfl
theorem ch.nAR{x:ch}(h:i_ ch.ct x.enc):Oj .str (.str x.ed):=Fh 7 h rfl rfl
structure oY where
 rA:Int
 rN:Int
 rX:Int
 S9:Int
 Id:Int
 Ta:Int
 py:Int
 pN:Int
 pk:ch
def oY.enc(x:oY):List DC:=[.int x.rA,.int x.rN,.int x.rX,.int x.S9,.int x.Id,.int x.Ta,.int x.py,.int x.pN,.int x.pk.eh,.int x.pk.oC,.int x.pk.oz,.int x.pk.e4,.int x.pk.XY,.int x.pk.ez,.int x.pk.su,.str x.pk.ed]
def oY.nd(r:List DC)(o:Nat):oY:=⟨J r (o+0),J r (o+1),J r (o+2),J r (o+3),J r (o+4),J r (o+5),J r (o+6),J r (o+7),ch.nd r (o+8)⟩
def oY.ct:List CT:=s_
theorem oY.eta{r:List DC}(h:i_ oY.ct r):(oY.nd r 0).enc=r:=(show (oY.nd r 0).enc=nK oY.ct r 0 from by kernel_rfl).trans (DG h)
theorem oY.nX{r:List CT}{b:List DC}(h:i_ (oY.ct++r) b):∃(x:oY) (c:List DC),b=x.enc++c∧i_ oY.ct x.enc∧i_ r c:=by obtain⟨d,e,rfl,a,f⟩:=Vi h;exact⟨oY.nd d 0,e,by rw[oY.eta a],by rw[oY.eta a];exact a,f⟩
theorem oY.nAU{x:oY}(h:i_ oY.ct x.enc):Oj .i (.int x.rX):=Fh 2 h rfl rfl
theorem oY.nD2{x:oY}(h:i_ oY.ct x.enc):Oj .i (.int x.S9):=Fh 3 h rfl rfl
theorem oY.nEt{x:oY}(h:i_ oY.ct x.enc):Oj .i (.int x.Id):=Fh 4 h rfl rfl
theorem oY.nD3{x:oY}(h:i_ oY.ct x.enc):Oj .i (.int x.Ta):=Fh 5 h rfl rfl
theorem oY.nod{x:oY}(h:i_ oY.ct x.enc):Oj .i (.int x.py):=Fh 6 h rfl rfl
theorem oY.nv2{x:oY}(h:i_ oY.ct x.enc):Oj .i (.int x.pN):=Fh 7 h rfl rfl
theorem oY.nDZ{x:oY}(h:i_ oY.ct x.enc):i_ ch.ct x.pk.enc:=cW 8 8 h
def dq(a:Bool→α)(g:ch):α:=bif bif !(nn g.oC 0 65535) then true else bif !(nn g.oz 0 65535) then true else decide (320<len g.ed) then a false else bif g.eh==6 then a (bif nn g.e4 0 4294967295 then bif nn g.XY 0 4294967295 then bif nn g.ez 0 31 then nn g.su 0 65535 else false else false else false) else bif g.eh==17 then a (bif g.e4==0 then bif g.XY==0 then bif g.ez==0 then g.su==0 else false else false else false) else a false
def Xi(g:ch):Bool:=dq id g
theorem nht(a:Bool→α)(g:ch):dq a g=a (Xi g):=by exact cU rfl (cU rfl (cU rfl rfl))
def nrx(a:Bool→α)(g:ch):α:=bif bif !(nn g.oC 0 65535) then true else bif !(nn g.oz 0 65535) then true else decide (320<len g.ed) then a false else bif g.eh==17 then a (bif g.e4==0 then bif g.XY==0 then bif g.ez==0 then g.su==0 else false else false else false) else a (bif g.eh==6 then bif nn g.e4 0 4294967295 then bif nn g.XY 0 4294967295 then bif nn g.ez 0 31 then nn g.su 0 65535 else false else false else false else false)
theorem ngF(a:Bool→α)(g:ch):nrx a g=a (Xi g):=by
 unfold nrx Xi dq;refine cU rfl ?_;by_cases b:g.eh=6
 ·have c:(g.eh==17)=false:=by rw[b];rfl
  have h6':(g.eh==6)=true:=by rw[b];rfl
  rw[c,h6'];rfl
 ·have h6':(g.eh==6)=false:=by simpa using b
  rw[h6'];cases (g.eh==17)<;>rfl
def nyi(a:Bool→α)(b:Int):α:=a (bif (bits .and .i64 b 16) != 0 then (bits .andNot .i64 b 25)==0 else false)
def EY(a:Int):Bool:=nyi id a
theorem nlJ(a:Bool→α)(b:Int):nyi a b=a (EY b):=by rfl
def HG(a:Bool→α)(p:oY):α:=a (bif nn p.rA 0 281474976710655 then bif nn p.rN 0 281474976710655 then bif nn p.rX (-1) 4095 then bif nn p.S9 0 255 then bif nn p.Ta 0 255 then bif nn p.Id 0 65535 then bif nn p.py 0 4294967295 then bif nn p.pN 0 4294967295 then bif Xi p.pk then bif decide (len p.pk.ed≤128) then true else bif p.pk.eh==6 then EY p.pk.ez else false else false else false else false else false else false else false else false else false else false)
def rZ(p:oY):Bool:=HG id p
theorem nqR(a:Bool→α)(p:oY):HG a p=a (rZ p):=by rfl
def nke(a:Bool→α)(p:oY):α:=bif bif !(nn p.rA 0 281474976710655) then true else bif !(nn p.rN 0 281474976710655) then true else bif !(nn p.rX (-1) 4095) then true else bif !(nn p.S9 0 255) then true else bif !(nn p.Ta 0 255) then true else bif !(nn p.Id 0 65535) then true else bif !(nn p.py 0 4294967295) then true else bif !(nn p.pN 0 4294967295) then true else !(Xi p.pk) then a false else a (bif bif p.pk.eh==6 then (bits .andNot .i64 p.pk.ez 9)==16 else false then true else decide (len p.pk.ed≤128))
theorem nnj{f:Int}(h:nn f 0 31=true):((bits .andNot .i64 f 9)==16)=EY f:=by
 have key:∀n:Fin 32,((bits .andNot .i64 ((n.val:Nat):Int) 9)==16)=EY ((n.val:Nat):Int):=by decide+kernel
 have c:0≤f∧f≤31:=by
  unfold nn vU at h;by_cases a:0≤f
  ·by_cases b:f≤31
   ·exact⟨a,b⟩
   ·simp[a,b] at h
  ·simp[a] at h
 have:=key ⟨f.toNat,by omega⟩;simp only at this;rw[show ((f.toNat:Nat):Int)=f by omega] at this;exact this
theorem nwu{g:ch}(h:Xi g=true)(a:(g.eh==6)=true):nn g.ez 0 31=true:=by
 unfold Xi dq at h;rw[a] at h;cases b:nn g.ez 0 31
 ·rw[b] at h;revert h;cases (bif !(nn g.oC 0 65535) then true else bif !(nn g.oz 0 65535) then true else decide (320<len g.ed))<;>cases nn g.e4 0 4294967295<;>cases nn g.XY 0 4294967295<;>simp
 ·rfl
theorem nqf(a:Bool→α)(p:oY):nke a p=a (rZ p):=by
 unfold nke rZ HG;cases nn p.rA 0 281474976710655
 ·rfl
 cases nn p.rN 0 281474976710655
 ·rfl
 cases nn p.rX (-1) 4095
 ·rfl
 cases nn p.S9 0 255
 ·rfl
 cases nn p.Ta 0 255
 ·rfl
 cases nn p.Id 0 65535
 ·rfl
 cases nn p.py 0 4294967295
 ·rfl
 cases nn p.pN 0 4294967295
 ·rfl
 cases b:Xi p.pk
 ·rfl
 cases c:(p.pk.eh==6)
 ·cases decide (len p.pk.ed≤128)<;>rfl
 ·rw[nnj (nwu b c)];cases EY p.pk.ez<;>cases decide (len p.pk.ed≤128)<;>rfl
def CU(a:Int→α)(b d:Int)(Z:rM)(e:Int)(f:Int→α)(c:Int):α:=bif decide (c<e) then bif Bk true (idx c Z) then bif bif (J (V Z (lq c)) 0)==b then (J (V Z (lq c)) 1)==d else false then a c else f (ZK (c+1)) else kW else a (-1)
def sD(a:Int→α)(N:Nat)(b c:Int)(Z:rM)(d:Int)(e:Nat):Int→α:=WS (λ_=>kW) (CU kW a b c Z d) e
theorem nAE(a:Int→α)(N:Nat)(b c:Int)(Z:rM)(d:Int)(e:Nat):sD kW a N b c Z d (e+1)=CU kW a b c Z d (sD kW a N b c Z d e):=rfl
def x_(kW:α)(a:Int→α)(c:Int→Int→α)(Z:rM)(b d:Int):α:=c (len Z) 0
def nlj(a:Int→α)(N:Nat)(Z:rM)(b c:Int):α:=x_ kW a (λd=>sD kW a N b c Z d N) Z b c
def lI(Z:rM)(a b:Int):Int:=findIdx (λ_ r=>bif (J r 0)==a then (J r 1)==b else false) Z 0
theorem nAc(a:Int→α)(Z:rM)(b d:Int)(e:Oj (.sl UB) (.sl Z)):∃N,nlj kW a N Z b d=a (lI Z b d):=by
 obtain⟨f,_⟩:=jD e;refine⟨Z.length+1, ?_⟩;unfold nlj x_;refine (P6 Z (sD kW a (Z.length+1) b d Z (len Z)) (λi r c=>bif bif (J r 0)==b then (J r 1)==d else false then a (i:Int) else c) (a (-1)) ?_ ?_).trans ?_
 ·intro n i h;rw[nAE];simp only[CU,T9 h,uH h,Q8 h f,lN,cd,TK,HI]
 ·intro n;rw[nAE];simp only[CU,hO,rl]
 ·exact om (λi r=>bif (J r 0)==b then (J r 1)==d else false) a Z 0
def lL(a:Bool→α)(Z x:rM)(c:Int)(d:Int→α)(b:Int):α:=bif decide (b<c) then bif Bk true (idx b x) then bif bif !(nn (J (V x (lq b)) 0) 0 7) then true else bif !(nn (J (V x (lq b)) 1) 0 1023) then true else bif !(nn (J (V x (lq b)) 2) 0 63) then true else (lI Z (J (V x (lq b)) 0) (J (V x (lq b)) 1)) != b then a false else d (ZK (b+1)) else kW else a (decide (len Z≤96))
def zY(a:Bool→α)(N:Nat)(Z x:rM)(b:Int)(c:Nat):Int→α:=WS (λ_=>kW) (lL kW a Z x b) c
theorem nxu(a:Bool→α)(N:Nat)(Z x:rM)(b:Int)(c:Nat):zY kW a N Z x b (c+1)=lL kW a Z x b (zY kW a N Z x b c):=rfl
def BO(kW:α)(a:Bool→α)(b:rM→Int→Int→α)(Z:rM):α:=b Z (len Z) 0
def kwF(a:Bool→α)(N:Nat)(Z:rM):α:=BO kW a (λx b=>zY kW a N Z x b N) Z
def Fm(r:List DC):Bool:=bif !(nn (J r 0) 0 7) then true else bif !(nn (J r 1) 0 1023) then true else !(nn (J r 2) 0 63)
def cz(Z:rM):Bool:=bif decide (96<len Z) then false else bif Pt (λi r=>bif Fm r then true else ZO (λj=>bif (J (V Z j) 0)==(J r 0) then (J (V Z j) 1)==(J r 1) else false) i 0) Z 0 then false else true
theorem nBX(a:Bool→α)(Z:rM)(f:Oj (.sl UB) (.sl Z)):∃N,kwF kW a N Z=a (cz Z):=by
 obtain⟨g,_⟩:=jD f;refine⟨Z.length+1, ?_⟩;unfold kwF BO;refine (P6 Z (zY kW a (Z.length+1) Z Z (len Z)) (λi r c=>bif (bif Fm r then true else (lI Z (J r 0) (J r 1)) != (i:Int)) then a false else c) (a (decide (len Z≤96))) ?_ ?_).trans ?_
 ·intro n i h;rw[nxu];simp only[lL,T9 h,uH h,Q8 h g,lN,cd,TK,HI];unfold Fm;cases nn (J (V Z i) 0) 0 7<;>cases nn (J (V Z i) 1) 0 1023<;>cases nn (J (V Z i) 2) 0 63<;>rfl
 ·intro n;rw[nxu];simp only[lL,hO,rl]
 ·refine (NS (λi r=>bif Fm r then true else (lI Z (J r 0) (J r 1)) != (i:Int)) _ _ Z 0).trans ?_;have e:Pt (λi r=>bif Fm r then true else (lI Z (J r 0) (J r 1)) != (i:Int)) Z 0=Pt (λi r=>bif Fm r then true else ZO (λj=>bif (J (V Z j) 0)==(J r 0) then (J (V Z j) 1)==(J r 1) else false) i 0) Z 0:=by apply nqk;intro i k;rw[mg];have b:=Qp (λ_ r=>bif (J r 0)==(J (V Z i) 0) then (J r 1)==(J (V Z i) 1) else false) Z 0 i k (by simp);rw[mg] at b;have b:((lI Z (J (V Z i) 0) (J (V Z i) 1)) != (i:Int))=_:=b;rw[b]
  rw[e];unfold cz;by_cases d:96<len Z
  ·simp only[Tl d,HI,show decide (len Z≤96)=false from yF (by omega)];cases Pt (λi r=>bif Fm r then true else ZO (λj=>bif (J (V Z j) 0)==(J r 0) then (J (V Z j) 1)==(J r 1) else false) i 0) Z 0<;>rfl
  ·simp only[yF d,rl,show decide (len Z≤96)=true from Tl (by omega)];exact cU rfl rfl
def RO(a:Bool→α)(b:Int→Int→Int→Int→α)(Z:rM)(c:Int→α)(k:Int):α:=bif decide (k<len Z) then bif Bk true (idx k Z) then bif bif !(nn (J (V Z (lq k)) 0) 0 7) then true else bif !(nn (J (V Z (lq k)) 1) 0 1023) then true else !(nn (J (V Z (lq k)) 2) 0 63) then a false else b k (J (V Z (lq k)) 0) (J (V Z (lq k)) 1) 0 else kW else a true
def A2(a:Bool→α)(c:Int→α)(Z:rM)(k x d:Int)(e:Int→α)(i:Int):α:=let b:Bool:=(J (V Z (lq i)) 0)==x;bif decide (i<k) then bif lV b (Bk (Bk true (idx i Z)) (idx i Z)) (Bk true (idx i Z)) then bif bif b then (J (V Z (lq i)) 1)==d else false then a false else e (ZK (i+1)) else kW else c (ZK (k+1))
def TL(a:Bool→α)(N:Nat)(b:Int→α)(Z:rM)(k x c:Int)(d:Nat):Int→α:=WS (λ_=>kW) (A2 kW a b Z k x c) d
theorem nyq(a:Bool→α)(N:Nat)(b:Int→α)(Z:rM)(k x c:Int)(d:Nat)(i:Int):TL kW a N b Z k x c (d+1) i=A2 kW a b Z k x c (TL kW a N b Z k x c d) i:=rfl
def F3(a:Bool→α)(N:Nat)(Z:rM)(c:Nat):Int→α:=WS (λ_=>kW) (λb=>RO kW a (λk x d=>TL kW a N b Z k x d N) Z b) c
theorem noS(a:Bool→α)(N:Nat)(Z:rM)(b:Nat)(k:Int):F3 kW a N Z (b+1) k=RO kW a (λk x c=>TL kW a N (F3 kW a N Z b) Z k x c N) Z (F3 kW a N Z b) k:=rfl
def ndY(kW:α)(a:Bool→α)(b:Int→α)(Z:rM):α:=bif decide (96<len Z) then a false else b 0
def bS(a:Bool→α)(N:Nat)(Z:rM):α:=ndY kW a (F3 kW a N Z N) Z
theorem ncD(a:Bool→α)(Z:rM)(f:Oj (.sl UB) (.sl Z)):∃N,bS kW a N Z=a (cz Z):=by
 obtain⟨g,_⟩:=jD f;refine⟨Z.length+1, ?_⟩;unfold bS ndY cz;refine cU rfl ?_;have d:∀(b:Int→α) (i:Nat),i<Z.length→TL kW a (Z.length+1) b Z (i:Int) (J (V Z i) 0) (J (V Z i) 1) (Z.length+1) 0=bif ZO (λj=>bif (J (V Z j) 0)==(J (V Z i) 0) then (J (V Z j) 1)==(J (V Z i) 1) else false) i 0 then a false else b ((i:Int)+1):=by
  intro b i k;have l:ZK ((i:Int)+1)=(i:Int)+1:=Q8 k g;have:=sw (σ:=Unit) i (λn j _=>TL kW a (Z.length+1) b Z (i:Int) (J (V Z i) 0) (J (V Z i) 1) n j) (λj c s=>bif (bif (J (V Z j) 0)==(J (V Z i) 0) then (J (V Z j) 1)==(J (V Z i) 1) else false) then a false else c s) (λ_=>b ((i:Int)+1)) ?_ ?_ (Z.length+1) () (by omega)
  ·exact this.trans (Px (λj=>bif (J (V Z j) 0)==(J (V Z i) 0) then (J (V Z j) 1)==(J (V Z i) 1) else false) (a false) (b ((i:Int)+1)) i 0)
  ·intro n j _ p;show TL kW a (Z.length+1) b Z (i:Int) (J (V Z i) 0) (J (V Z i) 1) (n+1) (j:Int)=_;rw[nyq];have e:decide ((j:Int)<(i:Int))=true:=Tl (by omega);have m:idx (j:Int) Z=true:=uH (by omega);have o:ZK ((j:Int)+1)=(j:Int)+1:=Ou;simp only[A2,e,m,o,lN,cd,TK,CC,HI]
  ·intro n _;show TL kW a (Z.length+1) b Z (i:Int) (J (V Z i) 0) (J (V Z i) 1) (n+1) (i:Int)=_;rw[nyq];have e:decide ((i:Int)<(i:Int))=false:=yF (by omega);simp only[A2,e,l,rl]
 refine (fT Z (F3 kW a (Z.length+1) Z) (λi r c=>bif (bif Fm r then true else ZO (λj=>bif (J (V Z j) 0)==(J r 0) then (J (V Z j) 1)==(J r 1) else false) i 0) then a false else c) (a true) ?_ ?_ (Z.length+1) (by omega)).trans ?_
 ·intro n i h;rw[noS];simp only[RO,T9 h,uH h,lN,cd,TK,HI,CC,d _ i h];show (bif Fm (V Z i) then a false else _)=_;cases Fm (V Z i)<;>rfl
 ·intro n;rw[noS];simp only[RO,hO,rl]
 ·refine (NS (λi r=>bif Fm r then true else ZO (λj=>bif (J (V Z j) 0)==(J r 0) then (J (V Z j) 1)==(J r 1) else false) i 0) _ _ Z 0).trans ?_;exact cU rfl rfl
structure TV where
 nQ:rM
def TV.enc(x:TV):List DC:=[.sl x.nQ]
def TV.nd(r:List DC)(o:Nat):TV:=⟨Zc r (o+0)⟩
def TV.ct:List CT:=[.sl VB]
theorem TV.eta{r:List DC}(h:i_ TV.ct r):(TV.nd r 0).enc=r:=(show (TV.nd r 0).enc=nK TV.ct r 0 from by kernel_rfl).trans (DG h)
theorem TV.nX{r:List CT}{b:List DC}(h:i_ (TV.ct++r) b):∃(x:TV) (c:List DC),b=x.enc++c∧i_ TV.ct x.enc∧i_ r c:=by obtain⟨d,e,rfl,a,f⟩:=Vi h;exact⟨TV.nd d 0,e,by rw[TV.eta a],by rw[TV.eta a];exact a,f⟩
theorem TV.O1{x:TV}(h:i_ TV.ct x.enc):Oj (.sl VB) (.sl x.nQ):=Fh 0 h rfl rfl
def nzc(a:rM→α)(l:rM):α:=bif Bk true (Pf 16 [] l) then a l else kW
theorem nw0(a:rM→α)(l:rM)(b:Of l=true):nzc kW a l=a (cp l):=by unfold nzc;rw[W3 b (show 16≤8388608 by omega)];rfl
def ncT(a:TV→α)(m:TV):α:=bif Bk true (Of m.nQ) then a (⟨cp m.nQ⟩:TV) else kW
def zH(m:TV):Bool:=Of m.nQ
theorem nbk(a:TV→α)(m:TV)(b:zH m=true):ncT kW a m=a (cp m):=by have h:Of m.nQ=true:=b;unfold ncT;simp only[h,cd,HI];rfl
def Q2(a:Bool→α)(x:rM)(c:Int)(d:rM)(e:Int→α)(b:Int):α:=bif decide (b<c) then bif Bk true (idx b x) then bif (len (fJ (V x (lq b)) 0)) != 128 then a false else e (ZK (b+1)) else kW else a (decide (len d≤64))
def t9(a:Bool→α)(N:Nat)(x:rM)(b:Int)(c:rM)(d:Nat):Int→α:=WS (λ_=>kW) (Q2 kW a x b c) d
theorem njW(a:Bool→α)(N:Nat)(x:rM)(b:Int)(c:rM)(d:Nat):t9 kW a N x b c (d+1)=Q2 kW a x b c (t9 kW a N x b c d):=rfl
def dK(kW:α)(a:Bool→α)(b:rM→Int→rM→Int→α)(m:TV):α:=b m.nQ (len m.nQ) m.nQ 0
def nfP(a:Bool→α)(N:Nat)(m:TV):α:=dK kW a (λx b c=>t9 kW a N x b c N) m
def pw(m:TV):Bool:=bif Pt (λ_ r=>(len (fJ r 0)) != 128) m.nQ 0 then false else decide (len m.nQ≤64)
theorem nzA(a:Bool→α)(m:TV)(b:i_ TV.ct m.enc):∃N,nfP kW a N m=a (pw m):=by
 obtain⟨d,_⟩:=jD (TV.O1 b);refine⟨m.nQ.length+1, ?_⟩;unfold nfP dK pw;refine (P6 m.nQ (t9 kW a (m.nQ.length+1) m.nQ (len m.nQ) m.nQ) (λi r c=>bif (len (fJ r 0)) != 128 then a false else c) (a (decide (len m.nQ≤64))) ?_ ?_).trans ?_
 ·intro n i h;rw[njW];simp only[Q2,T9 h,uH h,Q8 h d,lN,cd,TK,HI]
 ·intro n;rw[njW];simp only[Q2,hO,rl]
 ·refine (NS (λ_ r=>(len (fJ r 0)) != 128) _ _ m.nQ 0).trans ?_;exact cU rfl rfl
def YE(a:Bool→α)(b:rM)(c:Int→α)(k:Int):α:=bif decide (k<len b) then bif Bk true (idx k b) then bif (len (fJ (V b (lq k)) 0)) != 128 then a false else c (ZK (k+1)) else kW else a (decide (len b≤64))
def Wn(a:Bool→α)(N:Nat)(b:rM)(c:Nat):Int→α:=WS (λ_=>kW) (YE kW a b) c
theorem nzC(a:Bool→α)(N:Nat)(b:rM)(c:Nat):Wn kW a N b (c+1)=YE kW a b (Wn kW a N b c):=rfl
def ON(kW:α)(a:Bool→α)(b:rM→Int→α)(m:TV):α:=b m.nQ 0
def nh_(a:Bool→α)(N:Nat)(m:TV):α:=ON kW a (λb=>Wn kW a N b N) m
theorem nbb(a:Bool→α)(m:TV)(b:i_ TV.ct m.enc):∃N,nh_ kW a N m=a (pw m):=by
 obtain⟨d,_⟩:=jD (TV.O1 b);refine⟨m.nQ.length+1, ?_⟩;unfold nh_ ON pw;refine (P6 m.nQ (Wn kW a (m.nQ.length+1) m.nQ) (λi r c=>bif (len (fJ r 0)) != 128 then a false else c) (a (decide (len m.nQ≤64))) ?_ ?_).trans ?_
 ·intro n i h;rw[nzC];simp only[YE,T9 h,uH h,Q8 h d,lN,cd,TK,HI]
 ·intro n;rw[nzC];simp only[YE,hO,rl]
 ·refine (NS (λ_ r=>(len (fJ r 0)) != 128) _ _ m.nQ 0).trans ?_;exact cU rfl rfl
structure jW where
 nW:Int
 nA:Int
 ej:Int
 pj:Int
def jW.enc(x:jW):List DC:=[.int x.nW,.int x.nA,.int x.ej,.int x.pj]
def jW.nd(r:List DC)(o:Nat):jW:=⟨J r (o+0),J r (o+1),J r (o+2),J r (o+3)⟩
def jW.ct:List CT:=[.i,.i,.i,.i]
theorem jW.eta{r:List DC}(h:i_ jW.ct r):(jW.nd r 0).enc=r:=(show (jW.nd r 0).enc=nK jW.ct r 0 from by kernel_rfl).trans (DG h)
theorem jW.nX{r:List CT}{b:List DC}(h:i_ (jW.ct++r) b):∃(x:jW) (c:List DC),b=x.enc++c∧i_ jW.ct x.enc∧i_ r c:=by obtain⟨d,e,rfl,a,f⟩:=Vi h;exact⟨jW.nd d 0,e,by rw[jW.eta a],by rw[jW.eta a];exact a,f⟩
theorem jW.nAQ{x:jW}(h:i_ jW.ct x.enc):Oj .i (.int x.nW):=Fh 0 h rfl rfl
theorem jW.niT{x:jW}(h:i_ jW.ct x.enc):Oj .i (.int x.nA):=Fh 1 h rfl rfl
theorem jW.nC6{x:jW}(h:i_ jW.ct x.enc):Oj .i (.int x.ej):=Fh 2 h rfl rfl
theorem jW.nC8{x:jW}(h:i_ jW.ct x.enc):Oj .i (.int x.pj):=Fh 3 h rfl rfl
structure QR where
 nW:Int
 nA:Int
 d9:Int
def QR.enc(x:QR):List DC:=[.int x.nW,.int x.nA,.int x.d9]
def QR.nd(r:List DC)(o:Nat):QR:=⟨J r (o+0),J r (o+1),J r (o+2)⟩
def QR.ct:List CT:=[.i,.i,.i]
theorem QR.eta{r:List DC}(h:i_ QR.ct r):(QR.nd r 0).enc=r:=(show (QR.nd r 0).enc=nK QR.ct r 0 from by kernel_rfl).trans (DG h)
theorem QR.nX{r:List CT}{b:List DC}(h:i_ (QR.ct++r) b):∃(x:QR) (c:List DC),b=x.enc++c∧i_ QR.ct x.enc∧i_ r c:=by obtain⟨d,e,rfl,a,f⟩:=Vi h;exact⟨QR.nd d 0,e,by rw[QR.eta a],by rw[QR.eta a];exact a,f⟩
theorem QR.nAQ{x:QR}(h:i_ QR.ct x.enc):Oj .i (.int x.nW):=Fh 0 h rfl rfl
theorem QR.niT{x:QR}(h:i_ QR.ct x.enc):Oj .i (.int x.nA):=Fh 1 h rfl rfl
theorem QR.noa{x:QR}(h:i_ QR.ct x.enc):Oj .i (.int x.d9):=Fh 2 h rfl rfl
structure Tj where
 rp:Int
 sF:Int
 d9:Int
 e6:Int
 tv:Bool
 u5:Bool
def Tj.enc(x:Tj):List DC:=[.int x.rp,.int x.sF,.int x.d9,.int x.e6,.bool x.tv,.bool x.u5]
def Tj.nd(r:List DC)(o:Nat):Tj:=⟨J r (o+0),J r (o+1),J r (o+2),J r (o+3),yz r (o+4),yz r (o+5)⟩
def Tj.ct:List CT:=UC
theorem Tj.eta{r:List DC}(h:i_ Tj.ct r):(Tj.nd r 0).enc=r:=(show (Tj.nd r 0).enc=nK Tj.ct r 0 from by kernel_rfl).trans (DG h)
theorem Tj.nX{r:List CT}{b:List DC}(h:i_ (Tj.ct++r) b):∃(x:Tj) (c:List DC),b=x.enc++c∧i_ Tj.ct x.enc∧i_ r c:=by obtain⟨d,e,rfl,a,f⟩:=Vi h;exact⟨Tj.nd d 0,e,by rw[Tj.eta a],by rw[Tj.eta a];exact a,f⟩
theorem Tj.noa{x:Tj}(h:i_ Tj.ct x.enc):Oj .i (.int x.d9):=Fh 2 h rfl rfl
structure jf where
 nP:oY
 nA:Int
 d9:Int
def jf.enc(x:jf):List DC:=[.int x.nP.rA,.int x.nP.rN,.int x.nP.rX,.int x.nP.S9,.int x.nP.Id,.int x.nP.Ta,.int x.nP.py,.int x.nP.pN,.int x.nP.pk.eh,.int x.nP.pk.oC,.int x.nP.pk.oz,.int x.nP.pk.e4,.int x.nP.pk.XY,.int x.nP.pk.ez,.int x.nP.pk.su,.str x.nP.pk.ed,.int x.nA,.int x.d9]
def jf.nd(r:List DC)(o:Nat):jf:=⟨oY.nd r (o+0),J r (o+16),J r (o+17)⟩
def jf.ct:List CT:=[.i,.i,.i,.i,.i,.i,.i,.i,.i,.i,.i,.i,.i,.i,.i,.str,.i,.i]
theorem jf.eta{r:List DC}(h:i_ jf.ct r):(jf.nd r 0).enc=r:=(show (jf.nd r 0).enc=nK jf.ct r 0 from by kernel_rfl).trans (DG h)
theorem jf.nX{r:List CT}{b:List DC}(h:i_ (jf.ct++r) b):∃(x:jf) (c:List DC),b=x.enc++c∧i_ jf.ct x.enc∧i_ r c:=by obtain⟨d,e,rfl,a,f⟩:=Vi h;exact⟨jf.nd d 0,e,by rw[jf.eta a],by rw[jf.eta a];exact a,f⟩
theorem jf.nBv{x:jf}(h:i_ jf.ct x.enc):i_ oY.ct x.nP.enc:=cW 0 16 h
theorem jf.niT{x:jf}(h:i_ jf.ct x.enc):Oj .i (.int x.nA):=Fh 16 h rfl rfl
theorem jf.noa{x:jf}(h:i_ jf.ct x.enc):Oj .i (.int x.d9):=Fh 17 h rfl rfl
structure pE where
 d5:jW
 eo:QR
 eU:QR
 qo:jf
 uc:Bool
 qj:Int
def pE.enc(x:pE):List DC:=[.int x.d5.nW,.int x.d5.nA,.int x.d5.ej,.int x.d5.pj,.int x.eo.nW,.int x.eo.nA,.int x.eo.d9,.int x.eU.nW,.int x.eU.nA,.int x.eU.d9,.int x.qo.nP.rA,.int x.qo.nP.rN,.int x.qo.nP.rX,.int x.qo.nP.S9,.int x.qo.nP.Id,.int x.qo.nP.Ta,.int x.qo.nP.py,.int x.qo.nP.pN,.int x.qo.nP.pk.eh,.int x.qo.nP.pk.oC,.int x.qo.nP.pk.oz,.int x.qo.nP.pk.e4,.int x.qo.nP.pk.XY,.int x.qo.nP.pk.ez,.int x.qo.nP.pk.su,.str x.qo.nP.pk.ed,.int x.qo.nA,.int x.qo.d9,.bool x.uc,.int x.qj]
def pE.nd(r:List DC)(o:Nat):pE:=⟨jW.nd r (o+0),QR.nd r (o+4),QR.nd r (o+7),jf.nd r (o+10),yz r (o+28),J r (o+29)⟩
def pE.ct:List CT:=CR
theorem pE.eta{r:List DC}(h:i_ pE.ct r):(pE.nd r 0).enc=r:=(show (pE.nd r 0).enc=nK pE.ct r 0 from by kernel_rfl).trans (DG h)
theorem pE.nX{r:List CT}{b:List DC}(h:i_ (pE.ct++r) b):∃(x:pE) (c:List DC),b=x.enc++c∧i_ pE.ct x.enc∧i_ r c:=by obtain⟨d,e,rfl,a,f⟩:=Vi h;exact⟨pE.nd d 0,e,by rw[pE.eta a],by rw[pE.eta a];exact a,f⟩
theorem pE.nC7{x:pE}(h:i_ pE.ct x.enc):i_ jW.ct x.d5.enc:=cW 0 4 h
structure sY where
 fu:Int
 eh:Int
 py:Int
 S7:Int
 UF:Int
 X0:Int
 rX:Int
 fr:Int
 fl:Int
def sY.enc(x:sY):List DC:=[.int x.fu,.int x.eh,.int x.py,.int x.S7,.int x.UF,.int x.X0,.int x.rX,.int x.fr,.int x.fl]
def sY.nd(r:List DC)(o:Nat):sY:=⟨J r (o+0),J r (o+1),J r (o+2),J r (o+3),J r (o+4),J r (o+5),J r (o+6),J r (o+7),J r (o+8)⟩
def sY.ct:List CT:=nS
theorem sY.eta{r:List DC}(h:i_ sY.ct r):(sY.nd r 0).enc=r:=(show (sY.nd r 0).enc=nK sY.ct r 0 from by kernel_rfl).trans (DG h)
theorem sY.nX{r:List CT}{b:List DC}(h:i_ (sY.ct++r) b):∃(x:sY) (c:List DC),b=x.enc++c∧i_ sY.ct x.enc∧i_ r c:=by obtain⟨d,e,rfl,a,f⟩:=Vi h;exact⟨sY.nd d 0,e,by rw[sY.eta a],by rw[sY.eta a];exact a,f⟩
theorem sY.nob{x:sY}(h:i_ sY.ct x.enc):Oj .i (.int x.eh):=Fh 1 h rfl rfl
theorem sY.nod{x:sY}(h:i_ sY.ct x.enc):Oj .i (.int x.py):=Fh 2 h rfl rfl
theorem sY.nAU{x:sY}(h:i_ sY.ct x.enc):Oj .i (.int x.rX):=Fh 6 h rfl rfl
theorem sY.nCA{x:sY}(h:i_ sY.ct x.enc):Oj .i (.int x.fl):=Fh 8 h rfl rfl
structure Cf where
 nW:Int
 nA:Int
 d9:Int
 oq:rM
def Cf.enc(x:Cf):List DC:=[.int x.nW,.int x.nA,.int x.d9,.sl x.oq]
def Cf.nd(r:List DC)(o:Nat):Cf:=⟨J r (o+0),J r (o+1),J r (o+2),Zc r (o+3)⟩
def Cf.ct:List CT:=[.i,.i,.i,.sl vL]
theorem Cf.eta{r:List DC}(h:i_ Cf.ct r):(Cf.nd r 0).enc=r:=(show (Cf.nd r 0).enc=nK Cf.ct r 0 from by kernel_rfl).trans (DG h)
theorem Cf.nX{r:List CT}{b:List DC}(h:i_ (Cf.ct++r) b):∃(x:Cf) (c:List DC),b=x.enc++c∧i_ Cf.ct x.enc∧i_ r c:=by obtain⟨d,e,rfl,a,f⟩:=Vi h;exact⟨Cf.nd d 0,e,by rw[Cf.eta a],by rw[Cf.eta a];exact a,f⟩
theorem Cf.nAQ{x:Cf}(h:i_ Cf.ct x.enc):Oj .i (.int x.nW):=Fh 0 h rfl rfl
theorem Cf.niT{x:Cf}(h:i_ Cf.ct x.enc):Oj .i (.int x.nA):=Fh 1 h rfl rfl
theorem Cf.noa{x:Cf}(h:i_ Cf.ct x.enc):Oj .i (.int x.d9):=Fh 2 h rfl rfl
theorem Cf.nAS{x:Cf}(h:i_ Cf.ct x.enc):Oj (.sl vL) (.sl x.oq):=Fh 3 h rfl rfl
def vY(a:Bool→α)(n:Int):α:=a (bif n==2 then true else bif n==4 then true else bif n==8 then true else n==16)
def Uo(n:Int):Bool:=vY id n
theorem nnb(a:Bool→α)(n:Int):vY a n=a (Uo n):=by rfl
def nkK(a:Bool→α)(n:Int):α:=a (bif n==1 then true else bif n==2 then true else bif n==4 then true else bif n==8 then true else n==16)
def Yi(n:Int):Bool:=nkK id n
theorem nk7(a:Bool→α)(n:Int):nkK a n=a (Yi n):=by rfl
def Eo(a:Int→α)(x n:Int):α:=bif Bk true (!(n==0)) then a (bif decide (lZ x n<0) then ZK ((lZ x n)+n) else lZ x n) else kW
def DZ(x n:Int):Bool:=Eo false (λ_=>true) x n
def NU(x n:Int):Int:=(Eo none (λa=>some (a)) x n).getD 0
theorem nui(a:Int→α)(x n:Int)(b:DZ x n=true):Eo kW a x n=a (NU x n):=by exact Zm (K:=λr:Int=>a r) (xl nA6) b
def nqT(a:Int→α)(r:jW):α:=let b:Int:=ZK ((NU r.pj (ZK (2*r.nA))) - (NU r.ej (ZK (2*r.nA))));bif !(Uo r.nA) then a 0 else bif Bk (Bk (Bk true (DZ r.pj (ZK (2*r.nA)))) (DZ r.ej (ZK (2*r.nA)))) (DZ b (ZK (2*r.nA))) then a (NU b (ZK (2*r.nA))) else kW
theorem ja(k:Nat)(d:k≤62)(a:Int):bits .and .i64 a ((2 ^ k - 1:Nat):Int)=a % ((2 ^ k:Nat):Int):=by
 have j:2 ^ k≤2 ^ 62:=Nat.pow_le_pow_right (by decide) d;have f:(2:Nat) ^ 62=4611686018427387904:=by decide
 have g:2 ^ k ∣ (18446744073709551616:Nat):=by rw[show (18446744073709551616:Nat)=2 ^ 64 by decide];exact Nat.pow_dvd_pow 2 (by omega)
 have i:(m9 64 ((2 ^ k - 1:Nat):Int)).toNat=2 ^ k - 1:=by rw[BitVec.ofInt_natCast,BitVec.toNat_ofNat];exact Nat.mod_eq_of_lt (by omega)
 have c:(m9 64 a &&& m9 64 ((2 ^ k - 1:Nat):Int)).toNat=(a % 18446744073709551616).toNat % 2 ^ k:=by rw[BitVec.toNat_and,i,Nat.and_two_pow_sub_one_eq_mod,BitVec.toNat_ofInt];rfl
 have l:(a % 18446744073709551616).toNat % 2 ^ k<2 ^ k:=Nat.mod_lt _ (Nat.pos_of_ne_zero (by intro h;have:=Nat.two_pow_pos k;omega));have b:(((m9 64 a &&& m9 64 ((2 ^ k - 1:Nat):Int)).toNat:Nat):Int)<2 ^ 63:=by
  rw[c];have:(2:Int) ^ 63=9223372036854775808:=by decide
  rw[this];omega
 have e:bits .and .i64 a ((2 ^ k - 1:Nat):Int)=(((m9 64 a &&& m9 64 ((2 ^ k - 1:Nat):Int)).toNat:Nat):Int):=
  vB (((m9 64 a &&& m9 64 ((2 ^ k - 1:Nat):Int)).toNat:Nat):Int) (Int.natCast_nonneg _) b
 rw[e,c,Int.natCast_emod,pv (oR _ (by decide)),Int.emod_emod_of_dvd];exact Int.natCast_dvd_natCast.2 g
theorem and_3(a:Int):bits .and .i64 a 3=a % 4:=ja 2 (by decide) a
theorem ntO(a:Int):bits .and .i64 a 7=a % 8:=ja 3 (by decide) a
theorem njL(a:Int):bits .and .i64 a 15=a % 16:=ja 4 (by decide) a
theorem np9(a:Int):bits .and .i64 a 31=a % 32:=ja 5 (by decide) a
theorem W1{n:Int}(h:Uo n=true):n=2∨n=4∨n=8∨n=16:=by
 unfold Uo vY at h;by_cases b:n=2
 ·exact .inl b
 by_cases c:n=4
 ·exact .inr (.inl c)
 by_cases d:n=8
 ·exact .inr (.inr (.inl d))
 by_cases a:n=16
 ·exact .inr (.inr (.inr a))
 simp[b,c,d,a] at h
theorem vP{x n:Int}(i: -9223372036854775808≤x)(j:x≤9223372036854775807)(h:0<n)(k:n≤4294967296):DZ x n=true∧NU x n=x % n:=by
 have f:(n==0)=false:=by simp;omega
 have e:NU x n=bif decide (lZ x n<0) then ZK ((lZ x n)+n) else lZ x n:=by unfold NU Eo;rw[f];rfl
 refine⟨by unfold DZ Eo;rw[f];rfl, ?_⟩;rw[e];have d:=Int.tmod_eq_emod (a:=x) (b:=n);have l:=oR x (show n≠0 by omega);have m:=pA x h;by_cases g:lZ x n<0
 ·rw[Tl g,HI];split at d
  ·omega
  ·have c:((n.natAbs:Nat):Int)=n:=by omega
   rw[c] at d;rw[Ou];omega
 ·rw[yF g,rl];split at d
  ·omega
  ·have c:((n.natAbs:Nat):Int)=n:=by omega
   rw[c] at d;omega
def UU(r:jW):Int:=bif Uo r.nA then (r.pj - r.ej) % (2*r.nA) else 0
theorem nvt(a:Int→α)(r:jW)(b:i_ jW.ct r.enc):nqT kW a r=a (UU r):=by
 have e:=ka (jW.nC8 b);have f:=ka (jW.nC6 b);unfold nqT UU;cases g:Uo r.nA
 ·rfl
 ·have d:ZK (2*r.nA)=2*r.nA∧0<2*r.nA∧2*r.nA≤32:=by rcases W1 g with h | h | h | h<;>rw[h]<;>exact⟨rfl,by decide,by decide⟩
  obtain⟨d,c,p⟩:=d;obtain⟨i,j⟩:=vP e.1 e.2 c (by omega);obtain⟨k,l⟩:=vP f.1 f.2 c (by omega);have n1:=oR r.pj (show 2*r.nA≠0 by omega);have n2:=pA r.pj c;have q:=oR r.ej (show 2*r.nA≠0 by omega);have s:=pA r.ej c;have m:ZK (r.pj % (2*r.nA) - r.ej % (2*r.nA))=r.pj % (2*r.nA) - r.ej % (2*r.nA):=Ou;obtain⟨n,o⟩:=vP (x:=r.pj % (2*r.nA) - r.ej % (2*r.nA)) (by omega) (by omega) c (by omega);simp only[d,i,j,k,l,m,n,o,cd,TK,HI,mc,rl];rw[←Int.sub_emod]
def nrF(a:Int→α)(r:jW):α:=bif !(Uo r.nA) then a 0 else a (bits .and .i64 (ZK (r.pj - r.ej)) (ZK ((ZK (2*r.nA)) - 1)))
theorem nov(a:Int→α)(r:jW):nrF a r=a (UU r):=by
 unfold nrF UU;cases b:Uo r.nA
 ·rfl
 ·have key:bits .and .i64 (ZK (r.pj - r.ej)) (ZK ((ZK (2*r.nA)) - 1))=(r.pj - r.ej) % (2*r.nA):=by
   rcases W1 b with h | h | h | h<;>rw[h]
   ·exact (and_3 _).trans (by rw[Vl];show _=(r.pj - r.ej) % 4;omega)
   ·exact (ntO _).trans (by rw[Vl];show _=(r.pj - r.ej) % 8;omega)
   ·exact (njL _).trans (by rw[Vl];show _=(r.pj - r.ej) % 16;omega)
   ·exact (np9 _).trans (by rw[Vl];show _=(r.pj - r.ej) % 32;omega)
  simp only[key,mc,rl,HI]
def rQ(a:Bool→α)(r:jW):α:=let b:Int:=ZK ((ZK (2*r.nA)) - 1);a (bif nn r.nW 0 130944 then bif Uo r.nA then bif nn r.ej 0 b then bif nn r.pj 0 b then decide (UU r≤r.nA) else false else false else false else false)
def Wi(r:jW):Bool:=rQ id r
theorem nBi(a:Bool→α)(r:jW):rQ a r=a (Wi r):=by rfl
theorem FZ{r:jW}(h:Wi r=true):2≤r.nA∧r.nA≤16:=by
 have a:Uo r.nA=true:=by
  cases a:Uo r.nA
  ·unfold Wi rQ at h;rw[a] at h;revert h;cases nn r.nW 0 130944<;>simp
  ·rfl
 rcases W1 a with h | h | h | h<;>omega
def Qx(a:Bool→α)(q:QR):α:=a (bif nn q.nW 0 130944 then bif Uo q.nA then nn q.d9 0 (ZK ((ZK (2*q.nA)) - 1)) else false else false)
def xn(q:QR):Bool:=Qx id q
theorem nsz(a:Bool→α)(q:QR):Qx a q=a (xn q):=by rfl
def HO(a:Bool→α)(v:Tj):α:=a (bif decide (1≤v.d9) then bif decide (v.rp≤v.d9) then true else decide (v.sF≤v.e6) else false)
def due(v:Tj):Bool:=HO id v
theorem ndf(a:Bool→α)(v:Tj):HO a v=a (due v):=by rfl
def fG(a:Bool→α)(v:Tj):α:=let b:Bool:=bif due v then v.u5== !v.tv else v.u5==false;bif bif !(nn v.rp 1 64) then true else bif !(nn v.sF 0 64) then true else bif !(nn v.d9 0 1000000) then true else !(nn v.e6 0 1000000) then a false else a (bif decide (0<v.d9) then b else bif v.e6==0 then b else false)
def fm(v:Tj):Bool:=fG id v
theorem nrC(a:Bool→α)(v:Tj):fG a v=a (fm v):=by exact cU rfl rfl
def Q5(a:Bool→α)(q:pE):α:=bif bif !(Wi q.d5) then true else bif !(xn q.eo) then true else bif !(xn q.eU) then true else bif q.eo.nW != q.eU.nW then true else bif q.eo.nA != q.eU.nA then true else !(nn q.qj 0 1000000000000) then a false else bif !q.uc then a (bif bif q.qo.nP.rA==0 then bif q.qo.nP.rN==0 then bif q.qo.nP.rX==0 then bif q.qo.nP.S9==0 then bif q.qo.nP.Id==0 then bif q.qo.nP.Ta==0 then bif q.qo.nP.py==0 then bif q.qo.nP.pN==0 then bif bif q.qo.nP.pk.eh==0 then bif q.qo.nP.pk.oC==0 then bif q.qo.nP.pk.oz==0 then bif q.qo.nP.pk.e4==0 then bif q.qo.nP.pk.XY==0 then bif q.qo.nP.pk.ez==0 then bif q.qo.nP.pk.su==0 then bif q.qo.nP.pk.ed==[] then true else false else false else false else false else false else false else false else false then true else false else false else false else false else false else false else false else false else false then bif q.qo.nA==0 then bif q.qo.d9==0 then true else false else false else false) else a (bif rZ q.qo.nP then bif nn q.qo.nA 0 320 then nn q.qo.d9 1 320 else false else false)
def iy(q:pE):Bool:=Q5 id q
theorem niq(a:Bool→α)(q:pE):Q5 a q=a (iy q):=by exact cU rfl (cU rfl rfl)
def yX(a:Bool→α)(r:sY):α:=let b:Bool:=bif !(nn r.py 0 4294967295) then true else !(nn r.S7 0 32);let c:Bool:=bif r.fr==1 then r.fl==0 else false;bif bif !(nn r.fu 0 1000) then true else bif r.eh != 0 then bif r.eh != 6 then bif r.eh != 17 then true else b else b else b then a false else bif bif decide (r.UF<0) then true else bif decide (r.X0<r.UF) then true else bif decide (65535<r.X0) then true else !(nn r.rX (-2) 4095) then a false else a (bif r.fr==0 then bif nn r.fl 0 3 then true else c else c)
def WN(r:sY):Bool:=yX id r
theorem nzz(a:Bool→α)(r:sY):yX a r=a (WN r):=by exact cU rfl (cU rfl rfl)
def Ul(a:Bool→α)(Z x:rM)(c:Int)(d:Int→α)(b:Int):α:=bif decide (b<c) then bif Bk true (idx b x) then bif !(WN (sY.nd (V x (lq b)) 0)) then a false else d (ZK (b+1)) else kW else a (decide (len Z≤12))
def RX(a:Bool→α)(N:Nat)(Z x:rM)(b:Int)(c:Nat):Int→α:=WS (λ_=>kW) (Ul kW a Z x b) c
theorem nxf(a:Bool→α)(N:Nat)(Z x:rM)(b:Int)(c:Nat):RX kW a N Z x b (c+1)=Ul kW a Z x b (RX kW a N Z x b c):=rfl
def zr(kW:α)(a:Bool→α)(b:rM→Int→Int→α)(Z:rM):α:=b Z (len Z) 0
def swW(a:Bool→α)(N:Nat)(Z:rM):α:=zr kW a (λx b=>RX kW a N Z x b N) Z
def HK(Z:rM):Bool:=bif Z.all (λr=>WN (sY.nd r 0)) then decide (len Z≤12) else false
theorem nw9(a:Bool→α)(Z:rM)(b:Oj (.sl nS) (.sl Z)):∃N,swW kW a N Z=a (HK Z):=by
 obtain⟨d,_⟩:=jD b;refine⟨Z.length+1, ?_⟩;unfold swW zr;refine (P6 Z (RX kW a (Z.length+1) Z Z (len Z)) (λi r c=>bif !(WN (sY.nd r 0)) then a false else c) (a (decide (len Z≤12))) ?_ ?_).trans ?_
 ·intro n i h;rw[nxf];simp only[Ul,T9 h,uH h,Q8 h d,lN,cd,TK,HI]
 ·intro n;rw[nxf];simp only[Ul,hO,rl]
 ·refine (Zz (λr=>WN (sY.nd r 0)) _ _ Z 0).trans ?_;exact cU rfl rfl
def bw(a:Bool→α)(Z:rM)(b:Int→α)(k:Int):α:=bif decide (k<len Z) then bif Bk true (idx k Z) then bif !(WN (sY.nd (V Z (lq k)) 0)) then a false else b (ZK (k+1)) else kW else a (decide (len Z≤12))
def NX(a:Bool→α)(N:Nat)(Z:rM)(b:Nat):Int→α:=WS (λ_=>kW) (bw kW a Z) b
theorem nbW(a:Bool→α)(N:Nat)(Z:rM)(b:Nat):NX kW a N Z (b+1)=bw kW a Z (NX kW a N Z b):=rfl
def DJ(kW:α)(a:Bool→α)(b:Int→α)(Z:rM):α:=b 0
def ngj(a:Bool→α)(N:Nat)(Z:rM):α:=DJ kW a (NX kW a N Z N) Z
theorem nBo(a:Bool→α)(Z:rM)(b:Oj (.sl nS) (.sl Z)):∃N,ngj kW a N Z=a (HK Z):=by
 obtain⟨d,_⟩:=jD b;refine⟨Z.length+1, ?_⟩;unfold ngj DJ;refine (P6 Z (NX kW a (Z.length+1) Z) (λi r c=>bif !(WN (sY.nd r 0)) then a false else c) (a (decide (len Z≤12))) ?_ ?_).trans ?_
 ·intro n i h;rw[nbW];simp only[bw,T9 h,uH h,Q8 h d,lN,cd,TK,HI]
 ·intro n;rw[nbW];simp only[bw,hO,rl]
 ·refine (Zz (λr=>WN (sY.nd r 0)) _ _ Z 0).trans ?_;exact cU rfl rfl
def nm0(a:rM→α)(l:rM):α:=bif Bk true (Pf 8 [] l) then a l else kW
theorem nAx(a:rM→α)(l:rM)(b:Of l=true):nm0 kW a l=a (cp l):=by unfold nm0;rw[W3 b (show 8≤8388608 by omega)];rfl
def nee(a:Cf→α)(p:Cf):α:=bif Bk true (Of p.oq) then a (⟨p.nW,p.nA,p.d9,cp p.oq⟩:Cf) else kW
def ig(p:Cf):Bool:=Of p.oq
theorem nnp(a:Cf→α)(p:Cf)(b:ig p=true):nee kW a p=a (cp p):=by have h:Of p.oq=true:=b;unfold nee;simp only[h,cd,HI];rfl
def nm2(a:Cf→α)(p:Cf):α:=bif Bk true (Pf 8 [] p.oq) then a p else kW
theorem nf_(a:Cf→α)(p:Cf)(b:ig p=true):nm2 kW a p=a (cp p):=by have h:Of p.oq=true:=b;unfold nm2;rw[W3 h (show 8≤8388608 by omega)];rfl
def lE(a:Bool→α)(x:rM)(h i:Int)(j:Int→rM→α)(c:Int)(b:rM):α:=let e:Bool:= !(nn (J (V x (lq c)) 0) 0 (ZK (i - 1)));let d:Nat:=lq (J (V x (lq c)) 0);let f:Bool:=Bk (Bk true (idx (J (V x (lq c)) 0) b)) (inl d b);let g:List DC:=V b d;bif decide (c<h) then bif Bk true (idx c x) then bif lV e true f then bif bif e then true else yz g 0 then a false else bif f then j (ZK (c+1)) (nq b d (CI g 0 [.bool true])) else kW else kW else kW else a true
def bD(a:Bool→α)(N:Nat)(x:rM)(b c:Int)(d:Nat):Int→rM→α:=WS (λ_ _=>kW) (lE kW a x b c) d
theorem nn9(a:Bool→α)(N:Nat)(x:rM)(b c:Int)(d:Nat):bD kW a N x b c (d+1)=lE kW a x b c (bD kW a N x b c d):=rfl
def Nv(a:Bool→α)(b:rM→Int→Int→Int→rM→α)(p:Cf):α:=bif bif !(nn p.nW 0 130944) then true else bif !(nn p.nA 1 512) then true else !(nn p.d9 0 16) then a false else bif Bk true (Fj 1 p.d9 p.d9) then b p.oq (len p.oq) p.d9 0 (mf (lq p.d9) ([.bool false]:List DC)) else kW
def ncZ(a:Bool→α)(N:Nat)(p:Cf):α:=Nv kW a (λx b c=>bD kW a N x b c N) p
def nY{α σ:Type}(P:List DC→σ→Bool)(f:List DC→σ→σ)(x:α)(fin:σ→α):rM→σ→α
 | [],s=>fin s
 | r::rs,s=>bif P r s then x else nY P f x fin rs (f r s)
theorem nAz{α σ:Type}(a:rM)(L:Nat→Int→σ→α)(P:List DC→σ→Bool)(f:List DC→σ→σ)(x:α)(fin:σ→α)(I:Nat→σ→Prop)(c:∀i s,i<a.length→I i s→P (V a i) s=false→I (i+1) (f (V a i) s))
  (d:∀n i s,i<a.length→I i s→L (n+1) (i:Int) s=bif P (V a i) s then x else L n ((i:Int)+1) (f (V a i) s))
  (e:∀n s,I a.length s→L (n+1) (a.length:Int) s=fin s):∀(m i:Nat) (s:σ),i+m=a.length→I i s→L (m+1) (i:Int) s=nY P f x fin (a.drop i) s
 | 0,i,s,h,hi=>by
  have:i=a.length:=by omega
  subst this;rw[e 0 s hi,List.drop_length];rfl
 | m+1,i,s,h,hi=>by
  have b:i<a.length:=by omega
  rw[d (m+1) i s b hi,oS b];have g:V a i=a[i]:=by simp[V,ns,b]
  show _=bif P a[i] s then x else nY P f x fin (a.drop (i+1)) (f a[i] s);rw[←g];cases j:P (V a i) s
  ·rw[rl,rl];have:=nAz a L P f x fin I c d e m (i+1) (f (V a i) s) (by omega) (c i s b hi j);rw[←this];rfl
  ·rfl
theorem Y_{α σ:Type}(a:rM)(L:Nat→Int→σ→α)(P:List DC→σ→Bool)(f:List DC→σ→σ)(x:α)(fin:σ→α)(I:Nat→σ→Prop)(b:∀i s,i<a.length→I i s→P (V a i) s=false→I (i+1) (f (V a i) s))
  (c:∀n i s,i<a.length→I i s→L (n+1) (i:Int) s=bif P (V a i) s then x else L n ((i:Int)+1) (f (V a i) s))
  (d:∀n s,I a.length s→L (n+1) (a.length:Int) s=fin s) (s:σ) (h:I 0 s):L (a.length+1) 0 s=nY P f x fin a s:=
 nAz a L P f x fin I b c d a.length 0 s (by omega) h
theorem Dz{α β σ:Type}(k:β→α)(P:List DC→σ→Bool)(f:List DC→σ→σ){x:β}(fin:σ→β):∀(a:rM) (s:σ),nY P f (k x) (λs=>k (fin s)) a s=k (nY P f x fin a s)
 | [],s=>rfl
 | r::rs,s=>by
  simp only[nY];cases P r s
  ·exact Dz k P f fin rs _
  ·rfl
theorem cond_congr{c d:Bool}{x y u v:α}(h:c=d)(a:c=true→x=u)(b:c=false→y=v):(bif c then x else y)=(bif d then u else v):=by
 subst h;cases c
 ·exact b rfl
 ·exact a rfl
def XN(n:Int)(r:List DC)(s:rM):Bool:=bif !(nn (J r 0) 0 (n - 1)) then true else yz (V s (lq (J r 0))) 0
def UT(r:List DC)(s:rM):rM:=nq s (lq (J r 0)) (CI (V s (lq (J r 0))) 0 [.bool true])
theorem mO(r:List DC)(s:rM):(UT r s).length=s.length:=by simp[UT]
def mK(p:Cf):Bool:=bif bif !(nn p.nW 0 130944) then true else bif !(nn p.nA 1 512) then true else !(nn p.d9 0 16) then false else nY (XN p.d9) UT false (λ_=>true) p.oq (mf (lq p.d9) [.bool false])
theorem nxx(a:Bool→α)(p:Cf)(c:i_ Cf.ct p.enc):∃N,ncZ kW a N p=a (mK p):=by
 obtain⟨m,t⟩:=jD (Cf.nAS c);refine⟨p.oq.length+1, ?_⟩;unfold ncZ Nv mK;refine oN (λ_=>rfl) (λb=>?_);have u:0≤p.d9∧p.d9≤16:=by
  cases d:nn p.nW 0 130944
  ·rw[d] at b;cases b
  cases k:nn p.nA 1 512
  ·rw[d,k] at b;cases b
  cases l:nn p.d9 0 16
  ·rw[d,k,l] at b;cases b
  exact Wx.1 l
 have e:Fj 1 p.d9 p.d9=true:=by simp only[Fj,gF,kQ];omega
 rw[e,cd,HI];refine (Y_ p.oq (bD kW a (p.oq.length+1) p.oq (len p.oq) p.d9) (XN p.d9) UT (a false) (λ_=>a true) (λ_ s=>(s.length:Int)=p.d9) (λi s _ h _=>?_) ?_ ?_ (mf (lq p.d9) [.bool false]) ?_).trans ?_
 ·show ((UT (V p.oq i) s).length:Int)=p.d9;rw[mO,h]
 ·intro n i s h v;rw[nn9];have f:ZK (p.d9 - 1)=p.d9 - 1:=Ou;have o:nn (J (V p.oq i) 0) 0 (p.d9 - 1)=true→idx (J (V p.oq i) 0) s=true∧inl (lq (J (V p.oq i) 0)) s=true:=by
   intro j;have:=Wx.1 j;refine⟨?_, ?_⟩
   ·simp only[idx,gF,kQ];omega
   ·simp only[inl,kQ];omega
  unfold XN;simp only[lE,T9 h,uH h,Q8 h m,lN,cd,TK,HI,f];cases j:nn (J (V p.oq i) 0) 0 (p.d9 - 1)
  ·rw[eE (g:= !false) (x:=true) (λ_=>rfl) (λh=>by cases h)];rfl
  ·obtain⟨q,r⟩:=o j;rw[q,r];rfl
 ·intro n s _;rw[nn9];simp only[lE,hO,rl]
 ·simp only[oo];omega
 ·exact Dz a _ _ (λ_=>true) p.oq _
def XL(a:Bool→α)(i:Int)(c:rM)(j:Int→rM→α)(k:Int)(b:rM):α:=let e:Bool:= !(nn (J (V c (lq k)) 0) 0 (ZK (i - 1)));let f:Bool:=idx (J (V c (lq k)) 0) b;let d:Nat:=lq (J (V c (lq k)) 0);let g:Bool:=inl d b;let h:List DC:=V b d;bif decide (k<len c) then bif lV e (Bk true (idx k c)) (Bk (Bk (Bk (Bk true (idx k c)) (idx k c)) f) g) then bif bif e then true else yz h 0 then a false else bif Bk (Bk (Bk true (idx k c)) f) g then j (ZK (k+1)) (nq b d (CI h 0 [.bool true])) else kW else kW else a true
def gj(a:Bool→α)(N:Nat)(b:Int)(c:rM)(d:Nat):Int→rM→α:=WS (λ_ _=>kW) (XL kW a b c) d
theorem nsj(a:Bool→α)(N:Nat)(b:Int)(c:rM)(d:Nat):gj kW a N b c (d+1)=XL kW a b c (gj kW a N b c d):=rfl
def jY(a:Bool→α)(b:Int→rM→Int→rM→α)(p:Cf):α:=bif bif !(nn p.nW 0 130944) then true else bif !(nn p.nA 1 512) then true else !(nn p.d9 0 16) then a false else bif Bk true (Fj 1 p.d9 p.d9) then b p.d9 p.oq 0 (mf (lq p.d9) ([.bool false]:List DC)) else kW
def njZ(a:Bool→α)(N:Nat)(p:Cf):α:=jY kW a (λb c=>gj kW a N b c N) p
theorem na2(a:Bool→α)(p:Cf)(c:i_ Cf.ct p.enc):∃N,njZ kW a N p=a (mK p):=by
 obtain⟨m,t⟩:=jD (Cf.nAS c);refine⟨p.oq.length+1, ?_⟩;unfold njZ jY mK;refine oN (λ_=>rfl) (λb=>?_);have u:0≤p.d9∧p.d9≤16:=by
  cases d:nn p.nW 0 130944
  ·rw[d] at b;cases b
  cases k:nn p.nA 1 512
  ·rw[d,k] at b;cases b
  cases l:nn p.d9 0 16
  ·rw[d,k,l] at b;cases b
  exact Wx.1 l
 have e:Fj 1 p.d9 p.d9=true:=by simp only[Fj,gF,kQ];omega
 rw[e,cd,HI];refine (Y_ p.oq (gj kW a (p.oq.length+1) p.d9 p.oq) (XN p.d9) UT (a false) (λ_=>a true) (λ_ s=>(s.length:Int)=p.d9) (λi s _ h _=>?_) ?_ ?_ (mf (lq p.d9) [.bool false]) ?_).trans ?_
 ·show ((UT (V p.oq i) s).length:Int)=p.d9;rw[mO,h]
 ·intro n i s h v;rw[nsj];have f:ZK (p.d9 - 1)=p.d9 - 1:=Ou;have o:nn (J (V p.oq i) 0) 0 (p.d9 - 1)=true→idx (J (V p.oq i) 0) s=true∧inl (lq (J (V p.oq i) 0)) s=true:=by
   intro j;have:=Wx.1 j;refine⟨?_, ?_⟩
   ·simp only[idx,gF,kQ];omega
   ·simp only[inl,kQ];omega
  unfold XN;simp only[XL,T9 h,uH h,Q8 h m,lN,cd,TK,HI,f];cases j:nn (J (V p.oq i) 0) 0 (p.d9 - 1)
  ·rw[eE (g:= !false) (x:=true) (λ_=>rfl) (λh=>by cases h)];rfl
  ·obtain⟨q,r⟩:=o j;rw[q,r];rfl
 ·intro n s _;rw[nsj];simp only[XL,hO,rl]
 ·simp only[oo];omega
 ·exact Dz a _ _ (λ_=>true) p.oq _
def nty(a:Cf→Bool→α)(p:Cf)(Z:rM):α:=let b:Cf:=(⟨(cp p).nW,(cp p).nA,(cp p).d9,((cp p).oq)++Z⟩:Cf);bif Bk true (ig p) then bif Bk true (Pf 8 ((cp p).oq) Z) then bif bif !(mK p) then true else !(mK b) then bif Bk true (ig p) then a (cp p) false else kW else a b true else kW else kW
def Z6(p:Cf)(Z:rM):Bool:=Of p.oq && decide (p.oq.length+Z.length≤134217728)
theorem nqA{p:Cf}{Z:rM}(h:Z6 p Z=true):Of p.oq=true∧p.oq.length+Z.length≤134217728:=by simpa [Z6] using h
def Ni(p:Cf)(Z:rM):Cf×Bool:=bif bif !(mK p) then true else !(mK (⟨p.nW,p.nA,p.d9,p.oq++Z⟩:Cf)) then (p,false) else ((⟨p.nW,p.nA,p.d9,p.oq++Z⟩:Cf),true)
theorem nDR(a:Cf→Bool→α)(p:Cf)(Z:rM)(c:Z6 p Z=true):nty kW a p Z=a (Ni p Z).1 (Ni p Z).2:=by have h:Z6 p Z=true:=c;obtain⟨d,e⟩:=nqA h;have f:ig p=true:=d;unfold nty Ni;simp only[cp,f,Q0 e (show 8≤1048576 by omega),cd,HI];generalize (bif !(mK p) then true else !(mK (⟨p.nW,p.nA,p.d9,p.oq++Z⟩:Cf)))=b;cases b<;>rfl
structure Sx where
 d5:jW
 nM:Cf
 nx:rM
 en:Int
def Sx.enc(x:Sx):List DC:=[.int x.d5.nW,.int x.d5.nA,.int x.d5.ej,.int x.d5.pj,.int x.nM.nW,.int x.nM.nA,.int x.nM.d9,.sl x.nM.oq,.sl x.nx,.int x.en]
def Sx.nd(r:List DC)(o:Nat):Sx:=⟨jW.nd r (o+0),Cf.nd r (o+4),Zc r (o+8),J r (o+9)⟩
def Sx.ct:List CT:=[.i,.i,.i,.i,.i,.i,.i,.sl vL,.sl [.i,.i,.sl vL],.i]
theorem Sx.eta{r:List DC}(h:i_ Sx.ct r):(Sx.nd r 0).enc=r:=(show (Sx.nd r 0).enc=nK Sx.ct r 0 from by kernel_rfl).trans (DG h)
theorem Sx.nX{r:List CT}{b:List DC}(h:i_ (Sx.ct++r) b):∃(x:Sx) (c:List DC),b=x.enc++c∧i_ Sx.ct x.enc∧i_ r c:=by obtain⟨d,e,rfl,a,f⟩:=Vi h;exact⟨Sx.nd d 0,e,by rw[Sx.eta a],by rw[Sx.eta a];exact a,f⟩
theorem Sx.nC7{x:Sx}(h:i_ Sx.ct x.enc):i_ jW.ct x.d5.enc:=cW 0 4 h
theorem Sx.nv3{x:Sx}(h:i_ Sx.ct x.enc):Oj (.sl [.i,.i,.sl vL]) (.sl x.nx):=Fh 8 h rfl rfl
theorem Sx.nAT{x:Sx}(h:i_ Sx.ct x.enc):Oj .i (.int x.en):=Fh 9 h rfl rfl
def Bd(a:Bool→α)(x:rM)(h d e f:Int)(g:rM)(i:Int→Int→rM→α)(left b:Int)(c:rM):α:=bif decide (b<h) then bif Bk true (idx b x) then bif bif decide (J (V x (lq b)) 1<1) then true else bif decide (left<J (V x (lq b)) 1) then true else !(nn (J (V x (lq b)) 0) 0 65535) then a false else bif Bk true (Pf 8 c (Zc (V x (lq b)) 2)) then i (ZK (left - (J (V x (lq b)) 1))) (ZK (b+1)) (c++(Zc (V x (lq b)) 2)) else kW else kW else bif Bk true (Z6 (⟨d,e,f,g⟩:Cf) c) then a ((Ni (⟨d,e,f,g⟩:Cf) c).2) else kW
def zR(a:Bool→α)(N:Nat)(x:rM)(f b c d:Int)(e:rM)(g:Nat):Int→Int→rM→α:=WS (λ_ _ _=>kW) (Bd kW a x f b c d e) g
theorem nvx(a:Bool→α)(N:Nat)(x:rM)(f b c d:Int)(e:rM)(g:Nat):zR kW a N x f b c d e (g+1)=Bd kW a x f b c d e (zR kW a N x f b c d e g):=rfl
def VV(kW:α)(a:Bool→α)(b:rM→Int→Int→Int→Int→rM→Int→Int→rM→α)(q:Sx):α:=bif bif !(Wi q.d5) then true else bif !(mK q.nM) then true else !(nn q.en 0 65535) then a false else b q.nx (len q.nx) q.nM.nW q.nM.nA q.nM.d9 q.nM.oq q.d5.nA 0 []
def nw2(a:Bool→α)(N:Nat)(q:Sx):α:=VV kW a (λx f b c d e=>zR kW a N x f b c d e N) q
def ke:rM→Nat
 | []=>0
 | r::rs=>(Zc r 2).length+ke rs
def oP:rM→rM
 | []=>[]
 | r::rs=>Zc r 2++oP rs
def bq:rM→Int
 | []=>0
 | r::rs=>J r 1+bq rs
def TC(q:Sx):Bool:=decide (q.nM.oq.length≤1048576) && (Of q.nx && decide (ke q.nx≤1048576))
theorem nt8{q:Sx}(h:TC q=true):Of q.nM.oq=true∧q.nx.length≤16777216∧ke q.nx≤16777216:=by simp only[TC,gF,kQ] at h;exact⟨Tl (by omega),RG h.2.1,by omega⟩
def gB(n:Int)(r:List DC):Bool:=bif nn (J r 1) 1 n then nn (J r 0) 0 65535 else false
def Yo(q:Sx):Bool:=bif bif !(Wi q.d5) then true else bif !(mK q.nM) then true else !(nn q.en 0 65535) then false else bif q.nx.all (gB q.d5.nA) then bif (Ni q.nM (oP q.nx)).2 then decide (bq q.nx≤q.d5.nA) else false else false
theorem drop_cons{l:rM}{i:Nat}(h:i<l.length):l.drop i=V l i::l.drop (i+1):=by rw[oS h];simp[V,ns,h]
theorem ir{l:rM}{i:Nat}(h:i<l.length):ke (l.drop i)=(Zc (V l i) 2).length+ke (l.drop (i+1)):=by rw[drop_cons h];rfl
def Ap(r:List DC)(s:Int×rM):Bool:=bif decide (J r 1<1) then true else bif decide (s.1<J r 1) then true else !(nn (J r 0) 0 65535)
def Qt(r:List DC)(s:Int×rM):Int×rM:=(s.1 - J r 1,s.2++Zc r 2)
theorem YO{n:Int}{r:List DC} :gB n r=true↔(1≤J r 1∧J r 1≤n)∧nn (J r 0) 0 65535=true:=by
 unfold gB;cases h:nn (J r 1) 1 n
 ·constructor
  ·intro h;cases h
  ·intro a;have:nn (J r 1) 1 n=true:=Wx.2 a.1;rw[h] at this;cases this
 ·have:=Wx.1 h;simp only[HI];exact⟨λa=>⟨this,a⟩,λa=>a.2⟩
theorem Fi{n:Int} :∀ {l:rM},l.all (gB n)=true→0≤bq l
 | [],_=>by simp[bq]
 | r::rs,h=>by simp only[pS,gF] at h;have:=Fi h.2;have:=(YO.1 h.1).1;simp only[bq];omega
theorem nop(n:Int)(x:α)(fin:rM→α):∀(l:rM) (s:Int×rM),s.1≤n→0≤s.1→nY Ap Qt x (λs=>fin s.2) l s=bif l.all (gB n) then bif decide (bq l≤s.1) then fin (s.2++oP l) else x else x
 | [],s,h1,h2=>by have:decide (bq []≤s.1)=true:=Tl h2;simp only[nY,List.all_nil,HI,oP,p0,this]
 | r::rs,s,h1,h2=>by
  simp only[nY,pS];by_cases a:J r 1<1
  ·have e:gB n r=false:=by
    cases c:gB n r
    ·rfl
    ·have:=(YO.1 c).1;omega
   rw[e];simp only[Ap,Tl a,HI,Bool.false_and,rl]
  ·cases b:nn (J r 0) 0 65535
   ·have e:gB n r=false:=by
     cases c:gB n r
     ·rfl
     ·have:=(YO.1 c).2;rw[b] at this;cases this
    rw[e];have:Ap r s=true:=by simp only[Ap,yF a,b,rl,Bool.not_false];cases decide (s.1<J r 1)<;>rfl
    rw[this];rfl
   ·by_cases d:s.1<J r 1
    ·have:Ap r s=true:=by simp only[Ap,yF a,Tl d,rl,HI]
     rw[this,HI];cases f:(gB n r && rs.all (gB n))
     ·rfl
     ·simp only[gF] at f;have:=Fi f.2;rw[HI,yF (by simp only[bq];omega)];rfl
    ·have:Ap r s=false:=by simp only[Ap,yF a,yF d,b,rl,mc]
     have e:gB n r=true:=YO.2 ⟨⟨by omega,by omega⟩,b⟩;rw[this,rl,e,Bool.true_and];have g:=nop n x fin rs (Qt r s) (by simp only[Qt];omega) (by simp only[Qt];omega);rw[g];have h:decide (bq rs≤(Qt r s).1)=decide (bq (r::rs)≤s.1):=by
      have:bq rs≤(Qt r s).1↔bq (r::rs)≤s.1:=by simp only[Qt,bq];omega
      exact decide_eq_decide.2 this
     rw[h];simp only[Qt,oP,nF]
theorem nkS(a:Bool→α)(q:Sx)(j:i_ Sx.ct q.enc)(t:TC q=true):∃N,nw2 kW a N q=a (Yo q):=by
 have u:TC q=true:=t;obtain⟨m,v,k⟩:=nt8 u;obtain⟨w,A⟩:=jD (Sx.nv3 j);refine⟨q.nx.length+1, ?_⟩;unfold nw2 VV Yo;refine oN (λ_=>rfl) (λg=>?_);have B:2≤q.d5.nA∧q.d5.nA≤16:=by
  cases e:Wi q.d5
  ·rw[e] at g;cases g
  exact FZ e
 have l:∀b:rM,b.length≤16777216→Z6 q.nM b=true:=by intro b h;have:=RG m;simp only[Z6,m,Bool.true_and,kQ];omega
 have key:zR kW a (q.nx.length+1) q.nx (len q.nx) q.nM.nW q.nM.nA q.nM.d9 q.nM.oq (q.nx.length+1) q.d5.nA 0 []=nY Ap Qt (a false) (λs=>a (Ni q.nM s.2).2) q.nx (q.d5.nA,[]):=by
  refine Y_ q.nx (λn i (s:Int×rM)=>zR kW a (q.nx.length+1) q.nx (len q.nx) q.nM.nW q.nM.nA q.nM.d9 q.nM.oq n s.1 i s.2) Ap Qt (a false) (λs=>a (Ni q.nM s.2).2) (λi s=>0≤s.1∧s.1≤16∧s.2.length+ke (q.nx.drop i)≤16777216) ?_ ?_ ?_ (q.d5.nA,[]) ⟨by omega,by omega,by simpa using k⟩
  ·intro i s h f c;have x:=ir h;obtain⟨o,p,r⟩:=f;have e:¬J (V q.nx i) 1<1:=by intro d;simp only[Ap,Tl d,HI] at c;cases c
   have y:¬s.1<J (V q.nx i) 1:=by intro d;simp only[Ap,yF e,Tl d,HI,rl] at c;cases c
   refine⟨by simp only[Qt];omega,by simp only[Qt];omega, ?_⟩;simp only[Qt,Qe];omega
  ·intro n i s h f;obtain⟨o,p,r⟩:=f;have x:=ir h;show zR kW a (q.nx.length+1) q.nx (len q.nx) q.nM.nW q.nM.nA q.nM.d9 q.nM.oq (n+1) s.1 (i:Int) s.2=_;rw[nvx];have z:Pf 8 s.2 (Zc (V q.nx i) 2)=true:=Q0 (by omega) (by omega);simp only[Bd,T9 h,uH h,Q8 h w,lN,cd,TK,HI,z];refine cond_congr rfl (λ_=>rfl) (λc=>?_);have e:¬J (V q.nx i) 1<1:=by intro d;simp only[Tl d,HI] at c;cases c
   have y:¬s.1<J (V q.nx i) 1:=by intro d;simp only[yF e,Tl d,HI,rl] at c;cases c
   rw[Ou (n:=s.1 - J (V q.nx i) 1)];rfl
  ·intro n s f;obtain⟨o,p,r⟩:=f;show zR kW a (q.nx.length+1) q.nx (len q.nx) q.nM.nW q.nM.nA q.nM.d9 q.nM.oq (n+1) s.1 (q.nx.length:Int) s.2=_;rw[nvx];have g:Z6 (⟨q.nM.nW,q.nM.nA,q.nM.d9,q.nM.oq⟩:Cf) s.2=true:=l s.2 (by omega);simp only[Bd,hO,rl,g,cd,HI]
 refine key.trans ?_;refine (nop q.d5.nA (a false) (λb=>a (Ni q.nM b).2) q.nx (q.d5.nA,[]) (by simp) (by show 0≤q.d5.nA;omega)).trans ?_;simp only[List.nil_append];cases q.nx.all (gB q.d5.nA)
 ·rfl
 ·cases C:decide (bq q.nx≤q.d5.nA)
  ·simp only[HI,rl];cases (Ni q.nM (oP q.nx)).2<;>rfl
  ·simp only[HI];cases (Ni q.nM (oP q.nx)).2<;>rfl
structure SA where
 eh:Int
 py:Int
 pN:Int
 oC:Int
 oz:Int
def SA.enc(x:SA):List DC:=[.int x.eh,.int x.py,.int x.pN,.int x.oC,.int x.oz]
def SA.nd(r:List DC)(o:Nat):SA:=⟨J r (o+0),J r (o+1),J r (o+2),J r (o+3),J r (o+4)⟩
def SA.ct:List CT:=[.i,.i,.i,.i,.i]
theorem SA.eta{r:List DC}(h:i_ SA.ct r):(SA.nd r 0).enc=r:=(show (SA.nd r 0).enc=nK SA.ct r 0 from by kernel_rfl).trans (DG h)
theorem SA.nX{r:List CT}{b:List DC}(h:i_ (SA.ct++r) b):∃(x:SA) (c:List DC),b=x.enc++c∧i_ SA.ct x.enc∧i_ r c:=by obtain⟨d,e,rfl,a,f⟩:=Vi h;exact⟨SA.nd d 0,e,by rw[SA.eta a],by rw[SA.eta a];exact a,f⟩
theorem SA.nob{x:SA}(h:i_ SA.ct x.enc):Oj .i (.int x.eh):=Fh 0 h rfl rfl
theorem SA.nod{x:SA}(h:i_ SA.ct x.enc):Oj .i (.int x.py):=Fh 1 h rfl rfl
theorem SA.nv2{x:SA}(h:i_ SA.ct x.enc):Oj .i (.int x.pN):=Fh 2 h rfl rfl
theorem SA.nmf{x:SA}(h:i_ SA.ct x.enc):Oj .i (.int x.oC):=Fh 3 h rfl rfl
theorem SA.nme{x:SA}(h:i_ SA.ct x.enc):Oj .i (.int x.oz):=Fh 4 h rfl rfl
structure W4 where
 nO:rM
def W4.enc(x:W4):List DC:=[.sl x.nO]
def W4.nd(r:List DC)(o:Nat):W4:=⟨Zc r (o+0)⟩
def W4.ct:List CT:=[.sl xT]
theorem W4.eta{r:List DC}(h:i_ W4.ct r):(W4.nd r 0).enc=r:=(show (W4.nd r 0).enc=nK W4.ct r 0 from by kernel_rfl).trans (DG h)
theorem W4.nX{r:List CT}{b:List DC}(h:i_ (W4.ct++r) b):∃(x:W4) (c:List DC),b=x.enc++c∧i_ W4.ct x.enc∧i_ r c:=by obtain⟨d,e,rfl,a,f⟩:=Vi h;exact⟨W4.nd d 0,e,by rw[W4.eta a],by rw[W4.eta a];exact a,f⟩
theorem W4.ncU{x:W4}(h:i_ W4.ct x.enc):Oj (.sl xT) (.sl x.nO):=Fh 0 h rfl rfl
def yR(a:Int→α)(x:Int)(c:rM)(d:Int→Int→α)(n b:Int):α:=bif decide (b<x) then bif Bk (Bk true (idx b c)) (inl (lq b) c) then bif Bk true (DZ (J (V c (lq b)) 0) 8) then d (ZK (n+(NU (J (V c (lq b)) 0) 8))) (ZK (b+1)) else kW else kW else a (lZ n 8)
def nE(a:Int→α)(N:Nat)(x:Int)(b:rM)(c:Nat):Int→Int→α:=WS (λ_ _=>kW) (yR kW a x b) c
theorem nCq(a:Int→α)(N:Nat)(x:Int)(b:rM)(c:Nat):nE kW a N x b (c+1)=yR kW a x b (nE kW a N x b c):=rfl
def Yd(kW:α)(a:Int→α)(b:Int→rM→Int→Int→α)(f:SA):α:=b 5 ([[.int f.eh],[.int f.py],[.int f.pN],[.int f.oC],[.int f.oz]]) 0 0
def nCd(a:Int→α)(N:Nat)(f:SA):α:=Yd kW a (λx b=>nE kW a N x b N) f
def PK(f:SA):rM:=[[.int f.eh],[.int f.py],[.int f.pN],[.int f.oC],[.int f.oz]]
def IG(f:SA):Int:=f.eh % 8+f.py % 8+f.pN % 8+f.oC % 8+f.oz % 8
def Rp(f:SA):Int:=IG f % 8
theorem nxW(f:SA):0≤IG f:=by unfold IG;omega
theorem xc(f:SA):0≤Rp f∧Rp f<8:=by unfold Rp;omega
theorem nip(f:SA):Wc (λi s=>s+(J (V (PK f) i) 0) % 8) 5 0 0=IG f:=by show 0+f.eh % 8+f.py % 8+f.pN % 8+f.oC % 8+f.oz % 8=IG f;unfold IG;omega
theorem nmn(a:Int→α)(f:SA)(c:i_ SA.ct f.enc):∃N,nCd kW a N f=a (Rp f):=by
 have h:∀i,i<5→ -9223372036854775808≤J (V (PK f) i) 0∧J (V (PK f) i) 0≤9223372036854775807:=by
  intro i d;rcases i with _ | _ | _ | _ | _ | i
  ·exact ka (SA.nob c)
  ·exact ka (SA.nod c)
  ·exact ka (SA.nv2 c)
  ·exact ka (SA.nmf c)
  ·exact ka (SA.nme c)
  ·omega
 refine⟨6, ?_⟩;unfold nCd Yd;have key:nE kW a 6 5 (PK f) 6 0 0=a (lZ (Wc (λi s=>s+(J (V (PK f) i) 0) % 8) 5 0 0) 8):=by
  refine Xb 5 (λn i s=>nE kW a 6 5 (PK f) n s i) (λi s=>s+(J (V (PK f) i) 0) % 8) (λs=>a (lZ s 8)) (λi s=>0≤s∧s≤7*(i:Int)) ?_ ?_ ?_ 6 0 ⟨by omega,by omega⟩ (by omega)
  ·intro i s d e;obtain⟨j,k⟩:=e;refine⟨by omega,by omega⟩
  ·intro n i s d e;obtain⟨j,k⟩:=e;have b:=h i d;show nE kW a 6 5 (PK f) (n+1) s (i:Int)=_;rw[nCq];have g:i<(PK f).length:=d;have l:ZK ((i:Int)+1)=(i:Int)+1:=Ou;have m:ZK (s+(J (V (PK f) i) 0) % 8)=s+(J (V (PK f) i) 0) % 8:=Ou;obtain⟨o,p⟩:=vP (x:=J (V (PK f) i) 0) (n:=8) b.1 b.2 (by omega) (by omega);have q:decide ((i:Int)<5)=true:=Tl (by omega);simp only[yR,q,uH g,SG g,lN,o,p,l,m,cd,TK,HI]
  ·intro n s e;show nE kW a 6 5 (PK f) (n+1) s ((5:Nat):Int)=_;rw[nCq];rfl
 refine key.trans ?_;rw[nip];exact congrArg a (oT (nxW f))
def kO(a:Int→α)(Z:rM)(b:Int→Int→α)(n k:Int):α:=bif decide (k<len Z) then bif Bk (Bk true (idx k Z)) (inl (lq k) Z) then b (ZK (n+(bits .and .i64 (J (V Z (lq k)) 0) 7))) (ZK (k+1)) else kW else a (lZ n 8)
def sb(a:Int→α)(N:Nat)(Z:rM)(b:Nat):Int→Int→α:=WS (λ_ _=>kW) (kO kW a Z) b
theorem nB5(a:Int→α)(N:Nat)(Z:rM)(b:Nat):sb kW a N Z (b+1)=kO kW a Z (sb kW a N Z b):=rfl
def P1(kW:α)(a:Int→α)(b:rM→Int→Int→α)(f:SA):α:=b ([[.int f.eh],[.int f.py],[.int f.pN],[.int f.oC],[.int f.oz]]) 0 0
def nik(a:Int→α)(N:Nat)(f:SA):α:=P1 kW a (λZ=>sb kW a N Z N) f
theorem ngN(a:Int→α)(f:SA)(c:i_ SA.ct f.enc):∃N,nik kW a N f=a (Rp f):=by
 have h:∀i,i<5→ -9223372036854775808≤J (V (PK f) i) 0∧J (V (PK f) i) 0≤9223372036854775807:=by
  intro i d;rcases i with _ | _ | _ | _ | _ | i
  ·exact ka (SA.nob c)
  ·exact ka (SA.nod c)
  ·exact ka (SA.nv2 c)
  ·exact ka (SA.nmf c)
  ·exact ka (SA.nme c)
  ·omega
 refine⟨6, ?_⟩;unfold nik P1;have key:sb kW a 6 (PK f) 6 0 0=a (lZ (Wc (λi s=>s+(J (V (PK f) i) 0) % 8) 5 0 0) 8):=by
  refine Xb 5 (λn i s=>sb kW a 6 (PK f) n s i) (λi s=>s+(J (V (PK f) i) 0) % 8) (λs=>a (lZ s 8)) (λi s=>0≤s∧s≤7*(i:Int)) ?_ ?_ ?_ 6 0 ⟨by omega,by omega⟩ (by omega)
  ·intro i s d e;obtain⟨j,k⟩:=e;refine⟨by omega,by omega⟩
  ·intro n i s d e;obtain⟨j,k⟩:=e;have b:=h i d;show sb kW a 6 (PK f) (n+1) s (i:Int)=_;rw[nB5];have g:i<(PK f).length:=d;have l:ZK ((i:Int)+1)=(i:Int)+1:=Ou;have m:ZK (s+(J (V (PK f) i) 0) % 8)=s+(J (V (PK f) i) 0) % 8:=Ou;have o:decide ((i:Int)<len (PK f))=true:=T9 g;simp only[kO,o,uH g,SG g,lN,ntO,l,m,cd,TK,HI]
  ·intro n s e;show sb kW a 6 (PK f) (n+1) s ((5:Nat):Int)=_;rw[nB5];rfl
 refine key.trans ?_;rw[nip];exact congrArg a (oT (nxW f))
def ki(a:Int→α)(x:rM)(c d e f g h:Int)(i:Int→α)(b:Int):α:=bif decide (b<c) then bif Bk true (idx b x) then bif bif (J (V x (lq b)) 0)==1 then bif (J (V x (lq b)) 1)==d then bif (J (V x (lq b)) 2)==e then bif (J (V x (lq b)) 3)==f then bif (J (V x (lq b)) 4)==g then bif (J (V x (lq b)) 5)==h then true else false else false else false else false else false else false then a b else i (ZK (b+1)) else kW else a (-1)
def oJ(a:Int→α)(N:Nat)(x:rM)(b c d e f g:Int)(h:Nat):Int→α:=WS (λ_=>kW) (ki kW a x b c d e f g) h
theorem ne5(a:Int→α)(N:Nat)(x:rM)(b c d e f g:Int)(h:Nat):oJ kW a N x b c d e f g (h+1)=ki kW a x b c d e f g (oJ kW a N x b c d e f g h):=rfl
def Oy(kW:α)(a:Int→α)(b:rM→Int→Int→Int→Int→Int→Int→Int→α)(t:W4)(f:SA):α:=b t.nO (len t.nO) f.eh f.py f.pN f.oC f.oz 0
def nnh(a:Int→α)(N:Nat)(t:W4)(f:SA):α:=Oy kW a (λx b c d e g h=>oJ kW a N x b c d e g h N) t f
def iW(r:List DC)(f:SA):Bool:=bif (J r 0)==1 then bif (J r 1)==f.eh then bif (J r 2)==f.py then bif (J r 3)==f.pN then bif (J r 4)==f.oC then bif (J r 5)==f.oz then true else false else false else false else false else false else false
def Uu(t:W4)(f:SA):Int:=findIdx (λ_ r=>iW r f) t.nO 0
theorem ndD(a:Int→α)(t:W4)(f:SA)(b:i_ W4.ct t.enc):∃N,nnh kW a N t f=a (Uu t f):=by
 obtain⟨d,_⟩:=jD (W4.ncU b);refine⟨t.nO.length+1, ?_⟩;unfold nnh Oy Uu;have key:oJ kW a (t.nO.length+1) t.nO (len t.nO) f.eh f.py f.pN f.oC f.oz (t.nO.length+1) 0=a (findIdx (λ_ r=>iW r f) t.nO 0):=by
  refine (P6 t.nO (oJ kW a (t.nO.length+1) t.nO (len t.nO) f.eh f.py f.pN f.oC f.oz) (λi r c=>bif iW r f then a (i:Int) else c) (a (-1)) ?_ ?_).trans ?_
  ·intro n i h;rw[ne5];simp only[ki,T9 h,uH h,Q8 h d,lN,cd,TK,HI];rfl
  ·intro n;rw[ne5];simp only[ki,hO,rl]
  ·exact om (λ_ r=>iW r f) a t.nO 0
 exact key
def NQ(a:Int→α)(e:rM)(f g h i j:Int)(o:Int→α)(k:Int):α:=let c:Int:=lZ (ZK ((Rp (⟨f,g,h,i,j⟩:SA))+k)) 8;let l:Bool:=idx c e;let d:Bool:=Bk true l;let b:List DC:=V e (lq c);let m:Int:=J b 0;let n:Bool:=m==1;bif decide (k<8) then bif d then bif m==0 then a (-1) else bif lV n (Bk d l) d then bif bif n then bif (J b 1)==f then bif (J b 2)==g then bif (J b 3)==h then bif (J b 4)==i then bif (J b 5)==j then true else false else false else false else false else false else false then a c else o (ZK (k+1)) else kW else kW else a (-1)
def w5(a:Int→α)(N:Nat)(b:rM)(c d e f g:Int)(h:Nat):Int→α:=WS (λ_=>kW) (NQ kW a b c d e f g) h
theorem nt1(a:Int→α)(N:Nat)(b:rM)(c d e f g:Int)(h:Nat):w5 kW a N b c d e f g (h+1)=NQ kW a b c d e f g (w5 kW a N b c d e f g h):=rfl
def wg(kW:α)(a:Int→α)(b:rM→Int→Int→Int→Int→Int→Int→α)(t:W4)(f:SA):α:=b t.nO f.eh f.py f.pN f.oC f.oz 0
def nwb(a:Int→α)(N:Nat)(t:W4)(f:SA):α:=wg kW a (λb c d e g h=>w5 kW a N b c d e g h N) t f
def Qu(t:W4)(_:SA):Bool:=decide (t.nO.length=8)
def wA(t:rM)(h:Int)(f:SA):Nat→Nat→Int
 | 0,_=> -1
 | m+1,k=>bif (J (V t (lq ((h+(k:Int)) % 8))) 0)==0 then -1 else bif iW (V t (lq ((h+(k:Int)) % 8))) f then (h+(k:Int)) % 8 else wA t h f m (k+1)
def TN(t:W4)(f:SA):Int:=wA t.nO (Rp f) f 8 0
theorem nfY(a:Int→α)(t:rM)(h:Int)(f:SA):∀(m i:Nat),OZ (σ:=Unit) (λk c s=>bif (J (V t (lq ((h+(k:Int)) % 8))) 0)==0 then a (-1) else bif iW (V t (lq ((h+(k:Int)) % 8))) f then a ((h+(k:Int)) % 8) else c s) (λ_=>a (-1)) m i ()=a (wA t h f m i)
 | 0,_=>rfl
 | m+1,i=>by
  simp only[OZ,wA];cases (J (V t (lq ((h+(i:Int)) % 8))) 0)==0
  ·cases iW (V t (lq ((h+(i:Int)) % 8))) f
   ·exact nfY a t h f m (i+1)
   ·rfl
  ·rfl
theorem hmN(a:Int→α)(t:W4)(f:SA)(b:Qu t f=true):∃N,nwb kW a N t f=a (TN t f):=by
 have d:t.nO.length=8:=of_decide_eq_true b;have m:=xc f;refine⟨9, ?_⟩;unfold nwb wg TN;have key:w5 kW a 9 t.nO f.eh f.py f.pN f.oC f.oz 9 0=a (wA t.nO (Rp f) f 8 0):=by
  refine (sw (σ:=Unit) 8 (λn k _=>w5 kW a 9 t.nO f.eh f.py f.pN f.oC f.oz n k) (λk c s=>bif (J (V t.nO (lq ((Rp f+(k:Int)) % 8))) 0)==0 then a (-1) else bif iW (V t.nO (lq ((Rp f+(k:Int)) % 8))) f then a ((Rp f+(k:Int)) % 8) else c s) (λ_=>a (-1)) ?_ ?_ 9 () (by omega)).trans (nfY a t.nO (Rp f) f 8 0)
  ·intro n i s o;show w5 kW a 9 t.nO f.eh f.py f.pN f.oC f.oz (n+1) (i:Int)=_;rw[nt1];have e:decide ((i:Int)<8)=true:=Tl (by omega);have g:ZK ((i:Int)+1)=(i:Int)+1:=Ou;have h:lZ (ZK (Rp f+(i:Int))) 8=(Rp f+(i:Int)) % 8:=by rw[Ou];exact oT (by omega)
   have j:idx ((Rp f+(i:Int)) % 8) t.nO=true:=by simp only[idx,gF,kQ,d];omega
   have l:(⟨f.eh,f.py,f.pN,f.oC,f.oz⟩:SA)=f:=rfl;unfold NQ;simp only[l,e,h,j,g,cd,TK,CC,HI];rfl
  ·intro n s;show w5 kW a 9 t.nO f.eh f.py f.pN f.oC f.oz (n+1) ((8:Nat):Int)=_;rw[nt1];rfl
 exact key
def YU(a:rM→α)(c d e f g:Int)(h:Int→rM→α)(i:Int)(b:rM):α:=bif decide (i<8) then bif Bk true (Pf 8 b ([[.int (lZ (ZK ((Rp (⟨c,d,e,f,g⟩:SA))+i)) 8)]])) then h (ZK (i+1)) (b++([[.int (lZ (ZK ((Rp (⟨c,d,e,f,g⟩:SA))+i)) 8)]])) else kW else a b
def DM(a:rM→α)(N:Nat)(b c d e f:Int)(g:Nat):Int→rM→α:=WS (λ_ _=>kW) (YU kW a b c d e f) g
theorem nhX(a:rM→α)(N:Nat)(b c d e f:Int)(g:Nat):DM kW a N b c d e f (g+1)=YU kW a b c d e f (DM kW a N b c d e f g):=rfl
def nkl(kW:α)(a:rM→α)(b:fN α)(f:SA):α:=b f.eh f.py f.pN f.oC f.oz 0 []
def nnH(a:rM→α)(N:Nat)(f:SA):α:=nkl kW a (λb c d e g=>DM kW a N b c d e g N) f
def SD(h:Int)(i:Nat)(o:rM):rM:=o++[[.int ((h+(i:Int)) % 8)]]
def B9(f:SA):rM:=Wc (SD (Rp f)) 8 0 []
theorem nal(a:rM→α)(f:SA):∃N,nnH kW a N f=a (B9 f):=by
 have k:=xc f;refine⟨9, ?_⟩;unfold nnH nkl B9;have key:DM kW a 9 f.eh f.py f.pN f.oC f.oz 9 0 []=a (Wc (SD (Rp f)) 8 0 []):=by
  refine Xb 8 (λn i o=>DM kW a 9 f.eh f.py f.pN f.oC f.oz n i o) (SD (Rp f)) a (λi o=>o.length=i) ?_ ?_ ?_ 9 [] rfl (by omega)
  ·intro i o c b;simp only[SD,Qe,di,l9,b]
  ·intro n i o c b;show DM kW a 9 f.eh f.py f.pN f.oC f.oz (n+1) (i:Int) o=_;rw[nhX];have d:decide ((i:Int)<8)=true:=Tl (by omega);have e:ZK ((i:Int)+1)=(i:Int)+1:=Ou;have g:lZ (ZK (Rp f+(i:Int))) 8=(Rp f+(i:Int)) % 8:=by rw[Ou];exact oT (by omega)
   have h:(⟨f.eh,f.py,f.pN,f.oC,f.oz⟩:SA)=f:=rfl;have j:Pf 8 o [[.int ((Rp f+(i:Int)) % 8)]]=true:=Q0 (by simp only[di,l9];omega) (by omega);unfold YU;simp only[h,d,g,j,e,cd,TK,HI];rfl
  ·intro n o b;show DM kW a 9 f.eh f.py f.pN f.oC f.oz (n+1) ((8:Nat):Int) o=_;rw[nhX];rfl
 exact key
def ZN(a:Bool→α)(d:Int→Int→Int→rM→Int→α)(x:rM)(e:Int)(f:rM)(g:Int→α)(b:Int):α:=let c:rM:=B9 (SA.nd (V x (lq b)) 1);bif decide (b<e) then bif Bk true (idx b x) then bif bif !(nn (J (V x (lq b)) 0) 0 2) then true else !(nn (J (V x (lq b)) 6) 0 3) then a false else bif (J (V x (lq b)) 0) != 1 then bif bif !(bif (J (V x (lq b)) 1)==0 then bif (J (V x (lq b)) 2)==0 then bif (J (V x (lq b)) 3)==0 then bif (J (V x (lq b)) 4)==0 then bif (J (V x (lq b)) 5)==0 then true else false else false else false else false else false) then true else (J (V x (lq b)) 6) != 0 then a false else g (ZK (b+1)) else bif (Uu (⟨f⟩:W4) (SA.nd (V x (lq b)) 1)) != b then a false else d b b (len c) c 0 else kW else a true
def G5(a:Bool→α)(e:Int→α)(h f d:Int)(g c:rM)(i:Int→α)(b:Int):α:=bif decide (b<d) then bif Bk (Bk true (idx b c)) (inl (lq b) c) then bif (J (V c (lq b)) 0)==h then e (ZK (f+1)) else bif Bk true (idx (J (V c (lq b)) 0) g) then bif (J (V g (lq (J (V c (lq b)) 0))) 0)==0 then a false else i (ZK (b+1)) else kW else kW else e (ZK (f+1))
def Zg(a:Bool→α)(N:Nat)(c:Int→α)(d e b:Int)(f g:rM)(h:Nat):Int→α:=WS (λ_=>kW) (G5 kW a c d e b f g) h
theorem ni8(a:Bool→α)(N:Nat)(d:Int→α)(e f b:Int)(g h:rM)(i:Nat)(c:Int):Zg kW a N d e f b g h (i+1) c=G5 kW a d e f b g h (Zg kW a N d e f b g h i) c:=rfl
def EW(a:Bool→α)(N:Nat)(x:rM)(e:Int)(c:rM)(f:Nat):Int→α:=WS (λ_=>kW) (λd=>ZN kW a (λg h b i=>Zg kW a N d g h b c i N) x e c d) f
theorem nbE(a:Bool→α)(N:Nat)(x:rM)(c:Int)(b:rM)(e:Nat)(d:Int):EW kW a N x c b (e+1) d=ZN kW a (λd g f h=>Zg kW a N (EW kW a N x c b e) d g f b h N) x c b (EW kW a N x c b e) d:=rfl
def rW(kW:α)(a:Bool→α)(b:rM→Int→rM→Int→α)(t:W4):α:=bif (len t.nO) != 8 then a false else b t.nO (len t.nO) t.nO 0
def WV(a:Bool→α)(N:Nat)(t:W4):α:=rW kW a (λx b c=>EW kW a N x b c N) t
theorem OR{p:Nat→List DC→Bool} :∀ {l:rM} {s:Nat},Pt p l s=false→∀i,i<l.length→p (s+i) (V l i)=false
 | [],_,_,i,h=>by simp at h
 | r::rs,s,h,i,hi=>by
  simp only[Pt] at h;cases a:p s r
  ·rw[a,rl] at h;cases i with
   | zero=>exact a
   | succ i=>
    have:=OR h i (by simpa using hi);rw[show s+(i+1)=s+1+i by omega];exact this
  ·rw[a] at h;cases h
theorem pr{p:Nat→List DC→Bool} :∀ {l:rM} {s:Nat},(∀i,i<l.length→p (s+i) (V l i)=false)→Pt p l s=false
 | [],_,_=>rfl
 | r::rs,s,h=>by
  simp only[Pt];rw[show p s r=false from h 0 (by simp),rl];exact pr (λi a=>by have:=h (i+1) (by simpa using a);rw[show s+1+i=s+(i+1) by omega];exact this)
def An(t:rM)(i:Int):rM→Bool
 | []=>false
 | r::rs=>bif (J r 0)==i then false else bif (J (V t (lq (J r 0))) 0)==0 then true else An t i rs
theorem nAH(t:rM)(x:Int)(A B:α):∀(l:rM) (j:Nat),vQ (σ:=Unit) (λ_ r c s=>bif (J r 0)==x then A else bif (J (V t (lq (J r 0))) 0)==0 then B else c s) (λ_=>A) l j ()=bif An t x l then B else A
 | [],_=>rfl
 | r::rs,j=>by
  simp only[vQ,An];cases (J r 0)==x
  ·cases (J (V t (lq (J r 0))) 0)==0
   ·exact nAH t x A B rs (j+1)
   ·rfl
  ·rfl
def XX(r:List DC):Bool:=bif (J r 1)==0 then bif (J r 2)==0 then bif (J r 3)==0 then bif (J r 4)==0 then bif (J r 5)==0 then true else false else false else false else false else false
def NV(r:List DC):Bool:=bif !(nn (J r 0) 0 2) then true else !(nn (J r 6) 0 3)
def eR(t:rM)(i:Nat)(r:List DC):Bool:=bif NV r then true else bif (J r 0) != 1 then bif !(XX r) then true else (J r 6) != 0 else bif (Uu (⟨t⟩:W4) (SA.nd r 1)) != (i:Int) then true else An t (i:Int) (B9 (SA.nd r 1))
def zU(t:rM)(i:Nat)(r:List DC):Bool:=bif NV r then true else bif (J r 0) != 1 then bif (J r 6) != 0 then true else !(XX r) else (TN (⟨t⟩:W4) (SA.nd r 1)) != (i:Int)
def xG(t:W4):Bool:=bif (len t.nO) != 8 then false else bif Pt (eR t.nO) t.nO 0 then false else true
def IU(t:rM)(h i:Int):Nat→Nat→Bool
 | 0,_=>false
 | m+1,k=>bif (h+(k:Int)) % 8==i then false else bif (J (V t (lq ((h+(k:Int)) % 8))) 0)==0 then true else IU t h i m (k+1)
theorem ncf(t:rM)(i:Int)(f:SA):An t i (B9 f)=IU t (Rp f) i 8 0:=rfl
theorem dB{r:List DC}{f:SA} :iW r f=true↔J r 0=1∧SA.nd r 1=f:=by
 cases f with
 | mk a b c d e=>
  simp only[iW,SA.nd,SA.mk.injEq];by_cases g:J r 0=1
  ·by_cases h:J r 1=a
   ·by_cases i:J r 2=b
    ·by_cases j:J r 3=c
     ·by_cases k:J r 4=d
      ·by_cases l:J r 5=e
       ·simp[g,h,i,j,k,l]
       ·simp[g,h,i,j,k,l]
      ·simp[g,h,i,j,k]
     ·simp[g,h,i,j]
    ·simp[g,h,i]
   ·simp[g,h]
  ·simp[g]
theorem opM{r:List DC}(h:J r 0=1):iW r (SA.nd r 1)=true:=dB.2 ⟨h,rfl⟩
theorem nCJ{t:rM}{h:Int}{f:SA}{i:Nat}(l:i<8)(c:J (V t i) 0=1)(e:SA.nd (V t i) 1=f)
  (g:∀j,j<8→iW (V t j) f=true→j=i):∀(m k:Nat),(∃d,d<m∧(h+(k:Int)+(d:Int)) % 8=(i:Int))→IU t h (i:Int) m k=false→wA t h f m k=(i:Int)
 | 0,k,⟨d,hd,_⟩,_=>by omega
 | m+1,k,⟨d,hd,he⟩,hw=>by
  unfold wA;unfold IU at hw;by_cases a:(h+(k:Int)) % 8=(i:Int)
  ·rw[a,lN];have b:((J (V t i) 0)==0)=false:=by rw[c];rfl
   rw[b,dB.2 ⟨c,e⟩];rfl
  ·have n:((h+(k:Int)) % 8==(i:Int))=false:=by simpa using a
   rw[n,rl] at hw;cases b:(J (V t (lq ((h+(k:Int)) % 8))) 0)==0
   ·rw[b,rl] at hw;cases o:iW (V t (lq ((h+(k:Int)) % 8))) f
    ·simp only[rl];refine nCJ l c e g m (k+1) ⟨d - 1, ?_, ?_⟩ hw
     ·rcases d with _ | d
      ·exact absurd (by simpa using he) a
      ·omega
     ·rcases d with _ | d
      ·exact absurd (by simpa using he) a
      ·rw[←he]
       congr 1
       omega
    ·have:=g _ (by omega) o;exact absurd (by omega) a
   ·rw[b] at hw;cases hw
theorem nn7{t:rM}{h:Int}{f:SA}{i:Nat} :∀(m k:Nat),wA t h f m k=(i:Int)→IU t h (i:Int) m k=false
 | 0,_,_=>rfl
 | m+1,k,hl=>by
  unfold wA at hl;unfold IU;cases c:((h+(k:Int)) % 8==(i:Int))
  ·cases a:(J (V t (lq ((h+(k:Int)) % 8))) 0)==0
   ·rw[a,rl] at hl;cases b:iW (V t (lq ((h+(k:Int)) % 8))) f
    ·rw[b,rl] at hl;exact nn7 m (k+1) hl
    ·rw[b,HI] at hl;have:((h+(k:Int)) % 8==(i:Int))=true:=by simpa using hl
     rw[c] at this;cases this
   ·rw[a,HI] at hl;omega
  ·rfl
theorem nhe{t:rM}{i:Nat}(h:i<t.length)(a:J (V t i) 0=1):(Uu (⟨t⟩:W4) (SA.nd (V t i) 1) != (i:Int))=ZO (λj=>iW (V t j) (SA.nd (V t i) 1)) i 0:=by have:=Qp (λ_ r=>iW r (SA.nd (V t i) 1)) t 0 i h (opM a);rw[mg] at this;exact this
theorem Ud{p:Nat→Bool} :∀ {m s:Nat},ZO p m s=false↔∀j,s≤j→j<s+m→p j=false
 | 0,s=>by simp only[ZO,true_iff];intro j a b;omega
 | m+1,s=>by
  simp only[ZO];cases c:p s
  ·simp only[rl];rw[Ud];constructor
   ·intro h j a b;by_cases d:j=s
    ·rw[d];exact c
    ·exact h j (by omega) (by omega)
   ·intro h j a b;exact h j (by omega) (by omega)
  ·simp only[HI];constructor
   ·intro h;cases h
   ·intro h;have:=h s (by omega) (by omega);rw[c] at this;cases this
theorem nyM{t:rM}(z:t.length=8):Pt (zU t) t 0=Pt (eR t) t 0:=by
 have q:∀r:List DC,(bif !(XX r) then true else (J r 6) != 0)=(bif (J r 6) != 0 then true else !(XX r)):=by intro r;cases XX r<;>cases ((J r 6) != 0)<;>rfl
 have s:∀i,eR t i (V t i)=false→J (V t i) 0=1→NV (V t i)=false∧ZO (λj=>iW (V t j) (SA.nd (V t i) 1)) i 0=false∧IU t (Rp (SA.nd (V t i) 1)) (i:Int) 8 0=false∨¬i<t.length:=by
  intro i h d;by_cases e:i<t.length
  ·left;unfold eR at h;have f:((J (V t i) 0) != 1)=false:=by rw[d];rfl
   rw[f,nhe e d,ncf] at h;cases l:NV (V t i)
   ·rw[l] at h;simp only[rl] at h;refine⟨rfl, ?_⟩;cases u:ZO (λj=>iW (V t j) (SA.nd (V t i) 1)) i 0
    ·rw[u,rl] at h;exact⟨rfl,h⟩
    ·rw[u] at h;cases h
   ·rw[l] at h;cases h
  ·exact .inr e
 have v:∀i,i<t.length→zU t i (V t i)=false→J (V t i) 0=1→NV (V t i)=false∧TN (⟨t⟩:W4) (SA.nd (V t i) 1)=(i:Int):=by
  intro i e h d;unfold zU at h;have f:((J (V t i) 0) != 1)=false:=by rw[d];rfl
  rw[f] at h;cases l:NV (V t i)
  ·rw[l] at h;simp only[rl] at h;exact⟨rfl,by simpa using h⟩
  ·rw[l] at h;cases h
 cases g:Pt (eR t) t 0
 ·have g:=OR g;simp only[mg] at g;refine pr (λi e=>?_);rw[mg];by_cases d:J (V t i) 0=1
  ·rcases s i (g i e) d with ⟨a,b,c⟩ | h
   ·have n:∀j,j<8→iW (V t j) (SA.nd (V t i) 1)=true→j=i:=by
     intro j w m;obtain⟨o,p⟩:=dB.1 m;rcases Nat.lt_trichotomy j i with A | rfl | B
     ·have:=Ud.1 b j (by omega) (by omega);rw[m] at this;cases this
     ·rfl
     ·rcases s j (g j (by omega)) o with ⟨_,x,_⟩ | h
      ·have:=Ud.1 x i (by omega) (by omega);rw[dB.2 ⟨d,p.symm⟩] at this;cases this
      ·omega
    have y:TN (⟨t⟩:W4) (SA.nd (V t i) 1)=(i:Int):=by have C:=xc (SA.nd (V t i) 1);refine nCJ (by omega) d rfl n 8 0 ⟨(((i:Int) - Rp (SA.nd (V t i) 1)) % 8).toNat,by omega,by omega⟩ c
    unfold zU;rw[a,y,d];simp
   ·exact absurd e h
  ·have:=g i e;unfold eR at this;unfold zU;have f:((J (V t i) 0) != 1)=true:=by simpa using d
   rw[f] at this ⊢;rw[q] at this;exact this
 ·cases k:Pt (zU t) t 0
  ·have k:=OR k;simp only[mg] at k;have:Pt (eR t) t 0=false:=by
    refine pr (λi e=>?_);rw[mg];by_cases d:J (V t i) 0=1
    ·obtain⟨a,b⟩:=v i e (k i e) d;have n:ZO (λj=>iW (V t j) (SA.nd (V t i) 1)) i 0=false:=by
      refine Ud.2 (λj _ w=>?_);cases m:iW (V t j) (SA.nd (V t i) 1)
      ·rfl
      ·obtain⟨o,p⟩:=dB.1 m;have:=(v j (by omega) (k j (by omega)) o).2;rw[p,b] at this;omega
     unfold eR;have f:((J (V t i) 0) != 1)=false:=by rw[d];rfl
     rw[a,f,nhe e d,n,ncf,nn7 8 0 b];rfl
    ·have:=k i e;unfold zU at this;unfold eR;have f:((J (V t i) 0) != 1)=true:=by simpa using d
     rw[f] at this ⊢;rw[q];exact this
   rw[g] at this;cases this
  ·rfl
theorem nhr(a:Bool→α)(t:W4)(f:i_ W4.ct t.enc):∃N,WV kW a N t=a (xG t):=by
 obtain⟨g,_⟩:=jD (W4.ncU f);refine⟨t.nO.length+9, ?_⟩;unfold WV rW xG;refine oN (λ_=>rfl) (λl=>?_);have m:t.nO.length=8:=by
  have:len t.nO=8:=by simpa using l
  simp only[len] at this;omega
 have key:EW kW a (t.nO.length+9) t.nO (len t.nO) t.nO (t.nO.length+9) 0=bif Pt (eR t.nO) t.nO 0 then a false else a true:=by
  refine (fT t.nO (EW kW a (t.nO.length+9) t.nO (len t.nO) t.nO) (λi r c=>bif eR t.nO i r then a false else c) (a true) ?_ ?_ (t.nO.length+9) (by omega)).trans (NS (eR t.nO) (a false) (a true) t.nO 0)
  ·intro n i h;rw[nbE];have s:∀z:Int,J (V t.nO i) 0=z→True:=λ_ _=>trivial;have k:(B9 (SA.nd (V t.nO i) 1)).length=8:=rfl;have b:∀d:Int→α,Zg kW a (t.nO.length+9) d (i:Int) (i:Int) (len (B9 (SA.nd (V t.nO i) 1))) t.nO (B9 (SA.nd (V t.nO i) 1)) (t.nO.length+9) 0=bif An t.nO (i:Int) (B9 (SA.nd (V t.nO i) 1)) then a false else d ((i:Int)+1):=by
    intro d;refine (fT (B9 (SA.nd (V t.nO i) 1)) (Zg kW a (t.nO.length+9) d (i:Int) (i:Int) (len (B9 (SA.nd (V t.nO i) 1))) t.nO (B9 (SA.nd (V t.nO i) 1))) (λj r c=>bif (J r 0)==(i:Int) then d ((i:Int)+1) else bif (J (V t.nO (lq (J r 0))) 0)==0 then a false else c) (d ((i:Int)+1)) ?_ ?_ (t.nO.length+9) (by omega)).trans (nAH t.nO (i:Int) (d ((i:Int)+1)) (a false) (B9 (SA.nd (V t.nO i) 1)) 0)
    ·intro n j e;rw[ni8];have o:idx (J (V (B9 (SA.nd (V t.nO i) 1)) j) 0) t.nO=true:=by
      have:J (V (B9 (SA.nd (V t.nO i) 1)) j) 0=(Rp (SA.nd (V t.nO i) 1)+(j:Int)) % 8:=by
       rw[k] at e;rcases j with _ | _ | _ | _ | _ | _ | _ | _ | j
       all_goals first | rfl | omega
      rw[this];simp only[idx,gF,kQ,m];omega
     have p:ZK ((i:Int)+1)=(i:Int)+1:=Q8 h g;have q:ZK ((j:Int)+1)=(j:Int)+1:=Ou;simp only[G5,T9 e,uH e,SG e,o,p,q,lN,cd,TK,HI]
    ·intro n;rw[ni8];simp only[G5,hO,rl,Q8 h g]
   unfold ZN;simp only[b,T9 h,uH h,Q8 h g,lN,cd,TK,HI];unfold eR;show (bif NV (V t.nO i) then a false else _)=_;cases NV (V t.nO i)
   ·simp only[rl];cases ((J (V t.nO i) 0) != 1)
    ·simp only[rl];cases (Uu (⟨t.nO⟩:W4) (SA.nd (V t.nO i) 1) != (i:Int))<;>rfl
    ·rfl
   ·rfl
  ·intro n;rw[nbE];simp only[ZN,hO,rl]
 refine key.trans ?_;exact cU rfl rfl
def aA(a:Bool→α)(b:rM)(c:Int→α)(k:Int):α:=bif decide (k<len b) then bif Bk true (idx k b) then bif bif !(nn (J (V b (lq k)) 0) 0 2) then true else !(nn (J (V b (lq k)) 6) 0 3) then a false else bif (J (V b (lq k)) 0) != 1 then bif bif (J (V b (lq k)) 6) != 0 then true else !(bif (J (V b (lq k)) 1)==0 then bif (J (V b (lq k)) 2)==0 then bif (J (V b (lq k)) 3)==0 then bif (J (V b (lq k)) 4)==0 then bif (J (V b (lq k)) 5)==0 then true else false else false else false else false else false) then a false else c (ZK (k+1)) else bif Bk true (Qu (⟨b⟩:W4) (SA.nd (V b (lq k)) 1)) then bif (TN (⟨b⟩:W4) (SA.nd (V b (lq k)) 1)) != k then a false else c (ZK (k+1)) else kW else kW else a true
def gX(a:Bool→α)(N:Nat)(b:rM)(c:Nat):Int→α:=WS (λ_=>kW) (aA kW a b) c
theorem nsc(a:Bool→α)(N:Nat)(b:rM)(c:Nat):gX kW a N b (c+1)=aA kW a b (gX kW a N b c):=rfl
def Vn(kW:α)(a:Bool→α)(b:rM→Int→α)(t:W4):α:=bif (len t.nO) != 8 then a false else b t.nO 0
def ntP(a:Bool→α)(N:Nat)(t:W4):α:=Vn kW a (λb=>gX kW a N b N) t
theorem opR(a:Bool→α)(t:W4)(b:i_ W4.ct t.enc):∃N,ntP kW a N t=a (xG t):=by
 obtain⟨e,_⟩:=jD (W4.ncU b);refine⟨t.nO.length+1, ?_⟩;unfold ntP Vn xG;refine oN (λ_=>rfl) (λf=>?_);have d:t.nO.length=8:=by
  have:len t.nO=8:=by simpa using f
  simp only[len] at this;omega
 have key:gX kW a (t.nO.length+1) t.nO (t.nO.length+1) 0=bif Pt (zU t.nO) t.nO 0 then a false else a true:=by
  refine (P6 t.nO (gX kW a (t.nO.length+1) t.nO) (λi r c=>bif zU t.nO i r then a false else c) (a true) ?_ ?_).trans (NS (zU t.nO) (a false) (a true) t.nO 0)
  ·intro n i h;rw[nsc];have g:Qu (⟨t.nO⟩:W4) (SA.nd (V t.nO i) 1)=true:=Tl d;simp only[aA,g,T9 h,uH h,Q8 h e,lN,cd,TK,HI];unfold zU;show (bif NV (V t.nO i) then a false else _)=_;cases NV (V t.nO i)
   ·simp only[rl];cases ((J (V t.nO i) 0) != 1)
    ·rfl
    ·rfl
   ·rfl
  ·intro n;rw[nsc];simp only[aA,hO,rl]
 refine key.trans ?_;rw[nyM d];exact cU rfl rfl
structure aV where
 eJ:Y
 eb:rM
def aV.enc(x:aV):List DC:=[.str x.eJ,.sl x.eb]
def aV.nd(r:List DC)(o:Nat):aV:=⟨fJ r (o+0),Zc r (o+1)⟩
def aV.ct:List CT:=[.str,.sl vL]
theorem aV.eta{r:List DC}(h:i_ aV.ct r):(aV.nd r 0).enc=r:=(show (aV.nd r 0).enc=nK aV.ct r 0 from by kernel_rfl).trans (DG h)
theorem aV.nX{r:List CT}{b:List DC}(h:i_ (aV.ct++r) b):∃(x:aV) (c:List DC),b=x.enc++c∧i_ aV.ct x.enc∧i_ r c:=by obtain⟨d,e,rfl,a,f⟩:=Vi h;exact⟨aV.nd d 0,e,by rw[aV.eta a],by rw[aV.eta a];exact a,f⟩
theorem aV.niC{x:aV}(h:i_ aV.ct x.enc):Oj (.sl vL) (.sl x.eb):=Fh 1 h rfl rfl
structure nJ where
 oQ:rM
 eb:W4
 nV:aV
def nJ.enc(x:nJ):List DC:=[.sl x.oQ,.sl x.eb.nO,.str x.nV.eJ,.sl x.nV.eb]
def nJ.nd(r:List DC)(o:Nat):nJ:=⟨Zc r (o+0),W4.nd r (o+1),aV.nd r (o+2)⟩
def nJ.ct:List CT:=[.sl nS,.sl xT,.str,.sl vL]
theorem nJ.eta{r:List DC}(h:i_ nJ.ct r):(nJ.nd r 0).enc=r:=(show (nJ.nd r 0).enc=nK nJ.ct r 0 from by kernel_rfl).trans (DG h)
theorem nJ.nX{r:List CT}{b:List DC}(h:i_ (nJ.ct++r) b):∃(x:nJ) (c:List DC),b=x.enc++c∧i_ nJ.ct x.enc∧i_ r c:=by obtain⟨d,e,rfl,a,f⟩:=Vi h;exact⟨nJ.nd d 0,e,by rw[nJ.eta a],by rw[nJ.eta a];exact a,f⟩
theorem nJ.nzK{x:nJ}(h:i_ nJ.ct x.enc):Oj (.sl nS) (.sl x.oQ):=Fh 0 h rfl rfl
theorem nJ.niC{x:nJ}(h:i_ nJ.ct x.enc):i_ W4.ct x.eb.enc:=cW 1 1 h
def E9(a:Bool→α)(c:Int)(x:rM)(d:Int)(e:Int→α)(b:Int):α:=bif decide (b<d) then bif Bk true (idx b x) then bif !(nn (J (V x (lq b)) 0) 0 (ZK (c - 1))) then a false else e (ZK (b+1)) else kW else a true
def Ad(a:Bool→α)(N:Nat)(b:Int)(x:rM)(c:Int)(d:Nat):Int→α:=WS (λ_=>kW) (E9 kW a b x c) d
theorem nlE(a:Bool→α)(N:Nat)(b:Int)(x:rM)(c:Int)(d:Nat):Ad kW a N b x c (d+1)=E9 kW a b x c (Ad kW a N b x c d):=rfl
def tN(kW:α)(a:Bool→α)(b:rM→Int→Int→α)(s:aV)(c:Int):α:=bif bif !(nn c 1 4) then true else bif (len s.eJ) != 16 then true else !(Yi (len s.eb)) then a false else b s.eb (len s.eb) 0
def nnW(a:Bool→α)(N:Nat)(s:aV)(b:Int):α:=tN kW a (λx c=>Ad kW a N b x c N) s b
def xx(s:aV)(a:Int):Bool:=bif bif !(nn a 1 4) then true else bif (len s.eJ) != 16 then true else !(Yi (len s.eb)) then false else s.eb.all (λr=>nn (J r 0) 0 (ZK (a - 1)))
theorem nxS(a:Bool→α)(s:aV)(b:Int)(d:i_ aV.ct s.enc):∃N,nnW kW a N s b=a (xx s b):=by
 obtain⟨e,_⟩:=jD (aV.niC d);refine⟨s.eb.length+1, ?_⟩;unfold nnW tN xx;refine oN (λ_=>rfl) (λ_=>?_);have key:Ad kW a (s.eb.length+1) b s.eb (len s.eb) (s.eb.length+1) 0=bif s.eb.all (λr=>nn (J r 0) 0 (ZK (b - 1))) then a true else a false:=by
  refine (P6 s.eb (Ad kW a (s.eb.length+1) b s.eb (len s.eb)) (λi r c=>bif !(nn (J r 0) 0 (ZK (b - 1))) then a false else c) (a true) ?_ ?_).trans (Zz (λr=>nn (J r 0) 0 (ZK (b - 1))) (a false) (a true) s.eb 0)
  ·intro n i h;rw[nlE];simp only[E9,T9 h,uH h,Q8 h e,lN,cd,TK,HI]
  ·intro n;rw[nlE];simp only[E9,hO,rl]
 refine key.trans ?_;cases s.eb.all (λr=>nn (J r 0) 0 (ZK (b - 1)))<;>rfl
def Xr(a:Bool→α)(c:Int)(b:rM)(d:Int→α)(k:Int):α:=bif decide (k<len b) then bif Bk true (idx k b) then bif !(nn (J (V b (lq k)) 0) 0 (ZK (c - 1))) then a false else d (ZK (k+1)) else kW else a true
def BM(a:Bool→α)(N:Nat)(b:Int)(c:rM)(d:Nat):Int→α:=WS (λ_=>kW) (Xr kW a b c) d
theorem ntm(a:Bool→α)(N:Nat)(b:Int)(c:rM)(d:Nat):BM kW a N b c (d+1)=Xr kW a b c (BM kW a N b c d):=rfl
def mT(kW:α)(a:Bool→α)(b:rM→Int→α)(s:aV)(c:Int):α:=bif bif !(nn c 1 4) then true else bif (len s.eJ) != 16 then true else !(Yi (len s.eb)) then a false else b s.eb 0
def nmR(a:Bool→α)(N:Nat)(s:aV)(b:Int):α:=mT kW a (λc=>BM kW a N b c N) s b
theorem nic(a:Bool→α)(s:aV)(b:Int)(d:i_ aV.ct s.enc):∃N,nmR kW a N s b=a (xx s b):=by
 obtain⟨e,_⟩:=jD (aV.niC d);refine⟨s.eb.length+1, ?_⟩;unfold nmR mT xx;refine oN (λ_=>rfl) (λ_=>?_);have key:BM kW a (s.eb.length+1) b s.eb (s.eb.length+1) 0=bif s.eb.all (λr=>nn (J r 0) 0 (ZK (b - 1))) then a true else a false:=by
  refine (P6 s.eb (BM kW a (s.eb.length+1) b s.eb) (λi r c=>bif !(nn (J r 0) 0 (ZK (b - 1))) then a false else c) (a true) ?_ ?_).trans (Zz (λr=>nn (J r 0) 0 (ZK (b - 1))) (a false) (a true) s.eb 0)
  ·intro n i h;rw[ntm];simp only[Xr,T9 h,uH h,Q8 h e,lN,cd,TK,HI]
  ·intro n;rw[ntm];simp only[Xr,hO,rl]
 refine key.trans ?_;cases s.eb.all (λr=>nn (J r 0) 0 (ZK (b - 1)))<;>rfl
def DE(a:Bool→α)(c:Int→Int→α)(d:Int)(x:rM)(e:Int)(f:rM)(g:Int→α)(b:Int):α:=bif decide (b<e) then bif Bk true (idx b x) then bif bif (J (V x (lq b)) 7)==0 then decide (d≤J (V x (lq b)) 8) else false then a false else g (ZK (b+1)) else kW else c (len f) 0
def X4(a:Bool→α)(d:Int)(c:rM)(e:Int)(f:Int→α)(b:Int):α:=bif decide (b<e) then bif Bk true (idx b c) then bif bif (J (V c (lq b)) 0)==1 then decide (d≤J (V c (lq b)) 6) else false then a false else f (ZK (b+1)) else kW else a true
def ZU(a:Bool→α)(N:Nat)(b:Int)(c:rM)(d:Int)(e:Nat):Int→α:=WS (λ_=>kW) (X4 kW a b c d) e
theorem ntQ(a:Bool→α)(N:Nat)(b:Int)(c:rM)(d:Int)(e:Nat):ZU kW a N b c d (e+1)=X4 kW a b c d (ZU kW a N b c d e):=rfl
def yJ(a:Bool→α)(N:Nat)(b:Int)(x:rM)(d:Int)(c:rM)(e:Nat):Int→α:=WS (λ_=>kW) (DE kW a (λg=>ZU kW a N b c g N) b x d c) e
theorem nvO(a:Bool→α)(N:Nat)(b:Int)(x:rM)(d:Int)(c:rM)(e:Nat)(f:Int):yJ kW a N b x d c (e+1) f=DE kW a (λg=>ZU kW a N b c g N) b x d c (yJ kW a N b x d c e) f:=rfl
def Nm(kW:α)(a:Bool→α)(b:rM→Int→rM→Int→α)(s:nJ)(c:Int):α:=bif bif !(HK s.oQ) then true else bif !(xG s.eb) then true else !(xx s.nV c) then a false else b s.oQ (len s.oQ) s.eb.nO 0
def uZ(a:Bool→α)(N:Nat)(s:nJ)(b:Int):α:=Nm kW a (λx c d=>yJ kW a N b x c d N) s b
def F_(s:nJ)(a:Int):Bool:=bif bif !(HK s.oQ) then true else bif !(xG s.eb) then true else !(xx s.nV a) then false else bif s.oQ.all (λr=> !(decide (a≤J r 8))) then s.eb.nO.all (λr=> !(decide (a≤J r 6))) else false
theorem Nr{p q:List DC→Bool} :∀ {l:rM},(∀r∈l,p r=q r)→l.all p=l.all q
 | [],_=>rfl
 | r::rs,h=>by simp only[pS];rw[h r (by simp),Nr (λx a=>h x (by simp[a]))]
theorem nBH{r:List DC}(h:WN (sY.nd r 0)=true)(b:J r 7≠0):J r 8=0:=by
 unfold WN yX at h;simp only[id] at h;have c:((sY.nd r 0).fr==0)=false:=by show (J r 7==0)=false;simpa using b
 rw[c] at h;simp only[rl] at h;by_cases a:J r 8=0
 ·exact a
 ·have d:((sY.nd r 0).fl==0)=false:=by show (J r 8==0)=false;simpa using a
  rw[d] at h;revert h;cases (sY.nd r 0).fr==1<;>simp
theorem nsu{t:W4}(h:xG t=true){r:List DC}(e:r∈t.nO)(f:J r 0≠1):J r 6=0:=by
 unfold xG at h;cases a:(len t.nO) != 8
 ·rw[a,rl] at h;cases b:Pt (eR t.nO) t.nO 0
  ·obtain⟨i,c,rfl⟩:=ra e;have:=OR b i c;rw[mg] at this;have g:V t.nO i=t.nO[i]:=by simp[V,ns,c]
   rw[g] at this;unfold eR at this;have j:((J t.nO[i] 0) != 1)=true:=by simpa using f
   rw[j] at this;by_cases d:J t.nO[i] 6=0
   ·exact d
   ·have k:((J t.nO[i] 6) != 0)=true:=by simpa using d
    rw[k] at this;revert this;cases NV t.nO[i]<;>cases XX t.nO[i]<;>simp
  ·rw[b] at h;cases h
 ·rw[a] at h;cases h
theorem niW{s:nJ}{d:Int}(a:(bif !(HK s.oQ) then true else bif !(xG s.eb) then true else !(xx s.nV d))=false):
  (∀r∈s.oQ,WN (sY.nd r 0)=true)∧xG s.eb=true∧1≤d:=by
 cases b:HK s.oQ
 ·rw[b] at a;cases a
 cases f:xG s.eb
 ·rw[b,f] at a;cases a
 cases e:xx s.nV d
 ·rw[b,f,e] at a;cases a
 refine⟨?_,rfl, ?_⟩
 ·unfold HK at b;cases c:s.oQ.all (λr=>WN (sY.nd r 0))
  ·rw[c] at b;cases b
  ·exact λr g=>by simpa using p6.1 c r g
 ·unfold xx at e;cases c:nn d 1 4
  ·rw[c] at e;cases e
  ·exact (Wx.1 c).1
theorem nye(a:Bool→α)(s:nJ)(b:Int)(j:i_ nJ.ct s.enc):∃N,uZ kW a N s b=a (F_ s b):=by
 obtain⟨k,_⟩:=jD (nJ.nzK j);obtain⟨m,_⟩:=jD (W4.ncU (nJ.niC j));refine⟨s.oQ.length+s.eb.nO.length+1, ?_⟩;unfold uZ Nm F_;refine oN (λ_=>rfl) (λo=>?_);have f:ZU kW a (s.oQ.length+s.eb.nO.length+1) b s.eb.nO (len s.eb.nO) (s.oQ.length+s.eb.nO.length+1) 0=bif s.eb.nO.all (λr=> !(bif (J r 0)==1 then decide (b≤J r 6) else false)) then a true else a false:=by
  refine (fT s.eb.nO (ZU kW a (s.oQ.length+s.eb.nO.length+1) b s.eb.nO (len s.eb.nO)) (λi r c=>bif !(!(bif (J r 0)==1 then decide (b≤J r 6) else false)) then a false else c) (a true) ?_ ?_ (s.oQ.length+s.eb.nO.length+1) (by omega)).trans (Zz (λr=> !(bif (J r 0)==1 then decide (b≤J r 6) else false)) (a false) (a true) s.eb.nO 0)
  ·intro n i h;rw[ntQ];simp only[X4,T9 h,uH h,Q8 h m,lN,cd,TK,HI,o0]
  ·intro n;rw[ntQ];simp only[X4,hO,rl]
 have key:yJ kW a (s.oQ.length+s.eb.nO.length+1) b s.oQ (len s.oQ) s.eb.nO (s.oQ.length+s.eb.nO.length+1) 0=bif s.oQ.all (λr=> !(bif (J r 7)==0 then decide (b≤J r 8) else false)) then (bif s.eb.nO.all (λr=> !(bif (J r 0)==1 then decide (b≤J r 6) else false)) then a true else a false) else a false:=by
  refine (fT s.oQ (yJ kW a (s.oQ.length+s.eb.nO.length+1) b s.oQ (len s.oQ) s.eb.nO) (λi r c=>bif !(!(bif (J r 7)==0 then decide (b≤J r 8) else false)) then a false else c) (bif s.eb.nO.all (λr=> !(bif (J r 0)==1 then decide (b≤J r 6) else false)) then a true else a false) ?_ ?_ (s.oQ.length+s.eb.nO.length+1) (by omega)).trans (Zz (λr=> !(bif (J r 7)==0 then decide (b≤J r 8) else false)) (a false) _ s.oQ 0)
  ·intro n i h;rw[nvO];simp only[DE,T9 h,uH h,Q8 h k,lN,cd,TK,HI,o0]
  ·intro n;rw[nvO];simp only[DE,hO,rl];exact f
 refine key.trans ?_;obtain⟨p,t,u⟩:=niW o;rw[Nr (l:=s.oQ) (q:=λr=> !(decide (b≤J r 8))) (λr g=>by
  by_cases d:J r 7=0
  ·have e:((J r 7)==0)=true:=by simpa using d
   rw[e,HI]
  ·have e:((J r 7)==0)=false:=by simpa using d
   rw[e,rl,nBH (p r g) d,yF (by omega)])]
 rw[Nr (l:=s.eb.nO) (q:=λr=> !(decide (b≤J r 6))) (λr g=>by
  by_cases d:J r 0=1
  ·have e:((J r 0)==1)=true:=by simpa using d
   rw[e,HI]
  ·have e:((J r 0)==1)=false:=by simpa using d
   rw[e,rl,nsu t g d,yF (by omega)])]
 cases s.oQ.all (λr=> !(decide (b≤J r 8)))
 ·rfl
 ·cases s.eb.nO.all (λr=> !(decide (b≤J r 6)))<;>rfl
def Xk(a:Bool→α)(c:Int→α)(d:Int)(b f:rM)(e:Int→α)(k:Int):α:=bif decide (k<len b) then bif Bk true (idx k b) then bif decide (d≤J (V b (lq k)) 8) then a false else e (ZK (k+1)) else kW else c 0
def Dt(a:Bool→α)(d:Int)(c:rM)(e:Int→α)(b:Int):α:=bif decide (b<len c) then bif Bk true (idx b c) then bif decide (d≤J (V c (lq b)) 6) then a false else e (ZK (b+1)) else kW else a true
def ax(a:Bool→α)(N:Nat)(b:Int)(c:rM)(d:Nat):Int→α:=WS (λ_=>kW) (Dt kW a b c) d
theorem nvk(a:Bool→α)(N:Nat)(b:Int)(c:rM)(d:Nat):ax kW a N b c (d+1)=Dt kW a b c (ax kW a N b c d):=rfl
def ZA(a:Bool→α)(N:Nat)(b:Int)(d c:rM)(e:Nat):Int→α:=WS (λ_=>kW) (Xk kW a (ax kW a N b c N) b d c) e
theorem nya(a:Bool→α)(N:Nat)(b:Int)(d c:rM)(e:Nat)(k:Int):ZA kW a N b d c (e+1) k=Xk kW a (ax kW a N b c N) b d c (ZA kW a N b d c e) k:=rfl
def yi(kW:α)(a:Bool→α)(b:rM→rM→Int→α)(s:nJ)(c:Int):α:=bif bif !(HK s.oQ) then true else bif !(xG s.eb) then true else !(xx s.nV c) then a false else b s.oQ s.eb.nO 0
def xD(a:Bool→α)(N:Nat)(s:nJ)(b:Int):α:=yi kW a (λc d=>ZA kW a N b c d N) s b
theorem nr9(a:Bool→α)(s:nJ)(b:Int)(e:i_ nJ.ct s.enc):∃N,xD kW a N s b=a (F_ s b):=by
 obtain⟨f,_⟩:=jD (nJ.nzK e);obtain⟨g,_⟩:=jD (W4.ncU (nJ.niC e));refine⟨s.oQ.length+s.eb.nO.length+1, ?_⟩;unfold xD yi F_;refine oN (λ_=>rfl) (λj=>?_);have d:ax kW a (s.oQ.length+s.eb.nO.length+1) b s.eb.nO (s.oQ.length+s.eb.nO.length+1) 0=bif s.eb.nO.all (λr=> !(decide (b≤J r 6))) then a true else a false:=by
  refine (fT s.eb.nO (ax kW a (s.oQ.length+s.eb.nO.length+1) b s.eb.nO) (λi r c=>bif !(!(decide (b≤J r 6))) then a false else c) (a true) ?_ ?_ (s.oQ.length+s.eb.nO.length+1) (by omega)).trans (Zz (λr=> !(decide (b≤J r 6))) (a false) (a true) s.eb.nO 0)
  ·intro n i h;rw[nvk];simp only[Dt,T9 h,uH h,Q8 h g,lN,cd,TK,HI,o0]
  ·intro n;rw[nvk];simp only[Dt,hO,rl]
 have key:ZA kW a (s.oQ.length+s.eb.nO.length+1) b s.oQ s.eb.nO (s.oQ.length+s.eb.nO.length+1) 0=bif s.oQ.all (λr=> !(decide (b≤J r 8))) then (bif s.eb.nO.all (λr=> !(decide (b≤J r 6))) then a true else a false) else a false:=by
  refine (fT s.oQ (ZA kW a (s.oQ.length+s.eb.nO.length+1) b s.oQ s.eb.nO) (λi r c=>bif !(!(decide (b≤J r 8))) then a false else c) (bif s.eb.nO.all (λr=> !(decide (b≤J r 6))) then a true else a false) ?_ ?_ (s.oQ.length+s.eb.nO.length+1) (by omega)).trans (Zz (λr=> !(decide (b≤J r 8))) (a false) _ s.oQ 0)
  ·intro n i h;rw[nya];simp only[Xk,T9 h,uH h,Q8 h f,lN,cd,TK,HI,o0]
  ·intro n;rw[nya];simp only[Xk,hO,rl];exact d
 refine key.trans ?_;cases s.oQ.all (λr=> !(decide (b≤J r 8)))
 ·rfl
 ·cases s.eb.nO.all (λr=> !(decide (b≤J r 6)))<;>rfl
structure SI where
 ek:Int
 zN:Int
 oB:Int
 oZ:Int
 qE:Int
def SI.enc(x:SI):List DC:=[.int x.ek,.int x.zN,.int x.oB,.int x.oZ,.int x.qE]
def SI.nd(r:List DC)(o:Nat):SI:=⟨J r (o+0),J r (o+1),J r (o+2),J r (o+3),J r (o+4)⟩
def SI.ct:List CT:=[.i,.i,.i,.i,.i]
theorem SI.eta{r:List DC}(h:i_ SI.ct r):(SI.nd r 0).enc=r:=(show (SI.nd r 0).enc=nK SI.ct r 0 from by kernel_rfl).trans (DG h)
theorem SI.nX{r:List CT}{b:List DC}(h:i_ (SI.ct++r) b):∃(x:SI) (c:List DC),b=x.enc++c∧i_ SI.ct x.enc∧i_ r c:=by obtain⟨d,e,rfl,a,f⟩:=Vi h;exact⟨SI.nd d 0,e,by rw[SI.eta a],by rw[SI.eta a];exact a,f⟩
structure QP where
 oa:TV
 ei:rM
 Tx:Sx
 Rx:rM
 oh:rM
 nL:rM
 n8:rM
 ec:AP
 ni:nJ
 oI:rM
 oU:Bool
 tB:rM
 ox:rM
 oV:rM
 d4:SI
def QP.enc(x:QP):List DC:=[.sl x.oa.nQ,.sl x.ei,.int x.Tx.d5.nW,.int x.Tx.d5.nA,.int x.Tx.d5.ej,.int x.Tx.d5.pj,.int x.Tx.nM.nW,.int x.Tx.nM.nA,.int x.Tx.nM.d9,.sl x.Tx.nM.oq,.sl x.Tx.nx,.int x.Tx.en,.sl x.Rx,.sl x.oh,.sl x.nL,.sl x.n8,.int x.ec.N8,.bool x.ec.n9,.sl x.ec.pO,.sl x.ni.oQ,.sl x.ni.eb.nO,.str x.ni.nV.eJ,.sl x.ni.nV.eb,.sl x.oI,.bool x.oU,.sl x.tB,.sl x.ox,.sl x.oV,.int x.d4.ek,.int x.d4.zN,.int x.d4.oB,.int x.d4.oZ,.int x.d4.qE]
def QP.nd(r:List DC)(o:Nat):QP:=⟨TV.nd r (o+0),Zc r (o+1),Sx.nd r (o+2),Zc r (o+12),Zc r (o+13),Zc r (o+14),Zc r (o+15),AP.nd r (o+16),nJ.nd r (o+19),Zc r (o+23),yz r (o+24),Zc r (o+25),Zc r (o+26),Zc r (o+27),SI.nd r (o+28)⟩
def QP.ct:List CT:=[.sl VB,.sl UB,.i,.i,.i,.i,.i,.i,.i,.sl vL,.sl [.i,.i,.sl vL],.i,.sl CR,.sl [.i,.i,.i,.sl vL],.sl UC,.sl sJ,.i,.bool,.sl vL,.sl nS,.sl xT,.str,.sl vL,.sl Qn,.bool,.sl VB,.sl vL,.sl vL,.i,.i,.i,.i,.i]
theorem QP.eta{r:List DC}(h:i_ QP.ct r):(QP.nd r 0).enc=r:=(show (QP.nd r 0).enc=nK QP.ct r 0 from by kernel_rfl).trans (DG h)
theorem QP.nX{r:List CT}{b:List DC}(h:i_ (QP.ct++r) b):∃(x:QP) (c:List DC),b=x.enc++c∧i_ QP.ct x.enc∧i_ r c:=by obtain⟨d,e,rfl,a,f⟩:=Vi h;exact⟨QP.nd d 0,e,by rw[QP.eta a],by rw[QP.eta a];exact a,f⟩
theorem QP.nzL{x:QP}(h:i_ QP.ct x.enc):Oj (.sl CR) (.sl x.Rx):=Fh 12 h rfl rfl
theorem QP.noc{x:QP}(h:i_ QP.ct x.enc):Oj (.sl [.i,.i,.i,.sl vL]) (.sl x.oh):=Fh 13 h rfl rfl
theorem QP.nmg{x:QP}(h:i_ QP.ct x.enc):Oj (.sl UC) (.sl x.nL):=Fh 14 h rfl rfl
theorem QP.nAl{x:QP}(h:i_ QP.ct x.enc):Oj (.sl sJ) (.sl x.n8):=Fh 15 h rfl rfl
def U6(a:Bool→α)(i:Int→rM→Int→α)(n x:Int)(c d e q r:rM)(s:Y)(t:rM)(j k l m o:Int)(p:Int→α)(b:Int):α:=let f:Bool:= !(iy (pE.nd (V c (lq b)) 0));let g:Bool:= !(mK (Cf.nd (V d (lq b)) 0));let h:Bool:=Bk (Bk true (idx b c)) (idx b d);bif decide (b<x) then bif lV f (Bk true (idx b c)) (lV g h (Bk h (idx b e))) then bif bif f then true else bif g then true else !(fm (Tj.nd (V e (lq b)) 0)) then a false else p (ZK (b+1)) else kW else i 5 ([[.int j],[.int k],[.int l],[.int m],[.int o]]) 0
def mF(a:Bool→α)(n d:Int)(e f:rM)(g:Y)(h c:rM)(i:Int→α)(b:Int):α:=bif decide (b<d) then bif Bk (Bk true (idx b c)) (inl (lq b) c) then bif !(nn (J (V c (lq b)) 0) 0 1000000000000) then a false else i (ZK (b+1)) else kW else a (F_ (⟨e,(⟨f⟩:W4),(⟨g,h⟩:aV)⟩:nJ) n)
def Pg(a:Bool→α)(N:Nat)(n b:Int)(c d:rM)(e:Y)(f g:rM)(h:Nat):Int→α:=WS (λ_=>kW) (mF kW a n b c d e f g) h
theorem nyB(a:Bool→α)(N:Nat)(n b:Int)(c d:rM)(e:Y)(f g:rM)(h:Nat):Pg kW a N n b c d e f g (h+1)=mF kW a n b c d e f g (Pg kW a N n b c d e f g h):=rfl
def Uw(a:Bool→α)(N:Nat)(n x:Int)(f g h b c:rM)(d:Y)(e:rM)(i j k l m:Int)(o:Nat):Int→α:=WS (λ_=>kW) (U6 kW a (λq r=>Pg kW a N n q b c d e r N) n x f g h b c d e i j k l m) o
theorem ncS(a:Bool→α)(N:Nat)(n x:Int)(f g h b c:rM)(d:Y)(e:rM)(i j k l m:Int)(o:Nat)(p:Int):Uw kW a N n x f g h b c d e i j k l m (o+1) p=U6 kW a (λq r=>Pg kW a N n q b c d e r N) n x f g h b c d e i j k l m (Uw kW a N n x f g h b c d e i j k l m o) p:=rfl
def sf(a:Bool→α)(e:Int→Int→rM→rM→rM→rM→rM→Y→rM→Int→Int→Int→Int→Int→Int→α)(h:QP):α:=let b:Bool:= !(nn (len h.Rx) 1 2);let c:Bool:=(len h.oh) != (len h.Rx);let d:Bool:=(len h.nL) != (len h.Rx);bif lV (!(pw h.oa)) true (lV (!(cz h.ei)) true (lV (!(Yo h.Tx)) (Bk true (TC h.Tx)) (lV (!(mG h.ec)) (Bk true (TC h.Tx)) (lV b (Bk true (TC h.Tx)) (lV c (Bk true (TC h.Tx)) (lV d (Bk true (TC h.Tx)) (Bk true (TC h.Tx)))))))) then bif bif !(pw h.oa) then true else bif !(cz h.ei) then true else bif !(Yo h.Tx) then true else bif !(mG h.ec) then true else bif b then true else bif c then true else bif d then true else (len h.n8) != (len h.Rx) then a false else e (len h.Rx) (len h.Rx) h.Rx h.oh h.nL h.ni.oQ h.ni.eb.nO h.ni.nV.eJ h.ni.nV.eb h.d4.ek h.d4.zN h.d4.oB h.d4.oZ h.d4.qE 0 else kW
def TS(a:Bool→α)(N:Nat)(h:QP):α:=sf kW a (λn x b c d e f g i j k l m o=>Uw kW a N n x b c d e f g i j k l m o N) h
def jV(h:QP):Bool:=TC h.Tx
def OP(h:QP):rM:=[[.int h.d4.ek],[.int h.d4.zN],[.int h.d4.oB],[.int h.d4.oZ],[.int h.d4.qE]]
def X5(h:QP):Bool:=(bif !(pw h.oa) then true else bif !(cz h.ei) then true else bif !(Yo h.Tx) then true else bif !(mG h.ec) then true else bif !(nn (len h.Rx) 1 2) then true else bif (len h.oh) != (len h.Rx) then true else bif (len h.nL) != (len h.Rx) then true else (len h.n8) != (len h.Rx))
def sN(h:QP):Bool:=bif X5 h then false else bif F_ h.ni (len h.Rx) then bif ZO (λi=>bif !(iy (pE.nd (V h.Rx i) 0)) then true else bif !(mK (Cf.nd (V h.oh i) 0)) then true else !(fm (Tj.nd (V h.nL i) 0))) h.Rx.length 0 then false else (OP h).all (λr=>nn (J r 0) 0 1000000000000) else false
theorem gpF(a:Bool→α)(h:QP)(p:jV h=true):∃N,TS kW a N h=a (sN h):=by
 have q:TC h.Tx=true:=p;refine⟨h.Rx.length+6, ?_⟩;unfold TS sf sN;simp only[q,cd,TK,CC,HI];refine oN (λ_=>rfl) (λd=>?_);have m:h.Rx.length≤2∧len h.oh=len h.Rx∧len h.nL=len h.Rx:=by
  unfold X5 at d;cases o:nn (len h.Rx) 1 2
  ·rw[o] at d;revert d;cases pw h.oa<;>cases cz h.ei<;>cases Yo h.Tx<;>cases mG h.ec<;>simp
  ·have b:=(Wx.1 o).2;by_cases f:len h.oh=len h.Rx
   ·by_cases g:len h.nL=len h.Rx
    ·exact⟨by simp only[len] at b;omega,f,g⟩
    ·have g:((len h.nL) != (len h.Rx))=true:=by simpa using g
     rw[g] at d;revert d;cases pw h.oa<;>cases cz h.ei<;>cases Yo h.Tx<;>cases mG h.ec<;>cases nn (len h.Rx) 1 2<;>cases ((len h.oh) != (len h.Rx))<;>simp
   ·have f:((len h.oh) != (len h.Rx))=true:=by simpa using f
    rw[f] at d;revert d;cases pw h.oa<;>cases cz h.ei<;>cases Yo h.Tx<;>cases mG h.ec<;>cases nn (len h.Rx) 1 2<;>simp
 obtain⟨m,t,u⟩:=m;have v:(OP h).length=5:=rfl;have j:Pg kW a (h.Rx.length+6) (len h.Rx) 5 h.ni.oQ h.ni.eb.nO h.ni.nV.eJ h.ni.nV.eb (OP h) (h.Rx.length+6) 0=bif (OP h).all (λr=>nn (J r 0) 0 1000000000000) then (a (F_ h.ni (len h.Rx))) else a false:=by
  refine (fT (OP h) (Pg kW a (h.Rx.length+6) (len h.Rx) 5 h.ni.oQ h.ni.eb.nO h.ni.nV.eJ h.ni.nV.eb (OP h)) (λi r c=>bif !(nn (J r 0) 0 1000000000000) then a false else c) ((a (F_ h.ni (len h.Rx)))) ?_ ?_ (h.Rx.length+6) (by omega)).trans (Zz (λr=>nn (J r 0) 0 1000000000000) (a false) ((a (F_ h.ni (len h.Rx)))) (OP h) 0)
  ·intro n i e;rw[nyB];have k:ZK ((i:Int)+1)=(i:Int)+1:=Ou;have w:decide ((i:Int)<5)=true:=Tl (by omega);simp only[mF,w,uH e,SG e,k,lN,cd,TK,HI]
  ·intro n;rw[nyB];rfl
 have key:Uw kW a (h.Rx.length+6) (len h.Rx) (len h.Rx) h.Rx h.oh h.nL h.ni.oQ h.ni.eb.nO h.ni.nV.eJ h.ni.nV.eb h.d4.ek h.d4.zN h.d4.oB h.d4.oZ h.d4.qE (h.Rx.length+6) 0=bif ZO (λi=>bif !(iy (pE.nd (V h.Rx i) 0)) then true else bif !(mK (Cf.nd (V h.oh i) 0)) then true else !(fm (Tj.nd (V h.nL i) 0))) h.Rx.length 0 then a false else (bif (OP h).all (λr=>nn (J r 0) 0 1000000000000) then (a (F_ h.ni (len h.Rx))) else a false):=by
  refine (sw (σ:=Unit) h.Rx.length (λn i _=>Uw kW a (h.Rx.length+6) (len h.Rx) (len h.Rx) h.Rx h.oh h.nL h.ni.oQ h.ni.eb.nO h.ni.nV.eJ h.ni.nV.eb h.d4.ek h.d4.zN h.d4.oB h.d4.oZ h.d4.qE n i) (λi c s=>bif bif !(iy (pE.nd (V h.Rx i) 0)) then true else bif !(mK (Cf.nd (V h.oh i) 0)) then true else !(fm (Tj.nd (V h.nL i) 0)) then a false else c s) (λ_=>bif (OP h).all (λr=>nn (J r 0) 0 1000000000000) then (a (F_ h.ni (len h.Rx))) else a false) ?_ ?_ (h.Rx.length+6) () (by omega)).trans (Px (λi=>bif !(iy (pE.nd (V h.Rx i) 0)) then true else bif !(mK (Cf.nd (V h.oh i) 0)) then true else !(fm (Tj.nd (V h.nL i) 0))) (a false) _ h.Rx.length 0)
  ·intro n i s e;show Uw kW a (h.Rx.length+6) (len h.Rx) (len h.Rx) h.Rx h.oh h.nL h.ni.oQ h.ni.eb.nO h.ni.nV.eJ h.ni.nV.eb h.d4.ek h.d4.zN h.d4.oB h.d4.oZ h.d4.qE (n+1) (i:Int)=_;rw[ncS];have k:ZK ((i:Int)+1)=(i:Int)+1:=Ou;have x:idx (i:Int) h.Rx=true:=uH e;have y:idx (i:Int) h.oh=true:=uH (by simp only[len] at t;omega);have z:idx (i:Int) h.nL=true:=uH (by simp only[len] at u;omega);have l:decide ((i:Int)<len h.Rx)=true:=T9 e;simp only[U6,l,x,y,z,k,lN,cd,TK,CC,HI]
  ·intro n s;show Uw kW a (h.Rx.length+6) (len h.Rx) (len h.Rx) h.Rx h.oh h.nL h.ni.oQ h.ni.eb.nO h.ni.nV.eJ h.ni.nV.eb h.d4.ek h.d4.zN h.d4.oB h.d4.oZ h.d4.qE (n+1) (h.Rx.length:Int)=_;rw[ncS];have l:decide ((h.Rx.length:Int)<len h.Rx)=false:=hO h.Rx;simp only[U6,l,rl];exact j
 refine key.trans ?_;cases F_ h.ni (len h.Rx)
 ·cases ZO (λi=>bif !(iy (pE.nd (V h.Rx i) 0)) then true else bif !(mK (Cf.nd (V h.oh i) 0)) then true else !(fm (Tj.nd (V h.nL i) 0))) h.Rx.length 0
  ·cases (OP h).all (λr=>nn (J r 0) 0 1000000000000)<;>rfl
  ·rfl
 ·cases ZO (λi=>bif !(iy (pE.nd (V h.Rx i) 0)) then true else bif !(mK (Cf.nd (V h.oh i) 0)) then true else !(fm (Tj.nd (V h.nL i) 0))) h.Rx.length 0
  ·cases (OP h).all (λr=>nn (J r 0) 0 1000000000000)<;>rfl
  ·rfl
def wB(a:rM):Bool:=Of a && a.all (λr=>Of (Zc r 2))
def uL(a:rM):Bool:=Of a && a.all (λr=>Of (Zc r 3))
def eW(a:QP):Bool:=Of a.oa.nQ && (Of a.ei && (Of a.Tx.nM.oq && (wB a.Tx.nx && (Of a.Rx && (uL a.oh && (Of a.nL && (Of a.n8 && (Of a.ec.pO && (Of a.ni.oQ && (Of a.ni.eb.nO && (Of a.ni.nV.eb && (Of a.oI && (Of a.tB && (Of a.ox && (Of a.oV)))))))))))))))
theorem foldl_push(q:List DC→List DC):∀(l o:rM),l.foldl (λo r=>o++[q r]) o=o++l.map q
 | [],o=>by simp
 | r::l,o=>by rw[p8,foldl_push q l,p9,nF];rfl
def eB(a:Y→α)(n x:Int)(c:Int→rM→α)(i:Int)(b:rM):α:=bif decide (i<n) then bif Bk (Bk true (idx i b)) (inl (lq i) b) then c (ZK (i+1)) (nq b (lq i) (CI (V b (lq i)) 0 [.int x])) else kW else a (toStr b)
def Qs(a:Y→α)(N:Nat)(n x:Int)(b:Nat):Int→rM→α:=WS (λ_ _=>kW) (eB kW a n x) b
theorem nsp(a:Y→α)(N:Nat)(n x:Int)(b:Nat):Qs kW a N n x (b+1)=eB kW a n x (Qs kW a N n x b):=rfl
def iZ(a:Y→α)(b:Int→rM→α)(n x:Int):α:=bif Bk true (Fj 1 n n) then b 0 (mf (lq n) ([.int 0]:List DC)) else kW
def nq2(a:Y→α)(N:Nat)(n x:Int):α:=iZ kW a (Qs kW a N n x N) n x
def ie(n x:Int):Bool:=bif decide (0≤n) then decide (n≤1000) else false
def Vu(n x:Int):Y:=mf n.toNat (UInt8.ofNat x.toNat)
theorem nzt(n:Nat){x:Int}(a:0≤x)(b:x≤255):(mf n [DC.int x]:rM)=ofStr (mf n (UInt8.ofNat x.toNat)):=by simp only[ofStr,qn,ny5 a b]
theorem np1(a:Y→α)(n x:Int)(c:Oj (.int .u8) (.int x))(j:ie n x=true):∃N,nq2 kW a N n x=a (Vu n x):=by
 obtain⟨p,r⟩:=Wx.1 j;have e:0≤x∧x≤255:=by have h:=c;simp only[Oj,DC.int.injEq] at h;obtain⟨m,rfl,h⟩:=h;simpa [bp,IntKind.min,q0,rI,IntKind.bits] using h
 refine⟨n.toNat+1, ?_⟩;unfold nq2 iZ Vu;have d:Fj 1 n n=true:=by simp only[Fj,gF,kQ];omega
 simp only[d,cd,HI];have b:(mf n.toNat [DC.int 0]:rM).length=n.toNat:=by simp
 have:=A1 (mf n.toNat [DC.int 0]) (Qs kW a (n.toNat+1) n x) (λo=>a (toStr o)) (λ_=>[.int x]) ?_ ?_
 ·rw[b] at this;rw[this,qn,nzt _ e.1 e.2,Va]
 ·intro q i o h f k;rw[b] at h;rw[nsp];have g:i<o.length:=by rw[f,b];exact h
  have l:V o i=[DC.int 0]:=by rw[k];simp only[V,ns];rw[r0 h];rfl
  simp only[eB,Tl (show (i:Int)<n by omega),uH g,SG g,lN,cd,HI,l,wc,Ou (show -9223372036854775808≤(i:Int)+1 by omega) (show (i:Int)+1≤9223372036854775807 by omega)]
 ·intro q o f;rw[b,nsp];simp only[eB,yF (show ¬((n.toNat:Nat):Int)<n by omega),rl]
def dL(b n:Int):Y:=Vu n b
def Vf(b n:Int):Bool:=ie n b
def xM(a:Y→α)(b x:Int)(e:Int→rM→α)(c:Int)(d:rM):α:=bif decide (c<x) then bif Bk (Bk true (idx c d)) (inl (lq c) d) then e (ZK (c+1)) (nq d (lq c) (CI (V d (lq c)) 0 [.int b])) else kW else a (toStr d)
def Sw(a:Y→α)(N:Nat)(b x:Int)(c:Nat):Int→rM→α:=WS (λ_ _=>kW) (xM kW a b x) c
theorem nAf(a:Y→α)(N:Nat)(b x:Int)(c:Nat):Sw kW a N b x (c+1)=xM kW a b x (Sw kW a N b x c):=rfl
def mR(a:Y→α)(c:Int→Int→rM→α)(b n:Int):α:=bif Bk true (Fj 1 n n) then c (len (mf (lq n) ([.int 0]:List DC))) 0 (mf (lq n) ([.int 0]:List DC)) else kW
def nEs(a:Y→α)(N:Nat)(b n:Int):α:=mR kW a (λx=>Sw kW a N b x N) b n
theorem nbC(a:Y→α)(b n:Int)(d:Oj (.int .u8) (.int b))(l:Vf b n=true):∃N,nEs kW a N b n=a (dL b n):=by
 obtain⟨r,s⟩:=Wx.1 (show (bif decide (0≤n) then decide (n≤1000) else false)=true from l);have g:0≤b∧b≤255:=by have h:=d;simp only[Oj,DC.int.injEq] at h;obtain⟨m,rfl,h⟩:=h;simpa [bp,IntKind.min,q0,rI,IntKind.bits] using h
 refine⟨n.toNat+1, ?_⟩;unfold nEs mR dL Vu;have e:Fj 1 n n=true:=by simp only[Fj,gF,kQ];omega
 simp only[e,cd,HI];have c:(mf n.toNat [DC.int 0]:rM).length=n.toNat:=by simp
 have f:(len (mf n.toNat [DC.int 0]):Int)=n:=by simp only[len,c];omega
 rw[f];have:=A1 (mf n.toNat [DC.int 0]) (Sw kW a (n.toNat+1) b n) (λo=>a (toStr o)) (λ_=>[.int b]) ?_ ?_
 ·rw[c] at this;rw[this,qn,nzt _ g.1 g.2,Va]
 ·intro q i o h j f;rw[c] at h;rw[nAf];have k:i<o.length:=by rw[j,c];exact h
  have p:V o i=[DC.int 0]:=by rw[f];simp only[V,ns];rw[r0 h];rfl
  simp only[xM,Tl (show (i:Int)<n by omega),uH k,SG k,lN,cd,HI,p,wc,Ou (show -9223372036854775808≤(i:Int)+1 by omega) (show (i:Int)+1≤9223372036854775807 by omega)]
 ·intro q o j;rw[c,nAf];simp only[xM,yF (show ¬((n.toNat:Nat):Int)<n by omega),rl]
def nm3(a:Int→α)(s:Y)(gZ:Int):α:=bif bif decide (gZ<0) then true else decide (ZK ((len s) - 4)<gZ) then a (-1) else bif Bk (Bk (Bk (Bk true (idx gZ s)) (idx (ZK (gZ+1)) s)) (idx (ZK (gZ+2)) s)) (idx (ZK (gZ+3)) s) then a (bits .or .i64 (bits .or .i64 (bits .or .i64 (Zl .i64 (ZK (nf s gZ)) 24) (Zl .i64 (ZK (nf s (ZK (gZ+1)))) 16)) (Zl .i64 (ZK (nf s (ZK (gZ+2)))) 8)) (ZK (nf s (ZK (gZ+3))))) else kW
def N5(s:Y)(gZ:Int):Int:=bif bif decide (gZ<0) then true else decide (len s<gZ+4) then -1 else (nf s gZ)*16777216+(nf s (gZ+1))*65536+(nf s (gZ+2))*256+nf s (gZ+3)
theorem nbm(a:Int→α)(s:Y)(gZ:Int)(f:Oj .str (.str s))(g:Oj .i (.int gZ)):nm3 kW a s gZ=a (N5 s gZ):=by
 have p:=jU f;have q:=ka g;have h:0≤len s:=by simp[len]
 have r:len s≤9223372036854775807:=by simp only[len];omega
 have b:∀j:Int,gZ≤j→j<gZ+4→0≤gZ→gZ+4≤len s→idx j s=true:=by intro j t u v k;simp only[len] at k;simp only[idx,gF,kQ];omega
 unfold nm3 N5;by_cases c:gZ<0
 ·simp only[c,decide_true,HI]
 ·by_cases e:len s<gZ+4
  ·have d:ZK (len s - 4)<gZ:=by rw[Ou];omega
   simp only[c,e,d,decide_true,decide_false,HI,rl]
  ·have d:¬ZK (len s - 4)<gZ:=by rw[Ou];omega
   have l:ZK (gZ+1)=gZ+1:=Ou;have m:ZK (gZ+2)=gZ+2:=Ou;have o:ZK (gZ+3)=gZ+3:=Ou;have w:=fR s gZ;have c0:=V0 s gZ;have z:=fR s (gZ+1);have A:=V0 s (gZ+1);have B:=fR s (gZ+2);have C:=V0 s (gZ+2);have D:=fR s (gZ+3);have E:=V0 s (gZ+3);simp only[c,e,d,decide_false,rl,l,m,o,b gZ (by omega) (by omega) (by omega) (by omega),b (gZ+1) (by omega) (by omega) (by omega) (by omega),b (gZ+2) (by omega) (by omega) (by omega) (by omega),b (gZ+3) (by omega) (by omega) (by omega) (by omega),cd,HI];rw[Ou (n:=nf s gZ),Ou (n:=nf s (gZ+1)),Ou (n:=nf s (gZ+2)),Ou (n:=nf s (gZ+3))];rw[nm9,nbf,Qz];rw[Ou (n:=nf s gZ*16777216),Ou (n:=nf s (gZ+1)*65536),Ou (n:=nf s (gZ+2)*256)];rw[PV 24 (x:=nf s gZ*16777216) (by omega) (by omega) (by omega) (by omega) (by omega) (by omega)];rw[PV 16 (y:=nf s (gZ+2)*256) (by omega) (by omega) (by omega) (by omega) (by omega) (by omega)];rw[PV 8 (y:=nf s (gZ+3)) (by omega) (by omega) (by omega) (by omega) (by omega) (by omega)]
def aI(a:Bool→α)(s:Y)(gZ n:Int):α:=a (bif decide (0≤gZ) then bif decide (gZ≤len s) then decide (n≤ZK ((len s) - gZ)) else false else false)
def WU(s:Y)(gZ n:Int):Bool:=aI id s gZ n
theorem nbG(a:Bool→α)(s:Y)(gZ n:Int):aI a s gZ n=a (WU s gZ n):=by rfl
def nld(a:Int→α)(s:Y)(gZ:Int):α:=bif !(WU s gZ 2) then a (-1) else bif Bk (Bk true (idx gZ s)) (idx (ZK (gZ+1)) s) then a (ZK ((Zl .i64 (ZK (nf s gZ)) 8)+(ZK (nf s (ZK (gZ+1)))))) else kW
def tC(s:Y)(gZ:Int):Int:=bif !(WU s gZ 2) then -1 else (nf s gZ)*256+nf s (gZ+1)
theorem within_iff{s:Y}{gZ n:Int}(d:s.length≤9223372036854775807):WU s gZ n=true↔0≤gZ∧gZ≤len s∧gZ+n≤len s:=by
 have c:0≤len s:=by simp[len]
 have e:len s≤9223372036854775807:=by simp only[len];omega
 unfold WU aI;by_cases a:0≤gZ
 ·by_cases b:gZ≤len s
  ·rw[Ou];simp only[a,b,decide_true,HI,id,true_and];constructor
   ·intro h;have:=of_decide_eq_true h;omega
   ·intro h;exact Tl (by omega)
  ·simp[a,b]
 ·simp[a]
theorem ngf(a:Int→α)(s:Y)(gZ:Int)(c:Oj .str (.str s)):nld kW a s gZ=a (tC s gZ):=by
 have d:=jU c;have e:0≤len s:=by simp[len]
 have i:len s≤9223372036854775807:=by simp only[len];omega
 unfold nld tC;cases f:WU s gZ 2
 ·rfl
 ·have k:=(within_iff d).1 f;have g:ZK (gZ+1)=gZ+1:=Ou;have b:∀j:Int,0≤j→j<len s→idx j s=true:=by intro j l h;simp only[len] at h;simp only[idx,gF,kQ];omega
  have m:=fR s gZ;have c0:=V0 s gZ;have o:=fR s (gZ+1);have p:=V0 s (gZ+1);simp only[g,b gZ (by omega) (by omega),b (gZ+1) (by omega) (by omega),cd,HI,rl,mc];rw[Ou (n:=nf s gZ),Ou (n:=nf s (gZ+1)),Qz,Ou (n:=nf s gZ*256),Ou]
def svI(a:Int→α)(s:Y)(gZ:Int):α:=bif !(WU s gZ 4) then a (-1) else a (ZK ((Zl .i64 (tC s gZ) 16)+(tC s (ZK (gZ+2)))))
theorem njs(a:Int→α)(s:Y)(gZ:Int)(f:Oj .str (.str s))(g:Oj .i (.int gZ)):svI a s gZ=a (N5 s gZ):=by
 have b:=jU f;have j:0≤len s:=by simp[len]
 have o:len s≤9223372036854775807:=by simp only[len];omega
 have p:=ka g;unfold svI N5;cases d:WU s gZ 4
 ·have k:¬(0≤gZ∧gZ≤len s∧gZ+4≤len s):=λh=>by rw[(within_iff b).2 h] at d;cases d
  have:(bif decide (gZ<0) then true else decide (len s<gZ+4))=true:=by
   by_cases c:gZ<0
   ·simp[c]
   ·simp only[c,decide_false,rl,kQ];omega
  rw[this];rfl
 ·have k:=(within_iff b).1 d;have:(bif decide (gZ<0) then true else decide (len s<gZ+4))=false:=by rw[show decide (gZ<0)=false from yF (by omega),show decide (len s<gZ+4)=false from yF (by omega)];rfl
  rw[this];have l:ZK (gZ+2)=gZ+2:=Ou;have c:WU s gZ 2=true:=(within_iff b).2 (by omega);have m:WU s (gZ+2) 2=true:=(within_iff b).2 (by omega);have q:=fR s gZ;have c0:=V0 s gZ;have r:=fR s (gZ+1);have t:=V0 s (gZ+1);have u:=fR s (gZ+2);have v:=V0 s (gZ+2);have w:=fR s (gZ+3);have x:=V0 s (gZ+3);have e:gZ+2+1=gZ+3:=by omega
  simp only[l,tC,c,m,e,mc,rl];rw[nbf,Ou (n:=(nf s gZ*256+nf s (gZ+1))*65536),Ou];exact congrArg a (by omega)
def PR(a:Y→α)(v:Int):α:=bif !(nn v 0 4294967295) then a [] else a (toStr ([[.int (ma .u8 (xu .i64 v 24))],[.int (ma .u8 (xu .i64 v 16))],[.int (ma .u8 (xu .i64 v 8))],[.int (ma .u8 v)]]))
def v7(v:Int):Y:=PR id v
theorem ne3(a:Y→α)(v:Int):PR a v=a (v7 v):=by exact cU rfl rfl
def Xw(a:Int→α)(b:Int→Int→Int→α)(s:Y)(d:Int→Int→α)(c i:Int):α:=bif decide (i<len s) then bif Bk true (idx i s) then b i (bits .xor .u32 c (ma .u32 (nf s i))) 0 else kW else a (ZK (bits .xor .u32 (q0 .u32) c))
def ay(kW:α)(a:Int→α)(c:Int→Int→α)(i:Int)(d:Int→Int→α)(b k:Int):α:=bif decide (k<8) then d (bif (bits .and .u32 b 1)==1 then bits .xor .u32 (xu .u32 b 1) 3988292384 else xu .u32 b 1) (ZK (k+1)) else c b (ZK (i+1))
def l5(a:Int→α)(N:Nat)(b:Int→Int→α)(i:Int)(c:Nat):Int→Int→α:=WS (λ_ _=>kW) (ay kW a b i) c
theorem npK(a:Int→α)(N:Nat)(b:Int→Int→α)(i:Int)(c:Nat)(d k:Int):l5 kW a N b i (c+1) d k=ay kW a b i (l5 kW a N b i c) d k:=rfl
def qb(a:Int→α)(N:Nat)(s:Y)(c:Nat):Int→Int→α:=WS (λ_ _=>kW) (λb=>Xw kW a (λi=>l5 kW a N b i N) s b) c
theorem ncE(a:Int→α)(N:Nat)(s:Y)(b:Nat)(c i:Int):qb kW a N s (b+1) c i=Xw kW a (λi=>l5 kW a N (qb kW a N s b) i N) s (qb kW a N s b) c i:=rfl
def nd1(kW:α)(a:Int→α)(b:Int→Int→α)(s:Y):α:=b 4294967295 0
def YG(a:Int→α)(N:Nat)(s:Y):α:=nd1 kW a (qb kW a N s N) s
def vT(c:Int):Int:=bif (bits .and .u32 c 1)==1 then bits .xor .u32 (xu .u32 c 1) 3988292384 else xu .u32 c 1
def kd(s:Y)(i:Nat)(c:Int):Int:=Wc (λ_ c=>vT c) 8 0 (bits .xor .u32 c (nf s i))
def Qv(s:Y):Int:=4294967295 - Wc (kd s) s.length 0 4294967295
def QX(c:Int):Prop:=0≤c∧c<4294967296
theorem RU{c:Int}(h:QX c):QX (vT c):=by
 obtain⟨b,d⟩:=h;unfold vT;rw[nh1];cases (bits .and .u32 c 1)==1
 ·exact⟨by simp only[rl];omega,by simp only[rl];omega⟩
 ·exact (xL (a:=c / 2) (by omega) (by omega) (by decide) (by decide)).2
theorem nig{s:Y}{i:Nat}{c:Int}(h:QX c):QX (kd s i c):=by refine nl1 (I:=QX) (B:=8) (λ_ c _ h=>RU h) 8 0 _ (by omega) ?_;have a:=fR s i;have c0:=V0 s i;exact (xL h.1 h.2 a (by omega)).2
theorem nq3(a:Int→α)(s:Y)(f:Oj .str (.str s)):∃N,YG kW a N s=a (Qv s):=by
 have g:=jU f;refine⟨s.length+9, ?_⟩;unfold YG nd1;have d:∀(e:Int→Int→α) (i c:Int),QX c→l5 kW a (s.length+9) e i (s.length+9) c 0=e (Wc (λ_ c=>vT c) 8 0 c) (ZK (i+1)):=by
  intro e i c b;refine jw 8 (λn k c=>l5 kW a (s.length+9) e i n c k) (λ_ c=>vT c) (λc=>e c (ZK (i+1))) QX (λ_ _ _ h=>RU h) ?_ ?_ (s.length+9) c b (by omega)
  ·intro n k c o b;show l5 kW a (s.length+9) e i (n+1) c k=_;rw[npK];have j:((k:Nat):Int)<8:=by omega
   have l:ZK ((k:Int)+1)=(k:Int)+1:=Ou;simp only[ay,j,decide_true,HI,l];rfl
  ·intro n c b;show l5 kW a (s.length+9) e i (n+1) c 8=_;rw[npK];rfl
 refine (jw s.length (λn i c=>qb kW a (s.length+9) s n c i) (kd s) (λc=>a (4294967295 - c)) QX (λ_ _ _ h=>nig h) ?_ ?_ (s.length+9) 4294967295 ⟨by decide,by decide⟩ (by omega)).trans rfl
 ·intro n i c h b;show qb kW a (s.length+9) s (n+1) c i=_;rw[ncE];have m:=fR s i;have c0:=V0 s i;simp only[Xw,T9 h,uH h,cd,HI];rw[show ma .u32 (nf s i)=nf s i by rw[IntKind.wrap_u32];omega];rw[d _ _ _ (xL b.1 b.2 m (by omega)).2,Q8 h g];rfl
 ·intro n c b;show qb kW a (s.length+9) s (n+1) c s.length=_;rw[ncE];simp only[Xw,hO,rl];rw[nlt b.1 b.2,Ou (by have:=b.1;have:=b.2;omega) (by have:=b.1;omega)]
def rh(a:Int→α)(b:Int→Int→Int→α)(s:Y)(d:Int→Int→α)(c i:Int):α:=bif decide (i<len s) then bif Bk true (idx i s) then b i (bits .xor .i64 c (ZK (nf s i))) 0 else kW else a (ZK (4294967295 - c))
def Uh(kW:α)(a:Int→α)(c:Int→Int→α)(i:Int)(d:Int→Int→α)(b k:Int):α:=bif decide (k<8) then d (bif (bits .and .i64 b 1)==1 then bits .xor .i64 (xu .i64 b 1) 3988292384 else xu .i64 b 1) (ZK (k+1)) else c b (ZK (i+1))
def yL(a:Int→α)(N:Nat)(b:Int→Int→α)(i:Int)(c:Nat):Int→Int→α:=WS (λ_ _=>kW) (Uh kW a b i) c
theorem ndo(a:Int→α)(N:Nat)(b:Int→Int→α)(i:Int)(c:Nat)(d k:Int):yL kW a N b i (c+1) d k=Uh kW a b i (yL kW a N b i c) d k:=rfl
def E5(a:Int→α)(N:Nat)(s:Y)(c:Nat):Int→Int→α:=WS (λ_ _=>kW) (λb=>rh kW a (λi=>yL kW a N b i N) s b) c
theorem nsS(a:Int→α)(N:Nat)(s:Y)(b:Nat)(c i:Int):E5 kW a N s (b+1) c i=rh kW a (λi=>yL kW a N (E5 kW a N s b) i N) s (E5 kW a N s b) c i:=rfl
def nwL(kW:α)(a:Int→α)(b:Int→Int→α)(s:Y):α:=b 4294967295 0
def SE(a:Int→α)(N:Nat)(s:Y):α:=nwL kW a (E5 kW a N s N) s
theorem nfa(d:Int→α)(s:Y)(l:Oj .str (.str s)):∃N,SE kW d N s=d (Qv s):=by
 have m:=jU l;refine⟨s.length+9, ?_⟩;unfold SE nwL;have f:∀(g:Int→Int→α) (i c:Int),QX c→yL kW d (s.length+9) g i (s.length+9) c 0=g (Wc (λ_ c=>vT c) 8 0 c) (ZK (i+1)):=by
  intro g i c e;refine jw 8 (λn k c=>yL kW d (s.length+9) g i n c k) (λ_ c=>vT c) (λc=>g c (ZK (i+1))) QX (λ_ _ _ h=>RU h) ?_ ?_ (s.length+9) c e (by omega)
  ·intro n k c q e;show yL kW d (s.length+9) g i (n+1) c k=_;rw[ndo];have o:((k:Nat):Int)<8:=by omega
   have p:ZK ((k:Int)+1)=(k:Int)+1:=Ou;simp only[Uh,o,decide_true,HI,p];unfold vT;rw[nu2 e.1 e.2,nvr,nh1,(xL (a:=c / 2) (b:=3988292384) (by have:=e.1;omega) (by have:=e.2;omega) (by decide) (by decide)).1]
  ·intro n c e;show yL kW d (s.length+9) g i (n+1) c 8=_;rw[ndo];rfl
 refine (jw s.length (λn i c=>E5 kW d (s.length+9) s n c i) (kd s) (λc=>d (4294967295 - c)) QX (λ_ _ _ h=>nig h) ?_ ?_ (s.length+9) 4294967295 ⟨by decide,by decide⟩ (by omega)).trans rfl
 ·intro n i c h e;show E5 kW d (s.length+9) s (n+1) c i=_;rw[nsS];have j:=fR s i;have c0:=V0 s i;simp only[rh,T9 h,uH h,cd,HI];rw[Ou (n:=nf s i),(xL e.1 e.2 j (by omega)).1];rw[f _ _ _ (xL e.1 e.2 j (by omega)).2,Q8 h m];rfl
 ·intro n c e;show E5 kW d (s.length+9) s (n+1) c s.length=_;rw[nsS];simp only[rh,hO,rl];rw[Ou (by have:=e.1;have:=e.2;omega) (by have:=e.1;omega)]
structure Tc where
 S9:Int
 Id:Int
 Ta:Int
 nqh:Int
 e7:Int
 W0:Int
 ed:Y
def Tc.enc(x:Tc):List DC:=[.int x.S9,.int x.Id,.int x.Ta,.int x.nqh,.int x.e7,.int x.W0,.str x.ed]
def Tc.nd(r:List DC)(o:Nat):Tc:=⟨J r (o+0),J r (o+1),J r (o+2),J r (o+3),J r (o+4),J r (o+5),fJ r (o+6)⟩
def Tc.ct:List CT:=[.i,.i,.i,.i,.i,.i,.str]
theorem Tc.eta{r:List DC}(h:i_ Tc.ct r):(Tc.nd r 0).enc=r:=(show (Tc.nd r 0).enc=nK Tc.ct r 0 from by kernel_rfl).trans (DG h)
theorem Tc.nX{r:List CT}{b:List DC}(h:i_ (Tc.ct++r) b):∃(x:Tc) (c:List DC),b=x.enc++c∧i_ Tc.ct x.enc∧i_ r c:=by obtain⟨d,e,rfl,a,f⟩:=Vi h;exact⟨Tc.nd d 0,e,by rw[Tc.eta a],by rw[Tc.eta a];exact a,f⟩
theorem Tc.nD2{x:Tc}(h:i_ Tc.ct x.enc):Oj .i (.int x.S9):=Fh 0 h rfl rfl
theorem Tc.nEt{x:Tc}(h:i_ Tc.ct x.enc):Oj .i (.int x.Id):=Fh 1 h rfl rfl
theorem Tc.nD3{x:Tc}(h:i_ Tc.ct x.enc):Oj .i (.int x.Ta):=Fh 2 h rfl rfl
theorem Tc.nD1{x:Tc}(h:i_ Tc.ct x.enc):Oj .i (.int x.e7):=Fh 4 h rfl rfl
theorem Tc.nDX{x:Tc}(h:i_ Tc.ct x.enc):Oj .i (.int x.W0):=Fh 5 h rfl rfl
theorem Tc.nAR{x:Tc}(h:i_ Tc.ct x.enc):Oj .str (.str x.ed):=Fh 6 h rfl rfl
structure Ps where
 W0:Int
 e7:Int
 rX:Int
 PC:Int
 ed:Y
def Ps.enc(x:Ps):List DC:=[.int x.W0,.int x.e7,.int x.rX,.int x.PC,.str x.ed]
def Ps.nd(r:List DC)(o:Nat):Ps:=⟨J r (o+0),J r (o+1),J r (o+2),J r (o+3),fJ r (o+4)⟩
def Ps.ct:List CT:=[.i,.i,.i,.i,.str]
theorem Ps.eta{r:List DC}(h:i_ Ps.ct r):(Ps.nd r 0).enc=r:=(show (Ps.nd r 0).enc=nK Ps.ct r 0 from by kernel_rfl).trans (DG h)
theorem Ps.nX{r:List CT}{b:List DC}(h:i_ (Ps.ct++r) b):∃(x:Ps) (c:List DC),b=x.enc++c∧i_ Ps.ct x.enc∧i_ r c:=by obtain⟨d,e,rfl,a,f⟩:=Vi h;exact⟨Ps.nd d 0,e,by rw[Ps.eta a],by rw[Ps.eta a];exact a,f⟩
theorem Ps.nDX{x:Ps}(h:i_ Ps.ct x.enc):Oj .i (.int x.W0):=Fh 0 h rfl rfl
theorem Ps.nD1{x:Ps}(h:i_ Ps.ct x.enc):Oj .i (.int x.e7):=Fh 1 h rfl rfl
theorem Ps.nAU{x:Ps}(h:i_ Ps.ct x.enc):Oj .i (.int x.rX):=Fh 2 h rfl rfl
theorem Ps.nAR{x:Ps}(h:i_ Ps.ct x.enc):Oj .str (.str x.ed):=Fh 4 h rfl rfl
def jc(a:Y→α)(v:Int):α:=bif !(nn v 0 65535) then a [] else a (toStr ([[.int (ma .u8 (xu .i64 v 8))],[.int (ma .u8 v)]]))
def Ro(v:Int):Y:=jc id v
theorem nro(a:Y→α)(v:Int):jc a v=a (Ro v):=by exact cU rfl rfl
theorem Qm(v:Int):(v7 v).length≤4:=by unfold v7 PR;cases !(nn v 0 4294967295)<;>simp[toStr]
theorem Xa(v:Int):(Ro v).length≤2:=by unfold Ro jc;cases !(nn v 0 65535)<;>simp[toStr]
theorem ES{v:Int}(a:0≤v)(b:v≤65535):(Ro v).length=2:=by have c:nn v 0 65535=true:=Wx.2 ⟨a,b⟩;unfold Ro jc;rw[c];simp[toStr]
theorem nCb{v:Int}(a:0≤v)(b:v≤4294967295):(v7 v).length=4:=by have c:nn v 0 4294967295=true:=Wx.2 ⟨a,b⟩;unfold v7 PR;rw[c];simp[toStr]
theorem gh{a b:Y}(h:a.length+b.length≤9223372036854775807):S_ a b=true:=Tl h
theorem kN(r:rM):(toStr r).length=r.length:=by simp[toStr]
def AK(s:Y):Bool:=decide (s.length≤4294967296)
theorem tM{q:ch}(h:Xi q=true):q.ed.length≤320:=by
 unfold Xi dq at h;by_cases a:320<len q.ed
 ·rw[Tl a] at h;revert h;cases !(nn q.oC 0 65535)<;>cases !(nn q.oz 0 65535)<;>simp
 ·simp only[len] at a;omega
def nBh(c:Int→α)(a b:Int):α:=bif bif !(nn a 0 65535) then true else !(nn b 0 65535) then c (-1) else bif decide (65535<ZK (a+b)) then c (ZK ((ZK (a+b)) - 65535)) else c (ZK (a+b))
def Oa(a b:Int):Int:=nBh id a b
theorem nmU(c:Int→α)(a b:Int):nBh c a b=c (Oa a b):=by exact cU rfl (cU rfl rfl)
def u_(a:Int→α)(s:Y)(e:Int→Int→α)(b i:Int):α:=let c:Bool:=decide (ZK (i+1)<len s);let d:Int:=Zl .i64 (ZK (nf s i)) 8;bif decide (i<len s) then bif Bk true (idx i s) then bif lV c (Bk true (idx (ZK (i+1)) s)) true then e (Oa b (bif c then bits .or .i64 d (ZK (nf s (ZK (i+1)))) else d)) (ZK (i+2)) else kW else kW else a b
def UX(a:Int→α)(N:Nat)(s:Y)(b:Nat):Int→Int→α:=WS (λ_ _=>kW) (u_ kW a s) b
theorem ngy(a:Int→α)(N:Nat)(s:Y)(b:Nat):UX kW a N s (b+1)=u_ kW a s (UX kW a N s b):=rfl
def gL(kW:α)(a:Int→α)(b:Int→Int→α)(s:Y):α:=b 0 0
def nuR(a:Int→α)(N:Nat)(s:Y):α:=gL kW a (UX kW a N s N) s
def Bq(s:Y)(i:Nat):Int:=nf s (i:Int)*256+(bif decide (((i:Int)+1)<len s) then nf s ((i:Int)+1) else 0)
def Zf(s:Y)(j:Nat)(c:Int):Int:=Oa c (Bq s (2*j))
def nC1(s:Y):Int:=Wc (Zf s) ((s.length+1) / 2) 0 0
def Fo(s:Y):Int:=shut nC1 s
theorem nw8(s:Y):Fo s=Wc (Zf s) ((s.length+1) / 2) 0 0:=congrFun (pH nC1) s
theorem nxw(a:Int→α)(s:Y)(g:Oj .str (.str s))(b:AK s=true):∃N,nuR kW a N s=a (Fo s):=by
 have t:=jU g;refine⟨s.length+1, ?_⟩;have u:s.length≤4294967296:=of_decide_eq_true b;rw[nw8];unfold nuR gL;have key:∀(m n j:Nat) (c:Int),j+m=(s.length+1) / 2→m<n→UX kW a (s.length+1) s n c ((2*j:Nat):Int)=a (Wc (Zf s) m j c):=by
  intro m
  induction m with
  | zero=>
   intro n j c i k;obtain⟨n,rfl⟩:=O4 n;have l:decide (((2*j:Nat):Int)<len s)=false:=yF (by simp only[len];omega);rw[ngy];simp only[u_,l,rl,Wc]
  | succ m o=>
   intro n j c i k;obtain⟨n,rfl⟩:=O4 n;have f:2*j<s.length:=by omega
   have d:ZK (((2*j:Nat):Int)+1)=((2*j:Nat):Int)+1:=Ou;have e:ZK (((2*j:Nat):Int)+2)=((2*(j+1):Nat):Int):=by rw[Ou];omega
   have b:lV (decide (((2*j:Nat):Int)+1<len s)) (idx (((2*j:Nat):Int)+1) s) true=true:=eE (λh=>by have h:=of_decide_eq_true h;simp only[len] at h;simp only[idx,gF,kQ];omega) (λ_=>rfl)
   have v:=fR s ((2*j:Nat):Int);have c0:=V0 s ((2*j:Nat):Int);have w:=fR s (((2*j:Nat):Int)+1);have x:=V0 s (((2*j:Nat):Int)+1);have p:Zl .i64 (nf s ((2*j:Nat):Int)) 8=nf s ((2*j:Nat):Int)*256:=by rw[Qz,Ou]
   have r:(bif decide (((2*j:Nat):Int)+1<len s) then bits .or .i64 (nf s ((2*j:Nat):Int)*256) (nf s (((2*j:Nat):Int)+1)) else nf s ((2*j:Nat):Int)*256)=Bq s (2*j):=by
    unfold Bq;cases decide (((2*j:Nat):Int)+1<len s)
    ·simp
    ·simp only[HI];rw[PV 8 (y:=nf s (((2*j:Nat):Int)+1)) (by omega) (by omega) (by omega) (by omega) (by omega) (by omega)]
   rw[ngy];simp only[u_,T9 f,uH f,d,e,b,cd,HI,Ou (n:=nf s ((2*j:Nat):Int)),Ou (n:=nf s (((2*j:Nat):Int)+1)),p,r];exact o n (j+1) _ (by omega) (by omega)
 exact key ((s.length+1) / 2) (s.length+1) 0 0 (by omega) (by omega)
def RS(a:Int→α)(s:Y)(e:Int→Int→α)(b i:Int):α:=let c:Bool:=decide (ZK (i+1)<len s);let d:Int:=Zl .i64 (ZK (nf s i)) 8;bif decide (i<len s) then bif Bk true (idx i s) then bif lV c (Bk true (idx (ZK (i+1)) s)) true then e (Oa b (bif c then ZK (d+(ZK (nf s (ZK (i+1))))) else d)) (ZK (i+2)) else kW else kW else a b
def kC(a:Int→α)(N:Nat)(s:Y)(b:Nat):Int→Int→α:=WS (λ_ _=>kW) (RS kW a s) b
theorem nCs(a:Int→α)(N:Nat)(s:Y)(b:Nat):kC kW a N s (b+1)=RS kW a s (kC kW a N s b):=rfl
def pR(kW:α)(a:Int→α)(b:Int→Int→α)(s:Y):α:=b 0 0
def nd_(a:Int→α)(N:Nat)(s:Y):α:=pR kW a (kC kW a N s N) s
theorem noj(a:Int→α)(s:Y)(g:Oj .str (.str s))(b:AK s=true):∃N,nd_ kW a N s=a (Fo s):=by
 have t:=jU g;refine⟨s.length+1, ?_⟩;have u:s.length≤4294967296:=of_decide_eq_true b;rw[nw8];unfold nd_ pR;have key:∀(m n j:Nat) (c:Int),j+m=(s.length+1) / 2→m<n→kC kW a (s.length+1) s n c ((2*j:Nat):Int)=a (Wc (Zf s) m j c):=by
  intro m
  induction m with
  | zero=>
   intro n j c i k;obtain⟨n,rfl⟩:=O4 n;have l:decide (((2*j:Nat):Int)<len s)=false:=yF (by simp only[len];omega);rw[nCs];simp only[RS,l,rl,Wc]
  | succ m o=>
   intro n j c i k;obtain⟨n,rfl⟩:=O4 n;have f:2*j<s.length:=by omega
   have d:ZK (((2*j:Nat):Int)+1)=((2*j:Nat):Int)+1:=Ou;have e:ZK (((2*j:Nat):Int)+2)=((2*(j+1):Nat):Int):=by rw[Ou];omega
   have b:lV (decide (((2*j:Nat):Int)+1<len s)) (idx (((2*j:Nat):Int)+1) s) true=true:=eE (λh=>by have h:=of_decide_eq_true h;simp only[len] at h;simp only[idx,gF,kQ];omega) (λ_=>rfl)
   have v:=fR s ((2*j:Nat):Int);have c0:=V0 s ((2*j:Nat):Int);have w:=fR s (((2*j:Nat):Int)+1);have x:=V0 s (((2*j:Nat):Int)+1);have p:Zl .i64 (nf s ((2*j:Nat):Int)) 8=nf s ((2*j:Nat):Int)*256:=by rw[Qz,Ou]
   have r:(bif decide (((2*j:Nat):Int)+1<len s) then ZK (nf s ((2*j:Nat):Int)*256+nf s (((2*j:Nat):Int)+1)) else nf s ((2*j:Nat):Int)*256)=Bq s (2*j):=by
    unfold Bq;cases decide (((2*j:Nat):Int)+1<len s)
    ·simp
    ·simp only[HI];rw[Ou]
   rw[nCs];simp only[RS,T9 f,uH f,d,e,b,cd,HI,Ou (n:=nf s ((2*j:Nat):Int)),Ou (n:=nf s (((2*j:Nat):Int)+1)),p,r];exact o n (j+1) _ (by omega) (by omega)
 exact key ((s.length+1) / 2) (s.length+1) 0 0 (by omega) (by omega)
def niH(a:Int→α)(s:Y):α:=bif Bk true (AK s) then a (ZK (65535 - (Fo s))) else kW
def rf(s:Y):Int:=ZK (65535 - Fo s)
theorem nAt(a:Int→α)(s:Y)(b:AK s=true):niH kW a s=a (rf s):=by have h:AK s=true:=b;unfold niH rf;simp only[h,cd,HI]
def nus(a:Y→α)(s:Y)(gZ:Int)(part:Y):α:=let b:Y:=qg s (ZK (gZ+(len part)));bif bif decide (gZ<0) then true else decide (ZK ((len s) - (len part))<gZ) then a s else bif Bk (Bk (Bk (Bk true (Oo s gZ)) (S_ (Xg s gZ) part)) (fD s (ZK (gZ+(len part))))) (S_ ((Xg s gZ)++part) b) then a (((Xg s gZ)++part)++b) else kW
def Ei(s:Y)(gZ:Int)(part:Y):Bool:=decide (s.length≤4294967296) && decide (part.length≤4294967296)
def iU(s:Y)(gZ:Int)(part:Y):Y:=bif !(WU s gZ (len part)) then s else s.take gZ.toNat++part++s.drop (gZ.toNat+part.length)
theorem TA{s:Y}{gZ:Int}{part:Y}(a:s.length≤9223372036854775807):(iU s gZ part).length=s.length:=by
 unfold iU;cases b:WU s gZ (len part)
 ·rfl
 ·have:=(within_iff a).1 b;simp only[len] at this;simp only[mc,rl,Qe,m8,my];omega
theorem nr2(a:Y→α)(s:Y)(gZ:Int)(part:Y)(g:Ei s gZ part=true):nus kW a s gZ part=a (iU s gZ part):=by
 simp only[Ei,gF,kQ] at g;unfold nus iU;have c:(bif decide (gZ<0) then true else decide (ZK (len s - len part)<gZ))= !(WU s gZ (len part)):=by
  have d:=within_iff (s:=s) (gZ:=gZ) (n:=len part) (by omega);rw[Ou (n:=len s - len part) (by simp only[len];omega) (by simp only[len];omega)];cases b:WU s gZ (len part)
  ·by_cases e:gZ<0
   ·simp[e]
   ·by_cases f:len s - len part<gZ
    ·simp[e,f]
    ·rw[d.2 (by simp only[len] at f ⊢;omega)] at b;cases b
  ·have:=d.1 b;simp[show ¬gZ<0 by omega,show ¬len s - len part<gZ by omega]
 rw[c];refine oN (λ_=>rfl) (λh=>?_);have b:=(within_iff (by omega)).1 (show WU s gZ (len part)=true by simpa using h);have i:ZK (gZ+len part)=gZ+len part:=by simp only[len] at b ⊢;exact Ou
 have j:Xg s gZ=s.take gZ.toNat:=by simp[Xg]
 have k:qg s (gZ+len part)=s.drop (gZ.toNat+part.length):=by
  simp only[qg,q4,len]
  congr 1
  omega
 have l:Oo s gZ=true:=by simp only[len] at b;simp only[Oo,gF,kQ];omega
 have m:fD s (gZ+len part)=true:=by simp only[len] at b ⊢;simp only[fD,gF,kQ];omega
 have o:S_ (s.take gZ.toNat) part=true:=by simp only[S_,m8,kQ];omega
 have p:S_ (s.take gZ.toNat++part) (s.drop (gZ.toNat+part.length))=true:=by simp only[S_,Qe,m8,my,kQ];omega
 simp only[i,j,k,l,m,o,p,cd,HI]
def nL9(a:Y→α)(s:Y)(gZ:Int)(part:Y):α:=let b:Y:=qg s (ZK (gZ+(len part)));bif !(WU s gZ (len part)) then a s else bif Bk (Bk (Bk (Bk true (Oo s gZ)) (S_ (Xg s gZ) part)) (fD s (ZK (gZ+(len part))))) (S_ ((Xg s gZ)++part) b) then a (((Xg s gZ)++part)++b) else kW
theorem nkZ(a:Y→α)(s:Y)(gZ:Int)(part:Y)(c:Ei s gZ part=true):nL9 kW a s gZ part=a (iU s gZ part):=by
 simp only[Ei,gF,kQ] at c;unfold nL9 iU;refine oN (λ_=>rfl) (λd=>?_);have b:=(within_iff (by omega)).1 (show WU s gZ (len part)=true by simpa using d);have e:ZK (gZ+len part)=gZ+len part:=by simp only[len] at b ⊢;exact Ou
 have f:Xg s gZ=s.take gZ.toNat:=by simp[Xg]
 have g:qg s (gZ+len part)=s.drop (gZ.toNat+part.length):=by
  simp only[qg,q4,len]
  congr 1
  omega
 have h:Oo s gZ=true:=by simp only[len] at b;simp only[Oo,gF,kQ];omega
 have i:fD s (gZ+len part)=true:=by simp only[len] at b ⊢;simp only[fD,gF,kQ];omega
 have j:S_ (s.take gZ.toNat) part=true:=by simp only[S_,m8,kQ];omega
 have k:S_ (s.take gZ.toNat++part) (s.drop (gZ.toNat+part.length))=true:=by simp only[S_,Qe,m8,my,kQ];omega
 simp only[e,f,g,h,i,j,k,cd,HI]
def nwm(a:Y→Bool→α)(c d b length:Int):α:=let e:Y:=((v7 c)++(v7 d))++(toStr ([[.int 0],[.int (ma .u8 b)]]));bif bif !(nn c 0 4294967295) then true else bif !(nn d 0 4294967295) then true else bif !(nn b 0 255) then true else !(nn length 0 65535) then a [] false else bif Bk (Bk (Bk true (S_ (v7 c) (v7 d))) (S_ ((v7 c)++(v7 d)) (toStr ([[.int 0],[.int (ma .u8 b)]])))) (S_ e (Ro length)) then a (e++(Ro length)) true else kW
def aO(b c a length:Int):Y×Bool:=bif bif !(nn b 0 4294967295) then true else bif !(nn c 0 4294967295) then true else bif !(nn a 0 255) then true else !(nn length 0 65535) then ([],false) else (v7 b++v7 c++toStr ([[.int 0],[.int (ma .u8 a)]])++Ro length,true)
theorem CS(e f d length:Int):(aO e f d length).1.length≤12:=by
 have a:=Qm e;have b:=Qm f;have c:=Xa length;unfold aO;cases (bif !(nn e 0 4294967295) then true else bif !(nn f 0 4294967295) then true else bif !(nn d 0 255) then true else !(nn length 0 65535))
 ·simp only[rl,Qe,kN,di,l9];omega
 ·exact m7 _
theorem nce(d:Y→Bool→α)(e f g length:Int):nwm kW d e f g length=d (aO e f g length).1 (aO e f g length).2:=by have a:=Qm e;have b:=Qm f;have c:=Xa length;have h:S_ (v7 e) (v7 f)=true:=gh (by omega);have i:∀r,S_ (v7 e++v7 f) (toStr [[.int 0],r])=true:=λr=>gh (by simp only[Qe,kN,di,l9];omega);have j:∀r,S_ (v7 e++v7 f++toStr [[.int 0],r]) (Ro length)=true:=λr=>gh (by simp only[Qe,kN,di,l9];omega);unfold nwm aO;simp only[h,i,j,cd,HI];exact cU (K:=λr:Y×Bool=>d r.1 r.2) rfl rfl
def aa(a:Int→α)(b:Int):α:=bif b==6 then a 16 else a 6
def wj(a:Int):Int:=aa id a
theorem nn8(a:Int→α)(b:Int):aa a b=a (wj b):=by exact cU rfl rfl
def nk2(a:Y→α)(g:ch):α:=let b:Y:=(Ro g.oC)++(Ro g.oz);let c:Y:=b++(v7 g.e4);let d:Y:=c++(v7 g.XY);let e:Y:=d++(toStr ([[.int 80],[.int (ma .u8 g.ez)]]));let f:Y:=e++(Ro g.su);let h:Y:=f++(Ro 0);let i:Y:=h++(Ro 0);let j:Y:=Ro (ZK (8+(len g.ed)));let k:Y:=b++j;let l:Y:=k++(Ro 0);bif Bk true (S_ (Ro g.oC) (Ro g.oz)) then bif g.eh==6 then bif Bk (Bk (Bk (Bk (Bk (Bk (Bk true (S_ b (v7 g.e4))) (S_ c (v7 g.XY))) (S_ d (toStr ([[.int 80],[.int (ma .u8 g.ez)]])))) (S_ e (Ro g.su))) (S_ f (Ro 0))) (S_ h (Ro 0))) (S_ i g.ed) then a (i++g.ed) else kW else bif Bk (Bk (Bk true (S_ b j)) (S_ k (Ro 0))) (S_ l g.ed) then a (l++g.ed) else kW else kW
def Hi(q:ch):Y:=bif q.eh==6 then Ro q.oC++Ro q.oz++v7 q.e4++v7 q.XY++toStr ([[.int 80],[.int (ma .u8 q.ez)]])++Ro q.su++Ro 0++Ro 0 else Ro q.oC++Ro q.oz++Ro (ZK (8+(len q.ed)))++Ro 0
def yk(q:ch):Y:=Hi q++q.ed
def i9(q:ch):Bool:=decide (q.ed.length≤1000)
theorem nbc(q:ch):(Hi q).length≤20:=by
 have a:=Xa q.oC;have b:=Xa q.oz;have c:=Qm q.e4;have d:=Qm q.XY;have e:=Xa q.su;have f:=Xa 0;have h:=Xa (ZK (8+(len q.ed)));unfold Hi;cases q.eh==6
 ·simp only[rl,Qe];omega
 ·simp only[HI,Qe,kN,di,l9];omega
theorem nzk(q:ch):(yk q).length≤q.ed.length+20:=by have:=nbc q;simp only[yk,Qe];omega
theorem nv9(h:Y→α)(g:ch)(i:i9 g=true):nk2 kW h g=h (yk g):=by
 have j:g.ed.length≤1000:=of_decide_eq_true i;have a:=Xa g.oC;have b:=Xa g.oz;have c:=Qm g.e4;have d:=Qm g.XY;have e:=Xa g.su;have f:=Xa 0;have k:=Qm 0;have l:=Xa (ZK (8+(len g.ed)));unfold nk2 yk Hi;refine Bw (by simp only[DT,S_,AK,Qe,kN,di,l9,kQ,true_and,and_true];omega) ?_;cases g.eh==6
 ·simp only[rl];refine Bw (by simp only[DT,S_,AK,Qe,kN,di,l9,kQ,true_and,and_true];omega) ?_;rfl
 ·simp only[HI];refine Bw (by simp only[DT,S_,AK,Qe,kN,di,l9,kQ,true_and,and_true];omega) ?_;rfl
def htC(a:Y→Bool→α)(b c:Int)(g:ch):α:=let d:Y×Bool:=aO b c g.eh (len (yk g));let e:Y:=d.1++(yk g);let f:Int:=rf e;let h:Y:=Ro (bif bif g.eh==17 then f==0 else false then 65535 else f);bif !(Xi g) then a [] false else bif Bk true (i9 g) then bif !d.2 then a [] false else bif Bk (Bk true (S_ d.1 (yk g))) (AK e) then bif Bk true (Ei (yk g) (wj g.eh) h) then a (iU (yk g) (wj g.eh) h) true else kW else kW else kW
theorem RF(a:Int):wj a=bif a==6 then 16 else 6:=by unfold wj aa;cases a==6<;>rfl
def E4(a b:Int)(g:ch):Int:=rf ((aO a b g.eh (len (yk g))).1++yk g)
def k8(a b:Int)(g:ch):Y×Bool:=bif !(Xi g) then ([],false) else bif !(aO a b g.eh (len (yk g))).2 then ([],false) else (iU (yk g) (wj g.eh) (Ro (bif bif g.eh==17 then E4 a b g==0 else false then 65535 else E4 a b g)),true)
theorem nzJ(c:Y→Bool→α)(d e:Int)(g:ch):htC kW c d e g=c (k8 d e g).1 (k8 d e g).2:=by
 unfold htC k8;refine oN (K:=λr:Y×Bool=>c r.1 r.2) (λ_=>rfl) (λf=>?_);have h:Xi g=true:=by simpa using f
 have a:=tM h;have b:=nzk g;have m:=CS d e g.eh (len (yk g));have i:i9 g=true:=Tl (by omega);have j:S_ (aO d e g.eh (len (yk g))).1 (yk g)=true:=gh (by omega);have k:∀v,Ei (yk g) (wj g.eh) (Ro v)=true:=λv=>by have:=Xa v;simp only[Ei,gF,kQ];omega
 have l:AK ((aO d e g.eh (len (yk g))).1++yk g)=true:=Tl (by rw[Qe];omega);simp only[i,j,k,l,cd,HI];exact cU (K:=λr:Y×Bool=>c r.1 r.2) rfl rfl
def nzT(a:Y→Bool→α)(h i:Int)(g:ch):α:=let f:Y:=(Ro g.oC)++(Ro g.oz);let j:Y:=f++(v7 g.e4);let k:Y:=j++(v7 g.XY);let l:Y:=k++(toStr ([[.int 80],[.int (ma .u8 g.ez)]]));let m:Y:=l++(Ro g.su);let n:Y:=Ro (ZK (8+(len g.ed)));let o:Y:=f++n;let p:Y:=bif g.eh==6 then m++(v7 0) else o++(Ro 0);let b:Y:=p++g.ed;let q:Y×Bool:=aO h i g.eh (len b);let r:Y:=q.1;let s:Y:=r++b;let c:Int:=bif g.eh==6 then 16 else 6;let d:Int:=rf s;let e:Y:=Ro (bif bif d==0 then g.eh==17 else false then 65535 else d);bif !(Xi g) then a [] false else bif Bk true (S_ (Ro g.oC) (Ro g.oz)) then bif lV (g.eh==6) (Bk (Bk (Bk (Bk (Bk true (S_ f (v7 g.e4))) (S_ j (v7 g.XY))) (S_ k (toStr ([[.int 80],[.int (ma .u8 g.ez)]])))) (S_ l (Ro g.su))) (S_ m (v7 0))) (Bk (Bk true (S_ f n)) (S_ o (Ro 0))) then bif Bk true (S_ p g.ed) then bif !q.2 then a [] false else bif Bk (Bk true (S_ r b)) (AK s) then bif Bk true (Ei b c e) then a (iU b c e) true else kW else kW else kW else kW else kW
theorem nCt(h:Y→Bool→α)(i j:Int)(g:ch):nzT kW h i j g=h (k8 i j g).1 (k8 i j g).2:=by
 unfold nzT k8;refine oN (K:=λr:Y×Bool=>h r.1 r.2) (λ_=>rfl) (λl=>?_);have m:Xi g=true:=by simpa using l
 have x:=tM m;have y:=nzk g;have z:=CS i j g.eh (len (yk g));have a:=Xa g.oC;have b:=Xa g.oz;have c:=Qm g.e4;have d:=Qm g.XY;have e:=Xa g.su;have f:=Xa 0;have A:=Qm 0;have B:=Xa (ZK (8+(len g.ed)));have n:v7 0=Ro 0++Ro 0:=by unfold v7 Ro PR jc;rfl
 have o:(bif g.eh==6 then Ro g.oC++Ro g.oz++v7 g.e4++v7 g.XY++toStr ([[.int 80],[.int (ma .u8 g.ez)]])++Ro g.su++v7 0 else Ro g.oC++Ro g.oz++Ro (ZK (8+(len g.ed)))++Ro 0)=Hi g:=by
  unfold Hi;cases g.eh==6
  ·rfl
  ·simp only[HI,n,nF]
 refine Bw (by simp only[DT,S_,AK,Qe,kN,di,l9,kQ,true_and,and_true];omega) ?_;refine Bw (eE (λ_=>(by simp only[DT,S_,AK,Qe,kN,di,l9,kQ,true_and,and_true];omega)) (λ_=>(by simp only[DT,S_,AK,Qe,kN,di,l9,kQ,true_and,and_true];omega))) ?_;rw[o];have C:=nbc g;refine Bw (by simp only[DT,S_,AK,Qe,kN,di,l9,kQ,true_and,and_true];omega) ?_;have p:Hi g++g.ed=yk g:=rfl;rw[p];have q:(bif g.eh==6 then (16:Int) else 6)=wj g.eh:=(RF _).symm;have s:S_ (aO i j g.eh (len (yk g))).1 (yk g)=true:=gh (by omega);have t:∀v,Ei (yk g) (wj g.eh) (Ro v)=true:=λv=>by have:=Xa v;simp only[Ei,gF,kQ];omega
 have u:(bif E4 i j g==0 then g.eh==17 else false)=(bif g.eh==17 then E4 i j g==0 else false):=by
  cases E4 i j g==0<;>cases g.eh==17<;>rfl
 have k:rf ((aO i j g.eh (len (yk g))).1++yk g)=E4 i j g:=rfl;have w:AK ((aO i j g.eh (len (yk g))).1++yk g)=true:=Tl (by rw[Qe];omega);simp only[q,k,u,s,t,w,cd,HI];exact cU (K:=λr:Y×Bool=>h r.1 r.2) rfl rfl
def Q1(a:Bool→α)(d:Tc):α:=a (bif nn d.S9 0 255 then bif nn d.Ta 0 255 then bif nn d.nqh 0 255 then bif nn d.Id 0 65535 then bif nn d.e7 0 4294967295 then bif nn d.W0 0 4294967295 then decide (len d.ed≤380) else false else false else false else false else false else false)
def Gs(d:Tc):Bool:=Q1 id d
theorem nCo(a:Bool→α)(d:Tc):Q1 a d=a (Gs d):=by rfl
def nwq(a:Y→Bool→α)(d:Tc):α:=let c:Y:=Ro (ZK (20+(len d.ed)));let e:Y:=(toStr ([[.int 69],[.int (ma .u8 d.S9)]]))++c;let f:Y:=e++(Ro d.Id);let g:Y:=f++(Ro 16384);let h:Y:=g++(toStr ([[.int (ma .u8 d.Ta)],[.int (ma .u8 d.nqh)]]));let i:Y:=h++(Ro 0);let j:Y:=i++(v7 d.e7);let b:Y:=j++(v7 d.W0);let k:Y:=Ro (rf b);bif !(Gs d) then a [] false else bif Bk (Bk (Bk (Bk (Bk (Bk (Bk true (S_ (toStr ([[.int 69],[.int (ma .u8 d.S9)]])) c)) (S_ e (Ro d.Id))) (S_ f (Ro 16384))) (S_ g (toStr ([[.int (ma .u8 d.Ta)],[.int (ma .u8 d.nqh)]])))) (S_ h (Ro 0))) (S_ i (v7 d.e7))) (S_ j (v7 d.W0)) then bif Bk (Bk true (AK b)) (Ei b 10 k) then a (iU b 10 k) true else kW else kW
def lR(d:Tc):Y:=toStr ([[.int 69],[.int (ma .u8 d.S9)]])++Ro (ZK (20+(len d.ed)))++Ro d.Id++Ro 16384++toStr ([[.int (ma .u8 d.Ta)],[.int (ma .u8 d.nqh)]])++Ro 0++v7 d.e7++v7 d.W0
theorem nsB(d:Tc):(lR d).length≤20:=by have a:=Xa (ZK (20+(len d.ed)));have b:=Xa d.Id;have c:=Xa 16384;have e:=Xa 0;have f:=Qm d.e7;have h:=Qm d.W0;simp only[lR,Qe,kN,di,l9];omega
def ZS(d:Tc):Y×Bool:=bif !(Gs d) then ([],false) else (iU (lR d) 10 (Ro (rf (lR d))),true)
theorem np2{d:Tc}(h:Gs d=true):d.ed.length≤380:=by
 unfold Gs Q1 at h;by_cases a:len d.ed≤380
 ·simp only[len] at a;omega
 ·rw[yF a] at h;revert h;cases nn d.S9 0 255<;>cases nn d.Ta 0 255<;>cases nn d.nqh 0 255<;>cases nn d.Id 0 65535<;>cases nn d.e7 0 4294967295<;>cases nn d.W0 0 4294967295<;>simp
theorem nDP(d:Tc):(ZS d).1.length≤20:=by
 unfold ZS;cases Gs d
 ·exact m7 _
 ·have:=nsB d;simp only[mc,rl];rw[TA (by omega)];exact this
theorem na6{d:Tc}(h:(ZS d).2=true):Gs d=true:=by
 unfold ZS at h;cases a:Gs d
 ·rw[a] at h;cases h
 ·rfl
theorem noJ(g:Y→Bool→α)(d:Tc):nwq kW g d=g (ZS d).1 (ZS d).2:=by
 have a:=Xa (ZK (20+(len d.ed)));have b:=Xa d.Id;have c:=Xa 16384;have e:=Xa 0;have f:=Qm d.e7;have h:=Qm d.W0;unfold nwq ZS;refine oN (K:=λr:Y×Bool=>g r.1 r.2) (λ_=>rfl) (λk=>?_);refine Bw (by simp only[DT,S_,AK,Qe,kN,di,l9,kQ,true_and,and_true];omega) ?_;have l:=nsB d;have i:∀v,Ei (lR d) 10 (Ro v)=true:=λv=>by have:=Xa v;simp only[Ei,gF,kQ];omega
 have j:AK (lR d)=true:=Tl (by omega);refine Bw ?_ rfl;rw[DT,DT];exact⟨⟨rfl,j⟩,i _⟩
def nyF(a:Y→Bool→α)(d:Tc):α:=bif !((ZS d).2) then a [] false else bif Bk true (S_ ((ZS d).1) d.ed) then a (((ZS d).1)++d.ed) true else kW
def PA(d:Tc):Y×Bool:=bif !(ZS d).2 then ([],false) else ((ZS d).1++d.ed,true)
theorem nv1(d:Tc):(PA d).1.length≤400:=by
 unfold PA;cases h:(ZS d).2
 ·exact m7 _
 ·have a:=np2 (na6 h);have b:=nDP d;simp only[mc,rl,Qe];omega
theorem neQ(a:Y→Bool→α)(d:Tc):nyF kW a d=a (PA d).1 (PA d).2:=by unfold nyF PA;refine oN (K:=λr:Y×Bool=>a r.1 r.2) (λ_=>rfl) (λb=>?_);have c:=np2 (na6 (d:=d) (by simpa using b));have e:=nDP d;refine Bw (by simp only[DT,S_,AK,Qe,kN,di,l9,kQ,true_and,and_true];omega) rfl
def nad(a:Y→α)(s:Y):α:=let b:Y:=dL 0 (ZK (46 - (len s)));bif decide (46≤len s) then a s else bif Bk (Bk true (Vf 0 (ZK (46 - (len s))))) (S_ s b) then a (s++b) else kW
def V4(s:Y):Y:=bif decide (46≤len s) then s else s++Vu (46 - len s) 0
theorem nap{s:Y}{n:Nat}(h:s.length≤n)(b:46≤n):46≤(V4 s).length∧(V4 s).length≤n:=by
 unfold V4;by_cases a:46≤len s
 ·simp only[Tl a,HI];simp only[len] at a;omega
 ·simp only[yF a,rl,Qe,Vu,oo];simp only[len] at a ⊢;omega
theorem nsQ(a:Y→α)(s:Y)(c:Oj .str (.str s)):nad kW a s=a (V4 s):=by
 have i:=jU c;have d:0≤len s:=by simp[len]
 have j:len s≤9223372036854775807:=by simp only[len];omega
 unfold nad V4;by_cases h:46≤len s
 ·have b:¬len s<46:=by omega
  simp only[h,b,decide_true,decide_false,HI,rl]
 ·have b:len s<46:=by omega
  have e:ZK (46 - len s)=46 - len s:=Ou;have f:ie (46 - len s) 0=true:=Wx.2 (by omega);have g:S_ s (Vu (46 - len s) 0)=true:=gh (by simp only[Vu,oo,len] at*;omega);simp only[h,b,decide_true,decide_false,HI,rl,e,Vf,dL,f,g,cd]
def noY(a:Y→α)(s:Y):α:=let b:Y:=Vu (ZK (46 - (len s))) 0;bif decide (len s<46) then bif Bk (Bk true (ie (ZK (46 - (len s))) 0)) (S_ s b) then a (s++b) else kW else a s
theorem nif(a:Y→α)(s:Y)(c:Oj .str (.str s)):noY kW a s=a (V4 s):=by
 have i:=jU c;have d:0≤len s:=by simp[len]
 have j:len s≤9223372036854775807:=by simp only[len];omega
 unfold noY V4;by_cases h:46≤len s
 ·have b:¬len s<46:=by omega
  simp only[h,b,decide_true,decide_false,HI,rl]
 ·have b:len s<46:=by omega
  have e:ZK (46 - len s)=46 - len s:=Ou;have f:ie (46 - len s) 0=true:=Wx.2 (by omega);have g:S_ s (Vu (46 - len s) 0)=true:=gh (by simp only[Vu,oo,len] at*;omega);simp only[h,b,decide_true,decide_false,HI,rl,e,f,g,cd]
def fy(a:Bool→α)(e:Ps):α:=a (bif nn e.W0 0 281474976710655 then bif nn e.e7 0 281474976710655 then bif nn e.rX (-1) 4095 then bif nn e.PC 1536 65535 then bif e.PC != 33024 then nn (len e.ed) 46 400 else false else false else false else false else false)
def tf(e:Ps):Bool:=fy id e
theorem nr5(a:Bool→α)(e:Ps):fy a e=a (tf e):=by rfl
def nfJ(b:Y→α)(a:Int):α:=bif Bk true (S_ (Ro (xu .i64 a 32)) (v7 (bits .and .i64 a 4294967295))) then b ((Ro (xu .i64 a 32))++(v7 (bits .and .i64 a 4294967295))) else kW
def yw(a:Int):Y:=Ro (xu .i64 a 32)++v7 (bits .and .i64 a 4294967295)
theorem Vk(x:Int):(yw x).length≤6:=by have a:=Xa (xu .i64 x 32);have b:=Qm (bits .and .i64 x 4294967295);simp only[yw,Qe];omega
theorem nCv(b:Y→α)(a:Int):nfJ kW b a=b (yw a):=by have c:=Xa (xu .i64 a 32);have d:=Qm (bits .and .i64 a 4294967295);unfold nfJ yw;refine Bw (by simp only[DT,S_,AK,Qe,kN,di,l9,kQ,true_and,and_true];omega) rfl
def nec(a:Y→Bool→α)(e:Ps):α:=let b:Y:=(yw e.W0)++(yw e.e7);let c:Y:=(Ro 33024)++(Ro e.rX);let d:Y:=bif decide (0≤e.rX) then b++c else b;let f:Y:=d++(Ro e.PC);bif !(tf e) then a [] false else bif Bk true (S_ (yw e.W0) (yw e.e7)) then bif lV (decide (0≤e.rX)) (Bk (Bk true (S_ (Ro 33024) (Ro e.rX))) (S_ b c)) true then bif Bk (Bk true (S_ d (Ro e.PC))) (S_ f e.ed) then a (f++e.ed) true else kW else kW else kW
def OX(e:Ps):Y:=bif decide (0≤e.rX) then yw e.W0++yw e.e7++(Ro 33024++Ro e.rX) else yw e.W0++yw e.e7
def Og(e:Ps):Y×Bool:=bif !(tf e) then ([],false) else (OX e++Ro e.PC++e.ed,true)
theorem dt(e:Ps):(OX e).length≤16:=by
 have a:=Vk e.W0;have b:=Vk e.e7;have c:=Xa 33024;have d:=Xa e.rX;unfold OX;cases decide (0≤e.rX)
 ·simp only[rl,Qe];omega
 ·simp only[HI,Qe];omega
theorem U9{e:Ps}(h:tf e=true):e.ed.length≤400:=by
 unfold tf fy at h;cases a:nn (len e.ed) 46 400
 ·rw[a] at h;revert h;cases nn e.W0 0 281474976710655<;>cases nn e.e7 0 281474976710655<;>cases nn e.rX (-1) 4095<;>cases nn e.PC 1536 65535<;>cases e.PC != 33024<;>simp
 ·have:=Wx.1 a;simp only[len] at this;omega
theorem nuV(e:Ps):(Og e).1.length≤420:=by
 unfold Og;cases h:tf e
 ·exact m7 _
 ·have a:=U9 h;have b:=dt e;have c:=Xa e.PC;simp only[mc,rl,Qe];omega
theorem nCI(g:Y→Bool→α)(e:Ps):nec kW g e=g (Og e).1 (Og e).2:=by have a:=Vk e.W0;have b:=Vk e.e7;have c:=Xa 33024;have d:=Xa e.rX;have f:=Xa e.PC;unfold nec Og;refine oN (K:=λr:Y×Bool=>g r.1 r.2) (λ_=>rfl) (λh=>?_);have j:=U9 (e:=e) (by simpa using h);refine Bw (by simp only[DT,S_,AK,Qe,kN,di,l9,kQ,true_and,and_true];omega) ?_;refine Bw (eE (λ_=>(by simp only[DT,S_,AK,Qe,kN,di,l9,kQ,true_and,and_true];omega)) (λ_=>rfl)) ?_;have i:(bif decide (0≤e.rX) then yw e.W0++yw e.e7++(Ro 33024++Ro e.rX) else yw e.W0++yw e.e7)=OX e:=rfl;rw[i];have k:=dt e;refine Bw (by simp only[DT,S_,AK,Qe,kN,di,l9,kQ,true_and,and_true];omega) rfl
def nnC(a:Y→Bool→α)(e:Ps):α:=let b:Y:=(yw e.W0)++(yw e.e7);let c:Y:=b++(Ro 33024);let d:Y:=bif decide (0≤e.rX) then c++(Ro e.rX) else b;let f:Y:=d++(Ro e.PC);bif !(tf e) then a [] false else bif Bk true (S_ (yw e.W0) (yw e.e7)) then bif lV (decide (0≤e.rX)) (Bk (Bk true (S_ b (Ro 33024))) (S_ c (Ro e.rX))) true then bif Bk (Bk true (S_ d (Ro e.PC))) (S_ f e.ed) then a (f++e.ed) true else kW else kW else kW
theorem nbH(g:Y→Bool→α)(e:Ps):nnC kW g e=g (Og e).1 (Og e).2:=by
 have a:=Vk e.W0;have b:=Vk e.e7;have c:=Xa 33024;have d:=Xa e.rX;have f:=Xa e.PC;unfold nnC Og;refine oN (K:=λr:Y×Bool=>g r.1 r.2) (λ_=>rfl) (λh=>?_);have j:=U9 (e:=e) (by simpa using h);refine Bw (by simp only[DT,S_,AK,Qe,kN,di,l9,kQ,true_and,and_true];omega) ?_;refine Bw (eE (λ_=>(by simp only[DT,S_,AK,Qe,kN,di,l9,kQ,true_and,and_true];omega)) (λ_=>rfl)) ?_;have i:(bif decide (0≤e.rX) then yw e.W0++yw e.e7++Ro 33024++Ro e.rX else yw e.W0++yw e.e7)=OX e:=by
  unfold OX;cases decide (0≤e.rX)
  ·rfl
  ·simp only[HI,nF]
 rw[i];have k:=dt e;refine Bw (by simp only[DT,S_,AK,Qe,kN,di,l9,kQ,true_and,and_true];omega) rfl
def niK(a:Y→Bool→α)(p:oY):α:=let b:Y×Bool:=Og (⟨p.rA,p.rN,p.rX,2048,V4 ((PA (⟨p.S9,p.Id,p.Ta,p.pk.eh,p.py,p.pN,(k8 p.py p.pN p.pk).1⟩:Tc)).1)⟩:Ps);bif !(rZ p) then a [] false else a b.1 b.2
def UI(p:oY):Ps:=(⟨p.rA,p.rN,p.rX,2048,V4 (PA (⟨p.S9,p.Id,p.Ta,p.pk.eh,p.py,p.pN,(k8 p.py p.pN p.pk).1⟩:Tc)).1⟩:Ps)
def dQ(p:oY):Y×Bool:=bif !(rZ p) then ([],false) else Og (UI p)
theorem Cg(p:oY):(dQ p).1.length≤420:=by
 unfold dQ;cases rZ p
 ·exact m7 _
 ·exact nuV _
theorem nrR(a:Y→Bool→α)(p:oY):niK a p=a (dQ p).1 (dQ p).2:=by unfold niK dQ;exact cU (K:=λr:Y×Bool=>a r.1 r.2) rfl rfl
def Ak(a:Bool→α)(p:oY):α:=a (bif rZ p then decide (len p.pk.ed≤128) else false)
def yc(p:oY):Bool:=Ak id p
theorem nfX(a:Bool→α)(p:oY):Ak a p=a (yc p):=by rfl
theorem E6(p:Nat→List DC→Bool):∀(l:rM) (s:Nat),Pt p l s=true↔∃i,i<l.length∧p (s+i) (V l i)=true
 | [],s=>by simp[Pt]
 | r::l,s=>by
  unfold Pt;cases b:p s r
  ·simp only[rl,E6 p l (s+1)];constructor
   ·rintro ⟨i,c,a⟩
    refine⟨i+1,by simp;omega, ?_⟩;rw[show s+(i+1)=s+1+i by omega];exact a
   ·rintro ⟨i,c,a⟩
    cases i with
    | zero=>exfalso;rw[show V (r::l) 0=r from rfl,Nat.add_zero,b] at a;cases a
    | succ i=>
     refine⟨i,by simp only[di] at c;omega, ?_⟩;rw[show s+1+i=s+(i+1) by omega];exact a
  ·simp only[HI,true_iff];exact⟨0,by simp,b⟩
theorem nk4{p:Nat→List DC→Bool}{l:rM}{s:Nat}(h:Pt p l s=false):∀i,i<l.length→p (s+i) (V l i)=false:=by
 intro i a;cases b:p (s+i) (V l i)
 ·rfl
 ·rw[(E6 p l s).2 ⟨i,a,b⟩] at h;cases h
theorem yC(p:Nat→List DC→Bool):∀(l:rM) (s:Nat),(findIdx p l s= -1∧∀i,i<l.length→p (s+i) (V l i)=false)∨∃i,i<l.length∧findIdx p l s=((s+i:Nat):Int)∧p (s+i) (V l i)=true
 | [],s=> .inl ⟨rfl,by simp⟩
 | r::l,s=>by
  unfold findIdx;cases b:p s r
  ·rcases yC p l (s+1) with ⟨c,a⟩ | ⟨i,c,a,d⟩
   ·refine .inl ⟨c,λi e=>?_⟩;cases i with
    | zero=>exact b
    | succ i=>
     rw[show s+(i+1)=s+1+i by omega];exact a i (by simp only[di] at e;omega)
   ·refine .inr ⟨i+1,by simp;omega, ?_, ?_⟩
    ·rw[rl,a,show s+(i+1)=s+1+i by omega]
    ·rw[show s+(i+1)=s+1+i by omega];exact d
  ·exact .inr ⟨0,by simp,rfl,b⟩
theorem Ag{x m:Int}(a:0≤x)(b:0<m):0≤lZ x m∧lZ x m<m:=⟨Int.tmod_nonneg _ a,Int.tmod_lt_of_pos _ b⟩
theorem nd3(l:rM)(i j:Nat)(x:List DC)(a:i<l.length):V (l.set i x) j=if j=i then x else V l j:=by
 simp only[V,ns];by_cases h:j=i
 ·subst h;rw[List.getElem?_set_self a,if_pos rfl];rfl
 ·rw[List.getElem?_set_ne (λe=>h e.symm),if_neg h]
theorem bZ(a b:Bool):(bif a then b else false)=true↔a=true∧b=true:=by cases a<;>cases b<;>simp
theorem nhO{p:Nat→List DC→Bool}{l:rM}(h:∀i,i<l.length→p i (V l i)=false):Pt p l 0=false:=by
 cases b:Pt p l 0
 ·rfl
 ·obtain⟨i,c,a⟩:=(E6 p l 0).1 b;rw[mg,h i c] at a;cases a
theorem nys{p:Nat→Bool} :∀ {m i:Nat},ZO p m i=false→∀j,i≤j→j<i+m→p j=false
 | 0,_,_,j,h1,h2=>by omega
 | m+1,i,h,j,h1,h2=>by
  rw[ZO] at h;cases a:p i
  ·rw[a] at h;by_cases b:j=i
   ·rw[b];exact a
   ·exact nys h j (by omega) (by omega)
  ·rw[a] at h;cases h
theorem nb0{p:Nat→List DC→Bool} :∀ {l:rM} {s:Nat},Pt p l s=false→∀r∈l,∃i,p i r=false
 | [],_,_,r,h=>by simp at h
 | x::xs,s,h,r,a=>by
  simp only[Pt] at h;cases b:p s x
  ·rw[b] at h;rcases List.mem_cons.1 a with rfl | a
   ·exact⟨s,b⟩
   ·exact nb0 h r a
  ·rw[b] at h;cases h
theorem VP{l:rM}(h:cz l=true):len l≤96∧∀r∈l,Fm r=false:=by
 unfold cz at h;by_cases a:96<len l
 ·simp[a] at h
 ·refine⟨by omega,λr d=>?_⟩;simp only[yF a,rl] at h;cases b:Pt (λi r=>bif Fm r then true else ZO (λj=>bif (J (V l j) 0)==(J r 0) then (J (V l j) 1)==(J r 1) else false) i 0) l 0
  ·obtain⟨i,c⟩:=nb0 b r d;cases e:Fm r
   ·rfl
   ·rw[e] at c;cases c
  ·rw[b] at h;cases h
def Tn(l:rM):Prop:=∀i,i<l.length→∃p:Y,V l i=[.str p]∧p.length=128
theorem Z9{l:rM}(a:Oj (.sl VB) (.sl l))(h:pw (⟨l⟩:TV)=true):Tn l∧l.length≤64:=by
 unfold pw at h;cases b:Pt (λ_ r=>(len (fJ r 0)) != 128) l 0
 ·rw[show Pt (λ_ r=>(len (fJ r 0)) != 128) (⟨l⟩:TV).nQ 0=false from b] at h;have d:len l≤64:=of_decide_eq_true h;refine⟨λi c=>?_,by simp only[len] at d;omega⟩;obtain⟨_,a⟩:=jD a;have e:=nd0 (a (V l i) (oA c));have f:=nk4 b i c;refine⟨fJ (V l i) 0,e.symm, ?_⟩;have g:len (fJ (V l i) 0)=128:=by simpa using f
  simp only[len] at g;omega
 ·rw[show Pt (λ_ r=>(len (fJ r 0)) != 128) (⟨l⟩:TV).nQ 0=true from b] at h;cases h
theorem nmb{l:rM}(h:Tn l)(d:l.length≤64):pw (⟨l⟩:TV)=true:=by
 unfold pw;rw[nhO (λi a=>?_)]
 ·exact Tl (by simp only[len];omega)
 ·obtain⟨p,b,c⟩:=h i a;show (len (fJ (V l i) 0) != 128)=false;rw[b];show ((p.length:Int) != 128)=false;rw[c];rfl
theorem nvH(a b:Nat):l_ (a:Int) (b:Int)=((a / b:Nat):Int):=rfl
theorem nhV(a b:Nat):lZ (a:Int) (b:Int)=((a % b:Nat):Int):=rfl
theorem Ph(a:Nat):l_ (a:Int) 128=((a / 128:Nat):Int):=nvH a 128
theorem AZ(a:Nat):lZ (a:Int) 128=((a % 128:Nat):Int):=nhV a 128
def nBp(a:Int→α)(Z:rM)(c b:Int)(write:Bool):α:=let d:Int:=lI Z c (ZK (l_ b 128));let e:Bool:=decide (d<0);let f:Bool:=Bk true (idx d Z);let g:List DC:=V Z (lq d);bif decide (b<0) then a (-1) else bif lV e true (lV write f true) then bif bif e then true else bif write then !(yz g 3) else false then a (-1) else bif f then a (ZK ((ZK ((J g 2)*128))+(lZ b 128))) else kW else kW
def Ti(Z:rM)(b a:Int):Int:=lI Z b (ZK (l_ a 128))
def place(Z:rM)(b a:Int)(write:Bool):Int:=bif decide (a<0) then -1 else bif bif decide (Ti Z b a<0) then true else bif write then !(yz (V Z (lq (Ti Z b a))) 3) else false then -1 else ZK ((ZK ((J (V Z (lq (Ti Z b a))) 2)*128))+(lZ a 128))
theorem iM(Z:rM)(a b:Int):Ti Z a b<0∨∃i:Nat,i<Z.length∧Ti Z a b=(i:Int)∧J (V Z i) 0=a:=by
 unfold Ti lI;rcases yC (λ_ r=>bif (J r 0)==a then (J r 1)==(ZK (l_ b 128)) else false) Z 0 with ⟨h,_⟩ | ⟨i,c,d,e⟩
 ·exact .inl (by rw[h];decide)
 ·refine .inr ⟨i,c,by rw[d];simp, ?_⟩;have:=(bZ _ _).1 e;simpa using this.1
theorem nwN(a:Int→α)(Z:rM)(c b:Int)(write:Bool)(f:Oj (.sl UB) (.sl Z)):nBp kW a Z c b write=a (place Z c b write):=by
 obtain⟨m,_⟩:=jD f;unfold nBp place;refine cU rfl ?_;show (bif lV (decide (Ti Z c b<0)) true (lV write (Bk true (idx (Ti Z c b) Z)) true) then _ else kW)=_;rcases iM Z c b with h | ⟨i,g,j,_⟩
 ·have e:decide (Ti Z c b<0)=true:=Tl h;have k:∀x,lV true true x=true:=λx=>by cases x<;>rfl
  have e':decide (lI Z c (ZK (l_ b 128))<0)=true:=e;simp only[e,e',k,HI]
 ·have d:idx (Ti Z c b) Z=true:=by rw[j];exact uH g
  have l:idx (lI Z c (ZK (l_ b 128))) Z=true:=d;simp only[d,l,cd,CC,HI];exact cU rfl rfl
def iX(a:Bool→α)(m:TV)(gZ n:Int):α:=let b:Int:=ZK ((len m.nQ)*128);a (bif pw m then bif decide (0≤n) then bif decide (n≤b) then bif decide (0≤gZ) then decide (gZ≤ZK (b - n)) else false else false else false else false)
def within(m:TV)(gZ n:Int):Bool:=iX id m gZ n
theorem nAr(a:Bool→α)(m:TV)(gZ n:Int):iX a m gZ n=a (within m gZ n):=by rfl
def nwt(a:Bool→α)(m:TV)(gZ n:Int):α:=let b:Int:=ZK (128*(len m.nQ));a (bif pw m then bif decide (0≤n) then bif decide (0≤gZ) then bif decide (gZ≤b) then decide (n≤ZK (b - gZ)) else false else false else false else false)
theorem nfq(a:Bool→α)(m:TV)(gZ n:Int)(g:i_ TV.ct m.enc)(h:Oj .i (.int gZ))(b:Oj .i (.int n)):nwt a m gZ n=a (within m gZ n):=by
 have o:=ka b;have p:=ka h;unfold nwt within iX;refine congrArg a ?_;show (bif pw m then _ else false)=(bif pw m then _ else false);cases j:pw m
 ·rfl
 ·have q:=(Z9 (TV.O1 g) j).2;have k:ZK (128*(len m.nQ))=128*(m.nQ.length:Int):=by simp only[len];exact Ou
  have l:ZK ((len m.nQ)*128)=128*(m.nQ.length:Int):=by simp only[len];rw[Ou];omega
  simp only[k,l,HI];rw[Bool.eq_iff_iff];simp only[bZ,kQ];constructor
  ·rintro ⟨c,e,f,d⟩
   rw[Ou] at d;refine⟨c,by omega,e, ?_⟩;rw[Ou];omega
  ·rintro ⟨c,e,f,d⟩
   rw[Ou] at d;refine⟨c,f,by omega, ?_⟩;rw[Ou];omega
theorem gY{l:rM}{a n:Int}(d:Oj (.sl VB) (.sl l))(h:within (⟨l⟩:TV) a n=true):Tn l∧l.length≤64∧0≤n∧0≤a∧a+n≤128*l.length:=by
 have b:(bif pw (⟨l⟩:TV) then bif decide (0≤n) then bif decide (n≤ZK ((len l)*128)) then bif decide (0≤a) then decide (a≤ZK (ZK ((len l)*128) - n)) else false else false else false else false)=true:=h;simp only[bZ,kQ] at b;obtain⟨f,g,i,j,c⟩:=b;obtain⟨k,m⟩:=Z9 d f;have e:ZK ((len l)*128)=128*(l.length:Int):=by simp only[len];rw[Ou];omega
 rw[e] at i c;rw[Ou] at c;exact⟨k,m,g,j,by omega⟩
theorem npI{l:rM}{a n:Nat}(b:Tn l)(c:l.length≤64)(h:a+n≤128*l.length):within (⟨l⟩:TV) (a:Int) (n:Int)=true:=by
 have e:ZK ((len l)*128)=128*(l.length:Int):=by simp only[len];rw[Ou];omega
 have d:(bif pw (⟨l⟩:TV) then bif decide (0≤(n:Int)) then bif decide ((n:Int)≤ZK ((len l)*128)) then bif decide (0≤(a:Int)) then decide ((a:Int)≤ZK (ZK ((len l)*128) - (n:Int))) else false else false else false else false)=true:=by simp only[bZ,kQ];refine⟨nmb b c,by omega,by rw[e];omega,by omega, ?_⟩;rw[e,Ou];omega
 exact d
def yd(p:Y)(k:Nat)(s:Y):Y:=p.take k++(s.take (128 - k)++p.drop (k+min s.length (128 - k)))
def uX(l:rM)(a:Nat)(s:Y):rM:=l.set (a / 128) [.str (yd (fJ (V l (a / 128)) 0) (a % 128) s)]
def Wo:Nat→Nat→Y→rM→rM
 | 0,_,_,l=>l
 | m+1,a,s,l=>bif decide (0<s.length) then Wo m (a+min s.length (128 - a % 128)) (s.drop (min s.length (128 - a % 128))) (uX l a s) else l
theorem nos{p:Y}{k:Nat}{s:Y}(h:p.length=128)(a:k≤128):(yd p k s).length=128:=by simp only[yd,Qe,m8,my];omega
theorem Wm{l:rM}{a:Nat}{s:Y}(h:Tn l)(c:a / 128<l.length):Tn (uX l a s)∧(uX l a s).length=l.length:=by
 refine⟨λi b=>?_,by simp[uX]⟩;unfold uX at b ⊢;rw[List.length_set] at b;rw[nd3 l (a / 128) i _ c];by_cases d:i=a / 128
 ·rw[if_pos d];obtain⟨p,e,f⟩:=h (a / 128) c;refine⟨_,rfl, ?_⟩;rw[e];exact nos f (by omega)
 ·rw[if_neg d];exact h i b
theorem hsV:∀(m a:Nat) (s:Y) (l:rM),Tn l→a+s.length≤128*l.length→Tn (Wo m a s l)∧(Wo m a s l).length=l.length
 | 0,_,_,_,h,_=>⟨h,rfl⟩
 | m+1,a,s,l,h,ha=>by
  unfold Wo;by_cases c:0<s.length
  ·rw[Tl c,HI];have b:=Wm (a:=a) (s:=s) h (by omega);have d:=hsV m (a+min s.length (128 - a % 128)) (s.drop (min s.length (128 - a % 128))) (uX l a s) b.1 (by rw[b.2,my];omega);exact⟨d.1,d.2.trans b.2⟩
  ·rw[yF c,rl];exact⟨h,rfl⟩
def zi(a:TV→Bool→α)(i:Int→Y→rM→α)(b:Int)(c:Y)(d:rM):α:=let g:Bool:=Bk (Bk true (idx (ZK (l_ b 128)) d)) (inl (lq (ZK (l_ b 128))) d);let h:List DC:=V d (lq (ZK (l_ b 128)));let e:rM:=ofStr (fJ h 0);let f:Int:=MK c e (lq (lZ b 128));bif decide (0<len c) then bif g then bif Bk (Bk true ((fD e (lZ b 128)) && (decide (0<m_ e)))) (decide (lq (lZ b 128)≤m_ e)) then bif g then bif Bk true (fD c f) then i (ZK (b+f)) (qg c f) (nq d (lq (ZK (l_ b 128))) (CI h 0 [.str (toStr (vR c e (lq (lZ b 128))))])) else kW else kW else kW else kW else a (⟨d⟩:TV) true
def tX(a:TV→Bool→α)(N b:Nat):Int→Y→rM→α:=WS (λ_ _ _=>kW) (zi kW a) b
theorem nvZ(a:TV→Bool→α)(N b:Nat):tX kW a N (b+1)=zi kW a (tX kW a N b):=rfl
def cH(a:TV→Bool→α)(b:Int→Y→rM→α)(m:TV)(gZ:Int)(s:Y):α:=bif Bk true (zH m) then bif !(within m gZ (len s)) then a (cp m) false else b gZ s ((cp m).nQ) else kW
def nd5(a:TV→Bool→α)(N:Nat)(m:TV)(gZ:Int)(s:Y):α:=cH kW a (tX kW a N N) m gZ s
def jT(m:TV)(gZ:Int)(s:Y):Bool:=Of m.nQ
def Ga(m:TV)(gZ:Int)(s:Y):TV×Bool:=bif !(within m gZ (len s)) then (m,false) else (⟨Wo s.length gZ.toNat s m.nQ⟩,true)
theorem nv7(a b:rM):toStr (a++b)=toStr a++toStr b:=by simp[toStr]
theorem nzE(s:Y)(n:Nat):(ofStr s).take n=ofStr (s.take n):=by simp[ofStr,List.map_take]
theorem nn2(s:Y)(n:Nat):(ofStr s).drop n=ofStr (s.drop n):=by simp[ofStr,List.map_drop]
theorem nC4{p s:Y}{k:Nat}(h:p.length=128):toStr (vR s (ofStr p) k)=yd p k s:=by unfold vR yd;rw[tz,h,nv7,nv7,nzE,nn2,Va,Va,Va]
theorem nh6(b:TV→Bool→α)(m:TV)(gZ:Int)(s:Y)(i:i_ TV.ct m.enc)(j:jT m gZ s=true):∃N,nd5 kW b N m gZ s=b (Ga m gZ s).1 (Ga m gZ s).2:=by
 have d:Oj (.sl VB) (.sl m.nQ):=TV.O1 i;have k:zH m=true:=j;refine⟨s.length+1, ?_⟩;unfold nd5 cH Ga;rw[show cp m=m from rfl];simp only[k,cd,HI];cases o:within m gZ (len s)
 ·rfl
 ·obtain⟨r,t,M,u,v⟩:=gY d o;obtain⟨a,rfl⟩:=nH u;simp only[mc,rl,lN];have key:∀(q n a:Nat) (s:Y) (l:rM),s.length≤q→q<n→Tn l→l.length≤64→a+s.length≤128*l.length→tX kW b (s.length+1) n (a:Int) s l=b (⟨Wo q a s l⟩:TV) true:=by
   intro q
   induction q with
   | zero=>
    intro n a s l w x e g y;obtain⟨n,rfl⟩:=O4 n;have:s=[]:=pa.1 (by omega);subst this;rw[nvZ];simp only[zi,show decide (0<len ([]:Y))=false by decide,rl,Wo]
   | succ q z=>
    intro n a s l w x e g y;obtain⟨n,rfl⟩:=O4 n;rw[nvZ];by_cases A:0<s.length
    ·have B:decide (0<len s)=true:=Tl (by simp only[len];omega);have c:a / 128<l.length:=by omega
     obtain⟨p,h,f⟩:=e (a / 128) c;have C:ZK (((a / 128:Nat):Int))=((a / 128:Nat):Int):=Ou;have D:MK s (ofStr p) (a % 128)=((min s.length (128 - a % 128):Nat):Int):=by unfold MK;rw[tz,f]
     have E:ZK ((a:Int)+((min s.length (128 - a % 128):Nat):Int))=((a+min s.length (128 - a % 128):Nat):Int):=by rw[Ou];omega
     have F:fD (ofStr p) (((a % 128:Nat)):Int)=true:=by simp only[fD,tz,f,gF,kQ];omega
     have G:decide (0<m_ (ofStr p))=true:=Tl (by rw[tz];omega);have H:decide (a % 128≤m_ (ofStr p))=true:=Tl (by rw[tz];omega);have I:fD s ((min s.length (128 - a % 128):Nat):Int)=true:=by simp only[fD,gF,kQ];omega
     have K:qg s ((min s.length (128 - a % 128):Nat):Int)=s.drop (min s.length (128 - a % 128)):=by simp[qg]
     have st:=Wm (a:=a) (s:=s) e c;have this:=z n (a+min s.length (128 - a % 128)) (s.drop (min s.length (128 - a % 128))) (uX l a s) (by rw[my];omega) (by omega) st.1 (by rw[st.2];exact g) (by rw[st.2,my];omega);have L:uX l a s=l.set (a / 128) [.str (yd p (a % 128) s)]:=by unfold uX;rw[h];rfl
     unfold Wo;rw[Tl A,HI];rw[L] at this ⊢;simp only[zi,B,Ph,AZ,C,uH c,SG c,lN,h,qD,D,E,F,G,H,I,K,nC4 f,wc,q5,cd,TK,HI];exact this
    ·have:s=[]:=pa.1 (by omega);subst this;simp only[zi,show decide (0<len ([]:Y))=false by decide,rl];rfl
  exact key s.length (s.length+1) a s m.nQ (pf _) (by omega) r t (by simp only[len] at v;omega)
theorem nlP{l:rM}(h:Tn l)(d:l.length≤64):Oj (.sl VB) (.sl l):=by
 simp only[Oj];refine⟨l,rfl,by rw[EO];omega,λr b=>?_⟩;obtain⟨i,a,rfl⟩:=ra b;obtain⟨p,c,f⟩:=h i a;have e:l[i]=V l i:=by simp[V,a]
 rw[e,c];exact Qk (by simp only[Oj];exact⟨p,rfl,by rw[EO];omega⟩) YF
theorem Ua{l:rM}{a:Int}{s:Y}(h:Tn l)(b:l.length≤64):Tn (Ga (⟨l⟩:TV) a s).1.nQ∧(Ga (⟨l⟩:TV) a s).1.nQ.length=l.length:=by
 unfold Ga;cases c:within (⟨l⟩:TV) a (len s)
 ·exact⟨h,rfl⟩
 ·obtain⟨_,_,e,f,d⟩:=gY (nlP h b) c;exact hsV s.length a.toNat s l h (by simp only[len] at d;omega)
def TY(Q:Nat→Prop):rM→Nat→Prop
 | [],n=>n=0
 | r::rs,n=>∃p k:Nat,r=[.int (p:Int),.int (k:Int)]∧1≤k∧k≤n∧p % 128+k≤128∧Q (p / 128)∧TY Q rs (n - k)
def k9(Z:rM)(b:Int)(write:Bool)(c:rM):Nat→Int→Int→rM→rM×Bool
 | 0,_,_,o=>(o,true)
 | m+1,a,n,o=>bif decide (0<n) then
   bif bif decide (place Z b a write<0) then true else !(within (⟨c⟩:TV) (place Z b a write) (kh n (ZK (128 - lZ a 128)))) then ([],false)
   else bif bif decide (ZK (a+kh n (ZK (128 - lZ a 128)))<0) then decide (0<ZK (n - kh n (ZK (128 - lZ a 128)))) else false then ([],false)
   else k9 Z b write c m (ZK (a+kh n (ZK (128 - lZ a 128)))) (ZK (n - kh n (ZK (128 - lZ a 128)))) (o++[[.int (place Z b a write),.int (kh n (ZK (128 - lZ a 128)))]])
  else (o,true)
theorem aK{a n:Int}(b:0≤a)(c:0<n)(d:n≤4096):1≤kh n (ZK (128 - lZ a 128))∧kh n (ZK (128 - lZ a 128))≤n∧lZ a 128+kh n (ZK (128 - lZ a 128))≤128∧ZK (n - kh n (ZK (128 - lZ a 128)))=n - kh n (ZK (128 - lZ a 128)):=by
 have r:=Ag (x:=a) (m:=128) b (by omega);rw[Ou (n:=128 - lZ a 128)];unfold kh;split
 ·refine⟨by omega,by omega,by omega,Ou⟩
 ·refine⟨by omega,by omega,by omega,Ou⟩
def Zi(Z:rM)(m:TV)(a gZ n:Int)(write:Bool):rM×Bool:=bif bif !(cz Z) then true else bif !(pw m) then true else !(nn n 0 4096) then ([],false) else bif n==0 then ([],true) else bif decide (gZ<0) then ([],false) else k9 Z a write m.nQ (n.toNat+1) gZ n []
def gU(a:rM→Bool→α)(Z:rM)(b:Int)(write:Bool)(i:rM)(j:Int→Int→rM→α)(d c:Int)(f:rM):α:=let e:Int:=kh c (ZK (128 - (lZ d 128)));let g:Int:=ZK (d+e);let h:Int:=ZK (c - e);bif decide (0<c) then bif bif decide (place Z b d write<0) then true else !(within (⟨i⟩:TV) (place Z b d write) e) then a [] false else bif Bk true (Pf 16 f ([[.int (place Z b d write),.int e]])) then bif bif decide (g<0) then decide (0<h) else false then a [] false else j g h (f++([[.int (place Z b d write),.int e]])) else kW else a f true
def UN(a:rM→Bool→α)(N:Nat)(Z:rM)(b:Int)(write:Bool)(c:rM)(d:Nat):Int→Int→rM→α:=WS (λ_ _ _=>kW) (gU kW a Z b write c) d
theorem niw(a:rM→Bool→α)(N:Nat)(Z:rM)(b:Int)(write:Bool)(c:rM)(d:Nat):UN kW a N Z b write c (d+1)=gU kW a Z b write c (UN kW a N Z b write c d):=rfl
def XW(kW:α)(a:rM→Bool→α)(c:rM→Int→Int→rM→α)(Z:rM)(m:TV)(b gZ n:Int)(write:Bool):α:=bif bif !(cz Z) then true else bif !(pw m) then true else !(nn n 0 4096) then a [] false else bif n==0 then a [] true else bif decide (gZ<0) then a [] false else c m.nQ gZ n []
def nu8(a:rM→Bool→α)(N:Nat)(Z:rM)(m:TV)(b gZ n:Int)(write:Bool):α:=XW kW a (λc=>UN kW a N Z b write c N) Z m b gZ n write
theorem nuI(b:rM→Bool→α)(Z:rM)(m:TV)(c gZ n:Int)(write:Bool)(t:Oj .i (.int gZ)):∃N,nu8 kW b N Z m c gZ n write=b (Zi Z m c gZ n write).1 (Zi Z m c gZ n write).2:=by
 refine⟨n.toNat+2, ?_⟩;unfold nu8 XW Zi;refine oN (K:=λr:rM×Bool=>b r.1 r.2) (λ_=>rfl) (λg=>oN (K:=λr:rM×Bool=>b r.1 r.2) (λ_=>rfl) (λE=>oN (K:=λr:rM×Bool=>b r.1 r.2) (λ_=>rfl) (λk=>?_)));have l:0≤n∧n≤4096:=by
  cases s:nn n 0 4096
  ·rw[s] at g;cases h:cz Z<;>cases j:pw m<;>rw[h,j] at g<;>cases g
  ·exact Wx.1 s
 have k:=of_decide_eq_false k;have u:=ka t;have key:∀(q e:Nat) (a n:Int) (o:rM),n<q→q≤e→0≤n→n≤4096→a≤9223372036854775807→(0<n→0≤a)→o.length+n.toNat≤5000→∀M,UN kW b M Z c write m.nQ e a n o=b (k9 Z c write m.nQ q a n o).1 (k9 Z c write m.nQ q a n o).2:=by
  intro q
  induction q with
  | zero=>intro e a n o h j v;omega
  | succ q w=>
   intro e a n o h j v y F z G M;obtain⟨e,rfl⟩:=O4 e;rw[niw];by_cases f:0<n
   ·obtain⟨H,I,L,A⟩:=aK (z f) f y;have B:∀x:List DC,Pf 16 o [x]=true:=λx=>Q0 (by simp only[di,l9];omega) (by omega);unfold k9;simp only[gU,Tl f,B,cd,HI];refine oN (K:=λr:rM×Bool=>b r.1 r.2) (λ_=>rfl) (λ_=>oN (K:=λr:rM×Bool=>b r.1 r.2) (λ_=>rfl) (λd=>?_));rw[A] at d ⊢;refine w e _ _ _ (by omega) (by omega) (by omega) (by omega) (xA _) (λC=>?_) (by simp only[Qe,di,l9];omega) M;rw[Tl C] at d;have d:decide (ZK (a+kh n (ZK (128 - lZ a 128)))<0)=false:=by
     cases D:decide (ZK (a+kh n (ZK (128 - lZ a 128)))<0)
     ·rfl
     ·rw[D] at d;cases d
    have:=of_decide_eq_false d;omega
   ·unfold k9;simp only[gU,yF f,rl]
 exact key (n.toNat+1) (n.toNat+2) gZ n [] (by omega) (by omega) l.1 l.2 u.2 (λ_=>by omega) (by simp only[l9];omega) _
theorem TY.len{Q:Nat→Prop} :∀ {l:rM} {n:Nat},TY Q l n→l.length≤n
 | [],_,_=>m7 _
 | r::rs,n,⟨p,k,_,h1,h2,_,_,h3⟩=>by have:=h3.len;simp only[di];omega
theorem TY.imp{Q a:Nat→Prop}(h:∀i,Q i→a i):∀ {l:rM} {n:Nat},TY Q l n→TY a l n
 | [],_,h0=>h0
 | r::rs,n,⟨p,k,e,h1,h2,h3,h4,h5⟩=>⟨p,k,e,h1,h2,h3,h _ h4,h5.imp h⟩
theorem ncL{Z:rM}(e:cz Z=true){gp a:Int}{write:Bool}(f:0≤a):place Z gp a write<0∨∃i:Nat,i<Z.length∧J (V Z i) 0=gp∧0≤J (V Z i) 2∧J (V Z i) 2≤63∧
  place Z gp a write=J (V Z i) 2*128+lZ a 128:=by
 unfold place;rw[yF (show ¬a<0 by omega),rl];rcases iM Z gp a with h | ⟨i,d,g,j⟩
 ·rw[Tl h];exact .inl (show (-1:Int)<0 by decide)
 ·rw[g,lN];cases (bif decide ((i:Int)<0) then true else bif write then !(yz (V Z i) 3) else false)
  ·have c:=(VP e).2 (V Z i) (oA d);have b:nn (J (V Z i) 2) 0 63=true:=by
    unfold Fm at c;cases k:nn (J (V Z i) 2) 0 63
    ·rw[k] at c;revert c;cases nn (J (V Z i) 0) 0 7<;>cases nn (J (V Z i) 1) 0 1023<;>simp
    ·rfl
   have b:=Wx.1 b;have r:=Ag (x:=a) (m:=128) f (by omega);refine .inr ⟨i,d,j,b.1,b.2, ?_⟩;rw[rl,Ou (n:=J (V Z i) 2*128),Ou]
  ·exact .inl (show (-1:Int)<0 by decide)
theorem ncK{Z f:rM}(j:cz Z=true){gp:Int}{write:Bool} :∀(q:Nat) (a n:Int) (o:rM),n<q→0≤n→n≤4096→(0<n→0≤a)→(k9 Z gp write f q a n o).2=true→
  ∃rs,(k9 Z gp write f q a n o).1=o++rs∧TY (λp=>∃i:Nat,i<Z.length∧J (V Z i) 0=gp∧J (V Z i) 2=(p:Int)) rs n.toNat
 | 0,a,n,o,h1,h2,_,_,_=>by omega
 | q+1,a,n,o,h1,h2,h3,h4,h5=>by
  unfold k9 at h5 ⊢;by_cases d:0<n
  ·rw[Tl d,HI] at h5 ⊢;have g:=h4 d;obtain⟨z,A,B,l⟩:=aK g d h3;cases e:(bif decide (place Z gp a write<0) then true else !(within (⟨f⟩:TV) (place Z gp a write) (kh n (ZK (128 - lZ a 128)))))
   ·rw[e,rl] at h5;rw[rl];cases b:(bif decide (ZK (a+kh n (ZK (128 - lZ a 128)))<0) then decide (0<ZK (n - kh n (ZK (128 - lZ a 128)))) else false)
    ·rw[b,rl] at h5;rw[rl];rw[l] at h5 b ⊢;obtain⟨rs,s,t⟩:=ncK j q _ _ _ (by omega) (by omega) (by omega) (λu=>by
      rw[Tl u] at b;have b:decide (ZK (a+kh n (ZK (128 - lZ a 128)))<0)=false:=by
       cases v:decide (ZK (a+kh n (ZK (128 - lZ a 128)))<0)
       ·rfl
       ·rw[v] at b;cases b
      have:=of_decide_eq_false b;omega) h5
     refine⟨[.int (place Z gp a write),.int (kh n (ZK (128 - lZ a 128)))]::rs,by rw[s,nF];rfl, ?_⟩;rcases ncL j (gp:=gp) (write:=write) g with h | ⟨i,w,y,C,D,k⟩
     ·rw[Tl h] at e;cases e
     ·have r:=Ag (x:=a) (m:=128) g (by omega);have c:(place Z gp a write).toNat / 128=(J (V Z i) 2).toNat∧(place Z gp a write).toNat % 128=(lZ a 128).toNat:=by rw[k];omega
      refine⟨(place Z gp a write).toNat,(kh n (ZK (128 - lZ a 128))).toNat, ?_,by omega,by omega,by rw[c.2];omega,⟨i,w,y,by rw[c.1];omega⟩, ?_⟩
      ·rw[pv (by rw[k];omega),pv (by omega)]
      ·have:(n - kh n (ZK (128 - lZ a 128))).toNat=n.toNat - (kh n (ZK (128 - lZ a 128))).toNat:=by omega
       rw[←this];exact t
    ·rw[b] at h5;cases h5
   ·rw[e] at h5;cases h5
  ·rw[yF d,rl] at h5 ⊢;refine⟨[],by simp, ?_⟩;show n.toNat=0;omega
theorem nqL{Z:rM}{m:TV}{a gZ n:Int}{write:Bool}(g:Oj (.sl VB) (.sl m.nQ))(h:(Zi Z m a gZ n write).2=true):
  Tn m.nQ∧m.nQ.length≤64∧TY (λp=>∃i:Nat,i<Z.length∧J (V Z i) 0=a∧J (V Z i) 2=(p:Int)) (Zi Z m a gZ n write).1 n.toNat∧n≤4096:=by
 unfold Zi at h ⊢;cases c:cz Z
 ·rw[c] at h;cases h
 cases d:pw m
 ·rw[c,d] at h;cases h
 cases b:nn n 0 4096
 ·rw[c,d,b] at h;cases h
 have b:=Wx.1 b;obtain⟨j,k⟩:=Z9 g d;rw[c,d,show nn n 0 4096=true from Wx.2 b] at h;simp only[mc,rl] at h ⊢;refine⟨j,k, ?_,b.2⟩;by_cases e:n=0
 ·subst e;exact rfl
 ·rw[show (n==0)=false by simpa using e,rl] at h ⊢;by_cases f:gZ<0
  ·rw[Tl f] at h;cases h
  ·rw[yF f,rl] at h ⊢;obtain⟨rs,l,o⟩:=ncK c (n.toNat+1) gZ n [] (by omega) b.1 b.2 (λ_=>by omega) h;rw[l];exact o
theorem Mr{Z:rM}{m:TV}{e gZ n:Int}{write:Bool}(f:Oj (.sl VB) (.sl m.nQ))(h:(Zi Z m e gZ n write).2=true):
  Tn m.nQ∧m.nQ.length≤64∧TY (λ_=>True) (Zi Z m e gZ n write).1 n.toNat∧(Zi Z m e gZ n write).1.length≤5000:=by
 obtain⟨a,b,c,d⟩:=nqL f h;have:=c.len;exact⟨a,b,c.imp (λ_ _=>trivial),by omega⟩
def nD:rM→Y→rM→rM
 | [],_,l=>l
 | r::rs,s,l=>nD rs (s.drop (lq (J r 1))) (Ga (⟨l⟩:TV) (J r 0) (s.take (lq (J r 1)))).1.nQ
def Ut(a:TV→Bool→α)(x:Int)(c:rM)(g:Y→Int→rM→α)(d:Y)(b:Int)(e:rM):α:=let f:Y:=Xg d (J (V c (lq b)) 1);bif decide (b<x) then bif Bk (Bk true (idx b c)) (inl (lq b) c) then bif Bk (Bk true (Oo d (J (V c (lq b)) 1))) (jT (⟨e⟩:TV) (J (V c (lq b)) 0) f) then bif Bk true (fD d (J (V c (lq b)) 1)) then g (qg d (J (V c (lq b)) 1)) (ZK (b+1)) (((Ga (⟨e⟩:TV) (J (V c (lq b)) 0) f).1).nQ) else kW else kW else kW else a (⟨e⟩:TV) true
def jx(a:TV→Bool→α)(N:Nat)(x:Int)(b:rM)(c:Nat):Y→Int→rM→α:=WS (λ_ _ _=>kW) (Ut kW a x b) c
theorem nlf(a:TV→Bool→α)(N:Nat)(x:Int)(b:rM)(c:Nat):jx kW a N x b (c+1)=Ut kW a x b (jx kW a N x b c):=rfl
def xE(a:TV→Bool→α)(d:Int→rM→Y→Int→rM→α)(Z:rM)(m:TV)(b gZ:Int)(s:Y)(write:Bool):α:=let c:rM×Bool:=Zi Z m b gZ (len s) write;bif Bk true (zH m) then bif !c.2 then a (cp m) false else d (len c.1) c.1 s 0 ((cp m).nQ) else kW
def naO(a:TV→Bool→α)(N:Nat)(Z:rM)(m:TV)(b gZ:Int)(s:Y)(write:Bool):α:=xE kW a (λx c=>jx kW a N x c N) Z m b gZ s write
def QK(Z:rM)(m:TV)(a gZ:Int)(s:Y)(write:Bool):Bool:=Of m.nQ
def put(Z:rM)(m:TV)(a gZ:Int)(s:Y)(write:Bool):TV×Bool:=bif !(Zi Z m a gZ (len s) write).2 then (m,false) else (⟨nD (Zi Z m a gZ (len s) write).1 s m.nQ⟩,true)
theorem flI(c:TV→Bool→α)(Z:rM)(m:TV)(d gZ:Int)(s:Y)(write:Bool)(v:i_ TV.ct m.enc)(w:Oj .str (.str s))(x:QK Z m d gZ s write=true):∃N,naO kW c N Z m d gZ s write=c (put Z m d gZ s write).1 (put Z m d gZ s write).2:=by
 have f:Oj (.sl VB) (.sl m.nQ):=TV.O1 v;have y:zH m=true:=x;have U:=jU w;refine⟨(Zi Z m d gZ (len s) write).1.length+1, ?_⟩;unfold naO xE put;rw[show cp m=m from rfl];simp only[y,cd,HI];cases z:(Zi Z m d gZ (len s) write).2
 ·rfl
 ·obtain⟨A,B,g⟩:=Mr f z;simp only[mc,rl];generalize (Zi Z m d gZ (len s) write).1=R at g ⊢;have key:∀(q n i:Nat) (s:Y) (l:rM),i+q=R.length→q<n→TY (λ_=>True) (R.drop i) s.length→Tn l→l.length≤64→R.length≤5000→
    jx kW c (R.length+1) (len R) R n s (i:Int) l=c (⟨nD (R.drop i) s l⟩:TV) true:=by
   intro q
   induction q with
   | zero=>
    intro n i s l C D j r o t;obtain⟨n,rfl⟩:=O4 n;rw[nlf,r8 (by omega)];have E:decide ((i:Int)<len R)=false:=yF (by simp only[len];omega);simp only[Ut,E,rl,nD]
   | succ q F=>
    intro n i s l C D j r o t;obtain⟨n,rfl⟩:=O4 n;have e:i<R.length:=by omega
    have G:R[i]=V R i:=by simp[V,e]
    rw[oS e,G] at j ⊢;obtain⟨p,k,H,W,X,k3,_,I⟩:=j;rw[nlf];have K:ZK ((i:Int)+1)=((i+1:Nat):Int):=by rw[Ou];omega
    have L:Oo s (k:Int)=true:=by simp only[Oo,gF,kQ];omega
    have M:fD s (k:Int)=true:=by simp only[fD,gF,kQ];omega
    have O:Xg s (k:Int)=s.take k:=by simp[Xg]
    have P:qg s (k:Int)=s.drop k:=by simp[qg]
    have Q:∀a b,jT (⟨l⟩:TV) a b=true:=λa b=>by unfold jT Of;exact Tl (by show l.length≤16777216;omega)
    have S:J [DC.int (p:Int),DC.int (k:Int)] 0=(p:Int):=rfl;have T:J [DC.int (p:Int),DC.int (k:Int)] 1=(k:Int):=rfl;have u:=Ua (a:=(p:Int)) (s:=s.take k) r o;have this:=F n (i+1) (s.drop k) (Ga (⟨l⟩:TV) (p:Int) (s.take k)).1.nQ (by omega) (by omega) (by rw[my];exact I) u.1 (by rw[u.2];exact o) t;simp only[Ut,T9 e,uH e,SG e,lN,H,S,T,L,M,O,P,Q,K,cd,TK,HI,nD];exact this
  exact key R.length (R.length+1) 0 s m.nQ (by omega) (by omega) (by have h:=g.1;rw[show (len s).toNat=s.length by simp[len]] at h;exact h) A B g.2
def nCh(a:TV→Bool→α)(Z:rM)(m:TV)(b gZ:Int)(s:Y):α:=let c:TV×Bool:=put Z m b gZ s true;bif Bk true (QK Z m b gZ s true) then a c.1 c.2 else kW
def zm(Z:rM)(m:TV)(a gZ:Int)(s:Y):Bool:=Of m.nQ
def Y2(Z:rM)(m:TV)(a gZ:Int)(s:Y):TV×Bool:=put Z m a gZ s true
theorem nvv(a:TV→Bool→α)(Z:rM)(m:TV)(b gZ:Int)(s:Y)(c:zm Z m b gZ s=true):nCh kW a Z m b gZ s=a (Y2 Z m b gZ s).1 (Y2 Z m b gZ s).2:=by have h:QK Z m b gZ s true=true:=c;unfold nCh Y2;simp only[h,cd,HI]
def Ue(a:TV→α)(c:Int)(d:Int→rM→α)(k:Int)(b:rM):α:=bif bif decide (k<c) then decide (c≤64) else false then bif Bk (Bk true (ie 128 0)) (Pf 16 b ([[.str (Vu 128 0)]])) then d (ZK (k+1)) (b++([[.str (Vu 128 0)]])) else kW else a (⟨b⟩:TV)
def Yl(a:TV→α)(N:Nat)(b:Int)(c:Nat):Int→rM→α:=WS (λ_ _=>kW) (Ue kW a b) c
theorem Qy(a:TV→α)(N:Nat)(b:Int)(c:Nat):Yl kW a N b (c+1)=Ue kW a b (Yl kW a N b c):=rfl
def dF(kW:α)(a:TV→α)(b:Int→rM→α)(c:Int):α:=b 0 []
def nqP(a:TV→α)(N:Nat)(b:Int):α:=dF kW a (Yl kW a N b N) b
def CM:List DC:=[.str (Vu 128 0)]
def C_(a:Int):TV:=⟨bif decide (a≤64) then Wc (λ_ o=>o++[CM]) a.toNat 0 [] else []⟩
theorem ns5(a:TV→α)(b:Int):∃N,nqP kW a N b=a (C_ b):=by
 refine⟨66, ?_⟩;unfold nqP dF C_;by_cases c:b≤64
 ·rw[Tl c,HI];refine Xb b.toNat (λn i o=>Yl kW a 66 b n i o) (λ_ o=>o++[CM]) (λo=>a (⟨o⟩:TV)) (λi o=>o.length≤i) ?_ ?_ ?_ 66 [] (by simp) (by omega)
  ·intro i o e d;simp only[Qe,di,l9];omega
  ·intro n i o e d;show Yl kW a 66 b (n+1) (i:Int) o=_;rw[Qy];have f:∀x:List DC,Pf 16 o [x]=true:=λx=>Q0 (by simp only[di,l9];omega) (by omega);have g:ie 128 0=true:=rfl;simp only[Ue,Tl (show (i:Int)<b by omega),Tl c,f,g,cd,TK,HI,Ou (show -9223372036854775808≤(i:Int)+1 by omega) (show (i:Int)+1≤9223372036854775807 by omega)];rfl
  ·intro n o d;show Yl kW a 66 b (n+1) ((b.toNat:Nat):Int) o=_;rw[Qy];simp only[Ue,yF (show ¬((b.toNat:Nat):Int)<b by omega),rl]
 ·rw[yF c,rl];show Yl kW a 66 b 66 0 []=_;rw[Qy];have h:(bif decide ((0:Int)<b) then decide (b≤64) else false)=false:=by rw[yF c];cases decide ((0:Int)<b)<;>rfl
  simp only[Ue,h,rl]
theorem nms{l:rM}(d:Tn l)(e:l.length≤64){a n:Int} :within (⟨l⟩:TV) a n=true↔0≤n∧0≤a∧a+n≤128*l.length:=by
 constructor
 ·intro h;obtain⟨_,_,b,c,f⟩:=gY (nlP d e) h;exact⟨b,c,f⟩
 ·rintro ⟨b,c,f⟩
  obtain⟨n,rfl⟩:=nH b;obtain⟨a,rfl⟩:=nH c;exact npI d e (by omega)
theorem nj7{l:rM}(a:Tn l)(b:l.length≤64){p o k:Int}(c:0≤p)(d:0≤o)(e:1≤k)(f:o+k≤128):within (⟨l⟩:TV) (p*128+o) k=within (⟨l⟩:TV) (p*128) 128:=by rw[Bool.eq_iff_iff,nms a b,nms a b];omega
def F2(a b:Int)(write:Bool)(r:List DC):Bool:=bif (J r 0)==a then bif (J r 1)==b then bif yz r 3 then true else !write else false else false
def qN(Z:rM)(a b:Int)(write:Bool):Int:=findIdx (λ_ r=>F2 a b write r) Z 0
def yU(a:Int→α)(Z:rM)(b g:Int)(write:Bool)(h:Int→α)(k:Int):α:=let c:Bool:=(J (V Z (lq k)) 0)==b;let d:Bool:=(J (V Z (lq k)) 1)==g;let e:Bool:=Bk (Bk true (idx k Z)) (idx k Z);let f:Bool:=Bk e (idx k Z);bif decide (k<len Z) then bif lV c (lV d (lV (yz (V Z (lq k)) 3) f f) e) (Bk true (idx k Z)) then bif bif c then bif d then bif yz (V Z (lq k)) 3 then true else !write else false else false then bif Bk true (idx k Z) then a (J (V Z (lq k)) 2) else kW else h (ZK (k+1)) else kW else a (-1)
def jQ(a:Int→α)(N:Nat)(Z:rM)(b c:Int)(write:Bool)(d:Nat):Int→α:=WS (λ_=>kW) (yU kW a Z b c write) d
theorem nir(a:Int→α)(N:Nat)(Z:rM)(b c:Int)(write:Bool)(d:Nat):jQ kW a N Z b c write (d+1)=yU kW a Z b c write (jQ kW a N Z b c write d):=rfl
def QU(kW:α)(a c:Int→α)(Z:rM)(b d:Int)(write:Bool):α:=c 0
def ncA(a:Int→α)(N:Nat)(Z:rM)(b c:Int)(write:Bool):α:=QU kW a (jQ kW a N Z b c write N) Z b c write
def jI(Z:rM)(a b:Int)(write:Bool):Int:=bif decide (qN Z a b write<0) then -1 else J (V Z (lq (qN Z a b write))) 2
theorem ng_(a:Int→α)(Z:rM)(b d:Int)(write:Bool)(e:Oj (.sl UB) (.sl Z)):∃N,ncA kW a N Z b d write=a (jI Z b d write):=by
 obtain⟨f,_⟩:=jD e;refine⟨Z.length+1, ?_⟩;unfold ncA QU jI;refine (P6 Z (jQ kW a (Z.length+1) Z b d write) (λi r c=>bif F2 b d write r then a (bif decide ((i:Int)<0) then -1 else J (V Z (lq (i:Int))) 2) else c) (a (-1)) ?_ ?_).trans ?_
 ·intro n i h;rw[nir];have g:decide ((i:Int)<0)=false:=yF (by omega);simp only[yU,T9 h,uH h,Q8 h f,lN,cd,TK,CC,HI,g,rl];rfl
 ·intro n;rw[nir];simp only[yU,hO,rl]
 ·exact om (λ_ r=>F2 b d write r) (λx=>a (bif decide (x<0) then -1 else J (V Z (lq x)) 2)) Z 0
theorem naV{l:rM}(h:cz l=true){i j:Nat}(d:i<l.length)(e:j<l.length)(b:J (V l i) 0=J (V l j) 0)(c:J (V l i) 1=J (V l j) 1):i=j:=by
 have key:∀i j:Nat,i<l.length→j<i→J (V l j) 0=J (V l i) 0→J (V l j) 1=J (V l i) 1→False:=by
  intro i j d e b c;unfold cz at h;by_cases f:96<len l
  ·simp[f] at h
  simp only[yF f,rl] at h;cases g:Pt (λi r=>bif Fm r then true else ZO (λj=>bif (J (V l j) 0)==(J r 0) then (J (V l j) 1)==(J r 1) else false) i 0) l 0
  ·have a:=nk4 g i d;rw[mg] at a;cases k:Fm (V l i)
   ·rw[k,rl] at a;have m:=nys a j (m7 _) (by omega);rw[b,c] at m;simp at m
   ·rw[k] at a;cases a
  ·rw[g] at h;cases h
 rcases Nat.lt_trichotomy i j with a | a | a
 ·exact (key j i e a b c).elim
 ·exact a
 ·exact (key i j d a b.symm c.symm).elim
theorem nBZ{l:rM}(s:cz l=true){d a:Int}{w:Bool}(I:0≤a):place l d a w=bif decide (jI l d (ZK (l_ a 128)) w<0) then -1 else ZK (ZK (jI l d (ZK (l_ a 128)) w*128)+lZ a 128):=by
 unfold place;rw[yF (show ¬a<0 by omega),rl];have g:∀r,F2 d (ZK (l_ a 128)) w r=true↔(J r 0=d∧J r 1=ZK (l_ a 128))∧(yz r 3=true∨w=false):=by
  intro r;unfold F2;by_cases k:J r 0=d
  ·by_cases t:J r 1=ZK (l_ a 128)
   ·cases yz r 3<;>cases w<;>simp[k,t]
   ·simp[k,t]
  ·simp[k]
 have y:∀i,0≤J (V l i) 2∨¬i<l.length:=by
  intro i;by_cases u:i<l.length
  ·have m:=(VP s).2 (V l i) (oA u);unfold Fm at m;cases e:nn (J (V l i) 2) 0 63
   ·rw[e] at m;revert m;cases nn (J (V l i) 0) 0 7<;>cases nn (J (V l i) 1) 0 1023<;>simp
   ·exact .inl (Wx.1 e).1
  ·exact .inr u
 have v:=yC (λ_ r=>F2 d (ZK (l_ a 128)) w r) l 0;have z:=yC (λ_ r=>bif (J r 0)==d then (J r 1)==(ZK (l_ a 128)) else false) l 0;have A:Ti l d a=findIdx (λ_ r=>bif (J r 0)==d then (J r 1)==(ZK (l_ a 128)) else false) l 0:=rfl;unfold jI qN;rw[A];rcases z with ⟨B,C⟩ | ⟨i,x,D,E⟩
 ·rw[B];rcases v with ⟨n,_⟩ | ⟨j,o,_,p⟩
  ·rw[n];rfl
  ·have f:=C j o;have b:=((g _).1 p).1;simp[b.1,b.2] at f
 ·rw[D];have c:J (V l i) 0=d∧J (V l i) 1=ZK (l_ a 128):=by simpa [bZ] using E
  simp only[mg,lN,yF (show ¬((i:Int)<0) by omega),rl];rcases v with ⟨n,F⟩ | ⟨j,o,G,p⟩
  ·rw[n];have f:=F i x;have b:¬(yz (V l i) 3=true∨w=false):=λh=>by rw[(g _).2 ⟨c,h⟩] at f;cases f
   rw[not_or] at b;cases w
   ·exact absurd rfl b.2
   ·simp only[b.1,HI,Bool.not_eq_true _ ▸ (by simpa using b.1:yz (V l i) 3=false),Bool.not_false];rfl
  ·have b:=(g _).1 p;have q:i=j:=naV s x o (c.1.trans b.1.1.symm) (c.2.trans b.1.2.symm);subst q;rw[G];simp only[mg,lN,yF (show ¬((i:Int)<0) by omega),rl];have K:=(y i).resolve_right (by omega);rw[yF (show ¬J (V l i) 2<0 by omega),rl];have H:(bif w then !(yz (V l i) 3) else false)=false:=by
    rcases b.2 with e | e
    ·rw[e];cases w<;>rfl
    ·rw[e];rfl
   rw[H,rl]
theorem ni_{l:rM}(c:cz l=true)(d v:Int)(w:Bool):jI l d v w= -1∨(0≤jI l d v w∧jI l d v w≤63):=by
 unfold jI qN;rcases yC (λ_ r=>F2 d v w r) l 0 with ⟨e,_⟩ | ⟨j,f,g,h⟩
 ·rw[e];exact .inl rfl
 ·rw[g];simp only[mg,lN,yF (show ¬((j:Int)<0) by omega),rl];have a:=(VP c).2 (V l j) (oA f);unfold Fm at a;cases b:nn (J (V l j) 2) 0 63
  ·rw[b] at a;revert a;cases nn (J (V l j) 0) 0 7<;>cases nn (J (V l j) 1) 0 1023<;>simp
  ·exact .inr (Wx.1 b)
theorem nCC(q:List DC→List DC):∀(l o:rM),l.foldl (λo r=>o++[q r]) o=o++l.map q
 | [],o=>by simp
 | r::rs,o=>by rw[p8,nCC q rs];simp
def YJ(r:List DC):List DC:=[.int (J r 0)]
def W6(r:List DC):List DC:=[.int (J r 1)]
theorem yD(f:List DC→List DC){l:rM}{i:Nat}(h:i<l.length):V (l.map f) i=f (V l i):=by simp[V,ns,h]
def I3(a:rM→rM→Bool→α)(Z:rM)(c:Int)(write:Bool)(i:rM)(j:Int→Int→rM→rM→α)(e d:Int)(b h:rM):α:=let f:Int:=bif decide (0≤e) then jI Z c (ZK (l_ e 128)) write else (-1);let g:Int:=kh d (ZK (128 - (lZ e 128)));bif decide (0<d) then bif bif decide (f<0) then true else !(within (⟨i⟩:TV) (ZK (f*128)) 128) then a [] [] false else bif Bk true (Pf 8 b ([[.int (ZK ((ZK (f*128))+(lZ e 128)))]])) then bif Bk true (Pf 8 h ([[.int g]])) then j (ZK (e+g)) (ZK (d - g)) (b++([[.int (ZK ((ZK (f*128))+(lZ e 128)))]])) (h++([[.int g]])) else kW else kW else a b h true
def o9(a:rM→rM→Bool→α)(N:Nat)(Z:rM)(b:Int)(write:Bool)(c:rM)(d:Nat):Int→Int→rM→rM→α:=WS (λ_ _ _ _=>kW) (I3 kW a Z b write c) d
theorem nlr(a:rM→rM→Bool→α)(N:Nat)(Z:rM)(b:Int)(write:Bool)(c:rM)(d:Nat):o9 kW a N Z b write c (d+1)=I3 kW a Z b write c (o9 kW a N Z b write c d):=rfl
def S1(kW:α)(a:rM→rM→Bool→α)(c:rM→Int→Int→rM→rM→α)(Z:rM)(m:TV)(b gZ n:Int)(write:Bool):α:=bif bif !(cz Z) then true else bif !(pw m) then true else !(nn n 0 4096) then a [] [] false else c m.nQ gZ n [] []
def nw3(a:rM→rM→Bool→α)(N:Nat)(Z:rM)(m:TV)(b gZ n:Int)(write:Bool):α:=S1 kW a (λc=>o9 kW a N Z b write c N) Z m b gZ n write
def Ry(Z:rM)(m:TV)(a gZ n:Int)(write:Bool):rM×rM×Bool:=((Zi Z m a gZ n write).1.map YJ,(Zi Z m a gZ n write).1.map W6,(Zi Z m a gZ n write).2)
theorem nxl(b:rM→rM→Bool→α)(Z:rM)(m:TV)(c gZ n:Int)(write:Bool)(D:i_ TV.ct m.enc)(E:Oj .i (.int gZ)):∃N,nw3 kW b N Z m c gZ n write=b (Ry Z m c gZ n write).1 (Ry Z m c gZ n write).2.1 (Ry Z m c gZ n write).2.2:=by
 have y:Oj (.sl VB) (.sl m.nQ):=TV.O1 D;have F:=ka E;refine⟨n.toNat+2, ?_⟩;unfold nw3 S1 Ry Zi;refine oN (K:=λr:rM×Bool=>b (r.1.map YJ) (r.1.map W6) r.2) (λ_=>rfl) (λh=>?_);have j:cz Z=true:=by
  cases j:cz Z
  ·rw[j] at h;cases h
  ·rfl
 have u:pw m=true:=by
  cases u:pw m
  ·rw[j,u] at h;cases h
  ·rfl
 have A:0≤n∧n≤4096:=by
  cases k:nn n 0 4096
  ·rw[j,u,k] at h;cases h
  ·exact Wx.1 k
 obtain⟨G,H⟩:=Z9 y u;have key:∀(q e:Nat) (a n:Int) (o:rM),n<q→q≤e→0≤n→n≤4096→a≤9223372036854775807→o.length+n.toNat≤5000→∀M,o9 kW b M Z c write m.nQ e a n (o.map YJ) (o.map W6)=
   (λr:rM×Bool=>b (r.1.map YJ) (r.1.map W6) r.2) (bif bif decide (a<0) then decide (0<n) else false then ([],false) else k9 Z c write m.nQ q a n o):=by
  intro q
  induction q with
  | zero=>intro e a n o I L O;omega
  | succ q Q=>
   intro e a n o I L O R h7 h6 M;obtain⟨e,rfl⟩:=O4 e;rw[nlr];by_cases s:0<n
   ·by_cases B:a<0
    ·simp only[I3,Tl s,Tl B,yF (show ¬0≤a by omega),HI,rl,show decide ((-1:Int)<0)=true from rfl];rfl
    ·obtain⟨S,r2,r3,T⟩:=aK (show 0≤a by omega) s R;have tm:=Ag (x:=a) (m:=128) (by omega) (by omega);have U:∀(l:rM) (x:List DC),l.length≤5000→Pf 8 l [x]=true:=λl x hl=>Q0 (by simp only[di,l9];omega) (by omega);have g:=nBZ (d:=c) (w:=write) j (show 0≤a by omega);have W:(bif decide (jI Z c (ZK (l_ a 128)) write<0) then true else !(within m (ZK (jI Z c (ZK (l_ a 128)) write*128)) 128))=
       (bif decide (place Z c a write<0) then true else !(within m (place Z c a write) (kh n (ZK (128 - lZ a 128))))):=by
      rw[g];rcases ni_ j c (ZK (l_ a 128)) write with v | ⟨v,X⟩
      ·rw[v];rfl
      ·generalize jI Z c (ZK (l_ a 128)) write=P at v X ⊢;rw[yF (show ¬P<0 by omega),rl,rl,Ou (n:=P*128),Ou (n:=P*128+lZ a 128),
        yF (show ¬P*128+lZ a 128<0 by omega),rl]
       rw[show within m (P*128+lZ a 128) (kh n (ZK (128 - lZ a 128)))=within m (P*128) 128 from nj7 G H v tm.1 S (by omega)]
     have t:∀f:List DC→List DC,(o.map f).length≤5000:=λf=>by rw[ph];omega
     unfold k9;simp only[I3,Tl s,yF B,Tl (show 0≤a by omega),HI,rl,U _ _ (t _),cd];have z:(⟨m.nQ⟩:TV)=m:=rfl;rw[z,W];refine oN (K:=λr:rM×Bool=>b (r.1.map YJ) (r.1.map W6) r.2) (λ_=>rfl) (λk=>?_);have LA:place Z c a write=ZK (ZK (jI Z c (ZK (l_ a 128)) write*128)+lZ a 128):=by
      rw[g];cases hd:decide (jI Z c (ZK (l_ a 128)) write<0)
      ·rfl
      ·rw[g,hd] at k;cases k
     rw[←LA,T];have e0:o.map YJ++[[DC.int (place Z c a write)]]=(o++[[DC.int (place Z c a write),DC.int (kh n (ZK (128 - lZ a 128)))]]).map YJ:=by rw[List.map_append];rfl
     have e1:o.map W6++[[DC.int (kh n (ZK (128 - lZ a 128)))]]=(o++[[DC.int (place Z c a write),DC.int (kh n (ZK (128 - lZ a 128)))]]).map W6:=by rw[List.map_append];rfl
     rw[e0,e1];exact Q e _ _ _ (by omega) (by omega) (by omega) (by omega) (xA _) (by simp only[Qe,di,l9];omega) M
   ·have hz:(bif decide (a<0) then decide (0<n) else false)=false:=by rw[yF s];cases decide (a<0)<;>rfl
    rw[hz];unfold k9;simp only[I3,yF s,rl]
 refine (key (n.toNat+1) (n.toNat+2) gZ n [] (by omega) (by omega) A.1 A.2 F.2 (by simp only[l9];omega) _).trans ?_
 congr 1
 by_cases C:n=0
 ·subst C;cases decide (gZ<0)<;>rfl
 ·rw[show (n==0)=false by simpa using C,rl,Tl (show 0<n by omega)];cases decide (gZ<0)<;>rfl
def u4(l:rM)(a n:Nat):Y:=((fJ (V l (a / 128)) 0).drop (a % 128)).take (min n (128 - a % 128))
def cf:Nat→Nat→Nat→rM→Y
 | 0,_,_,_=>[]
 | m+1,a,n,l=>bif decide (0<n) then u4 l a n++cf m (a+min n (128 - a % 128)) (n - min n (128 - a % 128)) l else []
def NW(m:TV)(gZ n:Int):Y×Bool:=bif !(within m gZ n) then ([],false) else (cf n.toNat gZ.toNat n.toNat m.nQ,true)
theorem pF0{l:rM}(b:Tn l){a n:Nat}(h:a / 128<l.length):(u4 l a n).length=min n (128 - a % 128):=by obtain⟨p,c,d⟩:=b (a / 128) h;unfold u4;rw[c,qD,m8,my,d];omega
theorem nqd:∀(q a n:Nat) (l:rM),n≤q→Tn l→a+n≤128*l.length→(cf q a n l).length=n
 | 0,a,n,l,h1,_,_=>by simp only[cf,l9];omega
 | q+1,a,n,l,h1,hp,h2=>by
  unfold cf;by_cases b:0<n
  ·rw[Tl b,HI,Qe,pF0 hp (by omega),nqd q _ _ l (by omega) hp (by omega)];omega
  ·rw[yF b,rl];simp only[l9];omega
theorem dx{m:TV}{a n:Int}(b:Oj (.sl VB) (.sl m.nQ)):(NW m a n).1.length≤8192∧(NW m a n).1.length≤n.toNat:=by
 unfold NW;cases h:within m a n
 ·exact⟨m7 _,m7 _⟩
 ·obtain⟨c,d,e,f,g⟩:=gY b h;simp only[mc,rl];rw[nqd _ _ _ _ (pf _) c (by omega)];omega
def QQ(a:Y→Bool→α)(n:Int)(e:rM)(g:Int→rM→α)(b:Int)(c:rM):α:=let f:Int:=kh 128 (ZK ((ZK ((lZ b 128)+n)) - (len c)));let d:Y:=Fl (fJ (V e (lq (ZK (l_ b 128)))) 0) (lZ b 128) f;bif decide (len c<n) then bif Bk true (idx (ZK (l_ b 128)) e) then bif Bk true (XA (fJ (V e (lq (ZK (l_ b 128)))) 0) (lZ b 128) f) then bif Bk true (decide ((m_ c+m_ d)*1≤140737488355328) && decide (m_ c+m_ d≤9223372036854775807)) then g (ZK (b+(len d))) (c++(ofStr d)) else kW else kW else kW else a (toStr c) true
def bM(a:Y→Bool→α)(N:Nat)(n:Int)(b:rM)(c:Nat):Int→rM→α:=WS (λ_ _=>kW) (QQ kW a n b) c
theorem nnT(a:Y→Bool→α)(N:Nat)(n:Int)(b:rM)(c:Nat):bM kW a N n b (c+1)=QQ kW a n b (bM kW a N n b c):=rfl
def yZ(a:Y→Bool→α)(b:rM→Int→rM→α)(m:TV)(gZ n:Int):α:=bif !(within m gZ n) then a [] false else bif Bk true (Fj 1 0 n) then b m.nQ gZ (mf 0 ([.int 0]:List DC)) else kW
def ns1(a:Y→Bool→α)(N:Nat)(m:TV)(gZ n:Int):α:=yZ kW a (λb=>bM kW a N n b N) m gZ n
theorem ntT(b:Y→Bool→α)(m:TV)(gZ n:Int)(l:i_ TV.ct m.enc):∃N,ns1 kW b N m gZ n=b (NW m gZ n).1 (NW m gZ n).2:=by
 have f:Oj (.sl VB) (.sl m.nQ):=TV.O1 l;refine⟨n.toNat+1, ?_⟩;unfold ns1 yZ NW;cases s:within m gZ n
 ·rfl
 ·obtain⟨h,H,t,u,I⟩:=gY f s;obtain⟨a,rfl⟩:=nH u;obtain⟨n,rfl⟩:=nH t;have g:Fj 1 0 (n:Int)=true:=by simp only[Fj,gF,kQ,lN];omega
  simp only[mc,rl,g,cd,HI,lN];have key:∀(q c a r:Nat) (o:Y),r≤q→q<c→o.length+r=n→a+r≤128*m.nQ.length→∀M,bM kW b M (n:Int) m.nQ c (a:Int) (ofStr o)=b (o++cf q a r m.nQ) true:=by
   intro q
   induction q with
   | zero=>
    intro c a r o v w x y M;obtain⟨c,rfl⟩:=O4 c;rw[nnT];have e:decide (len (ofStr o)<(n:Int))=false:=yF (by simp only[len,tz];omega);simp only[QQ,e,rl,cf,p0,Va]
   | succ q z=>
    intro c a r o v w x y M;obtain⟨c,rfl⟩:=O4 c;rw[nnT];by_cases i:0<r
    ·have e:decide (len (ofStr o)<(n:Int))=true:=Tl (by simp only[len,tz];omega);have d:a / 128<m.nQ.length:=by omega
     obtain⟨p,j,K⟩:=h (a / 128) d;have A:ZK (((a / 128:Nat):Int))=((a / 128:Nat):Int):=Ou;have B:kh 128 (ZK (ZK (((a % 128:Nat):Int)+(n:Int)) - len (ofStr o)))=((a % 128+min r (128 - a % 128):Nat):Int):=by rw[Ou (n:=((a % 128:Nat):Int)+(n:Int))];simp only[len,tz];rw[Ou];simp only[kh];split<;>omega
     have C:Fl p ((a % 128:Nat):Int) ((a % 128+min r (128 - a % 128):Nat):Int)=u4 m.nQ a r:=by
      unfold Fl u4;rw[j,qD,lN,lN,List.drop_take]
      congr 1
      omega
     have D:XA p ((a % 128:Nat):Int) ((a % 128+min r (128 - a % 128):Nat):Int)=true:=by simp only[XA,gF,kQ];omega
     have k:=pF0 h (n:=r) d;have E:(decide (((ofStr o).length+(u4 m.nQ a r).length)*1≤140737488355328) && decide ((ofStr o).length+(u4 m.nQ a r).length≤9223372036854775807))=true:=by simp only[tz,gF,kQ];omega
     have F:ZK ((a:Int)+len (u4 m.nQ a r))=((a+min r (128 - a % 128):Nat):Int):=by simp only[len,k];rw[Ou];omega
     have G:ofStr o++ofStr (u4 m.nQ a r)=ofStr (o++u4 m.nQ a r):=by simp[ofStr]
     have this:=z c (a+min r (128 - a % 128)) (r - min r (128 - a % 128)) (o++u4 m.nQ a r) (by omega) (by omega) (by rw[Qe,k];omega) (by omega) M;unfold cf;rw[Tl i,HI,←nF];simp only[QQ,e,Ph,AZ,A,uH d,lN,j,qD,B,C,D,E,F,G,cd,HI];exact this
    ·have e:decide (len (ofStr o)<(n:Int))=false:=yF (by simp only[len,tz];omega);unfold cf;simp only[QQ,e,yF i,rl,p0,Va]
  exact key n (n+1) a n [] (pf _) (by omega) (by simp) (by omega) _
def V1(a:Y→Bool→α)(x:Int)(f c:rM)(g:Y→Int→α)(d:Y)(b:Int):α:=let e:Y:=(NW (⟨f⟩:TV) (J (V c (lq b)) 0) (J (V c (lq b)) 1)).1;bif decide (b<x) then bif Bk (Bk true (idx b c)) (inl (lq b) c) then bif Bk true (S_ d e) then g (d++e) (ZK (b+1)) else kW else kW else a d true
def kf(a:Y→Bool→α)(N:Nat)(x:Int)(b c:rM)(d:Nat):Y→Int→α:=WS (λ_ _=>kW) (V1 kW a x b c) d
theorem nsx(a:Y→Bool→α)(N:Nat)(x:Int)(b c:rM)(d:Nat):kf kW a N x b c (d+1)=V1 kW a x b c (kf kW a N x b c d):=rfl
def Oh(kW:α)(a:Y→Bool→α)(d:Int→rM→rM→Y→Int→α)(Z:rM)(m:TV)(b gZ n:Int):α:=let c:rM×Bool:=Zi Z m b gZ n false;bif !c.2 then a [] false else d (len c.1) m.nQ c.1 [] 0
def nci(a:Y→Bool→α)(N:Nat)(Z:rM)(m:TV)(b gZ n:Int):α:=Oh kW a (λx c d=>kf kW a N x c d N) Z m b gZ n
def nkk(m:TV)(R:rM):Y:=R.foldl (λo r=>o++(NW m (J r 0) (J r 1)).1) []
def vV(Z:rM)(m:TV)(a gZ n:Int):Y×Bool:=bif !(Zi Z m a gZ n false).2 then ([],false) else (nkk m (Zi Z m a gZ n false).1,true)
theorem nyD{σ:Type}(g:σ→List DC→σ):∀(l p:rM) (s:σ),Wc (λi s=>g s (V (p++l) i)) l.length p.length s=l.foldl g s:=pd g
theorem nhu{m:TV}(b:Oj (.sl VB) (.sl m.nQ)){Q:Nat→Prop} :∀(R:rM) (n:Nat) (o:Y),TY Q R n→(R.foldl (λo r=>o++(NW m (J r 0) (J r 1)).1) o).length≤o.length+n
 | [],n,o,_=>Nat.le_add_right _ _
 | r::rs,n,o,h=>by obtain⟨p,k,rfl,f,g,_,_,d⟩:=h;have c:=nhu b rs (n - k) (o++(NW m (p:Int) (k:Int)).1) d;have e:=(dx (m:=m) (a:=(p:Int)) (n:=(k:Int)) b).2;rw[Qe] at c;rw[p8];rw[lN] at e;exact Nat.le_trans c (by omega)
theorem wY{Z:rM}{m:TV}{gp gZ n:Int}(a:Oj (.sl VB) (.sl m.nQ)):(vV Z m gp gZ n).1.length≤n.toNat∧(vV Z m gp gZ n).1.length≤4096:=by
 unfold vV;cases b:(Zi Z m gp gZ n false).2
 ·exact⟨m7 _,m7 _⟩
 ·obtain⟨_,_,c,d⟩:=nqL a b;have:=nhu a _ _ [] c;simp only[mc,rl];unfold nkk;simp only[l9] at this;omega
theorem ni2(b:Y→Bool→α)(Z:rM)(m:TV)(c gZ n:Int)(h:i_ TV.ct m.enc):∃N,nci kW b N Z m c gZ n=b (vV Z m c gZ n).1 (vV Z m c gZ n).2:=by
 have d:Oj (.sl VB) (.sl m.nQ):=TV.O1 h;refine⟨(Zi Z m c gZ n false).1.length+1, ?_⟩;unfold nci Oh vV;dsimp only;cases j:(Zi Z m c gZ n false).2
 ·rfl
 ·obtain⟨q,s,k⟩:=Mr d j;simp only[mc,rl];generalize (Zi Z m c gZ n false).1=R at k ⊢;have f:(⟨m.nQ⟩:TV)=m:=rfl;refine (Xb R.length (λn i o=>kf kW b (R.length+1) (len R) m.nQ R n o i) (λi o=>o++(NW m (J (V R i) 0) (J (V R i) 1)).1) (λo=>b o true) (λi o=>o.length≤8192*i) ?_ ?_ ?_ (R.length+1) [] (by simp) (by omega)).trans ?_
  ·intro i o e g;have:=(dx (a:=J (V R i) 0) (n:=J (V R i) 1) d).1;rw[Qe];omega
  ·intro n i o e g;show kf kW b (R.length+1) (len R) m.nQ R (n+1) o (i:Int)=_;rw[nsx];have t:=(dx (a:=J (V R i) 0) (n:=J (V R i) 1) d).1;have l:S_ o (NW m (J (V R i) 0) (J (V R i) 1)).1=true:=gh (by omega);have p:ZK ((i:Int)+1)=(i:Int)+1:=Ou;simp only[V1,T9 e,uH e,SG e,lN,f,l,p,cd,HI]
  ·intro n o g;show kf kW b (R.length+1) (len R) m.nQ R (n+1) o (R.length:Int)=_;rw[nsx];simp only[V1,hO,rl]
  ·exact congrArg (λo=>b o true) (nyD (λ(o:Y) (r:List DC)=>o++(NW m (J r 0) (J r 1)).1) R [] [])
def nwh(a:TV→α)(m:TV):α:=bif Bk true (Pf 16 [] m.nQ) then a m else kW
theorem nsL(a:TV→α)(m:TV)(b:zH m=true):nwh kW a m=a (cp m):=by have c:zH m=true:=b;unfold nwh;rw[W3 (show Of m.nQ=true from c) (show 16≤8388608 by omega)];rfl
def V6(a:TV→Bool→α)(j:Int→Y→rM→α)(b:Int)(c:Y)(d:rM):α:=let g:Bool:=idx (ZK (l_ b 128)) d;let h:Bool:=inl (lq (ZK (l_ b 128))) d;let e:Int:=kh (len c) (ZK (128 - (lZ b 128)));let f:List DC:=V d (lq (ZK (l_ b 128)));let i:Y:=Xg c e;bif decide (0<len c) then bif Bk (Bk (Bk (Bk (Bk (Bk true g) h) (Oo c e)) (Ei (fJ f 0) (lZ b 128) i)) g) h then bif Bk true (fD c e) then j (ZK (b+e)) (qg c e) (nq d (lq (ZK (l_ b 128))) (CI f 0 [.str (iU (fJ f 0) (lZ b 128) i)])) else kW else kW else a (⟨d⟩:TV) true
def Wd(a:TV→Bool→α)(N b:Nat):Int→Y→rM→α:=WS (λ_ _ _=>kW) (V6 kW a) b
theorem nzF(a:TV→Bool→α)(N b:Nat):Wd kW a N (b+1)=V6 kW a (Wd kW a N b):=rfl
def Ng(a:TV→Bool→α)(b:Int→Y→rM→α)(m:TV)(gZ:Int)(s:Y):α:=bif Bk true (zH m) then bif !(within m gZ (len s)) then a (cp m) false else b gZ s ((cp m).nQ) else kW
def neY(a:TV→Bool→α)(N:Nat)(m:TV)(gZ:Int)(s:Y):α:=Ng kW a (Wd kW a N N) m gZ s
theorem nfc(b:TV→Bool→α)(m:TV)(gZ:Int)(s:Y)(k:i_ TV.ct m.enc)(o:jT m gZ s=true):∃N,neY kW b N m gZ s=b (Ga m gZ s).1 (Ga m gZ s).2:=by
 have e:Oj (.sl VB) (.sl m.nQ):=TV.O1 k;have r:zH m=true:=o;refine⟨s.length+1, ?_⟩;unfold neY Ng Ga;rw[show cp m=m from rfl];simp only[r,cd,HI];cases f:within m gZ (len s)
 ·rfl
 ·obtain⟨t,u,R,v,w⟩:=gY e f;obtain⟨a,rfl⟩:=nH v;simp only[mc,rl,lN];have key:∀(q n a:Nat) (s:Y) (l:rM),s.length≤q→q<n→Tn l→l.length≤64→a+s.length≤128*l.length→∀M,Wd kW b M n (a:Int) s l=b (⟨Wo q a s l⟩:TV) true:=by
   intro q
   induction q with
   | zero=>
    intro n a s l x y g h z M;obtain⟨n,rfl⟩:=O4 n;have:s=[]:=pa.1 (by omega);subst this;rw[nzF];simp only[V6,show decide (0<len ([]:Y))=false by decide,rl,Wo]
   | succ q A=>
    intro n a s l x y g h z M;obtain⟨n,rfl⟩:=O4 n;rw[nzF];by_cases B:0<s.length
    ·have C:decide (0<len s)=true:=Tl (by simp only[len];omega);have c:a / 128<l.length:=by omega
     obtain⟨p,i,S⟩:=g (a / 128) c;have D:ZK (((a / 128:Nat):Int))=((a / 128:Nat):Int):=Ou;have E:kh (len s) (ZK (128 - ((a % 128:Nat):Int)))=((min s.length (128 - a % 128):Nat):Int):=by
      rw[Ou];unfold kh len;by_cases j:128 - ((a % 128:Nat):Int)<(s.length:Int)
      ·rw[if_pos j];omega
      ·rw[if_neg j];omega
     have F:ZK ((a:Int)+((min s.length (128 - a % 128):Nat):Int))=((a+min s.length (128 - a % 128):Nat):Int):=by rw[Ou];omega
     have G:Oo s ((min s.length (128 - a % 128):Nat):Int)=true:=by simp only[Oo,gF,kQ];omega
     have H:fD s ((min s.length (128 - a % 128):Nat):Int)=true:=by simp only[fD,gF,kQ];omega
     have I:qg s ((min s.length (128 - a % 128):Nat):Int)=s.drop (min s.length (128 - a % 128)):=by simp[qg]
     have K:Xg s ((min s.length (128 - a % 128):Nat):Int)=s.take (min s.length (128 - a % 128)):=by simp[Xg]
     have L:Ei p ((a % 128:Nat):Int) (s.take (min s.length (128 - a % 128)))=true:=by simp only[Ei,gF,kQ,m8];omega
     have O:s.take (min s.length (128 - a % 128))=s.take (128 - a % 128):=by
      rcases Nat.le_total s.length (128 - a % 128) with d | d
      ·rw[Nat.min_eq_left d,q4,List.take_of_length_le d]
      ·rw[Nat.min_eq_right d]
     have P:iU p ((a % 128:Nat):Int) (s.take (min s.length (128 - a % 128)))=yd p (a % 128) s:=by
      have f:WU p ((a % 128:Nat):Int) (len (s.take (min s.length (128 - a % 128))))=true:=(within_iff (by omega)).2 (by simp only[len,m8];omega);unfold iU yd;rw[f,mc,rl,lN,nF,m8,O]
      congr 3
      omega
     have st:=Wm (a:=a) (s:=s) g c;have this:=A n (a+min s.length (128 - a % 128)) (s.drop (min s.length (128 - a % 128))) (uX l a s) (by rw[my];omega) (by omega) st.1 (by rw[st.2];exact h) (by rw[st.2,my];omega) M;have Q:uX l a s=l.set (a / 128) [.str (yd p (a % 128) s)]:=by unfold uX;rw[i];rfl
     unfold Wo;rw[Tl B,HI];rw[Q] at this ⊢;simp only[V6,C,Ph,AZ,D,uH c,SG c,lN,i,qD,E,F,G,H,I,K,L,P,wc,cd,TK,HI];exact this
    ·have:s=[]:=pa.1 (by omega);subst this;simp only[V6,show decide (0<len ([]:Y))=false by decide,rl];rfl
  exact key s.length (s.length+1) a s m.nQ (pf _) (by omega) t u (by simp only[len] at w;omega) _
def qy(a:TV→Bool→α)(b c:rM)(g:Y→Int→rM→α)(d:Y)(k:Int)(e:rM):α:=let f:Y:=Xg d (J (V c (lq k)) 0);bif decide (k<len b) then bif Bk (Bk (Bk (Bk (Bk (Bk true (idx k b)) (inl (lq k) b)) (idx k c)) (inl (lq k) c)) (Oo d (J (V c (lq k)) 0))) (jT (⟨e⟩:TV) (J (V b (lq k)) 0) f) then bif Bk (Bk (Bk true (idx k c)) (inl (lq k) c)) (fD d (J (V c (lq k)) 0)) then g (qg d (J (V c (lq k)) 0)) (ZK (k+1)) (((Ga (⟨e⟩:TV) (J (V b (lq k)) 0) f).1).nQ) else kW else kW else a (⟨e⟩:TV) true
def Bo(a:TV→Bool→α)(N:Nat)(b c:rM)(d:Nat):Y→Int→rM→α:=WS (λ_ _ _=>kW) (qy kW a b c) d
theorem nf8(a:TV→Bool→α)(N:Nat)(b c:rM)(d:Nat):Bo kW a N b c (d+1)=qy kW a b c (Bo kW a N b c d):=rfl
def nw(a:TV→Bool→α)(d:rM→rM→Y→Int→rM→α)(Z:rM)(m:TV)(b gZ:Int)(s:Y):α:=let c:rM×rM×Bool:=Ry Z m b gZ (len s) true;bif Bk true (zH m) then bif !c.2.2 then a (cp m) false else d c.1 c.2.1 s 0 ((cp m).nQ) else kW
def ngv(a:TV→Bool→α)(N:Nat)(Z:rM)(m:TV)(b gZ:Int)(s:Y):α:=nw kW a (λc d=>Bo kW a N c d N) Z m b gZ s
theorem nnv(c:TV→Bool→α)(Z:rM)(m:TV)(d gZ:Int)(s:Y)(y:i_ TV.ct m.enc)(z:Oj .str (.str s))(A:zm Z m d gZ s=true):∃N,ngv kW c N Z m d gZ s=c (Y2 Z m d gZ s).1 (Y2 Z m d gZ s).2:=by
 have g:Oj (.sl VB) (.sl m.nQ):=TV.O1 y;have B:zH m=true:=A;have M5:=jU z;refine⟨(Zi Z m d gZ (len s) true).1.length+1, ?_⟩;unfold ngv nw Y2 put Ry;rw[show cp m=m from rfl];simp only[B,cd,HI];cases C:(Zi Z m d gZ (len s) true).2
 ·rfl
 ·obtain⟨D,E,j⟩:=Mr g C;simp only[mc,rl];generalize (Zi Z m d gZ (len s) true).1=R at j ⊢;have key:∀(q n i:Nat) (s:Y) (l:rM),i+q=R.length→q<n→TY (λ_=>True) (R.drop i) s.length→Tn l→l.length≤64→R.length≤5000→
    Bo kW c (R.length+1) (R.map YJ) (R.map W6) n s (i:Int) l=c (⟨nD (R.drop i) s l⟩:TV) true:=by
   intro q
   induction q with
   | zero=>
    intro n i s l F G o v r w;obtain⟨n,rfl⟩:=O4 n;rw[nf8,r8 (by omega)];have H:decide ((i:Int)<len (R.map YJ))=false:=yF (by simp only[len,ph];omega);simp only[qy,H,rl,nD]
   | succ q I=>
    intro n i s l F G o v r w;obtain⟨n,rfl⟩:=O4 n;have e:i<R.length:=by omega
    have K:R[i]=V R i:=by simp[V,e]
    rw[oS e,K] at o ⊢;obtain⟨p,k,t,k1,k2,k3,_,L⟩:=o;rw[nf8];have M:ZK ((i:Int)+1)=((i+1:Nat):Int):=by rw[Ou];omega
    have O:Oo s (k:Int)=true:=by simp only[Oo,gF,kQ];omega
    have P:fD s (k:Int)=true:=by simp only[fD,gF,kQ];omega
    have Q:Xg s (k:Int)=s.take k:=by simp[Xg]
    have S:qg s (k:Int)=s.drop k:=by simp[qg]
    have T:∀a b,jT (⟨l⟩:TV) a b=true:=λa b=>by unfold jT Of;exact Tl (by show l.length≤16777216;omega)
    have u:∀f:List DC→List DC,i<(R.map f).length:=λf=>by rw[ph];exact e
    have U:V (R.map YJ) i=[.int (p:Int)]:=by rw[yD _ e,t];rfl
    have n1:V (R.map W6) i=[.int (k:Int)]:=by rw[yD _ e,t];rfl
    have W:J [DC.int (p:Int),DC.int (k:Int)] 0=(p:Int):=rfl;have X:J [DC.int (p:Int),DC.int (k:Int)] 1=(k:Int):=rfl;have x:=Ua (a:=(p:Int)) (s:=s.take k) v r;have this:=I n (i+1) (s.drop k) (Ga (⟨l⟩:TV) (p:Int) (s.take k)).1.nQ (by omega) (by omega) (by rw[my];exact L) x.1 (by rw[x.2];exact r) w;simp only[qy,T9 (u _),uH (u _),SG (u _),lN,U,n1,t,W,X,nvw,O,P,Q,S,T,M,cd,TK,HI,nD];exact this
  exact key R.length (R.length+1) 0 s m.nQ (by omega) (by omega) (by have h:=j.1;rw[show (len s).toNat=s.length by simp[len]] at h;exact h) D E j.2
def nuX(a:TV→Bool→α)(Z:rM)(m:TV)(b gZ:Int)(s:Y):α:=let c:TV×Bool:=put Z m b gZ s false;bif Bk true (QK Z m b gZ s false) then a c.1 c.2 else kW
def au(Z:rM)(m:TV)(a gZ:Int)(s:Y):Bool:=Of Z && Of m.nQ
def wD(Z:rM)(m:TV)(a gZ:Int)(s:Y):TV×Bool:=put Z m a gZ s false
theorem nBr(a:TV→Bool→α)(Z:rM)(m:TV)(b gZ:Int)(s:Y)(c:au Z m b gZ s=true):nuX kW a Z m b gZ s=a (wD Z m b gZ s).1 (wD Z m b gZ s).2:=by
 have d:Of Z=true∧Of m.nQ=true:=by simpa [au] using c
 have h:QK Z m b gZ s false=true:=d.2;unfold nuX wD;simp only[h,cd,HI]
def Zo(r:List DC):List DC:=[.int (J r 0),.int (J r 1),.int (J r 2),.bool true]
theorem nn0{p q:Nat→Bool}(h:∀j,p j=q j)(m i:Nat):ZO p m i=ZO q m i:=Bv m i (λj _ _=>h j)
theorem vS(l:rM)(i:Nat):J (V (l.map Zo) i) 0=J (V l i) 0∧J (V (l.map Zo) i) 1=J (V l i) 1∧J (V (l.map Zo) i) 2=J (V l i) 2:=by
 by_cases h:i<l.length
 ·rw[yD _ h];exact⟨rfl,rfl,rfl⟩
 ·have e:∀k:rM,¬i<k.length→V k i=[]:=λk a=>by simp[V,ns,List.getElem?_eq_none (show k.length≤i by omega)]
  rw[e l h,e (l.map Zo) (by rw[ph];exact h)];exact⟨rfl,rfl,rfl⟩
theorem nnm(l:rM):cz (l.map Zo)=cz l:=by
 unfold cz;have a:len (l.map Zo)=len l:=by simp[len]
 rw[a];have c:∀(b:rM) (s:Nat),Pt (λi r=>bif Fm r then true else ZO (λj=>bif (J (V (l.map Zo) j) 0)==(J r 0) then (J (V (l.map Zo) j) 1)==(J r 1) else false) i 0) (b.map Zo) s=
   Pt (λi r=>bif Fm r then true else ZO (λj=>bif (J (V l j) 0)==(J r 0) then (J (V l j) 1)==(J r 1) else false) i 0) b s:=by
  intro b
  induction b with
  | nil=>intro s;rfl
  | cons r rs d=>
   intro s;have e:ZO (λj=>bif (J (V (l.map Zo) j) 0)==(J (Zo r) 0) then (J (V (l.map Zo) j) 1)==(J (Zo r) 1) else false) s 0=ZO (λj=>bif (J (V l j) 0)==(J r 0) then (J (V l j) 1)==(J r 1) else false) s 0:=
    nn0 (λj=>by rw[(vS l j).1,(vS l j).2.1];rfl) s 0
   simp only[p9,Pt];rw[d (s+1),e];rfl
 rw[c l 0]
theorem ndd(l:rM)(d a:Int):place (l.map Zo) d a true=place l d a false:=by
 have c:Ti (l.map Zo) d a=Ti l d a:=by
  unfold Ti lI;have e:∀(b:rM) (s:Nat),findIdx (λ_ r=>bif (J r 0)==d then (J r 1)==(ZK (l_ a 128)) else false) (b.map Zo) s=findIdx (λ_ r=>bif (J r 0)==d then (J r 1)==(ZK (l_ a 128)) else false) b s:=by
   intro b
   induction b with
   | nil=>intro s;rfl
   | cons r rs f=>
    intro s;simp only[p9,findIdx];rw[f (s+1)];rfl
  exact e l 0
 unfold place;rw[c];rcases iM l d a with h | ⟨i,g,j,_⟩
 ·rw[Tl h];rfl
 ·rw[j,lN,(vS l i).2.2,yD _ g];rfl
theorem nlS(l:rM)(d:Int)(b:rM):∀(q:Nat) (a n:Int) (o:rM),k9 (l.map Zo) d true b q a n o=k9 l d false b q a n o
 | 0,_,_,_=>rfl
 | q+1,a,n,o=>by unfold k9;rw[ndd,nlS l d b q]
theorem ndt(l:rM)(m:TV)(d a n:Int):Zi (l.map Zo) m d a n true=Zi l m d a n false:=by unfold Zi;rw[nnm,nlS]
def xr(a:TV→Bool→α)(Z:rM)(c gZ:Int)(s:Y)(d:rM)(f:Int→rM→α)(k:Int)(b:rM):α:=let e:TV×Bool:=Y2 b (⟨d⟩:TV) c gZ s;bif decide (k<len Z) then bif Bk true (idx k Z) then bif Bk true (Pf 32 b ([[.int (J (V Z (lq k)) 0),.int (J (V Z (lq k)) 1),.int (J (V Z (lq k)) 2),.bool true]])) then f (ZK (k+1)) (b++([[.int (J (V Z (lq k)) 0),.int (J (V Z (lq k)) 1),.int (J (V Z (lq k)) 2),.bool true]])) else kW else kW else bif Bk true (zm b (⟨d⟩:TV) c gZ s) then a e.1 e.2 else kW
def dy(a:TV→Bool→α)(N:Nat)(Z:rM)(b gZ:Int)(s:Y)(c:rM)(d:Nat):Int→rM→α:=WS (λ_ _=>kW) (xr kW a Z b gZ s c) d
theorem nwa(a:TV→Bool→α)(N:Nat)(Z:rM)(b gZ:Int)(s:Y)(c:rM)(d:Nat):dy kW a N Z b gZ s c (d+1)=xr kW a Z b gZ s c (dy kW a N Z b gZ s c d):=rfl
def Y5(kW:α)(a:TV→Bool→α)(c:rM→Int→rM→α)(Z:rM)(m:TV)(b gZ:Int)(s:Y):α:=c m.nQ 0 []
def nDQ(a:TV→Bool→α)(N:Nat)(Z:rM)(m:TV)(b gZ:Int)(s:Y):α:=Y5 kW a (λc=>dy kW a N Z b gZ s c N) Z m b gZ s
theorem nmP(a:TV→Bool→α)(Z:rM)(m:TV)(b gZ:Int)(s:Y)(h:Oj (.sl UB) (.sl Z))(j:au Z m b gZ s=true):∃N,nDQ kW a N Z m b gZ s=a (wD Z m b gZ s).1 (wD Z m b gZ s).2:=by
 obtain⟨k,_⟩:=jD h;have f:Of Z=true∧Of m.nQ=true:=by simpa [au] using j
 have q:=RG f.1;refine⟨Z.length+1, ?_⟩;unfold nDQ Y5 wD;refine (Xb Z.length (λn i o=>dy kW a (Z.length+1) Z b gZ s m.nQ n i o) (λi o=>o++[Zo (V Z i)]) (λo=>a (Y2 o m b gZ s).1 (Y2 o m b gZ s).2) (λi o=>o.length≤i) ?_ ?_ ?_ (Z.length+1) [] (by simp) (by omega)).trans ?_
 ·intro i o c g;simp only[Qe,di,l9];omega
 ·intro n i o c g;show dy kW a (Z.length+1) Z b gZ s m.nQ (n+1) (i:Int) o=_;rw[nwa];have l:∀x:List DC,Pf 32 o [x]=true:=λx=>Q0 (by simp only[di,l9];omega) (by omega);simp only[xr,T9 c,uH c,l,Q8 c k,lN,cd,TK,HI];rfl
 ·intro n o g;show dy kW a (Z.length+1) Z b gZ s m.nQ (n+1) (Z.length:Int) o=_;rw[nwa];have p:zm o m b gZ s=true:=f.2;have d:(⟨m.nQ⟩:TV)=m:=rfl;simp only[xr,hO,rl,d,p,cd,HI]
 ·have e:Wc (λi o=>o++[Zo (V Z i)]) Z.length 0 []=Z.map Zo:=((pd (λ(o:rM) (r:List DC)=>o++[Zo r]) Z [] []).trans (nCC Zo Z [])).trans (by simp);rw[e];unfold Y2 put;rw[ndt]
structure XM where
 na1:SA
 en:Int
 f0:Y
 nta:Bool
def XM.enc(x:XM):List DC:=[.int x.na1.eh,.int x.na1.py,.int x.na1.pN,.int x.na1.oC,.int x.na1.oz,.int x.en,.str x.f0,.bool x.nta]
def XM.nd(r:List DC)(o:Nat):XM:=⟨SA.nd r (o+0),J r (o+5),fJ r (o+6),yz r (o+7)⟩
def XM.ct:List CT:=Qn
theorem XM.eta{r:List DC}(h:i_ XM.ct r):(XM.nd r 0).enc=r:=(show (XM.nd r 0).enc=nK XM.ct r 0 from by kernel_rfl).trans (DG h)
theorem XM.nX{r:List CT}{b:List DC}(h:i_ (XM.ct++r) b):∃(x:XM) (c:List DC),b=x.enc++c∧i_ XM.ct x.enc∧i_ r c:=by obtain⟨d,e,rfl,a,f⟩:=Vi h;exact⟨XM.nd d 0,e,by rw[XM.eta a],by rw[XM.eta a];exact a,f⟩
theorem XM.nC5{x:XM}(h:i_ XM.ct x.enc):i_ SA.ct x.na1.enc:=cW 0 5 h
theorem XM.nAT{x:XM}(h:i_ XM.ct x.enc):Oj .i (.int x.en):=Fh 5 h rfl rfl
structure R3 where
 sr:Int
 nO:Int
 nCB:rM
def R3.enc(x:R3):List DC:=[.int x.sr,.int x.nO,.sl x.nCB]
def R3.nd(r:List DC)(o:Nat):R3:=⟨J r (o+0),J r (o+1),Zc r (o+2)⟩
def R3.ct:List CT:=[.i,.i,.sl vL]
theorem R3.eta{r:List DC}(h:i_ R3.ct r):(R3.nd r 0).enc=r:=(show (R3.nd r 0).enc=nK R3.ct r 0 from by kernel_rfl).trans (DG h)
theorem R3.nX{r:List CT}{b:List DC}(h:i_ (R3.ct++r) b):∃(x:R3) (c:List DC),b=x.enc++c∧i_ R3.ct x.enc∧i_ r c:=by obtain⟨d,e,rfl,a,f⟩:=Vi h;exact⟨R3.nd d 0,e,by rw[R3.eta a],by rw[R3.eta a];exact a,f⟩
theorem R3.nxA{x:R3}(h:i_ R3.ct x.enc):Oj .i (.int x.sr):=Fh 0 h rfl rfl
theorem R3.ncU{x:R3}(h:i_ R3.ct x.enc):Oj .i (.int x.nO):=Fh 1 h rfl rfl
structure En where
 State:Int
 na1:SA
 fl:Int
def En.enc(x:En):List DC:=[.int x.State,.int x.na1.eh,.int x.na1.py,.int x.na1.pN,.int x.na1.oC,.int x.na1.oz,.int x.fl]
def En.nd(r:List DC)(o:Nat):En:=⟨J r (o+0),SA.nd r (o+1),J r (o+6)⟩
def En.ct:List CT:=xT
theorem En.eta{r:List DC}(h:i_ En.ct r):(En.nd r 0).enc=r:=(show (En.nd r 0).enc=nK En.ct r 0 from by kernel_rfl).trans (DG h)
theorem En.nX{r:List CT}{b:List DC}(h:i_ (En.ct++r) b):∃(x:En) (c:List DC),b=x.enc++c∧i_ En.ct x.enc∧i_ r c:=by obtain⟨d,e,rfl,a,f⟩:=Vi h;exact⟨En.nd d 0,e,by rw[En.eta a],by rw[En.eta a];exact a,f⟩
theorem En.nC5{x:En}(h:i_ En.ct x.enc):i_ SA.ct x.na1.enc:=cW 1 5 h
theorem En.nCA{x:En}(h:i_ En.ct x.enc):Oj .i (.int x.fl):=Fh 6 h rfl rfl
def nwd(a:AP→α)(f:AP):α:=bif Bk true (Pf 8 [] f.pO) then a f else kW
def C5(f:AP):Bool:=Of f.pO
theorem nkz(a:AP→α)(f:AP)(b:C5 f=true):nwd kW a f=a (cp f):=by have c:C5 f=true:=b;unfold nwd;rw[W3 (show Of f.pO=true from c) (show 8≤8388608 by omega)];rfl
def nli(a:AP→α)(f:AP):α:=bif Bk true (Of f.pO) then a (⟨f.N8,f.n9,cp f.pO⟩:AP) else kW
theorem ng9(a:AP→α)(f:AP)(b:C5 f=true):nli kW a f=a (cp f):=by have c:C5 f=true:=b;unfold nli;rw[show Of f.pO=true from c];rfl
def nyk(a:W4→α)(t:W4):α:=bif Bk true (Pf 56 [] t.nO) then a t else kW
def ca(t:W4):Bool:=Of t.nO
theorem nhk(a:W4→α)(t:W4)(b:ca t=true):nyk kW a t=a (cp t):=by have c:ca t=true:=b;unfold nyk;rw[W3 (show Of t.nO=true from c) (show 56≤8388608 by omega)];rfl
def ng7(a:W4→α)(t:W4):α:=bif Bk true (Pf 56 [] t.nO) then a t else kW
theorem nel(a:W4→α)(t:W4)(b:ca t=true):ng7 kW a t=a (cp t):=by have c:ca t=true:=b;unfold ng7;rw[W3 (show Of t.nO=true from c) (show 56≤8388608 by omega)];rfl
def nly(a:aV→α)(s:aV):α:=bif Bk true (Of s.eb) then a (⟨s.eJ,cp s.eb⟩:aV) else kW
def ny(s:aV):Bool:=Of s.eb
theorem no7(a:aV→α)(s:aV)(b:ny s=true):nly kW a s=a (cp s):=by have c:ny s=true:=b;unfold nly;rw[show Of s.eb=true from c];rfl
def nvE(a:nJ→α)(s:nJ):α:=bif Bk (Bk (Bk true (Pf 72 [] s.oQ)) (ca s.eb)) (Pf 8 [] s.nV.eb) then a (⟨s.oQ,cp s.eb,s.nV⟩:nJ) else kW
def ai(s:nJ):Bool:=Of s.oQ && (Of s.eb.nO && Of s.nV.eb)
theorem ntK(a:nJ→α)(s:nJ)(c:ai s=true):nvE kW a s=a (cp s):=by have b:ai s=true:=c;unfold nvE;simp only[ai,gF] at b;obtain⟨d,e,f⟩:=b;rw[W3 d (show 72≤8388608 by omega),W3 f (show 8≤8388608 by omega),show ca s.eb=true from e];rfl
def gpP(a:nJ→α)(s:nJ):α:=bif Bk (Bk (Bk true (Pf 72 [] s.oQ)) (ca s.eb)) (ny s.nV) then a (⟨s.oQ,cp s.eb,cp s.nV⟩:nJ) else kW
theorem naF(a:nJ→α)(s:nJ)(c:ai s=true):gpP kW a s=a (cp s):=by have b:ai s=true:=c;unfold gpP;simp only[ai,gF] at b;obtain⟨d,e,f⟩:=b;rw[W3 d (show 72≤8388608 by omega),show ca s.eb=true from e,show ny s.nV=true from f];rfl
def nok(a:rM→α)(Z:rM):α:=bif Bk true (Pf 32 [] Z) then a Z else kW
theorem noE(a:rM→α)(Z:rM)(b:Of Z=true):nok kW a Z=a (cp Z):=by have c:Of Z=true:=b;unfold nok;rw[W3 (show Of Z=true from c) (show 32≤8388608 by omega)];rfl
def nnr(a:rM→α)(Z:rM):α:=bif Bk true (Pf 72 [] Z) then a Z else kW
theorem ntx(a:rM→α)(Z:rM)(b:Of Z=true):nnr kW a Z=a (cp Z):=by have c:Of Z=true:=b;unfold nnr;rw[W3 (show Of Z=true from c) (show 72≤8388608 by omega)];rfl
def SJ(a:rM→α)(Z:rM)(d:Int)(e:Int→rM→α)(b:Int)(c:rM):α:=bif decide (b<d) then bif Bk true (idx b Z) then bif Bk (Bk true (Of (Zc (V Z (lq b)) 2))) (Pf 40 c ([[.int (J (V Z (lq b)) 0),.int (J (V Z (lq b)) 1),.sl (cp (Zc (V Z (lq b)) 2))]])) then e (ZK (b+1)) (c++([[.int (J (V Z (lq b)) 0),.int (J (V Z (lq b)) 1),.sl (cp (Zc (V Z (lq b)) 2))]])) else kW else kW else a c
def qT(a:rM→α)(N:Nat)(Z:rM)(b:Int)(c:Nat):Int→rM→α:=WS (λ_ _=>kW) (SJ kW a Z b) c
theorem nAL(a:rM→α)(N:Nat)(Z:rM)(b:Int)(c:Nat):qT kW a N Z b (c+1)=SJ kW a Z b (qT kW a N Z b c):=rfl
def O8(kW:α)(a:rM→α)(b:Int→Int→rM→α)(Z:rM):α:=b (len Z) 0 []
def nws(a:rM→α)(N:Nat)(Z:rM):α:=O8 kW a (λb=>qT kW a N Z b N) Z
theorem nAF(a:rM→α)(Z:rM)(f:Oj (.sl [.i,.i,.sl vL]) (.sl Z))(g:wB Z=true):∃N,nws kW a N Z=a (cp Z):=by
 obtain⟨h,j⟩:=jD f;have c:=g;simp only[wB,gF,p6] at c;obtain⟨k,l⟩:=c;have q:=RG k;refine⟨Z.length+1, ?_⟩;unfold nws O8;refine (Xb Z.length (λn i o=>qT kW a (Z.length+1) Z (len Z) n i o) (λi o=>o++[V Z i]) a (λi o=>o.length≤i) ?_ ?_ ?_ (Z.length+1) [] (by simp) (by omega)).trans ?_
 ·intro i o b d;simp only[Qe,di,l9];omega
 ·intro n i o b d;show qT kW a (Z.length+1) Z (len Z) (n+1) (i:Int) o=_;rw[nAL];have m:[DC.int (J (V Z i) 0),DC.int (J (V Z i) 1),DC.sl (Zc (V Z i) 2)]=V Z i:=R3.eta (j _ (oA b));have e:Of (Zc (V Z i) 2)=true:=l _ (oA b);have s:Pf 8 [] (Zc (V Z i) 2)=true:=W3 e (show 8≤8388608 by omega);have p:∀x:List DC,Pf 40 o [x]=true:=λx=>Q0 (by simp only[di,l9];omega) (by omega);simp only[SJ,cp,T9 b,uH b,e,p,m,Q8 b h,lN,cd,TK,HI]
 ·intro n o d;show qT kW a (Z.length+1) Z (len Z) (n+1) (Z.length:Int) o=_;rw[nAL];simp only[SJ,hO,rl]
 ·exact congrArg a ((pd (λ(o:rM) (r:List DC)=>o++[r]) Z [] []).trans ((foldl_push (λr=>r) Z []).trans (by simp[cp])))
def nG(q:Sx):Bool:=Of q.nM.oq && wB q.nx
def nar(a:Sx→α)(q:Sx):α:=bif Bk (Bk true (ig q.nM)) (wB q.nx) then a (⟨q.d5,cp q.nM,cp q.nx,q.en⟩:Sx) else kW
theorem nlw(a:Sx→α)(q:Sx)(c:nG q=true):nar kW a q=a (cp q):=by have b:=c;simp only[nG,gF] at b;obtain⟨d,e⟩:=b;unfold nar;rw[show ig q.nM=true from d,e];rfl
def Zh(a:QP→α)(x:rM)(n:Int)(d e:rM)(f:Int)(g:Bool)(h o p:rM)(q:Y)(r i j k l:rM)(s t u v w y z A:Int)(B:Bool)(C D E F G:Int)(H I K L M:rM)(N:Int→rM→α)(b:Int)(c:rM):α:=let m:nJ:=(⟨o,(⟨p⟩:W4),(⟨q,r⟩:aV)⟩:nJ);bif decide (b<n) then bif Bk true (idx b x) then bif Bk (Bk true (ig (Cf.nd (V x (lq b)) 0))) (Pf 48 c [Cf.enc (cp (Cf.nd (V x (lq b)) 0))]) then N (ZK (b+1)) (c++[Cf.enc (cp (Cf.nd (V x (lq b)) 0))]) else kW else kW else bif Bk true (Pf 40 [] d) then bif Bk true (Pf 1 [] e) then bif Bk true (C5 (⟨f,g,h⟩:AP)) then bif Bk true (ai m) then bif Bk true (Of i) then bif Bk true (Of j) then bif Bk true (Of k) then bif Bk true (Of l) then a (⟨(⟨H⟩:TV),I,(⟨(⟨s,t,u,v⟩:jW),(⟨w,y,z,K⟩:Cf),L,A⟩:Sx),M,c,d,e,cp (⟨f,g,h⟩:AP),cp m,cp i,B,cp j,cp k,cp l,(⟨C,D,E,F,G⟩:SI)⟩:QP) else kW else kW else kW else kW else kW else kW else kW else kW
def jL(a:QP→α)(N:Nat)(x:rM)(b:Int)(c d:rM)(e:Int)(f:Bool)(g h i:rM)(j:Y)(k l m n o:rM)(p q r s t u v w:Int)(y:Bool)(z A B C D:Int)(E F G H I:rM)(K:Nat):Int→rM→α:=WS (λ_ _=>kW) (Zh kW a x b c d e f g h i j k l m n o p q r s t u v w y z A B C D E F G H I) K
theorem nrl(a:QP→α)(N:Nat)(x:rM)(b:Int)(c d:rM)(e:Int)(f:Bool)(g h i:rM)(j:Y)(k l m n o:rM)(p q r s t u v w:Int)(y:Bool)(z A B C D:Int)(E F G H I:rM)(K:Nat):jL kW a N x b c d e f g h i j k l m n o p q r s t u v w y z A B C D E F G H I (K+1)=Zh kW a x b c d e f g h i j k l m n o p q r s t u v w y z A B C D E F G H I (jL kW a N x b c d e f g h i j k l m n o p q r s t u v w y z A B C D E F G H I K):=rfl
def rq(a:QP→α)(b:rM→Int→rM→rM→Int→Bool→rM→rM→rM→Y→rM→rM→rM→rM→rM→Int→Int→Int→Int→Int→Int→Int→Int→Bool→Int→Int→Int→Int→Int→rM→rM→rM→rM→rM→Int→rM→α)(h:QP):α:=bif Bk true (zH h.oa) then bif Bk true (Of h.ei) then bif Bk true (nG h.Tx) then bif Bk true (Pf 248 [] h.Rx) then b h.oh (len h.oh) h.nL h.n8 h.ec.N8 h.ec.n9 h.ec.pO h.ni.oQ h.ni.eb.nO h.ni.nV.eJ h.ni.nV.eb h.oI h.tB h.ox h.oV (((cp h.Tx).d5).nW) (((cp h.Tx).d5).nA) (((cp h.Tx).d5).ej) (((cp h.Tx).d5).pj) (((cp h.Tx).nM).nW) (((cp h.Tx).nM).nA) (((cp h.Tx).nM).d9) ((cp h.Tx).en) h.oU h.d4.ek h.d4.zN h.d4.oB h.d4.oZ h.d4.qE ((cp h.oa).nQ) (cp h.ei) (((cp h.Tx).nM).oq) ((cp h.Tx).nx) h.Rx 0 [] else kW else kW else kW else kW
def nrG(a:QP→α)(N:Nat)(h:QP):α:=rq kW a (λx b c d e f g i j k l m n o p q r s t u v w y z A B C D E F G H I K=>jL kW a N x b c d e f g i j k l m n o p q r s t u v w y z A B C D E F G H I K N) h
theorem nwo(a:QP→α)(h:QP)(U:i_ QP.ct h.enc)(aN:eW h=true):∃N,nrG kW a N h=a (cp h):=by
 obtain⟨hl,hw⟩:=jD (QP.noc U);have Ii:eW h=true:=aN;simp only[eW,gF] at Ii;obtain⟨s0,s1,s2,s3,s4,s5,s6,s7,s8,s9,W,X,Z,s13,s14,s15⟩:=Ii;simp only[uL,gF,p6] at s5;obtain⟨t1,t2⟩:=s5;have l1:=RG t1;have m2:nG h.Tx=true:=by simp only[nG,s2,s3,q5]
 have r4:Pf 248 [] h.Rx=true:=W3 s4 (by omega);refine⟨h.oh.length+1, ?_⟩;unfold nrG rq;rw[show zH h.oa=true from s0];simp only[m2,r4,s1,cd,HI];have key:∀(b:rM) (c:rM) (p:Int) (q:Bool) (d:rM) (e:rM) (f:rM) (s:Y) (g:rM) (j:rM) (k:rM) (l:rM) (m:rM) (t:Int) (u:Int) (v:Int) (w:Int) (y:Int) (z:Int) (A:Int) (B:Int) (C:Bool) (D:Int) (E:Int) (F:Int) (G:Int) (H:Int) (I:rM) (K:rM) (L:rM) (M:rM) (O:rM),Of b=true→Of c=true→Of d=true→Of e=true→Of f=true→Of g=true→Of j=true→Of k=true→Of l=true→Of m=true→
   jL kW a (h.oh.length+1) h.oh (len h.oh) b c p q d e f s g j k l m t u v w y z A B C D E F G H I K L M O (h.oh.length+1) 0 []=a (⟨(⟨I⟩:TV),K,(⟨(⟨t,u,v,w⟩:jW),(⟨y,z,A,L⟩:Cf),M,B⟩:Sx),O,h.oh,b,c,(⟨p,q,d⟩:AP),(⟨e,(⟨f⟩:W4),(⟨s,g⟩:aV)⟩:nJ),j,C,k,l,m,(⟨D,E,F,G,H⟩:SI)⟩:QP):=by
  intro b c p q d e f s g j k l m t u v w y z A B C D E F G H I K L M O q6 q7 q8 q9 q10 q11 Q R S T;have u6:Pf 40 [] b=true:=W3 q6 (by omega);have u7:Pf 1 [] c=true:=W3 q7 (by omega);have u8:C5 (⟨p,q,d⟩:AP)=true:=q8;have u9:ai (⟨e,(⟨f⟩:W4),(⟨s,g⟩:aV)⟩:nJ)=true:=by simp only[ai,q9,q10,q11,q5]
  have u12:Pf 72 [] j=true:=W3 Q (by omega);have u13:Pf 16 [] k=true:=W3 R (by omega);have u14:Pf 8 [] l=true:=W3 S (by omega);have u15:Pf 8 [] m=true:=W3 T (by omega);refine (Xb h.oh.length (λn i o=>jL kW a (h.oh.length+1) h.oh (len h.oh) b c p q d e f s g j k l m t u v w y z A B C D E F G H I K L M O n i o) (λi o=>o++[V h.oh i]) (λo=>a (⟨(⟨I⟩:TV),K,(⟨(⟨t,u,v,w⟩:jW),(⟨y,z,A,L⟩:Cf),M,B⟩:Sx),O,o,b,c,(⟨p,q,d⟩:AP),(⟨e,(⟨f⟩:W4),(⟨s,g⟩:aV)⟩:nJ),j,C,k,l,m,(⟨D,E,F,G,H⟩:SI)⟩:QP)) (λi o=>o.length≤i) ?_ ?_ ?_ (h.oh.length+1) [] (by simp) (by omega)).trans ?_
  ·intro i o P ho;simp only[Qe,di,l9];omega
  ·intro n i o P ho;show jL kW a (h.oh.length+1) h.oh (len h.oh) b c p q d e f s g j k l m t u v w y z A B C D E F G H I K L M O (n+1) (i:Int) o=_;rw[nrl];have er:Cf.enc (Cf.nd (V h.oh i) 0)=V h.oh i:=Cf.eta (hw _ (oA P));have hb:ig (Cf.nd (V h.oh i) 0)=true:=t2 _ (oA P);have ff:∀x:List DC,Pf 48 o [x]=true:=λx=>Q0 (by simp only[di,l9];omega) (by omega);simp only[Zh,cp,T9 P,uH P,hb,ff,er,Q8 P hl,lN,cd,TK,HI]
  ·intro n o ho;show jL kW a (h.oh.length+1) h.oh (len h.oh) b c p q d e f s g j k l m t u v w y z A B C D E F G H I K L M O (n+1) (h.oh.length:Int) o=_;rw[nrl];simp only[Zh,hO,rl,cp,u6,u7,u8,u9,u12,u13,u14,u15,Q,R,S,T,cd,HI]
  ·exact congrArg (λo=>a (⟨(⟨I⟩:TV),K,(⟨(⟨t,u,v,w⟩:jW),(⟨y,z,A,L⟩:Cf),M,B⟩:Sx),O,o,b,c,(⟨p,q,d⟩:AP),(⟨e,(⟨f⟩:W4),(⟨s,g⟩:aV)⟩:nJ),j,C,k,l,m,(⟨D,E,F,G,H⟩:SI)⟩:QP)) ((pd (λ(o:rM) (r:List DC)=>o++[r]) h.oh [] []).trans ((foldl_push (λr=>r) h.oh []).trans (by simp)))
 exact key _ _ _ _ _ _ _ _ _ _ _ _ _ _ _ _ _ _ _ _ _ _ _ _ _ _ _ _ _ _ _ _ s6 s7 s8 s9 W X Z s13 s14 s15
def ng(a:Tj→α)(v:Tj):α:=bif bif due v then !v.tv else false then a (⟨v.rp,v.sF,v.d9,v.e6,v.tv,true⟩:Tj) else a v
def Ok(v:Tj):Tj:=ng id v
theorem ne9(a:Tj→α)(v:Tj):ng a v=a (Ok v):=by exact cU rfl rfl
def wZ(a:Tj→α)(v:Tj):α:=bif !(fm v) then a v else bif decide (0<v.d9) then a (Ok (⟨v.rp,v.sF,v.d9,kh (ZK (v.e6+1)) 1000000,v.tv,v.u5⟩:Tj)) else a (Ok v)
def We(v:Tj):Tj:=wZ id v
theorem nCO(a:Tj→α)(v:Tj):wZ a v=a (We v):=by exact cU rfl (cU rfl rfl)
def kl(r:List DC):List DC:=Tj.enc (We (Tj.nd r 0))
def S4(h:QP):Bool:=eW h && jV h
def A0(h:QP):QP:=bif sN h then {h with nL:=h.nL.map kl} else h
def Ws(a:QP→α)(x d e f g h i j k l:Int)(m:Bool)(n:Y)(o:Bool)(p q r s t:Int)(u v w y z A B C D E F G H I K:rM)(L:Int→rM→α)(b:Int)(c:rM):α:=bif decide (b<x) then bif Bk (Bk (Bk (Bk true (idx b c)) (inl (lq b) c)) (idx b c)) (inl (lq b) c) then L (ZK (b+1)) (nq c (lq b) (CI (V c (lq b)) 0 (Tj.enc (We (Tj.nd (V c (lq b)) 0))))) else kW else a (⟨(⟨u⟩:TV),v,(⟨(⟨d,e,f,g⟩:jW),(⟨h,i,j,w⟩:Cf),y,k⟩:Sx),z,A,c,B,(⟨l,m,C⟩:AP),(⟨D,(⟨E⟩:W4),(⟨n,F⟩:aV)⟩:nJ),G,o,H,I,K,(⟨p,q,r,s,t⟩:SI)⟩:QP)
def nc(a:QP→α)(N:Nat)(x b c d e f g h i j:Int)(k:Bool)(l:Y)(m:Bool)(n o p q r:Int)(s t u v w y z A B C D E F G H:rM)(I:Nat):Int→rM→α:=WS (λ_ _=>kW) (Ws kW a x b c d e f g h i j k l m n o p q r s t u v w y z A B C D E F G H) I
theorem ngi(a:QP→α)(N:Nat)(x b c d e f g h i j:Int)(k:Bool)(l:Y)(m:Bool)(n o p q r:Int)(s t u v w y z A B C D E F G H:rM)(I:Nat):nc kW a N x b c d e f g h i j k l m n o p q r s t u v w y z A B C D E F G H (I+1)=Ws kW a x b c d e f g h i j k l m n o p q r s t u v w y z A B C D E F G H (nc kW a N x b c d e f g h i j k l m n o p q r s t u v w y z A B C D E F G H I):=rfl
def P4(a:QP→α)(b:Int→Int→Int→Int→Int→Int→Int→Int→Int→Int→Bool→Y→Bool→Int→Int→Int→Int→Int→rM→rM→rM→rM→rM→rM→rM→rM→rM→rM→rM→rM→rM→rM→rM→Int→rM→α)(h:QP):α:=bif Bk true (eW h) then bif Bk true (jV h) then bif !(sN h) then a (cp h) else b (len ((cp h).nL)) ((((cp h).Tx).d5).nW) ((((cp h).Tx).d5).nA) ((((cp h).Tx).d5).ej) ((((cp h).Tx).d5).pj) ((((cp h).Tx).nM).nW) ((((cp h).Tx).nM).nA) ((((cp h).Tx).nM).d9) (((cp h).Tx).en) (((cp h).ec).N8) (((cp h).ec).n9) ((((cp h).ni).nV).eJ) ((cp h).oU) (((cp h).d4).ek) (((cp h).d4).zN) (((cp h).d4).oB) (((cp h).d4).oZ) (((cp h).d4).qE) (((cp h).oa).nQ) ((cp h).ei) ((((cp h).Tx).nM).oq) (((cp h).Tx).nx) ((cp h).Rx) ((cp h).oh) ((cp h).n8) (((cp h).ec).pO) (((cp h).ni).oQ) ((((cp h).ni).eb).nO) ((((cp h).ni).nV).eb) ((cp h).oI) ((cp h).tB) ((cp h).ox) ((cp h).oV) 0 ((cp h).nL) else kW else kW
def nyz(a:QP→α)(N:Nat)(h:QP):α:=P4 kW a (λx b c d e f g i j k l m n o p q r s t u v w y z A B C D E F G H I=>nc kW a N x b c d e f g i j k l m n o p q r s t u v w y z A B C D E F G H I N) h
theorem nz4(a:QP→α)(h:QP)(d:i_ QP.ct h.enc)(j:S4 h=true):∃N,nyz kW a N h=a (A0 h):=by
 obtain⟨k,l⟩:=jD (QP.nmg d);have f:(eW h && jV h)=true:=j;simp only[gF] at f;obtain⟨s,b⟩:=f;have b':jV (⟨(⟨h.oa.nQ⟩:TV),h.ei,(⟨(⟨h.Tx.d5.nW,h.Tx.d5.nA,h.Tx.d5.ej,h.Tx.d5.pj⟩:jW),(⟨h.Tx.nM.nW,h.Tx.nM.nA,h.Tx.nM.d9,h.Tx.nM.oq⟩:Cf),h.Tx.nx,h.Tx.en⟩:Sx),h.Rx,h.oh,h.nL,h.n8,(⟨h.ec.N8,h.ec.n9,h.ec.pO⟩:AP),(⟨h.ni.oQ,(⟨h.ni.eb.nO⟩:W4),(⟨h.ni.nV.eJ,h.ni.nV.eb⟩:aV)⟩:nJ),h.oI,h.oU,h.tB,h.ox,h.oV,(⟨h.d4.ek,h.d4.zN,h.d4.oB,h.d4.oZ,h.d4.qE⟩:SI)⟩:QP)=true:=b;refine⟨h.nL.length+1, ?_⟩;unfold nyz P4 A0;simp only[s,b,cp,cd,HI];cases g:sN h
 ·rfl
 ·have m:sN (⟨(⟨h.oa.nQ⟩:TV),h.ei,(⟨(⟨h.Tx.d5.nW,h.Tx.d5.nA,h.Tx.d5.ej,h.Tx.d5.pj⟩:jW),(⟨h.Tx.nM.nW,h.Tx.nM.nA,h.Tx.nM.d9,h.Tx.nM.oq⟩:Cf),h.Tx.nx,h.Tx.en⟩:Sx),h.Rx,h.oh,h.nL,h.n8,(⟨h.ec.N8,h.ec.n9,h.ec.pO⟩:AP),(⟨h.ni.oQ,(⟨h.ni.eb.nO⟩:W4),(⟨h.ni.nV.eJ,h.ni.nV.eb⟩:aV)⟩:nJ),h.oI,h.oU,h.tB,h.ox,h.oV,(⟨h.d4.ek,h.d4.zN,h.d4.oB,h.d4.oZ,h.d4.qE⟩:SI)⟩:QP)=true:=g;refine A1 h.nL (λn i o=>nc kW a (h.nL.length+1) (len h.nL) h.Tx.d5.nW h.Tx.d5.nA h.Tx.d5.ej h.Tx.d5.pj h.Tx.nM.nW h.Tx.nM.nA h.Tx.nM.d9 h.Tx.en h.ec.N8 h.ec.n9 h.ni.nV.eJ h.oU h.d4.ek h.d4.zN h.d4.oB h.d4.oZ h.d4.qE h.oa.nQ h.ei h.Tx.nM.oq h.Tx.nx h.Rx h.oh h.n8 h.ec.pO h.ni.oQ h.ni.eb.nO h.ni.nV.eb h.oI h.tB h.ox h.oV n i o) (λo=>a {h with nL:=o}) kl ?_ ?_
  ·intro n i o c p q;show nc kW a (h.nL.length+1) (len h.nL) h.Tx.d5.nW h.Tx.d5.nA h.Tx.d5.ej h.Tx.d5.pj h.Tx.nM.nW h.Tx.nM.nA h.Tx.nM.d9 h.Tx.en h.ec.N8 h.ec.n9 h.ni.nV.eJ h.oU h.d4.ek h.d4.zN h.d4.oB h.d4.oZ h.d4.qE h.oa.nQ h.ei h.Tx.nM.oq h.Tx.nx h.Rx h.oh h.n8 h.ec.pO h.ni.oQ h.ni.eb.nO h.ni.nV.eb h.oI h.tB h.ox h.oV (n+1) (i:Int) o=_;rw[ngi];have e:=congrArg m_ (Tj.eta (l _ (oA c)));have r:CI (V h.nL i) 0 (Tj.enc (We (Tj.nd (V h.nL i) 0)))=Tj.enc (We (Tj.nd (V h.nL i) 0)):=YS (e.symm.trans rfl);have t:idx (i:Int) o=true:=uH (by omega);have u:inl i o=true:=SG (by omega);simp only[Ws,T9 c,uH c,t,u,q,r,b,b',g,m,Q8 c k,lN,cd,TK,CC,HI,kl]
  ·intro n o p;show nc kW a (h.nL.length+1) (len h.nL) h.Tx.d5.nW h.Tx.d5.nA h.Tx.d5.ej h.Tx.d5.pj h.Tx.nM.nW h.Tx.nM.nA h.Tx.nM.d9 h.Tx.en h.ec.N8 h.ec.n9 h.ni.nV.eJ h.oU h.d4.ek h.d4.zN h.d4.oB h.d4.oZ h.d4.qE h.oa.nQ h.ei h.Tx.nM.oq h.Tx.nx h.Rx h.oh h.n8 h.ec.pO h.ni.oQ h.ni.eb.nO h.ni.nV.eb h.oI h.tB h.ox h.oV (n+1) (h.nL.length:Int) o=_;rw[ngi];simp only[Ws,hO,b,b',cd,CC,HI,rl]
end
end Go.Proofs.YteffpikahopfoaaGreat.Pl
