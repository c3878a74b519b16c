/- Conditions: as each says. -/
import Derived.Test.YteffpikahopfoaaGreatPre
import Derived.Test.YteffpikahopfoaaGreatLem
import Derived.Test.YteffpikahopfoaaGreatBit
import Derived.Test.YteffpikahopfoaaGreatDp
set_option linter.unusedVariables false
set_option linter.unusedSimpArgs false
set_option maxRecDepth 100000
open Int renaming toNat→lk,tmod→lp,tdiv→ly,eq_ofNat_of_zero_le→m_,emod_nonneg→ns,tmod_eq_emod_of_nonneg→nI,toNat_of_nonneg→oV,emod_lt_of_pos→oW
open List renaming length_nil→lq,replicate→ma,length_drop→mg,length_take→mq,length→mG,set→m7,getD_eq_getElem?_getD→m8,append_assoc→m9,length_replicate→nq,drop_eq_getElem_cons→nF,length_eq_zero_iff→n_,length_map→oG,all_cons→oX,append_nil→pa,all_eq_true→pf,foldl_cons→pr,map_cons→pv,map_replicate→pH,take_length→p0,getElem_of_mem→p6,getElem?_replicate_of_lt→p8,drop_eq_nil_of_le→p9
open Go.IntKind renaming wrap→lB,max→pZ,signed→p7
open Bool renaming not_true→l_,not_not→n0,and_self→p5
open Nat renaming zero_add→mc,zero_le→mn,le_refl→oo
open BitVec renaming ofInt→mr
namespace Go.Proofs.YteffpikahopfoaaGreat.Pl
open Vm
noncomputable section
abbrev na(α:Type):Type:=Int→Int→Int→Int→Int→Int→u→α
abbrev F9(α:Type):Type:=Int→Int→Int→Int→Int→Int→Int→Int→Int→Int→Bool→x→Bool→Int→Int→Int→Int→Int→u→u→u→u→u→u→u→u→u→u→u→u→u→u→u→u→α
abbrev nCO(α:Type):Type:=Int→Int→Int→Int→Int→Int→Int→Int→Int→Int→Int→Bool→x→Bool→Int→Int→Int→Int→Int→u→u→u→u→u→u→u→u→u→u→u→u→u→u→u→u→α
abbrev d6(α:Type):Type:=Int→u→Int→Int→u→α
abbrev Oj(α:Type):Type:=Int→Int→u→Int→Int→Int→Int→Int→Int→Int→Int→Int→Int→Int→Int→Int→Int→Int→Int→Int→x→u→α
abbrev qb(α:Type):Type:=Int→u→u→Int→Int→Int→Int→Int→Int→Int→u→u→Int→u→u→u→u→Int→Bool→u→u→u→x→u→u→Bool→u→u→u→Int→Int→Int→Int→Int→α
abbrev K:List CT:=[.i]
abbrev sK:List CT:=[.str]
abbrev lU:List CT:=[.i,.i,.i,.bool]
abbrev uz:List CT:=[.i,.i,.i,.i,.i,.i,.i,.i,.i]
abbrev Zi:List CT:=[.i,.i,.i,.i,.i,.i,.i]
abbrev qJ:List CT:=[.i,.i,.i,.i,.i,.i,.str,.bool]
abbrev Cl:List CT:=[.bool]
abbrev o9:List CT:=[.i,.i]
abbrev au:List CT:=[.i,.i,.i,.i,.i,.i,.i,.i,.i,.i,.i,.i,.i,.i,.i,.i,.i,.i,.i,.i,.i,.i,.i,.i,.i,.str,.i,.i,.bool,.i]
abbrev EJ:List CT:=[.i,.i,.i,.i,.bool,.bool]
abbrev d_:List CT:=[.i,.i,.i,.i,.i,.i]
abbrev t8:List CT:=[.i,.i,.i,.i,.i,.i,.i,.i,.i,.i,.i,.i,.i,.i,.i,.str]
abbrev Zu:List CT:=[.i,.i,.i,.i,.i,.i,.i,.i,.i,.i,.i,.i,.i,.i,.i,.i,.str,.i,.i,.str,.i]
variable {α:Type} (lf:α)
structure QD where
 b:Int
 c:Bool
 a:u
def QD.enc(x:QD):List DC:=[.int x.b,.bool x.c,.sl x.a]
def QD.nd(Z:List DC)(o:Nat):QD:=⟨r Z (o+0),Dd Z (o+1),df Z (o+2)⟩
def QD.ct:List CT:=[.i,.bool,.sl K]
theorem QD.eta{r:List DC}(h:Q QD.ct r):(QD.nd r 0).enc=r:=(show (QD.nd r 0).enc=Sy QD.ct r 0 from by kernel_rfl).trans (Qz h)
theorem QD.nX{r:List CT}{b:List DC}(h:Q (QD.ct++r) b):∃(x:QD) (c:List DC),b=x.enc++c∧Q QD.ct x.enc∧Q r c:=by obtain⟨d,e,rfl,a,f⟩:=SU h;exact⟨QD.nd d 0,e,by rw[QD.eta a],by rw[QD.eta a];exact a,f⟩
theorem QD.nA_{x:QD}(h:Q QD.ct x.enc):IJ (.sl K) (.sl x.a):=VM 2 h rfl rfl
def vh(c:Bool→α)(n b a:Int):α:=c (cond (b≤n) (decide (n≤a)) false)
def D(n b a:Int):Bool:=vh id n b a
theorem nv3(c:Bool→α)(n b a:Int):vh c n b a=c (D n b a):=by rfl
def TN(b:Bool→α)(n:Int)(l:u)(c:Int)(d:Int→α)(a:Int):α:=cond (a<c) (cond (t true (A a l)) (cond ((r (q l (lk a)) 0)==n) (b true) (d (s (a+1)))) lf) (b false)
def gF(a:Bool→α)(N:Nat)(n:Int)(l:u)(b:Int)(c:Nat):Int→α:=bW (λ_=>lf) (TN lf a n l b) c
theorem nw9(a:Bool→α)(N:Nat)(n:Int)(l:u)(b:Int)(c:Nat):gF lf a N n l b (c+1)=TN lf a n l b (gF lf a N n l b c):=rfl
def YD(lf:α)(b:Bool→α)(a:Int→Int→α)(l:u)(n:Int):α:=a (len l) 0
def nrg(a:Bool→α)(N:Nat)(l:u)(n:Int):α:=YD lf a (λb=>gF lf a N n l b N) l n
def wc(l:u)(n:Int):Bool:=RP (λ_ Z=>(r Z 0)==n) l 0
theorem ndJ(a:Bool→α)(l:u)(n:Int)(b:IJ (.sl K) (.sl l)):∃N,nrg lf a N l n=a (wc l n):=by
 obtain⟨d,_⟩:=Nh b;refine⟨l.length+1, ?_⟩;unfold nrg YD;refine (x9 l (gF lf a (l.length+1) n l (len l)) (λi Z c=>cond ((r Z 0)==n) (a true) c) (a false) ?_ ?_).trans ?_
 ·intro n i h;rw[nw9];simp only[TN,sg h,mZ h,jy h d,eR,Oi,cz,H]
 ·intro n;rw[nw9];simp only[TN,Ns,J]
 ·exact (Sz (λ_ Z=>(r Z 0)==n) (a true) (a false) l 0).trans (by unfold wc;cases RP (λ_ Z=>(r Z 0)==n) l 0<;>rfl)
def te(c:Bool→α)(x:u)(e f:Int)(b:u)(g:Int→α)(a:Int):α:=let d:Bool:= !(D (r (q x (lk a)) 0) 0 4095);cond (a<e) (cond (t true (A a x)) (cond (pk d true (pk (decide (0<a)) (t true (A (s (a - 1)) b)) true)) (cond (cond d true (cond (0<a) (decide (r (q x (lk a)) 0≤r (q b (lk (s (a - 1)))) 0)) false)) (c false) (g (s (a+1)))) lf) lf) (c (cond (D f 0 281474976710654) (decide (len b≤8)) false))
def UD(a:Bool→α)(N:Nat)(x:u)(b c:Int)(d:u)(e:Nat):Int→α:=bW (λ_=>lf) (te lf a x b c d) e
theorem njE(a:Bool→α)(N:Nat)(x:u)(b c:Int)(d:u)(e:Nat):UD lf a N x b c d (e+1)=te lf a x b c d (UD lf a N x b c d e):=rfl
def bA(lf:α)(b:Bool→α)(a:u→Int→Int→u→Int→α)(f:QD):α:=a f.a (len f.a) f.b f.a 0
def neH(a:Bool→α)(N:Nat)(f:QD):α:=bA lf a (λx b c d=>UD lf a N x b c d N) f
def pY(f:QD):Bool:=cond (RP (λi Z=>cond (!(D (r Z 0) 0 4095)) true (cond ((0:Int)<(i:Int)) (decide (r Z 0≤r (q f.a (lk (s ((i:Int) - 1)))) 0)) false)) f.a 0) false (cond (D f.b 0 281474976710654) (decide (len f.a≤8)) false)
theorem nhX(a:Bool→α)(f:QD)(d:Q QD.ct f.enc):∃N,neH lf a N f=a (pY f):=by
 obtain⟨e,_⟩:=Nh (QD.nA_ d);refine⟨f.a.length+1, ?_⟩;unfold neH bA;refine (x9 f.a (UD lf a (f.a.length+1) f.a (len f.a) f.b f.a) (λi Z c=>cond (cond (!(D (r Z 0) 0 4095)) true (cond ((0:Int)<(i:Int)) (decide (r Z 0≤r (q f.a (lk (s ((i:Int) - 1)))) 0)) false)) (a false) c) (a (cond (D f.b 0 281474976710654) (decide (len f.a≤8)) false)) ?_ ?_).trans ?_
 ·intro n i h;have g:decide ((0:Int)<(i:Int))=true→A (s ((i:Int) - 1)) f.a=true:=by intro b;have b:=of_decide_eq_true b;rw[fg,show (i:Int) - 1=((i - 1:Nat):Int) by omega];exact mZ (by omega)
  rw[njE];simp only[te,sg h,mZ h,jy h e,eR,Oi,cz,H];exact Qo (Wi (λ_=>rfl) (λ_=>Wi (λb=>g b) (λ_=>rfl)))
 ·intro n;rw[njE];simp only[te,Ns,J]
 ·refine (Sz (λi Z=>cond (!(D (r Z 0) 0 4095)) true (cond ((0:Int)<(i:Int)) (decide (r Z 0≤r (q f.a (lk (s ((i:Int) - 1)))) 0)) false)) _ _ f.a 0).trans ?_;exact Ha rfl rfl
def ri(b:Bool→α)(d:Int)(a:u)(e:Int→α)(k:Int):α:=let c:Bool:= !(D (r (q a (lk k)) 0) 0 4095);cond (k<len a) (cond (pk c (t true (A k a)) (pk (decide (0<k)) (t (t (t true (A k a)) (A k a)) (A (s (k - 1)) a)) (t true (A k a)))) (cond (cond c true (cond (0<k) (decide (r (q a (lk k)) 0≤r (q a (lk (s (k - 1)))) 0)) false)) (b false) (e (s (k+1)))) lf) (b (cond (D d 0 281474976710654) (decide (len a≤8)) false))
def wS(a:Bool→α)(N:Nat)(b:Int)(c:u)(d:Nat):Int→α:=bW (λ_=>lf) (ri lf a b c) d
theorem nD3(a:Bool→α)(N:Nat)(b:Int)(c:u)(d:Nat):wS lf a N b c (d+1)=ri lf a b c (wS lf a N b c d):=rfl
def ux(lf:α)(b:Bool→α)(a:Int→u→Int→α)(f:QD):α:=a f.b f.a 0
def nCq(a:Bool→α)(N:Nat)(f:QD):α:=ux lf a (λb c=>wS lf a N b c N) f
theorem nbw(a:Bool→α)(f:QD)(d:Q QD.ct f.enc):∃N,nCq lf a N f=a (pY f):=by
 obtain⟨e,_⟩:=Nh (QD.nA_ d);refine⟨f.a.length+1, ?_⟩;unfold nCq ux;refine (x9 f.a (wS lf a (f.a.length+1) f.b f.a) (λi Z c=>cond (cond (!(D (r Z 0) 0 4095)) true (cond ((0:Int)<(i:Int)) (decide (r Z 0≤r (q f.a (lk (s ((i:Int) - 1)))) 0)) false)) (a false) c) (a (cond (D f.b 0 281474976710654) (decide (len f.a≤8)) false)) ?_ ?_).trans ?_
 ·intro n i h;have g:decide ((0:Int)<(i:Int))=true→A (s ((i:Int) - 1)) f.a=true:=by intro b;have b:=of_decide_eq_true b;rw[fg,show (i:Int) - 1=((i - 1:Nat):Int) by omega];exact mZ (by omega)
  rw[nD3];simp only[ri,sg h,mZ h,jy h e,eR,Oi,cz,H];exact Qo (Wi (λ_=>rfl) (λ_=>Wi (λb=>g b) (λ_=>rfl)))
 ·intro n;rw[nD3];simp only[ri,Ns,J]
 ·refine (Sz (λi Z=>cond (!(D (r Z 0) 0 4095)) true (cond ((0:Int)<(i:Int)) (decide (r Z 0≤r (q f.a (lk (s ((i:Int) - 1)))) 0)) false)) _ _ f.a 0).trans ?_;exact Ha rfl rfl
structure EP where
 c:Int
 f:Int
 e:Int
 d:Int
 g:Int
 b:Int
 h:Int
 a:x
def EP.enc(x:EP):List DC:=[.int x.c,.int x.f,.int x.e,.int x.d,.int x.g,.int x.b,.int x.h,.str x.a]
def EP.nd(Z:List DC)(o:Nat):EP:=⟨r Z (o+0),r Z (o+1),r Z (o+2),r Z (o+3),r Z (o+4),r Z (o+5),r Z (o+6),Gi Z (o+7)⟩
def EP.ct:List CT:=[.i,.i,.i,.i,.i,.i,.i,.str]
theorem EP.eta{r:List DC}(h:Q EP.ct r):(EP.nd r 0).enc=r:=(show (EP.nd r 0).enc=Sy EP.ct r 0 from by kernel_rfl).trans (Qz h)
theorem EP.nX{r:List CT}{b:List DC}(h:Q (EP.ct++r) b):∃(x:EP) (c:List DC),b=x.enc++c∧Q EP.ct x.enc∧Q r c:=by obtain⟨d,e,rfl,a,f⟩:=SU h;exact⟨EP.nd d 0,e,by rw[EP.eta a],by rw[EP.eta a];exact a,f⟩
theorem EP.npj{x:EP}(h:Q EP.ct x.enc):IJ .i (.int x.c):=VM 0 h rfl rfl
theorem EP.nnh{x:EP}(h:Q EP.ct x.enc):IJ .i (.int x.f):=VM 1 h rfl rfl
theorem EP.nng{x:EP}(h:Q EP.ct x.enc):IJ .i (.int x.e):=VM 2 h rfl rfl
theorem EP.nFY{x:EP}(h:Q EP.ct x.enc):IJ .i (.int x.d):=VM 3 h rfl rfl
theorem EP.nEm{x:EP}(h:Q EP.ct x.enc):IJ .i (.int x.b):=VM 5 h rfl rfl
theorem EP.nCt{x:EP}(h:Q EP.ct x.enc):IJ .str (.str x.a):=VM 7 h rfl rfl
structure N where
 h:Int
 i:Int
 e:Int
 f:Int
 g:Int
 c:Int
 b:Int
 d:Int
 a:EP
def N.enc(x:N):List DC:=[.int x.h,.int x.i,.int x.e,.int x.f,.int x.g,.int x.c,.int x.b,.int x.d,.int x.a.c,.int x.a.f,.int x.a.e,.int x.a.d,.int x.a.g,.int x.a.b,.int x.a.h,.str x.a.a]
def N.nd(Z:List DC)(o:Nat):N:=⟨r Z (o+0),r Z (o+1),r Z (o+2),r Z (o+3),r Z (o+4),r Z (o+5),r Z (o+6),r Z (o+7),EP.nd Z (o+8)⟩
def N.ct:List CT:=t8
theorem N.eta{r:List DC}(h:Q N.ct r):(N.nd r 0).enc=r:=(show (N.nd r 0).enc=Sy N.ct r 0 from by kernel_rfl).trans (Qz h)
theorem N.nX{r:List CT}{b:List DC}(h:Q (N.ct++r) b):∃(x:N) (c:List DC),b=x.enc++c∧Q N.ct x.enc∧Q r c:=by obtain⟨d,e,rfl,a,f⟩:=SU h;exact⟨N.nd d 0,e,by rw[N.eta a],by rw[N.eta a];exact a,f⟩
theorem N.nCw{x:N}(h:Q N.ct x.enc):IJ .i (.int x.e):=VM 2 h rfl rfl
theorem N.nF0{x:N}(h:Q N.ct x.enc):IJ .i (.int x.f):=VM 3 h rfl rfl
theorem N.nGv{x:N}(h:Q N.ct x.enc):IJ .i (.int x.g):=VM 4 h rfl rfl
theorem N.nF1{x:N}(h:Q N.ct x.enc):IJ .i (.int x.c):=VM 5 h rfl rfl
theorem N.npl{x:N}(h:Q N.ct x.enc):IJ .i (.int x.b):=VM 6 h rfl rfl
theorem N.nw_{x:N}(h:Q N.ct x.enc):IJ .i (.int x.d):=VM 7 h rfl rfl
theorem N.nFX{x:N}(h:Q N.ct x.enc):Q EP.ct x.a.enc:=gj 8 8 h
def Vj(a:Bool→α)(g:EP):α:=cond (cond (!(D g.f 0 65535)) true (cond (!(D g.e 0 65535)) true (decide (320<len g.a)))) (a false) (cond (g.c==6) (a (cond (D g.d 0 4294967295) (cond (D g.g 0 4294967295) (cond (D g.b 0 31) (D g.h 0 65535) false) false) false)) (cond (g.c==17) (a (cond (g.d==0) (cond (g.g==0) (cond (g.b==0) (g.h==0) false) false) false)) (a false)))
def B5(g:EP):Bool:=Vj id g
theorem ns_(a:Bool→α)(g:EP):Vj a g=a (B5 g):=by exact Ha rfl (Ha rfl (Ha rfl rfl))
def ne0(a:Bool→α)(g:EP):α:=cond (cond (!(D g.f 0 65535)) true (cond (!(D g.e 0 65535)) true (decide (320<len g.a)))) (a false) (cond (g.c==17) (a (cond (g.d==0) (cond (g.g==0) (cond (g.b==0) (g.h==0) false) false) false)) (a (cond (g.c==6) (cond (D g.d 0 4294967295) (cond (D g.g 0 4294967295) (cond (D g.b 0 31) (D g.h 0 65535) false) false) false) false)))
theorem nfn(c:Bool→α)(g:EP):ne0 c g=c (B5 g):=by
 unfold ne0 B5 Vj;refine Ha rfl ?_;by_cases a:g.c=6
 ·have b:(g.c==17)=false:=by rw[a];rfl
  have h6':(g.c==6)=true:=by rw[a];rfl
  rw[b,h6'];rfl
 ·have h6':(g.c==6)=false:=by simpa using a
  rw[h6'];cases (g.c==17)<;>rfl
def nqV(b:Bool→α)(a:Int):α:=b (cond ((bits .and .i64 a 16) != 0) ((bits .andNot .i64 a 25)==0) false)
def HL(a:Int):Bool:=nqV id a
theorem nw0(b:Bool→α)(a:Int):nqV b a=b (HL a):=by rfl
def yU(a:Bool→α)(p:N):α:=a (cond (D p.h 0 281474976710655) (cond (D p.i 0 281474976710655) (cond (D p.e (-1) 4095) (cond (D p.f 0 255) (cond (D p.c 0 255) (cond (D p.g 0 65535) (cond (D p.b 0 4294967295) (cond (D p.d 0 4294967295) (cond (B5 p.a) (cond (len p.a.a≤128) true (cond (p.a.c==6) (HL p.a.b) false)) false) false) false) false) false) false) false) false) false)
def Tp(p:N):Bool:=yU id p
theorem nsQ(a:Bool→α)(p:N):yU a p=a (Tp p):=by rfl
def nyy(a:Bool→α)(p:N):α:=cond (cond (!(D p.h 0 281474976710655)) true (cond (!(D p.i 0 281474976710655)) true (cond (!(D p.e (-1) 4095)) true (cond (!(D p.f 0 255)) true (cond (!(D p.c 0 255)) true (cond (!(D p.g 0 65535)) true (cond (!(D p.b 0 4294967295)) true (cond (!(D p.d 0 4294967295)) true (!(B5 p.a)))))))))) (a false) (a (cond (cond (p.a.c==6) ((bits .andNot .i64 p.a.b 9)==16) false) true (decide (len p.a.a≤128))))
theorem nCg{f:Int}(h:D f 0 31=true):((bits .andNot .i64 f 9)==16)=HL f:=by
 have key:∀n:Fin 32,((bits .andNot .i64 ((n.val:Nat):Int) 9)==16)=HL ((n.val:Nat):Int):=by decide+kernel
 have c:0≤f∧f≤31:=by
  unfold D vh at h;by_cases a:0≤f
  ·by_cases b:f≤31
   ·exact⟨a,b⟩
   ·simp[a,b] at h
  ·simp[a] at h
 have:=key ⟨f.toNat,by omega⟩;simp only at this;rw[show ((f.toNat:Nat):Int)=f by omega] at this;exact this
theorem fsY{g:EP}(h:B5 g=true)(a:(g.c==6)=true):D g.b 0 31=true:=by
 unfold B5 Vj at h;rw[a] at h;cases b:D g.b 0 31
 ·rw[b] at h;revert h;cases (cond (!(D g.f 0 65535)) true (cond (!(D g.e 0 65535)) true (decide (320<len g.a))))<;>cases D g.d 0 4294967295<;>cases D g.g 0 4294967295<;>simp
 ·rfl
theorem nts(a:Bool→α)(p:N):nyy a p=a (Tp p):=by
 unfold nyy Tp yU;cases D p.h 0 281474976710655
 ·rfl
 cases D p.i 0 281474976710655
 ·rfl
 cases D p.e (-1) 4095
 ·rfl
 cases D p.f 0 255
 ·rfl
 cases D p.c 0 255
 ·rfl
 cases D p.g 0 65535
 ·rfl
 cases D p.b 0 4294967295
 ·rfl
 cases D p.d 0 4294967295
 ·rfl
 cases b:B5 p.a
 ·rfl
 cases c:(p.a.c==6)
 ·cases decide (len p.a.a≤128)<;>rfl
 ·rw[nCg (fsY b c)];cases HL p.a.b<;>cases decide (len p.a.a≤128)<;>rfl
def dY(c:Int→α)(a d:Int)(list_:u)(e:Int)(f:Int→α)(b:Int):α:=cond (b<e) (cond (t true (A b list_)) (cond (cond ((r (q list_ (lk b)) 0)==a) ((r (q list_ (lk b)) 1)==d) false) (c b) (f (s (b+1)))) lf) (c (-1))
def iL(b:Int→α)(N:Nat)(a c:Int)(list_:u)(d:Int)(e:Nat):Int→α:=bW (λ_=>lf) (dY lf b a c list_ d) e
theorem npA(b:Int→α)(N:Nat)(a c:Int)(list_:u)(d:Int)(e:Nat):iL lf b N a c list_ d (e+1)=dY lf b a c list_ d (iL lf b N a c list_ d e):=rfl
def RT(lf:α)(c:Int→α)(b:Int→Int→α)(list_:u)(a d:Int):α:=b (len list_) 0
def nzc(b:Int→α)(N:Nat)(list_:u)(a c:Int):α:=RT lf b (λd=>iL lf b N a c list_ d N) list_ a c
def uW(list_:u)(a b:Int):Int:=findIdx (λ_ Z=>cond ((r Z 0)==a) ((r Z 1)==b) false) list_ 0
theorem nxe(b:Int→α)(list_:u)(a d:Int)(e:IJ (.sl lU) (.sl list_)):∃N,nzc lf b N list_ a d=b (uW list_ a d):=by
 obtain⟨f,_⟩:=Nh e;refine⟨list_.length+1, ?_⟩;unfold nzc RT;refine (x9 list_ (iL lf b (list_.length+1) a d list_ (len list_)) (λi Z c=>cond (cond ((r Z 0)==a) ((r Z 1)==d) false) (b (i:Int)) c) (b (-1)) ?_ ?_).trans ?_
 ·intro n i h;rw[npA];simp only[dY,sg h,mZ h,jy h f,eR,Oi,cz,H]
 ·intro n;rw[npA];simp only[dY,Ns,J]
 ·exact vd (λi Z=>cond ((r Z 0)==a) ((r Z 1)==d) false) b list_ 0
def WI(b:Bool→α)(list_ x:u)(c:Int)(d:Int→α)(a:Int):α:=cond (a<c) (cond (t true (A a x)) (cond (cond (!(D (r (q x (lk a)) 0) 0 7)) true (cond (!(D (r (q x (lk a)) 1) 0 1023)) true (cond (!(D (r (q x (lk a)) 2) 0 63)) true ((uW list_ (r (q x (lk a)) 0) (r (q x (lk a)) 1)) != a)))) (b false) (d (s (a+1)))) lf) (b (decide (len list_≤96)))
def A3(a:Bool→α)(N:Nat)(list_ x:u)(b:Int)(c:Nat):Int→α:=bW (λ_=>lf) (WI lf a list_ x b) c
theorem nzS(a:Bool→α)(N:Nat)(list_ x:u)(b:Int)(c:Nat):A3 lf a N list_ x b (c+1)=WI lf a list_ x b (A3 lf a N list_ x b c):=rfl
def nFS(lf:α)(b:Bool→α)(a:u→Int→Int→α)(list_:u):α:=a list_ (len list_) 0
def naF(a:Bool→α)(N:Nat)(list_:u):α:=nFS lf a (λx b=>A3 lf a N list_ x b N) list_
def Vz(Z:List DC):Bool:=cond (!(D (r Z 0) 0 7)) true (cond (!(D (r Z 1) 0 1023)) true (!(D (r Z 2) 0 63)))
def mC(list_:u):Bool:=cond (96<len list_) false (cond (RP (λi Z=>cond (Vz Z) true (Ot (λj=>cond ((r (q list_ j) 0)==(r Z 0)) ((r (q list_ j) 1)==(r Z 1)) false) i 0)) list_ 0) false true)
theorem nra(a:Bool→α)(list_:u)(f:IJ (.sl lU) (.sl list_)):∃N,naF lf a N list_=a (mC list_):=by
 obtain⟨g,_⟩:=Nh f;refine⟨list_.length+1, ?_⟩;unfold naF nFS;refine (x9 list_ (A3 lf a (list_.length+1) list_ list_ (len list_)) (λi Z c=>cond (cond (Vz Z) true ((uW list_ (r Z 0) (r Z 1)) != (i:Int))) (a false) c) (a (decide (len list_≤96))) ?_ ?_).trans ?_
 ·intro n i h;rw[nzS];simp only[WI,sg h,mZ h,jy h g,eR,Oi,cz,H];unfold Vz;cases D (r (q list_ i) 0) 0 7<;>cases D (r (q list_ i) 1) 0 1023<;>cases D (r (q list_ i) 2) 0 63<;>rfl
 ·intro n;rw[nzS];simp only[WI,Ns,J]
 ·refine (Sz (λi Z=>cond (Vz Z) true ((uW list_ (r Z 0) (r Z 1)) != (i:Int))) _ _ list_ 0).trans ?_;have e:RP (λi Z=>cond (Vz Z) true ((uW list_ (r Z 0) (r Z 1)) != (i:Int))) list_ 0=RP (λi Z=>cond (Vz Z) true (Ot (λj=>cond ((r (q list_ j) 0)==(r Z 0)) ((r (q list_ j) 1)==(r Z 1)) false) i 0)) list_ 0:=by apply naG;intro i k;rw[mc];have b:=nkx (λ_ Z=>cond ((r Z 0)==(r (q list_ i) 0)) ((r Z 1)==(r (q list_ i) 1)) false) list_ 0 i k (by simp);rw[mc] at b;have b:((uW list_ (r (q list_ i) 0) (r (q list_ i) 1)) != (i:Int))=_:=b;rw[b]
  rw[e];unfold mC;by_cases d:96<len list_
  ·simp only[Hd d,H,show decide (len list_≤96)=false from ja (by omega)];cases RP (λi Z=>cond (Vz Z) true (Ot (λj=>cond ((r (q list_ j) 0)==(r Z 0)) ((r (q list_ j) 1)==(r Z 1)) false) i 0)) list_ 0<;>rfl
  ·simp only[ja d,J,show decide (len list_≤96)=true from Hd (by omega)];exact Ha rfl rfl
def Bq(a:Bool→α)(b:Int→Int→Int→Int→α)(list_:u)(c:Int→α)(k:Int):α:=cond (k<len list_) (cond (t true (A k list_)) (cond (cond (!(D (r (q list_ (lk k)) 0) 0 7)) true (cond (!(D (r (q list_ (lk k)) 1) 0 1023)) true (!(D (r (q list_ (lk k)) 2) 0 63)))) (a false) (b k (r (q list_ (lk k)) 0) (r (q list_ (lk k)) 1) 0)) lf) (a true)
def Rq(b:Bool→α)(c:Int→α)(list_:u)(k x d:Int)(e:Int→α)(i:Int):α:=let a:Bool:=(r (q list_ (lk i)) 0)==x;cond (i<k) (cond (pk a (t (t true (A i list_)) (A i list_)) (t true (A i list_))) (cond (cond a ((r (q list_ (lk i)) 1)==d) false) (b false) (e (s (i+1)))) lf) (c (s (k+1)))
def lM(a:Bool→α)(N:Nat)(b:Int→α)(list_:u)(k x c:Int)(d:Nat):Int→α:=bW (λ_=>lf) (Rq lf a b list_ k x c) d
theorem nEd(a:Bool→α)(N:Nat)(b:Int→α)(list_:u)(k x c:Int)(d:Nat)(i:Int):lM lf a N b list_ k x c (d+1) i=Rq lf a b list_ k x c (lM lf a N b list_ k x c d) i:=rfl
def zw(a:Bool→α)(N:Nat)(list_:u)(c:Nat):Int→α:=bW (λ_=>lf) (λb=>Bq lf a (λk x d=>lM lf a N b list_ k x d N) list_ b) c
theorem naM(a:Bool→α)(N:Nat)(list_:u)(b:Nat)(k:Int):zw lf a N list_ (b+1) k=Bq lf a (λk x c=>lM lf a N (zw lf a N list_ b) list_ k x c N) list_ (zw lf a N list_ b) k:=rfl
def ni8(lf:α)(a:Bool→α)(b:Int→α)(list_:u):α:=cond (96<len list_) (a false) (b 0)
def wV(a:Bool→α)(N:Nat)(list_:u):α:=ni8 lf a (zw lf a N list_ N) list_
theorem nxP(a:Bool→α)(list_:u)(f:IJ (.sl lU) (.sl list_)):∃N,wV lf a N list_=a (mC list_):=by
 obtain⟨g,_⟩:=Nh f;refine⟨list_.length+1, ?_⟩;unfold wV ni8 mC;refine Ha rfl ?_;have d:∀(b:Int→α) (i:Nat),i<list_.length→lM lf a (list_.length+1) b list_ (i:Int) (r (q list_ i) 0) (r (q list_ i) 1) (list_.length+1) 0=cond (Ot (λj=>cond ((r (q list_ j) 0)==(r (q list_ i) 0)) ((r (q list_ j) 1)==(r (q list_ i) 1)) false) i 0) (a false) (b ((i:Int)+1)):=by
  intro b i k;have l:s ((i:Int)+1)=(i:Int)+1:=jy k g;have:=Qr (σ:=Unit) i (λn j _=>lM lf a (list_.length+1) b list_ (i:Int) (r (q list_ i) 0) (r (q list_ i) 1) n j) (λj c Y=>cond (cond ((r (q list_ j) 0)==(r (q list_ i) 0)) ((r (q list_ j) 1)==(r (q list_ i) 1)) false) (a false) (c Y)) (λ_=>b ((i:Int)+1)) ?_ ?_ (list_.length+1) () (by omega)
  ·exact this.trans (RO (λj=>cond ((r (q list_ j) 0)==(r (q list_ i) 0)) ((r (q list_ j) 1)==(r (q list_ i) 1)) false) (a false) (b ((i:Int)+1)) i 0)
  ·intro n j _ p;show lM lf a (list_.length+1) b list_ (i:Int) (r (q list_ i) 0) (r (q list_ i) 1) (n+1) (j:Int)=_;rw[nEd];have e:decide ((j:Int)<(i:Int))=true:=Hd (by omega);have m:A (j:Int) list_=true:=mZ (by omega);have o:s ((j:Int)+1)=(j:Int)+1:=fg;simp only[Rq,e,m,o,eR,Oi,cz,vb,H]
  ·intro n _;show lM lf a (list_.length+1) b list_ (i:Int) (r (q list_ i) 0) (r (q list_ i) 1) (n+1) (i:Int)=_;rw[nEd];have e:decide ((i:Int)<(i:Int))=false:=ja (by omega);simp only[Rq,e,l,J]
 refine (TR list_ (zw lf a (list_.length+1) list_) (λi Z c=>cond (cond (Vz Z) true (Ot (λj=>cond ((r (q list_ j) 0)==(r Z 0)) ((r (q list_ j) 1)==(r Z 1)) false) i 0)) (a false) c) (a true) ?_ ?_ (list_.length+1) (by omega)).trans ?_
 ·intro n i h;rw[naM];simp only[Bq,sg h,mZ h,eR,Oi,cz,H,vb,d _ i h];show (cond (Vz (q list_ i)) (a false) _)=_;cases Vz (q list_ i)<;>rfl
 ·intro n;rw[naM];simp only[Bq,Ns,J]
 ·refine (Sz (λi Z=>cond (Vz Z) true (Ot (λj=>cond ((r (q list_ j) 0)==(r Z 0)) ((r (q list_ j) 1)==(r Z 1)) false) i 0)) _ _ list_ 0).trans ?_;exact Ha rfl rfl
structure v where
 a:u
def v.enc(x:v):List DC:=[.sl x.a]
def v.nd(r:List DC)(o:Nat):v:=⟨df r (o+0)⟩
def v.ct:List CT:=[.sl sK]
theorem v.eta{r:List DC}(h:Q v.ct r):(v.nd r 0).enc=r:=(show (v.nd r 0).enc=Sy v.ct r 0 from by kernel_rfl).trans (Qz h)
theorem v.nX{r:List CT}{b:List DC}(h:Q (v.ct++r) b):∃(x:v) (c:List DC),b=x.enc++c∧Q v.ct x.enc∧Q r c:=by obtain⟨d,e,rfl,a,f⟩:=SU h;exact⟨v.nd d 0,e,by rw[v.eta a],by rw[v.eta a];exact a,f⟩
theorem v.PG{x:v}(h:Q v.ct x.enc):IJ (.sl sK) (.sl x.a):=VM 0 h rfl rfl
def nx7(a:u→α)(l:u):α:=cond (t true (Em 16 [] l)) (a l) lf
theorem nk5(a:u→α)(l:u)(b:Pw l=true):nx7 lf a l=a (F l):=by unfold nx7;rw[Y2 b (show 16≤8388608 by omega)];rfl
def nxY(a:v→α)(m:v):α:=cond (t true (Pw m.a)) (a (⟨F m.a⟩:v)) lf
def WO(m:v):Bool:=Pw m.a
theorem ncE(a:v→α)(m:v)(b:WO m=true):nxY lf a m=a (F m):=by have h:Pw m.a=true:=b;unfold nxY;simp only[h,Oi,H];rfl
def pC(b:Bool→α)(x:u)(c:Int)(d:u)(e:Int→α)(a:Int):α:=cond (a<c) (cond (t true (A a x)) (cond ((len (Gi (q x (lk a)) 0)) != 128) (b false) (e (s (a+1)))) lf) (b (decide (len d≤64)))
def P2(a:Bool→α)(N:Nat)(x:u)(b:Int)(c:u)(d:Nat):Int→α:=bW (λ_=>lf) (pC lf a x b c) d
theorem nL9(a:Bool→α)(N:Nat)(x:u)(b:Int)(c:u)(d:Nat):P2 lf a N x b c (d+1)=pC lf a x b c (P2 lf a N x b c d):=rfl
def W5(lf:α)(b:Bool→α)(a:u→Int→u→Int→α)(m:v):α:=a m.a (len m.a) m.a 0
def ns1(a:Bool→α)(N:Nat)(m:v):α:=W5 lf a (λx b c=>P2 lf a N x b c N) m
def Km(m:v):Bool:=cond (RP (λ_ r=>(len (Gi r 0)) != 128) m.a 0) false (decide (len m.a≤64))
theorem nAb(a:Bool→α)(m:v)(b:Q v.ct m.enc):∃N,ns1 lf a N m=a (Km m):=by
 obtain⟨d,_⟩:=Nh (v.PG b);refine⟨m.a.length+1, ?_⟩;unfold ns1 W5 Km;refine (x9 m.a (P2 lf a (m.a.length+1) m.a (len m.a) m.a) (λi r c=>cond ((len (Gi r 0)) != 128) (a false) c) (a (decide (len m.a≤64))) ?_ ?_).trans ?_
 ·intro n i h;rw[nL9];simp only[pC,sg h,mZ h,jy h d,eR,Oi,cz,H]
 ·intro n;rw[nL9];simp only[pC,Ns,J]
 ·refine (Sz (λ_ r=>(len (Gi r 0)) != 128) _ _ m.a 0).trans ?_;exact Ha rfl rfl
def RI(b:Bool→α)(a:u)(c:Int→α)(k:Int):α:=cond (k<len a) (cond (t true (A k a)) (cond ((len (Gi (q a (lk k)) 0)) != 128) (b false) (c (s (k+1)))) lf) (b (decide (len a≤64)))
def DN(a:Bool→α)(N:Nat)(b:u)(c:Nat):Int→α:=bW (λ_=>lf) (RI lf a b) c
theorem nj9(a:Bool→α)(N:Nat)(b:u)(c:Nat):DN lf a N b (c+1)=RI lf a b (DN lf a N b c):=rfl
def neI(lf:α)(b:Bool→α)(a:u→Int→α)(m:v):α:=a m.a 0
def nDp(a:Bool→α)(N:Nat)(m:v):α:=neI lf a (λb=>DN lf a N b N) m
theorem nte(a:Bool→α)(m:v)(b:Q v.ct m.enc):∃N,nDp lf a N m=a (Km m):=by
 obtain⟨d,_⟩:=Nh (v.PG b);refine⟨m.a.length+1, ?_⟩;unfold nDp neI Km;refine (x9 m.a (DN lf a (m.a.length+1) m.a) (λi r c=>cond ((len (Gi r 0)) != 128) (a false) c) (a (decide (len m.a≤64))) ?_ ?_).trans ?_
 ·intro n i h;rw[nj9];simp only[RI,sg h,mZ h,jy h d,eR,Oi,cz,H]
 ·intro n;rw[nj9];simp only[RI,Ns,J]
 ·refine (Sz (λ_ r=>(len (Gi r 0)) != 128) _ _ m.a 0).trans ?_;exact Ha rfl rfl
structure I where
 b:Int
 a:Int
 d:Int
 c:Int
def I.enc(x:I):List DC:=[.int x.b,.int x.a,.int x.d,.int x.c]
def I.nd(Z:List DC)(o:Nat):I:=⟨r Z (o+0),r Z (o+1),r Z (o+2),r Z (o+3)⟩
def I.ct:List CT:=[.i,.i,.i,.i]
theorem I.eta{r:List DC}(h:Q I.ct r):(I.nd r 0).enc=r:=(show (I.nd r 0).enc=Sy I.ct r 0 from by kernel_rfl).trans (Qz h)
theorem I.nX{r:List CT}{b:List DC}(h:Q (I.ct++r) b):∃(x:I) (c:List DC),b=x.enc++c∧Q I.ct x.enc∧Q r c:=by obtain⟨d,e,rfl,a,f⟩:=SU h;exact⟨I.nd d 0,e,by rw[I.eta a],by rw[I.eta a];exact a,f⟩
theorem I.nCs{x:I}(h:Q I.ct x.enc):IJ .i (.int x.b):=VM 0 h rfl rfl
theorem I.nkd{x:I}(h:Q I.ct x.enc):IJ .i (.int x.a):=VM 1 h rfl rfl
theorem I.nE2{x:I}(h:Q I.ct x.enc):IJ .i (.int x.d):=VM 2 h rfl rfl
theorem I.nE4{x:I}(h:Q I.ct x.enc):IJ .i (.int x.c):=VM 3 h rfl rfl
structure CI where
 b:Int
 a:Int
 c:Int
def CI.enc(x:CI):List DC:=[.int x.b,.int x.a,.int x.c]
def CI.nd(Z:List DC)(o:Nat):CI:=⟨r Z (o+0),r Z (o+1),r Z (o+2)⟩
def CI.ct:List CT:=[.i,.i,.i]
theorem CI.eta{r:List DC}(h:Q CI.ct r):(CI.nd r 0).enc=r:=(show (CI.nd r 0).enc=Sy CI.ct r 0 from by kernel_rfl).trans (Qz h)
theorem CI.nX{r:List CT}{b:List DC}(h:Q (CI.ct++r) b):∃(x:CI) (c:List DC),b=x.enc++c∧Q CI.ct x.enc∧Q r c:=by obtain⟨d,e,rfl,a,f⟩:=SU h;exact⟨CI.nd d 0,e,by rw[CI.eta a],by rw[CI.eta a];exact a,f⟩
theorem CI.nCs{x:CI}(h:Q CI.ct x.enc):IJ .i (.int x.b):=VM 0 h rfl rfl
theorem CI.nkd{x:CI}(h:Q CI.ct x.enc):IJ .i (.int x.a):=VM 1 h rfl rfl
theorem CI.npi{x:CI}(h:Q CI.ct x.enc):IJ .i (.int x.c):=VM 2 h rfl rfl
structure Ue where
 e:Int
 d:Int
 c:Int
 b:Int
 a:Bool
 f:Bool
def Ue.enc(x:Ue):List DC:=[.int x.e,.int x.d,.int x.c,.int x.b,.bool x.a,.bool x.f]
def Ue.nd(Z:List DC)(o:Nat):Ue:=⟨r Z (o+0),r Z (o+1),r Z (o+2),r Z (o+3),Dd Z (o+4),Dd Z (o+5)⟩
def Ue.ct:List CT:=EJ
theorem Ue.eta{r:List DC}(h:Q Ue.ct r):(Ue.nd r 0).enc=r:=(show (Ue.nd r 0).enc=Sy Ue.ct r 0 from by kernel_rfl).trans (Qz h)
theorem Ue.nX{r:List CT}{b:List DC}(h:Q (Ue.ct++r) b):∃(x:Ue) (c:List DC),b=x.enc++c∧Q Ue.ct x.enc∧Q r c:=by obtain⟨d,e,rfl,a,f⟩:=SU h;exact⟨Ue.nd d 0,e,by rw[Ue.eta a],by rw[Ue.eta a];exact a,f⟩
theorem Ue.npi{x:Ue}(h:Q Ue.ct x.enc):IJ .i (.int x.c):=VM 2 h rfl rfl
structure QI where
 b:N
 a:Int
 c:Int
def QI.enc(x:QI):List DC:=[.int x.b.h,.int x.b.i,.int x.b.e,.int x.b.f,.int x.b.g,.int x.b.c,.int x.b.b,.int x.b.d,.int x.b.a.c,.int x.b.a.f,.int x.b.a.e,.int x.b.a.d,.int x.b.a.g,.int x.b.a.b,.int x.b.a.h,.str x.b.a.a,.int x.a,.int x.c]
def QI.nd(Z:List DC)(o:Nat):QI:=⟨N.nd Z (o+0),r Z (o+16),r Z (o+17)⟩
def QI.ct:List CT:=[.i,.i,.i,.i,.i,.i,.i,.i,.i,.i,.i,.i,.i,.i,.i,.str,.i,.i]
theorem QI.eta{r:List DC}(h:Q QI.ct r):(QI.nd r 0).enc=r:=(show (QI.nd r 0).enc=Sy QI.ct r 0 from by kernel_rfl).trans (Qz h)
theorem QI.nX{r:List CT}{b:List DC}(h:Q (QI.ct++r) b):∃(x:QI) (c:List DC),b=x.enc++c∧Q QI.ct x.enc∧Q r c:=by obtain⟨d,e,rfl,a,f⟩:=SU h;exact⟨QI.nd d 0,e,by rw[QI.eta a],by rw[QI.eta a];exact a,f⟩
theorem QI.nC8{x:QI}(h:Q QI.ct x.enc):Q N.ct x.b.enc:=gj 0 16 h
theorem QI.nkd{x:QI}(h:Q QI.ct x.enc):IJ .i (.int x.a):=VM 16 h rfl rfl
theorem QI.npi{x:QI}(h:Q QI.ct x.enc):IJ .i (.int x.c):=VM 17 h rfl rfl
structure S where
 b:I
 c:CI
 d:CI
 a:QI
 f:Bool
 e:Int
def S.enc(x:S):List DC:=[.int x.b.b,.int x.b.a,.int x.b.d,.int x.b.c,.int x.c.b,.int x.c.a,.int x.c.c,.int x.d.b,.int x.d.a,.int x.d.c,.int x.a.b.h,.int x.a.b.i,.int x.a.b.e,.int x.a.b.f,.int x.a.b.g,.int x.a.b.c,.int x.a.b.b,.int x.a.b.d,.int x.a.b.a.c,.int x.a.b.a.f,.int x.a.b.a.e,.int x.a.b.a.d,.int x.a.b.a.g,.int x.a.b.a.b,.int x.a.b.a.h,.str x.a.b.a.a,.int x.a.a,.int x.a.c,.bool x.f,.int x.e]
def S.nd(Z:List DC)(o:Nat):S:=⟨I.nd Z (o+0),CI.nd Z (o+4),CI.nd Z (o+7),QI.nd Z (o+10),Dd Z (o+28),r Z (o+29)⟩
def S.ct:List CT:=au
theorem S.eta{r:List DC}(h:Q S.ct r):(S.nd r 0).enc=r:=(show (S.nd r 0).enc=Sy S.ct r 0 from by kernel_rfl).trans (Qz h)
theorem S.nX{r:List CT}{b:List DC}(h:Q (S.ct++r) b):∃(x:S) (c:List DC),b=x.enc++c∧Q S.ct x.enc∧Q r c:=by obtain⟨d,e,rfl,a,f⟩:=SU h;exact⟨S.nd d 0,e,by rw[S.eta a],by rw[S.eta a];exact a,f⟩
theorem S.nE3{x:S}(h:Q S.ct x.enc):Q I.ct x.b.enc:=gj 0 4 h
structure ao where
 i:Int
 c:Int
 b:Int
 a:Int
 g:Int
 h:Int
 e:Int
 f:Int
 d:Int
def ao.enc(x:ao):List DC:=[.int x.i,.int x.c,.int x.b,.int x.a,.int x.g,.int x.h,.int x.e,.int x.f,.int x.d]
def ao.nd(Z:List DC)(o:Nat):ao:=⟨r Z (o+0),r Z (o+1),r Z (o+2),r Z (o+3),r Z (o+4),r Z (o+5),r Z (o+6),r Z (o+7),r Z (o+8)⟩
def ao.ct:List CT:=uz
theorem ao.eta{r:List DC}(h:Q ao.ct r):(ao.nd r 0).enc=r:=(show (ao.nd r 0).enc=Sy ao.ct r 0 from by kernel_rfl).trans (Qz h)
theorem ao.nX{r:List CT}{b:List DC}(h:Q (ao.ct++r) b):∃(x:ao) (c:List DC),b=x.enc++c∧Q ao.ct x.enc∧Q r c:=by obtain⟨d,e,rfl,a,f⟩:=SU h;exact⟨ao.nd d 0,e,by rw[ao.eta a],by rw[ao.eta a];exact a,f⟩
theorem ao.npj{x:ao}(h:Q ao.ct x.enc):IJ .i (.int x.c):=VM 1 h rfl rfl
theorem ao.npl{x:ao}(h:Q ao.ct x.enc):IJ .i (.int x.b):=VM 2 h rfl rfl
theorem ao.nCw{x:ao}(h:Q ao.ct x.enc):IJ .i (.int x.e):=VM 6 h rfl rfl
theorem ao.nEn{x:ao}(h:Q ao.ct x.enc):IJ .i (.int x.d):=VM 8 h rfl rfl
structure G where
 b:Int
 a:Int
 c:Int
 d:u
def G.enc(x:G):List DC:=[.int x.b,.int x.a,.int x.c,.sl x.d]
def G.nd(Z:List DC)(o:Nat):G:=⟨r Z (o+0),r Z (o+1),r Z (o+2),df Z (o+3)⟩
def G.ct:List CT:=[.i,.i,.i,.sl K]
theorem G.eta{r:List DC}(h:Q G.ct r):(G.nd r 0).enc=r:=(show (G.nd r 0).enc=Sy G.ct r 0 from by kernel_rfl).trans (Qz h)
theorem G.nX{r:List CT}{b:List DC}(h:Q (G.ct++r) b):∃(x:G) (c:List DC),b=x.enc++c∧Q G.ct x.enc∧Q r c:=by obtain⟨d,e,rfl,a,f⟩:=SU h;exact⟨G.nd d 0,e,by rw[G.eta a],by rw[G.eta a];exact a,f⟩
theorem G.nCs{x:G}(h:Q G.ct x.enc):IJ .i (.int x.b):=VM 0 h rfl rfl
theorem G.nkd{x:G}(h:Q G.ct x.enc):IJ .i (.int x.a):=VM 1 h rfl rfl
theorem G.npi{x:G}(h:Q G.ct x.enc):IJ .i (.int x.c):=VM 2 h rfl rfl
theorem G.nCu{x:G}(h:Q G.ct x.enc):IJ (.sl K) (.sl x.d):=VM 3 h rfl rfl
def Uh(a:Bool→α)(n:Int):α:=a (cond (n==2) true (cond (n==4) true (cond (n==8) true (n==16))))
def SI(n:Int):Bool:=Uh id n
theorem nzq(a:Bool→α)(n:Int):Uh a n=a (SI n):=by rfl
def nmQ(a:Bool→α)(n:Int):α:=a (cond (n==1) true (cond (n==2) true (cond (n==4) true (cond (n==8) true (n==16)))))
def Xv(n:Int):Bool:=nmQ id n
theorem nEa(a:Bool→α)(n:Int):nmQ a n=a (Xv n):=by rfl
def bz(a:Int→α)(x n:Int):α:=cond (t true (!(n==0))) (a (cond (lp x n<0) (s ((lp x n)+n)) (lp x n))) lf
def vt(x n:Int):Bool:=bz false (λ_=>true) x n
def Rk(x n:Int):Int:=(bz none (λa=>some (a)) x n).getD 0
theorem nbf(a:Int→α)(x n:Int)(b:vt x n=true):bz lf a x n=a (Rk x n):=by exact A0 (K:=λr:Int=>a r) (Ro nlp) b
def nn8(a:Int→α)(r:I):α:=let b:Int:=s ((Rk r.c (s (2*r.a))) - (Rk r.d (s (2*r.a))));cond (!(SI r.a)) (a 0) (cond (t (t (t true (vt r.c (s (2*r.a)))) (vt r.d (s (2*r.a)))) (vt b (s (2*r.a)))) (a (Rk b (s (2*r.a)))) lf)
theorem Ov(k:Nat)(d:k≤62)(a:Int):bits .and .i64 a ((2 ^ k - 1:Nat):Int)=a % ((2 ^ k:Nat):Int):=by
 have j:2 ^ k≤2 ^ 62:=Nat.pow_le_pow_right (by decide) d;have f:(2:Nat) ^ 62=4611686018427387904:=by decide
 have g:2 ^ k ∣ (18446744073709551616:Nat):=by rw[show (18446744073709551616:Nat)=2 ^ 64 by decide];exact Nat.pow_dvd_pow 2 (by omega)
 have i:(mr 64 ((2 ^ k - 1:Nat):Int)).toNat=2 ^ k - 1:=by rw[BitVec.ofInt_natCast,BitVec.toNat_ofNat];exact Nat.mod_eq_of_lt (by omega)
 have c:(mr 64 a &&& mr 64 ((2 ^ k - 1:Nat):Int)).toNat=(a % 18446744073709551616).toNat % 2 ^ k:=by rw[BitVec.toNat_and,i,Nat.and_two_pow_sub_one_eq_mod,BitVec.toNat_ofInt];rfl
 have l:(a % 18446744073709551616).toNat % 2 ^ k<2 ^ k:=Nat.mod_lt _ (Nat.pos_of_ne_zero (by intro h;have:=Nat.two_pow_pos k;omega));have b:(((mr 64 a &&& mr 64 ((2 ^ k - 1:Nat):Int)).toNat:Nat):Int)<2 ^ 63:=by
  rw[c];have:(2:Int) ^ 63=9223372036854775808:=by decide
  rw[this];omega
 have e:bits .and .i64 a ((2 ^ k - 1:Nat):Int)=(((mr 64 a &&& mr 64 ((2 ^ k - 1:Nat):Int)).toNat:Nat):Int):=
  XC (((mr 64 a &&& mr 64 ((2 ^ k - 1:Nat):Int)).toNat:Nat):Int) (Int.natCast_nonneg _) b
 rw[e,c,Int.natCast_emod,oV (ns _ (by decide)),Int.emod_emod_of_dvd];exact Int.natCast_dvd_natCast.2 g
theorem and_3(a:Int):bits .and .i64 a 3=a % 4:=Ov 2 (by decide) a
theorem nkk(a:Int):bits .and .i64 a 7=a % 8:=Ov 3 (by decide) a
theorem nl_(a:Int):bits .and .i64 a 15=a % 16:=Ov 4 (by decide) a
theorem nvI(a:Int):bits .and .i64 a 31=a % 32:=Ov 5 (by decide) a
theorem mM{n:Int}(h:SI n=true):n=2∨n=4∨n=8∨n=16:=by
 unfold SI Uh at h;by_cases b:n=2
 ·exact .inl b
 by_cases c:n=4
 ·exact .inr (.inl c)
 by_cases d:n=8
 ·exact .inr (.inr (.inl d))
 by_cases a:n=16
 ·exact .inr (.inr (.inr a))
 simp[b,c,d,a] at h
theorem l9{x n:Int}(i: -9223372036854775808≤x)(j:x≤9223372036854775807)(h:0<n)(k:n≤4294967296):vt x n=true∧Rk x n=x % n:=by
 have f:(n==0)=false:=by simp;omega
 have e:Rk x n=cond (lp x n<0) (s ((lp x n)+n)) (lp x n):=by unfold Rk bz;rw[f];rfl
 refine⟨by unfold vt bz;rw[f];rfl, ?_⟩;rw[e];have d:=Int.tmod_eq_emod (a:=x) (b:=n);have l:=ns x (show n≠0 by omega);have m:=oW x h;by_cases g:lp x n<0
 ·rw[Hd g,H];split at d
  ·omega
  ·have c:((n.natAbs:Nat):Int)=n:=by omega
   rw[c] at d;rw[fg];omega
 ·rw[ja g,J];split at d
  ·omega
  ·have c:((n.natAbs:Nat):Int)=n:=by omega
   rw[c] at d;omega
def TG(r:I):Int:=cond (SI r.a) ((r.c - r.d) % (2*r.a)) 0
theorem ncm(d:Int→α)(r:I)(a:Q I.ct r.enc):nn8 lf d r=d (TG r):=by
 have e:=Ti (I.nE4 a);have f:=Ti (I.nE2 a);unfold nn8 TG;cases g:SI r.a
 ·rfl
 ·have c:s (2*r.a)=2*r.a∧0<2*r.a∧2*r.a≤32:=by rcases mM g with h | h | h | h<;>rw[h]<;>exact⟨rfl,by decide,by decide⟩
  obtain⟨c,b,p⟩:=c;obtain⟨i,j⟩:=l9 e.1 e.2 b (by omega);obtain⟨k,l⟩:=l9 f.1 f.2 b (by omega);have n1:=ns r.c (show 2*r.a≠0 by omega);have n2:=oW r.c b;have q:=ns r.d (show 2*r.a≠0 by omega);have Z:=oW r.d b;have m:s (r.c % (2*r.a) - r.d % (2*r.a))=r.c % (2*r.a) - r.d % (2*r.a):=fg;obtain⟨n,o⟩:=l9 (x:=r.c % (2*r.a) - r.d % (2*r.a)) (by omega) (by omega) b (by omega);simp only[c,i,j,k,l,m,n,o,Oi,cz,H,l_,J];rw[←Int.sub_emod]
def nd5(a:Int→α)(r:I):α:=cond (!(SI r.a)) (a 0) (a (bits .and .i64 (s (r.c - r.d)) (s ((s (2*r.a)) - 1))))
theorem nbM(a:Int→α)(r:I):nd5 a r=a (TG r):=by
 unfold nd5 TG;cases b:SI r.a
 ·rfl
 ·have key:bits .and .i64 (s (r.c - r.d)) (s ((s (2*r.a)) - 1))=(r.c - r.d) % (2*r.a):=by
   rcases mM b with h | h | h | h<;>rw[h]
   ·exact (and_3 _).trans (by rw[C3];show _=(r.c - r.d) % 4;omega)
   ·exact (nkk _).trans (by rw[C3];show _=(r.c - r.d) % 8;omega)
   ·exact (nl_ _).trans (by rw[C3];show _=(r.c - r.d) % 16;omega)
   ·exact (nvI _).trans (by rw[C3];show _=(r.c - r.d) % 32;omega)
  simp only[key,l_,J,H]
def i7(b:Bool→α)(r:I):α:=let a:Int:=s ((s (2*r.a)) - 1);b (cond (D r.b 0 130944) (cond (SI r.a) (cond (D r.d 0 a) (cond (D r.c 0 a) (decide (TG r≤r.a)) false) false) false) false)
def Vd(r:I):Bool:=i7 id r
theorem naA(a:Bool→α)(r:I):i7 a r=a (Vd r):=by rfl
theorem OD{r:I}(h:Vd r=true):2≤r.a∧r.a≤16:=by
 have a:SI r.a=true:=by
  cases a:SI r.a
  ·unfold Vd i7 at h;rw[a] at h;revert h;cases D r.b 0 130944<;>simp
  ·rfl
 rcases mM a with h | h | h | h<;>omega
def RY(a:Bool→α)(q:CI):α:=a (cond (D q.b 0 130944) (cond (SI q.a) (D q.c 0 (s ((s (2*q.a)) - 1))) false) false)
def dq(q:CI):Bool:=RY id q
theorem ny5(a:Bool→α)(q:CI):RY a q=a (dq q):=by rfl
def nmB(a:Bool→α)(v:Ue):α:=a (cond (1≤v.c) (cond (v.e≤v.c) true (decide (v.d≤v.b))) false)
def due(v:Ue):Bool:=nmB id v
theorem nCH(a:Bool→α)(v:Ue):nmB a v=a (due v):=by rfl
def fL(a:Bool→α)(v:Ue):α:=let b:Bool:=cond (due v) (v.f== !v.a) (v.f==false);cond (cond (!(D v.e 1 64)) true (cond (!(D v.d 0 64)) true (cond (!(D v.c 0 1000000)) true (!(D v.b 0 1000000))))) (a false) (a (cond (0<v.c) b (cond (v.b==0) b false)))
def iv(v:Ue):Bool:=fL id v
theorem nsM(a:Bool→α)(v:Ue):fL a v=a (iv v):=by exact Ha rfl rfl
def yp(a:Bool→α)(q:S):α:=cond (cond (!(Vd q.b)) true (cond (!(dq q.c)) true (cond (!(dq q.d)) true (cond (q.c.b != q.d.b) true (cond (q.c.a != q.d.a) true (!(D q.e 0 1000000000000))))))) (a false) (cond (!q.f) (a (cond (cond (q.a.b.h==0) (cond (q.a.b.i==0) (cond (q.a.b.e==0) (cond (q.a.b.f==0) (cond (q.a.b.g==0) (cond (q.a.b.c==0) (cond (q.a.b.b==0) (cond (q.a.b.d==0) (cond (cond (q.a.b.a.c==0) (cond (q.a.b.a.f==0) (cond (q.a.b.a.e==0) (cond (q.a.b.a.d==0) (cond (q.a.b.a.g==0) (cond (q.a.b.a.b==0) (cond (q.a.b.a.h==0) (cond (q.a.b.a.a==[]) true false) false) false) false) false) false) false) false) true false) false) false) false) false) false) false) false) false) (cond (q.a.a==0) (cond (q.a.c==0) true false) false) false)) (a (cond (Tp q.a.b) (cond (D q.a.a 0 320) (D q.a.c 1 320) false) false)))
def TH(q:S):Bool:=yp id q
theorem ncP(a:Bool→α)(q:S):yp a q=a (TH q):=by exact Ha rfl (Ha rfl rfl)
def qH(a:Bool→α)(r:ao):α:=let b:Bool:=cond (!(D r.b 0 4294967295)) true (!(D r.a 0 32));let c:Bool:=cond (r.f==1) (r.d==0) false;cond (cond (!(D r.i 0 1000)) true (cond (r.c != 0) (cond (r.c != 6) (cond (r.c != 17) true b) b) b)) (a false) (cond (cond (r.g<0) true (cond (r.h<r.g) true (cond (65535<r.h) true (!(D r.e (-2) 4095))))) (a false) (a (cond (r.f==0) (cond (D r.d 0 3) true c) c)))
def dG(r:ao):Bool:=qH id r
theorem nrf(a:Bool→α)(r:ao):qH a r=a (dG r):=by exact Ha rfl (Ha rfl rfl)
def Ga(b:Bool→α)(list_ x:u)(c:Int)(d:Int→α)(a:Int):α:=cond (a<c) (cond (t true (A a x)) (cond (!(dG (ao.nd (q x (lk a)) 0))) (b false) (d (s (a+1)))) lf) (b (decide (len list_≤12)))
def DU(a:Bool→α)(N:Nat)(list_ x:u)(b:Int)(c:Nat):Int→α:=bW (λ_=>lf) (Ga lf a list_ x b) c
theorem nvZ(a:Bool→α)(N:Nat)(list_ x:u)(b:Int)(c:Nat):DU lf a N list_ x b (c+1)=Ga lf a list_ x b (DU lf a N list_ x b c):=rfl
def nw2(lf:α)(b:Bool→α)(a:u→Int→Int→α)(list_:u):α:=a list_ (len list_) 0
def nfI(a:Bool→α)(N:Nat)(list_:u):α:=nw2 lf a (λx b=>DU lf a N list_ x b N) list_
def vz(list_:u):Bool:=cond (list_.all (λr=>dG (ao.nd r 0))) (decide (len list_≤12)) false
theorem ngA(a:Bool→α)(list_:u)(b:IJ (.sl uz) (.sl list_)):∃N,nfI lf a N list_=a (vz list_):=by
 obtain⟨d,_⟩:=Nh b;refine⟨list_.length+1, ?_⟩;unfold nfI nw2;refine (x9 list_ (DU lf a (list_.length+1) list_ list_ (len list_)) (λi r c=>cond (!(dG (ao.nd r 0))) (a false) c) (a (decide (len list_≤12))) ?_ ?_).trans ?_
 ·intro n i h;rw[nvZ];simp only[Ga,sg h,mZ h,jy h d,eR,Oi,cz,H]
 ·intro n;rw[nvZ];simp only[Ga,Ns,J]
 ·refine (RK (λr=>dG (ao.nd r 0)) _ _ list_ 0).trans ?_;exact Ha rfl rfl
def ZK(a:Bool→α)(list_:u)(b:Int→α)(k:Int):α:=cond (k<len list_) (cond (t true (A k list_)) (cond (!(dG (ao.nd (q list_ (lk k)) 0))) (a false) (b (s (k+1)))) lf) (a (decide (len list_≤12)))
def OU(a:Bool→α)(N:Nat)(list_:u)(b:Nat):Int→α:=bW (λ_=>lf) (ZK lf a list_) b
theorem byX(a:Bool→α)(N:Nat)(list_:u)(b:Nat):OU lf a N list_ (b+1)=ZK lf a list_ (OU lf a N list_ b):=rfl
def ju(lf:α)(b:Bool→α)(a:Int→α)(list_:u):α:=a 0
def hsQ(a:Bool→α)(N:Nat)(list_:u):α:=ju lf a (OU lf a N list_ N) list_
theorem nl0(a:Bool→α)(list_:u)(b:IJ (.sl uz) (.sl list_)):∃N,hsQ lf a N list_=a (vz list_):=by
 obtain⟨d,_⟩:=Nh b;refine⟨list_.length+1, ?_⟩;unfold hsQ ju;refine (x9 list_ (OU lf a (list_.length+1) list_) (λi r c=>cond (!(dG (ao.nd r 0))) (a false) c) (a (decide (len list_≤12))) ?_ ?_).trans ?_
 ·intro n i h;rw[byX];simp only[ZK,sg h,mZ h,jy h d,eR,Oi,cz,H]
 ·intro n;rw[byX];simp only[ZK,Ns,J]
 ·refine (RK (λr=>dG (ao.nd r 0)) _ _ list_ 0).trans ?_;exact Ha rfl rfl
def ns5(a:u→α)(l:u):α:=cond (t true (Em 8 [] l)) (a l) lf
theorem nwg(a:u→α)(l:u)(b:Pw l=true):ns5 lf a l=a (F l):=by unfold ns5;rw[Y2 b (show 8≤8388608 by omega)];rfl
def ncF(a:G→α)(p:G):α:=cond (t true (Pw p.d)) (a (⟨p.b,p.a,p.c,F p.d⟩:G)) lf
def aU(p:G):Bool:=Pw p.d
theorem nqU(a:G→α)(p:G)(b:aU p=true):ncF lf a p=a (F p):=by have h:Pw p.d=true:=b;unfold ncF;simp only[h,Oi,H];rfl
def nhx(a:G→α)(p:G):α:=cond (t true (Em 8 [] p.d)) (a p) lf
theorem njs(a:G→α)(p:G)(b:aU p=true):nhx lf a p=a (F p):=by have h:Pw p.d=true:=b;unfold nhx;rw[Y2 h (show 8≤8388608 by omega)];rfl
def ml(d:Bool→α)(x:u)(h i:Int)(j:Int→u→α)(b:Int)(a:u):α:=let e:Bool:= !(D (r (q x (lk b)) 0) 0 (s (i - 1)));let c:Nat:=lk (r (q x (lk b)) 0);let f:Bool:=t (t true (A (r (q x (lk b)) 0) a)) (inl c a);let g:List DC:=q a c;cond (b<h) (cond (t true (A b x)) (cond (pk e true f) (cond (cond e true (Dd g 0)) (d false) (cond f (j (s (b+1)) (m7 a c (Sk g 0 [.bool true]))) lf)) lf) lf) (d true)
def CQ(a:Bool→α)(N:Nat)(x:u)(b c:Int)(d:Nat):Int→u→α:=bW (λ_ _=>lf) (ml lf a x b c) d
theorem nrj(a:Bool→α)(N:Nat)(x:u)(b c:Int)(d:Nat):CQ lf a N x b c (d+1)=ml lf a x b c (CQ lf a N x b c d):=rfl
def ND(a:Bool→α)(b:u→Int→Int→Int→u→α)(p:G):α:=cond (cond (!(D p.b 0 130944)) true (cond (!(D p.a 1 512)) true (!(D p.c 0 16)))) (a false) (cond (t true (kZ 1 p.c p.c)) (b p.d (len p.d) p.c 0 (ma (lk p.c) ([.bool false]:List DC))) lf)
def nBf(a:Bool→α)(N:Nat)(p:G):α:=ND lf a (λx b c=>CQ lf a N x b c N) p
def Vy{α σ:Type}(P:List DC→σ→Bool)(f:List DC→σ→σ)(x:α)(W:σ→α):u→σ→α
 | [],s=>W s
 | r::rs,s=>cond (P r s) x (Vy P f x W rs (f r s))
theorem nwj{α σ:Type}(a:u)(L:Nat→Int→σ→α)(P:List DC→σ→Bool)(f:List DC→σ→σ)(x:α)(W:σ→α)(I:Nat→σ→Prop)(c:∀i s,i<a.length→I i s→P (q a i) s=false→I (i+1) (f (q a i) s))
  (d:∀n i s,i<a.length→I i s→L (n+1) (i:Int) s=cond (P (q a i) s) x (L n ((i:Int)+1) (f (q a i) s)))
  (e:∀n s,I a.length s→L (n+1) (a.length:Int) s=W s):∀(m i:Nat) (s:σ),i+m=a.length→I i s→L (m+1) (i:Int) s=Vy P f x W (a.drop i) s
 | 0,i,s,h,hi=>by
  have:i=a.length:=by omega
  subst this;rw[e 0 s hi,List.drop_length];rfl
 | m+1,i,s,h,hi=>by
  have b:i<a.length:=by omega
  rw[d (m+1) i s b hi,nF b];have g:q a i=a[i]:=by simp[q,m8,b]
  show _=cond (P a[i] s) x (Vy P f x W (a.drop (i+1)) (f a[i] s));rw[←g];cases j:P (q a i) s
  ·rw[J,J];have:=nwj a L P f x W I c d e m (i+1) (f (q a i) s) (by omega) (c i s b hi j);rw[←this];rfl
  ·rfl
theorem G8{α σ:Type}(a:u)(L:Nat→Int→σ→α)(P:List DC→σ→Bool)(f:List DC→σ→σ)(x:α)(W:σ→α)(I:Nat→σ→Prop)(b:∀i s,i<a.length→I i s→P (q a i) s=false→I (i+1) (f (q a i) s))
  (c:∀n i s,i<a.length→I i s→L (n+1) (i:Int) s=cond (P (q a i) s) x (L n ((i:Int)+1) (f (q a i) s)))
  (d:∀n s,I a.length s→L (n+1) (a.length:Int) s=W s) (s:σ) (h:I 0 s):L (a.length+1) 0 s=Vy P f x W a s:=
 nwj a L P f x W I b c d a.length 0 s (by omega) h
theorem jP{α β σ:Type}(k:β→α)(P:List DC→σ→Bool)(f:List DC→σ→σ){x:β}(W:σ→β):∀(a:u) (s:σ),Vy P f (k x) (λs=>k (W s)) a s=k (Vy P f x W a s)
 | [],s=>rfl
 | r::rs,s=>by
  simp only[Vy];cases P r s
  ·exact jP k P f W rs _
  ·rfl
theorem cond_congr{c d:Bool}{x y u v:α}(h:c=d)(a:c=true→x=u)(b:c=false→y=v):(cond c x y)=(cond d u v):=by
 subst h;cases c
 ·exact b rfl
 ·exact a rfl
def mv(n:Int)(Z:List DC)(s:u):Bool:=cond (!(D (r Z 0) 0 (n - 1))) true (Dd (q s (lk (r Z 0))) 0)
def ib(Z:List DC)(s:u):u:=m7 s (lk (r Z 0)) (Sk (q s (lk (r Z 0))) 0 [.bool true])
theorem Gp(r:List DC)(s:u):(ib r s).length=s.length:=by simp[ib]
def PM(p:G):Bool:=cond (cond (!(D p.b 0 130944)) true (cond (!(D p.a 1 512)) true (!(D p.c 0 16)))) false (Vy (mv p.c) ib false (λ_=>true) p.d (ma (lk p.c) [.bool false]))
theorem nmS(a:Bool→α)(p:G)(c:Q G.ct p.enc):∃N,nBf lf a N p=a (PM p):=by
 obtain⟨m,t⟩:=Nh (G.nCu c);refine⟨p.d.length+1, ?_⟩;unfold nBf ND PM;refine U6 (λ_=>rfl) (λb=>?_);have u:0≤p.c∧p.c≤16:=by
  cases d:D p.b 0 130944
  ·rw[d] at b;cases b
  cases k:D p.a 1 512
  ·rw[d,k] at b;cases b
  cases l:D p.c 0 16
  ·rw[d,k,l] at b;cases b
  exact YF.1 l
 have e:kZ 1 p.c p.c=true:=by simp only[kZ,Bl,js];omega
 rw[e,Oi,H];refine (G8 p.d (CQ lf a (p.d.length+1) p.d (len p.d) p.c) (mv p.c) ib (a false) (λ_=>a true) (λ_ X=>(X.length:Int)=p.c) (λi X _ h _=>?_) ?_ ?_ (ma (lk p.c) [.bool false]) ?_).trans ?_
 ·show ((ib (q p.d i) X).length:Int)=p.c;rw[Gp,h]
 ·intro n i X h v;rw[nrj];have f:s (p.c - 1)=p.c - 1:=fg;have o:D (r (q p.d i) 0) 0 (p.c - 1)=true→A (r (q p.d i) 0) X=true∧inl (lk (r (q p.d i) 0)) X=true:=by
   intro j;have:=YF.1 j;refine⟨?_, ?_⟩
   ·simp only[A,Bl,js];omega
   ·simp only[inl,js];omega
  unfold mv;simp only[ml,sg h,mZ h,jy h m,eR,Oi,cz,H,f];cases j:D (r (q p.d i) 0) 0 (p.c - 1)
  ·rw[Wi (g:= !false) (x:=true) (λ_=>rfl) (λh=>by cases h)];rfl
  ·obtain⟨Z,Y⟩:=o j;rw[Z,Y];rfl
 ·intro n X _;rw[nrj];simp only[ml,Ns,J]
 ·simp only[nq];omega
 ·exact jP a _ _ (λ_=>true) p.d _
def z_(d:Bool→α)(i:Int)(b:u)(j:Int→u→α)(k:Int)(a:u):α:=let e:Bool:= !(D (r (q b (lk k)) 0) 0 (s (i - 1)));let f:Bool:=A (r (q b (lk k)) 0) a;let c:Nat:=lk (r (q b (lk k)) 0);let g:Bool:=inl c a;let h:List DC:=q a c;cond (k<len b) (cond (pk e (t true (A k b)) (t (t (t (t true (A k b)) (A k b)) f) g)) (cond (cond e true (Dd h 0)) (d false) (cond (t (t (t true (A k b)) f) g) (j (s (k+1)) (m7 a c (Sk h 0 [.bool true]))) lf)) lf) (d true)
def yB(a:Bool→α)(N:Nat)(b:Int)(c:u)(d:Nat):Int→u→α:=bW (λ_ _=>lf) (z_ lf a b c) d
theorem nn4(a:Bool→α)(N:Nat)(b:Int)(c:u)(d:Nat):yB lf a N b c (d+1)=z_ lf a b c (yB lf a N b c d):=rfl
def qm(a:Bool→α)(b:Int→u→Int→u→α)(p:G):α:=cond (cond (!(D p.b 0 130944)) true (cond (!(D p.a 1 512)) true (!(D p.c 0 16)))) (a false) (cond (t true (kZ 1 p.c p.c)) (b p.c p.d 0 (ma (lk p.c) ([.bool false]:List DC))) lf)
def nyd(a:Bool→α)(N:Nat)(p:G):α:=qm lf a (λb c=>yB lf a N b c N) p
theorem nvr(a:Bool→α)(p:G)(c:Q G.ct p.enc):∃N,nyd lf a N p=a (PM p):=by
 obtain⟨m,t⟩:=Nh (G.nCu c);refine⟨p.d.length+1, ?_⟩;unfold nyd qm PM;refine U6 (λ_=>rfl) (λb=>?_);have u:0≤p.c∧p.c≤16:=by
  cases d:D p.b 0 130944
  ·rw[d] at b;cases b
  cases k:D p.a 1 512
  ·rw[d,k] at b;cases b
  cases l:D p.c 0 16
  ·rw[d,k,l] at b;cases b
  exact YF.1 l
 have e:kZ 1 p.c p.c=true:=by simp only[kZ,Bl,js];omega
 rw[e,Oi,H];refine (G8 p.d (yB lf a (p.d.length+1) p.c p.d) (mv p.c) ib (a false) (λ_=>a true) (λ_ X=>(X.length:Int)=p.c) (λi X _ h _=>?_) ?_ ?_ (ma (lk p.c) [.bool false]) ?_).trans ?_
 ·show ((ib (q p.d i) X).length:Int)=p.c;rw[Gp,h]
 ·intro n i X h v;rw[nn4];have f:s (p.c - 1)=p.c - 1:=fg;have o:D (r (q p.d i) 0) 0 (p.c - 1)=true→A (r (q p.d i) 0) X=true∧inl (lk (r (q p.d i) 0)) X=true:=by
   intro j;have:=YF.1 j;refine⟨?_, ?_⟩
   ·simp only[A,Bl,js];omega
   ·simp only[inl,js];omega
  unfold mv;simp only[z_,sg h,mZ h,jy h m,eR,Oi,cz,H,f];cases j:D (r (q p.d i) 0) 0 (p.c - 1)
  ·rw[Wi (g:= !false) (x:=true) (λ_=>rfl) (λh=>by cases h)];rfl
  ·obtain⟨Z,Y⟩:=o j;rw[Z,Y];rfl
 ·intro n X _;rw[nn4];simp only[z_,Ns,J]
 ·simp only[nq];omega
 ·exact jP a _ _ (λ_=>true) p.d _
def nfJ(a:G→Bool→α)(p:G)(list_:u):α:=let b:G:=(⟨(F p).b,(F p).a,(F p).c,((F p).d)++list_⟩:G);cond (t true (aU p)) (cond (t true (Em 8 ((F p).d) list_)) (cond (cond (!(PM p)) true (!(PM b))) (cond (t true (aU p)) (a (F p) false) lf) (a b true)) lf) lf
def Ut(p:G)(list_:u):Bool:=Pw p.d && decide (p.d.length+list_.length≤134217728)
theorem nfH{p:G}{list_:u}(h:Ut p list_=true):Pw p.d=true∧p.d.length+list_.length≤134217728:=by simpa [Ut] using h
def Un(p:G)(list_:u):G×Bool:=cond (cond (!(PM p)) true (!(PM (⟨p.b,p.a,p.c,p.d++list_⟩:G)))) (p,false) ((⟨p.b,p.a,p.c,p.d++list_⟩:G),true)
theorem nhh(a:G→Bool→α)(p:G)(list_:u)(c:Ut p list_=true):nfJ lf a p list_=a (Un p list_).1 (Un p list_).2:=by have h:Ut p list_=true:=c;obtain⟨d,e⟩:=nfH h;have f:aU p=true:=d;unfold nfJ Un;simp only[F,f,W6 e (show 8≤1048576 by omega),Oi,H];generalize (cond (!(PM p)) true (!(PM (⟨p.b,p.a,p.c,p.d++list_⟩:G))))=b;cases b<;>rfl
structure Co where
 b:I
 a:G
 c:u
 d:Int
def Co.enc(x:Co):List DC:=[.int x.b.b,.int x.b.a,.int x.b.d,.int x.b.c,.int x.a.b,.int x.a.a,.int x.a.c,.sl x.a.d,.sl x.c,.int x.d]
def Co.nd(Z:List DC)(o:Nat):Co:=⟨I.nd Z (o+0),G.nd Z (o+4),df Z (o+8),r Z (o+9)⟩
def Co.ct:List CT:=[.i,.i,.i,.i,.i,.i,.i,.sl K,.sl [.i,.i,.sl K],.i]
theorem Co.eta{r:List DC}(h:Q Co.ct r):(Co.nd r 0).enc=r:=(show (Co.nd r 0).enc=Sy Co.ct r 0 from by kernel_rfl).trans (Qz h)
theorem Co.nX{r:List CT}{b:List DC}(h:Q (Co.ct++r) b):∃(x:Co) (c:List DC),b=x.enc++c∧Q Co.ct x.enc∧Q r c:=by obtain⟨d,e,rfl,a,f⟩:=SU h;exact⟨Co.nd d 0,e,by rw[Co.eta a],by rw[Co.eta a];exact a,f⟩
theorem Co.nE3{x:Co}(h:Q Co.ct x.enc):Q I.ct x.b.enc:=gj 0 4 h
theorem Co.nxa{x:Co}(h:Q Co.ct x.enc):IJ (.sl [.i,.i,.sl K]) (.sl x.c):=VM 8 h rfl rfl
theorem Co.nCv{x:Co}(h:Q Co.ct x.enc):IJ .i (.int x.d):=VM 9 h rfl rfl
def rP(g:Bool→α)(x:u)(h c d e:Int)(f:u)(i:Int→Int→u→α)(left a:Int)(b:u):α:=cond (a<h) (cond (t true (A a x)) (cond (cond (r (q x (lk a)) 1<1) true (cond (left<r (q x (lk a)) 1) true (!(D (r (q x (lk a)) 0) 0 65535)))) (g false) (cond (t true (Em 8 b (df (q x (lk a)) 2))) (i (s (left - (r (q x (lk a)) 1))) (s (a+1)) (b++(df (q x (lk a)) 2))) lf)) lf) (cond (t true (Ut (⟨c,d,e,f⟩:G) b)) (g ((Un (⟨c,d,e,f⟩:G) b).2)) lf)
def Xn(e:Bool→α)(N:Nat)(x:u)(f a b c:Int)(d:u)(g:Nat):Int→Int→u→α:=bW (λ_ _ _=>lf) (rP lf e x f a b c d) g
theorem njI(e:Bool→α)(N:Nat)(x:u)(f a b c:Int)(d:u)(g:Nat):Xn lf e N x f a b c d (g+1)=rP lf e x f a b c d (Xn lf e N x f a b c d g):=rfl
def vp(lf:α)(a:Bool→α)(b:u→Int→Int→Int→Int→u→Int→Int→u→α)(q:Co):α:=cond (cond (!(Vd q.b)) true (cond (!(PM q.a)) true (!(D q.d 0 65535)))) (a false) (b q.c (len q.c) q.a.b q.a.a q.a.c q.a.d q.b.a 0 [])
def nDP(e:Bool→α)(N:Nat)(q:Co):α:=vp lf e (λx f a b c d=>Xn lf e N x f a b c d N) q
def kX:u→Nat
 | []=>0
 | r::rs=>(df r 2).length+kX rs
def nm:u→u
 | []=>[]
 | r::rs=>df r 2++nm rs
def Rw:u→Int
 | []=>0
 | Z::rs=>r Z 1+Rw rs
def cF(q:Co):Bool:=decide (q.a.d.length≤1048576) && (Pw q.c && decide (kX q.c≤1048576))
theorem ntM{q:Co}(h:cF q=true):Pw q.a.d=true∧q.c.length≤16777216∧kX q.c≤16777216:=by simp only[cF,Bl,js] at h;exact⟨Hd (by omega),R8 h.2.1,by omega⟩
def wA(n:Int)(Z:List DC):Bool:=cond (D (r Z 1) 1 n) (D (r Z 0) 0 65535) false
def Q7(q:Co):Bool:=cond (cond (!(Vd q.b)) true (cond (!(PM q.a)) true (!(D q.d 0 65535)))) false (cond (q.c.all (wA q.b.a)) (cond (Un q.a (nm q.c)).2 (decide (Rw q.c≤q.b.a)) false) false)
theorem drop_cons{l:u}{i:Nat}(h:i<l.length):l.drop i=q l i::l.drop (i+1):=by rw[nF h];simp[q,m8,h]
theorem w4{l:u}{i:Nat}(h:i<l.length):kX (l.drop i)=(df (q l i) 2).length+kX (l.drop (i+1)):=by rw[drop_cons h];rfl
def fT(Z:List DC)(s:Int×u):Bool:=cond (r Z 1<1) true (cond (s.1<r Z 1) true (!(D (r Z 0) 0 65535)))
def Oa(Z:List DC)(s:Int×u):Int×u:=(s.1 - r Z 1,s.2++df Z 2)
theorem fb{n:Int}{Z:List DC} :wA n Z=true↔(1≤r Z 1∧r Z 1≤n)∧D (r Z 0) 0 65535=true:=by
 unfold wA;cases h:D (r Z 1) 1 n
 ·constructor
  ·intro h;cases h
  ·intro a;have:D (r Z 1) 1 n=true:=YF.2 a.1;rw[h] at this;cases this
 ·have:=YF.1 h;simp only[H];exact⟨λa=>⟨this,a⟩,λa=>a.2⟩
theorem Rv{n:Int} :∀ {l:u},l.all (wA n)=true→0≤Rw l
 | [],_=>by simp[Rw]
 | r::rs,h=>by simp only[oX,Bl] at h;have:=Rv h.2;have:=(fb.1 h.1).1;simp only[Rw];omega
theorem nz2(n:Int)(x:α)(W:u→α):∀(l:u) (s:Int×u),s.1≤n→0≤s.1→Vy fT Oa x (λs=>W s.2) l s=cond (l.all (wA n)) (cond (Rw l≤s.1) (W (s.2++nm l)) x) x
 | [],s,h1,h2=>by have:decide (Rw []≤s.1)=true:=Hd h2;simp only[Vy,List.all_nil,H,nm,pa,this]
 | Z::rs,s,h1,h2=>by
  simp only[Vy,oX];by_cases a:r Z 1<1
  ·have e:wA n Z=false:=by
    cases c:wA n Z
    ·rfl
    ·have:=(fb.1 c).1;omega
   rw[e];simp only[fT,Hd a,H,Bool.false_and,J]
  ·cases b:D (r Z 0) 0 65535
   ·have e:wA n Z=false:=by
     cases c:wA n Z
     ·rfl
     ·have:=(fb.1 c).2;rw[b] at this;cases this
    rw[e];have:fT Z s=true:=by simp only[fT,ja a,b,J,Bool.not_false];cases decide (s.1<r Z 1)<;>rfl
    rw[this];rfl
   ·by_cases d:s.1<r Z 1
    ·have:fT Z s=true:=by simp only[fT,ja a,Hd d,J,H]
     rw[this,H];cases f:(wA n Z && rs.all (wA n))
     ·rfl
     ·simp only[Bl] at f;have:=Rv f.2;rw[H,ja (by simp only[Rw];omega)];rfl
    ·have:fT Z s=false:=by simp only[fT,ja a,ja d,b,J,l_]
     have e:wA n Z=true:=fb.2 ⟨⟨by omega,by omega⟩,b⟩;rw[this,J,e,Bool.true_and];have g:=nz2 n x W rs (Oa Z s) (by simp only[Oa];omega) (by simp only[Oa];omega);rw[g];have h:decide (Rw rs≤(Oa Z s).1)=decide (Rw (Z::rs)≤s.1):=by
      have:Rw rs≤(Oa Z s).1↔Rw (Z::rs)≤s.1:=by simp only[Oa,Rw];omega
      exact decide_eq_decide.2 this
     rw[h];simp only[Oa,nm,m9]
theorem nAK(a:Bool→α)(Y:Co)(j:Q Co.ct Y.enc)(t:cF Y=true):∃N,nDP lf a N Y=a (Q7 Y):=by
 have Z:cF Y=true:=t;obtain⟨m,v,k⟩:=ntM Z;obtain⟨w,A⟩:=Nh (Co.nxa j);refine⟨Y.c.length+1, ?_⟩;unfold nDP vp Q7;refine U6 (λ_=>rfl) (λg=>?_);have B:2≤Y.b.a∧Y.b.a≤16:=by
  cases e:Vd Y.b
  ·rw[e] at g;cases g
  exact OD e
 have l:∀b:u,b.length≤16777216→Ut Y.a b=true:=by intro b h;have:=R8 m;simp only[Ut,m,Bool.true_and,js];omega
 have key:Xn lf a (Y.c.length+1) Y.c (len Y.c) Y.a.b Y.a.a Y.a.c Y.a.d (Y.c.length+1) Y.b.a 0 []=Vy fT Oa (a false) (λs=>a (Un Y.a s.2).2) Y.c (Y.b.a,[]):=by
  refine G8 Y.c (λn i (s:Int×u)=>Xn lf a (Y.c.length+1) Y.c (len Y.c) Y.a.b Y.a.a Y.a.c Y.a.d n s.1 i s.2) fT Oa (a false) (λs=>a (Un Y.a s.2).2) (λi s=>0≤s.1∧s.1≤16∧s.2.length+kX (Y.c.drop i)≤16777216) ?_ ?_ ?_ (Y.b.a,[]) ⟨by omega,by omega,by simpa using k⟩
  ·intro i s h f c;have x:=w4 h;obtain⟨o,p,X⟩:=f;have e:¬r (q Y.c i) 1<1:=by intro d;simp only[fT,Hd d,H] at c;cases c
   have y:¬s.1<r (q Y.c i) 1:=by intro d;simp only[fT,ja e,Hd d,H,J] at c;cases c
   refine⟨by simp only[Oa];omega,by simp only[Oa];omega, ?_⟩;simp only[Oa,fK];omega
  ·intro n i s h f;obtain⟨o,p,X⟩:=f;have x:=w4 h;show Xn lf a (Y.c.length+1) Y.c (len Y.c) Y.a.b Y.a.a Y.a.c Y.a.d (n+1) s.1 (i:Int) s.2=_;rw[njI];have z:Em 8 s.2 (df (q Y.c i) 2)=true:=W6 (by omega) (by omega);simp only[rP,sg h,mZ h,jy h w,eR,Oi,cz,H,z];refine cond_congr rfl (λ_=>rfl) (λc=>?_);have e:¬r (q Y.c i) 1<1:=by intro d;simp only[Hd d,H] at c;cases c
   have y:¬s.1<r (q Y.c i) 1:=by intro d;simp only[ja e,Hd d,H,J] at c;cases c
   rw[fg (n:=s.1 - r (q Y.c i) 1)];rfl
  ·intro n s f;obtain⟨o,p,X⟩:=f;show Xn lf a (Y.c.length+1) Y.c (len Y.c) Y.a.b Y.a.a Y.a.c Y.a.d (n+1) s.1 (Y.c.length:Int) s.2=_;rw[njI];have g:Ut (⟨Y.a.b,Y.a.a,Y.a.c,Y.a.d⟩:G) s.2=true:=l s.2 (by omega);simp only[rP,Ns,J,g,Oi,H]
 refine key.trans ?_;refine (nz2 Y.b.a (a false) (λb=>a (Un Y.a b).2) Y.c (Y.b.a,[]) (by simp) (by show 0≤Y.b.a;omega)).trans ?_;simp only[List.nil_append];cases Y.c.all (wA Y.b.a)
 ·rfl
 ·cases C:decide (Rw Y.c≤Y.b.a)
  ·simp only[H,J];cases (Un Y.a (nm Y.c)).2<;>rfl
  ·simp only[H];cases (Un Y.a (nm Y.c)).2<;>rfl
structure Ve where
 c:Int
 b:Int
 d:Int
 f:Int
 e:Int
def Ve.enc(x:Ve):List DC:=[.int x.c,.int x.b,.int x.d,.int x.f,.int x.e]
def Ve.nd(Z:List DC)(o:Nat):Ve:=⟨r Z (o+0),r Z (o+1),r Z (o+2),r Z (o+3),r Z (o+4)⟩
def Ve.ct:List CT:=[.i,.i,.i,.i,.i]
theorem Ve.eta{r:List DC}(h:Q Ve.ct r):(Ve.nd r 0).enc=r:=(show (Ve.nd r 0).enc=Sy Ve.ct r 0 from by kernel_rfl).trans (Qz h)
theorem Ve.nX{r:List CT}{b:List DC}(h:Q (Ve.ct++r) b):∃(x:Ve) (c:List DC),b=x.enc++c∧Q Ve.ct x.enc∧Q r c:=by obtain⟨d,e,rfl,a,f⟩:=SU h;exact⟨Ve.nd d 0,e,by rw[Ve.eta a],by rw[Ve.eta a];exact a,f⟩
theorem Ve.npj{x:Ve}(h:Q Ve.ct x.enc):IJ .i (.int x.c):=VM 0 h rfl rfl
theorem Ve.npl{x:Ve}(h:Q Ve.ct x.enc):IJ .i (.int x.b):=VM 1 h rfl rfl
theorem Ve.nw_{x:Ve}(h:Q Ve.ct x.enc):IJ .i (.int x.d):=VM 2 h rfl rfl
theorem Ve.nnh{x:Ve}(h:Q Ve.ct x.enc):IJ .i (.int x.f):=VM 3 h rfl rfl
theorem Ve.nng{x:Ve}(h:Q Ve.ct x.enc):IJ .i (.int x.e):=VM 4 h rfl rfl
structure mB where
 a:u
def mB.enc(x:mB):List DC:=[.sl x.a]
def mB.nd(r:List DC)(o:Nat):mB:=⟨df r (o+0)⟩
def mB.ct:List CT:=[.sl Zi]
theorem mB.eta{r:List DC}(h:Q mB.ct r):(mB.nd r 0).enc=r:=(show (mB.nd r 0).enc=Sy mB.ct r 0 from by kernel_rfl).trans (Qz h)
theorem mB.nX{r:List CT}{b:List DC}(h:Q (mB.ct++r) b):∃(x:mB) (c:List DC),b=x.enc++c∧Q mB.ct x.enc∧Q r c:=by obtain⟨d,e,rfl,a,f⟩:=SU h;exact⟨mB.nd d 0,e,by rw[mB.eta a],by rw[mB.eta a];exact a,f⟩
theorem mB.nd9{x:mB}(h:Q mB.ct x.enc):IJ (.sl Zi) (.sl x.a):=VM 0 h rfl rfl
def vD(c:Int→α)(x:Int)(b:u)(d:Int→Int→α)(n a:Int):α:=cond (a<x) (cond (t (t true (A a b)) (inl (lk a) b)) (cond (t true (vt (r (q b (lk a)) 0) 8)) (d (s (n+(Rk (r (q b (lk a)) 0) 8))) (s (a+1))) lf) lf) (c (lp n 8))
def Tv(a:Int→α)(N:Nat)(x:Int)(b:u)(c:Nat):Int→Int→α:=bW (λ_ _=>lf) (vD lf a x b) c
theorem nj2(a:Int→α)(N:Nat)(x:Int)(b:u)(c:Nat):Tv lf a N x b (c+1)=vD lf a x b (Tv lf a N x b c):=rfl
def nsA(lf:α)(b:Int→α)(a:Int→u→Int→Int→α)(f:Ve):α:=a 5 ([[.int f.c],[.int f.b],[.int f.d],[.int f.f],[.int f.e]]) 0 0
def npt(a:Int→α)(N:Nat)(f:Ve):α:=nsA lf a (λx b=>Tv lf a N x b N) f
def qY(f:Ve):u:=[[.int f.c],[.int f.b],[.int f.d],[.int f.f],[.int f.e]]
def SE(f:Ve):Int:=f.c % 8+f.b % 8+f.d % 8+f.f % 8+f.e % 8
def Nb(f:Ve):Int:=SE f % 8
theorem nFC(f:Ve):0≤SE f:=by unfold SE;omega
theorem tu(f:Ve):0≤Nb f∧Nb f<8:=by unfold Nb;omega
theorem nqM(f:Ve):kM (λi s=>s+(r (q (qY f) i) 0) % 8) 5 0 0=SE f:=by show 0+f.c % 8+f.b % 8+f.d % 8+f.f % 8+f.e % 8=SE f;unfold SE;omega
theorem njL(c:Int→α)(f:Ve)(a:Q Ve.ct f.enc):∃N,npt lf c N f=c (Nb f):=by
 have h:∀i,i<5→ -9223372036854775808≤r (q (qY f) i) 0∧r (q (qY f) i) 0≤9223372036854775807:=by
  intro i d;rcases i with _ | _ | _ | _ | _ | i
  ·exact Ti (Ve.npj a)
  ·exact Ti (Ve.npl a)
  ·exact Ti (Ve.nw_ a)
  ·exact Ti (Ve.nnh a)
  ·exact Ti (Ve.nng a)
  ·omega
 refine⟨6, ?_⟩;unfold npt nsA;have key:Tv lf c 6 5 (qY f) 6 0 0=c (lp (kM (λi Y=>Y+(r (q (qY f) i) 0) % 8) 5 0 0) 8):=by
  refine je 5 (λn i Y=>Tv lf c 6 5 (qY f) n Y i) (λi Y=>Y+(r (q (qY f) i) 0) % 8) (λY=>c (lp Y 8)) (λi Y=>0≤Y∧Y≤7*(i:Int)) ?_ ?_ ?_ 6 0 ⟨by omega,by omega⟩ (by omega)
  ·intro i Y d e;obtain⟨j,k⟩:=e;refine⟨by omega,by omega⟩
  ·intro n i Y d e;obtain⟨j,k⟩:=e;have b:=h i d;show Tv lf c 6 5 (qY f) (n+1) Y (i:Int)=_;rw[nj2];have g:i<(qY f).length:=d;have l:s ((i:Int)+1)=(i:Int)+1:=fg;have m:s (Y+(r (q (qY f) i) 0) % 8)=Y+(r (q (qY f) i) 0) % 8:=fg;obtain⟨o,p⟩:=l9 (x:=r (q (qY f) i) 0) (n:=8) b.1 b.2 (by omega) (by omega);have Z:decide ((i:Int)<5)=true:=Hd (by omega);simp only[vD,Z,mZ g,R7 g,eR,o,p,l,m,Oi,cz,H]
  ·intro n Y e;show Tv lf c 6 5 (qY f) (n+1) Y ((5:Nat):Int)=_;rw[nj2];rfl
 refine key.trans ?_;rw[nqM];exact congrArg c (nI (nFC f))
def nkX(a:Int→α)(list_:u)(b:Int→Int→α)(n k:Int):α:=cond (k<len list_) (cond (t (t true (A k list_)) (inl (lk k) list_)) (b (s (n+(bits .and .i64 (r (q list_ (lk k)) 0) 7))) (s (k+1))) lf) (a (lp n 8))
def yN(a:Int→α)(N:Nat)(list_:u)(b:Nat):Int→Int→α:=bW (λ_ _=>lf) (nkX lf a list_) b
theorem nr3(a:Int→α)(N:Nat)(list_:u)(b:Nat):yN lf a N list_ (b+1)=nkX lf a list_ (yN lf a N list_ b):=rfl
def tq(lf:α)(b:Int→α)(a:u→Int→Int→α)(f:Ve):α:=a ([[.int f.c],[.int f.b],[.int f.d],[.int f.f],[.int f.e]]) 0 0
def nxo(a:Int→α)(N:Nat)(f:Ve):α:=tq lf a (λlist_=>yN lf a N list_ N) f
theorem nB5(c:Int→α)(f:Ve)(a:Q Ve.ct f.enc):∃N,nxo lf c N f=c (Nb f):=by
 have h:∀i,i<5→ -9223372036854775808≤r (q (qY f) i) 0∧r (q (qY f) i) 0≤9223372036854775807:=by
  intro i d;rcases i with _ | _ | _ | _ | _ | i
  ·exact Ti (Ve.npj a)
  ·exact Ti (Ve.npl a)
  ·exact Ti (Ve.nw_ a)
  ·exact Ti (Ve.nnh a)
  ·exact Ti (Ve.nng a)
  ·omega
 refine⟨6, ?_⟩;unfold nxo tq;have key:yN lf c 6 (qY f) 6 0 0=c (lp (kM (λi Z=>Z+(r (q (qY f) i) 0) % 8) 5 0 0) 8):=by
  refine je 5 (λn i Z=>yN lf c 6 (qY f) n Z i) (λi Z=>Z+(r (q (qY f) i) 0) % 8) (λZ=>c (lp Z 8)) (λi Z=>0≤Z∧Z≤7*(i:Int)) ?_ ?_ ?_ 6 0 ⟨by omega,by omega⟩ (by omega)
  ·intro i Z d e;obtain⟨j,k⟩:=e;refine⟨by omega,by omega⟩
  ·intro n i Z d e;obtain⟨j,k⟩:=e;have b:=h i d;show yN lf c 6 (qY f) (n+1) Z (i:Int)=_;rw[nr3];have g:i<(qY f).length:=d;have l:s ((i:Int)+1)=(i:Int)+1:=fg;have m:s (Z+(r (q (qY f) i) 0) % 8)=Z+(r (q (qY f) i) 0) % 8:=fg;have o:decide ((i:Int)<len (qY f))=true:=sg g;simp only[nkX,o,mZ g,R7 g,eR,nkk,l,m,Oi,cz,H]
  ·intro n Z e;show yN lf c 6 (qY f) (n+1) Z ((5:Nat):Int)=_;rw[nr3];rfl
 refine key.trans ?_;rw[nqM];exact congrArg c (nI (nFC f))
def U8(b:Int→α)(x:u)(c d e f g h:Int)(i:Int→α)(a:Int):α:=cond (a<c) (cond (t true (A a x)) (cond (cond ((r (q x (lk a)) 0)==1) (cond ((r (q x (lk a)) 1)==d) (cond ((r (q x (lk a)) 2)==e) (cond ((r (q x (lk a)) 3)==f) (cond ((r (q x (lk a)) 4)==g) (cond ((r (q x (lk a)) 5)==h) true false) false) false) false) false) false) (b a) (i (s (a+1)))) lf) (b (-1))
def jb(a:Int→α)(N:Nat)(x:u)(b c d e f g:Int)(h:Nat):Int→α:=bW (λ_=>lf) (U8 lf a x b c d e f g) h
theorem nhH(a:Int→α)(N:Nat)(x:u)(b c d e f g:Int)(h:Nat):jb lf a N x b c d e f g (h+1)=U8 lf a x b c d e f g (jb lf a N x b c d e f g h):=rfl
def Uo(lf:α)(b:Int→α)(a:u→Int→Int→Int→Int→Int→Int→Int→α)(t:mB)(f:Ve):α:=a t.a (len t.a) f.c f.b f.d f.f f.e 0
def nER(a:Int→α)(N:Nat)(t:mB)(f:Ve):α:=Uo lf a (λx b c d e g h=>jb lf a N x b c d e g h N) t f
def tP(Z:List DC)(f:Ve):Bool:=cond ((r Z 0)==1) (cond ((r Z 1)==f.c) (cond ((r Z 2)==f.b) (cond ((r Z 3)==f.d) (cond ((r Z 4)==f.f) (cond ((r Z 5)==f.e) true false) false) false) false) false) false
def aJ(t:mB)(f:Ve):Int:=findIdx (λ_ r=>tP r f) t.a 0
theorem noj(a:Int→α)(t:mB)(f:Ve)(b:Q mB.ct t.enc):∃N,nER lf a N t f=a (aJ t f):=by
 obtain⟨d,_⟩:=Nh (mB.nd9 b);refine⟨t.a.length+1, ?_⟩;unfold nER Uo aJ;have key:jb lf a (t.a.length+1) t.a (len t.a) f.c f.b f.d f.f f.e (t.a.length+1) 0=a (findIdx (λ_ r=>tP r f) t.a 0):=by
  refine (x9 t.a (jb lf a (t.a.length+1) t.a (len t.a) f.c f.b f.d f.f f.e) (λi r c=>cond (tP r f) (a (i:Int)) c) (a (-1)) ?_ ?_).trans ?_
  ·intro n i h;rw[nhH];simp only[U8,sg h,mZ h,jy h d,eR,Oi,cz,H];rfl
  ·intro n;rw[nhH];simp only[U8,Ns,J]
  ·exact vd (λ_ r=>tP r f) a t.a 0
 exact key
def w6(b:Int→α)(e:u)(f g h i j:Int)(o:Int→α)(k:Int):α:=let c:Int:=lp (s ((Nb (⟨f,g,h,i,j⟩:Ve))+k)) 8;let l:Bool:=A c e;let d:Bool:=t true l;let a:List DC:=q e (lk c);let m:Int:=r a 0;let n:Bool:=m==1;cond (k<8) (cond d (cond (m==0) (b (-1)) (cond (pk n (t d l) d) (cond (cond n (cond ((r a 1)==f) (cond ((r a 2)==g) (cond ((r a 3)==h) (cond ((r a 4)==i) (cond ((r a 5)==j) true false) false) false) false) false) false) (b c) (o (s (k+1)))) lf)) lf) (b (-1))
def Fh(a:Int→α)(N:Nat)(b:u)(c d e f g:Int)(h:Nat):Int→α:=bW (λ_=>lf) (w6 lf a b c d e f g) h
theorem nAC(a:Int→α)(N:Nat)(b:u)(c d e f g:Int)(h:Nat):Fh lf a N b c d e f g (h+1)=w6 lf a b c d e f g (Fh lf a N b c d e f g h):=rfl
def DL(lf:α)(b:Int→α)(a:u→Int→Int→Int→Int→Int→Int→α)(t:mB)(f:Ve):α:=a t.a f.c f.b f.d f.f f.e 0
def ncd(a:Int→α)(N:Nat)(t:mB)(f:Ve):α:=DL lf a (λb c d e g h=>Fh lf a N b c d e g h N) t f
def xS(t:mB)(_:Ve):Bool:=decide (t.a.length=8)
def R_(t:u)(h:Int)(f:Ve):Nat→Nat→Int
 | 0,_=> -1
 | m+1,k=>cond ((r (q t (lk ((h+(k:Int)) % 8))) 0)==0) (-1) (cond (tP (q t (lk ((h+(k:Int)) % 8))) f) ((h+(k:Int)) % 8) (R_ t h f m (k+1)))
def zz(t:mB)(f:Ve):Int:=R_ t.a (Nb f) f 8 0
theorem nie(a:Int→α)(t:u)(h:Int)(f:Ve):∀(m i:Nat),SG (σ:=Unit) (λk c s=>cond ((r (q t (lk ((h+(k:Int)) % 8))) 0)==0) (a (-1)) (cond (tP (q t (lk ((h+(k:Int)) % 8))) f) (a ((h+(k:Int)) % 8)) (c s))) (λ_=>a (-1)) m i ()=a (R_ t h f m i)
 | 0,_=>rfl
 | m+1,i=>by
  simp only[SG,R_];cases (r (q t (lk ((h+(i:Int)) % 8))) 0)==0
  ·cases tP (q t (lk ((h+(i:Int)) % 8))) f
   ·exact nie a t h f m (i+1)
   ·rfl
  ·rfl
theorem npY(a:Int→α)(t:mB)(f:Ve)(b:xS t f=true):∃N,ncd lf a N t f=a (zz t f):=by
 have d:t.a.length=8:=of_decide_eq_true b;have m:=tu f;refine⟨9, ?_⟩;unfold ncd DL zz;have key:Fh lf a 9 t.a f.c f.b f.d f.f f.e 9 0=a (R_ t.a (Nb f) f 8 0):=by
  refine (Qr (σ:=Unit) 8 (λn k _=>Fh lf a 9 t.a f.c f.b f.d f.f f.e n k) (λk c Z=>cond ((r (q t.a (lk ((Nb f+(k:Int)) % 8))) 0)==0) (a (-1)) (cond (tP (q t.a (lk ((Nb f+(k:Int)) % 8))) f) (a ((Nb f+(k:Int)) % 8)) (c Z))) (λ_=>a (-1)) ?_ ?_ 9 () (by omega)).trans (nie a t.a (Nb f) f 8 0)
  ·intro n i Z o;show Fh lf a 9 t.a f.c f.b f.d f.f f.e (n+1) (i:Int)=_;rw[nAC];have e:decide ((i:Int)<8)=true:=Hd (by omega);have g:s ((i:Int)+1)=(i:Int)+1:=fg;have h:lp (s (Nb f+(i:Int))) 8=(Nb f+(i:Int)) % 8:=by rw[fg];exact nI (by omega)
   have j:A ((Nb f+(i:Int)) % 8) t.a=true:=by simp only[A,Bl,js,d];omega
   have l:(⟨f.c,f.b,f.d,f.f,f.e⟩:Ve)=f:=rfl;unfold w6;simp only[l,e,h,j,g,Oi,cz,vb,H];rfl
  ·intro n Z;show Fh lf a 9 t.a f.c f.b f.d f.f f.e (n+1) ((8:Nat):Int)=_;rw[nAC];rfl
 exact key
def npo(g:u→α)(b c d e f:Int)(h:Int→u→α)(i:Int)(a:u):α:=cond (i<8) (cond (t true (Em 8 a ([[.int (lp (s ((Nb (⟨b,c,d,e,f⟩:Ve))+i)) 8)]]))) (h (s (i+1)) (a++([[.int (lp (s ((Nb (⟨b,c,d,e,f⟩:Ve))+i)) 8)]]))) lf) (g a)
def W7(a:u→α)(N:Nat)(b c d e f:Int)(g:Nat):Int→u→α:=bW (λ_ _=>lf) (npo lf a b c d e f) g
theorem nvj(a:u→α)(N:Nat)(b c d e f:Int)(g:Nat):W7 lf a N b c d e f (g+1)=npo lf a b c d e f (W7 lf a N b c d e f g):=rfl
def NQ(lf:α)(b:u→α)(a:na α)(f:Ve):α:=a f.c f.b f.d f.f f.e 0 []
def nvv(a:u→α)(N:Nat)(f:Ve):α:=NQ lf a (λb c d e g=>W7 lf a N b c d e g N) f
def P9(h:Int)(i:Nat)(o:u):u:=o++[[.int ((h+(i:Int)) % 8)]]
def tD(f:Ve):u:=kM (P9 (Nb f)) 8 0 []
theorem npy(a:u→α)(f:Ve):∃N,nvv lf a N f=a (tD f):=by
 have k:=tu f;refine⟨9, ?_⟩;unfold nvv NQ tD;have key:W7 lf a 9 f.c f.b f.d f.f f.e 9 0 []=a (kM (P9 (Nb f)) 8 0 []):=by
  refine je 8 (λn i o=>W7 lf a 9 f.c f.b f.d f.f f.e n i o) (P9 (Nb f)) a (λi o=>o.length=i) ?_ ?_ ?_ 9 [] rfl (by omega)
  ·intro i o c b;simp only[P9,fK,I_,lq,b]
  ·intro n i o c b;show W7 lf a 9 f.c f.b f.d f.f f.e (n+1) (i:Int) o=_;rw[nvj];have d:decide ((i:Int)<8)=true:=Hd (by omega);have e:s ((i:Int)+1)=(i:Int)+1:=fg;have g:lp (s (Nb f+(i:Int))) 8=(Nb f+(i:Int)) % 8:=by rw[fg];exact nI (by omega)
   have h:(⟨f.c,f.b,f.d,f.f,f.e⟩:Ve)=f:=rfl;have j:Em 8 o [[.int ((Nb f+(i:Int)) % 8)]]=true:=W6 (by simp only[I_,lq];omega) (by omega);unfold npo;simp only[h,d,g,j,e,Oi,cz,H];rfl
  ·intro n o b;show W7 lf a 9 f.c f.b f.d f.f f.e (n+1) ((8:Nat):Int) o=_;rw[nvj];rfl
 exact key
def w7(b:Bool→α)(d:Int→Int→Int→u→Int→α)(x:u)(e:Int)(f:u)(g:Int→α)(a:Int):α:=let c:u:=tD (Ve.nd (q x (lk a)) 1);cond (a<e) (cond (t true (A a x)) (cond (cond (!(D (r (q x (lk a)) 0) 0 2)) true (!(D (r (q x (lk a)) 6) 0 3))) (b false) (cond ((r (q x (lk a)) 0) != 1) (cond (cond (!(cond ((r (q x (lk a)) 1)==0) (cond ((r (q x (lk a)) 2)==0) (cond ((r (q x (lk a)) 3)==0) (cond ((r (q x (lk a)) 4)==0) (cond ((r (q x (lk a)) 5)==0) true false) false) false) false) false)) true ((r (q x (lk a)) 6) != 0)) (b false) (g (s (a+1)))) (cond ((aJ (⟨f⟩:mB) (Ve.nd (q x (lk a)) 1)) != a) (b false) (d a a (len c) c 0)))) lf) (b true)
def gm(f:Bool→α)(c:Int→α)(g d h:Int)(e b:u)(i:Int→α)(a:Int):α:=cond (a<h) (cond (t (t true (A a b)) (inl (lk a) b)) (cond ((r (q b (lk a)) 0)==g) (c (s (d+1))) (cond (t true (A (r (q b (lk a)) 0) e)) (cond ((r (q e (lk (r (q b (lk a)) 0))) 0)==0) (f false) (i (s (a+1)))) lf)) lf) (c (s (d+1)))
def cd(a:Bool→α)(N:Nat)(b:Int→α)(c d e:Int)(f g:u)(h:Nat):Int→α:=bW (λ_=>lf) (gm lf a b c d e f g) h
theorem npX(a:Bool→α)(N:Nat)(b:Int→α)(c d e:Int)(f g:u)(h:Nat)(i:Int):cd lf a N b c d e f g (h+1) i=gm lf a b c d e f g (cd lf a N b c d e f g h) i:=rfl
def bm(a:Bool→α)(N:Nat)(x:u)(d:Int)(b:u)(e:Nat):Int→α:=bW (λ_=>lf) (λc=>w7 lf a (λf g h i=>cd lf a N c f g h b i N) x d b c) e
theorem ntw(a:Bool→α)(N:Nat)(x:u)(c:Int)(b:u)(e:Nat)(d:Int):bm lf a N x c b (e+1) d=w7 lf a (λd f g h=>cd lf a N (bm lf a N x c b e) d f g b h N) x c b (bm lf a N x c b e) d:=rfl
def rr(lf:α)(a:Bool→α)(b:u→Int→u→Int→α)(t:mB):α:=cond ((len t.a) != 8) (a false) (b t.a (len t.a) t.a 0)
def d8(a:Bool→α)(N:Nat)(t:mB):α:=rr lf a (λx b c=>bm lf a N x b c N) t
theorem YE{p:Nat→List DC→Bool} :∀ {l:u} {s:Nat},RP p l s=false→∀i,i<l.length→p (s+i) (q l i)=false
 | [],_,_,i,h=>by simp at h
 | r::rs,s,h,i,hi=>by
  simp only[RP] at h;cases a:p s r
  ·rw[a,J] at h;cases i with
   | zero=>exact a
   | succ i=>
    have:=YE h i (by simpa using hi);rw[show s+(i+1)=s+1+i by omega];exact this
  ·rw[a] at h;cases h
theorem nsG{p:Nat→List DC→Bool} :∀ {l:u} {s:Nat},(∀i,i<l.length→p (s+i) (q l i)=false)→RP p l s=false
 | [],_,_=>rfl
 | r::rs,s,h=>by
  simp only[RP];rw[show p s r=false from h 0 (by simp),J];exact nsG (λi a=>by have:=h (i+1) (by simpa using a);rw[show s+1+i=s+(i+1) by omega];exact this)
def nf(t:u)(i:Int):u→Bool
 | []=>false
 | Z::rs=>cond ((r Z 0)==i) false (cond ((r (q t (lk (r Z 0))) 0)==0) true (nf t i rs))
theorem nvp(t:u)(x:Int)(A B:α):∀(l:u) (j:Nat),An (σ:=Unit) (λ_ Z c s=>cond ((r Z 0)==x) A (cond ((r (q t (lk (r Z 0))) 0)==0) B (c s))) (λ_=>A) l j ()=cond (nf t x l) B A
 | [],_=>rfl
 | Z::rs,j=>by
  simp only[An,nf];cases (r Z 0)==x
  ·cases (r (q t (lk (r Z 0))) 0)==0
   ·exact nvp t x A B rs (j+1)
   ·rfl
  ·rfl
def rW(Z:List DC):Bool:=cond ((r Z 1)==0) (cond ((r Z 2)==0) (cond ((r Z 3)==0) (cond ((r Z 4)==0) (cond ((r Z 5)==0) true false) false) false) false) false
def dE(Z:List DC):Bool:=cond (!(D (r Z 0) 0 2)) true (!(D (r Z 6) 0 3))
def iu(t:u)(i:Nat)(Z:List DC):Bool:=cond (dE Z) true (cond ((r Z 0) != 1) (cond (!(rW Z)) true ((r Z 6) != 0)) (cond ((aJ (⟨t⟩:mB) (Ve.nd Z 1)) != (i:Int)) true (nf t (i:Int) (tD (Ve.nd Z 1)))))
def SR(t:u)(i:Nat)(Z:List DC):Bool:=cond (dE Z) true (cond ((r Z 0) != 1) (cond ((r Z 6) != 0) true (!(rW Z))) ((zz (⟨t⟩:mB) (Ve.nd Z 1)) != (i:Int)))
def Fo(t:mB):Bool:=cond ((len t.a) != 8) false (cond (RP (iu t.a) t.a 0) false true)
def ZI(t:u)(h i:Int):Nat→Nat→Bool
 | 0,_=>false
 | m+1,k=>cond ((h+(k:Int)) % 8==i) false (cond ((r (q t (lk ((h+(k:Int)) % 8))) 0)==0) true (ZI t h i m (k+1)))
theorem nf3(t:u)(i:Int)(f:Ve):nf t i (tD f)=ZI t (Nb f) i 8 0:=rfl
theorem Q9{Z:List DC}{f:Ve} :tP Z f=true↔r Z 0=1∧Ve.nd Z 1=f:=by
 cases f with
 | mk a b c d e=>
  simp only[tP,Ve.nd,Ve.mk.injEq];by_cases g:r Z 0=1
  ·by_cases h:r Z 1=a
   ·by_cases i:r Z 2=b
    ·by_cases j:r Z 3=c
     ·by_cases k:r Z 4=d
      ·by_cases l:r Z 5=e
       ·simp[g,h,i,j,k,l]
       ·simp[g,h,i,j,k,l]
      ·simp[g,h,i,j,k]
     ·simp[g,h,i,j]
    ·simp[g,h,i]
   ·simp[g,h]
  ·simp[g]
theorem nxK{Z:List DC}(h:r Z 0=1):tP Z (Ve.nd Z 1)=true:=Q9.2 ⟨h,rfl⟩
theorem nnr{t:u}{h:Int}{f:Ve}{i:Nat}(l:i<8)(c:r (q t i) 0=1)(e:Ve.nd (q t i) 1=f)
  (g:∀j,j<8→tP (q t j) f=true→j=i):∀(m k:Nat),(∃d,d<m∧(h+(k:Int)+(d:Int)) % 8=(i:Int))→ZI t h (i:Int) m k=false→R_ t h f m k=(i:Int)
 | 0,k,⟨d,hd,_⟩,_=>by omega
 | m+1,k,⟨d,hd,he⟩,hw=>by
  unfold R_;unfold ZI at hw;by_cases a:(h+(k:Int)) % 8=(i:Int)
  ·rw[a,eR];have b:((r (q t i) 0)==0)=false:=by rw[c];rfl
   rw[b,Q9.2 ⟨c,e⟩];rfl
  ·have n:((h+(k:Int)) % 8==(i:Int))=false:=by simpa using a
   rw[n,J] at hw;cases b:(r (q t (lk ((h+(k:Int)) % 8))) 0)==0
   ·rw[b,J] at hw;cases o:tP (q t (lk ((h+(k:Int)) % 8))) f
    ·simp only[J];refine nnr l c e g m (k+1) ⟨d - 1, ?_, ?_⟩ hw
     ·rcases d with _ | d
      ·exact absurd (by simpa using he) a
      ·omega
     ·rcases d with _ | d
      ·exact absurd (by simpa using he) a
      ·rw[←he]
       congr 1
       omega
    ·have:=g _ (by omega) o;exact absurd (by omega) a
   ·rw[b] at hw;cases hw
theorem nf0{t:u}{h:Int}{f:Ve}{i:Nat} :∀(m k:Nat),R_ t h f m k=(i:Int)→ZI t h (i:Int) m k=false
 | 0,_,_=>rfl
 | m+1,k,hl=>by
  unfold R_ at hl;unfold ZI;cases c:((h+(k:Int)) % 8==(i:Int))
  ·cases a:(r (q t (lk ((h+(k:Int)) % 8))) 0)==0
   ·rw[a,J] at hl;cases b:tP (q t (lk ((h+(k:Int)) % 8))) f
    ·rw[b,J] at hl;exact nf0 m (k+1) hl
    ·rw[b,H] at hl;have:((h+(k:Int)) % 8==(i:Int))=true:=by simpa using hl
     rw[c] at this;cases this
   ·rw[a,H] at hl;omega
  ·rfl
theorem nhg{t:u}{i:Nat}(h:i<t.length)(a:r (q t i) 0=1):(aJ (⟨t⟩:mB) (Ve.nd (q t i) 1) != (i:Int))=Ot (λj=>tP (q t j) (Ve.nd (q t i) 1)) i 0:=by have:=nkx (λ_ Z=>tP Z (Ve.nd (q t i) 1)) t 0 i h (nxK a);rw[mc] at this;exact this
theorem AZ{p:Nat→Bool} :∀ {m s:Nat},Ot p m s=false↔∀j,s≤j→j<s+m→p j=false
 | 0,s=>by simp only[Ot,true_iff];intro j a b;omega
 | m+1,s=>by
  simp only[Ot];cases c:p s
  ·simp only[J];rw[AZ];constructor
   ·intro h j a b;by_cases d:j=s
    ·rw[d];exact c
    ·exact h j (by omega) (by omega)
   ·intro h j a b;exact h j (by omega) (by omega)
  ·simp only[H];constructor
   ·intro h;cases h
   ·intro h;have:=h s (by omega) (by omega);rw[c] at this;cases this
theorem nCa{t:u}(z:t.length=8):RP (SR t) t 0=RP (iu t) t 0:=by
 have Y:∀X:List DC,(cond (!(rW X)) true ((r X 6) != 0))=(cond ((r X 6) != 0) true (!(rW X))):=by intro X;cases rW X<;>cases ((r X 6) != 0)<;>rfl
 have s:∀i,iu t i (q t i)=false→r (q t i) 0=1→dE (q t i)=false∧Ot (λj=>tP (q t j) (Ve.nd (q t i) 1)) i 0=false∧ZI t (Nb (Ve.nd (q t i) 1)) (i:Int) 8 0=false∨¬i<t.length:=by
  intro i h d;by_cases e:i<t.length
  ·left;unfold iu at h;have f:((r (q t i) 0) != 1)=false:=by rw[d];rfl
   rw[f,nhg e d,nf3] at h;cases l:dE (q t i)
   ·rw[l] at h;simp only[J] at h;refine⟨rfl, ?_⟩;cases Z:Ot (λj=>tP (q t j) (Ve.nd (q t i) 1)) i 0
    ·rw[Z,J] at h;exact⟨rfl,h⟩
    ·rw[Z] at h;cases h
   ·rw[l] at h;cases h
  ·exact .inr e
 have v:∀i,i<t.length→SR t i (q t i)=false→r (q t i) 0=1→dE (q t i)=false∧zz (⟨t⟩:mB) (Ve.nd (q t i) 1)=(i:Int):=by
  intro i e h d;unfold SR at h;have f:((r (q t i) 0) != 1)=false:=by rw[d];rfl
  rw[f] at h;cases l:dE (q t i)
  ·rw[l] at h;simp only[J] at h;exact⟨rfl,by simpa using h⟩
  ·rw[l] at h;cases h
 cases g:RP (iu t) t 0
 ·have g:=YE g;simp only[mc] at g;refine nsG (λi e=>?_);rw[mc];by_cases d:r (q t i) 0=1
  ·rcases s i (g i e) d with ⟨a,b,c⟩ | h
   ·have n:∀j,j<8→tP (q t j) (Ve.nd (q t i) 1)=true→j=i:=by
     intro j w m;obtain⟨o,p⟩:=Q9.1 m;rcases Nat.lt_trichotomy j i with A | rfl | B
     ·have:=AZ.1 b j (by omega) (by omega);rw[m] at this;cases this
     ·rfl
     ·rcases s j (g j (by omega)) o with ⟨_,x,_⟩ | h
      ·have:=AZ.1 x i (by omega) (by omega);rw[Q9.2 ⟨d,p.symm⟩] at this;cases this
      ·omega
    have y:zz (⟨t⟩:mB) (Ve.nd (q t i) 1)=(i:Int):=by have C:=tu (Ve.nd (q t i) 1);refine nnr (by omega) d rfl n 8 0 ⟨(((i:Int) - Nb (Ve.nd (q t i) 1)) % 8).toNat,by omega,by omega⟩ c
    unfold SR;rw[a,y,d];simp
   ·exact absurd e h
  ·have:=g i e;unfold iu at this;unfold SR;have f:((r (q t i) 0) != 1)=true:=by simpa using d
   rw[f] at this ⊢;rw[Y] at this;exact this
 ·cases k:RP (SR t) t 0
  ·have k:=YE k;simp only[mc] at k;have:RP (iu t) t 0=false:=by
    refine nsG (λi e=>?_);rw[mc];by_cases d:r (q t i) 0=1
    ·obtain⟨a,b⟩:=v i e (k i e) d;have n:Ot (λj=>tP (q t j) (Ve.nd (q t i) 1)) i 0=false:=by
      refine AZ.2 (λj _ w=>?_);cases m:tP (q t j) (Ve.nd (q t i) 1)
      ·rfl
      ·obtain⟨o,p⟩:=Q9.1 m;have:=(v j (by omega) (k j (by omega)) o).2;rw[p,b] at this;omega
     unfold iu;have f:((r (q t i) 0) != 1)=false:=by rw[d];rfl
     rw[a,f,nhg e d,n,nf3,nf0 8 0 b];rfl
    ·have:=k i e;unfold SR at this;unfold iu;have f:((r (q t i) 0) != 1)=true:=by simpa using d
     rw[f] at this ⊢;rw[Y];exact this
   rw[g] at this;cases this
  ·rfl
theorem nCc(a:Bool→α)(t:mB)(f:Q mB.ct t.enc):∃N,d8 lf a N t=a (Fo t):=by
 obtain⟨g,_⟩:=Nh (mB.nd9 f);refine⟨t.a.length+9, ?_⟩;unfold d8 rr Fo;refine U6 (λ_=>rfl) (λl=>?_);have m:t.a.length=8:=by
  have:len t.a=8:=by simpa using l
  simp only[len] at this;omega
 have key:bm lf a (t.a.length+9) t.a (len t.a) t.a (t.a.length+9) 0=cond (RP (iu t.a) t.a 0) (a false) (a true):=by
  refine (TR t.a (bm lf a (t.a.length+9) t.a (len t.a) t.a) (λi Y c=>cond (iu t.a i Y) (a false) c) (a true) ?_ ?_ (t.a.length+9) (by omega)).trans (Sz (iu t.a) (a false) (a true) t.a 0)
  ·intro n i h;rw[ntw];have X:∀z:Int,r (q t.a i) 0=z→True:=λ_ _=>trivial;have k:(tD (Ve.nd (q t.a i) 1)).length=8:=rfl;have b:∀d:Int→α,cd lf a (t.a.length+9) d (i:Int) (i:Int) (len (tD (Ve.nd (q t.a i) 1))) t.a (tD (Ve.nd (q t.a i) 1)) (t.a.length+9) 0=cond (nf t.a (i:Int) (tD (Ve.nd (q t.a i) 1))) (a false) (d ((i:Int)+1)):=by
    intro d;refine (TR (tD (Ve.nd (q t.a i) 1)) (cd lf a (t.a.length+9) d (i:Int) (i:Int) (len (tD (Ve.nd (q t.a i) 1))) t.a (tD (Ve.nd (q t.a i) 1))) (λj Y c=>cond ((r Y 0)==(i:Int)) (d ((i:Int)+1)) (cond ((r (q t.a (lk (r Y 0))) 0)==0) (a false) c)) (d ((i:Int)+1)) ?_ ?_ (t.a.length+9) (by omega)).trans (nvp t.a (i:Int) (d ((i:Int)+1)) (a false) (tD (Ve.nd (q t.a i) 1)) 0)
    ·intro n j e;rw[npX];have o:A (r (q (tD (Ve.nd (q t.a i) 1)) j) 0) t.a=true:=by
      have:r (q (tD (Ve.nd (q t.a i) 1)) j) 0=(Nb (Ve.nd (q t.a i) 1)+(j:Int)) % 8:=by
       rw[k] at e;rcases j with _ | _ | _ | _ | _ | _ | _ | _ | j
       all_goals first | rfl | omega
      rw[this];simp only[A,Bl,js,m];omega
     have p:s ((i:Int)+1)=(i:Int)+1:=jy h g;have Z:s ((j:Int)+1)=(j:Int)+1:=fg;simp only[gm,sg e,mZ e,R7 e,o,p,Z,eR,Oi,cz,H]
    ·intro n;rw[npX];simp only[gm,Ns,J,jy h g]
   unfold w7;simp only[b,sg h,mZ h,jy h g,eR,Oi,cz,H];unfold iu;show (cond (dE (q t.a i)) (a false) _)=_;cases dE (q t.a i)
   ·simp only[J];cases ((r (q t.a i) 0) != 1)
    ·simp only[J];cases (aJ (⟨t.a⟩:mB) (Ve.nd (q t.a i) 1) != (i:Int))<;>rfl
    ·rfl
   ·rfl
  ·intro n;rw[ntw];simp only[w7,Ns,J]
 refine key.trans ?_;exact Ha rfl rfl
def Ka(b:Bool→α)(a:u)(c:Int→α)(k:Int):α:=cond (k<len a) (cond (t true (A k a)) (cond (cond (!(D (r (q a (lk k)) 0) 0 2)) true (!(D (r (q a (lk k)) 6) 0 3))) (b false) (cond ((r (q a (lk k)) 0) != 1) (cond (cond ((r (q a (lk k)) 6) != 0) true (!(cond ((r (q a (lk k)) 1)==0) (cond ((r (q a (lk k)) 2)==0) (cond ((r (q a (lk k)) 3)==0) (cond ((r (q a (lk k)) 4)==0) (cond ((r (q a (lk k)) 5)==0) true false) false) false) false) false))) (b false) (c (s (k+1)))) (cond (t true (xS (⟨a⟩:mB) (Ve.nd (q a (lk k)) 1))) (cond ((zz (⟨a⟩:mB) (Ve.nd (q a (lk k)) 1)) != k) (b false) (c (s (k+1)))) lf))) lf) (b true)
def Ci(a:Bool→α)(N:Nat)(b:u)(c:Nat):Int→α:=bW (λ_=>lf) (Ka lf a b) c
theorem nly(a:Bool→α)(N:Nat)(b:u)(c:Nat):Ci lf a N b (c+1)=Ka lf a b (Ci lf a N b c):=rfl
def Q0(lf:α)(a:Bool→α)(b:u→Int→α)(t:mB):α:=cond ((len t.a) != 8) (a false) (b t.a 0)
def nzD(a:Bool→α)(N:Nat)(t:mB):α:=Q0 lf a (λb=>Ci lf a N b N) t
theorem nAy(a:Bool→α)(t:mB)(b:Q mB.ct t.enc):∃N,nzD lf a N t=a (Fo t):=by
 obtain⟨e,_⟩:=Nh (mB.nd9 b);refine⟨t.a.length+1, ?_⟩;unfold nzD Q0 Fo;refine U6 (λ_=>rfl) (λf=>?_);have d:t.a.length=8:=by
  have:len t.a=8:=by simpa using f
  simp only[len] at this;omega
 have key:Ci lf a (t.a.length+1) t.a (t.a.length+1) 0=cond (RP (SR t.a) t.a 0) (a false) (a true):=by
  refine (x9 t.a (Ci lf a (t.a.length+1) t.a) (λi Z c=>cond (SR t.a i Z) (a false) c) (a true) ?_ ?_).trans (Sz (SR t.a) (a false) (a true) t.a 0)
  ·intro n i h;rw[nly];have g:xS (⟨t.a⟩:mB) (Ve.nd (q t.a i) 1)=true:=Hd d;simp only[Ka,g,sg h,mZ h,jy h e,eR,Oi,cz,H];unfold SR;show (cond (dE (q t.a i)) (a false) _)=_;cases dE (q t.a i)
   ·simp only[J];cases ((r (q t.a i) 0) != 1)
    ·rfl
    ·rfl
   ·rfl
  ·intro n;rw[nly];simp only[Ka,Ns,J]
 refine key.trans ?_;rw[nCa d];exact Ha rfl rfl
structure iI where
 b:x
 a:u
def iI.enc(x:iI):List DC:=[.str x.b,.sl x.a]
def iI.nd(r:List DC)(o:Nat):iI:=⟨Gi r (o+0),df r (o+1)⟩
def iI.ct:List CT:=[.str,.sl K]
theorem iI.eta{r:List DC}(h:Q iI.ct r):(iI.nd r 0).enc=r:=(show (iI.nd r 0).enc=Sy iI.ct r 0 from by kernel_rfl).trans (Qz h)
theorem iI.nX{r:List CT}{b:List DC}(h:Q (iI.ct++r) b):∃(x:iI) (c:List DC),b=x.enc++c∧Q iI.ct x.enc∧Q r c:=by obtain⟨d,e,rfl,a,f⟩:=SU h;exact⟨iI.nd d 0,e,by rw[iI.eta a],by rw[iI.eta a];exact a,f⟩
theorem iI.njY{x:iI}(h:Q iI.ct x.enc):IJ (.sl K) (.sl x.a):=VM 1 h rfl rfl
structure se where
 c:u
 a:mB
 b:iI
def se.enc(x:se):List DC:=[.sl x.c,.sl x.a.a,.str x.b.b,.sl x.b.a]
def se.nd(r:List DC)(o:Nat):se:=⟨df r (o+0),mB.nd r (o+1),iI.nd r (o+2)⟩
def se.ct:List CT:=[.sl uz,.sl Zi,.str,.sl K]
theorem se.eta{r:List DC}(h:Q se.ct r):(se.nd r 0).enc=r:=(show (se.nd r 0).enc=Sy se.ct r 0 from by kernel_rfl).trans (Qz h)
theorem se.nX{r:List CT}{b:List DC}(h:Q (se.ct++r) b):∃(x:se) (c:List DC),b=x.enc++c∧Q se.ct x.enc∧Q r c:=by obtain⟨d,e,rfl,a,f⟩:=SU h;exact⟨se.nd d 0,e,by rw[se.eta a],by rw[se.eta a];exact a,f⟩
theorem se.nA8{x:se}(h:Q se.ct x.enc):IJ (.sl uz) (.sl x.c):=VM 0 h rfl rfl
theorem se.njY{x:se}(h:Q se.ct x.enc):Q mB.ct x.a.enc:=gj 1 1 h
def Sj(b:Bool→α)(c:Int)(x:u)(d:Int)(e:Int→α)(a:Int):α:=cond (a<d) (cond (t true (A a x)) (cond (!(D (r (q x (lk a)) 0) 0 (s (c - 1)))) (b false) (e (s (a+1)))) lf) (b true)
def yl(a:Bool→α)(N:Nat)(b:Int)(x:u)(c:Int)(d:Nat):Int→α:=bW (λ_=>lf) (Sj lf a b x c) d
theorem nhO(a:Bool→α)(N:Nat)(b:Int)(x:u)(c:Int)(d:Nat):yl lf a N b x c (d+1)=Sj lf a b x c (yl lf a N b x c d):=rfl
def ZQ(lf:α)(a:Bool→α)(b:u→Int→Int→α)(s:iI)(c:Int):α:=cond (cond (!(D c 1 4)) true (cond ((len s.b) != 16) true (!(Xv (len s.a))))) (a false) (b s.a (len s.a) 0)
def niu(a:Bool→α)(N:Nat)(s:iI)(b:Int):α:=ZQ lf a (λx c=>yl lf a N b x c N) s b
def Dv(Y:iI)(a:Int):Bool:=cond (cond (!(D a 1 4)) true (cond ((len Y.b) != 16) true (!(Xv (len Y.a))))) false (Y.a.all (λZ=>D (r Z 0) 0 (s (a - 1))))
theorem nzP(a:Bool→α)(Y:iI)(b:Int)(d:Q iI.ct Y.enc):∃N,niu lf a N Y b=a (Dv Y b):=by
 obtain⟨e,_⟩:=Nh (iI.njY d);refine⟨Y.a.length+1, ?_⟩;unfold niu ZQ Dv;refine U6 (λ_=>rfl) (λ_=>?_);have key:yl lf a (Y.a.length+1) b Y.a (len Y.a) (Y.a.length+1) 0=cond (Y.a.all (λZ=>D (r Z 0) 0 (s (b - 1)))) (a true) (a false):=by
  refine (x9 Y.a (yl lf a (Y.a.length+1) b Y.a (len Y.a)) (λi Z c=>cond (!(D (r Z 0) 0 (s (b - 1)))) (a false) c) (a true) ?_ ?_).trans (RK (λZ=>D (r Z 0) 0 (s (b - 1))) (a false) (a true) Y.a 0)
  ·intro n i h;rw[nhO];simp only[Sj,sg h,mZ h,jy h e,eR,Oi,cz,H]
  ·intro n;rw[nhO];simp only[Sj,Ns,J]
 refine key.trans ?_;cases Y.a.all (λZ=>D (r Z 0) 0 (s (b - 1)))<;>rfl
def yX(b:Bool→α)(c:Int)(a:u)(d:Int→α)(k:Int):α:=cond (k<len a) (cond (t true (A k a)) (cond (!(D (r (q a (lk k)) 0) 0 (s (c - 1)))) (b false) (d (s (k+1)))) lf) (b true)
def Df(a:Bool→α)(N:Nat)(b:Int)(c:u)(d:Nat):Int→α:=bW (λ_=>lf) (yX lf a b c) d
theorem neW(a:Bool→α)(N:Nat)(b:Int)(c:u)(d:Nat):Df lf a N b c (d+1)=yX lf a b c (Df lf a N b c d):=rfl
def Nq(lf:α)(a:Bool→α)(b:u→Int→α)(s:iI)(c:Int):α:=cond (cond (!(D c 1 4)) true (cond ((len s.b) != 16) true (!(Xv (len s.a))))) (a false) (b s.a 0)
def nzy(a:Bool→α)(N:Nat)(s:iI)(b:Int):α:=Nq lf a (λc=>Df lf a N b c N) s b
theorem ncJ(a:Bool→α)(Y:iI)(b:Int)(d:Q iI.ct Y.enc):∃N,nzy lf a N Y b=a (Dv Y b):=by
 obtain⟨e,_⟩:=Nh (iI.njY d);refine⟨Y.a.length+1, ?_⟩;unfold nzy Nq Dv;refine U6 (λ_=>rfl) (λ_=>?_);have key:Df lf a (Y.a.length+1) b Y.a (Y.a.length+1) 0=cond (Y.a.all (λZ=>D (r Z 0) 0 (s (b - 1)))) (a true) (a false):=by
  refine (x9 Y.a (Df lf a (Y.a.length+1) b Y.a) (λi Z c=>cond (!(D (r Z 0) 0 (s (b - 1)))) (a false) c) (a true) ?_ ?_).trans (RK (λZ=>D (r Z 0) 0 (s (b - 1))) (a false) (a true) Y.a 0)
  ·intro n i h;rw[neW];simp only[yX,sg h,mZ h,jy h e,eR,Oi,cz,H]
  ·intro n;rw[neW];simp only[yX,Ns,J]
 refine key.trans ?_;cases Y.a.all (λZ=>D (r Z 0) 0 (s (b - 1)))<;>rfl
def OZ(b:Bool→α)(c:Int→Int→α)(d:Int)(x:u)(e:Int)(f:u)(g:Int→α)(a:Int):α:=cond (a<e) (cond (t true (A a x)) (cond (cond ((r (q x (lk a)) 7)==0) (decide (d≤r (q x (lk a)) 8)) false) (b false) (g (s (a+1)))) lf) (c (len f) 0)
def WV(c:Bool→α)(d:Int)(b:u)(e:Int)(f:Int→α)(a:Int):α:=cond (a<e) (cond (t true (A a b)) (cond (cond ((r (q b (lk a)) 0)==1) (decide (d≤r (q b (lk a)) 6)) false) (c false) (f (s (a+1)))) lf) (c true)
def nB(a:Bool→α)(N:Nat)(b:Int)(c:u)(d:Int)(e:Nat):Int→α:=bW (λ_=>lf) (WV lf a b c d) e
theorem nrk(a:Bool→α)(N:Nat)(b:Int)(c:u)(d:Int)(e:Nat):nB lf a N b c d (e+1)=WV lf a b c d (nB lf a N b c d e):=rfl
def Al(a:Bool→α)(N:Nat)(b:Int)(x:u)(d:Int)(c:u)(e:Nat):Int→α:=bW (λ_=>lf) (OZ lf a (λg=>nB lf a N b c g N) b x d c) e
theorem nus(a:Bool→α)(N:Nat)(b:Int)(x:u)(d:Int)(c:u)(e:Nat)(f:Int):Al lf a N b x d c (e+1) f=OZ lf a (λg=>nB lf a N b c g N) b x d c (Al lf a N b x d c e) f:=rfl
def Nw(lf:α)(a:Bool→α)(b:u→Int→u→Int→α)(s:se)(c:Int):α:=cond (cond (!(vz s.c)) true (cond (!(Fo s.a)) true (!(Dv s.b c)))) (a false) (b s.c (len s.c) s.a.a 0)
def fy(a:Bool→α)(N:Nat)(s:se)(b:Int):α:=Nw lf a (λx c d=>Al lf a N b x c d N) s b
def DA(s:se)(a:Int):Bool:=cond (cond (!(vz s.c)) true (cond (!(Fo s.a)) true (!(Dv s.b a)))) false (cond (s.c.all (λZ=> !(decide (a≤r Z 8)))) (s.a.a.all (λZ=> !(decide (a≤r Z 6)))) false)
theorem nrD{p q:List DC→Bool} :∀ {l:u},(∀r∈l,p r=q r)→l.all p=l.all q
 | [],_=>rfl
 | r::rs,h=>by simp only[oX];rw[h r (by simp),nrD (λx a=>h x (by simp[a]))]
theorem nmZ{Z:List DC}(h:dG (ao.nd Z 0)=true)(b:r Z 7≠0):r Z 8=0:=by
 unfold dG qH at h;simp only[id] at h;have c:((ao.nd Z 0).f==0)=false:=by show (r Z 7==0)=false;simpa using b
 rw[c] at h;simp only[J] at h;by_cases a:r Z 8=0
 ·exact a
 ·have d:((ao.nd Z 0).d==0)=false:=by show (r Z 8==0)=false;simpa using a
  rw[d] at h;revert h;cases (ao.nd Z 0).f==1<;>simp
theorem nyv{t:mB}(h:Fo t=true){Z:List DC}(e:Z∈t.a)(f:r Z 0≠1):r Z 6=0:=by
 unfold Fo at h;cases a:(len t.a) != 8
 ·rw[a,J] at h;cases b:RP (iu t.a) t.a 0
  ·obtain⟨i,c,rfl⟩:=p6 e;have:=YE b i c;rw[mc] at this;have g:q t.a i=t.a[i]:=by simp[q,m8,c]
   rw[g] at this;unfold iu at this;have j:((r t.a[i] 0) != 1)=true:=by simpa using f
   rw[j] at this;by_cases d:r t.a[i] 6=0
   ·exact d
   ·have k:((r t.a[i] 6) != 0)=true:=by simpa using d
    rw[k] at this;revert this;cases dE t.a[i]<;>cases rW t.a[i]<;>simp
  ·rw[b] at h;cases h
 ·rw[a] at h;cases h
theorem ngM{s:se}{d:Int}(a:(cond (!(vz s.c)) true (cond (!(Fo s.a)) true (!(Dv s.b d))))=false):
  (∀r∈s.c,dG (ao.nd r 0)=true)∧Fo s.a=true∧1≤d:=by
 cases b:vz s.c
 ·rw[b] at a;cases a
 cases f:Fo s.a
 ·rw[b,f] at a;cases a
 cases e:Dv s.b d
 ·rw[b,f,e] at a;cases a
 refine⟨?_,rfl, ?_⟩
 ·unfold vz at b;cases c:s.c.all (λr=>dG (ao.nd r 0))
  ·rw[c] at b;cases b
  ·exact λr g=>by simpa using pf.1 c r g
 ·unfold Dv at e;cases c:D d 1 4
  ·rw[c] at e;cases e
  ·exact (YF.1 c).1
theorem nq1(a:Bool→α)(s:se)(b:Int)(j:Q se.ct s.enc):∃N,fy lf a N s b=a (DA s b):=by
 obtain⟨k,_⟩:=Nh (se.nA8 j);obtain⟨m,_⟩:=Nh (mB.nd9 (se.njY j));refine⟨s.c.length+s.a.a.length+1, ?_⟩;unfold fy Nw DA;refine U6 (λ_=>rfl) (λo=>?_);have f:nB lf a (s.c.length+s.a.a.length+1) b s.a.a (len s.a.a) (s.c.length+s.a.a.length+1) 0=cond (s.a.a.all (λZ=> !(cond ((r Z 0)==1) (decide (b≤r Z 6)) false))) (a true) (a false):=by
  refine (TR s.a.a (nB lf a (s.c.length+s.a.a.length+1) b s.a.a (len s.a.a)) (λi Z c=>cond (!(!(cond ((r Z 0)==1) (decide (b≤r Z 6)) false))) (a false) c) (a true) ?_ ?_ (s.c.length+s.a.a.length+1) (by omega)).trans (RK (λZ=> !(cond ((r Z 0)==1) (decide (b≤r Z 6)) false)) (a false) (a true) s.a.a 0)
  ·intro n i h;rw[nrk];simp only[WV,sg h,mZ h,jy h m,eR,Oi,cz,H,n0]
  ·intro n;rw[nrk];simp only[WV,Ns,J]
 have key:Al lf a (s.c.length+s.a.a.length+1) b s.c (len s.c) s.a.a (s.c.length+s.a.a.length+1) 0=cond (s.c.all (λZ=> !(cond ((r Z 7)==0) (decide (b≤r Z 8)) false))) (cond (s.a.a.all (λZ=> !(cond ((r Z 0)==1) (decide (b≤r Z 6)) false))) (a true) (a false)) (a false):=by
  refine (TR s.c (Al lf a (s.c.length+s.a.a.length+1) b s.c (len s.c) s.a.a) (λi Z c=>cond (!(!(cond ((r Z 7)==0) (decide (b≤r Z 8)) false))) (a false) c) (cond (s.a.a.all (λZ=> !(cond ((r Z 0)==1) (decide (b≤r Z 6)) false))) (a true) (a false)) ?_ ?_ (s.c.length+s.a.a.length+1) (by omega)).trans (RK (λZ=> !(cond ((r Z 7)==0) (decide (b≤r Z 8)) false)) (a false) _ s.c 0)
  ·intro n i h;rw[nus];simp only[OZ,sg h,mZ h,jy h k,eR,Oi,cz,H,n0]
  ·intro n;rw[nus];simp only[OZ,Ns,J];exact f
 refine key.trans ?_;obtain⟨p,t,u⟩:=ngM o;rw[nrD (l:=s.c) (q:=λZ=> !(decide (b≤r Z 8))) (λZ g=>by
  by_cases d:r Z 7=0
  ·have e:((r Z 7)==0)=true:=by simpa using d
   rw[e,H]
  ·have e:((r Z 7)==0)=false:=by simpa using d
   rw[e,J,nmZ (p Z g) d,ja (by omega)])]
 rw[nrD (l:=s.a.a) (q:=λZ=> !(decide (b≤r Z 6))) (λZ g=>by
  by_cases d:r Z 0=1
  ·have e:((r Z 0)==1)=true:=by simpa using d
   rw[e,H]
  ·have e:((r Z 0)==1)=false:=by simpa using d
   rw[e,J,nyv t g d,ja (by omega)])]
 cases s.c.all (λZ=> !(decide (b≤r Z 8)))
 ·rfl
 ·cases s.a.a.all (λZ=> !(decide (b≤r Z 6)))<;>rfl
def fe(b:Bool→α)(c:Int→α)(d:Int)(a f:u)(e:Int→α)(k:Int):α:=cond (k<len a) (cond (t true (A k a)) (cond (d≤r (q a (lk k)) 8) (b false) (e (s (k+1)))) lf) (c 0)
def wD(c:Bool→α)(d:Int)(b:u)(e:Int→α)(a:Int):α:=cond (a<len b) (cond (t true (A a b)) (cond (d≤r (q b (lk a)) 6) (c false) (e (s (a+1)))) lf) (c true)
def cR(a:Bool→α)(N:Nat)(b:Int)(c:u)(d:Nat):Int→α:=bW (λ_=>lf) (wD lf a b c) d
theorem nwu(a:Bool→α)(N:Nat)(b:Int)(c:u)(d:Nat):cR lf a N b c (d+1)=wD lf a b c (cR lf a N b c d):=rfl
def TJ(a:Bool→α)(N:Nat)(b:Int)(d c:u)(e:Nat):Int→α:=bW (λ_=>lf) (fe lf a (cR lf a N b c N) b d c) e
theorem nBs(a:Bool→α)(N:Nat)(b:Int)(d c:u)(e:Nat)(k:Int):TJ lf a N b d c (e+1) k=fe lf a (cR lf a N b c N) b d c (TJ lf a N b d c e) k:=rfl
def Tw(lf:α)(a:Bool→α)(b:u→u→Int→α)(s:se)(c:Int):α:=cond (cond (!(vz s.c)) true (cond (!(Fo s.a)) true (!(Dv s.b c)))) (a false) (b s.c s.a.a 0)
def TP(a:Bool→α)(N:Nat)(s:se)(b:Int):α:=Tw lf a (λc d=>TJ lf a N b c d N) s b
theorem nfs(a:Bool→α)(s:se)(b:Int)(e:Q se.ct s.enc):∃N,TP lf a N s b=a (DA s b):=by
 obtain⟨f,_⟩:=Nh (se.nA8 e);obtain⟨g,_⟩:=Nh (mB.nd9 (se.njY e));refine⟨s.c.length+s.a.a.length+1, ?_⟩;unfold TP Tw DA;refine U6 (λ_=>rfl) (λj=>?_);have d:cR lf a (s.c.length+s.a.a.length+1) b s.a.a (s.c.length+s.a.a.length+1) 0=cond (s.a.a.all (λZ=> !(decide (b≤r Z 6)))) (a true) (a false):=by
  refine (TR s.a.a (cR lf a (s.c.length+s.a.a.length+1) b s.a.a) (λi Z c=>cond (!(!(decide (b≤r Z 6)))) (a false) c) (a true) ?_ ?_ (s.c.length+s.a.a.length+1) (by omega)).trans (RK (λZ=> !(decide (b≤r Z 6))) (a false) (a true) s.a.a 0)
  ·intro n i h;rw[nwu];simp only[wD,sg h,mZ h,jy h g,eR,Oi,cz,H,n0]
  ·intro n;rw[nwu];simp only[wD,Ns,J]
 have key:TJ lf a (s.c.length+s.a.a.length+1) b s.c s.a.a (s.c.length+s.a.a.length+1) 0=cond (s.c.all (λZ=> !(decide (b≤r Z 8)))) (cond (s.a.a.all (λZ=> !(decide (b≤r Z 6)))) (a true) (a false)) (a false):=by
  refine (TR s.c (TJ lf a (s.c.length+s.a.a.length+1) b s.c s.a.a) (λi Z c=>cond (!(!(decide (b≤r Z 8)))) (a false) c) (cond (s.a.a.all (λZ=> !(decide (b≤r Z 6)))) (a true) (a false)) ?_ ?_ (s.c.length+s.a.a.length+1) (by omega)).trans (RK (λZ=> !(decide (b≤r Z 8))) (a false) _ s.c 0)
  ·intro n i h;rw[nBs];simp only[fe,sg h,mZ h,jy h f,eR,Oi,cz,H,n0]
  ·intro n;rw[nBs];simp only[fe,Ns,J];exact d
 refine key.trans ?_;cases s.c.all (λZ=> !(decide (b≤r Z 8)))
 ·rfl
 ·cases s.a.a.all (λZ=> !(decide (b≤r Z 6)))<;>rfl
structure Pa where
 a:Int
 b:Int
 e:Int
 c:Int
 d:Int
def Pa.enc(x:Pa):List DC:=[.int x.a,.int x.b,.int x.e,.int x.c,.int x.d]
def Pa.nd(Z:List DC)(o:Nat):Pa:=⟨r Z (o+0),r Z (o+1),r Z (o+2),r Z (o+3),r Z (o+4)⟩
def Pa.ct:List CT:=[.i,.i,.i,.i,.i]
theorem Pa.eta{r:List DC}(h:Q Pa.ct r):(Pa.nd r 0).enc=r:=(show (Pa.nd r 0).enc=Sy Pa.ct r 0 from by kernel_rfl).trans (Qz h)
theorem Pa.nX{r:List CT}{b:List DC}(h:Q (Pa.ct++r) b):∃(x:Pa) (c:List DC),b=x.enc++c∧Q Pa.ct x.enc∧Q r c:=by obtain⟨d,e,rfl,a,f⟩:=SU h;exact⟨Pa.nd d 0,e,by rw[Pa.eta a],by rw[Pa.eta a];exact a,f⟩
structure z where
 h:v
 j:u
 a:Co
 b:u
 e:u
 g:u
 i:u
 f:QD
 d:se
 k:u
 m:Bool
 l:u
 n:u
 o:u
 c:Pa
def z.enc(x:z):List DC:=[.sl x.h.a,.sl x.j,.int x.a.b.b,.int x.a.b.a,.int x.a.b.d,.int x.a.b.c,.int x.a.a.b,.int x.a.a.a,.int x.a.a.c,.sl x.a.a.d,.sl x.a.c,.int x.a.d,.sl x.b,.sl x.e,.sl x.g,.sl x.i,.int x.f.b,.bool x.f.c,.sl x.f.a,.sl x.d.c,.sl x.d.a.a,.str x.d.b.b,.sl x.d.b.a,.sl x.k,.bool x.m,.sl x.l,.sl x.n,.sl x.o,.int x.c.a,.int x.c.b,.int x.c.e,.int x.c.c,.int x.c.d]
def z.nd(r:List DC)(o:Nat):z:=⟨v.nd r (o+0),df r (o+1),Co.nd r (o+2),df r (o+12),df r (o+13),df r (o+14),df r (o+15),QD.nd r (o+16),se.nd r (o+19),df r (o+23),Dd r (o+24),df r (o+25),df r (o+26),df r (o+27),Pa.nd r (o+28)⟩
def z.ct:List CT:=[.sl sK,.sl lU,.i,.i,.i,.i,.i,.i,.i,.sl K,.sl [.i,.i,.sl K],.i,.sl au,.sl [.i,.i,.i,.sl K],.sl EJ,.sl Cl,.i,.bool,.sl K,.sl uz,.sl Zi,.str,.sl K,.sl qJ,.bool,.sl sK,.sl K,.sl K,.i,.i,.i,.i,.i]
theorem z.eta{r:List DC}(h:Q z.ct r):(z.nd r 0).enc=r:=(show (z.nd r 0).enc=Sy z.ct r 0 from by kernel_rfl).trans (Qz h)
theorem z.nX{r:List CT}{b:List DC}(h:Q (z.ct++r) b):∃(x:z) (c:List DC),b=x.enc++c∧Q z.ct x.enc∧Q r c:=by obtain⟨d,e,rfl,a,f⟩:=SU h;exact⟨z.nd d 0,e,by rw[z.eta a],by rw[z.eta a];exact a,f⟩
theorem z.nA9{x:z}(h:Q z.ct x.enc):IJ (.sl au) (.sl x.b):=VM 12 h rfl rfl
theorem z.npk{x:z}(h:Q z.ct x.enc):IJ (.sl [.i,.i,.i,.sl K]) (.sl x.e):=VM 13 h rfl rfl
theorem z.nni{x:z}(h:Q z.ct x.enc):IJ (.sl EJ) (.sl x.g):=VM 14 h rfl rfl
theorem z.nBQ{x:z}(h:Q z.ct x.enc):IJ (.sl Cl) (.sl x.i):=VM 15 h rfl rfl
def VH(h:Bool→α)(i:Int→u→Int→α)(n Y:Int)(b c d Z r:u)(X:x)(W:u)(j k l m o:Int)(p:Int→α)(a:Int):α:=let e:Bool:= !(TH (S.nd (q b (lk a)) 0));let f:Bool:= !(PM (G.nd (q c (lk a)) 0));let g:Bool:=t (t true (A a b)) (A a c);cond (a<Y) (cond (pk e (t true (A a b)) (pk f g (t g (A a d)))) (cond (cond e true (cond f true (!(iv (Ue.nd (q d (lk a)) 0))))) (h false) (p (s (a+1)))) lf) (i 5 ([[.int j],[.int k],[.int l],[.int m],[.int o]]) 0)
def fX(c:Bool→α)(n d:Int)(e f:u)(g:x)(h b:u)(i:Int→α)(a:Int):α:=cond (a<d) (cond (t (t true (A a b)) (inl (lk a) b)) (cond (!(D (r (q b (lk a)) 0) 0 1000000000000)) (c false) (i (s (a+1)))) lf) (c (DA (⟨e,(⟨f⟩:mB),(⟨g,h⟩:iI)⟩:se) n))
def sm(a:Bool→α)(N:Nat)(n b:Int)(c d:u)(e:x)(f g:u)(h:Nat):Int→α:=bW (λ_=>lf) (fX lf a n b c d e f g) h
theorem nbP(a:Bool→α)(N:Nat)(n b:Int)(c d:u)(e:x)(f g:u)(h:Nat):sm lf a N n b c d e f g (h+1)=fX lf a n b c d e f g (sm lf a N n b c d e f g h):=rfl
def eK(a:Bool→α)(N:Nat)(n Z:Int)(f g h b c:u)(d:x)(e:u)(i j k l m:Int)(o:Nat):Int→α:=bW (λ_=>lf) (VH lf a (λq r=>sm lf a N n q b c d e r N) n Z f g h b c d e i j k l m) o
theorem nro(a:Bool→α)(N:Nat)(n Z:Int)(f g h b c:u)(d:x)(e:u)(i j k l m:Int)(o:Nat)(p:Int):eK lf a N n Z f g h b c d e i j k l m (o+1) p=VH lf a (λq r=>sm lf a N n q b c d e r N) n Z f g h b c d e i j k l m (eK lf a N n Z f g h b c d e i j k l m o) p:=rfl
def kc(d:Bool→α)(e:Int→Int→u→u→u→u→u→x→u→Int→Int→Int→Int→Int→Int→α)(h:z):α:=let a:Bool:= !(D (len h.b) 1 2);let b:Bool:=(len h.e) != (len h.b);let c:Bool:=(len h.g) != (len h.b);cond (pk (!(Km h.h)) true (pk (!(mC h.j)) true (pk (!(Q7 h.a)) (t true (cF h.a)) (pk (!(pY h.f)) (t true (cF h.a)) (pk a (t true (cF h.a)) (pk b (t true (cF h.a)) (pk c (t true (cF h.a)) (t true (cF h.a))))))))) (cond (cond (!(Km h.h)) true (cond (!(mC h.j)) true (cond (!(Q7 h.a)) true (cond (!(pY h.f)) true (cond a true (cond b true (cond c true ((len h.i) != (len h.b))))))))) (d false) (e (len h.b) (len h.b) h.b h.e h.g h.d.c h.d.a.a h.d.b.b h.d.b.a h.c.a h.c.b h.c.e h.c.c h.c.d 0)) lf
def xm(a:Bool→α)(N:Nat)(h:z):α:=kc lf a (λn x b c d e f g i j k l m o=>eK lf a N n x b c d e f g i j k l m o N) h
def Aa(h:z):Bool:=cF h.a
def hC(h:z):u:=[[.int h.c.a],[.int h.c.b],[.int h.c.e],[.int h.c.c],[.int h.c.d]]
def SH(h:z):Bool:=(cond (!(Km h.h)) true (cond (!(mC h.j)) true (cond (!(Q7 h.a)) true (cond (!(pY h.f)) true (cond (!(D (len h.b) 1 2)) true (cond ((len h.e) != (len h.b)) true (cond ((len h.g) != (len h.b)) true ((len h.i) != (len h.b)))))))))
def zp(h:z):Bool:=cond (SH h) false (cond (DA h.d (len h.b)) (cond (Ot (λi=>cond (!(TH (S.nd (q h.b i) 0))) true (cond (!(PM (G.nd (q h.e i) 0))) true (!(iv (Ue.nd (q h.g i) 0))))) h.b.length 0) false ((hC h).all (λZ=>D (r Z 0) 0 1000000000000))) false)
theorem ndk(a:Bool→α)(h:z)(p:Aa h=true):∃N,xm lf a N h=a (zp h):=by
 have Z:cF h.a=true:=p;refine⟨h.b.length+6, ?_⟩;unfold xm kc zp;simp only[Z,Oi,cz,vb,H];refine U6 (λ_=>rfl) (λd=>?_);have m:h.b.length≤2∧len h.e=len h.b∧len h.g=len h.b:=by
  unfold SH at d;cases o:D (len h.b) 1 2
  ·rw[o] at d;revert d;cases Km h.h<;>cases mC h.j<;>cases Q7 h.a<;>cases pY h.f<;>simp
  ·have b:=(YF.1 o).2;by_cases f:len h.e=len h.b
   ·by_cases g:len h.g=len h.b
    ·exact⟨by simp only[len] at b;omega,f,g⟩
    ·have g:((len h.g) != (len h.b))=true:=by simpa using g
     rw[g] at d;revert d;cases Km h.h<;>cases mC h.j<;>cases Q7 h.a<;>cases pY h.f<;>cases D (len h.b) 1 2<;>cases ((len h.e) != (len h.b))<;>simp
   ·have f:((len h.e) != (len h.b))=true:=by simpa using f
    rw[f] at d;revert d;cases Km h.h<;>cases mC h.j<;>cases Q7 h.a<;>cases pY h.f<;>cases D (len h.b) 1 2<;>simp
 obtain⟨m,t,u⟩:=m;have v:(hC h).length=5:=rfl;have j:sm lf a (h.b.length+6) (len h.b) 5 h.d.c h.d.a.a h.d.b.b h.d.b.a (hC h) (h.b.length+6) 0=cond ((hC h).all (λY=>D (r Y 0) 0 1000000000000)) (a (DA h.d (len h.b))) (a false):=by
  refine (TR (hC h) (sm lf a (h.b.length+6) (len h.b) 5 h.d.c h.d.a.a h.d.b.b h.d.b.a (hC h)) (λi Y c=>cond (!(D (r Y 0) 0 1000000000000)) (a false) c) ((a (DA h.d (len h.b)))) ?_ ?_ (h.b.length+6) (by omega)).trans (RK (λY=>D (r Y 0) 0 1000000000000) (a false) ((a (DA h.d (len h.b)))) (hC h) 0)
  ·intro n i e;rw[nbP];have k:s ((i:Int)+1)=(i:Int)+1:=fg;have w:decide ((i:Int)<5)=true:=Hd (by omega);simp only[fX,w,mZ e,R7 e,k,eR,Oi,cz,H]
  ·intro n;rw[nbP];rfl
 have key:eK lf a (h.b.length+6) (len h.b) (len h.b) h.b h.e h.g h.d.c h.d.a.a h.d.b.b h.d.b.a h.c.a h.c.b h.c.e h.c.c h.c.d (h.b.length+6) 0=cond (Ot (λi=>cond (!(TH (S.nd (q h.b i) 0))) true (cond (!(PM (G.nd (q h.e i) 0))) true (!(iv (Ue.nd (q h.g i) 0))))) h.b.length 0) (a false) (cond ((hC h).all (λY=>D (r Y 0) 0 1000000000000)) (a (DA h.d (len h.b))) (a false)):=by
  refine (Qr (σ:=Unit) h.b.length (λn i _=>eK lf a (h.b.length+6) (len h.b) (len h.b) h.b h.e h.g h.d.c h.d.a.a h.d.b.b h.d.b.a h.c.a h.c.b h.c.e h.c.c h.c.d n i) (λi c X=>cond (cond (!(TH (S.nd (q h.b i) 0))) true (cond (!(PM (G.nd (q h.e i) 0))) true (!(iv (Ue.nd (q h.g i) 0))))) (a false) (c X)) (λ_=>cond ((hC h).all (λY=>D (r Y 0) 0 1000000000000)) (a (DA h.d (len h.b))) (a false)) ?_ ?_ (h.b.length+6) () (by omega)).trans (RO (λi=>cond (!(TH (S.nd (q h.b i) 0))) true (cond (!(PM (G.nd (q h.e i) 0))) true (!(iv (Ue.nd (q h.g i) 0))))) (a false) _ h.b.length 0)
  ·intro n i X e;show eK lf a (h.b.length+6) (len h.b) (len h.b) h.b h.e h.g h.d.c h.d.a.a h.d.b.b h.d.b.a h.c.a h.c.b h.c.e h.c.c h.c.d (n+1) (i:Int)=_;rw[nro];have k:s ((i:Int)+1)=(i:Int)+1:=fg;have x:A (i:Int) h.b=true:=mZ e;have y:A (i:Int) h.e=true:=mZ (by simp only[len] at t;omega);have W:A (i:Int) h.g=true:=mZ (by simp only[len] at u;omega);have l:decide ((i:Int)<len h.b)=true:=sg e;simp only[VH,l,x,y,W,k,eR,Oi,cz,vb,H]
  ·intro n X;show eK lf a (h.b.length+6) (len h.b) (len h.b) h.b h.e h.g h.d.c h.d.a.a h.d.b.b h.d.b.a h.c.a h.c.b h.c.e h.c.c h.c.d (n+1) (h.b.length:Int)=_;rw[nro];have l:decide ((h.b.length:Int)<len h.b)=false:=Ns h.b;simp only[VH,l,J];exact j
 refine key.trans ?_;cases DA h.d (len h.b)
 ·cases Ot (λi=>cond (!(TH (S.nd (q h.b i) 0))) true (cond (!(PM (G.nd (q h.e i) 0))) true (!(iv (Ue.nd (q h.g i) 0))))) h.b.length 0
  ·cases (hC h).all (λY=>D (r Y 0) 0 1000000000000)<;>rfl
  ·rfl
 ·cases Ot (λi=>cond (!(TH (S.nd (q h.b i) 0))) true (cond (!(PM (G.nd (q h.e i) 0))) true (!(iv (Ue.nd (q h.g i) 0))))) h.b.length 0
  ·cases (hC h).all (λY=>D (r Y 0) 0 1000000000000)<;>rfl
  ·rfl
def NI(a:u):Bool:=Pw a && a.all (λr=>Pw (df r 2))
def Ek(a:u):Bool:=Pw a && a.all (λr=>Pw (df r 3))
def mD(a:z):Bool:=Pw a.h.a && (Pw a.j && (Pw a.a.a.d && (NI a.a.c && (Pw a.b && (Ek a.e && (Pw a.g && (Pw a.i && (Pw a.f.a && (Pw a.d.c && (Pw a.d.a.a && (Pw a.d.b.a && (Pw a.k && (Pw a.l && (Pw a.n && (Pw a.o)))))))))))))))
theorem foldl_push(q:List DC→List DC):∀(l o:u),l.foldl (λo r=>o++[q r]) o=o++l.map q
 | [],o=>by simp
 | r::l,o=>by rw[pr,foldl_push q l,pv,m9];rfl
def ZP(b:x→α)(n Z:Int)(c:Int→u→α)(i:Int)(a:u):α:=cond (i<n) (cond (t (t true (A i a)) (inl (lk i) a)) (c (s (i+1)) (m7 a (lk i) (Sk (q a (lk i)) 0 [.int Z]))) lf) (b (toStr a))
def dm(a:x→α)(N:Nat)(n Z:Int)(b:Nat):Int→u→α:=bW (λ_ _=>lf) (ZP lf a n Z) b
theorem nkb(a:x→α)(N:Nat)(n Z:Int)(b:Nat):dm lf a N n Z (b+1)=ZP lf a n Z (dm lf a N n Z b):=rfl
def yo(b:x→α)(a:Int→u→α)(n Z:Int):α:=cond (t true (kZ 1 n n)) (a 0 (ma (lk n) ([.int 0]:List DC))) lf
def nhQ(a:x→α)(N:Nat)(n Z:Int):α:=yo lf a (dm lf a N n Z N) n Z
def WU(n x:Int):Bool:=cond (0≤n) (decide (n≤1000)) false
def vZ(n Z:Int):x:=ma n.toNat (UInt8.ofNat Z.toNat)
theorem nc6(n:Nat){x:Int}(a:0≤x)(b:x≤255):(ma n [DC.int x]:u)=ofStr (ma n (UInt8.ofNat x.toNat)):=by simp only[ofStr,pH,nbQ a b]
theorem nqY(a:x→α)(n Y:Int)(c:IJ (.int .u8) (.int Y))(j:WU n Y=true):∃N,nhQ lf a N n Y=a (vZ n Y):=by
 obtain⟨p,r⟩:=YF.1 j;have e:0≤Y∧Y≤255:=by have h:=c;simp only[IJ,DC.int.injEq] at h;obtain⟨m,rfl,h⟩:=h;simpa [dQ,IntKind.min,pZ,p7,IntKind.bits] using h
 refine⟨n.toNat+1, ?_⟩;unfold nhQ yo vZ;have d:kZ 1 n n=true:=by simp only[kZ,Bl,js];omega
 simp only[d,Oi,H];have b:(ma n.toNat [DC.int 0]:u).length=n.toNat:=by simp
 have:=yE (ma n.toNat [DC.int 0]) (dm lf a (n.toNat+1) n Y) (λo=>a (toStr o)) (λ_=>[.int Y]) ?_ ?_
 ·rw[b] at this;rw[this,pH,nc6 _ e.1 e.2,SW]
 ·intro Z i o h f k;rw[b] at h;rw[nkb];have g:i<o.length:=by rw[f,b];exact h
  have l:q o i=[DC.int 0]:=by rw[k];simp only[q,m8];rw[p8 h];rfl
  simp only[ZP,Hd (show (i:Int)<n by omega),mZ g,R7 g,eR,Oi,H,l,Z1,fg (show -9223372036854775808≤(i:Int)+1 by omega) (show (i:Int)+1≤9223372036854775807 by omega)]
 ·intro Z o f;rw[b,nkb];simp only[ZP,ja (show ¬((n.toNat:Nat):Int)<n by omega),J]
def QU(b n:Int):x:=vZ n b
def TT(b n:Int):Bool:=WU n b
def pj(d:x→α)(b Z:Int)(e:Int→u→α)(a:Int)(c:u):α:=cond (a<Z) (cond (t (t true (A a c)) (inl (lk a) c)) (e (s (a+1)) (m7 c (lk a) (Sk (q c (lk a)) 0 [.int b]))) lf) (d (toStr c))
def nH(a:x→α)(N:Nat)(b Z:Int)(c:Nat):Int→u→α:=bW (λ_ _=>lf) (pj lf a b Z) c
theorem ndV(a:x→α)(N:Nat)(b Z:Int)(c:Nat):nH lf a N b Z (c+1)=pj lf a b Z (nH lf a N b Z c):=rfl
def uE(c:x→α)(a:Int→Int→u→α)(b n:Int):α:=cond (t true (kZ 1 n n)) (a (len (ma (lk n) ([.int 0]:List DC))) 0 (ma (lk n) ([.int 0]:List DC))) lf
def nfA(a:x→α)(N:Nat)(b n:Int):α:=uE lf a (λZ=>nH lf a N b Z N) b n
theorem nAM(c:x→α)(b n:Int)(d:IJ (.int .u8) (.int b))(l:TT b n=true):∃N,nfA lf c N b n=c (QU b n):=by
 obtain⟨r,s⟩:=YF.1 (show (cond (0≤n) (decide (n≤1000)) false)=true from l);have g:0≤b∧b≤255:=by have h:=d;simp only[IJ,DC.int.injEq] at h;obtain⟨m,rfl,h⟩:=h;simpa [dQ,IntKind.min,pZ,p7,IntKind.bits] using h
 refine⟨n.toNat+1, ?_⟩;unfold nfA uE QU vZ;have e:kZ 1 n n=true:=by simp only[kZ,Bl,js];omega
 simp only[e,Oi,H];have a:(ma n.toNat [DC.int 0]:u).length=n.toNat:=by simp
 have f:(len (ma n.toNat [DC.int 0]):Int)=n:=by simp only[len,a];omega
 rw[f];have:=yE (ma n.toNat [DC.int 0]) (nH lf c (n.toNat+1) b n) (λo=>c (toStr o)) (λ_=>[.int b]) ?_ ?_
 ·rw[a] at this;rw[this,pH,nc6 _ g.1 g.2,SW]
 ·intro Z i o h j f;rw[a] at h;rw[ndV];have k:i<o.length:=by rw[j,a];exact h
  have p:q o i=[DC.int 0]:=by rw[f];simp only[q,m8];rw[p8 h];rfl
  simp only[pj,Hd (show (i:Int)<n by omega),mZ k,R7 k,eR,Oi,H,p,Z1,fg (show -9223372036854775808≤(i:Int)+1 by omega) (show (i:Int)+1≤9223372036854775807 by omega)]
 ·intro Z o j;rw[a,ndV];simp only[pj,ja (show ¬((n.toNat:Nat):Int)<n by omega),J]
def nve(a:Int→α)(Z:x)(eQ:Int):α:=cond (cond (eQ<0) true (decide (s ((len Z) - 4)<eQ))) (a (-1)) (cond (t (t (t (t true (A eQ Z)) (A (s (eQ+1)) Z)) (A (s (eQ+2)) Z)) (A (s (eQ+3)) Z)) (a (bits .or .i64 (bits .or .i64 (bits .or .i64 (PJ .i64 (s (A2 Z eQ)) 24) (PJ .i64 (s (A2 Z (s (eQ+1)))) 16)) (PJ .i64 (s (A2 Z (s (eQ+2)))) 8)) (s (A2 Z (s (eQ+3)))))) lf)
def Q2(s:x)(eQ:Int):Int:=cond (cond (eQ<0) true (decide (len s<eQ+4))) (-1) ((A2 s eQ)*16777216+(A2 s (eQ+1))*65536+(A2 s (eQ+2))*256+A2 s (eQ+3))
theorem nsf(d:Int→α)(Z:x)(eQ:Int)(f:IJ .str (.str Z))(g:IJ .i (.int eQ)):nve lf d Z eQ=d (Q2 Z eQ):=by
 have p:=cj f;have q:=Ti g;have h:0≤len Z:=by simp[len]
 have r:len Z≤9223372036854775807:=by simp only[len];omega
 have a:∀j:Int,eQ≤j→j<eQ+4→0≤eQ→eQ+4≤len Z→A j Z=true:=by intro j t u v k;simp only[len] at k;simp only[A,Bl,js];omega
 unfold nve Q2;by_cases b:eQ<0
 ·simp only[b,decide_true,H]
 ·by_cases e:len Z<eQ+4
  ·have c:s (len Z - 4)<eQ:=by rw[fg];omega
   simp only[b,e,c,decide_true,decide_false,H,J]
  ·have c:¬s (len Z - 4)<eQ:=by rw[fg];omega
   have l:s (eQ+1)=eQ+1:=fg;have m:s (eQ+2)=eQ+2:=fg;have o:s (eQ+3)=eQ+3:=fg;have w:=Te Z eQ;have c0:=UE Z eQ;have z:=Te Z (eQ+1);have Y:=UE Z (eQ+1);have B:=Te Z (eQ+2);have C:=UE Z (eQ+2);have D:=Te Z (eQ+3);have E:=UE Z (eQ+3);simp only[b,e,c,decide_false,J,l,m,o,a eQ (by omega) (by omega) (by omega) (by omega),a (eQ+1) (by omega) (by omega) (by omega) (by omega),a (eQ+2) (by omega) (by omega) (by omega) (by omega),a (eQ+3) (by omega) (by omega) (by omega) (by omega),Oi,H];rw[fg (n:=A2 Z eQ),fg (n:=A2 Z (eQ+1)),fg (n:=A2 Z (eQ+2)),fg (n:=A2 Z (eQ+3))];rw[ncy,naa,CP];rw[fg (n:=A2 Z eQ*16777216),fg (n:=A2 Z (eQ+1)*65536),fg (n:=A2 Z (eQ+2)*256)];rw[eL 24 (x:=A2 Z eQ*16777216) (by omega) (by omega) (by omega) (by omega) (by omega) (by omega)];rw[eL 16 (y:=A2 Z (eQ+2)*256) (by omega) (by omega) (by omega) (by omega) (by omega) (by omega)];rw[eL 8 (y:=A2 Z (eQ+3)) (by omega) (by omega) (by omega) (by omega) (by omega) (by omega)]
def Pb(a:Bool→α)(Z:x)(eQ n:Int):α:=a (cond (0≤eQ) (cond (eQ≤len Z) (decide (n≤s ((len Z) - eQ))) false) false)
def YK(s:x)(eQ n:Int):Bool:=Pb id s eQ n
theorem nwS(a:Bool→α)(s:x)(eQ n:Int):Pb a s eQ n=a (YK s eQ n):=by rfl
def nme(a:Int→α)(Z:x)(eQ:Int):α:=cond (!(YK Z eQ 2)) (a (-1)) (cond (t (t true (A eQ Z)) (A (s (eQ+1)) Z)) (a (s ((PJ .i64 (s (A2 Z eQ)) 8)+(s (A2 Z (s (eQ+1))))))) lf)
def CW(s:x)(eQ:Int):Int:=cond (!(YK s eQ 2)) (-1) ((A2 s eQ)*256+A2 s (eQ+1))
theorem within_iff{s:x}{eQ n:Int}(d:s.length≤9223372036854775807):YK s eQ n=true↔0≤eQ∧eQ≤len s∧eQ+n≤len s:=by
 have c:0≤len s:=by simp[len]
 have e:len s≤9223372036854775807:=by simp only[len];omega
 unfold YK Pb;by_cases a:0≤eQ
 ·by_cases b:eQ≤len s
  ·rw[fg];simp only[a,b,decide_true,H,id,true_and];constructor
   ·intro h;have:=of_decide_eq_true h;omega
   ·intro h;exact Hd (by omega)
  ·simp[a,b]
 ·simp[a]
theorem nDu(a:Int→α)(Z:x)(eQ:Int)(c:IJ .str (.str Z)):nme lf a Z eQ=a (CW Z eQ):=by
 have d:=cj c;have e:0≤len Z:=by simp[len]
 have i:len Z≤9223372036854775807:=by simp only[len];omega
 unfold nme CW;cases f:YK Z eQ 2
 ·rfl
 ·have k:=(within_iff d).1 f;have g:s (eQ+1)=eQ+1:=fg;have b:∀j:Int,0≤j→j<len Z→A j Z=true:=by intro j l h;simp only[len] at h;simp only[A,Bl,js];omega
  have m:=Te Z eQ;have c0:=UE Z eQ;have o:=Te Z (eQ+1);have p:=UE Z (eQ+1);simp only[g,b eQ (by omega) (by omega),b (eQ+1) (by omega) (by omega),Oi,H,J,l_];rw[fg (n:=A2 Z eQ),fg (n:=A2 Z (eQ+1)),CP,fg (n:=A2 Z eQ*256),fg]
def nzb(a:Int→α)(Z:x)(eQ:Int):α:=cond (!(YK Z eQ 4)) (a (-1)) (a (s ((PJ .i64 (CW Z eQ) 16)+(CW Z (s (eQ+2))))))
theorem nsq(c:Int→α)(Y:x)(eQ:Int)(f:IJ .str (.str Y))(g:IJ .i (.int eQ)):nzb c Y eQ=c (Q2 Y eQ):=by
 have a:=cj f;have j:0≤len Y:=by simp[len]
 have o:len Y≤9223372036854775807:=by simp only[len];omega
 have p:=Ti g;unfold nzb Q2;cases d:YK Y eQ 4
 ·have k:¬(0≤eQ∧eQ≤len Y∧eQ+4≤len Y):=λh=>by rw[(within_iff a).2 h] at d;cases d
  have:(cond (eQ<0) true (decide (len Y<eQ+4)))=true:=by
   by_cases b:eQ<0
   ·simp[b]
   ·simp only[b,decide_false,J,js];omega
  rw[this];rfl
 ·have k:=(within_iff a).1 d;have:(cond (eQ<0) true (decide (len Y<eQ+4)))=false:=by rw[show decide (eQ<0)=false from ja (by omega),show decide (len Y<eQ+4)=false from ja (by omega)];rfl
  rw[this];have l:s (eQ+2)=eQ+2:=fg;have b:YK Y eQ 2=true:=(within_iff a).2 (by omega);have m:YK Y (eQ+2) 2=true:=(within_iff a).2 (by omega);have q:=Te Y eQ;have c0:=UE Y eQ;have r:=Te Y (eQ+1);have t:=UE Y (eQ+1);have u:=Te Y (eQ+2);have v:=UE Y (eQ+2);have w:=Te Y (eQ+3);have Z:=UE Y (eQ+3);have e:eQ+2+1=eQ+3:=by omega
  simp only[l,CW,b,m,e,l_,J];rw[naa,fg (n:=(A2 Y eQ*256+A2 Y (eQ+1))*65536),fg];exact congrArg c (by omega)
def Nr(a:x→α)(v:Int):α:=cond (!(D v 0 4294967295)) (a []) (a (toStr ([[.int (lB .u8 (I4 .i64 v 24))],[.int (lB .u8 (I4 .i64 v 16))],[.int (lB .u8 (I4 .i64 v 8))],[.int (lB .u8 v)]])))
def jo(v:Int):x:=Nr id v
theorem niJ(a:x→α)(v:Int):Nr a v=a (jo v):=by exact Ha rfl rfl
def tX(a:Int→α)(b:Int→Int→Int→α)(Z:x)(d:Int→Int→α)(c i:Int):α:=cond (i<len Z) (cond (t true (A i Z)) (b i (bits .xor .u32 c (lB .u32 (A2 Z i))) 0) lf) (a (s (bits .xor .u32 (pZ .u32) c)))
def sq(lf:α)(d:Int→α)(b:Int→Int→α)(i:Int)(c:Int→Int→α)(a k:Int):α:=cond (k<8) (c (cond ((bits .and .u32 a 1)==1) (bits .xor .u32 (I4 .u32 a 1) 3988292384) (I4 .u32 a 1)) (s (k+1))) (b a (s (i+1)))
def gT(a:Int→α)(N:Nat)(b:Int→Int→α)(i:Int)(c:Nat):Int→Int→α:=bW (λ_ _=>lf) (sq lf a b i) c
theorem nkO(a:Int→α)(N:Nat)(b:Int→Int→α)(i:Int)(c:Nat)(d k:Int):gT lf a N b i (c+1) d k=sq lf a b i (gT lf a N b i c) d k:=rfl
def Up(a:Int→α)(N:Nat)(s:x)(c:Nat):Int→Int→α:=bW (λ_ _=>lf) (λb=>tX lf a (λi=>gT lf a N b i N) s b) c
theorem nj4(a:Int→α)(N:Nat)(s:x)(b:Nat)(c i:Int):Up lf a N s (b+1) c i=tX lf a (λi=>gT lf a N (Up lf a N s b) i N) s (Up lf a N s b) c i:=rfl
def nj0(lf:α)(b:Int→α)(a:Int→Int→α)(s:x):α:=a 4294967295 0
def Pu(a:Int→α)(N:Nat)(s:x):α:=nj0 lf a (Up lf a N s N) s
def QT(c:Int):Int:=cond ((bits .and .u32 c 1)==1) (bits .xor .u32 (I4 .u32 c 1) 3988292384) (I4 .u32 c 1)
def hF(s:x)(i:Nat)(c:Int):Int:=kM (λ_ c=>QT c) 8 0 (bits .xor .u32 c (A2 s i))
def bq(s:x):Int:=4294967295 - kM (hF s) s.length 0 4294967295
def eP(c:Int):Prop:=0≤c∧c<4294967296
theorem nAV{c:Int}(h:eP c):eP (QT c):=by
 obtain⟨b,d⟩:=h;unfold QT;rw[nkv];cases (bits .and .u32 c 1)==1
 ·exact⟨by simp only[J];omega,by simp only[J];omega⟩
 ·exact (Si (a:=c / 2) (by omega) (by omega) (by decide) (by decide)).2
theorem nz7{s:x}{i:Nat}{c:Int}(h:eP c):eP (hF s i c):=by refine naj (I:=eP) (B:=8) (λ_ c _ h=>nAV h) 8 0 _ (by omega) ?_;have a:=Te s i;have c0:=UE s i;exact (Si h.1 h.2 a (by omega)).2
theorem nAm(b:Int→α)(Z:x)(f:IJ .str (.str Z)):∃N,Pu lf b N Z=b (bq Z):=by
 have g:=cj f;refine⟨Z.length+9, ?_⟩;unfold Pu nj0;have d:∀(e:Int→Int→α) (i c:Int),eP c→gT lf b (Z.length+9) e i (Z.length+9) c 0=e (kM (λ_ c=>QT c) 8 0 c) (s (i+1)):=by
  intro e i c a;refine ik 8 (λn k c=>gT lf b (Z.length+9) e i n c k) (λ_ c=>QT c) (λc=>e c (s (i+1))) eP (λ_ _ _ h=>nAV h) ?_ ?_ (Z.length+9) c a (by omega)
  ·intro n k c o a;show gT lf b (Z.length+9) e i (n+1) c k=_;rw[nkO];have j:((k:Nat):Int)<8:=by omega
   have l:s ((k:Int)+1)=(k:Int)+1:=fg;simp only[sq,j,decide_true,H,l];rfl
  ·intro n c a;show gT lf b (Z.length+9) e i (n+1) c 8=_;rw[nkO];rfl
 refine (ik Z.length (λn i c=>Up lf b (Z.length+9) Z n c i) (hF Z) (λc=>b (4294967295 - c)) eP (λ_ _ _ h=>nz7 h) ?_ ?_ (Z.length+9) 4294967295 ⟨by decide,by decide⟩ (by omega)).trans rfl
 ·intro n i c h a;show Up lf b (Z.length+9) Z (n+1) c i=_;rw[nj4];have m:=Te Z i;have c0:=UE Z i;simp only[tX,sg h,mZ h,Oi,H];rw[show lB .u32 (A2 Z i)=A2 Z i by rw[IntKind.wrap_u32];omega];rw[d _ _ _ (Si a.1 a.2 m (by omega)).2,jy h g];rfl
 ·intro n c a;show Up lf b (Z.length+9) Z (n+1) c Z.length=_;rw[nj4];simp only[tX,Ns,J];rw[nBS a.1 a.2,fg (by have:=a.1;have:=a.2;omega) (by have:=a.1;omega)]
def RS(a:Int→α)(b:Int→Int→Int→α)(Z:x)(d:Int→Int→α)(c i:Int):α:=cond (i<len Z) (cond (t true (A i Z)) (b i (bits .xor .i64 c (s (A2 Z i))) 0) lf) (a (s (4294967295 - c)))
def xH(lf:α)(d:Int→α)(b:Int→Int→α)(i:Int)(c:Int→Int→α)(a k:Int):α:=cond (k<8) (c (cond ((bits .and .i64 a 1)==1) (bits .xor .i64 (I4 .i64 a 1) 3988292384) (I4 .i64 a 1)) (s (k+1))) (b a (s (i+1)))
def dB(a:Int→α)(N:Nat)(b:Int→Int→α)(i:Int)(c:Nat):Int→Int→α:=bW (λ_ _=>lf) (xH lf a b i) c
theorem njP(a:Int→α)(N:Nat)(b:Int→Int→α)(i:Int)(c:Nat)(d k:Int):dB lf a N b i (c+1) d k=xH lf a b i (dB lf a N b i c) d k:=rfl
def R9(a:Int→α)(N:Nat)(s:x)(c:Nat):Int→Int→α:=bW (λ_ _=>lf) (λb=>RS lf a (λi=>dB lf a N b i N) s b) c
theorem nkq(a:Int→α)(N:Nat)(s:x)(b:Nat)(c i:Int):R9 lf a N s (b+1) c i=RS lf a (λi=>dB lf a N (R9 lf a N s b) i N) s (R9 lf a N s b) c i:=rfl
def ng0(lf:α)(b:Int→α)(a:Int→Int→α)(s:x):α:=a 4294967295 0
def vY(a:Int→α)(N:Nat)(s:x):α:=ng0 lf a (R9 lf a N s N) s
theorem flI(e:Int→α)(Z:x)(l:IJ .str (.str Z)):∃N,vY lf e N Z=e (bq Z):=by
 have m:=cj l;refine⟨Z.length+9, ?_⟩;unfold vY ng0;have f:∀(g:Int→Int→α) (i c:Int),eP c→dB lf e (Z.length+9) g i (Z.length+9) c 0=g (kM (λ_ c=>QT c) 8 0 c) (s (i+1)):=by
  intro g i c d;refine ik 8 (λn k c=>dB lf e (Z.length+9) g i n c k) (λ_ c=>QT c) (λc=>g c (s (i+1))) eP (λ_ _ _ h=>nAV h) ?_ ?_ (Z.length+9) c d (by omega)
  ·intro n k c q d;show dB lf e (Z.length+9) g i (n+1) c k=_;rw[njP];have o:((k:Nat):Int)<8:=by omega
   have p:s ((k:Int)+1)=(k:Int)+1:=fg;simp only[xH,o,decide_true,H,p];unfold QT;rw[nFc d.1 d.2,nbs,nkv,(Si (a:=c / 2) (b:=3988292384) (by have:=d.1;omega) (by have:=d.2;omega) (by decide) (by decide)).1]
  ·intro n c d;show dB lf e (Z.length+9) g i (n+1) c 8=_;rw[njP];rfl
 refine (ik Z.length (λn i c=>R9 lf e (Z.length+9) Z n c i) (hF Z) (λc=>e (4294967295 - c)) eP (λ_ _ _ h=>nz7 h) ?_ ?_ (Z.length+9) 4294967295 ⟨by decide,by decide⟩ (by omega)).trans rfl
 ·intro n i c h d;show R9 lf e (Z.length+9) Z (n+1) c i=_;rw[nkq];have j:=Te Z i;have c0:=UE Z i;simp only[RS,sg h,mZ h,Oi,H];rw[fg (n:=A2 Z i),(Si d.1 d.2 j (by omega)).1];rw[f _ _ _ (Si d.1 d.2 j (by omega)).2,jy h m];rfl
 ·intro n c d;show R9 lf e (Z.length+9) Z (n+1) c Z.length=_;rw[nkq];simp only[RS,Ns,J];rw[fg (by have:=d.1;have:=d.2;omega) (by have:=d.1;omega)]
structure qw where
 f:Int
 g:Int
 c:Int
 e:Int
 b:Int
 d:Int
 a:x
def qw.enc(x:qw):List DC:=[.int x.f,.int x.g,.int x.c,.int x.e,.int x.b,.int x.d,.str x.a]
def qw.nd(Z:List DC)(o:Nat):qw:=⟨r Z (o+0),r Z (o+1),r Z (o+2),r Z (o+3),r Z (o+4),r Z (o+5),Gi Z (o+6)⟩
def qw.ct:List CT:=[.i,.i,.i,.i,.i,.i,.str]
theorem qw.eta{r:List DC}(h:Q qw.ct r):(qw.nd r 0).enc=r:=(show (qw.nd r 0).enc=Sy qw.ct r 0 from by kernel_rfl).trans (Qz h)
theorem qw.nX{r:List CT}{b:List DC}(h:Q (qw.ct++r) b):∃(x:qw) (c:List DC),b=x.enc++c∧Q qw.ct x.enc∧Q r c:=by obtain⟨d,e,rfl,a,f⟩:=SU h;exact⟨qw.nd d 0,e,by rw[qw.eta a],by rw[qw.eta a];exact a,f⟩
theorem qw.nF0{x:qw}(h:Q qw.ct x.enc):IJ .i (.int x.f):=VM 0 h rfl rfl
theorem qw.nGv{x:qw}(h:Q qw.ct x.enc):IJ .i (.int x.g):=VM 1 h rfl rfl
theorem qw.nF1{x:qw}(h:Q qw.ct x.enc):IJ .i (.int x.c):=VM 2 h rfl rfl
theorem qw.nFZ{x:qw}(h:Q qw.ct x.enc):IJ .i (.int x.b):=VM 4 h rfl rfl
theorem qw.nFV{x:qw}(h:Q qw.ct x.enc):IJ .i (.int x.d):=VM 5 h rfl rfl
theorem qw.nCt{x:qw}(h:Q qw.ct x.enc):IJ .str (.str x.a):=VM 6 h rfl rfl
structure xW where
 d:Int
 b:Int
 e:Int
 c:Int
 a:x
def xW.enc(x:xW):List DC:=[.int x.d,.int x.b,.int x.e,.int x.c,.str x.a]
def xW.nd(Z:List DC)(o:Nat):xW:=⟨r Z (o+0),r Z (o+1),r Z (o+2),r Z (o+3),Gi Z (o+4)⟩
def xW.ct:List CT:=[.i,.i,.i,.i,.str]
theorem xW.eta{r:List DC}(h:Q xW.ct r):(xW.nd r 0).enc=r:=(show (xW.nd r 0).enc=Sy xW.ct r 0 from by kernel_rfl).trans (Qz h)
theorem xW.nX{r:List CT}{b:List DC}(h:Q (xW.ct++r) b):∃(x:xW) (c:List DC),b=x.enc++c∧Q xW.ct x.enc∧Q r c:=by obtain⟨d,e,rfl,a,f⟩:=SU h;exact⟨xW.nd d 0,e,by rw[xW.eta a],by rw[xW.eta a];exact a,f⟩
theorem xW.nFV{x:xW}(h:Q xW.ct x.enc):IJ .i (.int x.d):=VM 0 h rfl rfl
theorem xW.nFZ{x:xW}(h:Q xW.ct x.enc):IJ .i (.int x.b):=VM 1 h rfl rfl
theorem xW.nCw{x:xW}(h:Q xW.ct x.enc):IJ .i (.int x.e):=VM 2 h rfl rfl
theorem xW.nCt{x:xW}(h:Q xW.ct x.enc):IJ .str (.str x.a):=VM 4 h rfl rfl
def VY(a:x→α)(v:Int):α:=cond (!(D v 0 65535)) (a []) (a (toStr ([[.int (lB .u8 (I4 .i64 v 8))],[.int (lB .u8 v)]])))
def Zt(v:Int):x:=VY id v
theorem nmr(a:x→α)(v:Int):VY a v=a (Zt v):=by exact Ha rfl rfl
theorem Uy(v:Int):(jo v).length≤4:=by unfold jo Nr;cases !(D v 0 4294967295)<;>simp[toStr]
theorem P3(v:Int):(Zt v).length≤2:=by unfold Zt VY;cases !(D v 0 65535)<;>simp[toStr]
theorem ngg{v:Int}(a:0≤v)(b:v≤65535):(Zt v).length=2:=by have c:D v 0 65535=true:=YF.2 ⟨a,b⟩;unfold Zt VY;rw[c];simp[toStr]
theorem pF0{v:Int}(a:0≤v)(b:v≤4294967295):(jo v).length=4:=by have c:D v 0 4294967295=true:=YF.2 ⟨a,b⟩;unfold jo Nr;rw[c];simp[toStr]
theorem O4{a b:x}(h:a.length+b.length≤9223372036854775807):EI a b=true:=Hd h
theorem Sq(r:u):(toStr r).length=r.length:=by simp[toStr]
def U(s:x):Bool:=decide (s.length≤4294967296)
theorem D3{q:EP}(h:B5 q=true):q.a.length≤320:=by
 unfold B5 Vj at h;by_cases a:320<len q.a
 ·rw[Hd a] at h;revert h;cases !(D q.f 0 65535)<;>cases !(D q.e 0 65535)<;>simp
 ·simp only[len] at a;omega
def nsL(c:Int→α)(a b:Int):α:=cond (cond (!(D a 0 65535)) true (!(D b 0 65535))) (c (-1)) (cond (65535<s (a+b)) (c (s ((s (a+b)) - 65535))) (c (s (a+b))))
def Fv(a b:Int):Int:=nsL id a b
theorem svI(c:Int→α)(a b:Int):nsL c a b=c (Fv a b):=by exact Ha rfl (Ha rfl rfl)
def Us(d:Int→α)(Z:x)(e:Int→Int→α)(a i:Int):α:=let b:Bool:=decide (s (i+1)<len Z);let c:Int:=PJ .i64 (s (A2 Z i)) 8;cond (i<len Z) (cond (t true (A i Z)) (cond (pk b (t true (A (s (i+1)) Z)) true) (e (Fv a (cond b (bits .or .i64 c (s (A2 Z (s (i+1))))) c)) (s (i+2))) lf) lf) (d a)
def uO(a:Int→α)(N:Nat)(s:x)(b:Nat):Int→Int→α:=bW (λ_ _=>lf) (Us lf a s) b
theorem nlM(a:Int→α)(N:Nat)(s:x)(b:Nat):uO lf a N s (b+1)=Us lf a s (uO lf a N s b):=rfl
def RA(lf:α)(b:Int→α)(a:Int→Int→α)(s:x):α:=a 0 0
def nvY(a:Int→α)(N:Nat)(s:x):α:=RA lf a (uO lf a N s N) s
def dg(s:x)(i:Nat):Int:=A2 s (i:Int)*256+(cond (((i:Int)+1)<len s) (A2 s ((i:Int)+1)) 0)
def lV(s:x)(j:Nat)(c:Int):Int:=Fv c (dg s (2*j))
def ipz(s:x):Int:=kM (lV s) ((s.length+1) / 2) 0 0
def xk(s:x):Int:=shut ipz s
theorem nFM(s:x):xk s=kM (lV s) ((s.length+1) / 2) 0 0:=congrFun (L3 ipz) s
theorem nxV(a:Int→α)(Y:x)(g:IJ .str (.str Y))(b:U Y=true):∃N,nvY lf a N Y=a (xk Y):=by
 have t:=cj g;refine⟨Y.length+1, ?_⟩;have u:Y.length≤4294967296:=of_decide_eq_true b;rw[nFM];unfold nvY RA;have key:∀(m n j:Nat) (c:Int),j+m=(Y.length+1) / 2→m<n→uO lf a (Y.length+1) Y n c ((2*j:Nat):Int)=a (kM (lV Y) m j c):=by
  intro m
  induction m with
  | zero=>
   intro n j c i k;obtain⟨n,rfl⟩:=DF n;have l:decide (((2*j:Nat):Int)<len Y)=false:=ja (by simp only[len];omega);rw[nlM];simp only[Us,l,J,kM]
  | succ m o=>
   intro n j c i k;obtain⟨n,rfl⟩:=DF n;have f:2*j<Y.length:=by omega
   have d:s (((2*j:Nat):Int)+1)=((2*j:Nat):Int)+1:=fg;have e:s (((2*j:Nat):Int)+2)=((2*(j+1):Nat):Int):=by rw[fg];omega
   have b:pk (decide (((2*j:Nat):Int)+1<len Y)) (A (((2*j:Nat):Int)+1) Y) true=true:=Wi (λh=>by have h:=of_decide_eq_true h;simp only[len] at h;simp only[A,Bl,js];omega) (λ_=>rfl)
   have v:=Te Y ((2*j:Nat):Int);have c0:=UE Y ((2*j:Nat):Int);have w:=Te Y (((2*j:Nat):Int)+1);have Z:=UE Y (((2*j:Nat):Int)+1);have p:PJ .i64 (A2 Y ((2*j:Nat):Int)) 8=A2 Y ((2*j:Nat):Int)*256:=by rw[CP,fg]
   have r:(cond (((2*j:Nat):Int)+1<len Y) (bits .or .i64 (A2 Y ((2*j:Nat):Int)*256) (A2 Y (((2*j:Nat):Int)+1))) (A2 Y ((2*j:Nat):Int)*256))=dg Y (2*j):=by
    unfold dg;cases decide (((2*j:Nat):Int)+1<len Y)
    ·simp
    ·simp only[H];rw[eL 8 (y:=A2 Y (((2*j:Nat):Int)+1)) (by omega) (by omega) (by omega) (by omega) (by omega) (by omega)]
   rw[nlM];simp only[Us,sg f,mZ f,d,e,b,Oi,H,fg (n:=A2 Y ((2*j:Nat):Int)),fg (n:=A2 Y (((2*j:Nat):Int)+1)),p,r];exact o n (j+1) _ (by omega) (by omega)
 exact key ((Y.length+1) / 2) (Y.length+1) 0 0 (by omega) (by omega)
def zU(d:Int→α)(Z:x)(e:Int→Int→α)(a i:Int):α:=let b:Bool:=decide (s (i+1)<len Z);let c:Int:=PJ .i64 (s (A2 Z i)) 8;cond (i<len Z) (cond (t true (A i Z)) (cond (pk b (t true (A (s (i+1)) Z)) true) (e (Fv a (cond b (s (c+(s (A2 Z (s (i+1)))))) c)) (s (i+2))) lf) lf) (d a)
def kp(a:Int→α)(N:Nat)(s:x)(b:Nat):Int→Int→α:=bW (λ_ _=>lf) (zU lf a s) b
theorem hfI(a:Int→α)(N:Nat)(s:x)(b:Nat):kp lf a N s (b+1)=zU lf a s (kp lf a N s b):=rfl
def pG(lf:α)(b:Int→α)(a:Int→Int→α)(s:x):α:=a 0 0
def nzn(a:Int→α)(N:Nat)(s:x):α:=pG lf a (kp lf a N s N) s
theorem noF(a:Int→α)(Y:x)(g:IJ .str (.str Y))(b:U Y=true):∃N,nzn lf a N Y=a (xk Y):=by
 have t:=cj g;refine⟨Y.length+1, ?_⟩;have u:Y.length≤4294967296:=of_decide_eq_true b;rw[nFM];unfold nzn pG;have key:∀(m n j:Nat) (c:Int),j+m=(Y.length+1) / 2→m<n→kp lf a (Y.length+1) Y n c ((2*j:Nat):Int)=a (kM (lV Y) m j c):=by
  intro m
  induction m with
  | zero=>
   intro n j c i k;obtain⟨n,rfl⟩:=DF n;have l:decide (((2*j:Nat):Int)<len Y)=false:=ja (by simp only[len];omega);rw[hfI];simp only[zU,l,J,kM]
  | succ m o=>
   intro n j c i k;obtain⟨n,rfl⟩:=DF n;have f:2*j<Y.length:=by omega
   have d:s (((2*j:Nat):Int)+1)=((2*j:Nat):Int)+1:=fg;have e:s (((2*j:Nat):Int)+2)=((2*(j+1):Nat):Int):=by rw[fg];omega
   have b:pk (decide (((2*j:Nat):Int)+1<len Y)) (A (((2*j:Nat):Int)+1) Y) true=true:=Wi (λh=>by have h:=of_decide_eq_true h;simp only[len] at h;simp only[A,Bl,js];omega) (λ_=>rfl)
   have v:=Te Y ((2*j:Nat):Int);have c0:=UE Y ((2*j:Nat):Int);have w:=Te Y (((2*j:Nat):Int)+1);have Z:=UE Y (((2*j:Nat):Int)+1);have p:PJ .i64 (A2 Y ((2*j:Nat):Int)) 8=A2 Y ((2*j:Nat):Int)*256:=by rw[CP,fg]
   have r:(cond (((2*j:Nat):Int)+1<len Y) (s (A2 Y ((2*j:Nat):Int)*256+A2 Y (((2*j:Nat):Int)+1))) (A2 Y ((2*j:Nat):Int)*256))=dg Y (2*j):=by
    unfold dg;cases decide (((2*j:Nat):Int)+1<len Y)
    ·simp
    ·simp only[H];rw[fg]
   rw[hfI];simp only[zU,sg f,mZ f,d,e,b,Oi,H,fg (n:=A2 Y ((2*j:Nat):Int)),fg (n:=A2 Y (((2*j:Nat):Int)+1)),p,r];exact o n (j+1) _ (by omega) (by omega)
 exact key ((Y.length+1) / 2) (Y.length+1) 0 0 (by omega) (by omega)
def ng_(a:Int→α)(Z:x):α:=cond (t true (U Z)) (a (s (65535 - (xk Z)))) lf
def Vu(Z:x):Int:=s (65535 - xk Z)
theorem nGp(a:Int→α)(s:x)(b:U s=true):ng_ lf a s=a (Vu s):=by have h:U s=true:=b;unfold ng_ Vu;simp only[h,Oi,H]
def njh(a:x→α)(Z:x)(eQ:Int)(part:x):α:=let b:x:=bZ Z (s (eQ+(len part)));cond (cond (eQ<0) true (decide (s ((len Z) - (len part))<eQ))) (a Z) (cond (t (t (t (t true (az Z eQ)) (EI (C1 Z eQ) part)) (nz Z (s (eQ+(len part))))) (EI ((C1 Z eQ)++part) b)) (a (((C1 Z eQ)++part)++b)) lf)
def eZ(s:x)(eQ:Int)(part:x):Bool:=decide (s.length≤4294967296) && decide (part.length≤4294967296)
def B9(s:x)(eQ:Int)(part:x):x:=cond (!(YK s eQ (len part))) s (s.take eQ.toNat++part++s.drop (eQ.toNat+part.length))
theorem aW{s:x}{eQ:Int}{part:x}(a:s.length≤9223372036854775807):(B9 s eQ part).length=s.length:=by
 unfold B9;cases b:YK s eQ (len part)
 ·rfl
 ·have:=(within_iff a).1 b;simp only[len] at this;simp only[l_,J,fK,mq,mg];omega
theorem nsD(c:x→α)(Z:x)(eQ:Int)(part:x)(g:eZ Z eQ part=true):njh lf c Z eQ part=c (B9 Z eQ part):=by
 simp only[eZ,Bl,js] at g;unfold njh B9;have b:(cond (eQ<0) true (decide (s (len Z - len part)<eQ)))= !(YK Z eQ (len part)):=by
  have d:=within_iff (s:=Z) (eQ:=eQ) (n:=len part) (by omega);rw[fg (n:=len Z - len part) (by simp only[len];omega) (by simp only[len];omega)];cases a:YK Z eQ (len part)
  ·by_cases e:eQ<0
   ·simp[e]
   ·by_cases f:len Z - len part<eQ
    ·simp[e,f]
    ·rw[d.2 (by simp only[len] at f ⊢;omega)] at a;cases a
  ·have:=d.1 a;simp[show ¬eQ<0 by omega,show ¬len Z - len part<eQ by omega]
 rw[b];refine U6 (λ_=>rfl) (λh=>?_);have a:=(within_iff (by omega)).1 (show YK Z eQ (len part)=true by simpa using h);have i:s (eQ+len part)=eQ+len part:=by simp only[len] at a ⊢;exact fg
 have j:C1 Z eQ=Z.take eQ.toNat:=by simp[C1]
 have k:bZ Z (eQ+len part)=Z.drop (eQ.toNat+part.length):=by
  simp only[bZ,p0,len]
  congr 1
  omega
 have l:az Z eQ=true:=by simp only[len] at a;simp only[az,Bl,js];omega
 have m:nz Z (eQ+len part)=true:=by simp only[len] at a ⊢;simp only[nz,Bl,js];omega
 have o:EI (Z.take eQ.toNat) part=true:=by simp only[EI,mq,js];omega
 have p:EI (Z.take eQ.toNat++part) (Z.drop (eQ.toNat+part.length))=true:=by simp only[EI,fK,mq,mg,js];omega
 simp only[i,j,k,l,m,o,p,Oi,H]
def neO(a:x→α)(Z:x)(eQ:Int)(part:x):α:=let b:x:=bZ Z (s (eQ+(len part)));cond (!(YK Z eQ (len part))) (a Z) (cond (t (t (t (t true (az Z eQ)) (EI (C1 Z eQ) part)) (nz Z (s (eQ+(len part))))) (EI ((C1 Z eQ)++part) b)) (a (((C1 Z eQ)++part)++b)) lf)
theorem nyQ(b:x→α)(Z:x)(eQ:Int)(part:x)(c:eZ Z eQ part=true):neO lf b Z eQ part=b (B9 Z eQ part):=by
 simp only[eZ,Bl,js] at c;unfold neO B9;refine U6 (λ_=>rfl) (λd=>?_);have a:=(within_iff (by omega)).1 (show YK Z eQ (len part)=true by simpa using d);have e:s (eQ+len part)=eQ+len part:=by simp only[len] at a ⊢;exact fg
 have f:C1 Z eQ=Z.take eQ.toNat:=by simp[C1]
 have g:bZ Z (eQ+len part)=Z.drop (eQ.toNat+part.length):=by
  simp only[bZ,p0,len]
  congr 1
  omega
 have h:az Z eQ=true:=by simp only[len] at a;simp only[az,Bl,js];omega
 have i:nz Z (eQ+len part)=true:=by simp only[len] at a ⊢;simp only[nz,Bl,js];omega
 have j:EI (Z.take eQ.toNat) part=true:=by simp only[EI,mq,js];omega
 have k:EI (Z.take eQ.toNat++part) (Z.drop (eQ.toNat+part.length))=true:=by simp only[EI,fK,mq,mg,js];omega
 simp only[e,f,g,h,i,j,k,Oi,H]
def nhr(d:x→Bool→α)(b c a length:Int):α:=let e:x:=((jo b)++(jo c))++(toStr ([[.int 0],[.int (lB .u8 a)]]));cond (cond (!(D b 0 4294967295)) true (cond (!(D c 0 4294967295)) true (cond (!(D a 0 255)) true (!(D length 0 65535))))) (d [] false) (cond (t (t (t true (EI (jo b) (jo c))) (EI ((jo b)++(jo c)) (toStr ([[.int 0],[.int (lB .u8 a)]])))) (EI e (Zt length))) (d (e++(Zt length)) true) lf)
def TI(b c a length:Int):x×Bool:=cond (cond (!(D b 0 4294967295)) true (cond (!(D c 0 4294967295)) true (cond (!(D a 0 255)) true (!(D length 0 65535))))) ([],false) (jo b++jo c++toStr ([[.int 0],[.int (lB .u8 a)]])++Zt length,true)
theorem nce(e f d length:Int):(TI e f d length).1.length≤12:=by
 have a:=Uy e;have b:=Uy f;have c:=P3 length;unfold TI;cases (cond (!(D e 0 4294967295)) true (cond (!(D f 0 4294967295)) true (cond (!(D d 0 255)) true (!(D length 0 65535)))))
 ·simp only[J,fK,Sq,I_,lq];omega
 ·exact mn _
theorem njk(g:x→Bool→α)(d e f length:Int):nhr lf g d e f length=g (TI d e f length).1 (TI d e f length).2:=by have a:=Uy d;have b:=Uy e;have c:=P3 length;have h:EI (jo d) (jo e)=true:=O4 (by omega);have i:∀r,EI (jo d++jo e) (toStr [[.int 0],r])=true:=λr=>O4 (by simp only[fK,Sq,I_,lq];omega);have j:∀r,EI (jo d++jo e++toStr [[.int 0],r]) (Zt length)=true:=λr=>O4 (by simp only[fK,Sq,I_,lq];omega);unfold nhr TI;simp only[h,i,j,Oi,H];exact Ha (K:=λr:x×Bool=>g r.1 r.2) rfl rfl
def ZG(b:Int→α)(a:Int):α:=cond (a==6) (b 16) (b 6)
def OP(a:Int):Int:=ZG id a
theorem ndq(b:Int→α)(a:Int):ZG b a=b (OP a):=by exact Ha rfl rfl
def nB1(b:x→α)(g:EP):α:=let a:x:=(Zt g.f)++(Zt g.e);let c:x:=a++(jo g.d);let d:x:=c++(jo g.g);let e:x:=d++(toStr ([[.int 80],[.int (lB .u8 g.b)]]));let f:x:=e++(Zt g.h);let h:x:=f++(Zt 0);let i:x:=h++(Zt 0);let j:x:=Zt (s (8+(len g.a)));let k:x:=a++j;let l:x:=k++(Zt 0);cond (t true (EI (Zt g.f) (Zt g.e))) (cond (g.c==6) (cond (t (t (t (t (t (t (t true (EI a (jo g.d))) (EI c (jo g.g))) (EI d (toStr ([[.int 80],[.int (lB .u8 g.b)]])))) (EI e (Zt g.h))) (EI f (Zt 0))) (EI h (Zt 0))) (EI i g.a)) (b (i++g.a)) lf) (cond (t (t (t true (EI a j)) (EI k (Zt 0))) (EI l g.a)) (b (l++g.a)) lf)) lf
def Tq(q:EP):x:=cond (q.c==6) (Zt q.f++Zt q.e++jo q.d++jo q.g++toStr ([[.int 80],[.int (lB .u8 q.b)]])++Zt q.h++Zt 0++Zt 0) (Zt q.f++Zt q.e++Zt (s (8+(len q.a)))++Zt 0)
def Vl(q:EP):x:=Tq q++q.a
def Wf(q:EP):Bool:=decide (q.a.length≤1000)
theorem nnC(q:EP):(Tq q).length≤20:=by
 have a:=P3 q.f;have b:=P3 q.e;have c:=Uy q.d;have d:=Uy q.g;have e:=P3 q.h;have f:=P3 0;have h:=P3 (s (8+(len q.a)));unfold Tq;cases q.c==6
 ·simp only[J,fK];omega
 ·simp only[H,fK,Sq,I_,lq];omega
theorem nmR(q:EP):(Vl q).length≤q.a.length+20:=by have:=nnC q;simp only[Vl,fK];omega
theorem nv6(h:x→α)(g:EP)(i:Wf g=true):nB1 lf h g=h (Vl g):=by
 have j:g.a.length≤1000:=of_decide_eq_true i;have a:=P3 g.f;have b:=P3 g.e;have c:=Uy g.d;have d:=Uy g.g;have e:=P3 g.h;have f:=P3 0;have k:=Uy 0;have l:=P3 (s (8+(len g.a)));unfold nB1 Vl Tq;refine rR (by simp only[cI,EI,U,fK,Sq,I_,lq,js,true_and,and_true];omega) ?_;cases g.c==6
 ·simp only[J];refine rR (by simp only[cI,EI,U,fK,Sq,I_,lq,js,true_and,and_true];omega) ?_;rfl
 ·simp only[H];refine rR (by simp only[cI,EI,U,fK,Sq,I_,lq,js,true_and,and_true];omega) ?_;rfl
def ntG(a:x→Bool→α)(b c:Int)(g:EP):α:=let d:x×Bool:=TI b c g.c (len (Vl g));let e:x:=d.1++(Vl g);let f:Int:=Vu e;let h:x:=Zt (cond (cond (g.c==17) (f==0) false) 65535 f);cond (!(B5 g)) (a [] false) (cond (t true (Wf g)) (cond (!d.2) (a [] false) (cond (t (t true (EI d.1 (Vl g))) (U e)) (cond (t true (eZ (Vl g) (OP g.c) h)) (a (B9 (Vl g) (OP g.c) h) true) lf) lf)) lf)
theorem U2(a:Int):OP a=cond (a==6) 16 6:=by unfold OP ZG;cases a==6<;>rfl
def nc(a b:Int)(g:EP):Int:=Vu ((TI a b g.c (len (Vl g))).1++Vl g)
def ic(a b:Int)(g:EP):x×Bool:=cond (!(B5 g)) ([],false) (cond (!(TI a b g.c (len (Vl g))).2) ([],false) (B9 (Vl g) (OP g.c) (Zt (cond (cond (g.c==17) (nc a b g==0) false) 65535 (nc a b g))),true))
theorem nns(e:x→Bool→α)(c d:Int)(g:EP):ntG lf e c d g=e (ic c d g).1 (ic c d g).2:=by
 unfold ntG ic;refine U6 (K:=λr:x×Bool=>e r.1 r.2) (λ_=>rfl) (λf=>?_);have h:B5 g=true:=by simpa using f
 have a:=D3 h;have b:=nmR g;have m:=nce c d g.c (len (Vl g));have i:Wf g=true:=Hd (by omega);have j:EI (TI c d g.c (len (Vl g))).1 (Vl g)=true:=O4 (by omega);have k:∀v,eZ (Vl g) (OP g.c) (Zt v)=true:=λv=>by have:=P3 v;simp only[eZ,Bl,js];omega
 have l:U ((TI c d g.c (len (Vl g))).1++Vl g)=true:=Hd (by rw[fK];omega);simp only[i,j,k,l,Oi,H];exact Ha (K:=λr:x×Bool=>e r.1 r.2) rfl rfl
def nx6(f:x→Bool→α)(h i:Int)(g:EP):α:=let e:x:=(Zt g.f)++(Zt g.e);let j:x:=e++(jo g.d);let k:x:=j++(jo g.g);let l:x:=k++(toStr ([[.int 80],[.int (lB .u8 g.b)]]));let m:x:=l++(Zt g.h);let n:x:=Zt (s (8+(len g.a)));let o:x:=e++n;let p:x:=cond (g.c==6) (m++(jo 0)) (o++(Zt 0));let a:x:=p++g.a;let q:x×Bool:=TI h i g.c (len a);let r:x:=q.1;let Z:x:=r++a;let b:Int:=cond (g.c==6) 16 6;let c:Int:=Vu Z;let d:x:=Zt (cond (cond (c==0) (g.c==17) false) 65535 c);cond (!(B5 g)) (f [] false) (cond (t true (EI (Zt g.f) (Zt g.e))) (cond (pk (g.c==6) (t (t (t (t (t true (EI e (jo g.d))) (EI j (jo g.g))) (EI k (toStr ([[.int 80],[.int (lB .u8 g.b)]])))) (EI l (Zt g.h))) (EI m (jo 0))) (t (t true (EI e n)) (EI o (Zt 0)))) (cond (t true (EI p g.a)) (cond (!q.2) (f [] false) (cond (t (t true (EI r a)) (U Z)) (cond (t true (eZ a b d)) (f (B9 a b d) true) lf) lf)) lf) lf) lf)
theorem nlc(j:x→Bool→α)(h i:Int)(g:EP):nx6 lf j h i g=j (ic h i g).1 (ic h i g).2:=by
 unfold nx6 ic;refine U6 (K:=λr:x×Bool=>j r.1 r.2) (λ_=>rfl) (λl=>?_);have m:B5 g=true:=by simpa using l
 have Z:=D3 m;have y:=nmR g;have z:=nce h i g.c (len (Vl g));have a:=P3 g.f;have b:=P3 g.e;have c:=Uy g.d;have d:=Uy g.g;have e:=P3 g.h;have f:=P3 0;have A:=Uy 0;have B:=P3 (s (8+(len g.a)));have n:jo 0=Zt 0++Zt 0:=by unfold jo Zt Nr VY;rfl
 have o:(cond (g.c==6) (Zt g.f++Zt g.e++jo g.d++jo g.g++toStr ([[.int 80],[.int (lB .u8 g.b)]])++Zt g.h++jo 0) (Zt g.f++Zt g.e++Zt (s (8+(len g.a)))++Zt 0))=Tq g:=by
  unfold Tq;cases g.c==6
  ·rfl
  ·simp only[H,n,m9]
 refine rR (by simp only[cI,EI,U,fK,Sq,I_,lq,js,true_and,and_true];omega) ?_;refine rR (Wi (λ_=>(by simp only[cI,EI,U,fK,Sq,I_,lq,js,true_and,and_true];omega)) (λ_=>(by simp only[cI,EI,U,fK,Sq,I_,lq,js,true_and,and_true];omega))) ?_;rw[o];have C:=nnC g;refine rR (by simp only[cI,EI,U,fK,Sq,I_,lq,js,true_and,and_true];omega) ?_;have p:Tq g++g.a=Vl g:=rfl;rw[p];have q:(cond (g.c==6) (16:Int) 6)=OP g.c:=(U2 _).symm;have Y:EI (TI h i g.c (len (Vl g))).1 (Vl g)=true:=O4 (by omega);have t:∀v,eZ (Vl g) (OP g.c) (Zt v)=true:=λv=>by have:=P3 v;simp only[eZ,Bl,js];omega
 have u:(cond (nc h i g==0) (g.c==17) false)=(cond (g.c==17) (nc h i g==0) false):=by
  cases nc h i g==0<;>cases g.c==17<;>rfl
 have k:Vu ((TI h i g.c (len (Vl g))).1++Vl g)=nc h i g:=rfl;have w:U ((TI h i g.c (len (Vl g))).1++Vl g)=true:=Hd (by rw[fK];omega);simp only[q,k,u,Y,t,w,Oi,H];exact Ha (K:=λr:x×Bool=>j r.1 r.2) rfl rfl
def Nz(a:Bool→α)(d:qw):α:=a (cond (D d.f 0 255) (cond (D d.c 0 255) (cond (D d.e 0 255) (cond (D d.g 0 65535) (cond (D d.b 0 4294967295) (cond (D d.d 0 4294967295) (decide (len d.a≤380)) false) false) false) false) false) false)
def Yg(d:qw):Bool:=Nz id d
theorem npQ(a:Bool→α)(d:qw):Nz a d=a (Yg d):=by rfl
def niV(b:x→Bool→α)(d:qw):α:=let c:x:=Zt (s (20+(len d.a)));let e:x:=(toStr ([[.int 69],[.int (lB .u8 d.f)]]))++c;let f:x:=e++(Zt d.g);let g:x:=f++(Zt 16384);let h:x:=g++(toStr ([[.int (lB .u8 d.c)],[.int (lB .u8 d.e)]]));let i:x:=h++(Zt 0);let j:x:=i++(jo d.b);let a:x:=j++(jo d.d);let k:x:=Zt (Vu a);cond (!(Yg d)) (b [] false) (cond (t (t (t (t (t (t (t true (EI (toStr ([[.int 69],[.int (lB .u8 d.f)]])) c)) (EI e (Zt d.g))) (EI f (Zt 16384))) (EI g (toStr ([[.int (lB .u8 d.c)],[.int (lB .u8 d.e)]])))) (EI h (Zt 0))) (EI i (jo d.b))) (EI j (jo d.d))) (cond (t (t true (U a)) (eZ a 10 k)) (b (B9 a 10 k) true) lf) lf)
def UR(d:qw):x:=toStr ([[.int 69],[.int (lB .u8 d.f)]])++Zt (s (20+(len d.a)))++Zt d.g++Zt 16384++toStr ([[.int (lB .u8 d.c)],[.int (lB .u8 d.e)]])++Zt 0++jo d.b++jo d.d
theorem nBk(d:qw):(UR d).length≤20:=by have a:=P3 (s (20+(len d.a)));have b:=P3 d.g;have c:=P3 16384;have e:=P3 0;have f:=Uy d.b;have h:=Uy d.d;simp only[UR,fK,Sq,I_,lq];omega
def Vw(d:qw):x×Bool:=cond (!(Yg d)) ([],false) (B9 (UR d) 10 (Zt (Vu (UR d))),true)
theorem nyG{d:qw}(h:Yg d=true):d.a.length≤380:=by
 unfold Yg Nz at h;by_cases a:len d.a≤380
 ·simp only[len] at a;omega
 ·rw[ja a] at h;revert h;cases D d.f 0 255<;>cases D d.c 0 255<;>cases D d.e 0 255<;>cases D d.g 0 65535<;>cases D d.b 0 4294967295<;>cases D d.d 0 4294967295<;>simp
theorem nnL(d:qw):(Vw d).1.length≤20:=by
 unfold Vw;cases Yg d
 ·exact mn _
 ·have:=nBk d;simp only[l_,J];rw[aW (by omega)];exact this
theorem nfi{d:qw}(h:(Vw d).2=true):Yg d=true:=by
 unfold Vw at h;cases a:Yg d
 ·rw[a] at h;cases h
 ·rfl
theorem nnQ(g:x→Bool→α)(d:qw):niV lf g d=g (Vw d).1 (Vw d).2:=by
 have a:=P3 (s (20+(len d.a)));have b:=P3 d.g;have c:=P3 16384;have e:=P3 0;have f:=Uy d.b;have h:=Uy d.d;unfold niV Vw;refine U6 (K:=λr:x×Bool=>g r.1 r.2) (λ_=>rfl) (λk=>?_);refine rR (by simp only[cI,EI,U,fK,Sq,I_,lq,js,true_and,and_true];omega) ?_;have l:=nBk d;have i:∀v,eZ (UR d) 10 (Zt v)=true:=λv=>by have:=P3 v;simp only[eZ,Bl,js];omega
 have j:U (UR d)=true:=Hd (by omega);refine rR ?_ rfl;rw[cI,cI];exact⟨⟨rfl,j⟩,i _⟩
def njQ(a:x→Bool→α)(d:qw):α:=cond (!((Vw d).2)) (a [] false) (cond (t true (EI ((Vw d).1) d.a)) (a (((Vw d).1)++d.a) true) lf)
def yf(d:qw):x×Bool:=cond (!(Vw d).2) ([],false) ((Vw d).1++d.a,true)
theorem byH(d:qw):(yf d).1.length≤400:=by
 unfold yf;cases h:(Vw d).2
 ·exact mn _
 ·have a:=nyG (nfi h);have b:=nnL d;simp only[l_,J,fK];omega
theorem nzL(a:x→Bool→α)(d:qw):njQ lf a d=a (yf d).1 (yf d).2:=by unfold njQ yf;refine U6 (K:=λr:x×Bool=>a r.1 r.2) (λ_=>rfl) (λb=>?_);have c:=nyG (nfi (d:=d) (by simpa using b));have e:=nnL d;refine rR (by simp only[cI,EI,U,fK,Sq,I_,lq,js,true_and,and_true];omega) rfl
def nyA(a:x→α)(Z:x):α:=let b:x:=QU 0 (s (46 - (len Z)));cond (46≤len Z) (a Z) (cond (t (t true (TT 0 (s (46 - (len Z))))) (EI Z b)) (a (Z++b)) lf)
def la(s:x):x:=cond (46≤len s) s (s++vZ (46 - len s) 0)
theorem njS{s:x}{n:Nat}(h:s.length≤n)(b:46≤n):46≤(la s).length∧(la s).length≤n:=by
 unfold la;by_cases a:46≤len s
 ·simp only[Hd a,H];simp only[len] at a;omega
 ·simp only[ja a,J,fK,vZ,nq];simp only[len] at a ⊢;omega
theorem nbB(b:x→α)(Z:x)(c:IJ .str (.str Z)):nyA lf b Z=b (la Z):=by
 have i:=cj c;have d:0≤len Z:=by simp[len]
 have j:len Z≤9223372036854775807:=by simp only[len];omega
 unfold nyA la;by_cases h:46≤len Z
 ·have a:¬len Z<46:=by omega
  simp only[h,a,decide_true,decide_false,H,J]
 ·have a:len Z<46:=by omega
  have e:s (46 - len Z)=46 - len Z:=fg;have f:WU (46 - len Z) 0=true:=YF.2 (by omega);have g:EI Z (vZ (46 - len Z) 0)=true:=O4 (by simp only[vZ,nq,len] at*;omega);simp only[h,a,decide_true,decide_false,H,J,e,TT,QU,f,g,Oi]
def nuU(a:x→α)(Z:x):α:=let b:x:=vZ (s (46 - (len Z))) 0;cond (len Z<46) (cond (t (t true (WU (s (46 - (len Z))) 0)) (EI Z b)) (a (Z++b)) lf) (a Z)
theorem nyp(b:x→α)(Z:x)(c:IJ .str (.str Z)):nuU lf b Z=b (la Z):=by
 have i:=cj c;have d:0≤len Z:=by simp[len]
 have j:len Z≤9223372036854775807:=by simp only[len];omega
 unfold nuU la;by_cases h:46≤len Z
 ·have a:¬len Z<46:=by omega
  simp only[h,a,decide_true,decide_false,H,J]
 ·have a:len Z<46:=by omega
  have e:s (46 - len Z)=46 - len Z:=fg;have f:WU (46 - len Z) 0=true:=YF.2 (by omega);have g:EI Z (vZ (46 - len Z) 0)=true:=O4 (by simp only[vZ,nq,len] at*;omega);simp only[h,a,decide_true,decide_false,H,J,e,f,g,Oi]
def RQ(a:Bool→α)(e:xW):α:=a (cond (D e.d 0 281474976710655) (cond (D e.b 0 281474976710655) (cond (D e.e (-1) 4095) (cond (D e.c 1536 65535) (cond (e.c != 33024) (D (len e.a) 46 400) false) false) false) false) false)
def zA(e:xW):Bool:=RQ id e
theorem ni6(a:Bool→α)(e:xW):RQ a e=a (zA e):=by rfl
def ndO(b:x→α)(a:Int):α:=cond (t true (EI (Zt (I4 .i64 a 32)) (jo (bits .and .i64 a 4294967295)))) (b ((Zt (I4 .i64 a 32))++(jo (bits .and .i64 a 4294967295)))) lf
def DT(a:Int):x:=Zt (I4 .i64 a 32)++jo (bits .and .i64 a 4294967295)
theorem yA(x:Int):(DT x).length≤6:=by have a:=P3 (I4 .i64 x 32);have b:=Uy (bits .and .i64 x 4294967295);simp only[DT,fK];omega
theorem nBp(b:x→α)(a:Int):ndO lf b a=b (DT a):=by have c:=P3 (I4 .i64 a 32);have d:=Uy (bits .and .i64 a 4294967295);unfold ndO DT;refine rR (by simp only[cI,EI,U,fK,Sq,I_,lq,js,true_and,and_true];omega) rfl
def nzj(b:x→Bool→α)(e:xW):α:=let a:x:=(DT e.d)++(DT e.b);let c:x:=(Zt 33024)++(Zt e.e);let d:x:=cond (0≤e.e) (a++c) a;let f:x:=d++(Zt e.c);cond (!(zA e)) (b [] false) (cond (t true (EI (DT e.d) (DT e.b))) (cond (pk (decide (0≤e.e)) (t (t true (EI (Zt 33024) (Zt e.e))) (EI a c)) true) (cond (t (t true (EI d (Zt e.c))) (EI f e.a)) (b (f++e.a) true) lf) lf) lf)
def bY(e:xW):x:=cond (0≤e.e) (DT e.d++DT e.b++(Zt 33024++Zt e.e)) (DT e.d++DT e.b)
def jn(e:xW):x×Bool:=cond (!(zA e)) ([],false) (bY e++Zt e.c++e.a,true)
theorem nDi(e:xW):(bY e).length≤16:=by
 have a:=yA e.d;have b:=yA e.b;have c:=P3 33024;have d:=P3 e.e;unfold bY;cases decide (0≤e.e)
 ·simp only[J,fK];omega
 ·simp only[H,fK];omega
theorem OV{e:xW}(h:zA e=true):e.a.length≤400:=by
 unfold zA RQ at h;cases a:D (len e.a) 46 400
 ·rw[a] at h;revert h;cases D e.d 0 281474976710655<;>cases D e.b 0 281474976710655<;>cases D e.e (-1) 4095<;>cases D e.c 1536 65535<;>cases e.c != 33024<;>simp
 ·have:=YF.1 a;simp only[len] at this;omega
theorem nnM(e:xW):(jn e).1.length≤420:=by
 unfold jn;cases h:zA e
 ·exact mn _
 ·have a:=OV h;have b:=nDi e;have c:=P3 e.c;simp only[l_,J,fK];omega
theorem nyo(g:x→Bool→α)(e:xW):nzj lf g e=g (jn e).1 (jn e).2:=by have a:=yA e.d;have b:=yA e.b;have c:=P3 33024;have d:=P3 e.e;have f:=P3 e.c;unfold nzj jn;refine U6 (K:=λr:x×Bool=>g r.1 r.2) (λ_=>rfl) (λh=>?_);have j:=OV (e:=e) (by simpa using h);refine rR (by simp only[cI,EI,U,fK,Sq,I_,lq,js,true_and,and_true];omega) ?_;refine rR (Wi (λ_=>(by simp only[cI,EI,U,fK,Sq,I_,lq,js,true_and,and_true];omega)) (λ_=>rfl)) ?_;have i:(cond (0≤e.e) (DT e.d++DT e.b++(Zt 33024++Zt e.e)) (DT e.d++DT e.b))=bY e:=rfl;rw[i];have k:=nDi e;refine rR (by simp only[cI,EI,U,fK,Sq,I_,lq,js,true_and,and_true];omega) rfl
def nds(b:x→Bool→α)(e:xW):α:=let a:x:=(DT e.d)++(DT e.b);let c:x:=a++(Zt 33024);let d:x:=cond (0≤e.e) (c++(Zt e.e)) a;let f:x:=d++(Zt e.c);cond (!(zA e)) (b [] false) (cond (t true (EI (DT e.d) (DT e.b))) (cond (pk (decide (0≤e.e)) (t (t true (EI a (Zt 33024))) (EI c (Zt e.e))) true) (cond (t (t true (EI d (Zt e.c))) (EI f e.a)) (b (f++e.a) true) lf) lf) lf)
theorem nrh(g:x→Bool→α)(e:xW):nds lf g e=g (jn e).1 (jn e).2:=by
 have a:=yA e.d;have b:=yA e.b;have c:=P3 33024;have d:=P3 e.e;have f:=P3 e.c;unfold nds jn;refine U6 (K:=λr:x×Bool=>g r.1 r.2) (λ_=>rfl) (λh=>?_);have j:=OV (e:=e) (by simpa using h);refine rR (by simp only[cI,EI,U,fK,Sq,I_,lq,js,true_and,and_true];omega) ?_;refine rR (Wi (λ_=>(by simp only[cI,EI,U,fK,Sq,I_,lq,js,true_and,and_true];omega)) (λ_=>rfl)) ?_;have i:(cond (0≤e.e) (DT e.d++DT e.b++Zt 33024++Zt e.e) (DT e.d++DT e.b))=bY e:=by
  unfold bY;cases decide (0≤e.e)
  ·rfl
  ·simp only[H,m9]
 rw[i];have k:=nDi e;refine rR (by simp only[cI,EI,U,fK,Sq,I_,lq,js,true_and,and_true];omega) rfl
def njm(a:x→Bool→α)(p:N):α:=let b:x×Bool:=jn (⟨p.h,p.i,p.e,2048,la ((yf (⟨p.f,p.g,p.c,p.a.c,p.b,p.d,(ic p.b p.d p.a).1⟩:qw)).1)⟩:xW);cond (!(Tp p)) (a [] false) (a b.1 b.2)
def DZ(p:N):xW:=(⟨p.h,p.i,p.e,2048,la (yf (⟨p.f,p.g,p.c,p.a.c,p.b,p.d,(ic p.b p.d p.a).1⟩:qw)).1⟩:xW)
def O3(p:N):x×Bool:=cond (!(Tp p)) ([],false) (jn (DZ p))
theorem Pf(p:N):(O3 p).1.length≤420:=by
 unfold O3;cases Tp p
 ·exact mn _
 ·exact nnM _
theorem nGo(a:x→Bool→α)(p:N):njm a p=a (O3 p).1 (O3 p).2:=by unfold njm O3;exact Ha (K:=λr:x×Bool=>a r.1 r.2) rfl rfl
def sH(a:Bool→α)(p:N):α:=a (cond (Tp p) (decide (len p.a.a≤128)) false)
def Dc(p:N):Bool:=sH id p
theorem nr1(a:Bool→α)(p:N):sH a p=a (Dc p):=by rfl
theorem tf(p:Nat→List DC→Bool):∀(l:u) (s:Nat),RP p l s=true↔∃i,i<l.length∧p (s+i) (q l i)=true
 | [],s=>by simp[RP]
 | r::l,s=>by
  unfold RP;cases b:p s r
  ·simp only[J,tf p l (s+1)];constructor
   ·rintro ⟨i,c,a⟩
    refine⟨i+1,by simp;omega, ?_⟩;rw[show s+(i+1)=s+1+i by omega];exact a
   ·rintro ⟨i,c,a⟩
    cases i with
    | zero=>exfalso;rw[show q (r::l) 0=r from rfl,Nat.add_zero,b] at a;cases a
    | succ i=>
     refine⟨i,by simp only[I_] at c;omega, ?_⟩;rw[show s+1+i=s+(i+1) by omega];exact a
  ·simp only[H,true_iff];exact⟨0,by simp,b⟩
theorem nvX{p:Nat→List DC→Bool}{l:u}{s:Nat}(h:RP p l s=false):∀i,i<l.length→p (s+i) (q l i)=false:=by
 intro i a;cases b:p (s+i) (q l i)
 ·rfl
 ·rw[(tf p l s).2 ⟨i,a,b⟩] at h;cases h
theorem xP(p:Nat→List DC→Bool):∀(l:u) (s:Nat),(findIdx p l s= -1∧∀i,i<l.length→p (s+i) (q l i)=false)∨∃i,i<l.length∧findIdx p l s=((s+i:Nat):Int)∧p (s+i) (q l i)=true
 | [],s=> .inl ⟨rfl,by simp⟩
 | r::l,s=>by
  unfold findIdx;cases b:p s r
  ·rcases xP p l (s+1) with ⟨c,a⟩ | ⟨i,c,a,d⟩
   ·refine .inl ⟨c,λi e=>?_⟩;cases i with
    | zero=>exact b
    | succ i=>
     rw[show s+(i+1)=s+1+i by omega];exact a i (by simp only[I_] at e;omega)
   ·refine .inr ⟨i+1,by simp;omega, ?_, ?_⟩
    ·rw[J,a,show s+(i+1)=s+1+i by omega]
    ·rw[show s+(i+1)=s+1+i by omega];exact d
  ·exact .inr ⟨0,by simp,rfl,b⟩
theorem tK{x m:Int}(a:0≤x)(b:0<m):0≤lp x m∧lp x m<m:=⟨Int.tmod_nonneg _ a,Int.tmod_lt_of_pos _ b⟩
theorem nuO(l:u)(i j:Nat)(x:List DC)(a:i<l.length):q (l.set i x) j=if j=i then x else q l j:=by
 simp only[q,m8];by_cases h:j=i
 ·subst h;rw[List.getElem?_set_self a,if_pos rfl];rfl
 ·rw[List.getElem?_set_ne (λe=>h e.symm),if_neg h]
theorem Y1(a b:Bool):(cond a b false)=true↔a=true∧b=true:=by cases a<;>cases b<;>simp
theorem nmt{p:Nat→List DC→Bool}{l:u}(h:∀i,i<l.length→p i (q l i)=false):RP p l 0=false:=by
 cases b:RP p l 0
 ·rfl
 ·obtain⟨i,c,a⟩:=(tf p l 0).1 b;rw[mc,h i c] at a;cases a
theorem nlN{p:Nat→Bool} :∀ {m i:Nat},Ot p m i=false→∀j,i≤j→j<i+m→p j=false
 | 0,_,_,j,h1,h2=>by omega
 | m+1,i,h,j,h1,h2=>by
  rw[Ot] at h;cases a:p i
  ·rw[a] at h;by_cases b:j=i
   ·rw[b];exact a
   ·exact nlN h j (by omega) (by omega)
  ·rw[a] at h;cases h
theorem nwq{p:Nat→List DC→Bool} :∀ {l:u} {s:Nat},RP p l s=false→∀r∈l,∃i,p i r=false
 | [],_,_,r,h=>by simp at h
 | x::xs,s,h,r,a=>by
  simp only[RP] at h;cases b:p s x
  ·rw[b] at h;rcases List.mem_cons.1 a with rfl | a
   ·exact⟨s,b⟩
   ·exact nwq h r a
  ·rw[b] at h;cases h
theorem HS{l:u}(h:mC l=true):len l≤96∧∀Z∈l,Vz Z=false:=by
 unfold mC at h;by_cases a:96<len l
 ·simp[a] at h
 ·refine⟨by omega,λZ d=>?_⟩;simp only[ja a,J] at h;cases b:RP (λi Z=>cond (Vz Z) true (Ot (λj=>cond ((r (q l j) 0)==(r Z 0)) ((r (q l j) 1)==(r Z 1)) false) i 0)) l 0
  ·obtain⟨i,c⟩:=nwq b Z d;cases e:Vz Z
   ·rfl
   ·rw[e] at c;cases c
  ·rw[b] at h;cases h
def fP(l:u):Prop:=∀i,i<l.length→∃p:x,q l i=[.str p]∧p.length=128
theorem ir{l:u}(a:IJ (.sl sK) (.sl l))(h:Km (⟨l⟩:v)=true):fP l∧l.length≤64:=by
 unfold Km at h;cases b:RP (λ_ r=>(len (Gi r 0)) != 128) l 0
 ·rw[show RP (λ_ r=>(len (Gi r 0)) != 128) (⟨l⟩:v).a 0=false from b] at h;have d:len l≤64:=of_decide_eq_true h;refine⟨λi c=>?_,by simp only[len] at d;omega⟩;obtain⟨_,a⟩:=Nh a;have e:=nGa (a (q l i) (nU c));have f:=nvX b i c;refine⟨Gi (q l i) 0,e.symm, ?_⟩;have g:len (Gi (q l i) 0)=128:=by simpa using f
  simp only[len] at g;omega
 ·rw[show RP (λ_ r=>(len (Gi r 0)) != 128) (⟨l⟩:v).a 0=true from b] at h;cases h
theorem nqf{l:u}(h:fP l)(d:l.length≤64):Km (⟨l⟩:v)=true:=by
 unfold Km;rw[nmt (λi a=>?_)]
 ·exact Hd (by simp only[len];omega)
 ·obtain⟨p,b,c⟩:=h i a;show (len (Gi (q l i) 0) != 128)=false;rw[b];show ((p.length:Int) != 128)=false;rw[c];rfl
theorem nEO(a b:Nat):ly (a:Int) (b:Int)=((a / b:Nat):Int):=rfl
theorem nGg(a b:Nat):lp (a:Int) (b:Int)=((a % b:Nat):Int):=rfl
theorem WG(a:Nat):ly (a:Int) 128=((a / 128:Nat):Int):=nEO a 128
theorem lS(a:Nat):lp (a:Int) 128=((a % 128:Nat):Int):=nGg a 128
def nGr(c:Int→α)(list_:u)(b a:Int)(write:Bool):α:=let d:Int:=uW list_ b (s (ly a 128));let e:Bool:=decide (d<0);let f:Bool:=t true (A d list_);let g:List DC:=q list_ (lk d);cond (a<0) (c (-1)) (cond (pk e true (pk write f true)) (cond (cond e true (cond write (!(Dd g 3)) false)) (c (-1)) (cond f (c (s ((s ((r g 2)*128))+(lp a 128)))) lf)) lf)
def N3(list_:u)(b a:Int):Int:=uW list_ b (s (ly a 128))
def place(list_:u)(b a:Int)(write:Bool):Int:=cond (a<0) (-1) (cond (cond (N3 list_ b a<0) true (cond write (!(Dd (q list_ (lk (N3 list_ b a))) 3)) false)) (-1) (s ((s ((r (q list_ (lk (N3 list_ b a))) 2)*128))+(lp a 128))))
theorem PA(list_:u)(a b:Int):N3 list_ a b<0∨∃i:Nat,i<list_.length∧N3 list_ a b=(i:Int)∧r (q list_ i) 0=a:=by
 unfold N3 uW;rcases xP (λ_ Z=>cond ((r Z 0)==a) ((r Z 1)==(s (ly b 128))) false) list_ 0 with ⟨h,_⟩ | ⟨i,c,d,e⟩
 ·exact .inl (by rw[h];decide)
 ·refine .inr ⟨i,c,by rw[d];simp, ?_⟩;have:=(Y1 _ _).1 e;simpa using this.1
theorem nvR(c:Int→α)(list_:u)(b a:Int)(write:Bool)(f:IJ (.sl lU) (.sl list_)):nGr lf c list_ b a write=c (place list_ b a write):=by
 obtain⟨m,_⟩:=Nh f;unfold nGr place;refine Ha rfl ?_;show (cond (pk (decide (N3 list_ b a<0)) true (pk write (t true (A (N3 list_ b a) list_)) true)) _ lf)=_;rcases PA list_ b a with h | ⟨i,g,j,_⟩
 ·have e:decide (N3 list_ b a<0)=true:=Hd h;have k:∀x,pk true true x=true:=λx=>by cases x<;>rfl
  have e':decide (uW list_ b (s (ly a 128))<0)=true:=e;simp only[e,e',k,H]
 ·have d:A (N3 list_ b a) list_=true:=by rw[j];exact mZ g
  have l:A (uW list_ b (s (ly a 128))) list_=true:=d;simp only[d,l,Oi,vb,H];exact Ha rfl rfl
def bS(b:Bool→α)(m:v)(eQ n:Int):α:=let a:Int:=s ((len m.a)*128);b (cond (Km m) (cond (0≤n) (cond (n≤a) (cond (0≤eQ) (decide (eQ≤s (a - n))) false) false) false) false)
def within(m:v)(eQ n:Int):Bool:=bS id m eQ n
theorem nfj(a:Bool→α)(m:v)(eQ n:Int):bS a m eQ n=a (within m eQ n):=by rfl
def nlS(b:Bool→α)(m:v)(eQ n:Int):α:=let a:Int:=s (128*(len m.a));b (cond (Km m) (cond (0≤n) (cond (0≤eQ) (cond (eQ≤a) (decide (n≤s (a - eQ))) false) false) false) false)
theorem ncU(a:Bool→α)(m:v)(eQ n:Int)(g:Q v.ct m.enc)(h:IJ .i (.int eQ))(b:IJ .i (.int n)):nlS a m eQ n=a (within m eQ n):=by
 have o:=Ti b;have p:=Ti h;unfold nlS within bS;refine congrArg a ?_;show (cond (Km m) _ false)=(cond (Km m) _ false);cases j:Km m
 ·rfl
 ·have q:=(ir (v.PG g) j).2;have k:s (128*(len m.a))=128*(m.a.length:Int):=by simp only[len];exact fg
  have l:s ((len m.a)*128)=128*(m.a.length:Int):=by simp only[len];rw[fg];omega
  simp only[k,l,H];rw[Bool.eq_iff_iff];simp only[Y1,js];constructor
  ·rintro ⟨c,e,f,d⟩
   rw[fg] at d;refine⟨c,by omega,e, ?_⟩;rw[fg];omega
  ·rintro ⟨c,e,f,d⟩
   rw[fg] at d;refine⟨c,f,by omega, ?_⟩;rw[fg];omega
theorem gJ{l:u}{a n:Int}(d:IJ (.sl sK) (.sl l))(h:within (⟨l⟩:v) a n=true):fP l∧l.length≤64∧0≤n∧0≤a∧a+n≤128*l.length:=by
 have b:(cond (Km (⟨l⟩:v)) (cond (0≤n) (cond (n≤s ((len l)*128)) (cond (0≤a) (decide (a≤s (s ((len l)*128) - n))) false) false) false) false)=true:=h;simp only[Y1,js] at b;obtain⟨f,g,i,j,c⟩:=b;obtain⟨k,m⟩:=ir d f;have e:s ((len l)*128)=128*(l.length:Int):=by simp only[len];rw[fg];omega
 rw[e] at i c;rw[fg] at c;exact⟨k,m,g,j,by omega⟩
theorem Xr{l:u}{a n:Nat}(b:fP l)(c:l.length≤64)(h:a+n≤128*l.length):within (⟨l⟩:v) (a:Int) (n:Int)=true:=by
 have e:s ((len l)*128)=128*(l.length:Int):=by simp only[len];rw[fg];omega
 have d:(cond (Km (⟨l⟩:v)) (cond (0≤(n:Int)) (cond ((n:Int)≤s ((len l)*128)) (cond (0≤(a:Int)) (decide ((a:Int)≤s (s ((len l)*128) - (n:Int)))) false) false) false) false)=true:=by simp only[Y1,js];refine⟨nqf b c,by omega,by rw[e];omega,by omega, ?_⟩;rw[e,fg];omega
 exact d
def EO(p:x)(k:Nat)(s:x):x:=p.take k++(s.take (128 - k)++p.drop (k+min s.length (128 - k)))
def e8(l:u)(a:Nat)(s:x):u:=l.set (a / 128) [.str (EO (Gi (q l (a / 128)) 0) (a % 128) s)]
def jY:Nat→Nat→x→u→u
 | 0,_,_,l=>l
 | m+1,a,s,l=>cond (0<s.length) (jY m (a+min s.length (128 - a % 128)) (s.drop (min s.length (128 - a % 128))) (e8 l a s)) l
theorem ngC{p:x}{k:Nat}{s:x}(h:p.length=128)(a:k≤128):(EO p k s).length=128:=by simp only[EO,fK,mq,mg];omega
theorem nvh{l:u}{a:Nat}{s:x}(h:fP l)(c:a / 128<l.length):fP (e8 l a s)∧(e8 l a s).length=l.length:=by
 refine⟨λi b=>?_,by simp[e8]⟩;unfold e8 at b ⊢;rw[List.length_set] at b;rw[nuO l (a / 128) i _ c];by_cases d:i=a / 128
 ·rw[if_pos d];obtain⟨p,e,f⟩:=h (a / 128) c;refine⟨_,rfl, ?_⟩;rw[e];exact ngC f (by omega)
 ·rw[if_neg d];exact h i b
theorem nel:∀(m a:Nat) (s:x) (l:u),fP l→a+s.length≤128*l.length→fP (jY m a s l)∧(jY m a s l).length=l.length
 | 0,_,_,_,h,_=>⟨h,rfl⟩
 | m+1,a,s,l,h,ha=>by
  unfold jY;by_cases c:0<s.length
  ·rw[Hd c,H];have b:=nvh (a:=a) (s:=s) h (by omega);have d:=nel m (a+min s.length (128 - a % 128)) (s.drop (min s.length (128 - a % 128))) (e8 l a s) b.1 (by rw[b.2,mg];omega);exact⟨d.1,d.2.trans b.2⟩
  ·rw[ja c,J];exact⟨h,rfl⟩
theorem nf8:∀(m a:Nat) (l:u),jY m a [] l=l
 | 0,_,_=>rfl
 | _+1,_,_=>rfl
def kU(h:v→Bool→α)(i:Int→x→u→α)(a:Int)(b:x)(c:u):α:=let f:Bool:=t (t true (A (s (ly a 128)) c)) (inl (lk (s (ly a 128))) c);let g:List DC:=q c (lk (s (ly a 128)));let d:u:=ofStr (Gi g 0);let e:Int:=nlB b d (lk (lp a 128));cond (0<len b) (cond f (cond (t (t true ((nz d (lp a 128)) && (decide (0<mG d)))) (decide (lk (lp a 128)≤mG d))) (cond f (cond (t true (nz b e)) (i (s (a+e)) (bZ b e) (m7 c (lk (s (ly a 128))) (Sk g 0 [.str (toStr (MU b d (lk (lp a 128))))]))) lf) lf) lf) lf) (h (⟨c⟩:v) true)
def QV(a:v→Bool→α)(N b:Nat):Int→x→u→α:=bW (λ_ _ _=>lf) (kU lf a) b
theorem nzk(a:v→Bool→α)(N b:Nat):QV lf a N (b+1)=kU lf a (QV lf a N b):=rfl
def npr(a:v→Bool→α)(b:Int→x→u→α)(m:v)(eQ:Int)(s:x):α:=cond (t true (WO m)) (cond (!(within m eQ (len s))) (a (F m) false) (b eQ s ((F m).a))) lf
def nha(a:v→Bool→α)(N:Nat)(m:v)(eQ:Int)(s:x):α:=npr lf a (QV lf a N N) m eQ s
def l6(m:v)(eQ:Int)(s:x):Bool:=Pw m.a
def jc(m:v)(eQ:Int)(s:x):v×Bool:=cond (!(within m eQ (len s))) (m,false) (⟨jY s.length eQ.toNat s m.a⟩,true)
theorem npG(a b:u):toStr (a++b)=toStr a++toStr b:=by simp[toStr]
theorem na1(s:x)(n:Nat):(ofStr s).take n=ofStr (s.take n):=by simp[ofStr,List.map_take]
theorem npO(s:x)(n:Nat):(ofStr s).drop n=ofStr (s.drop n):=by simp[ofStr,List.map_drop]
theorem ny_{p s:x}{k:Nat}(h:p.length=128):toStr (MU s (ofStr p) k)=EO p k s:=by unfold MU EO;rw[D1,h,npG,npG,na1,npO,SW,SW,SW]
theorem nup(c:v→Bool→α)(m:v)(eQ:Int)(W:x)(i:Q v.ct m.enc)(j:l6 m eQ W=true):∃N,nha lf c N m eQ W=c (jc m eQ W).1 (jc m eQ W).2:=by
 have d:IJ (.sl sK) (.sl m.a):=v.PG i;have k:WO m=true:=j;refine⟨W.length+1, ?_⟩;unfold nha npr jc;rw[show F m=m from rfl];simp only[k,Oi,H];cases o:within m eQ (len W)
 ·rfl
 ·obtain⟨r,t,L,Z,Y⟩:=gJ d o;obtain⟨a,rfl⟩:=m_ Z;simp only[l_,J,eR];have key:∀(q n a:Nat) (W:x) (l:u),W.length≤q→q<n→fP l→l.length≤64→a+W.length≤128*l.length→QV lf c (W.length+1) n (a:Int) W l=c (⟨jY q a W l⟩:v) true:=by
   intro q
   induction q with
   | zero=>
    intro n a W l w X e g y;obtain⟨n,rfl⟩:=DF n;have:W=[]:=n_.1 (by omega);subst this;rw[nzk];simp only[kU,show decide (0<len ([]:x))=false by decide,J,jY]
   | succ q z=>
    intro n a W l w X e g y;obtain⟨n,rfl⟩:=DF n;rw[nzk];by_cases A:0<W.length
    ·have B:decide (0<len W)=true:=Hd (by simp only[len];omega);have b:a / 128<l.length:=by omega
     obtain⟨p,h,f⟩:=e (a / 128) b;have C:s (((a / 128:Nat):Int))=((a / 128:Nat):Int):=fg;have D:nlB W (ofStr p) (a % 128)=((min W.length (128 - a % 128):Nat):Int):=by unfold nlB;rw[D1,f]
     have E:s ((a:Int)+((min W.length (128 - a % 128):Nat):Int))=((a+min W.length (128 - a % 128):Nat):Int):=by rw[fg];omega
     have V:nz (ofStr p) (((a % 128:Nat)):Int)=true:=by simp only[nz,D1,f,Bl,js];omega
     have G:decide (0<mG (ofStr p))=true:=Hd (by rw[D1];omega);have U:decide (a % 128≤mG (ofStr p))=true:=Hd (by rw[D1];omega);have I:nz W ((min W.length (128 - a % 128):Nat):Int)=true:=by simp only[nz,Bl,js];omega
     have T:bZ W ((min W.length (128 - a % 128):Nat):Int)=W.drop (min W.length (128 - a % 128)):=by simp[bZ]
     have st:=nvh (a:=a) (s:=W) e b;have this:=z n (a+min W.length (128 - a % 128)) (W.drop (min W.length (128 - a % 128))) (e8 l a W) (by rw[mg];omega) (by omega) st.1 (by rw[st.2];exact g) (by rw[st.2,mg];omega);have K:e8 l a W=l.set (a / 128) [.str (EO p (a % 128) W)]:=by unfold e8;rw[h];rfl
     unfold jY;rw[Hd A,H];rw[K] at this ⊢;simp only[kU,B,WG,lS,C,mZ b,R7 b,eR,h,gf,D,E,V,G,U,I,T,ny_ f,Z1,p5,Oi,cz,H];exact this
    ·have:W=[]:=n_.1 (by omega);subst this;simp only[kU,show decide (0<len ([]:x))=false by decide,J];rfl
  exact key W.length (W.length+1) a W m.a (oo _) (by omega) r t (by simp only[len] at Y;omega)
theorem nyX{l:u}(h:fP l)(d:l.length≤64):IJ (.sl sK) (.sl l):=by
 simp only[IJ];refine⟨l,rfl,by rw[Wo];omega,λr b=>?_⟩;obtain⟨i,a,rfl⟩:=p6 b;obtain⟨p,c,f⟩:=h i a;have e:l[i]=q l i:=by simp[q,a]
 rw[e,c];exact SK (by simp only[IJ];exact⟨p,rfl,by rw[Wo];omega⟩) npT
theorem VW{l:u}{a:Int}{s:x}(h:fP l)(b:l.length≤64):fP (jc (⟨l⟩:v) a s).1.a∧(jc (⟨l⟩:v) a s).1.a.length=l.length:=by
 unfold jc;cases c:within (⟨l⟩:v) a (len s)
 ·exact⟨h,rfl⟩
 ·obtain⟨_,_,e,f,d⟩:=gJ (nyX h b) c;exact nel s.length a.toNat s l h (by simp only[len] at d;omega)
def oq(Q:Nat→Prop):u→Nat→Prop
 | [],n=>n=0
 | r::rs,n=>∃p k:Nat,r=[.int (p:Int),.int (k:Int)]∧1≤k∧k≤n∧p % 128+k≤128∧Q (p / 128)∧oq Q rs (n - k)
def XI(list_:u)(b:Int)(write:Bool)(c:u):Nat→Int→Int→u→u×Bool
 | 0,_,_,o=>(o,true)
 | m+1,a,n,o=>bif decide (0<n) then
   bif cond (place list_ b a write<0) true (!(within (⟨c⟩:v) (place list_ b a write) (DB n (s (128 - lp a 128))))) then ([],false)
   else bif cond (s (a+DB n (s (128 - lp a 128)))<0) (decide (0<s (n - DB n (s (128 - lp a 128))))) false then ([],false)
   else XI list_ b write c m (s (a+DB n (s (128 - lp a 128)))) (s (n - DB n (s (128 - lp a 128)))) (o++[[.int (place list_ b a write),.int (DB n (s (128 - lp a 128)))]])
  else (o,true)
theorem N9{a n:Int}(b:0≤a)(c:0<n)(d:n≤4096):1≤DB n (s (128 - lp a 128))∧DB n (s (128 - lp a 128))≤n∧lp a 128+DB n (s (128 - lp a 128))≤128∧s (n - DB n (s (128 - lp a 128)))=n - DB n (s (128 - lp a 128)):=by
 have r:=tK (x:=a) (m:=128) b (by omega);rw[fg (n:=128 - lp a 128)];unfold DB;split
 ·refine⟨by omega,by omega,by omega,fg⟩
 ·refine⟨by omega,by omega,by omega,fg⟩
def Av(list_:u)(m:v)(a eQ n:Int)(write:Bool):u×Bool:=cond (cond (!(mC list_)) true (cond (!(Km m)) true (!(D n 0 4096)))) ([],false) (cond (n==0) ([],true) (cond (eQ<0) ([],false) (XI list_ a write m.a (n.toNat+1) eQ n [])))
def Na(e:u→Bool→α)(list_:u)(a:Int)(write:Bool)(i:u)(j:Int→Int→u→α)(c b:Int)(f:u):α:=let d:Int:=DB b (s (128 - (lp c 128)));let g:Int:=s (c+d);let h:Int:=s (b - d);cond (0<b) (cond (cond (place list_ a c write<0) true (!(within (⟨i⟩:v) (place list_ a c write) d))) (e [] false) (cond (t true (Em 16 f ([[.int (place list_ a c write),.int d]]))) (cond (cond (g<0) (decide (0<h)) false) (e [] false) (j g h (f++([[.int (place list_ a c write),.int d]])))) lf)) (e f true)
def ZR(b:u→Bool→α)(N:Nat)(list_:u)(a:Int)(write:Bool)(c:u)(d:Nat):Int→Int→u→α:=bW (λ_ _ _=>lf) (Na lf b list_ a write c) d
theorem nA1(b:u→Bool→α)(N:Nat)(list_:u)(a:Int)(write:Bool)(c:u)(d:Nat):ZR lf b N list_ a write c (d+1)=Na lf b list_ a write c (ZR lf b N list_ a write c d):=rfl
def tN(lf:α)(b:u→Bool→α)(c:u→Int→Int→u→α)(list_:u)(m:v)(a eQ n:Int)(write:Bool):α:=cond (cond (!(mC list_)) true (cond (!(Km m)) true (!(D n 0 4096)))) (b [] false) (cond (n==0) (b [] true) (cond (eQ<0) (b [] false) (c m.a eQ n [])))
def nn5(b:u→Bool→α)(N:Nat)(list_:u)(m:v)(a eQ n:Int)(write:Bool):α:=tN lf b (λc=>ZR lf b N list_ a write c N) list_ m a eQ n write
theorem nEr(d:u→Bool→α)(list_:u)(m:v)(b eQ n:Int)(write:Bool)(t:IJ .i (.int eQ)):∃N,nn5 lf d N list_ m b eQ n write=d (Av list_ m b eQ n write).1 (Av list_ m b eQ n write).2:=by
 refine⟨n.toNat+2, ?_⟩;unfold nn5 tN Av;refine U6 (K:=λr:u×Bool=>d r.1 r.2) (λ_=>rfl) (λg=>U6 (K:=λr:u×Bool=>d r.1 r.2) (λ_=>rfl) (λE=>U6 (K:=λr:u×Bool=>d r.1 r.2) (λ_=>rfl) (λk=>?_)));have l:0≤n∧n≤4096:=by
  cases X:D n 0 4096
  ·rw[X] at g;cases h:mC list_<;>cases j:Km m<;>rw[h,j] at g<;>cases g
  ·exact YF.1 X
 have k:=of_decide_eq_false k;have Z:=Ti t;have key:∀(q e:Nat) (a n:Int) (o:u),n<q→q≤e→0≤n→n≤4096→a≤9223372036854775807→(0<n→0≤a)→o.length+n.toNat≤5000→∀M,ZR lf d M list_ b write m.a e a n o=d (XI list_ b write m.a q a n o).1 (XI list_ b write m.a q a n o).2:=by
  intro q
  induction q with
  | zero=>intro e a n o h j Y;omega
  | succ q w=>
   intro e a n o h j Y y F z G M;obtain⟨e,rfl⟩:=DF e;rw[nA1];by_cases f:0<n
   ·obtain⟨V,I,U,A⟩:=N9 (z f) f y;have B:∀x:List DC,Em 16 o [x]=true:=λx=>W6 (by simp only[I_,lq];omega) (by omega);unfold XI;simp only[Na,Hd f,B,Oi,H];refine U6 (K:=λr:u×Bool=>d r.1 r.2) (λ_=>rfl) (λ_=>U6 (K:=λr:u×Bool=>d r.1 r.2) (λ_=>rfl) (λc=>?_));rw[A] at c ⊢;refine w e _ _ _ (by omega) (by omega) (by omega) (by omega) (G_ _) (λC=>?_) (by simp only[fK,I_,lq];omega) M;rw[Hd C] at c;have c:decide (s (a+DB n (s (128 - lp a 128)))<0)=false:=by
     cases W:decide (s (a+DB n (s (128 - lp a 128)))<0)
     ·rfl
     ·rw[W] at c;cases c
    have:=of_decide_eq_false c;omega
   ·unfold XI;simp only[Na,ja f,J]
 exact key (n.toNat+1) (n.toNat+2) eQ n [] (by omega) (by omega) l.1 l.2 Z.2 (λ_=>by omega) (by simp only[lq];omega) _
theorem oq.len{Q:Nat→Prop} :∀ {l:u} {n:Nat},oq Q l n→l.length≤n
 | [],_,_=>mn _
 | r::rs,n,⟨p,k,_,h1,h2,_,_,h3⟩=>by have:=h3.len;simp only[I_];omega
theorem oq.imp{Q a:Nat→Prop}(h:∀i,Q i→a i):∀ {l:u} {n:Nat},oq Q l n→oq a l n
 | [],_,h0=>h0
 | r::rs,n,⟨p,k,e,h1,h2,h3,h4,h5⟩=>⟨p,k,e,h1,h2,h3,h _ h4,h5.imp h⟩
theorem nzF{list_:u}(e:mC list_=true){eo a:Int}{write:Bool}(f:0≤a):place list_ eo a write<0∨∃i:Nat,i<list_.length∧r (q list_ i) 0=eo∧0≤r (q list_ i) 2∧r (q list_ i) 2≤63∧
  place list_ eo a write=r (q list_ i) 2*128+lp a 128:=by
 unfold place;rw[ja (show ¬a<0 by omega),J];rcases PA list_ eo a with h | ⟨i,d,g,j⟩
 ·rw[Hd h];exact .inl (show (-1:Int)<0 by decide)
 ·rw[g,eR];cases (cond ((i:Int)<0) true (cond write (!(Dd (q list_ i) 3)) false))
  ·have c:=(HS e).2 (q list_ i) (nU d);have b:D (r (q list_ i) 2) 0 63=true:=by
    unfold Vz at c;cases k:D (r (q list_ i) 2) 0 63
    ·rw[k] at c;revert c;cases D (r (q list_ i) 0) 0 7<;>cases D (r (q list_ i) 1) 0 1023<;>simp
    ·rfl
   have b:=YF.1 b;have Z:=tK (x:=a) (m:=128) f (by omega);refine .inr ⟨i,d,j,b.1,b.2, ?_⟩;rw[J,fg (n:=r (q list_ i) 2*128),fg]
  ·exact .inl (show (-1:Int)<0 by decide)
theorem blD{list_ f:u}(j:mC list_=true){eo:Int}{write:Bool} :∀(Y:Nat) (a n:Int) (o:u),n<Y→0≤n→n≤4096→(0<n→0≤a)→(XI list_ eo write f Y a n o).2=true→
  ∃rs,(XI list_ eo write f Y a n o).1=o++rs∧oq (λp=>∃i:Nat,i<list_.length∧r (q list_ i) 0=eo∧r (q list_ i) 2=(p:Int)) rs n.toNat
 | 0,a,n,o,h1,h2,_,_,_=>by omega
 | Y+1,a,n,o,h1,h2,h3,h4,h5=>by
  unfold XI at h5 ⊢;by_cases d:0<n
  ·rw[Hd d,H] at h5 ⊢;have g:=h4 d;obtain⟨z,A,B,l⟩:=N9 g d h3;cases e:(cond (place list_ eo a write<0) true (!(within (⟨f⟩:v) (place list_ eo a write) (DB n (s (128 - lp a 128))))))
   ·rw[e,J] at h5;rw[J];cases b:(cond (s (a+DB n (s (128 - lp a 128)))<0) (decide (0<s (n - DB n (s (128 - lp a 128))))) false)
    ·rw[b,J] at h5;rw[J];rw[l] at h5 b ⊢;obtain⟨rs,V,t⟩:=blD j Y _ _ _ (by omega) (by omega) (by omega) (λZ=>by
      rw[Hd Z] at b;have b:decide (s (a+DB n (s (128 - lp a 128)))<0)=false:=by
       cases W:decide (s (a+DB n (s (128 - lp a 128)))<0)
       ·rfl
       ·rw[W] at b;cases b
      have:=of_decide_eq_false b;omega) h5
     refine⟨[.int (place list_ eo a write),.int (DB n (s (128 - lp a 128)))]::rs,by rw[V,m9];rfl, ?_⟩;rcases nzF j (eo:=eo) (write:=write) g with h | ⟨i,w,y,C,D,k⟩
     ·rw[Hd h] at e;cases e
     ·have X:=tK (x:=a) (m:=128) g (by omega);have c:(place list_ eo a write).toNat / 128=(r (q list_ i) 2).toNat∧(place list_ eo a write).toNat % 128=(lp a 128).toNat:=by rw[k];omega
      refine⟨(place list_ eo a write).toNat,(DB n (s (128 - lp a 128))).toNat, ?_,by omega,by omega,by rw[c.2];omega,⟨i,w,y,by rw[c.1];omega⟩, ?_⟩
      ·rw[oV (by rw[k];omega),oV (by omega)]
      ·have:(n - DB n (s (128 - lp a 128))).toNat=n.toNat - (DB n (s (128 - lp a 128))).toNat:=by omega
       rw[←this];exact t
    ·rw[b] at h5;cases h5
   ·rw[e] at h5;cases h5
  ·rw[ja d,J] at h5 ⊢;refine⟨[],by simp, ?_⟩;show n.toNat=0;omega
theorem niS{list_:u}{m:v}{a eQ n:Int}{write:Bool}(g:IJ (.sl sK) (.sl m.a))(h:(Av list_ m a eQ n write).2=true):
  fP m.a∧m.a.length≤64∧oq (λp=>∃i:Nat,i<list_.length∧r (q list_ i) 0=a∧r (q list_ i) 2=(p:Int)) (Av list_ m a eQ n write).1 n.toNat∧n≤4096:=by
 unfold Av at h ⊢;cases c:mC list_
 ·rw[c] at h;cases h
 cases d:Km m
 ·rw[c,d] at h;cases h
 cases b:D n 0 4096
 ·rw[c,d,b] at h;cases h
 have b:=YF.1 b;obtain⟨j,k⟩:=ir g d;rw[c,d,show D n 0 4096=true from YF.2 b] at h;simp only[l_,J] at h ⊢;refine⟨j,k, ?_,b.2⟩;by_cases e:n=0
 ·subst e;exact rfl
 ·rw[show (n==0)=false by simpa using e,J] at h ⊢;by_cases f:eQ<0
  ·rw[Hd f] at h;cases h
  ·rw[ja f,J] at h ⊢;obtain⟨rs,l,o⟩:=blD c (n.toNat+1) eQ n [] (by omega) b.1 b.2 (λ_=>by omega) h;rw[l];exact o
theorem nAO{list_:u}{m:v}{e eQ n:Int}{write:Bool}(f:IJ (.sl sK) (.sl m.a))(h:(Av list_ m e eQ n write).2=true):
  fP m.a∧m.a.length≤64∧oq (λ_=>True) (Av list_ m e eQ n write).1 n.toNat∧(Av list_ m e eQ n write).1.length≤5000:=by
 obtain⟨a,b,c,d⟩:=niS f h;have:=c.len;exact⟨a,b,c.imp (λ_ _=>trivial),by omega⟩
def cS:u→x→u→u
 | [],_,l=>l
 | Z::rs,s,l=>cS rs (s.drop (lk (r Z 1))) (jc (⟨l⟩:v) (r Z 0) (s.take (lk (r Z 1)))).1.a
def iK(f:v→Bool→α)(Z:Int)(b:u)(g:x→Int→u→α)(c:x)(a:Int)(d:u):α:=let e:x:=C1 c (r (q b (lk a)) 1);cond (a<Z) (cond (t (t true (A a b)) (inl (lk a) b)) (cond (t (t true (az c (r (q b (lk a)) 1))) (l6 (⟨d⟩:v) (r (q b (lk a)) 0) e)) (cond (t true (nz c (r (q b (lk a)) 1))) (g (bZ c (r (q b (lk a)) 1)) (s (a+1)) (((jc (⟨d⟩:v) (r (q b (lk a)) 0) e).1).a)) lf) lf) lf) (f (⟨d⟩:v) true)
def ug(a:v→Bool→α)(N:Nat)(Z:Int)(b:u)(c:Nat):x→Int→u→α:=bW (λ_ _ _=>lf) (iK lf a Z b) c
theorem nEz(a:v→Bool→α)(N:Nat)(x:Int)(b:u)(c:Nat):ug lf a N x b (c+1)=iK lf a x b (ug lf a N x b c):=rfl
def ZA(c:v→Bool→α)(d:Int→u→x→Int→u→α)(list_:u)(m:v)(a eQ:Int)(s:x)(write:Bool):α:=let b:u×Bool:=Av list_ m a eQ (len s) write;cond (t true (WO m)) (cond (!b.2) (c (F m) false) (d (len b.1) b.1 s 0 ((F m).a))) lf
def nyN(b:v→Bool→α)(N:Nat)(list_:u)(m:v)(a eQ:Int)(s:x)(write:Bool):α:=ZA lf b (λZ c=>ug lf b N Z c N) list_ m a eQ s write
def Xu(list_:u)(m:v)(a eQ:Int)(s:x)(write:Bool):Bool:=Pw m.a
def put(list_:u)(m:v)(a eQ:Int)(s:x)(write:Bool):v×Bool:=cond (!(Av list_ m a eQ (len s) write).2) (m,false) (⟨cS (Av list_ m a eQ (len s) write).1 s m.a⟩,true)
theorem nxE(e:v→Bool→α)(list_:u)(m:v)(c eQ:Int)(aca:x)(write:Bool)(abo:Q v.ct m.enc)(w:IJ .str (.str aca))(abW:Xu list_ m c eQ aca write=true):∃N,nyN lf e N list_ m c eQ aca write=e (put list_ m c eQ aca write).1 (put list_ m c eQ aca write).2:=by
 have f:IJ (.sl sK) (.sl m.a):=v.PG abo;have y:WO m=true:=abW;have z:=cj w;refine⟨(Av list_ m c eQ (len aca) write).1.length+1, ?_⟩;unfold nyN ZA put;rw[show F m=m from rfl];simp only[y,Oi,H];cases A:(Av list_ m c eQ (len aca) write).2
 ·rfl
 ·obtain⟨B,C,g⟩:=nAO f A;simp only[l_,J];generalize (Av list_ m c eQ (len aca) write).1=R at g ⊢;have key:∀(Y n i:Nat) (aca:x) (l:u),i+Y=R.length→Y<n→oq (λ_=>True) (R.drop i) aca.length→fP l→l.length≤64→R.length≤5000→
    ug lf e (R.length+1) (len R) R n aca (i:Int) l=e (⟨cS (R.drop i) aca l⟩:v) true:=by
   intro Y
   induction Y with
   | zero=>
    intro n i aca l D E j X o t;obtain⟨n,rfl⟩:=DF n;rw[nEz,p9 (by omega)];have ady:decide ((i:Int)<len R)=false:=ja (by simp only[len];omega);simp only[iK,ady,J,cS]
   | succ Y G=>
    intro n i aca l D E j X o t;obtain⟨n,rfl⟩:=DF n;have d:i<R.length:=by omega
    have adF:R[i]=q R i:=by simp[q,d]
    rw[nF d,adF] at j ⊢;obtain⟨p,k,I,U,V,W,_,aeA⟩:=j;rw[nEz];have K:s ((i:Int)+1)=((i+1:Nat):Int):=by rw[fg];omega
    have L:az aca (k:Int)=true:=by simp only[az,Bl,js];omega
    have M:nz aca (k:Int)=true:=by simp only[nz,Bl,js];omega
    have O:C1 aca (k:Int)=aca.take k:=by simp[C1]
    have P:bZ aca (k:Int)=aca.drop k:=by simp[bZ]
    have af9:∀a b,l6 (⟨l⟩:v) a b=true:=λa b=>by unfold l6 Pw;exact Hd (by show l.length≤16777216;omega)
    have S:r [DC.int (p:Int),DC.int (k:Int)] 0=(p:Int):=rfl;have T:r [DC.int (p:Int),DC.int (k:Int)] 1=(k:Int):=rfl;have Z:=VW (a:=(p:Int)) (s:=aca.take k) X o;have this:=G n (i+1) (aca.drop k) (jc (⟨l⟩:v) (p:Int) (aca.take k)).1.a (by omega) (by omega) (by rw[mg];exact aeA) Z.1 (by rw[Z.2];exact o) t;simp only[iK,sg d,mZ d,R7 d,eR,I,S,T,L,M,O,P,af9,K,Oi,cz,H,cS];exact this
  exact key R.length (R.length+1) 0 aca m.a (by omega) (by omega) (by have h:=g.1;rw[show (len aca).toNat=aca.length by simp[len]] at h;exact h) B C g.2
def no7(c:v→Bool→α)(list_:u)(m:v)(a eQ:Int)(s:x):α:=let b:v×Bool:=put list_ m a eQ s true;cond (t true (Xu list_ m a eQ s true)) (c b.1 b.2) lf
def zE(list_:u)(m:v)(a eQ:Int)(s:x):Bool:=Pw m.a
def YI(list_:u)(m:v)(a eQ:Int)(s:x):v×Bool:=put list_ m a eQ s true
theorem ndd(b:v→Bool→α)(list_:u)(m:v)(a eQ:Int)(s:x)(c:zE list_ m a eQ s=true):no7 lf b list_ m a eQ s=b (YI list_ m a eQ s).1 (YI list_ m a eQ s).2:=by have h:Xu list_ m a eQ s true=true:=c;unfold no7 YI;simp only[h,Oi,H]
def UN(c:v→α)(b:Int)(d:Int→u→α)(k:Int)(a:u):α:=cond (cond (k<b) (decide (b≤64)) false) (cond (t (t true (WU 128 0)) (Em 16 a ([[.str (vZ 128 0)]]))) (d (s (k+1)) (a++([[.str (vZ 128 0)]]))) lf) (c (⟨a⟩:v))
def NA(a:v→α)(N:Nat)(b:Int)(c:Nat):Int→u→α:=bW (λ_ _=>lf) (UN lf a b) c
theorem DY(a:v→α)(N:Nat)(b:Int)(c:Nat):NA lf a N b (c+1)=UN lf a b (NA lf a N b c):=rfl
def Gc(lf:α)(b:v→α)(a:Int→u→α)(c:Int):α:=a 0 []
def nCL(a:v→α)(N:Nat)(b:Int):α:=Gc lf a (NA lf a N b N) b
def aG:List DC:=[.str (vZ 128 0)]
def Rz(a:Int):v:=⟨cond (a≤64) (kM (λ_ o=>o++[aG]) a.toNat 0 []) []⟩
theorem poD(b:v→α)(a:Int):∃N,nCL lf b N a=b (Rz a):=by
 refine⟨66, ?_⟩;unfold nCL Gc Rz;by_cases c:a≤64
 ·rw[Hd c,H];refine je a.toNat (λn i o=>NA lf b 66 a n i o) (λ_ o=>o++[aG]) (λo=>b (⟨o⟩:v)) (λi o=>o.length≤i) ?_ ?_ ?_ 66 [] (by simp) (by omega)
  ·intro i o e d;simp only[fK,I_,lq];omega
  ·intro n i o e d;show NA lf b 66 a (n+1) (i:Int) o=_;rw[DY];have f:∀x:List DC,Em 16 o [x]=true:=λx=>W6 (by simp only[I_,lq];omega) (by omega);have g:WU 128 0=true:=rfl;simp only[UN,Hd (show (i:Int)<a by omega),Hd c,f,g,Oi,cz,H,fg (show -9223372036854775808≤(i:Int)+1 by omega) (show (i:Int)+1≤9223372036854775807 by omega)];rfl
  ·intro n o d;show NA lf b 66 a (n+1) ((a.toNat:Nat):Int) o=_;rw[DY];simp only[UN,ja (show ¬((a.toNat:Nat):Int)<a by omega),J]
 ·rw[ja c,J];show NA lf b 66 a 66 0 []=_;rw[DY];have h:(cond ((0:Int)<a) (decide (a≤64)) false)=false:=by rw[ja c];cases decide ((0:Int)<a)<;>rfl
  simp only[UN,h,J]
theorem nxm{l:u}(d:fP l)(e:l.length≤64){a n:Int} :within (⟨l⟩:v) a n=true↔0≤n∧0≤a∧a+n≤128*l.length:=by
 constructor
 ·intro h;obtain⟨_,_,b,c,f⟩:=gJ (nyX d e) h;exact⟨b,c,f⟩
 ·rintro ⟨b,c,f⟩
  obtain⟨n,rfl⟩:=m_ b;obtain⟨a,rfl⟩:=m_ c;exact Xr d e (by omega)
theorem nku{l:u}(a:fP l)(b:l.length≤64){p o k:Int}(c:0≤p)(d:0≤o)(e:1≤k)(f:o+k≤128):within (⟨l⟩:v) (p*128+o) k=within (⟨l⟩:v) (p*128) 128:=by rw[Bool.eq_iff_iff,nxm a b,nxm a b];omega
def eD(a b:Int)(write:Bool)(Z:List DC):Bool:=cond ((r Z 0)==a) (cond ((r Z 1)==b) (cond (Dd Z 3) true (!write)) false) false
def Xq(list_:u)(a b:Int)(write:Bool):Int:=findIdx (λ_ r=>eD a b write r) list_ 0
def yL(b:Int→α)(list_:u)(a g:Int)(write:Bool)(h:Int→α)(k:Int):α:=let c:Bool:=(r (q list_ (lk k)) 0)==a;let d:Bool:=(r (q list_ (lk k)) 1)==g;let e:Bool:=t (t true (A k list_)) (A k list_);let f:Bool:=t e (A k list_);cond (k<len list_) (cond (pk c (pk d (pk (Dd (q list_ (lk k)) 3) f f) e) (t true (A k list_))) (cond (cond c (cond d (cond (Dd (q list_ (lk k)) 3) true (!write)) false) false) (cond (t true (A k list_)) (b (r (q list_ (lk k)) 2)) lf) (h (s (k+1)))) lf) (b (-1))
def Z5(b:Int→α)(N:Nat)(list_:u)(a c:Int)(write:Bool)(d:Nat):Int→α:=bW (λ_=>lf) (yL lf b list_ a c write) d
theorem nkI(b:Int→α)(N:Nat)(list_:u)(a c:Int)(write:Bool)(d:Nat):Z5 lf b N list_ a c write (d+1)=yL lf b list_ a c write (Z5 lf b N list_ a c write d):=rfl
def lv(lf:α)(c b:Int→α)(list_:u)(a d:Int)(write:Bool):α:=b 0
def nrW(b:Int→α)(N:Nat)(list_:u)(a c:Int)(write:Bool):α:=lv lf b (Z5 lf b N list_ a c write N) list_ a c write
def gx(list_:u)(a b:Int)(write:Bool):Int:=cond (Xq list_ a b write<0) (-1) (r (q list_ (lk (Xq list_ a b write))) 2)
theorem nlb(b:Int→α)(list_:u)(a d:Int)(write:Bool)(e:IJ (.sl lU) (.sl list_)):∃N,nrW lf b N list_ a d write=b (gx list_ a d write):=by
 obtain⟨f,_⟩:=Nh e;refine⟨list_.length+1, ?_⟩;unfold nrW lv gx;refine (x9 list_ (Z5 lf b (list_.length+1) list_ a d write) (λi Z c=>cond (eD a d write Z) (b (cond ((i:Int)<0) (-1) (r (q list_ (lk (i:Int))) 2))) c) (b (-1)) ?_ ?_).trans ?_
 ·intro n i h;rw[nkI];have g:decide ((i:Int)<0)=false:=ja (by omega);simp only[yL,sg h,mZ h,jy h f,eR,Oi,cz,vb,H,g,J];rfl
 ·intro n;rw[nkI];simp only[yL,Ns,J]
 ·exact vd (λ_ Z=>eD a d write Z) (λx=>b (cond (x<0) (-1) (r (q list_ (lk x)) 2))) list_ 0
theorem nuV{l:u}(h:mC l=true){i j:Nat}(d:i<l.length)(e:j<l.length)(b:r (q l i) 0=r (q l j) 0)(c:r (q l i) 1=r (q l j) 1):i=j:=by
 have key:∀i j:Nat,i<l.length→j<i→r (q l j) 0=r (q l i) 0→r (q l j) 1=r (q l i) 1→False:=by
  intro i j d e b c;unfold mC at h;by_cases f:96<len l
  ·simp[f] at h
  simp only[ja f,J] at h;cases g:RP (λi Z=>cond (Vz Z) true (Ot (λj=>cond ((r (q l j) 0)==(r Z 0)) ((r (q l j) 1)==(r Z 1)) false) i 0)) l 0
  ·have a:=nvX g i d;rw[mc] at a;cases k:Vz (q l i)
   ·rw[k,J] at a;have m:=nlN a j (mn _) (by omega);rw[b,c] at m;simp at m
   ·rw[k] at a;cases a
  ·rw[g] at h;cases h
 rcases Nat.lt_trichotomy i j with a | a | a
 ·exact (key j i e a b c).elim
 ·exact a
 ·exact (key i j d a b.symm c.symm).elim
theorem nsH{l:u}(W:mC l=true){d a:Int}{w:Bool}(I:0≤a):place l d a w=cond (gx l d (s (ly a 128)) w<0) (-1) (s (s (gx l d (s (ly a 128)) w*128)+lp a 128)):=by
 unfold place;rw[ja (show ¬a<0 by omega),J];have g:∀X,eD d (s (ly a 128)) w X=true↔(r X 0=d∧r X 1=s (ly a 128))∧(Dd X 3=true∨w=false):=by
  intro X;unfold eD;by_cases k:r X 0=d
  ·by_cases t:r X 1=s (ly a 128)
   ·cases Dd X 3<;>cases w<;>simp[k,t]
   ·simp[k,t]
  ·simp[k]
 have y:∀i,0≤r (q l i) 2∨¬i<l.length:=by
  intro i;by_cases Z:i<l.length
  ·have m:=(HS W).2 (q l i) (nU Z);unfold Vz at m;cases e:D (r (q l i) 2) 0 63
   ·rw[e] at m;revert m;cases D (r (q l i) 0) 0 7<;>cases D (r (q l i) 1) 0 1023<;>simp
   ·exact .inl (YF.1 e).1
  ·exact .inr Z
 have v:=xP (λ_ X=>eD d (s (ly a 128)) w X) l 0;have z:=xP (λ_ X=>cond ((r X 0)==d) ((r X 1)==(s (ly a 128))) false) l 0;have A:N3 l d a=findIdx (λ_ X=>cond ((r X 0)==d) ((r X 1)==(s (ly a 128))) false) l 0:=rfl;unfold gx Xq;rw[A];rcases z with ⟨B,C⟩ | ⟨i,x,V,E⟩
 ·rw[B];rcases v with ⟨n,_⟩ | ⟨j,o,_,p⟩
  ·rw[n];rfl
  ·have f:=C j o;have b:=((g _).1 p).1;simp[b.1,b.2] at f
 ·rw[V];have c:r (q l i) 0=d∧r (q l i) 1=s (ly a 128):=by simpa [Y1] using E
  simp only[mc,eR,ja (show ¬((i:Int)<0) by omega),J];rcases v with ⟨n,F⟩ | ⟨j,o,G,p⟩
  ·rw[n];have f:=F i x;have b:¬(Dd (q l i) 3=true∨w=false):=λh=>by rw[(g _).2 ⟨c,h⟩] at f;cases f
   rw[not_or] at b;cases w
   ·exact absurd rfl b.2
   ·simp only[b.1,H,Bool.not_eq_true _ ▸ (by simpa using b.1:Dd (q l i) 3=false),Bool.not_false];rfl
  ·have b:=(g _).1 p;have Y:i=j:=nuV W x o (c.1.trans b.1.1.symm) (c.2.trans b.1.2.symm);subst Y;rw[G];simp only[mc,eR,ja (show ¬((i:Int)<0) by omega),J];have T:=(y i).resolve_right (by omega);rw[ja (show ¬r (q l i) 2<0 by omega),J];have U:(cond w (!(Dd (q l i) 3)) false)=false:=by
    rcases b.2 with e | e
    ·rw[e];cases w<;>rfl
    ·rw[e];rfl
   rw[U,J]
theorem pg0{l:u}(c:mC l=true)(d v:Int)(w:Bool):gx l d v w= -1∨(0≤gx l d v w∧gx l d v w≤63):=by
 unfold gx Xq;rcases xP (λ_ Z=>eD d v w Z) l 0 with ⟨e,_⟩ | ⟨j,f,g,h⟩
 ·rw[e];exact .inl rfl
 ·rw[g];simp only[mc,eR,ja (show ¬((j:Int)<0) by omega),J];have a:=(HS c).2 (q l j) (nU f);unfold Vz at a;cases b:D (r (q l j) 2) 0 63
  ·rw[b] at a;revert a;cases D (r (q l j) 0) 0 7<;>cases D (r (q l j) 1) 0 1023<;>simp
  ·exact .inr (YF.1 b)
theorem neJ(q:List DC→List DC):∀(l o:u),l.foldl (λo r=>o++[q r]) o=o++l.map q
 | [],o=>by simp
 | r::rs,o=>by rw[pr,neJ q rs];simp
def Sv(Z:List DC):List DC:=[.int (r Z 0)]
def e_(Z:List DC):List DC:=[.int (r Z 1)]
theorem zx(f:List DC→List DC){l:u}{i:Nat}(h:i<l.length):q (l.map f) i=f (q l i):=by simp[q,m8,h]
def wm(h:u→u→Bool→α)(list_:u)(b:Int)(write:Bool)(i:u)(j:Int→Int→u→u→α)(d c:Int)(a g:u):α:=let e:Int:=cond (0≤d) (gx list_ b (s (ly d 128)) write) (-1);let f:Int:=DB c (s (128 - (lp d 128)));cond (0<c) (cond (cond (e<0) true (!(within (⟨i⟩:v) (s (e*128)) 128))) (h [] [] false) (cond (t true (Em 8 a ([[.int (s ((s (e*128))+(lp d 128)))]]))) (cond (t true (Em 8 g ([[.int f]]))) (j (s (d+f)) (s (c - f)) (a++([[.int (s ((s (e*128))+(lp d 128)))]])) (g++([[.int f]]))) lf) lf)) (h a g true)
def ai(b:u→u→Bool→α)(N:Nat)(list_:u)(a:Int)(write:Bool)(c:u)(d:Nat):Int→Int→u→u→α:=bW (λ_ _ _ _=>lf) (wm lf b list_ a write c) d
theorem nz9(b:u→u→Bool→α)(N:Nat)(list_:u)(a:Int)(write:Bool)(c:u)(d:Nat):ai lf b N list_ a write c (d+1)=wm lf b list_ a write c (ai lf b N list_ a write c d):=rfl
def VP(lf:α)(b:u→u→Bool→α)(c:u→Int→Int→u→u→α)(list_:u)(m:v)(a eQ n:Int)(write:Bool):α:=cond (cond (!(mC list_)) true (cond (!(Km m)) true (!(D n 0 4096)))) (b [] [] false) (c m.a eQ n [] [])
def ntW(b:u→u→Bool→α)(N:Nat)(list_:u)(m:v)(a eQ n:Int)(write:Bool):α:=VP lf b (λc=>ai lf b N list_ a write c N) list_ m a eQ n write
def oz(list_:u)(m:v)(a eQ n:Int)(write:Bool):u×u×Bool:=((Av list_ m a eQ n write).1.map Sv,(Av list_ m a eQ n write).1.map e_,(Av list_ m a eQ n write).2)
theorem ngf(g:u→u→Bool→α)(list_:u)(m:v)(b eQ n:Int)(write:Bool)(ac7:Q v.ct m.enc)(E:IJ .i (.int eQ)):∃N,ntW lf g N list_ m b eQ n write=g (oz list_ m b eQ n write).1 (oz list_ m b eQ n write).2.1 (oz list_ m b eQ n write).2.2:=by
 have y:IJ (.sl sK) (.sl m.a):=v.PG ac7;have F:=Ti E;refine⟨n.toNat+2, ?_⟩;unfold ntW VP oz Av;refine U6 (K:=λr:u×Bool=>g (r.1.map Sv) (r.1.map e_) r.2) (λ_=>rfl) (λh=>?_);have j:mC list_=true:=by
  cases j:mC list_
  ·rw[j] at h;cases h
  ·rfl
 have p:Km m=true:=by
  cases p:Km m
  ·rw[j,p] at h;cases h
  ·rfl
 have A:0≤n∧n≤4096:=by
  cases k:D n 0 4096
  ·rw[j,p,k] at h;cases h
  ·exact YF.1 k
 obtain⟨G,adG⟩:=ir y p;have key:∀(q c:Nat) (a n:Int) (o:u),n<q→q≤c→0≤n→n≤4096→a≤9223372036854775807→o.length+n.toNat≤5000→∀M,ai lf g M list_ b write m.a c a n (o.map Sv) (o.map e_)=
   (λr:u×Bool=>g (r.1.map Sv) (r.1.map e_) r.2) (cond (cond (a<0) (decide (0<n)) false) ([],false) (XI list_ b write m.a q a n o)):=by
  intro q
  induction q with
  | zero=>intro c a n o I aeB L;omega
  | succ q O=>
   intro c a n o I aeB L af_ h7 h6 M;obtain⟨c,rfl⟩:=DF c;rw[nz9];by_cases acb:0<n
   ·by_cases B:a<0
    ·simp only[wm,Hd acb,Hd B,ja (show ¬0≤a by omega),H,J,show decide ((-1:Int)<0)=true from rfl];rfl
    ·obtain⟨R,r2,r3,S⟩:=N9 (show 0≤a by omega) acb af_;have tm:=tK (x:=a) (m:=128) (by omega) (by omega);have T:∀(l:u) (x:List DC),l.length≤5000→Em 8 l [x]=true:=λl x hl=>W6 (by simp only[I_,lq];omega) (by omega);have e:=nsH (d:=b) (w:=write) j (show 0≤a by omega);have U:(cond (gx list_ b (s (ly a 128)) write<0) true (!(within m (s (gx list_ b (s (ly a 128)) write*128)) 128)))=
       (cond (place list_ b a write<0) true (!(within m (place list_ b a write) (DB n (s (128 - lp a 128)))))):=by
      rw[e];rcases pg0 j b (s (ly a 128)) write with abp | ⟨abp,V⟩
      ·rw[abp];rfl
      ·generalize gx list_ b (s (ly a 128)) write=P at abp V ⊢;rw[ja (show ¬P<0 by omega),J,J,fg (n:=P*128),fg (n:=P*128+lp a 128),
        ja (show ¬P*128+lp a 128<0 by omega),J]
       rw[show within m (P*128+lp a 128) (DB n (s (128 - lp a 128)))=within m (P*128) 128 from nku G adG abp tm.1 R (by omega)]
     have t:∀f:List DC→List DC,(o.map f).length≤5000:=λf=>by rw[oG];omega
     unfold XI;simp only[wm,Hd acb,ja B,Hd (show 0≤a by omega),H,J,T _ _ (t _),Oi];have z:(⟨m.a⟩:v)=m:=rfl;rw[z,U];refine U6 (K:=λr:u×Bool=>g (r.1.map Sv) (r.1.map e_) r.2) (λ_=>rfl) (λk=>?_);have W:place list_ b a write=s (s (gx list_ b (s (ly a 128)) write*128)+lp a 128):=by
      rw[e];cases X:decide (gx list_ b (s (ly a 128)) write<0)
      ·rfl
      ·rw[e,X] at k;cases k
     rw[←W,S];have Y:o.map Sv++[[DC.int (place list_ b a write)]]=(o++[[DC.int (place list_ b a write),DC.int (DB n (s (128 - lp a 128)))]]).map Sv:=by rw[List.map_append];rfl
     have Z:o.map e_++[[DC.int (DB n (s (128 - lp a 128)))]]=(o++[[DC.int (place list_ b a write),DC.int (DB n (s (128 - lp a 128)))]]).map e_:=by rw[List.map_append];rfl
     rw[Y,Z];exact O c _ _ _ (by omega) (by omega) (by omega) (by omega) (G_ _) (by simp only[fK,I_,lq];omega) M
   ·have hz:(cond (a<0) (decide (0<n)) false)=false:=by rw[ja acb];cases decide (a<0)<;>rfl
    rw[hz];unfold XI;simp only[wm,ja acb,J]
 refine (key (n.toNat+1) (n.toNat+2) eQ n [] (by omega) (by omega) A.1 A.2 F.2 (by simp only[lq];omega) _).trans ?_
 congr 1
 by_cases C:n=0
 ·subst C;cases decide (eQ<0)<;>rfl
 ·rw[show (n==0)=false by simpa using C,J,Hd (show 0<n by omega)];cases decide (eQ<0)<;>rfl
def UF(l:u)(a n:Nat):x:=((Gi (q l (a / 128)) 0).drop (a % 128)).take (min n (128 - a % 128))
def ny:Nat→Nat→Nat→u→x
 | 0,_,_,_=>[]
 | m+1,a,n,l=>cond (0<n) (UF l a n++ny m (a+min n (128 - a % 128)) (n - min n (128 - a % 128)) l) []
def pD(m:v)(eQ n:Int):x×Bool:=cond (!(within m eQ n)) ([],false) (ny n.toNat eQ.toNat n.toNat m.a,true)
theorem Oc{l:u}(b:fP l){a n:Nat}(h:a / 128<l.length):(UF l a n).length=min n (128 - a % 128):=by obtain⟨p,c,d⟩:=b (a / 128) h;unfold UF;rw[c,gf,mq,mg,d];omega
theorem ngo:∀(q a n:Nat) (l:u),n≤q→fP l→a+n≤128*l.length→(ny q a n l).length=n
 | 0,a,n,l,h1,_,_=>by simp only[ny,lq];omega
 | q+1,a,n,l,h1,hp,h2=>by
  unfold ny;by_cases b:0<n
  ·rw[Hd b,H,fK,Oc hp (by omega),ngo q _ _ l (by omega) hp (by omega)];omega
  ·rw[ja b,J];simp only[lq];omega
theorem Om{m:v}{a n:Int}(b:IJ (.sl sK) (.sl m.a)):(pD m a n).1.length≤8192∧(pD m a n).1.length≤n.toNat:=by
 unfold pD;cases h:within m a n
 ·exact⟨mn _,mn _⟩
 ·obtain⟨c,d,e,f,g⟩:=gJ b h;simp only[l_,J];rw[ngo _ _ _ _ (oo _) c (by omega)];omega
def OY(f:x→Bool→α)(n:Int)(d:u)(g:Int→u→α)(a:Int)(b:u):α:=let e:Int:=DB 128 (s ((s ((lp a 128)+n)) - (len b)));let c:x:=Q3 (Gi (q d (lk (s (ly a 128)))) 0) (lp a 128) e;cond (len b<n) (cond (t true (A (s (ly a 128)) d)) (cond (t true (GK (Gi (q d (lk (s (ly a 128)))) 0) (lp a 128) e)) (cond (t true (decide ((mG b+mG c)*1≤140737488355328) && decide (mG b+mG c≤9223372036854775807))) (g (s (a+(len c))) (b++(ofStr c))) lf) lf) lf) (f (toStr b) true)
def uA(a:x→Bool→α)(N:Nat)(n:Int)(b:u)(c:Nat):Int→u→α:=bW (λ_ _=>lf) (OY lf a n b) c
theorem fsA(a:x→Bool→α)(N:Nat)(n:Int)(b:u)(c:Nat):uA lf a N n b (c+1)=OY lf a n b (uA lf a N n b c):=rfl
def nox(a:x→Bool→α)(b:u→Int→u→α)(m:v)(eQ n:Int):α:=cond (!(within m eQ n)) (a [] false) (cond (t true (kZ 1 0 n)) (b m.a eQ (ma 0 ([.int 0]:List DC))) lf)
def neh(a:x→Bool→α)(N:Nat)(m:v)(eQ n:Int):α:=nox lf a (λb=>uA lf a N n b N) m eQ n
theorem nfG(e:x→Bool→α)(m:v)(eQ n:Int)(l:Q v.ct m.enc):∃N,neh lf e N m eQ n=e (pD m eQ n).1 (pD m eQ n).2:=by
 have f:IJ (.sl sK) (.sl m.a):=v.PG l;refine⟨n.toNat+1, ?_⟩;unfold neh nox pD;cases X:within m eQ n
 ·rfl
 ·obtain⟨h,W,t,u,I⟩:=gJ f X;obtain⟨a,rfl⟩:=m_ u;obtain⟨n,rfl⟩:=m_ t;have g:kZ 1 0 (n:Int)=true:=by simp only[kZ,Bl,js,eR];omega
  simp only[l_,J,g,Oi,H,eR];have key:∀(q b a r:Nat) (o:x),r≤q→q<b→o.length+r=n→a+r≤128*m.a.length→∀M,uA lf e M (n:Int) m.a b (a:Int) (ofStr o)=e (o++ny q a r m.a) true:=by
   intro q
   induction q with
   | zero=>
    intro b a r o Z w Y y M;obtain⟨b,rfl⟩:=DF b;rw[fsA];have d:decide (len (ofStr o)<(n:Int))=false:=ja (by simp only[len,D1];omega);simp only[OY,d,J,ny,pa,SW]
   | succ q z=>
    intro b a r o Z w Y y M;obtain⟨b,rfl⟩:=DF b;rw[fsA];by_cases i:0<r
    ·have d:decide (len (ofStr o)<(n:Int))=true:=Hd (by simp only[len,D1];omega);have c:a / 128<m.a.length:=by omega
     obtain⟨p,j,V⟩:=h (a / 128) c;have A:s (((a / 128:Nat):Int))=((a / 128:Nat):Int):=fg;have B:DB 128 (s (s (((a % 128:Nat):Int)+(n:Int)) - len (ofStr o)))=((a % 128+min r (128 - a % 128):Nat):Int):=by rw[fg (n:=((a % 128:Nat):Int)+(n:Int))];simp only[len,D1];rw[fg];simp only[DB];split<;>omega
     have C:Q3 p ((a % 128:Nat):Int) ((a % 128+min r (128 - a % 128):Nat):Int)=UF m.a a r:=by
      unfold Q3 UF;rw[j,gf,eR,eR,List.drop_take]
      congr 1
      omega
     have D:GK p ((a % 128:Nat):Int) ((a % 128+min r (128 - a % 128):Nat):Int)=true:=by simp only[GK,Bl,js];omega
     have k:=Oc h (n:=r) c;have E:(decide (((ofStr o).length+(UF m.a a r).length)*1≤140737488355328) && decide ((ofStr o).length+(UF m.a a r).length≤9223372036854775807))=true:=by simp only[D1,Bl,js];omega
     have F:s ((a:Int)+len (UF m.a a r))=((a+min r (128 - a % 128):Nat):Int):=by simp only[len,k];rw[fg];omega
     have G:ofStr o++ofStr (UF m.a a r)=ofStr (o++UF m.a a r):=by simp[ofStr]
     have this:=z b (a+min r (128 - a % 128)) (r - min r (128 - a % 128)) (o++UF m.a a r) (by omega) (by omega) (by rw[fK,k];omega) (by omega) M;unfold ny;rw[Hd i,H,←m9];simp only[OY,d,WG,lS,A,mZ c,eR,j,gf,B,C,D,E,F,G,Oi,H];exact this
    ·have d:decide (len (ofStr o)<(n:Int))=false:=ja (by simp only[len,D1];omega);unfold ny;simp only[OY,d,ja i,J,pa,SW]
  exact key n (n+1) a n [] (oo _) (by omega) (by simp) (by omega) _
def wJ(e:x→Bool→α)(Z:Int)(f b:u)(g:x→Int→α)(c:x)(a:Int):α:=let d:x:=(pD (⟨f⟩:v) (r (q b (lk a)) 0) (r (q b (lk a)) 1)).1;cond (a<Z) (cond (t (t true (A a b)) (inl (lk a) b)) (cond (t true (EI c d)) (g (c++d) (s (a+1))) lf) lf) (e c true)
def Xm(a:x→Bool→α)(N:Nat)(Z:Int)(b c:u)(d:Nat):x→Int→α:=bW (λ_ _=>lf) (wJ lf a Z b c) d
theorem nhp(a:x→Bool→α)(N:Nat)(Z:Int)(b c:u)(d:Nat):Xm lf a N Z b c (d+1)=wJ lf a Z b c (Xm lf a N Z b c d):=rfl
def Nv(lf:α)(c:x→Bool→α)(d:Int→u→u→x→Int→α)(list_:u)(m:v)(a eQ n:Int):α:=let b:u×Bool:=Av list_ m a eQ n false;cond (!b.2) (c [] false) (d (len b.1) m.a b.1 [] 0)
def nxU(b:x→Bool→α)(N:Nat)(list_:u)(m:v)(a eQ n:Int):α:=Nv lf b (λZ c d=>Xm lf b N Z c d N) list_ m a eQ n
def nqI(m:v)(R:u):x:=R.foldl (λo Z=>o++(pD m (r Z 0) (r Z 1)).1) []
def Eo(list_:u)(m:v)(a eQ n:Int):x×Bool:=cond (!(Av list_ m a eQ n false).2) ([],false) (nqI m (Av list_ m a eQ n false).1,true)
theorem nii{σ:Type}(g:σ→List DC→σ):∀(l p:u) (s:σ),kM (λi s=>g s (q (p++l) i)) l.length p.length s=l.foldl g s:=pw g
theorem nau{m:v}(b:IJ (.sl sK) (.sl m.a)){Q:Nat→Prop} :∀(R:u) (n:Nat) (o:x),oq Q R n→(R.foldl (λo Z=>o++(pD m (r Z 0) (r Z 1)).1) o).length≤o.length+n
 | [],n,o,_=>Nat.le_add_right _ _
 | Z::rs,n,o,h=>by obtain⟨p,k,rfl,f,g,_,_,d⟩:=h;have c:=nau b rs (n - k) (o++(pD m (p:Int) (k:Int)).1) d;have e:=(Om (m:=m) (a:=(p:Int)) (n:=(k:Int)) b).2;rw[fK] at c;rw[pr];rw[eR] at e;exact Nat.le_trans c (by omega)
theorem w5{list_:u}{m:v}{eo eQ n:Int}(a:IJ (.sl sK) (.sl m.a)):(Eo list_ m eo eQ n).1.length≤n.toNat∧(Eo list_ m eo eQ n).1.length≤4096:=by
 unfold Eo;cases b:(Av list_ m eo eQ n false).2
 ·exact⟨mn _,mn _⟩
 ·obtain⟨_,_,c,d⟩:=niS a b;have:=nau a _ _ [] c;simp only[l_,J];unfold nqI;simp only[lq] at this;omega
theorem nkR(c:x→Bool→α)(list_:u)(m:v)(b eQ n:Int)(h:Q v.ct m.enc):∃N,nxU lf c N list_ m b eQ n=c (Eo list_ m b eQ n).1 (Eo list_ m b eQ n).2:=by
 have d:IJ (.sl sK) (.sl m.a):=v.PG h;refine⟨(Av list_ m b eQ n false).1.length+1, ?_⟩;unfold nxU Nv Eo;dsimp only;cases j:(Av list_ m b eQ n false).2
 ·rfl
 ·obtain⟨Z,X,k⟩:=nAO d j;simp only[l_,J];generalize (Av list_ m b eQ n false).1=R at k ⊢;have f:(⟨m.a⟩:v)=m:=rfl;refine (je R.length (λn i o=>Xm lf c (R.length+1) (len R) m.a R n o i) (λi o=>o++(pD m (r (q R i) 0) (r (q R i) 1)).1) (λo=>c o true) (λi o=>o.length≤8192*i) ?_ ?_ ?_ (R.length+1) [] (by simp) (by omega)).trans ?_
  ·intro i o e g;have:=(Om (a:=r (q R i) 0) (n:=r (q R i) 1) d).1;rw[fK];omega
  ·intro n i o e g;show Xm lf c (R.length+1) (len R) m.a R (n+1) o (i:Int)=_;rw[nhp];have t:=(Om (a:=r (q R i) 0) (n:=r (q R i) 1) d).1;have l:EI o (pD m (r (q R i) 0) (r (q R i) 1)).1=true:=O4 (by omega);have p:s ((i:Int)+1)=(i:Int)+1:=fg;simp only[wJ,sg e,mZ e,R7 e,eR,f,l,p,Oi,H]
  ·intro n o g;show Xm lf c (R.length+1) (len R) m.a R (n+1) o (R.length:Int)=_;rw[nhp];simp only[wJ,Ns,J]
  ·exact congrArg (λo=>c o true) (nii (λ(o:x) (Y:List DC)=>o++(pD m (r Y 0) (r Y 1)).1) R [] [])
def nDo(a:v→α)(m:v):α:=cond (t true (Em 16 [] m.a)) (a m) lf
theorem nfX(a:v→α)(m:v)(b:WO m=true):nDo lf a m=a (F m):=by have c:WO m=true:=b;unfold nDo;rw[Y2 (show Pw m.a=true from c) (show 16≤8388608 by omega)];rfl
def TU(i:v→Bool→α)(j:Int→x→u→α)(a:Int)(b:x)(c:u):α:=let f:Bool:=A (s (ly a 128)) c;let g:Bool:=inl (lk (s (ly a 128))) c;let d:Int:=DB (len b) (s (128 - (lp a 128)));let e:List DC:=q c (lk (s (ly a 128)));let h:x:=C1 b d;cond (0<len b) (cond (t (t (t (t (t (t true f) g) (az b d)) (eZ (Gi e 0) (lp a 128) h)) f) g) (cond (t true (nz b d)) (j (s (a+d)) (bZ b d) (m7 c (lk (s (ly a 128))) (Sk e 0 [.str (B9 (Gi e 0) (lp a 128) h)]))) lf) lf) (i (⟨c⟩:v) true)
def zR(a:v→Bool→α)(N b:Nat):Int→x→u→α:=bW (λ_ _ _=>lf) (TU lf a) b
theorem ney(a:v→Bool→α)(N b:Nat):zR lf a N (b+1)=TU lf a (zR lf a N b):=rfl
def XF(a:v→Bool→α)(b:Int→x→u→α)(m:v)(eQ:Int)(s:x):α:=cond (t true (WO m)) (cond (!(within m eQ (len s))) (a (F m) false) (b eQ s ((F m).a))) lf
def nfU(a:v→Bool→α)(N:Nat)(m:v)(eQ:Int)(s:x):α:=XF lf a (zR lf a N N) m eQ s
theorem nEB(c:v→Bool→α)(m:v)(eQ:Int)(W:x)(k:Q v.ct m.enc)(o:l6 m eQ W=true):∃N,nfU lf c N m eQ W=c (jc m eQ W).1 (jc m eQ W).2:=by
 have e:IJ (.sl sK) (.sl m.a):=v.PG k;have r:WO m=true:=o;refine⟨W.length+1, ?_⟩;unfold nfU XF jc;rw[show F m=m from rfl];simp only[r,Oi,H];cases f:within m eQ (len W)
 ·rfl
 ·obtain⟨t,Z,S,Y,w⟩:=gJ e f;obtain⟨a,rfl⟩:=m_ Y;simp only[l_,J,eR];have key:∀(q n a:Nat) (W:x) (l:u),W.length≤q→q<n→fP l→l.length≤64→a+W.length≤128*l.length→∀M,zR lf c M n (a:Int) W l=c (⟨jY q a W l⟩:v) true:=by
   intro q
   induction q with
   | zero=>
    intro n a W l X y g h z M;obtain⟨n,rfl⟩:=DF n;have:W=[]:=n_.1 (by omega);subst this;rw[ney];simp only[TU,show decide (0<len ([]:x))=false by decide,J,jY]
   | succ q A=>
    intro n a W l X y g h z M;obtain⟨n,rfl⟩:=DF n;rw[ney];by_cases B:0<W.length
    ·have C:decide (0<len W)=true:=Hd (by simp only[len];omega);have b:a / 128<l.length:=by omega
     obtain⟨p,i,R⟩:=g (a / 128) b;have D:s (((a / 128:Nat):Int))=((a / 128:Nat):Int):=fg;have E:DB (len W) (s (128 - ((a % 128:Nat):Int)))=((min W.length (128 - a % 128):Nat):Int):=by
      rw[fg];unfold DB len;by_cases j:128 - ((a % 128:Nat):Int)<(W.length:Int)
      ·rw[if_pos j];omega
      ·rw[if_neg j];omega
     have V:s ((a:Int)+((min W.length (128 - a % 128):Nat):Int))=((a+min W.length (128 - a % 128):Nat):Int):=by rw[fg];omega
     have G:az W ((min W.length (128 - a % 128):Nat):Int)=true:=by simp only[az,Bl,js];omega
     have U:nz W ((min W.length (128 - a % 128):Nat):Int)=true:=by simp only[nz,Bl,js];omega
     have I:bZ W ((min W.length (128 - a % 128):Nat):Int)=W.drop (min W.length (128 - a % 128)):=by simp[bZ]
     have T:C1 W ((min W.length (128 - a % 128):Nat):Int)=W.take (min W.length (128 - a % 128)):=by simp[C1]
     have K:eZ p ((a % 128:Nat):Int) (W.take (min W.length (128 - a % 128)))=true:=by simp only[eZ,Bl,js,mq];omega
     have L:W.take (min W.length (128 - a % 128))=W.take (128 - a % 128):=by
      rcases Nat.le_total W.length (128 - a % 128) with d | d
      ·rw[Nat.min_eq_left d,p0,List.take_of_length_le d]
      ·rw[Nat.min_eq_right d]
     have O:B9 p ((a % 128:Nat):Int) (W.take (min W.length (128 - a % 128)))=EO p (a % 128) W:=by
      have f:YK p ((a % 128:Nat):Int) (len (W.take (min W.length (128 - a % 128))))=true:=(within_iff (by omega)).2 (by simp only[len,mq];omega);unfold B9 EO;rw[f,l_,J,eR,m9,mq,L]
      congr 3
      omega
     have st:=nvh (a:=a) (s:=W) g b;have this:=A n (a+min W.length (128 - a % 128)) (W.drop (min W.length (128 - a % 128))) (e8 l a W) (by rw[mg];omega) (by omega) st.1 (by rw[st.2];exact h) (by rw[st.2,mg];omega) M;have P:e8 l a W=l.set (a / 128) [.str (EO p (a % 128) W)]:=by unfold e8;rw[i];rfl
     unfold jY;rw[Hd B,H];rw[P] at this ⊢;simp only[TU,C,WG,lS,D,mZ b,R7 b,eR,i,gf,E,V,G,U,I,T,K,O,Z1,Oi,cz,H];exact this
    ·have:W=[]:=n_.1 (by omega);subst this;simp only[TU,show decide (0<len ([]:x))=false by decide,J];rfl
  exact key W.length (W.length+1) a W m.a (oo _) (by omega) t Z (by simp only[len] at w;omega) _
def iG(f:v→Bool→α)(a b:u)(g:x→Int→u→α)(c:x)(k:Int)(d:u):α:=let e:x:=C1 c (r (q b (lk k)) 0);cond (k<len a) (cond (t (t (t (t (t (t true (A k a)) (inl (lk k) a)) (A k b)) (inl (lk k) b)) (az c (r (q b (lk k)) 0))) (l6 (⟨d⟩:v) (r (q a (lk k)) 0) e)) (cond (t (t (t true (A k b)) (inl (lk k) b)) (nz c (r (q b (lk k)) 0))) (g (bZ c (r (q b (lk k)) 0)) (s (k+1)) (((jc (⟨d⟩:v) (r (q a (lk k)) 0) e).1).a)) lf) lf) (f (⟨d⟩:v) true)
def Fp(b:v→Bool→α)(N:Nat)(a c:u)(d:Nat):x→Int→u→α:=bW (λ_ _ _=>lf) (iG lf b a c) d
theorem nwH(b:v→Bool→α)(N:Nat)(a c:u)(d:Nat):Fp lf b N a c (d+1)=iG lf b a c (Fp lf b N a c d):=rfl
def ndY(c:v→Bool→α)(d:u→u→x→Int→u→α)(list_:u)(m:v)(a eQ:Int)(s:x):α:=let b:u×u×Bool:=oz list_ m a eQ (len s) true;cond (t true (WO m)) (cond (!b.2.2) (c (F m) false) (d b.1 b.2.1 s 0 ((F m).a))) lf
def nvN(c:v→Bool→α)(N:Nat)(list_:u)(m:v)(a eQ:Int)(s:x):α:=ndY lf c (λb d=>Fp lf c N b d N) list_ m a eQ s
theorem nDL(e:v→Bool→α)(list_:u)(m:v)(c eQ:Int)(acd:x)(y:Q v.ct m.enc)(z:IJ .str (.str acd))(A:zE list_ m c eQ acd=true):∃N,nvN lf e N list_ m c eQ acd=e (YI list_ m c eQ acd).1 (YI list_ m c eQ acd).2:=by
 have g:IJ (.sl sK) (.sl m.a):=v.PG y;have B:WO m=true:=A;have C:=cj z;refine⟨(Av list_ m c eQ (len acd) true).1.length+1, ?_⟩;unfold nvN ndY YI put oz;rw[show F m=m from rfl];simp only[B,Oi,H];cases D:(Av list_ m c eQ (len acd) true).2
 ·rfl
 ·obtain⟨E,adz,j⟩:=nAO g D;simp only[l_,J];generalize (Av list_ m c eQ (len acd) true).1=R at j ⊢;have key:∀(aa3 n i:Nat) (acd:x) (l:u),i+aa3=R.length→aa3<n→oq (λ_=>True) (R.drop i) acd.length→fP l→l.length≤64→R.length≤5000→
    Fp lf e (R.length+1) (R.map Sv) (R.map e_) n acd (i:Int) l=e (⟨cS (R.drop i) acd l⟩:v) true:=by
   intro aa3
   induction aa3 with
   | zero=>
    intro n i acd l G adH o abq aa_ w;obtain⟨n,rfl⟩:=DF n;rw[nwH,p9 (by omega)];have I:decide ((i:Int)<len (R.map Sv))=false:=ja (by simp only[len,oG];omega);simp only[iG,I,J,cS]
   | succ aa3 aeC=>
    intro n i acd l G adH o abq aa_ w;obtain⟨n,rfl⟩:=DF n;have d:i<R.length:=by omega
    have K:R[i]=q R i:=by simp[q,d]
    rw[nF d,K] at o ⊢;obtain⟨p,k,t,X,Y,Z,_,L⟩:=o;rw[nwH];have M:s ((i:Int)+1)=((i+1:Nat):Int):=by rw[fg];omega
    have O:az acd (k:Int)=true:=by simp only[az,Bl,js];omega
    have P:nz acd (k:Int)=true:=by simp only[nz,Bl,js];omega
    have aga:C1 acd (k:Int)=acd.take k:=by simp[C1]
    have S:bZ acd (k:Int)=acd.drop k:=by simp[bZ]
    have T:∀a b,l6 (⟨l⟩:v) a b=true:=λa b=>by unfold l6 Pw;exact Hd (by show l.length≤16777216;omega)
    have aaS:∀f:List DC→List DC,i<(R.map f).length:=λf=>by rw[oG];exact d
    have U:q (R.map Sv) i=[.int (p:Int)]:=by rw[zx _ d,t];rfl
    have n1:q (R.map e_) i=[.int (k:Int)]:=by rw[zx _ d,t];rfl
    have V:r [DC.int (p:Int),DC.int (k:Int)] 0=(p:Int):=rfl;have W:r [DC.int (p:Int),DC.int (k:Int)] 1=(k:Int):=rfl;have abX:=VW (a:=(p:Int)) (s:=acd.take k) abq aa_;have this:=aeC n (i+1) (acd.drop k) (jc (⟨l⟩:v) (p:Int) (acd.take k)).1.a (by omega) (by omega) (by rw[mg];exact L) abX.1 (by rw[abX.2];exact aa_) w;simp only[iG,sg (aaS _),mZ (aaS _),R7 (aaS _),eR,U,n1,t,V,W,swF,O,P,aga,S,T,M,Oi,cz,H,cS];exact this
  exact key R.length (R.length+1) 0 acd m.a (by omega) (by omega) (by have h:=j.1;rw[show (len acd).toNat=acd.length by simp[len]] at h;exact h) E adz j.2
def nee(c:v→Bool→α)(list_:u)(m:v)(a eQ:Int)(s:x):α:=let b:v×Bool:=put list_ m a eQ s false;cond (t true (Xu list_ m a eQ s false)) (c b.1 b.2) lf
def Oz(list_:u)(m:v)(a eQ:Int)(s:x):Bool:=Pw list_ && Pw m.a
def zJ(list_:u)(m:v)(a eQ:Int)(s:x):v×Bool:=put list_ m a eQ s false
theorem nFa(b:v→Bool→α)(list_:u)(m:v)(a eQ:Int)(s:x)(c:Oz list_ m a eQ s=true):nee lf b list_ m a eQ s=b (zJ list_ m a eQ s).1 (zJ list_ m a eQ s).2:=by
 have d:Pw list_=true∧Pw m.a=true:=by simpa [Oz] using c
 have h:Xu list_ m a eQ s false=true:=d.2;unfold nee zJ;simp only[h,Oi,H]
def f7(Z:List DC):List DC:=[.int (r Z 0),.int (r Z 1),.int (r Z 2),.bool true]
theorem nmF{p q:Nat→Bool}(h:∀j,p j=q j)(m i:Nat):Ot p m i=Ot q m i:=gG m i (λj _ _=>h j)
theorem nlf(l:u)(i:Nat):r (q (l.map f7) i) 0=r (q l i) 0∧r (q (l.map f7) i) 1=r (q l i) 1∧r (q (l.map f7) i) 2=r (q l i) 2:=by
 by_cases h:i<l.length
 ·rw[zx _ h];exact⟨rfl,rfl,rfl⟩
 ·have e:∀k:u,¬i<k.length→q k i=[]:=λk a=>by simp[q,m8,List.getElem?_eq_none (show k.length≤i by omega)]
  rw[e l h,e (l.map f7) (by rw[oG];exact h)];exact⟨rfl,rfl,rfl⟩
theorem nze(l:u):mC (l.map f7)=mC l:=by
 unfold mC;have a:len (l.map f7)=len l:=by simp[len]
 rw[a];have c:∀(b:u) (s:Nat),RP (λi Z=>cond (Vz Z) true (Ot (λj=>cond ((r (q (l.map f7) j) 0)==(r Z 0)) ((r (q (l.map f7) j) 1)==(r Z 1)) false) i 0)) (b.map f7) s=
   RP (λi Z=>cond (Vz Z) true (Ot (λj=>cond ((r (q l j) 0)==(r Z 0)) ((r (q l j) 1)==(r Z 1)) false) i 0)) b s:=by
  intro b
  induction b with
  | nil=>intro s;rfl
  | cons Z rs d=>
   intro s;have e:Ot (λj=>cond ((r (q (l.map f7) j) 0)==(r (f7 Z) 0)) ((r (q (l.map f7) j) 1)==(r (f7 Z) 1)) false) s 0=Ot (λj=>cond ((r (q l j) 0)==(r Z 0)) ((r (q l j) 1)==(r Z 1)) false) s 0:=
    nmF (λj=>by rw[(nlf l j).1,(nlf l j).2.1];rfl) s 0
   simp only[pv,RP];rw[d (s+1),e];rfl
 rw[c l 0]
theorem np7(l:u)(d a:Int):place (l.map f7) d a true=place l d a false:=by
 have c:N3 (l.map f7) d a=N3 l d a:=by
  unfold N3 uW;have e:∀(b:u) (Y:Nat),findIdx (λ_ Z=>cond ((r Z 0)==d) ((r Z 1)==(s (ly a 128))) false) (b.map f7) Y=findIdx (λ_ Z=>cond ((r Z 0)==d) ((r Z 1)==(s (ly a 128))) false) b Y:=by
   intro b
   induction b with
   | nil=>intro Y;rfl
   | cons Z rs f=>
    intro Y;simp only[pv,findIdx];rw[f (Y+1)];rfl
  exact e l 0
 unfold place;rw[c];rcases PA l d a with h | ⟨i,g,j,_⟩
 ·rw[Hd h];rfl
 ·rw[j,eR,(nlf l i).2.2,zx _ g];rfl
theorem ncO(l:u)(d:Int)(b:u):∀(q:Nat) (a n:Int) (o:u),XI (l.map f7) d true b q a n o=XI l d false b q a n o
 | 0,_,_,_=>rfl
 | q+1,a,n,o=>by unfold XI;rw[np7,ncO l d b q]
theorem nws(l:u)(m:v)(d a n:Int):Av (l.map f7) m d a n true=Av l m d a n false:=by unfold Av;rw[nze,ncO]
def hJ(e:v→Bool→α)(list_:u)(b eQ:Int)(Z:x)(c:u)(f:Int→u→α)(k:Int)(a:u):α:=let d:v×Bool:=YI a (⟨c⟩:v) b eQ Z;cond (k<len list_) (cond (t true (A k list_)) (cond (t true (Em 32 a ([[.int (r (q list_ (lk k)) 0),.int (r (q list_ (lk k)) 1),.int (r (q list_ (lk k)) 2),.bool true]]))) (f (s (k+1)) (a++([[.int (r (q list_ (lk k)) 0),.int (r (q list_ (lk k)) 1),.int (r (q list_ (lk k)) 2),.bool true]]))) lf) lf) (cond (t true (zE a (⟨c⟩:v) b eQ Z)) (e d.1 d.2) lf)
def yx(b:v→Bool→α)(N:Nat)(list_:u)(a eQ:Int)(s:x)(c:u)(d:Nat):Int→u→α:=bW (λ_ _=>lf) (hJ lf b list_ a eQ s c) d
theorem ntz(b:v→Bool→α)(N:Nat)(list_:u)(a eQ:Int)(s:x)(c:u)(d:Nat):yx lf b N list_ a eQ s c (d+1)=hJ lf b list_ a eQ s c (yx lf b N list_ a eQ s c d):=rfl
def cC(lf:α)(c:v→Bool→α)(b:u→Int→u→α)(list_:u)(m:v)(a eQ:Int)(s:x):α:=b m.a 0 []
def nco(b:v→Bool→α)(N:Nat)(list_:u)(m:v)(a eQ:Int)(s:x):α:=cC lf b (λc=>yx lf b N list_ a eQ s c N) list_ m a eQ s
theorem nnf(b:v→Bool→α)(list_:u)(m:v)(a eQ:Int)(s:x)(h:IJ (.sl lU) (.sl list_))(j:Oz list_ m a eQ s=true):∃N,nco lf b N list_ m a eQ s=b (zJ list_ m a eQ s).1 (zJ list_ m a eQ s).2:=by
 obtain⟨k,_⟩:=Nh h;have f:Pw list_=true∧Pw m.a=true:=by simpa [Oz] using j
 have Z:=R8 f.1;refine⟨list_.length+1, ?_⟩;unfold nco cC zJ;refine (je list_.length (λn i o=>yx lf b (list_.length+1) list_ a eQ s m.a n i o) (λi o=>o++[f7 (q list_ i)]) (λo=>b (YI o m a eQ s).1 (YI o m a eQ s).2) (λi o=>o.length≤i) ?_ ?_ ?_ (list_.length+1) [] (by simp) (by omega)).trans ?_
 ·intro i o c g;simp only[fK,I_,lq];omega
 ·intro n i o c g;show yx lf b (list_.length+1) list_ a eQ s m.a (n+1) (i:Int) o=_;rw[ntz];have l:∀Y:List DC,Em 32 o [Y]=true:=λY=>W6 (by simp only[I_,lq];omega) (by omega);simp only[hJ,sg c,mZ c,l,jy c k,eR,Oi,cz,H];rfl
 ·intro n o g;show yx lf b (list_.length+1) list_ a eQ s m.a (n+1) (list_.length:Int) o=_;rw[ntz];have p:zE o m a eQ s=true:=f.2;have d:(⟨m.a⟩:v)=m:=rfl;simp only[hJ,Ns,J,d,p,Oi,H]
 ·have e:kM (λi o=>o++[f7 (q list_ i)]) list_.length 0 []=list_.map f7:=((pw (λ(o:u) (r:List DC)=>o++[f7 r]) list_ [] []).trans (neJ f7 list_ [])).trans (by simp);rw[e];unfold YI put;rw[nws]
structure vg where
 a:Ve
 d:Int
 c:x
 b:Bool
def vg.enc(x:vg):List DC:=[.int x.a.c,.int x.a.b,.int x.a.d,.int x.a.f,.int x.a.e,.int x.d,.str x.c,.bool x.b]
def vg.nd(Z:List DC)(o:Nat):vg:=⟨Ve.nd Z (o+0),r Z (o+5),Gi Z (o+6),Dd Z (o+7)⟩
def vg.ct:List CT:=qJ
theorem vg.eta{r:List DC}(h:Q vg.ct r):(vg.nd r 0).enc=r:=(show (vg.nd r 0).enc=Sy vg.ct r 0 from by kernel_rfl).trans (Qz h)
theorem vg.nX{r:List CT}{b:List DC}(h:Q (vg.ct++r) b):∃(x:vg) (c:List DC),b=x.enc++c∧Q vg.ct x.enc∧Q r c:=by obtain⟨d,e,rfl,a,f⟩:=SU h;exact⟨vg.nd d 0,e,by rw[vg.eta a],by rw[vg.eta a];exact a,f⟩
theorem vg.nE1{x:vg}(h:Q vg.ct x.enc):Q Ve.ct x.a.enc:=gj 0 5 h
theorem vg.nCv{x:vg}(h:Q vg.ct x.enc):IJ .i (.int x.d):=VM 5 h rfl rfl
structure V_ where
 d:Int
 a:Int
 b:u
def V_.enc(x:V_):List DC:=[.int x.d,.int x.a,.sl x.b]
def V_.nd(Z:List DC)(o:Nat):V_:=⟨r Z (o+0),r Z (o+1),df Z (o+2)⟩
def V_.ct:List CT:=[.i,.i,.sl K]
theorem V_.eta{r:List DC}(h:Q V_.ct r):(V_.nd r 0).enc=r:=(show (V_.nd r 0).enc=Sy V_.ct r 0 from by kernel_rfl).trans (Qz h)
theorem V_.nX{r:List CT}{b:List DC}(h:Q (V_.ct++r) b):∃(x:V_) (c:List DC),b=x.enc++c∧Q V_.ct x.enc∧Q r c:=by obtain⟨d,e,rfl,a,f⟩:=SU h;exact⟨V_.nd d 0,e,by rw[V_.eta a],by rw[V_.eta a];exact a,f⟩
theorem V_.nyK{x:V_}(h:Q V_.ct x.enc):IJ .i (.int x.d):=VM 0 h rfl rfl
theorem V_.nd9{x:V_}(h:Q V_.ct x.enc):IJ .i (.int x.a):=VM 1 h rfl rfl
structure BZ where
 b:Int
 a:Ve
 d:Int
def BZ.enc(x:BZ):List DC:=[.int x.b,.int x.a.c,.int x.a.b,.int x.a.d,.int x.a.f,.int x.a.e,.int x.d]
def BZ.nd(Z:List DC)(o:Nat):BZ:=⟨r Z (o+0),Ve.nd Z (o+1),r Z (o+6)⟩
def BZ.ct:List CT:=Zi
theorem BZ.eta{r:List DC}(h:Q BZ.ct r):(BZ.nd r 0).enc=r:=(show (BZ.nd r 0).enc=Sy BZ.ct r 0 from by kernel_rfl).trans (Qz h)
theorem BZ.nX{r:List CT}{b:List DC}(h:Q (BZ.ct++r) b):∃(x:BZ) (c:List DC),b=x.enc++c∧Q BZ.ct x.enc∧Q r c:=by obtain⟨d,e,rfl,a,f⟩:=SU h;exact⟨BZ.nd d 0,e,by rw[BZ.eta a],by rw[BZ.eta a];exact a,f⟩
theorem BZ.nE1{x:BZ}(h:Q BZ.ct x.enc):Q Ve.ct x.a.enc:=gj 1 5 h
theorem BZ.nEn{x:BZ}(h:Q BZ.ct x.enc):IJ .i (.int x.d):=VM 6 h rfl rfl
def nCF(a:QD→α)(f:QD):α:=cond (t true (Em 8 [] f.a)) (a f) lf
def PO(f:QD):Bool:=Pw f.a
theorem nbZ(a:QD→α)(f:QD)(b:PO f=true):nCF lf a f=a (F f):=by have c:PO f=true:=b;unfold nCF;rw[Y2 (show Pw f.a=true from c) (show 8≤8388608 by omega)];rfl
def nu_(a:QD→α)(f:QD):α:=cond (t true (Pw f.a)) (a (⟨f.b,f.c,F f.a⟩:QD)) lf
theorem ntm(a:QD→α)(f:QD)(b:PO f=true):nu_ lf a f=a (F f):=by have c:PO f=true:=b;unfold nu_;rw[show Pw f.a=true from c];rfl
def nua(a:mB→α)(Z:mB):α:=cond (t true (Em 56 [] Z.a)) (a Z) lf
def tc(t:mB):Bool:=Pw t.a
theorem no4(a:mB→α)(t:mB)(b:tc t=true):nua lf a t=a (F t):=by have c:tc t=true:=b;unfold nua;rw[Y2 (show Pw t.a=true from c) (show 56≤8388608 by omega)];rfl
def nbY(a:mB→α)(Z:mB):α:=cond (t true (Em 56 [] Z.a)) (a Z) lf
theorem nbi(a:mB→α)(t:mB)(b:tc t=true):nbY lf a t=a (F t):=by have c:tc t=true:=b;unfold nbY;rw[Y2 (show Pw t.a=true from c) (show 56≤8388608 by omega)];rfl
def ng9(a:iI→α)(s:iI):α:=cond (t true (Pw s.a)) (a (⟨s.b,F s.a⟩:iI)) lf
def qF(s:iI):Bool:=Pw s.a
theorem nxO(a:iI→α)(s:iI)(b:qF s=true):ng9 lf a s=a (F s):=by have c:qF s=true:=b;unfold ng9;rw[show Pw s.a=true from c];rfl
def nxz(a:se→α)(s:se):α:=cond (t (t (t true (Em 72 [] s.c)) (tc s.a)) (Em 8 [] s.b.a)) (a (⟨s.c,F s.a,s.b⟩:se)) lf
def bu(s:se):Bool:=Pw s.c && (Pw s.a.a && Pw s.b.a)
theorem nyu(a:se→α)(s:se)(c:bu s=true):nxz lf a s=a (F s):=by have b:bu s=true:=c;unfold nxz;simp only[bu,Bl] at b;obtain⟨d,e,f⟩:=b;rw[Y2 d (show 72≤8388608 by omega),Y2 f (show 8≤8388608 by omega),show tc s.a=true from e];rfl
def nEV(a:se→α)(s:se):α:=cond (t (t (t true (Em 72 [] s.c)) (tc s.a)) (qF s.b)) (a (⟨s.c,F s.a,F s.b⟩:se)) lf
theorem ncI(a:se→α)(s:se)(c:bu s=true):nEV lf a s=a (F s):=by have b:bu s=true:=c;unfold nEV;simp only[bu,Bl] at b;obtain⟨d,e,f⟩:=b;rw[Y2 d (show 72≤8388608 by omega),show tc s.a=true from e,show qF s.b=true from f];rfl
def nAa(a:u→α)(list_:u):α:=cond (t true (Em 32 [] list_)) (a list_) lf
theorem nxw(a:u→α)(list_:u)(b:Pw list_=true):nAa lf a list_=a (F list_):=by have c:Pw list_=true:=b;unfold nAa;rw[Y2 (show Pw list_=true from c) (show 32≤8388608 by omega)];rfl
def nE5(a:u→α)(list_:u):α:=cond (t true (Em 72 [] list_)) (a list_) lf
theorem niU(a:u→α)(list_:u)(b:Pw list_=true):nE5 lf a list_=a (F list_):=by have c:Pw list_=true:=b;unfold nE5;rw[Y2 (show Pw list_=true from c) (show 72≤8388608 by omega)];rfl
def TA(c:u→α)(list_:u)(d:Int)(e:Int→u→α)(a:Int)(b:u):α:=cond (a<d) (cond (t true (A a list_)) (cond (t (t true (Pw (df (q list_ (lk a)) 2))) (Em 40 b ([[.int (r (q list_ (lk a)) 0),.int (r (q list_ (lk a)) 1),.sl (F (df (q list_ (lk a)) 2))]]))) (e (s (a+1)) (b++([[.int (r (q list_ (lk a)) 0),.int (r (q list_ (lk a)) 1),.sl (F (df (q list_ (lk a)) 2))]]))) lf) lf) (c b)
def Sx(a:u→α)(N:Nat)(list_:u)(b:Int)(c:Nat):Int→u→α:=bW (λ_ _=>lf) (TA lf a list_ b) c
theorem np_(a:u→α)(N:Nat)(list_:u)(b:Int)(c:Nat):Sx lf a N list_ b (c+1)=TA lf a list_ b (Sx lf a N list_ b c):=rfl
def zk(lf:α)(b:u→α)(a:Int→Int→u→α)(list_:u):α:=a (len list_) 0 []
def nhB(a:u→α)(N:Nat)(list_:u):α:=zk lf a (λb=>Sx lf a N list_ b N) list_
theorem nuh(a:u→α)(list_:u)(f:IJ (.sl [.i,.i,.sl K]) (.sl list_))(g:NI list_=true):∃N,nhB lf a N list_=a (F list_):=by
 obtain⟨h,j⟩:=Nh f;have c:=g;simp only[NI,Bl,pf] at c;obtain⟨k,l⟩:=c;have Z:=R8 k;refine⟨list_.length+1, ?_⟩;unfold nhB zk;refine (je list_.length (λn i o=>Sx lf a (list_.length+1) list_ (len list_) n i o) (λi o=>o++[q list_ i]) a (λi o=>o.length≤i) ?_ ?_ ?_ (list_.length+1) [] (by simp) (by omega)).trans ?_
 ·intro i o b d;simp only[fK,I_,lq];omega
 ·intro n i o b d;show Sx lf a (list_.length+1) list_ (len list_) (n+1) (i:Int) o=_;rw[np_];have m:[DC.int (r (q list_ i) 0),DC.int (r (q list_ i) 1),DC.sl (df (q list_ i) 2)]=q list_ i:=V_.eta (j _ (nU b));have e:Pw (df (q list_ i) 2)=true:=l _ (nU b);have s:Em 8 [] (df (q list_ i) 2)=true:=Y2 e (show 8≤8388608 by omega);have p:∀x:List DC,Em 40 o [x]=true:=λx=>W6 (by simp only[I_,lq];omega) (by omega);simp only[TA,F,sg b,mZ b,e,p,m,jy b h,eR,Oi,cz,H]
 ·intro n o d;show Sx lf a (list_.length+1) list_ (len list_) (n+1) (list_.length:Int) o=_;rw[np_];simp only[TA,Ns,J]
 ·exact congrArg a ((pw (λ(o:u) (Y:List DC)=>o++[Y]) list_ [] []).trans ((foldl_push (λY=>Y) list_ []).trans (by simp[F])))
def yK(q:Co):Bool:=Pw q.a.d && NI q.c
def nBH(a:Co→α)(q:Co):α:=cond (t (t true (aU q.a)) (NI q.c)) (a (⟨q.b,F q.a,F q.c,q.d⟩:Co)) lf
theorem nAL(a:Co→α)(q:Co)(c:yK q=true):nBH lf a q=a (F q):=by have b:=c;simp only[yK,Bl] at b;obtain⟨d,e⟩:=b;unfold nBH;rw[show aU q.a=true from d,e];rfl
def rp(m:z→α)(W:u)(n:Int)(c d:u)(e:Int)(f:Bool)(g o p:u)(Y:x)(r h i j k:u)(V U Z X w y T S:Int)(B:Bool)(C D E R Q:Int)(H P J K L:u)(M:Int→u→α)(a:Int)(b:u):α:=let l:se:=(⟨o,(⟨p⟩:mB),(⟨Y,r⟩:iI)⟩:se);cond (a<n) (cond (t true (A a W)) (cond (t (t true (aU (G.nd (q W (lk a)) 0))) (Em 48 b [G.enc (F (G.nd (q W (lk a)) 0))])) (M (s (a+1)) (b++[G.enc (F (G.nd (q W (lk a)) 0))])) lf) lf) (cond (t true (Em 40 [] c)) (cond (t true (Em 1 [] d)) (cond (t true (PO (⟨e,f,g⟩:QD))) (cond (t true (bu l)) (cond (t true (Pw h)) (cond (t true (Pw i)) (cond (t true (Pw j)) (cond (t true (Pw k)) (m (⟨(⟨H⟩:v),P,(⟨(⟨V,U,Z,X⟩:I),(⟨w,y,T,J⟩:G),K,S⟩:Co),L,b,c,d,F (⟨e,f,g⟩:QD),F l,F h,B,F i,F j,F k,(⟨C,D,E,R,Q⟩:Pa)⟩:z)) lf) lf) lf) lf) lf) lf) lf) lf)
def Z_(a:z→α)(N:Nat)(Y:u)(b:Int)(c d:u)(e:Int)(f:Bool)(g h i:u)(j:x)(k l m n o:u)(p q r s t Z v w:Int)(y:Bool)(X A B C D:Int)(E F G H I:u)(J:Nat):Int→u→α:=bW (λ_ _=>lf) (rp lf a Y b c d e f g h i j k l m n o p q r s t Z v w y X A B C D E F G H I) J
theorem njN(a:z→α)(N:Nat)(Y:u)(b:Int)(c d:u)(e:Int)(f:Bool)(g h i:u)(j:x)(k l m n o:u)(p q r s t Z v w:Int)(y:Bool)(X A B C D:Int)(E F G H I:u)(J:Nat):Z_ lf a N Y b c d e f g h i j k l m n o p q r s t Z v w y X A B C D E F G H I (J+1)=rp lf a Y b c d e f g h i j k l m n o p q r s t Z v w y X A B C D E F G H I (Z_ lf a N Y b c d e f g h i j k l m n o p q r s t Z v w y X A B C D E F G H I J):=rfl
def sU(b:z→α)(a:u→Int→u→u→Int→Bool→u→u→u→x→u→u→u→u→u→Int→Int→Int→Int→Int→Int→Int→Int→Bool→Int→Int→Int→Int→Int→u→u→u→u→u→Int→u→α)(h:z):α:=cond (t true (WO h.h)) (cond (t true (Pw h.j)) (cond (t true (yK h.a)) (cond (t true (Em 248 [] h.b)) (a h.e (len h.e) h.g h.i h.f.b h.f.c h.f.a h.d.c h.d.a.a h.d.b.b h.d.b.a h.k h.l h.n h.o (((F h.a).b).b) (((F h.a).b).a) (((F h.a).b).d) (((F h.a).b).c) (((F h.a).a).b) (((F h.a).a).a) (((F h.a).a).c) ((F h.a).d) h.m h.c.a h.c.b h.c.e h.c.c h.c.d ((F h.h).a) (F h.j) (((F h.a).a).d) ((F h.a).c) h.b 0 []) lf) lf) lf) lf
def nyi(a:z→α)(N:Nat)(h:z):α:=sU lf a (λx b c d e f g i j k l m n o p q r s t u v w y Z A B C D E F G H I J=>Z_ lf a N x b c d e f g i j k l m n o p q r s t u v w y Z A B C D E F G H I J N) h
theorem nA0(m:z→α)(h:z)(T:Q z.ct h.enc)(aN:mD h=true):∃N,nyi lf m N h=m (F h):=by
 obtain⟨hl,hw⟩:=Nh (z.npk T);have Ir:mD h=true:=aN;simp only[mD,Bl] at Ir;obtain⟨s0,s1,s2,s3,s4,s5,s6,s7,s8,s9,U,V,W,X,Y,Z⟩:=Ir;simp only[Ek,Bl,pf] at s5;obtain⟨t1,t2⟩:=s5;have l1:=R8 t1;have m2:yK h.a=true:=by simp only[yK,s2,s3,p5]
 have r4:Em 248 [] h.b=true:=Y2 s4 (by omega);refine⟨h.e.length+1, ?_⟩;unfold nyi sU;rw[show WO h.h=true from s0];simp only[m2,r4,s1,Oi,H];have key:∀(a:u) (b:u) (p:Int) (aa4:Bool) (c:u) (d:u) (e:u) (s:x) (f:u) (g:u) (j:u) (k:u) (l:u) (t:Int) (aaT:Int) (abr:Int) (w:Int) (y:Int) (acE:Int) (A:Int) (B:Int) (C:Bool) (D:Int) (E:Int) (adA:Int) (aef:Int) (adI:Int) (aeq:u) (aeD:u) (K:u) (L:u) (M:u),Pw a=true→Pw b=true→Pw c=true→Pw d=true→Pw e=true→Pw f=true→Pw g=true→Pw j=true→Pw k=true→Pw l=true→
   Z_ lf m (h.e.length+1) h.e (len h.e) a b p aa4 c d e s f g j k l t aaT abr w y acE A B C D E adA aef adI aeq aeD K L M (h.e.length+1) 0 []=m (⟨(⟨aeq⟩:v),aeD,(⟨(⟨t,aaT,abr,w⟩:I),(⟨y,acE,A,K⟩:G),L,B⟩:Co),M,h.e,a,b,(⟨p,aa4,c⟩:QD),(⟨d,(⟨e⟩:mB),(⟨s,f⟩:iI)⟩:se),g,C,j,k,l,(⟨D,E,adA,aef,adI⟩:Pa)⟩:z):=by
  intro a b p aa4 c d e s f g j k l t aaT abr w y acE A B C D E adA aef adI aeq aeD K L M q6 q7 q8 q9 q10 q11 P agb R S;have u6:Em 40 [] a=true:=Y2 q6 (by omega);have u7:Em 1 [] b=true:=Y2 q7 (by omega);have u8:PO (⟨p,aa4,c⟩:QD)=true:=q8;have u9:bu (⟨d,(⟨e⟩:mB),(⟨s,f⟩:iI)⟩:se)=true:=by simp only[bu,q9,q10,q11,p5]
  have u12:Em 72 [] g=true:=Y2 P (by omega);have u13:Em 16 [] j=true:=Y2 agb (by omega);have u14:Em 8 [] k=true:=Y2 R (by omega);have u15:Em 8 [] l=true:=Y2 S (by omega);refine (je h.e.length (λn i o=>Z_ lf m (h.e.length+1) h.e (len h.e) a b p aa4 c d e s f g j k l t aaT abr w y acE A B C D E adA aef adI aeq aeD K L M n i o) (λi o=>o++[q h.e i]) (λo=>m (⟨(⟨aeq⟩:v),aeD,(⟨(⟨t,aaT,abr,w⟩:I),(⟨y,acE,A,K⟩:G),L,B⟩:Co),M,o,a,b,(⟨p,aa4,c⟩:QD),(⟨d,(⟨e⟩:mB),(⟨s,f⟩:iI)⟩:se),g,C,j,k,l,(⟨D,E,adA,aef,adI⟩:Pa)⟩:z)) (λi o=>o.length≤i) ?_ ?_ ?_ (h.e.length+1) [] (by simp) (by omega)).trans ?_
  ·intro i o O ho;simp only[fK,I_,lq];omega
  ·intro n i o O ho;show Z_ lf m (h.e.length+1) h.e (len h.e) a b p aa4 c d e s f g j k l t aaT abr w y acE A B C D E adA aef adI aeq aeD K L M (n+1) (i:Int) o=_;rw[njN];have er:G.enc (G.nd (q h.e i) 0)=q h.e i:=G.eta (hw _ (nU O));have hb:aU (G.nd (q h.e i) 0)=true:=t2 _ (nU O);have fq:∀abY:List DC,Em 48 o [abY]=true:=λabY=>W6 (by simp only[I_,lq];omega) (by omega);simp only[rp,F,sg O,mZ O,hb,fq,er,jy O hl,eR,Oi,cz,H]
  ·intro n o ho;show Z_ lf m (h.e.length+1) h.e (len h.e) a b p aa4 c d e s f g j k l t aaT abr w y acE A B C D E adA aef adI aeq aeD K L M (n+1) (h.e.length:Int) o=_;rw[njN];simp only[rp,Ns,J,F,u6,u7,u8,u9,u12,u13,u14,u15,P,agb,R,S,Oi,H]
  ·exact congrArg (λo=>m (⟨(⟨aeq⟩:v),aeD,(⟨(⟨t,aaT,abr,w⟩:I),(⟨y,acE,A,K⟩:G),L,B⟩:Co),M,o,a,b,(⟨p,aa4,c⟩:QD),(⟨d,(⟨e⟩:mB),(⟨s,f⟩:iI)⟩:se),g,C,j,k,l,(⟨D,E,adA,aef,adI⟩:Pa)⟩:z)) ((pw (λ(o:u) (r:List DC)=>o++[r]) h.e [] []).trans ((foldl_push (λr=>r) h.e []).trans (by simp)))
 exact key _ _ _ _ _ _ _ _ _ _ _ _ _ _ _ _ _ _ _ _ _ _ _ _ _ _ _ _ _ _ _ _ s6 s7 s8 s9 U V W X Y Z
def mo(a:Ue→α)(v:Ue):α:=cond (cond (due v) (!v.a) false) (a (⟨v.e,v.d,v.c,v.b,v.a,true⟩:Ue)) (a v)
def zY(v:Ue):Ue:=mo id v
theorem nsb(a:Ue→α)(v:Ue):mo a v=a (zY v):=by exact Ha rfl rfl
def NJ(a:Ue→α)(v:Ue):α:=cond (!(iv v)) (a v) (cond (0<v.c) (a (zY (⟨v.e,v.d,v.c,DB (s (v.b+1)) 1000000,v.a,v.f⟩:Ue))) (a (zY v)))
def Rb(v:Ue):Ue:=NJ id v
theorem nCG(a:Ue→α)(v:Ue):NJ a v=a (Rb v):=by exact Ha rfl (Ha rfl rfl)
def wH(r:List DC):List DC:=Ue.enc (Rb (Ue.nd r 0))
def fY(h:z):Bool:=mD h && Aa h
def Xa(h:z):z:=cond (zp h) ({h with g:=h.g.map wH}) h
def rn(c:z→α)(W d e f g h i j k l:Int)(m:Bool)(n:x)(o:Bool)(p Y r V U:Int)(Z X w y T S B C D E F R H Q J:u)(K:Int→u→α)(a:Int)(b:u):α:=cond (a<W) (cond (t (t (t (t true (A a b)) (inl (lk a) b)) (A a b)) (inl (lk a) b)) (K (s (a+1)) (m7 b (lk a) (Sk (q b (lk a)) 0 (Ue.enc (Rb (Ue.nd (q b (lk a)) 0)))))) lf) (c (⟨(⟨Z⟩:v),X,(⟨(⟨d,e,f,g⟩:I),(⟨h,i,j,w⟩:G),y,k⟩:Co),T,S,b,B,(⟨l,m,C⟩:QD),(⟨D,(⟨E⟩:mB),(⟨n,F⟩:iI)⟩:se),R,o,H,Q,J,(⟨p,Y,r,V,U⟩:Pa)⟩:z))
def jF(a:z→α)(N:Nat)(Y b c d e f g h i j:Int)(k:Bool)(l:x)(m:Bool)(n o p q r:Int)(s t Z v w y X A B C D E F G H:u)(I:Nat):Int→u→α:=bW (λ_ _=>lf) (rn lf a Y b c d e f g h i j k l m n o p q r s t Z v w y X A B C D E F G H) I
theorem na5(a:z→α)(N:Nat)(Y b c d e f g h i j:Int)(k:Bool)(l:x)(m:Bool)(n o p q r:Int)(s t Z v w y X A B C D E F G H:u)(I:Nat):jF lf a N Y b c d e f g h i j k l m n o p q r s t Z v w y X A B C D E F G H (I+1)=rn lf a Y b c d e f g h i j k l m n o p q r s t Z v w y X A B C D E F G H (jF lf a N Y b c d e f g h i j k l m n o p q r s t Z v w y X A B C D E F G H I):=rfl
def St(a:z→α)(b:Int→Int→Int→Int→Int→Int→Int→Int→Int→Int→Bool→x→Bool→Int→Int→Int→Int→Int→u→u→u→u→u→u→u→u→u→u→u→u→u→u→u→Int→u→α)(h:z):α:=cond (t true (mD h)) (cond (t true (Aa h)) (cond (!(zp h)) (a (F h)) (b (len ((F h).g)) ((((F h).a).b).b) ((((F h).a).b).a) ((((F h).a).b).d) ((((F h).a).b).c) ((((F h).a).a).b) ((((F h).a).a).a) ((((F h).a).a).c) (((F h).a).d) (((F h).f).b) (((F h).f).c) ((((F h).d).b).b) ((F h).m) (((F h).c).a) (((F h).c).b) (((F h).c).e) (((F h).c).c) (((F h).c).d) (((F h).h).a) ((F h).j) ((((F h).a).a).d) (((F h).a).c) ((F h).b) ((F h).e) ((F h).i) (((F h).f).a) (((F h).d).c) ((((F h).d).a).a) ((((F h).d).b).a) ((F h).k) ((F h).l) ((F h).n) ((F h).o) 0 ((F h).g))) lf) lf
def nfF(a:z→α)(N:Nat)(h:z):α:=St lf a (λx b c d e f g i j k l m n o p q r s t u v w y Z A B C D E F G H I=>jF lf a N x b c d e f g i j k l m n o p q r s t u v w y Z A B C D E F G H I N) h
theorem ntZ(a:z→α)(h:z)(d:Q z.ct h.enc)(j:fY h=true):∃N,nfF lf a N h=a (Xa h):=by
 obtain⟨k,l⟩:=Nh (z.nni d);have f:(mD h && Aa h)=true:=j;simp only[Bl] at f;obtain⟨s,b⟩:=f;have b':Aa (⟨(⟨h.h.a⟩:v),h.j,(⟨(⟨h.a.b.b,h.a.b.a,h.a.b.d,h.a.b.c⟩:I),(⟨h.a.a.b,h.a.a.a,h.a.a.c,h.a.a.d⟩:G),h.a.c,h.a.d⟩:Co),h.b,h.e,h.g,h.i,(⟨h.f.b,h.f.c,h.f.a⟩:QD),(⟨h.d.c,(⟨h.d.a.a⟩:mB),(⟨h.d.b.b,h.d.b.a⟩:iI)⟩:se),h.k,h.m,h.l,h.n,h.o,(⟨h.c.a,h.c.b,h.c.e,h.c.c,h.c.d⟩:Pa)⟩:z)=true:=b;refine⟨h.g.length+1, ?_⟩;unfold nfF St Xa;simp only[s,b,F,Oi,H];cases g:zp h
 ·rfl
 ·have m:zp (⟨(⟨h.h.a⟩:v),h.j,(⟨(⟨h.a.b.b,h.a.b.a,h.a.b.d,h.a.b.c⟩:I),(⟨h.a.a.b,h.a.a.a,h.a.a.c,h.a.a.d⟩:G),h.a.c,h.a.d⟩:Co),h.b,h.e,h.g,h.i,(⟨h.f.b,h.f.c,h.f.a⟩:QD),(⟨h.d.c,(⟨h.d.a.a⟩:mB),(⟨h.d.b.b,h.d.b.a⟩:iI)⟩:se),h.k,h.m,h.l,h.n,h.o,(⟨h.c.a,h.c.b,h.c.e,h.c.c,h.c.d⟩:Pa)⟩:z)=true:=g;refine yE h.g (λn i o=>jF lf a (h.g.length+1) (len h.g) h.a.b.b h.a.b.a h.a.b.d h.a.b.c h.a.a.b h.a.a.a h.a.a.c h.a.d h.f.b h.f.c h.d.b.b h.m h.c.a h.c.b h.c.e h.c.c h.c.d h.h.a h.j h.a.a.d h.a.c h.b h.e h.i h.f.a h.d.c h.d.a.a h.d.b.a h.k h.l h.n h.o n i o) (λo=>a {h with g:=o}) wH ?_ ?_
  ·intro n i o c p Z;show jF lf a (h.g.length+1) (len h.g) h.a.b.b h.a.b.a h.a.b.d h.a.b.c h.a.a.b h.a.a.a h.a.a.c h.a.d h.f.b h.f.c h.d.b.b h.m h.c.a h.c.b h.c.e h.c.c h.c.d h.h.a h.j h.a.a.d h.a.c h.b h.e h.i h.f.a h.d.c h.d.a.a h.d.b.a h.k h.l h.n h.o (n+1) (i:Int) o=_;rw[na5];have e:=congrArg mG (Ue.eta (l _ (nU c)));have r:Sk (q h.g i) 0 (Ue.enc (Rb (Ue.nd (q h.g i) 0)))=Ue.enc (Rb (Ue.nd (q h.g i) 0)):=Fx (e.symm.trans rfl);have t:A (i:Int) o=true:=mZ (by omega);have u:inl i o=true:=R7 (by omega);simp only[rn,sg c,mZ c,t,u,Z,r,b,b',g,m,jy c k,eR,Oi,cz,vb,H,wH]
  ·intro n o p;show jF lf a (h.g.length+1) (len h.g) h.a.b.b h.a.b.a h.a.b.d h.a.b.c h.a.a.b h.a.a.a h.a.a.c h.a.d h.f.b h.f.c h.d.b.b h.m h.c.a h.c.b h.c.e h.c.c h.c.d h.h.a h.j h.a.a.d h.a.c h.b h.e h.i h.f.a h.d.c h.d.a.a h.d.b.a h.k h.l h.n h.o (n+1) (h.g.length:Int) o=_;rw[na5];simp only[rn,Ns,b,b',Oi,vb,H,J]
end
end Go.Proofs.YteffpikahopfoaaGreat.Pl
