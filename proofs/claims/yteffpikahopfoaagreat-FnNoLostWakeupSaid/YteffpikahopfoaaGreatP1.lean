/- Conditions: as each says. -/
import Derived.Test.YteffpikahopfoaaGreatP0
set_option linter.unusedVariables false
set_option linter.unusedSimpArgs false
set_option maxRecDepth 100000
open Int renaming toNat→qC,tmod→q5,tdiv→tk,emod_nonneg→t0,emod_lt_of_pos→t_,tmod_eq_emod_of_nonneg→uL,sub_emod→uM,le_refl→uN,fdiv_eq_ediv_of_nonneg→uT
open List renaming set→q0,length_nil→q4,length_take→r8,length_drop→sI,getD_eq_getElem?_getD→tj,length→tl,length_set→tr,all_eq_true→tt,drop_zero→tS,append_assoc→t5,drop_length→t6,take_length→ub,drop_of_length_le→uc,mem_append→uJ,mem_singleton→uK,drop_eq_getElem_cons→uU,take_of_length_le→uX,getElem?_set_ne→uY,getElem?_take_of_lt→uZ,getElem?_eq_none→u0
open Bool renaming not_true→ra,not_false→ua,and_self→uI
open Nat renaming le_trans→r0,zero_le→so,le_refl→sS,le_add_right→t3,min_eq_left→uC
open Go.IntKind renaming wrap→sL
namespace Go.Proofs.YteffpikahopfoaaGreat.Pl
open Vm
noncomputable section
variable {α:Type} (lf:α)
structure Zz where
 c:Int
 b:Int
 e:Int
 f:Int
 a:Int
 d:Int
def Zz.enc(x:Zz):List DC:=[.int x.c,.int x.b,.int x.e,.int x.f,.int x.a,.int x.d]
def Zz.nd(Z:List DC)(o:Nat):Zz:=⟨r Z (o+0),r Z (o+1),r Z (o+2),r Z (o+3),r Z (o+4),r Z (o+5)⟩
def Zz.ct:List CT:=d_
theorem Zz.eta{r:List DC}(h:Q Zz.ct r):(Zz.nd r 0).enc=r:=(show (Zz.nd r 0).enc=Sy Zz.ct r 0 from by kernel_rfl).trans (Qz h)
theorem Zz.nX{r:List CT}{b:List DC}(h:Q (Zz.ct++r) b):∃(x:Zz) (c:List DC),b=x.enc++c∧Q Zz.ct x.enc∧Q r c:=by obtain⟨d,e,rfl,a,f⟩:=SU h;exact⟨Zz.nd d 0,e,by rw[Zz.eta a],by rw[Zz.eta a];exact a,f⟩
theorem Zz.nEm{x:Zz}(h:Q Zz.ct x.enc):IJ .i (.int x.b):=VM 1 h rfl rfl
theorem Zz.nFW{x:Zz}(h:Q Zz.ct x.enc):IJ .i (.int x.e):=VM 2 h rfl rfl
theorem Zz.nkd{x:Zz}(h:Q Zz.ct x.enc):IJ .i (.int x.a):=VM 4 h rfl rfl
theorem Zz.nyK{x:Zz}(h:Q Zz.ct x.enc):IJ .i (.int x.d):=VM 5 h rfl rfl
def nia(a:Int→α)(Z:x)(eQ:Int):α:=cond (cond (eQ<0) true (decide (s ((len Z) - 2)<eQ))) (a (-1)) (cond (t (t true (A eQ Z)) (A (s (eQ+1)) Z)) (a (bits .or .i64 (PJ .i64 (s (A2 Z eQ)) 8) (s (A2 Z (s (eQ+1)))))) lf)
theorem nD9(e:Int→α)(Z:x)(eQ:Int)(i:IJ .str (.str Z)):nia lf e Z eQ=e (CW Z eQ):=by
 have f:=cj i;have k:0≤len Z:=by simp[len]
 have m:len Z≤9223372036854775807:=by simp only[len];omega
 unfold nia CW;have b:(cond (eQ<0) true (decide (s (len Z - 2)<eQ)))= !(YK Z eQ 2):=by
  have c:=within_iff (s:=Z) (eQ:=eQ) (n:=2) f;rw[fg (n:=len Z - 2)];cases a:YK Z eQ 2
  ·by_cases g:eQ<0
   ·simp[g]
   ·by_cases d:len Z - 2<eQ
    ·simp[g,d]
    ·rw[c.2 (by omega)] at a;cases a
  ·have:=c.1 a;simp[show ¬eQ<0 by omega,show ¬len Z - 2<eQ by omega]
 rw[b];cases a:YK Z eQ 2
 ·rfl
 ·have o:=(within_iff f).1 a;have l:s (eQ+1)=eQ+1:=fg;have h:∀j:Int,0≤j→j<len Z→A j Z=true:=by intro j c d;simp only[len] at d;simp only[A,Bl,js];omega
  have p:=Te Z eQ;have c0:=UE Z eQ;have q:=Te Z (eQ+1);have r:=UE Z (eQ+1);simp only[l,h eQ (by omega) (by omega),h (eQ+1) (by omega) (by omega),Oi,H,J,ra];rw[fg (n:=A2 Z eQ),fg (n:=A2 Z (eQ+1)),CP,fg (n:=A2 Z eQ*256),eL 8 (y:=A2 Z (eQ+1)) (by omega) (by omega) (by omega) (by omega) (by omega) (by omega)]
def mV(s:x):Int:=cond ((CW s 12)==33024) 18 14
theorem Gk(s:x):mV s=14∨mV s=18:=by unfold mV;cases (CW s 12)==33024<;>simp
theorem nwX{e:xW}(h:zA e=true):0≤e.d∧e.d≤281474976710655∧0≤e.b∧e.b≤281474976710655∧46≤e.a.length:=by
 unfold zA RQ at h;cases c:D e.d 0 281474976710655
 ·rw[c] at h;cases h
 cases d:D e.b 0 281474976710655
 ·rw[c,d] at h;cases h
 have a:=YF.1 c;have b:=YF.1 d;cases f:D (len e.a) 46 400
 ·rw[f] at h;revert h;cases D e.d 0 281474976710655<;>cases D e.b 0 281474976710655<;>cases D e.e (-1) 4095<;>cases D e.c 1536 65535<;>cases e.c != 33024<;>simp
 ·have:=YF.1 f;simp only[len] at this;omega
def nBa(e:Int→Int→α)(a:x):α:=let b:Int:=cond ((CW a 12)==33024) 18 14;let c:Int:=s (b+9);let d:Bool:=decide (c<len a);cond (pk d (t true (A c a)) true) (e (s (b+10)) (s ((s (b+20))+(OP (cond d (s (A2 a c)) 0))))) lf
def U0(s:x):Int×Int:=(mV s+10,mV s+20+OP (cond (mV s+9<len s) (A2 s (mV s+9)) 0))
theorem nwk(e:Int→Int→α)(a:x)(b:IJ .str (.str a)):nBa lf e a=e (U0 a).1 (U0 a).2:=by
 have l:=cj b;have f:0≤len a:=by simp[len]
 have m:len a≤9223372036854775807:=by simp only[len];omega
 have n:=Gk a;have o:=Te a (mV a+9);have c0:=UE a (mV a+9);unfold nBa;rw[show (cond ((CW a 12)==33024) (18:Int) 14)=mV a from rfl];dsimp only;have g:s (mV a+9)=mV a+9:=fg;have c:s (mV a+10)=mV a+10:=fg;have i:s (A2 a (mV a+9))=A2 a (mV a+9):=fg;have j:mV a+9<len a→A (mV a+9) a=true:=by intro h;simp only[len] at h;simp only[A,Bl,js];omega
 have d:s (mV a+20)=mV a+20:=fg;have k:∀v:Int,s (mV a+20+OP v)=mV a+20+OP v:=by
  intro v;rw[U2];cases v==6
  ·exact fg (by simp only[J];omega) (by simp only[J];omega)
  ·exact fg (by simp only[H];omega) (by simp only[H];omega)
 rw[g,c,i,d,k];exact rR (Wi (λh=>by rw[j (of_decide_eq_true h)];rfl) (λ_=>rfl)) rfl
def ndK(a:x→Bool→α)(p:N):α:=let b:x:=B9 ((O3 p).1) ((U0 ((O3 p).1)).1) (Zt 0);cond (!((O3 p).2)) (a [] false) (cond (t (t true (eZ ((O3 p).1) ((U0 ((O3 p).1)).1) (Zt 0))) (eZ b ((U0 ((O3 p).1)).2) (Zt 0))) (a (B9 b ((U0 ((O3 p).1)).2) (Zt 0)) true) lf)
theorem ne9{a b:x}{j:Nat} :A2 (a++b) ((a.length+j:Nat):Int)=A2 b (j:Int):=by simp only[A2,eR,tj];rw[List.getElem?_append_right (by omega),Nat.add_sub_cancel_left]
theorem npH{a:Int}(d:0≤a)(e:a≤281474976710655):(DT a).length=6:=by
 have b:I4 .i64 a 32=a / 4294967296:=by unfold I4;rw[show min (qC 32) IntKind.i64.bits=32 by rfl,show (2 ^ 32:Int)=4294967296 by rfl];exact uT a (by omega)
 have c:bits .and .i64 a 4294967295=a % 4294967296:=Ov 32 (by decide) a;unfold DT;rw[b,c,fK,ngg (by omega) (by omega),pF0 (by omega) (by omega)]
theorem nzo{p:N}(h:(O3 p).2=true):mV (O3 p).1+46≤len (O3 p).1:=by
 unfold O3 at h ⊢;cases i:Tp p
 ·rw[i] at h;cases h
 rw[i] at h;simp only[ra,J] at h ⊢;unfold jn at h ⊢;cases d:zA (DZ p)
 ·rw[d] at h;cases h
 simp only[ra,J];obtain⟨o,q,r,s,A⟩:=nwX d;have k:=npH o q;have l:=npH r s;have c:(DZ p).c=2048:=rfl;have e:Zt 2048=[8,0]:=by unfold Zt VY;rfl
 have f:(DT (DZ p).d++DT (DZ p).b).length=12:=by rw[fK,k,l]
 by_cases m:0≤(DZ p).e
 ·have t:=Gk (bY (DZ p)++Zt (DZ p).c++(DZ p).a);have u:(Zt 33024).length=2:=ngg (by omega) (by omega);have v:(DZ p).e≤4095:=by
   unfold zA RQ at d;cases n:D (DZ p).e (-1) 4095
   ·rw[n] at d;revert d;cases D (DZ p).d 0 281474976710655<;>cases D (DZ p).b 0 281474976710655<;>simp
   ·exact (YF.1 n).2
  have g:(bY (DZ p)).length=16:=by unfold bY;rw[Hd m,H,fK,f,fK,u,ngg (by omega) (by omega)]
  simp only[len,fK,g,c,e,I_,q4];simp only[c,e] at t;omega
 ·have g:bY (DZ p)=DT (DZ p).d++DT (DZ p).b:=by unfold bY;rw[ja m,J]
  rw[g,c,e];have w:CW (DT (DZ p).d++DT (DZ p).b++[8,0]++(DZ p).a) 12≠33024:=by
   unfold CW;have x:A2 (DT (DZ p).d++DT (DZ p).b++[8,0]++(DZ p).a) 12=8:=by have:=ne9 (a:=DT (DZ p).d++DT (DZ p).b) (b:=[8,0]++(DZ p).a) (j:=0);rw[f,←t5] at this;exact this
   have y:A2 (DT (DZ p).d++DT (DZ p).b++[8,0]++(DZ p).a) (12+1)=0:=by have:=ne9 (a:=DT (DZ p).d++DT (DZ p).b) (b:=[8,0]++(DZ p).a) (j:=1);rw[f,←t5] at this;exact this
   rw[x,y];cases !(YK (DT (DZ p).d++DT (DZ p).b++[8,0]++(DZ p).a) 12 2)<;>simp
  have z:((CW (DT (DZ p).d++DT (DZ p).b++[8,0]++(DZ p).a) 12)==33024)=false:=by simpa using w
  unfold mV;rw[z,J];simp only[len,fK,k,l,I_,q4];omega
def e7(p:N):x×Bool:=cond (!(O3 p).2) ([],false) (B9 (B9 (O3 p).1 (U0 (O3 p).1).1 (Zt 0)) (U0 (O3 p).1).2 (Zt 0),true)
theorem nld(p:N):(e7 p).1.length≤420:=by
 have a:=Pf p;unfold e7;cases (O3 p).2
 ·exact so _
 ·simp only[ra,J];rw[aW (by rw[aW (by omega)];omega),aW (by omega)];exact a
theorem nrK(c:x→Bool→α)(p:N):ndK lf c p=c (e7 p).1 (e7 p).2:=by
 have f:=Pf p;have g:=P3 0;unfold ndK e7;refine U6 (K:=λr:x×Bool=>c r.1 r.2) (λ_=>rfl) (λh=>?_);have d:∀a,eZ (O3 p).1 a (Zt 0)=true:=λa=>by simp only[eZ,Bl,js];omega
 have e:∀a b,eZ (B9 (O3 p).1 a (Zt 0)) b (Zt 0)=true:=λa b=>by simp only[eZ,Bl,js];rw[aW (by omega)];omega
 simp only[d,e,Oi,H]
theorem Xz{r:I}(h:Vd r=true):SI r.a=true∧TG r=(r.c - r.d) % (2*r.a)∧TG r≤r.a∧0≤r.d∧r.d<2*r.a∧0≤r.c∧r.c<2*r.a∧2≤r.a∧r.a≤16:=by
 have g:=OD h;unfold Vd i7 at h;simp only[id] at h;rw[fg (n:=2*r.a),fg (n:=2*r.a - 1)] at h;cases c:SI r.a
 ·rw[c] at h;revert h;cases D r.b 0 130944<;>simp
 cases d:D r.d 0 (2*r.a - 1)
 ·rw[c,d] at h;revert h;cases D r.b 0 130944<;>simp
 cases e:D r.c 0 (2*r.a - 1)
 ·rw[c,d,e] at h;revert h;cases D r.b 0 130944<;>simp
 rw[c,d,e] at h;have f:TG r≤r.a:=by revert h;cases D r.b 0 130944<;>simp
 have a:=YF.1 d;have b:=YF.1 e;refine⟨rfl, ?_,f, ?_⟩
 ·unfold TG;rw[c];rfl
 ·omega
theorem ngc{r:I}(h:Vd r=true){a:Int}(d:0≤a)(i:a<2*r.a)(e:(r.c - a) % (2*r.a)≤r.a):
  Vd ⟨r.b,r.a,a,r.c⟩=true∧TG ⟨r.b,r.a,a,r.c⟩=(r.c - a) % (2*r.a):=by
 obtain⟨b,j,k,l,m,f,o,p,q⟩:=Xz h;have c:TG ⟨r.b,r.a,a,r.c⟩=(r.c - a) % (2*r.a):=by unfold TG;rw[b];rfl
 refine⟨?_,c⟩;have g:D r.b 0 130944=true:=by unfold Vd i7 at h;revert h;cases D r.b 0 130944<;>simp
 unfold Vd i7;simp only[id];rw[c];rw[fg (n:=2*r.a),fg (n:=2*r.a - 1)];rw[g,b,show D a 0 (2*r.a - 1)=true from YF.2 ⟨d,by omega⟩,show D r.c 0 (2*r.a - 1)=true from YF.2 ⟨f,by omega⟩];exact Hd e
def Sr(a:Int→α)(r:I):α:=cond (!(Vd r)) (a 0) (a (s (r.a - (TG r))))
def Ry(r:I):Int:=Sr id r
theorem nEP(a:Int→α)(r:I):Sr a r=a (Ry r):=by exact Ha rfl rfl
def Hn(a:Int→α)(p:G)(k:Int):α:=cond (cond (!(PM p)) true (!(D k 0 (s (p.c - 1))))) (a (-1)) (a (s (p.b+(s (k*p.a)))))
def Q6(p:G)(k:Int):Int:=Hn id p k
theorem no3(a:Int→α)(p:G)(k:Int):Hn a p k=a (Q6 p k):=by exact Ha rfl rfl
def pq(a:Bool→α)(x:Zz):α:=a (cond (D x.c 0 3) (cond (D x.b 0 3) (cond (D x.e 0 65535) (cond (D x.a 0 65535) (cond (D x.d 0 65535) (D x.f 0 4294967295) false) false) false) false) false)
def GC(x:Zz):Bool:=pq id x
theorem nwa(a:Bool→α)(x:Zz):pq a x=a (GC x):=by rfl
def WZ(b:Int→α)(x:u)(c:Int)(d:Int→Int→α)(n a:Int):α:=cond (a<c) (cond (t true (A a x)) (d (s (n+(r (q x (qC a)) 1))) (s (a+1))) lf) (b n)
def ZE(a:Int→α)(N:Nat)(x:u)(b:Int)(c:Nat):Int→Int→α:=bW (λ_ _=>lf) (WZ lf a x b) c
theorem nq_(a:Int→α)(N:Nat)(x:u)(b:Int)(c:Nat):ZE lf a N x b (c+1)=WZ lf a x b (ZE lf a N x b c):=rfl
def nzl(lf:α)(b:Int→α)(a:u→Int→Int→Int→α)(q:Co):α:=a q.c (len q.c) 0 0
def nkF(a:Int→α)(N:Nat)(q:Co):α:=nzl lf a (λx b=>ZE lf a N x b N) q
def da(Z:Co):Int:=kM (λi o=>s (o+r (q Z.c i) 1)) Z.c.length 0 0
theorem nmh(a:Int→α)(Z:Co)(b:Q Co.ct Z.enc):∃N,nkF lf a N Z=a (da Z):=by
 obtain⟨d,e⟩:=Nh (Co.nxa b);refine⟨Z.c.length+1, ?_⟩;unfold nkF nzl;refine (je Z.c.length (λn i o=>ZE lf a (Z.c.length+1) Z.c (len Z.c) n o i) (λi o=>s (o+r (q Z.c i) 1)) a (λ_ _=>True) ?_ ?_ ?_ (Z.c.length+1) 0 trivial (by omega)).trans rfl
 ·intros;trivial
 ·intro n i o c _;show ZE lf a (Z.c.length+1) Z.c (len Z.c) (n+1) o (i:Int)=_;rw[nq_];simp only[WZ,sg c,mZ c,jy c d,eR,Oi,H]
 ·intro n o _;show ZE lf a (Z.c.length+1) Z.c (len Z.c) (n+1) o (Z.c.length:Int)=_;rw[nq_];simp only[WZ,Ns,J]
def di(b:Bool→α)(list_ x:u)(c:Int)(d:Int→α)(a:Int):α:=cond (a<c) (cond (t true (A a x)) (cond (cond (r (q x (qC a)) 0<0) true (!(D (r (q x (qC a)) 1) 0 4096))) (b false) (d (s (a+1)))) lf) (b (decide (len list_≤16)))
def WT(a:Bool→α)(N:Nat)(list_ x:u)(b:Int)(c:Nat):Int→α:=bW (λ_=>lf) (di lf a list_ x b) c
theorem nk6(a:Bool→α)(N:Nat)(list_ x:u)(b:Int)(c:Nat):WT lf a N list_ x b (c+1)=di lf a list_ x b (WT lf a N list_ x b c):=rfl
def Ra(lf:α)(b:Bool→α)(a:u→Int→Int→α)(list_:u):α:=a list_ (len list_) 0
def nae(a:Bool→α)(N:Nat)(list_:u):α:=Ra lf a (λx b=>WT lf a N list_ x b N) list_
def HT(list_:u):Bool:=cond (RP (λ_ Z=>cond (r Z 0<0) true (!(D (r Z 1) 0 4096))) list_ 0) false (decide (len list_≤16))
theorem nCV{l:u}(h:HT l=true):l.length≤16:=by
 unfold HT at h;revert h;cases RP (λ_ Z=>cond (r Z 0<0) true (!(D (r Z 1) 0 4096))) l 0
 ·intro h;have:=of_decide_eq_true h;simp only[len] at this;omega
 ·intro h;cases h
theorem ncQ(a:Bool→α)(list_:u)(b:IJ (.sl o9) (.sl list_)):∃N,nae lf a N list_=a (HT list_):=by
 obtain⟨d,_⟩:=Nh b;refine⟨list_.length+1, ?_⟩;unfold nae Ra;refine (x9 list_ (WT lf a (list_.length+1) list_ list_ (len list_)) (λi Z c=>cond (cond (r Z 0<0) true (!(D (r Z 1) 0 4096))) (a false) c) (a (decide (len list_≤16))) ?_ ?_).trans ?_
 ·intro n i h;rw[nk6];simp only[di,sg h,mZ h,jy h d,eR,Oi,cz,H,vb]
 ·intro n;rw[nk6];simp only[di,Ns,J,vb]
 ·refine (Sz (λ_ Z=>cond (r Z 0<0) true (!(D (r Z 1) 0 4096))) (a false) (a (decide (len list_≤16))) list_ 0).trans ?_;exact Ha rfl rfl
def nlm(b:Int→α)(r:I)(a:Int):α:=cond (cond (!(Vd r)) true (decide (a<0))) (b (-1)) (cond (t true (!(r.a==0))) (b (s (r.b+(s ((q5 a r.a)*16))))) lf)
def lO(r:I)(a:Int):Int:=cond (cond (!(Vd r)) true (decide (a<0))) (-1) (s (r.b+s (q5 a r.a*16)))
theorem neA(b:Int→α)(r:I)(a:Int):nlm lf b r a=b (lO r a):=by
 unfold nlm lO;refine U6 (λ_=>rfl) (λc=>?_);have d:Vd r=true:=by revert c;cases Vd r<;>simp
 have f:=OD d;have e:(!(r.a==0))=true:=by simp;omega
 simp only[e,Oi,H]
def nlU(b:Int→α)(r:I)(a:Int):α:=cond (cond (!(Vd r)) true (decide (a<0))) (b (-1)) (cond (t true (!(r.a==0))) (b (s (r.b+(s (16*(q5 a r.a)))))) lf)
theorem rpP(b:Int→α)(r:I)(a:Int):nlU lf b r a=b (lO r a):=by
 unfold nlU lO;refine U6 (λ_=>rfl) (λc=>?_);have d:Vd r=true:=by revert c;cases Vd r<;>simp
 have f:=OD d;have e:(!(r.a==0))=true:=by simp;omega
 simp only[e,Oi,H,Int.mul_comm 16]
def nwC(a:G→u→Bool→α)(p:G)(n:Int):α:=cond (t true (aU p)) (cond (cond (!(PM p)) true (!(D n 0 (len p.d)))) (a (F p) [] false) (cond (t (t true (nz p.d n)) (Pw (bZ p.d n))) (cond (t (t true (az p.d n)) (Pw (C1 p.d n))) (a (⟨(F p).b,(F p).a,(F p).c,F (bZ p.d n)⟩:G) (F (C1 p.d n)) true) lf) lf)) lf
def ud(p:G)(n:Int):Bool:=aU p
def pN(p:G)(n:Int):G×u×Bool:=cond (cond (!(PM p)) true (!(D n 0 (len p.d)))) (p,[],false) (⟨p.b,p.a,p.c,bZ p.d n⟩,C1 p.d n,true)
theorem nxH(a:G→u→Bool→α)(p:G)(n:Int)(c:ud p n=true):nwC lf a p n=a (pN p n).1 (pN p n).2.1 (pN p n).2.2:=by
 have b:aU p=true:=c;have d:Pw p.d=true:=b;have l:=R8 d;unfold nwC pN;rw[b];refine Qo rfl |>.trans ?_;refine U6 (K:=λr:G×u×Bool=>a r.1 r.2.1 r.2.2) (λ_=>rfl) (λe=>?_);have f:D n 0 (len p.d)=true:=by revert e;cases PM p<;>simp
 have g:=YF.1 f;simp only[len] at g;have h:az p.d n=true:=by simp only[az,Bl,js];omega
 have i:nz p.d n=true:=by simp only[nz,Bl,js];omega
 have m:(C1 p.d n).length≤p.d.length:=by simp only[C1,sI,r8];omega
 have o:(bZ p.d n).length≤p.d.length:=by simp only[bZ,sI,r8];omega
 have j:Pw (C1 p.d n)=true:=Hd (by omega);have k:Pw (bZ p.d n)=true:=Hd (by omega);simp only[h,i,j,k,Oi,H,F]
def nz3(a:x→α)(Z:Zz):α:=let b:x:=(toStr ([[.int (sL .u8 Z.c)],[.int (sL .u8 Z.b)]]))++(Zt Z.e);let c:x:=b++(jo Z.f);let d:x:=c++(Zt Z.a);let e:x:=d++(Zt Z.d);cond (!(GC Z)) (a []) (cond (t (t (t (t (t true (EI (toStr ([[.int (sL .u8 Z.c)],[.int (sL .u8 Z.b)]])) (Zt Z.e))) (EI b (jo Z.f))) (EI c (Zt Z.a))) (EI d (Zt Z.d))) (EI e (jo 0))) (a (e++(jo 0))) lf)
def UA(Z:Zz):x:=cond (!(GC Z)) [] (toStr ([[.int (sL .u8 Z.c)],[.int (sL .u8 Z.b)]])++Zt Z.e++jo Z.f++Zt Z.a++Zt Z.d++jo 0)
theorem nrB(f:x→α)(Z:Zz):nz3 lf f Z=f (UA Z):=by have a:=P3 Z.e;have b:=Uy Z.f;have c:=P3 Z.a;have d:=P3 Z.d;have e:=Uy 0;unfold nz3 UA;refine U6 (λ_=>rfl) (λg=>?_);refine rR (by simp only[cI,EI,U,fK,Sq,I_,q4,js,true_and,and_true];omega) rfl
def lF(h:u→α)(f:u→u→Int→Int→α)(c:u)(a:Int)(x:u)(g:Int)(e:Int→u→α)(b:Int)(d:u):α:=cond (b<g) (cond (t true (A b x)) (cond (b==(s ((len c) - 1))) (cond (t true (Em 48 d ([[.int 1,.int 1,.int (r (q x (qC b)) 1),.int (r (q x (qC b)) 0),.int 0,.int a]]))) (e (s (b+1)) (d++([[.int 1,.int 1,.int (r (q x (qC b)) 1),.int (r (q x (qC b)) 0),.int 0,.int a]]))) lf) (cond (t true (Em 48 d ([[.int 1,.int 0,.int (r (q x (qC b)) 1),.int (r (q x (qC b)) 0),.int 0,.int a]]))) (e (s (b+1)) (d++([[.int 1,.int 0,.int (r (q x (qC b)) 1),.int (r (q x (qC b)) 0),.int 0,.int a]]))) lf)) lf) (f d d (len d) 0)
def ZH(b:u→α)(d c:u)(e:Int)(f:Int→α)(a:Int):α:=cond (a<e) (cond (t true (A a c)) (cond (!(GC (Zz.nd (q c (qC a)) 0))) (b []) (f (s (a+1)))) lf) (b d)
def wg(a:u→α)(N:Nat)(b c:u)(d:Int)(e:Nat):Int→α:=bW (λ_=>lf) (ZH lf a b c d) e
theorem ngN(a:u→α)(N:Nat)(b c:u)(d:Int)(e:Nat):wg lf a N b c d (e+1)=ZH lf a b c d (wg lf a N b c d e):=rfl
def Fi(c:u→α)(N:Nat)(a:u)(b:Int)(x:u)(d:Int)(e:Nat):Int→u→α:=bW (λ_ _=>lf) (lF lf c (λg h i=>wg lf c N g h i N) a b x d) e
theorem nnl(c:u→α)(N:Nat)(a:u)(b:Int)(x:u)(e:Int)(f:Nat)(g:Int)(d:u):Fi lf c N a b x e (f+1) g d=lF lf c (λd h i=>wg lf c N d h i N) a b x e (Fi lf c N a b x e f) g d:=rfl
def mS(lf:α)(c:u→α)(d:u→Int→Int→u→α)(a:u)(size b:Int):α:=cond (cond ((len a)==0) true (cond (!(HT a)) true (!(D size 1 128)))) (c []) (d a (len a) 0 ([[.int 2,.int 0,.int 0,.int 0,.int size,.int b]]))
def jm(c:u→α)(N:Nat)(a:u)(size b:Int):α:=mS lf c (λx d=>Fi lf c N a b x d N) a size b
def nx(n:Nat)(a:Int)(i:Nat)(Z:List DC):List DC:=[.int 1,.int (cond (((i:Nat):Int)==s ((n:Int) - 1)) 1 0),.int (r Z 1),.int (r Z 0),.int 0,.int a]
def Zw(n:Nat)(a:Int):u→Nat→u
 | [],_=>[]
 | r::rs,i=>nx n a i r::Zw n a rs (i+1)
theorem nDq(n:Nat)(a:Int):∀(l:u) (i:Nat),(Zw n a l i).length=l.length
 | [],_=>rfl
 | r::rs,i=>by simp only[Zw,I_,nDq n a rs (i+1)]
def iw(r:List DC):Bool:= !(GC (Zz.nd r 0))
def L0(size a:Int):List DC:=[.int 2,.int 0,.int 0,.int 0,.int size,.int a]
def VJ(a:u)(size b:Int):u:=cond (cond ((len a)==0) true (cond (!(HT a)) true (!(D size 1 128)))) [] (cond ((L0 size b::Zw a.length b a 0).any iw) [] (L0 size b::Zw a.length b a 0))
theorem ntV(n:Nat)(a:Int)(W:u→α):∀(l:u) (i:Nat) (o:u),
  An (σ:=u) (λi r c o=>c (o++[nx n a i r])) W l i o=W (o++Zw n a l i)
 | [],_,o=>by simp[An,Zw]
 | r::rs,i,o=>by simp only[An,Zw];have:=ntV n a W rs (i+1) (o++[nx n a i r]);rw[this,t5];rfl
theorem gq(a:u)(L:Nat→Int→u→α)(step:Nat→List DC→(u→α)→u→α)(W:u→α)(z:Nat)
  (g:∀i r (c d:u→α) s,(∀b,b.length=s.length+1→c b=d b)→step i r c s=step i r d s)
  (j:∀n (i:Nat) s,i<a.length→s.length=z+i→L (n+1) (i:Int) s=step i (q a i) (L n ((i:Int)+1)) s)
  (k:∀n s,s.length=z+a.length→L (n+1) (a.length:Int) s=W s):∀(m i:Nat) (s:u) (n:Nat),i+m=a.length→m<n→s.length=z+i→L n (i:Int) s=An step W (a.drop i) i s
 | 0,i,s,n,h,hn,hz=>by
  obtain⟨n,rfl⟩:=DF n;have:i=a.length:=by omega
  subst this;rw[k n s hz,t6];rfl
 | m+1,i,s,n,h,hn,hz=>by
  obtain⟨n,rfl⟩:=DF n;have e:i<a.length:=by omega
  rw[j n i s e hz,uU e];have f:q a i=a[i]:=by simp[q,tj,e]
  show _=step i a[i] (An step W (a.drop (i+1)) (i+1)) s;rw[←f];refine g _ _ _ _ _ (λb l=>?_);exact gq a L step W z g j k m (i+1) b n (by omega) (by omega) (by omega)
theorem nD8(f:u→α)(a:u)(size b:Int)(k:IJ (.sl o9) (.sl a)):∃N,jm lf f N a size b=f (VJ a size b):=by
 obtain⟨m,A⟩:=Nh k;refine⟨a.length+2, ?_⟩;unfold jm mS VJ;have p:∀(o:u) (x:List DC),o.length≤100→Em 48 o [x]=true:=λo x h=>W6 (by simp only[I_,q4];omega) (by omega);refine U6 (λ_=>rfl) (λq=>?_);have t:HT a=true:=by revert q;cases (len a)==0<;>cases HT a<;>simp
 have Z:=nCV t;have key:=gq a (λn i o=>Fi lf f (a.length+2) a b a (len a) n i o) (λi r c o=>c (o++[nx a.length b i r])) (λo=>wg lf f (a.length+2) o o (len o) (a.length+2) 0) 1 (λi r c d Y h=>h _ (by simp)) ?_ ?_ a.length 0 [L0 size b] (a.length+2) (by omega) (by omega) (by simp)
 ·refine key.trans ?_;rw[tS,ntV];have v:([L0 size b]++Zw a.length b a 0).length+0=a.length+1:=by simp[nDq]
  generalize w:[L0 size b]++Zw a.length b a 0=O at v;have j:L0 size b::Zw a.length b a 0=O:=w;rw[j];refine (TR O (λn i=>wg lf f (a.length+2) O O (len O) n i) (λi r c=>cond (iw r) (f []) c) (f O) ?_ ?_ (a.length+2) (by omega)).trans ?_
  ·intro n i g;show wg lf f (a.length+2) O O (len O) (n+1) (i:Int)=_;rw[ngN];simp only[ZH,sg g,mZ g,jy g (show O.length≤9223372036854775807 by omega),eR,Oi,H];rfl
  ·intro n;show wg lf f (a.length+2) O O (len O) (n+1) (O.length:Int)=_;rw[ngN];simp only[ZH,Ns,J]
  ·have e:∀(l:u) (i:Nat),An (σ:=Unit) (λi r c Y=>cond (iw r) (f []) (c Y)) (λ_=>f O) l i ()=cond (l.any iw) (f []) (f O):=by
    intro l
    induction l with
    | nil=>intro i;rfl
    | cons r rs y=>
     intro i;simp only[An,List.any_cons];cases iw r
     ·exact y (i+1)
     ·rfl
   exact (e O 0).trans (Ha rfl rfl)
 ·intro n i o g z;show Fi lf f (a.length+2) a b a (len a) (n+1) (i:Int) o=_;rw[nnl];simp only[lF,sg g,mZ g,jy g m,eR,p o _ (by omega),Oi,H,nx];simp only[len];cases ((i:Nat):Int)==s ((a.length:Int) - 1)<;>rfl
 ·intro n o z;show Fi lf f (a.length+2) a b a (len a) (n+1) (a.length:Int) o=_;rw[nnl];simp only[lF,Ns,J]
theorem nBU:∀(m a:Nat) (s:x) (l:u),(jY m a s l).length=l.length
 | 0,_,_,_=>rfl
 | m+1,a,s,l=>by
  unfold jY;cases decide (0<s.length)
  ·rfl
  ·rw[H,nBU m];simp[e8]
theorem nCZ(m:v)(a:Int)(s:x):(jc m a s).1.a.length=m.a.length:=by
 unfold jc;cases !(within m a (len s))
 ·exact nBU _ _ _ _
 ·rfl
theorem nxB:∀(r:u) (s:x) (l:u),(cS r s l).length=l.length
 | [],_,_=>rfl
 | r::rs,s,l=>by unfold cS;rw[nxB rs,nCZ]
theorem lW(l:u)(m:v)(d a:Int)(s:x)(w:Bool):(put l m d a s w).1.a.length=m.a.length:=by
 unfold put;cases !(Av l m d a (len s) w).2
 ·exact nxB _ _ _
 ·rfl
theorem neG{l:u}{m:v}{d a:Int}{s:x}{w:Bool}(h:(put l m d a s w).2=false):(put l m d a s w).1=m:=by
 unfold put at h ⊢;cases b:(Av l m d a (len s) w).2
 ·rfl
 ·rw[b] at h;cases h
def nmw(c:v→I→Bool→α)(list_:u)(m:v)(b:Int)(r:I)(a:x):α:=let d:v×Bool:=YI list_ m b (lO r r.c) a;cond (cond ((Ry r)==0) true ((len a) != 16)) (cond (t true (WO m)) (c (F m) r false) lf) (cond (t true (zE list_ m b (lO r r.c) a)) (cond (!d.2) (c d.1 r false) (cond (t true (!((s (2*r.a))==0))) (c d.1 (⟨r.b,r.a,r.d,q5 (s (r.c+1)) (s (2*r.a))⟩:I) true) lf)) lf)
def CY(list_:u)(m:v)(a:Int)(r:I)(b:α):Bool:=Pw m.a
def RC(list_:u)(m:v)(b:Int)(r:I)(a:x):v×I×Bool:=cond (cond ((Ry r)==0) true ((len a) != 16)) (m,r,false) (cond (!(YI list_ m b (lO r r.c) a).2) (m,r,false) ((YI list_ m b (lO r r.c) a).1,⟨r.b,r.a,r.d,q5 (s (r.c+1)) (s (2*r.a))⟩,true))
theorem QB(list_:u)(m:v)(b:Int)(r:I)(a:x):(RC list_ m b r a).1.a.length=m.a.length:=by
 unfold RC;cases (cond ((Ry r)==0) true ((len a) != 16))
 ·cases !(YI list_ m b (lO r r.c) a).2
  ·exact lW _ _ _ _ _ _
  ·rfl
 ·rfl
theorem nv0(d:v→I→Bool→α)(list_:u)(m:v)(b:Int)(r:I)(c:x)(g:CY list_ m b r c=true):nmw lf d list_ m b r c=d (RC list_ m b r c).1 (RC list_ m b r c).2.1 (RC list_ m b r c).2.2:=by
 have h:WO m=true:=g;have e:∀a,zE list_ m b a c=true:=λa=>g;unfold nmw RC;dsimp only;refine U6 (K:=λr:v×I×Bool=>d r.1 r.2.1 r.2.2) (λ_=>by rw[h];rfl) (λi=>?_);rw[e];simp only[Oi,H];have j:Vd r=true:=by revert i;unfold Ry Sr;cases Vd r<;>simp
 have l:=OD j;have k:(!((s (2*r.a))==0))=true:=by rw[fg];simp;omega
 refine U6 (K:=λr:v×I×Bool=>d r.1 r.2.1 r.2.2) (λf=>?_) (λ_=>by rw[k];rfl);have f:(YI list_ m b (lO r r.c) c).2=false:=by simpa using f
 rw[show (YI list_ m b (lO r r.c) c).1=m from neG f]
def naz(c:v→I→Bool→α)(list_:u)(m:v)(b:Int)(r:I)(a:x):α:=let d:v×Bool:=YI list_ m b (lO r r.c) a;cond (cond ((Ry r)==0) true ((len a) != 16)) (cond (t true (WO m)) (c (F m) r false) lf) (cond (t true (zE list_ m b (lO r r.c) a)) (cond (!d.2) (cond (t true (WO m)) (c (F m) r false) lf) (cond (t true (!((s (2*r.a))==0))) (c d.1 (⟨r.b,r.a,r.d,q5 (s (r.c+1)) (s (2*r.a))⟩:I) true) lf)) lf)
theorem nD_(d:v→I→Bool→α)(list_:u)(m:v)(b:Int)(r:I)(c:x)(f:CY list_ m b r c=true):naz lf d list_ m b r c=d (RC list_ m b r c).1 (RC list_ m b r c).2.1 (RC list_ m b r c).2.2:=by
 have g:WO m=true:=f;have e:∀a,zE list_ m b a c=true:=λa=>f;unfold naz RC;dsimp only;refine U6 (K:=λr:v×I×Bool=>d r.1 r.2.1 r.2.2) (λ_=>by rw[g];rfl) (λh=>?_);rw[e];simp only[Oi,H];have i:Vd r=true:=by revert h;unfold Ry Sr;cases Vd r<;>simp
 have k:=OD i;have j:(!((s (2*r.a))==0))=true:=by rw[fg];simp;omega
 refine U6 (K:=λr:v×I×Bool=>d r.1 r.2.1 r.2.2) (λl=>?_) (λ_=>by rw[j];rfl);rw[g];rfl
def T9(n:v→I→Bool→α)(list_:u)(b:Int)(a:u)(p:Int)(o:u)(h i j k:Int)(Z:Int→Int→Int→Int→Int→u→α)(f next c d e:Int)(l:u):α:=let m:v×I×Bool:=RC list_ (⟨l⟩:v) b (⟨next,c,d,e⟩:I) (Gi (q a (qC f)) 0);let g:I:=m.2.1;cond (f<p) (cond (t true (A f a)) (cond (t true (CY list_ (⟨l⟩:v) b (⟨next,c,d,e⟩:I) (Gi (q a (qC f)) 0))) (cond (!m.2.2) (cond (t true (WO (⟨o⟩:v))) (n (F (⟨o⟩:v)) (⟨h,i,j,k⟩:I) false) lf) (Z (s (f+1)) g.b g.a g.d g.c m.1.a)) lf) lf) (n (⟨l⟩:v) (⟨next,c,d,e⟩:I) true)
def x_(g:v→I→Bool→α)(N:Nat)(list_:u)(b:Int)(a:u)(h:Int)(i:u)(c d e f:Int)(j:Nat):Int→Int→Int→Int→Int→u→α:=bW (λ_ _ _ _ _ _=>lf) (T9 lf g list_ b a h i c d e f) j
theorem nB_(g:v→I→Bool→α)(N:Nat)(list_:u)(b:Int)(a:u)(h:Int)(i:u)(c d e f:Int)(j:Nat):x_ lf g N list_ b a h i c d e f (j+1)=T9 lf g list_ b a h i c d e f (x_ lf g N list_ b a h i c d e f j):=rfl
def lP(d:v→I→Bool→α)(c:Int→u→Int→Int→Int→Int→Int→Int→Int→Int→Int→u→α)(list_:u)(m:v)(b:Int)(r:I)(a:u):α:=cond (t true (WO m)) (c (len a) m.a r.b r.a r.d r.c 0 r.b r.a r.d r.c ((F m).a)) lf
def nrb(g:v→I→Bool→α)(N:Nat)(list_:u)(m:v)(b:Int)(r:I)(a:u):α:=lP lf g (λh i c d e f=>x_ lf g N list_ b a h i c d e f N) list_ m b r a
def Xp(list_:u)(a:Int)(e:List DC)(s:v×I):Bool:= !(RC list_ s.1 a s.2 (Gi e 0)).2.2
def VT(list_:u)(a:Int)(e:List DC)(s:v×I):v×I:=((RC list_ s.1 a s.2 (Gi e 0)).1,(RC list_ s.1 a s.2 (Gi e 0)).2.1)
def R6(list_:u)(m:v)(a:Int)(r:I)(b:u):v×I×Bool:=Vy (Xp list_ a) (VT list_ a) (m,r,false) (λs=>(s.1,s.2,true)) b (m,r)
theorem nL2(c:v→I→Bool→α)(list_:u)(m:v)(b:Int)(r:I)(a:u)(f:IJ (.sl sK) (.sl a))(g:CY list_ m b r a=true):∃N,nrb lf c N list_ m b r a=c (R6 list_ m b r a).1 (R6 list_ m b r a).2.1 (R6 list_ m b r a).2.2:=by
 obtain⟨j,o⟩:=Nh f;have k:WO m=true:=g;have l:WO (⟨m.a⟩:v)=true:=g;refine⟨a.length+1, ?_⟩;unfold nrb lP R6;rw[k];refine (Qo rfl).trans ?_;refine (G8 a (λn i (s:v×I)=>x_ lf c (a.length+1) list_ b a (len a) m.a r.b r.a r.d r.c n i s.2.b s.2.a s.2.d s.2.c s.1.a) (Xp list_ b) (VT list_ b) (c m r false) (λs=>c s.1 s.2 true) (λ_ s=>Pw s.1.a=true) ?_ ?_ ?_ (m,r) g).trans ?_
 ·intro i s d e _;refine Hd ?_;show (RC list_ s.1 b s.2 (Gi (q a i) 0)).1.a.length≤16777216;rw[QB];exact R8 e
 ·intro n i s d e;show x_ lf c (a.length+1) list_ b a (len a) m.a r.b r.a r.d r.c (n+1) (i:Int) s.2.b s.2.a s.2.d s.2.c s.1.a=_;rw[nB_];have h:∀Z:I,CY list_ (⟨s.1.a⟩:v) b Z (Gi (q a i) 0)=true:=λ_=>e;simp only[T9,sg d,mZ d,jy d j,eR,h,l,Oi,H];rfl
 ·intro n s e;show x_ lf c (a.length+1) list_ b a (len a) m.a r.b r.a r.d r.c (n+1) (a.length:Int) s.2.b s.2.a s.2.d s.2.c s.1.a=_;rw[nB_];simp only[T9,Ns,J]
 ·exact jP (λz:v×I×Bool=>c z.1 z.2.1 z.2.2) (Xp list_ b) (VT list_ b) (x:=(m,r,false)) (λs=>(s.1,s.2,true)) a (m,r)
def VD(j:v→u→Bool→α)(list_:u)(b e:Int)(k:u)(m n o p:Int)(Z:u)(Y:x→Int→u→u→α)(d:x)(f:Int)(a c:u):α:=let i:x:=C1 d (DB e (len d));let g:Int:=len i;let h:Int:=Q6 (⟨n,o,p,Z⟩:G) (r (q k (qC f)) 0);let l:v×Bool:=zJ list_ (⟨c⟩:v) b h i;cond (f<m) (cond (t true (A f k)) (cond (t true (az d (DB e (len d)))) (cond (t true (nz d g)) (cond (t true (Oz list_ (⟨c⟩:v) b h i)) (cond (!l.2) (j (⟨c⟩:v) [] false) (cond (t true (Em 16 a ([[.int h,.int g]]))) (Y (bZ d g) (s (f+1)) (a++([[.int h,.int g]])) l.1.a) lf)) lf) lf) lf) lf) (j (⟨c⟩:v) a true)
def uu(c:v→u→Bool→α)(N:Nat)(list_:u)(a b:Int)(d:u)(e f g h:Int)(i:u)(j:Nat):x→Int→u→u→α:=bW (λ_ _ _ _=>lf) (VD lf c list_ a b d e f g h i) j
theorem nt8(c:v→u→Bool→α)(N:Nat)(list_:u)(a b:Int)(d:u)(e f g h:Int)(i:u)(j:Nat):uu lf c N list_ a b d e f g h i (j+1)=VD lf c list_ a b d e f g h i (uu lf c N list_ a b d e f g h i j):=rfl
def OB(lf:α)(e:v→u→Bool→α)(b:Int→Int→Int→Int→u→x→Int→u→u→α)(list_:u)(m:v)(a:Int)(p:G)(c:u)(t:x)(d:Int):α:=b (len c) p.b p.a p.c p.d t 0 [] m.a
def nwd(c:v→u→Bool→α)(N:Nat)(list_:u)(m:v)(a:Int)(p:G)(d:u)(t:x)(b:Int):α:=OB lf c (λe f g h i=>uu lf c N list_ a b d e f g h i N) list_ m a p d t b
def DS(list_:u)(a:Int)(p:G)(c:Int):u→x→v→u→v×u×Bool
 | [],_,m,o=>(m,o,true)
 | b::bs,t,m,o=>
  bif !(zJ list_ m a (Q6 p (r b 0)) (t.take c.toNat)).2 then (m,[],false)
  else DS list_ a p c bs (t.drop c.toNat) (zJ list_ m a (Q6 p (r b 0)) (t.take c.toNat)).1 (o++[[.int (Q6 p (r b 0)),.int (len (t.take c.toNat))]])
def Td(list_:u)(m:v)(a:Int)(p:G)(c:u)(t:x)(b:Int):Bool:=Pw list_ && (Pw m.a && (decide (0≤b) && decide (c.length≤1000)))
def mi(list_:u)(m:v)(a:Int)(p:G)(c:u)(t:x)(b:Int):v×u×Bool:=DS list_ a p b c t m []
theorem niP(l:u)(m:v)(d a:Int)(s:x):(zJ l m d a s).1.a.length=m.a.length:=lW _ _ _ _ _ _
theorem ndW(h:v→u→Bool→α)(list_:u)(m:v)(c:Int)(p:G)(e:u)(t:x)(d:Int)(j:IJ (.sl K) (.sl e))(k:IJ .str (.str t))(l:IJ .i (.int d))(W:Td list_ m c p e t d=true):∃N,nwd lf h N list_ m c p e t d=h (mi list_ m c p e t d).1 (mi list_ m c p e t d).2.1 (mi list_ m c p e t d).2.2:=by
 obtain⟨P,Q⟩:=Nh j;have X:=cj k;have R:=Ti l;have Z:=W;simp only[Td,Bl,js] at Z;obtain⟨w,y,S,T⟩:=Z;refine⟨e.length+1, ?_⟩;unfold nwd OB mi;have key:∀(Y i:Nat) (t:x) (m:v) (o:u) (n:Nat),i+Y=e.length→Y<n→t.length≤9223372036854775807→Pw m.a=true→o.length≤i→
   uu lf h (e.length+1) list_ c d e (len e) p.b p.a p.c p.d n t (i:Int) o m.a=(λz:v×u×Bool=>h z.1 z.2.1 z.2.2) (DS list_ c p d (e.drop i) t m o):=by
  intro Y
  induction Y with
  | zero=>
   intro i t m o n A B C U D;obtain⟨n,rfl⟩:=DF n;have g:i=e.length:=by omega
   subst g;rw[nt8,t6];simp only[VD,Ns,J,DS]
  | succ Y E=>
   intro i t m o n A B C U D;obtain⟨n,rfl⟩:=DF n;have g:i<e.length:=by omega
   have F:e[i]=q e i:=by simp[q,g]
   rw[nt8,uU g,F];have aeg:C1 t (DB d (len t))=t.take d.toNat:=by
    simp only[C1,tS];unfold DB;by_cases f:len t<d
    ·rw[if_pos f];simp only[len] at f ⊢;rw[uX (by omega),uX (by omega)]
    ·rw[if_neg f]
   have adJ:az t (DB d (len t))=true:=by
    simp only[az,Bl,js];unfold DB;by_cases f:len t<d
    ·rw[if_pos f];simp only[len];omega
    ·rw[if_neg f];simp only[len] at f ⊢;omega
   have I:bZ t (len (t.take d.toNat))=t.drop d.toNat:=by
    simp only[bZ,ub,len,eR,r8];by_cases f:t.length<d.toNat
    ·rw[uc (by omega),uc (by omega)]
    ·rw[uC (by omega)]
   have aeE:nz t (len (t.take d.toNat))=true:=by simp only[nz,Bl,js,len,r8];omega
   have L:∀a b,Oz list_ (⟨m.a⟩:v) c a b=true:=λa b=>by simp only[Oz,w,U,uI]
   have M:∀V:List DC,Em 16 o [V]=true:=λV=>W6 (by simp only[I_,q4];omega) (by omega);have this:=E (i+1) (t.drop d.toNat) (zJ list_ m c (Q6 p (r (q e i) 0)) (t.take d.toNat)).1 (o++[[.int (Q6 p (r (q e i) 0)),.int (len (t.take d.toNat))]]) n (by omega) (by omega) (by rw[sI];omega) (Hd (by rw[niP];exact R8 U)) (by simp only[fK,I_,q4];omega);have O:s ((i:Int)+1)=((i+1:Nat):Int):=by rw[fg];omega
   simp only[VD,sg g,mZ g,eR,aeg,adJ,I,aeE,L,M,O,Oi,H,DS];refine U6 (K:=λz:v×u×Bool=>h z.1 z.2.1 z.2.2) (λ_=>rfl) (λ_=>?_);exact this
 exact key e.length 0 t m [] (e.length+1) (by omega) (by omega) X y (sS _)
theorem Vk{b:Bool}(h:(!b)=false):b=true:=by cases b<;>simp_all
theorem ZY{b:Bool}(h:b=true):t true b=true:=by rw[h];rfl
theorem npq(f:List DC→List DC)(W:u→α):∀(l:u) (i:Nat) (o:u),An (σ:=u) (λ_ r c o=>c (o++[f r])) W l i o=W (o++l.map f)
 | [],_,o=>by simp[An]
 | r::rs,i,o=>by simp only[An];have:=npq f W rs (i+1) (o++[f r]);rw[this,t5];rfl
theorem zV{p:N} :(O3 p).2=Tp p:=by
 unfold O3;cases b:Tp p
 ·rfl
 have c:zA (DZ p)=true:=by
  have g:=njS (byH (⟨p.f,p.g,p.c,p.a.c,p.b,p.d,(ic p.b p.d p.a).1⟩:qw)) (show 46≤400 by omega);have a:D p.h 0 281474976710655=true∧D p.i 0 281474976710655=true∧D p.e (-1) 4095=true:=by unfold Tp yU at b;revert b;cases D p.h 0 281474976710655<;>cases D p.i 0 281474976710655<;>cases D p.e (-1) 4095<;>simp
  have d:D (len (DZ p).a) 46 400=true:=YF.2 ⟨by simp only[len,DZ];omega,by simp only[len,DZ];omega⟩;have e:D (DZ p).c 1536 65535=true:=by rfl
  have f:((DZ p).c != 33024)=true:=by rfl
  unfold zA RQ;simp only[show D (DZ p).d 0 281474976710655=true from a.1,show D (DZ p).b 0 281474976710655=true from a.2.1,show D (DZ p).e (-1) 4095=true from a.2.2,d,e,f,H,id]
 simp only[ra,J];unfold jn;rw[c];rfl
theorem nlQ(p:N):(e7 p).2=Tp p:=by rw[←zV];unfold e7;cases (O3 p).2<;>rfl
theorem na3{p:N}(h:Tp p=true):60≤(e7 p).1.length:=by
 have a:(O3 p).2=true:=by rw[zV];exact h
 have b:=nzo a;have c:=Gk (O3 p).1;have d:=Pf p;unfold e7;rw[a];simp only[ra,J];rw[aW (by rw[aW (by omega)];omega),aW (by omega)];simp only[len] at b;omega
def kO(r:v→Co→Bool→α)(list_:u)(b:Int)(W x:u)(w c d e f h y i j k l m n o z U B:Int)(V C D p E Z X:u)(F:Int→u→α)(g:Int)(a:u):α:=let Y:v×I×Bool:=R6 list_ (⟨X⟩:v) b (⟨c,d,e,f⟩:I) a;cond (g<w) (cond (t true (A g x)) (cond (t true (Em 16 a ([[.str (UA (Zz.nd (q x (qC g)) 0))]]))) (F (s (g+1)) (a++([[.str (UA (Zz.nd (q x (qC g)) 0))]]))) lf) lf) (cond (t true (CY list_ (⟨X⟩:v) b (⟨c,d,e,f⟩:I) a)) (cond (!Y.2.2) (r (⟨C⟩:v) (⟨(⟨y,i,j,k⟩:I),(⟨l,m,n,D⟩:G),p,o⟩:Co) false) (cond (t true (Em 40 Z ([[.int h,.int (len W),.sl V]]))) (r Y.1 (⟨Y.2.1,(⟨z,U,B,E⟩:G),Z++([[.int h,.int (len W),.sl V]]),q5 (s (h+1)) 65536⟩:Co) true) lf)) lf)
def Bs(n:v→Co→Bool→α)(N:Nat)(list_:u)(a:Int)(o x:u)(p b c d e q r f g h i j k l s t Z:Int)(Y w y m z A B:u)(C:Nat):Int→u→α:=bW (λ_ _=>lf) (kO lf n list_ a o x p b c d e q r f g h i j k l s t Z Y w y m z A B) C
theorem nDT(n:v→Co→Bool→α)(N:Nat)(list_:u)(a:Int)(o x:u)(p b c d e q r f g h i j k l s t Z:Int)(Y w y m z A B:u)(C:Nat):Bs lf n N list_ a o x p b c d e q r f g h i j k l s t Z Y w y m z A B (C+1)=kO lf n list_ a o x p b c d e q r f g h i j k l s t Z Y w y m z A B (Bs lf n N list_ a o x p b c d e q r f g h i j k l s t Z Y w y m z A B C):=rfl
def aH(d:v→Co→Bool→α)(l:u→u→Int→Int→Int→Int→Int→Int→Int→Int→Int→Int→Int→Int→Int→Int→Int→Int→Int→u→u→u→u→u→u→u→Int→u→α)(list_:u)(m:v)(a:Int)(q:Co)(p:N)(size b:Int):α:=let j:Bool:= !(D b 1 q.a.a);let c:Int:=s (tk (s ((s ((len ((e7 p).1))+b)) - 1)) b);let g:G×u×Bool:=pN q.a c;let h:u:=g.2.1;let i:v×u×Bool:=mi list_ (F m) a q.a h ((e7 p).1) b;let k:Bool:= !i.2.2;let e:u:=VJ i.2.1 size q.d;let f:G:=g.1;cond (t (t true (WO m)) (yK q)) (cond (pk (!(Q7 q)) (t true (cF q)) (pk (!(Tp p)) (t true (cF q)) (pk j (t true (cF q)) (t true (cF q))))) (cond (cond (!(Q7 q)) true (cond (!(Tp p)) true (cond j true (!(D size 1 128))))) (d (F m) (F q) false) (cond (t true (!(b==0))) (cond (cond (16<c) true (cond (Ry q.b<s (c+1)) true (decide (q.b.a<s ((s ((da q)+c))+1))))) (d (F m) (F q) false) (cond (t true (yK q)) (cond (t true (ud q.a c)) (cond (!g.2.2) (d (F m) (F q) false) (cond (t (t true (WO m)) (Td list_ (F m) a q.a h ((e7 p).1) b)) (cond (pk k true (t true (decide (0<tl e)))) (cond (cond k true false) (d (F m) (F q) false) (l e e (len e) q.b.b q.b.a q.b.d q.b.c q.d (((F q).b).b) (((F q).b).a) (((F q).b).d) (((F q).b).c) (((F q).a).b) (((F q).a).a) (((F q).a).c) ((F q).d) f.b f.a f.c h ((F m).a) (((F q).a).d) ((F q).c) f.d ((F q).c) i.1.a 0 [])) lf) lf)) lf) lf)) lf)) lf) lf
def nlh(r:v→Co→Bool→α)(X:Nat)(list_:u)(m:v)(a:Int)(q:Co)(p:N)(size b:Int):α:=aH lf r (λs x t c d e f Z Y g h i j k l n w y z A B C o D E F=>Bs lf r X list_ a s x t c d e f Z Y g h i j k l n w y z A B C o D E F X) list_ m a q p size b
def oS(Z:List DC):Prop:=0≤r Z 0∧r Z 0≤140000∧0≤r Z 1∧r Z 1≤512
theorem nyk(p:G)(k:Int): -1≤Q6 p k∧Q6 p k≤140000:=by
 unfold Q6 Hn;cases f:PM p
 ·simp
 cases g:D k 0 (s (p.c - 1))
 ·simp
 have e:D p.b 0 130944=true∧D p.a 1 512=true∧D p.c 0 16=true:=by unfold PM at f;revert f;cases D p.b 0 130944<;>cases D p.a 1 512<;>cases D p.c 0 16<;>simp
 have a:=YF.1 e.1;have b:=YF.1 e.2.1;have c:=YF.1 e.2.2;have d:=YF.1 g;rw[fg (n:=p.c - 1)] at d;have h:k*p.a≤15*512:=Int.mul_le_mul (by omega) (by omega) (by omega) (by omega);have i:0≤k*p.a:=Int.mul_nonneg (by omega) (by omega);simp only[ra,J,id];rw[fg (n:=k*p.a),fg];omega
theorem npJ{l:u}{m:v}{d a:Int}{s:x}(e:0<s.length)(h:(zJ l m d a s).2=true):0≤a:=by
 unfold zJ put Av at h;have b:((len s)==0)=false:=beq_eq_false_iff_ne.2 (by simp only[len];omega);by_cases c:a<0
 ·rw[b,Hd c] at h;revert h;cases (cond (!(mC l)) true (cond (!(Km m)) true (!(D (len s) 0 4096))))<;>simp
 ·omega
theorem nhS(l:u)(d:Int)(p:G)(a:Int):∀(c:u) (t:x) (m:v) (o:u),(DS l d p a c t m o).1.a.length=m.a.length
 | [],_,_,_=>rfl
 | b::c,t,m,o=>by
  unfold DS;cases (zJ l m d (Q6 p (r b 0)) (t.take a.toNat)).2
  ·rfl
  ·simp only[ra,J];rw[nhS l d p a c,niP]
theorem nxv(l:u)(d:Int)(p:G)(a:Int)(j:1≤a)(k:a≤512):∀(c:u) (t:x) (m:v) (o:u),c.length*a.toNat≤t.length+a.toNat - 1→(∀Z∈o,oS Z)→
  (DS l d p a c t m o).2.2=true→(DS l d p a c t m o).2.1.length=o.length+c.length∧∀Z∈(DS l d p a c t m o).2.1,oS Z
 | [],t,m,o,_,ho,_=>⟨rfl,ho⟩
 | b::c,t,m,o,ht,ho,h=>by
  unfold DS at h ⊢;cases f:(zJ l m d (Q6 p (r b 0)) (t.take a.toNat)).2
  ·rw[f] at h;cases h
  ·rw[f] at h;simp only[ra,J] at h ⊢;rw[I_,Nat.succ_mul] at ht;have n:0<(t.take a.toNat).length:=by rw[r8];omega
   have q:=npJ n f;have g:=nyk p (r b 0);have i:oS [DC.int (Q6 p (r b 0)),DC.int (len (t.take a.toNat))]:=by
    refine⟨q,g.2, ?_, ?_⟩
    ·show 0≤len (t.take a.toNat);simp[len]
    ·show len (t.take a.toNat)≤512;simp only[len,r8];omega
   have:=nxv l d p a j k c (t.drop a.toNat) _ (o++[[.int (Q6 p (r b 0)),.int (len (t.take a.toNat))]]) (by rw[sI];omega) (λZ e=>by
    rcases uJ.1 e with e | e
    ·exact ho Z e
    ·rw[uK] at e;rw[e];exact i) h
   refine⟨?_,this.2⟩;rw[this.1,fK,I_,I_,q4];omega
theorem nw7{p:List DC→Bool} :∀(l:u) (i:Nat),(∀r∈l,p r=false)→RP (λ_ r=>p r) l i=false
 | [],_,_=>rfl
 | r::rs,i,h=>by simp only[RP];rw[h r (by simp),J];exact nw7 rs (i+1) (λx a=>h x (by simp[a]))
theorem nfP{n:Nat}{c:Int}{x:List DC} :∀ {l:u} {i:Nat},x∈Zw n c l i→∃j r,r∈l∧x=nx n c j r
 | [],_,h=>by cases h
 | r::rs,i,h=>by
  simp only[Zw,List.mem_cons] at h;rcases h with h | h
  ·exact⟨i,r,by simp,h⟩
  ·obtain⟨j,q,a,b⟩:=nfP h;exact⟨j,q,by simp[a],b⟩
theorem nfr{b d e a f c:Int}(g:D b 0 3=true)(h:D d 0 3=true)(i:D e 0 65535=true)(j:D f 0 65535=true)(k:D c 0 65535=true)(l:D a 0 4294967295=true):
  iw [.int b,.int d,.int e,.int a,.int f,.int c]=false:=by
 show (!(GC (⟨b,d,e,a,f,c⟩:Zz)))=false;unfold GC pq;simp only[g,h,i,j,k,l,H,id,ra]
theorem nbS{P:u}{size ez:Int}(t:0<P.length)(k:P.length≤16)(g:∀Z∈P,oS Z)(l:1≤size)(m:size≤128)(h:0≤ez)(i:ez≤65535):
  VJ P size ez=L0 size ez::Zw P.length ez P 0:=by
 unfold VJ;have n:((len P)==0)=false:=beq_eq_false_iff_ne.2 (by simp only[len];omega);have o:HT P=true:=by
  unfold HT;rw[nw7 (p:=λZ=>cond (r Z 0<0) true (!(D (r Z 1) 0 4096))) P 0 (λZ f=>by obtain⟨a,_,b,c⟩:=g Z f;rw[ja (by omega),show D (r Z 1) 0 4096=true from YF.2 ⟨b,by omega⟩];rfl)]
  exact Hd (by simp only[len];omega)
 have q:D size 1 128=true:=YF.2 ⟨l,m⟩;have Y:(L0 size ez::Zw P.length ez P 0).any iw=false:=by
  rw[List.any_eq_false];intro x e;rw[Bool.not_eq_true];rcases List.mem_cons.1 e with e | e
  ·rw[e];exact nfr (by rfl) (by rfl) (by rfl) (YF.2 ⟨by omega,by omega⟩) (YF.2 ⟨h,i⟩) (by rfl)
  ·obtain⟨j,Z,f,e⟩:=nfP e;obtain⟨a,b,c,d⟩:=g Z f;rw[e];exact nfr (by rfl) (by cases ((j:Nat):Int)==s ((P.length:Int) - 1)<;>rfl) (YF.2 ⟨c,by omega⟩) (by rfl) (YF.2 ⟨h,i⟩) (YF.2 ⟨a,by omega⟩)
 simp only[n,o,q,Y,ra,J]
def sw(t:x)(a:Int):Int:=s (tk (s ((s ((len t)+a)) - 1)) a)
theorem nlX{t:x}{c:Nat}(a:1≤c)(b:c≤512)(d:t.length≤420):sw t (c:Int)=(((t.length+c - 1) / c:Nat):Int):=by unfold sw len;rw[fg (n:=(t.length:Int)+(c:Int)),fg (n:=(t.length:Int)+(c:Int) - 1),show (t.length:Int)+(c:Int) - 1=((t.length+c - 1:Nat):Int) by omega,←Int.ofNat_tdiv];have:=Nat.div_le_self (t.length+c - 1) c;generalize (t.length+c - 1) / c=y at this ⊢;exact fg
def tz(r:List DC):List DC:=[.str (UA (Zz.nd r 0))]
def eC(list_:u)(m:v)(a:Int)(q:Co)(c:v)(b:u)(e:G)(d:u):v×Co×Bool:=cond (!(R6 list_ c a q.b (b.map tz)).2.2) (m,q,false) ((R6 list_ c a q.b (b.map tz)).1,⟨(R6 list_ c a q.b (b.map tz)).2.1,e,q.c++[[.int q.d,.int (len b),.sl d]],q5 (s (q.d+1)) 65536⟩,true)
def zi(q:Co)(p:N)(size a:Int):Bool:=cond (!(Q7 q)) true (cond (!(Tp p)) true (cond (!(D a 1 q.a.a)) true (!(D size 1 128))))
def SP(q:Co)(n:Int):Bool:=cond (16<n) true (cond (Ry q.b<s (n+1)) true (decide (q.b.a<s (s (da q+n)+1))))
def sf(list_:u)(m:v)(a:Int)(q:Co)(p:N)(size b:Int):Bool:=WO m && (yK q && (cF q && Pw list_))
def tY(list_:u)(m:v)(a:Int)(q:Co)(p:N)(size b:Int):v×Co×Bool:=cond (zi q p size b) (m,q,false) (cond (SP q (sw (e7 p).1 b)) (m,q,false) (cond (!(pN q.a (sw (e7 p).1 b)).2.2) (m,q,false) (cond (!(mi list_ m a q.a (pN q.a (sw (e7 p).1 b)).2.1 (e7 p).1 b).2.2) (m,q,false) (eC list_ m a q (mi list_ m a q.a (pN q.a (sw (e7 p).1 b)).2.1 (e7 p).1 b).1 (VJ (mi list_ m a q.a (pN q.a (sw (e7 p).1 b)).2.1 (e7 p).1 b).2.1 size q.d) (pN q.a (sw (e7 p).1 b)).1 (pN q.a (sw (e7 p).1 b)).2.1))))
theorem noS{list_:u}{m:v}{eo:Int}{q:Co}{p:N}{size d:Int}(f:zi q p size d=false)(l:SP q (sw (e7 p).1 d)=false)(i:(pN q.a (sw (e7 p).1 d)).2.2=true):
  ∃c n:Nat,d=(c:Int)∧1≤c∧c≤512∧sw (e7 p).1 d=(n:Int)∧1≤n∧n≤16∧n*c≤(e7 p).1.length+c - 1∧(pN q.a (sw (e7 p).1 d)).2.1.length=n∧
   ((mi list_ m eo q.a (pN q.a (sw (e7 p).1 d)).2.1 (e7 p).1 d).2.2=true→
    0<(VJ (mi list_ m eo q.a (pN q.a (sw (e7 p).1 d)).2.1 (e7 p).1 d).2.1 size q.d).length∧
    (VJ (mi list_ m eo q.a (pN q.a (sw (e7 p).1 d)).2.1 (e7 p).1 d).2.1 size q.d).length=n+1):=by
 unfold zi at f;cases g:Q7 q
 ·rw[g] at f;cases f
 cases j:Tp p
 ·rw[g,j] at f;cases f
 cases o:D d 1 q.a.a
 ·rw[g,j,o] at f;cases f
 cases y:D size 1 128
 ·rw[g,j,o,y] at f;cases f
 have H:=YF.1 o;have I:=YF.1 y;have k:PM q.a=true∧D q.d 0 65535=true:=by unfold Q7 at g;revert g;cases Vd q.b<;>cases PM q.a<;>cases D q.d 0 65535<;>simp
 have s:D q.a.a 1 512=true:=by have:=k.1;unfold PM at this;revert this;cases D q.a.b 0 130944<;>cases D q.a.a 1 512<;>simp
 have W:=YF.1 s;have K:=YF.1 k.2;have X:=nld p;have L:=na3 j;obtain⟨c,rfl⟩:∃c:Nat,d=(c:Int):=⟨d.toNat,by omega⟩;have Z:=nlX (t:=(e7 p).1) (c:=c) (by omega) (by omega) X;have Y:=Nat.div_mul_le_self ((e7 p).1.length+c - 1) c;have z:1≤((e7 p).1.length+c - 1) / c:=(Nat.le_div_iff_mul_le (by omega)).2 (by omega);generalize ((e7 p).1.length+c - 1) / c=n at Z Y z;have w:n≤16:=by
  unfold SP at l;by_cases h:16<sw (e7 p).1 (c:Int)
  ·rw[Hd h] at l;cases l
  ·omega
 refine⟨c,n,rfl,by omega,by omega,Z,z,w,Y, ?_⟩;rw[Z] at i ⊢;have A:(n:Int)≤len q.a.d:=by
  unfold pN at i;rw[k.1] at i;cases B:D (n:Int) 0 (len q.a.d)
  ·rw[B] at i;cases i
  ·exact ((YF (n:=(n:Int)) (a:=0) (b:=len q.a.d)).1 B).2
 have e:(pN q.a (n:Int)).2.1.length=n:=by unfold pN;rw[k.1,show D (n:Int) 0 (len q.a.d)=true from (YF (n:=(n:Int)) (a:=0) (b:=len q.a.d)).2 ⟨by omega,A⟩];simp only[len] at A;simp only[ra,J,C1,tS,r8,eR];omega
 refine⟨e,λE=>?_⟩;have C:=nxv list_ eo q.a (c:Int) (by omega) (by omega) (pN q.a (n:Int)).2.1 (e7 p).1 m [] (by rw[e,eR];exact Y) (λr F=>by cases F) E;have x:(mi list_ m eo q.a (pN q.a (n:Int)).2.1 (e7 p).1 (c:Int)).2.1.length=n:=by have:=C.1;rw[e,q4,Nat.zero_add] at this;exact this
 have G:=nbS (P:=(mi list_ m eo q.a (pN q.a (n:Int)).2.1 (e7 p).1 (c:Int)).2.1) (size:=size) (ez:=q.d) (by omega) (by omega) C.2 (by omega) (by omega) (by omega) (by omega);rw[G,I_,nDq,x];omega
theorem nq7(e:v→Co→Bool→α)(list_:u)(m:v)(eo:Int)(q:Co)(p:N)(size a:Int)(C:sf list_ m eo q p size a=true):∃af1,nlh lf e af1 list_ m eo q p size a=e (tY list_ m eo q p size a).1 (tY list_ m eo q p size a).2.1 (tY list_ m eo q p size a).2.2:=by
 have B:=C;simp only[sf,Bl] at B;obtain⟨k,aaU,E,adB⟩:=B;have s1':=aaU;simp only[yK,NI,Bl] at s1';have Q:=R8 s1'.2.1;have R:=R8 (show Pw m.a=true from k);refine⟨40, ?_⟩;unfold nlh aH tY;dsimp only;refine rR (by rw[k,aaU];rfl) ?_;refine rR (by simp only[E,Oi,vb]) ?_;refine U6 (K:=λz:v×Co×Bool=>e z.1 z.2.1 z.2.2) (λ_=>rfl) (λl=>?_);have S:1≤a:=by
  revert l;cases aeh:D a 1 q.a.a
  ·cases Q7 q<;>cases Tp p<;>simp
  ·intro _;exact (YF.1 aeh).1
 have adK:(!(a==0))=true:=by rw[beq_eq_false_iff_ne.2 (by omega)];rfl
 refine rR (ZY adK) ?_;refine U6 (K:=λz:v×Co×Bool=>e z.1 z.2.1 z.2.2) (λ_=>rfl) (λabt=>?_);refine rR (by rw[aaU];rfl) ?_;refine rR (by rw[show ud q.a (s (tk (s ((s ((len ((e7 p).1))+a)) - 1)) a))=true from s1'.1];rfl) ?_;refine U6 (K:=λz:v×Co×Bool=>e z.1 z.2.1 z.2.2) (λ_=>rfl) (λw=>?_);have l:zi q p size a=false:=l;have abt:SP q (sw (e7 p).1 a)=false:=abt;have w:(pN q.a (sw (e7 p).1 a)).2.2=true:=Vk w;obtain⟨c,n,T,U,V,W,X,Y,Z,f8,t⟩:=noS (list_:=list_) (m:=m) (eo:=eo) l abt w;have aer:Td list_ (F m) eo q.a (pN q.a (sw (e7 p).1 a)).2.1 (e7 p).1 a=true:=by simp only[Td,F,adB,show Pw m.a=true from k,Bl,js,true_and];omega
 refine rR (by rw[k];rw[show (pN q.a (s (tk (s ((s ((len ((e7 p).1))+a)) - 1)) a))).2.1=(pN q.a (sw (e7 p).1 a)).2.1 from rfl,aer];rfl) ?_;have aeF:=nhS list_ eo q.a a (pN q.a (sw (e7 p).1 a)).2.1 (e7 p).1 m [];refine rR (Wi (λ_=>rfl) (λh=>?_)) ?_
 ·exact ZY (Hd (t (Vk h)).1)
 rw[show ∀b:Bool,(cond b true false)=b from λb=>by cases b<;>rfl];refine U6 (K:=λz:v×Co×Bool=>e z.1 z.2.1 z.2.2) (λ_=>rfl) (λL=>?_);have t:=t (Vk L);have key:∀(ac8:u) (j:v) (f:G) (g:u),ac8.length≤17→j.a.length=m.a.length→Bs lf e 40 list_ eo ac8 ac8 (len ac8) q.b.b q.b.a q.b.d q.b.c q.d q.b.b q.b.a q.b.d q.b.c q.a.b q.a.a q.a.c q.d f.b f.a f.c g m.a q.a.d q.c f.d q.c j.a 40 0 []=(λz:v×Co×Bool=>e z.1 z.2.1 z.2.2) (eC list_ m eo q j ac8 f g):=by
  intro ac8 j f g hD Eb;have M:=gq ac8 (λn i o=>Bs lf e 40 list_ eo ac8 ac8 (len ac8) q.b.b q.b.a q.b.d q.b.c q.d q.b.b q.b.a q.b.d q.b.c q.a.b q.a.a q.a.c q.d f.b f.a f.c g m.a q.a.d q.c f.d q.c j.a n i o) (λ_ r c o=>c (o++[tz r])) (λo=>bif !(R6 list_ j eo q.b o).2.2 then e m q false
    else e (R6 list_ j eo q.b o).1 (⟨(R6 list_ j eo q.b o).2.1,f,q.c++[[.int q.d,.int (len ac8),.sl g]],q5 (s (q.d+1)) 65536⟩:Co) true) 0 (λi r c d ace h=>h _ (by simp)) ?_ ?_ ac8.length 0 [] 40 (by omega) (by omega) rfl
  ·refine M.trans ?_;rw[tS,npq,List.nil_append];exact Ha (K:=λz:v×Co×Bool=>e z.1 z.2.1 z.2.2) rfl rfl
  ·intro n i o y O;rw[nDT];have A:∀x:List DC,Em 16 o [x]=true:=λx=>W6 (by simp only[I_,q4];omega) (by omega);simp only[kO,sg y,mZ y,jy y (show ac8.length≤9223372036854775807 by omega),eR,A,Oi,H];rfl
  ·intro n o O;rw[nDT];have P:CY list_ (⟨j.a⟩:v) eo (⟨q.b.b,q.b.a,q.b.d,q.b.c⟩:I) o=true:=Hd (by show j.a.length≤16777216;omega);have A:∀x:List DC,Em 40 q.c [x]=true:=λx=>W6 (by simp only[I_,q4];omega) (by omega);simp only[kO,Ns,P,A,Oi,H,J]
 exact key _ (mi list_ m eo q.a (pN q.a (sw (e7 p).1 a)).2.1 (e7 p).1 a).1 (pN q.a (sw (e7 p).1 a)).1 (pN q.a (sw (e7 p).1 a)).2.1 (r0 (Nat.le_of_eq t.2) (by omega)) aeF
def ndg(c:z→Bool→α)(h:z)(p:N)(size a:Int):α:=let b:v×Co×Bool:=tY h.j h.h 0 h.a p size a;cond (t true (mD h)) (cond (t true (Aa h)) (cond (!(zp h)) (c (F h) false) (cond (t true (sf h.j h.h 0 h.a p size a)) (c (⟨b.1,(F h).j,b.2.1,(F h).b,(F h).e,(F h).g,(F h).i,(F h).f,(F h).d,(F h).k,(F h).m,(F h).l,(F h).n,(F h).o,(F h).c⟩:z) b.2.2) lf)) lf) lf
def tR(h:z)(p:N)(size a:Int):Bool:=mD h && Aa h
def PK(h:z)(p:N)(size a:Int):z×Bool:=cond (!(zp h)) (h,false) ({h with h:=(tY h.j h.h 0 h.a p size a).1,a:=(tY h.j h.h 0 h.a p size a).2.1},(tY h.j h.h 0 h.a p size a).2.2)
theorem ntc(c:z→Bool→α)(h:z)(p:N)(size a:Int)(e:tR h p size a=true):ndg lf c h p size a=c (PK h p size a).1 (PK h p size a).2:=by
 have d:(mD h && Aa h)=true:=e;simp only[Bl] at d;obtain⟨s,b⟩:=d;have s':=s;simp only[mD,Bl] at s';obtain⟨f,g,i,j,_⟩:=s';have k:sf h.j h.h 0 h.a p size a=true:=by simp only[sf,yK,Bl];exact⟨f,⟨i,j⟩,b,g⟩
 unfold ndg PK;dsimp only;refine rR (ZY s) ?_;refine rR (ZY b) ?_;refine U6 (K:=λZ:z×Bool=>c Z.1 Z.2) (λ_=>rfl) (λ_=>?_);refine rR (ZY k) rfl
def nbr(a:Zz→Bool→α)(Z:x):α:=let b:Zz:=(⟨0,0,0,0,0,0⟩:Zz);let c:Zz:=(⟨s (A2 Z 0),s (A2 Z 1),CW Z 2,Q2 Z 4,CW Z 8,CW Z 10⟩:Zz);cond ((len Z) != 16) (a b false) (cond (t (t true (A 0 Z)) (A 1 Z)) (cond (!((UA c)==Z)) (a b false) (a c true)) lf)
def descOf(Z:x):Zz:=⟨s (A2 Z 0),s (A2 Z 1),CW Z 2,Q2 Z 4,CW Z 8,CW Z 10⟩
def UX(s:x):Zz×Bool:=cond ((len s) != 16) (⟨0,0,0,0,0,0⟩,false) (cond (!((UA (descOf s))==s)) (⟨0,0,0,0,0,0⟩,false) (descOf s,true))
theorem njD(a:Zz→Bool→α)(s:x):nbr lf a s=a (UX s).1 (UX s).2:=by
 unfold nbr UX;dsimp only;refine U6 (K:=λr:Zz×Bool=>a r.1 r.2) (λ_=>rfl) (λd=>?_);have b:len s=16:=by simpa using d
 have c:∀j:Int,0≤j→j<16→A j s=true:=by intro j e f;simp only[len] at b;simp only[A,Bl,js];omega
 refine rR (by rw[c 0 (by omega) (by omega),c 1 (by omega) (by omega)];rfl) ?_;exact Ha (K:=λr:Zz×Bool=>a r.1 r.2) rfl rfl
def nsh(b:x→I→Bool→α)(list_:u)(m:v)(a:Int)(r:I):α:=let c:x×Bool:=Eo list_ m a (lO r r.d) 16;cond (cond (!(Vd r)) true ((TG r)==0)) (b [] r false) (cond (!c.2) (b [] r false) (cond (t true (!((s (2*r.a))==0))) (b c.1 (⟨r.b,r.a,q5 (s (r.d+1)) (s (2*r.a)),r.c⟩:I) true) lf))
def D0(list_:u)(m:v)(a:Int)(r:I):x×I×Bool:=cond (cond (!(Vd r)) true ((TG r)==0)) ([],r,false) (cond (!(Eo list_ m a (lO r r.d) 16).2) ([],r,false) ((Eo list_ m a (lO r r.d) 16).1,⟨r.b,r.a,q5 (s (r.d+1)) (s (2*r.a)),r.c⟩,true))
theorem fv{l:u}{m:v}{d:Int}{r:I}(h:Vd r=true)(c:0<TG r)(a:(D0 l m d r).2.2=true):
  (D0 l m d r).2.1=⟨r.b,r.a,(D0 l m d r).2.1.d,r.c⟩∧Vd (D0 l m d r).2.1=true∧TG (D0 l m d r).2.1=TG r - 1:=by
 obtain⟨q,f,g,X,t,Z,Y,w,x⟩:=Xz h;unfold D0 at a ⊢;rw[h,show ((TG r)==0)=false from beq_eq_false_iff_ne.2 (by omega)] at a ⊢;simp only[ra,J] at a ⊢;cases i:(Eo l m d (lO r r.d) 16).2
 ·rw[i] at a;cases a
 simp only[ra,J];have e:q5 (s (r.d+1)) (s (2*r.a))=(r.d+1) % (2*r.a):=by rw[fg (n:=r.d+1),fg (n:=2*r.a)];exact uL (by omega)
 have b:(r.c - (r.d+1) % (2*r.a)) % (2*r.a)=TG r - 1:=by rw[f] at c g ⊢;rw[uM,Int.emod_emod_of_dvd _ (Int.dvd_refl _),←uM];generalize y:2*r.a=S at*;have z:=t0 (r.c - r.d) (show S≠0 by omega);have A:=t_ (r.c - r.d) (show 0<S by omega);rw[show r.c - (r.d+1)=(r.c - r.d) - 1 by omega,uM];have j:(1:Int) % S=1:=Int.emod_eq_of_lt (by omega) (by omega);rw[j];exact Int.emod_eq_of_lt (by omega) (by omega)
 have o:=t0 (r.d+1) (show 2*r.a≠0 by omega);have p:=t_ (r.d+1) (show 0<2*r.a by omega);have k:=ngc h o p (by rw[b];omega);rw[e];exact⟨trivial,k.1,k.2.trans b⟩
theorem ntB(b:x→I→Bool→α)(list_:u)(m:v)(a:Int)(r:I):nsh lf b list_ m a r=b (D0 list_ m a r).1 (D0 list_ m a r).2.1 (D0 list_ m a r).2.2:=by
 unfold nsh D0;dsimp only;refine U6 (K:=λr:x×I×Bool=>b r.1 r.2.1 r.2.2) (λ_=>rfl) (λc=>?_);refine U6 (K:=λr:x×I×Bool=>b r.1 r.2.1 r.2.2) (λ_=>rfl) (λ_=>?_);have d:Vd r=true:=by revert c;cases Vd r<;>simp
 have f:=OD d;have e:(!((s (2*r.a))==0))=true:=by rw[fg];simp;omega
 refine rR (ZY e) rfl
def lh(i:u→I→Bool→α)(list_:u)(b:Int)(o:u)(a k l m:Int)(p:Int→Int→Int→Int→u→α)(c d e f:Int)(j:u):α:=let g:x×I×Bool:=D0 list_ (⟨o⟩:v) b (⟨c,d,e,f⟩:I);let n:Zz×Bool:=UX g.1;let h:Zz:=n.1;cond (0<TG (⟨c,d,e,f⟩:I)) (cond (!g.2.2) (i [] (⟨a,k,l,m⟩:I) false) (cond (!n.2) (i [] (⟨a,k,l,m⟩:I) false) (cond (t true (Em 48 j [Zz.enc h])) (cond (cond (h.c==1) ((bits .and .i64 h.b 1) != 0) false) (i (j++[Zz.enc h]) g.2.1 true) (p g.2.1.b g.2.1.a g.2.1.d g.2.1.c (j++[Zz.enc h]))) lf))) (i j (⟨c,d,e,f⟩:I) true)
def Um(c:u→I→Bool→α)(N:Nat)(list_:u)(a:Int)(d:u)(b e f g:Int)(h:Nat):Int→Int→Int→Int→u→α:=bW (λ_ _ _ _ _=>lf) (lh lf c list_ a d b e f g) h
theorem nhd(c:u→I→Bool→α)(N:Nat)(list_:u)(a:Int)(d:u)(b e f g:Int)(h:Nat):Um lf c N list_ a d b e f g (h+1)=lh lf c list_ a d b e f g (Um lf c N list_ a d b e f g h):=rfl
def i_(lf:α)(b:u→I→Bool→α)(c:u→Int→Int→Int→Int→Int→Int→Int→Int→u→α)(list_:u)(m:v)(a:Int)(r:I):α:=cond (cond (!(Vd r)) true ((TG r)==0)) (b [] r false) (c m.a r.b r.a r.c r.c r.b r.a r.d r.c [])
def nk1(c:u→I→Bool→α)(N:Nat)(list_:u)(m:v)(a:Int)(r:I):α:=i_ lf c (λd b e f g=>Um lf c N list_ a d b e f g N) list_ m a r
def wh(list_:u)(m:v)(a:Int):Nat→I→u→u×I×Bool
 | 0,r,o=>(o,r,true)
 | n+1,r,o=>bif decide (0<TG r) then
   bif cond (!(D0 list_ m a r).2.2) true (!(UX (D0 list_ m a r).1).2) then ([],⟨r.b,r.a,r.c,r.c⟩,false)
   else bif cond ((UX (D0 list_ m a r).1).1.c==1) ((bits .and .i64 (UX (D0 list_ m a r).1).1.b 1) != 0) false then (o++[Zz.enc (UX (D0 list_ m a r).1).1],(D0 list_ m a r).2.1,true)
   else wh list_ m a n (D0 list_ m a r).2.1 (o++[Zz.enc (UX (D0 list_ m a r).1).1])
  else (o,r,true)
def cN(list_:u)(m:v)(a:Int)(r:I):u×I×Bool:=cond (cond (!(Vd r)) true ((TG r)==0)) ([],r,false) (wh list_ m a 16 r [])
theorem cW{r:I}(h:Vd r=true):Vd ⟨r.b,r.a,r.c,r.c⟩=true∧TG ⟨r.b,r.a,r.c,r.c⟩=0:=by
 obtain⟨c,d,f,g,i,a,b,j,l⟩:=Xz h;have e:(r.c - r.c) % (2*r.a)=0:=by rw[Int.sub_self];exact Int.zero_emod _
 have k:=ngc h a b (by rw[e];omega);exact⟨k.1,k.2.trans e⟩
theorem Wp{l:u}{m:v}{d:Int} :∀(n:Nat) (x:I) (o:u),Vd x=true→Vd (wh l m d n x o).2.1=true∧TG (wh l m d n x o).2.1≤TG x∧(wh l m d n x o).1.length≤o.length+n
 | 0,x,o,h=>⟨h,uN _,sS _⟩
 | n+1,x,o,h=>by
  unfold wh;by_cases e:0<TG x
  ·rw[Hd e,H];cases f:(D0 l m d x).2.2
   ·have k:=cW h;refine⟨k.1, ?_,so _⟩;show TG ⟨x.b,x.a,x.c,x.c⟩≤TG x;rw[k.2];omega
   obtain⟨a,b,c⟩:=fv h e f;cases (UX (D0 l m d x).1).2
   ·have k:=cW h;refine⟨k.1, ?_,so _⟩;show TG ⟨x.b,x.a,x.c,x.c⟩≤TG x;rw[k.2];omega
   simp only[ra,J];cases (cond ((UX (D0 l m d x).1).1.c==1) ((bits .and .i64 (UX (D0 l m d x).1).1.b 1) != 0) false)
   ·obtain⟨g,j,i⟩:=Wp (l:=l) (m:=m) (d:=d) n (D0 l m d x).2.1 (o++[Zz.enc (UX (D0 l m d x).1).1]) b;simp only[J];simp only[fK,I_,q4] at i;exact⟨g,by omega,by omega⟩
   ·exact⟨b,by show TG (D0 l m d x).2.1≤TG x;omega,by simp only[H,fK,I_,q4];omega⟩
  ·rw[ja e,J];exact⟨h,uN _,by show o.length≤_;omega⟩
theorem nCe{l:u}{m:v}{d:Int}{x:I}(h:Vd x=true)(g:TG x≠0):Vd (cN l m d x).2.1=true∧TG (cN l m d x).2.1<TG x∧(cN l m d x).1.length≤16:=by
 have f:=Xz h;have e:0<TG x:=by rw[f.2.1] at g ⊢;have:=t0 (x.c - x.d) (show 2*x.a≠0 by omega);omega
 unfold cN;rw[h,show ((TG x)==0)=false from beq_eq_false_iff_ne.2 g];simp only[ra,J];have i:=(Wp (l:=l) (m:=m) (d:=d) 16 x [] h).2.2;refine⟨(Wp 16 x [] h).1, ?_,by simpa using i⟩;show TG (wh l m d (15+1) x []).2.1<TG x;unfold wh;rw[Hd e,H];have k:=cW h;cases j:(D0 l m d x).2.2
 ·show TG ⟨x.b,x.a,x.c,x.c⟩<TG x;rw[k.2];exact e
 obtain⟨a,b,c⟩:=fv h e j;cases (UX (D0 l m d x).1).2
 ·show TG ⟨x.b,x.a,x.c,x.c⟩<TG x;rw[k.2];exact e
 simp only[ra,J];cases (cond ((UX (D0 l m d x).1).1.c==1) ((bits .and .i64 (UX (D0 l m d x).1).1.b 1) != 0) false)
 ·have:=(Wp (l:=l) (m:=m) (d:=d) 15 (D0 l m d x).2.1 ([]++[Zz.enc (UX (D0 l m d x).1).1]) b).2.1;simp only[J];omega
 ·simp only[H];omega
theorem nxM(e:u→I→Bool→α)(list_:u)(m:v)(d:Int)(r:I):∃N,nk1 lf e N list_ m d r=e (cN list_ m d r).1 (cN list_ m d r).2.1 (cN list_ m d r).2.2:=by
 unfold nk1 i_ cN;refine⟨20, ?_⟩;refine U6 (K:=λz:u×I×Bool=>e z.1 z.2.1 z.2.2) (λ_=>rfl) (λp=>?_);have k:Vd r=true:=by revert p;cases Vd r<;>simp
 have key:∀(n:Nat) (x:I) (o:u) (N:Nat),TG x≤n→n<N→n≤16→Vd x=true→x.b=r.b→x.a=r.a→x.c=r.c→o.length+n≤16→
   Um lf e 20 list_ d m.a r.b r.a r.c r.c N x.b x.a x.d x.c o=(λz:u×I×Bool=>e z.1 z.2.1 z.2.2) (wh list_ m d n x o):=by
  intro n
  induction n with
  | zero=>
   intro x o N s t Z l f g h Y;obtain⟨N,rfl⟩:=DF N;rw[nhd];simp only[lh,ja (show ¬0<TG (⟨x.b,x.a,x.d,x.c⟩:I) by show ¬0<TG x;omega),J,wh]
  | succ n w=>
   intro x o N s t Z l f g h Y;obtain⟨N,rfl⟩:=DF N;rw[nhd];have A:∀y:List DC,Em 48 o [y]=true:=λy=>W6 (by simp only[I_,q4];omega) (by omega);have B:(⟨x.b,x.a,x.d,x.c⟩:I)=x:=rfl;have C:(⟨m.a⟩:v)=m:=rfl;simp only[lh,wh,B,C,A,Oi,H];refine U6 (K:=λz:u×I×Bool=>e z.1 z.2.1 z.2.2) (λi=>?_) (λ_=>rfl);have i:=of_decide_eq_true i;have step:(D0 list_ m d x).2.2=true→Um lf e 20 list_ d m.a r.b r.a r.c r.c N (D0 list_ m d x).2.1.b (D0 list_ m d x).2.1.a (D0 list_ m d x).2.1.d (D0 list_ m d x).2.1.c (o++[Zz.enc (UX (D0 list_ m d x).1).1])=(λz:u×I×Bool=>e z.1 z.2.1 z.2.2) (wh list_ m d n (D0 list_ m d x).2.1 (o++[Zz.enc (UX (D0 list_ m d x).1).1])):=by
    intro j;obtain⟨a,b,c⟩:=fv l i j;refine w _ _ N (by omega) (by omega) (by omega) b ?_ ?_ ?_ (by simp only[fK,I_,q4];omega)
    ·rw[a];exact f
    ·rw[a];exact g
    ·rw[a];exact h
   cases j:(D0 list_ m d x).2.2
   ·simp only[ua,H,f,g,h]
   have step:=step j;simp only[ra,J];cases (UX (D0 list_ m d x).1).2
   ·simp only[ua,H,f,g,h]
   simp only[ra,J];refine U6 (K:=λz:u×I×Bool=>e z.1 z.2.1 z.2.2) (λ_=>rfl) (λ_=>step)
 obtain⟨D,E,F,G,X,W,V,L,M⟩:=Xz k;exact key 16 r [] 20 (by omega) (by omega) (by omega) k rfl rfl rfl (by simp)
def nEW(Z q:List DC):Bool:=cond ((r Z 0)==(r q 0)) (cond ((r Z 1)==(r q 1)) (cond ((r Z 2)==(r q 2)) (cond ((r Z 3)==(r q 3)) (cond ((r Z 4)==(r q 4)) (cond ((r Z 5)==(r q 5)) true false) false) false) false) false) false
def yq(a b:u):Bool:=cond ((len a) != (len b)) false (!(RP (λi r=> !(nEW r (q b i))) a 0))
def me(Z:List DC):List DC:=[.int (r Z 3),.int (r Z 2)]
def nt3(l:u):u:=VJ (l.tail.map me) (r (q l 0) 4) (r (q l 0) 5)
def Q5(l:u):Bool:=decide (l.length≤1000)
def N6(l:u):u×Int×Int×Bool:=cond (cond (len l<2) true (!(yq (nt3 l) l))) ([],0,0,false) (l.tail.map me,r (q l 0) 4,r (q l 0) 5,true)
def Cn(e:u→Int→Int→Bool→α)(f:u→Int→Int→u→Int→Int→α)(list_ x:u)(g:Int)(h:Int→u→α)(b:Int)(a:u):α:=let c:u:=VJ a (r (q list_ 0) 4) (r (q list_ 0) 5);let d:Int:=len c;cond (b<g) (cond (t true (A b x)) (cond (t true (Em 16 a ([[.int (r (q x (qC b)) 3),.int (r (q x (qC b)) 2)]]))) (h (s (b+1)) (a++([[.int (r (q x (qC b)) 3),.int (r (q x (qC b)) 2)]]))) lf) lf) (cond (t (t true (A 0 list_)) (A 0 list_)) (cond (d != (len list_)) (e [] 0 0 false) (f a (r (q list_ 0) 4) (r (q list_ 0) 5) c d 0)) lf)
def aZ(e:u→Int→Int→Bool→α)(list_ c:u)(size d:Int)(a:u)(f:Int)(g:Int→α)(b:Int):α:=cond (b<f) (cond (t (t true (A b a)) (A b list_)) (cond (!(cond ((r (q a (qC b)) 0)==(r (q list_ (qC b)) 0)) (cond ((r (q a (qC b)) 1)==(r (q list_ (qC b)) 1)) (cond ((r (q a (qC b)) 2)==(r (q list_ (qC b)) 2)) (cond ((r (q a (qC b)) 3)==(r (q list_ (qC b)) 3)) (cond ((r (q a (qC b)) 4)==(r (q list_ (qC b)) 4)) (cond ((r (q a (qC b)) 5)==(r (q list_ (qC b)) 5)) true false) false) false) false) false) false)) (e [] 0 0 false) (g (s (b+1)))) lf) (e c size d true)
def sM(d:u→Int→Int→Bool→α)(N:Nat)(list_ a:u)(size b:Int)(c:u)(e:Int)(f:Nat):Int→α:=bW (λ_=>lf) (aZ lf d list_ a size b c e) f
theorem nDv(d:u→Int→Int→Bool→α)(N:Nat)(list_ a:u)(size b:Int)(c:u)(e:Int)(f:Nat):sM lf d N list_ a size b c e (f+1)=aZ lf d list_ a size b c e (sM lf d N list_ a size b c e f):=rfl
def UT(d:u→Int→Int→Bool→α)(N:Nat)(list_ x:u)(e:Int)(f:Nat):Int→u→α:=bW (λ_ _=>lf) (Cn lf d (λa size b c h=>sM lf d N list_ a size b c h N) list_ x e) f
theorem nwf(d:u→Int→Int→Bool→α)(N:Nat)(list_ x:u)(e:Int)(f:Nat)(g:Int)(a:u):UT lf d N list_ x e (f+1) g a=Cn lf d (λa size b c h=>sM lf d N list_ a size b c h N) list_ x e (UT lf d N list_ x e f) g a:=rfl
def gI(a:u→Int→Int→Bool→α)(b:u→Int→Int→u→α)(list_:u):α:=cond (len list_<2) (a [] 0 0 false) (cond (t true (nz list_ 1)) (b (bZ list_ 1) (len (bZ list_ 1)) 0 []) lf)
def QO(a:u→Int→Int→Bool→α)(N:Nat)(list_:u):α:=gI lf a (λx b=>UT lf a N list_ x b N) list_
theorem nrG(a:u→Int→Int→Bool→α)(list_:u)(f:IJ (.sl d_) (.sl list_))(g:Q5 list_=true):∃N,QO lf a N list_=a (N6 list_).1 (N6 list_).2.1 (N6 list_).2.2.1 (N6 list_).2.2.2:=by
 obtain⟨j,_⟩:=Nh f;have w:list_.length≤1000:=of_decide_eq_true g;refine⟨list_.length+2, ?_⟩;unfold QO gI N6;by_cases e:len list_<2
 ·simp only[Hd e,H]
 have h2':2≤list_.length:=by simp only[len] at e;omega
 have k:nz list_ 1=true:=by simp only[nz,Bl,js];omega
 have l:bZ list_ 1=list_.tail:=by simp[bZ]
 have m:A 0 list_=true:=by simp only[A,Bl,js];omega
 simp only[ja e,J,k,l,Oi,H];have key:=gq list_.tail (λn i o=>UT lf a (list_.length+2) list_ list_.tail (len list_.tail) n i o) (λ_ X c o=>c (o++[me X])) (λo=>cond (!(yq (VJ o (r (q list_ 0) 4) (r (q list_ 0) 5)) list_)) (a [] 0 0 false) (a o (r (q list_ 0) 4) (r (q list_ 0) 5) true)) 0 (λi X c d s h=>h _ (by simp)) ?_ ?_ list_.tail.length 0 [] (list_.length+2) (by omega) (by rw[List.length_tail];omega) rfl
 ·refine key.trans ?_;rw[tS,npq,List.nil_append];exact Ha (K:=λz:u×Int×Int×Bool=>a z.1 z.2.1 z.2.2.1 z.2.2.2) rfl rfl
 ·intro n i o b p;have Y:i<list_.length:=by rw[List.length_tail] at b;omega
  rw[nwf];have t:∀y:List DC,Em 16 o [y]=true:=λy=>W6 (by simp only[I_,q4];omega) (by omega);simp only[Cn,sg b,mZ b,jy Y j,eR,t,Oi,H];rfl
 ·intro n o p;rw[nwf];simp only[Cn,Ns,m,Oi,H,J];generalize VJ o (r (q list_ 0) 4) (r (q list_ 0) 5)=W;unfold yq;cases Z:(len W) != (len list_)
  ·have v:W.length=list_.length:=by
    have:len W=len list_:=by simpa using Z
    simp only[len] at this;omega
   simp only[J,Bool.not_not];refine (TR W (λn i=>sM lf a (list_.length+2) list_ o (r (q list_ 0) 4) (r (q list_ 0) 5) W (len W) n i) (λi X c=>cond (!(nEW X (q list_ i))) (a [] 0 0 false) c) (a o (r (q list_ 0) 4) (r (q list_ 0) 5) true) ?_ ?_ (list_.length+2) (by omega)).trans ?_
   ·intro n i b;show sM lf a (list_.length+2) list_ o (r (q list_ 0) 4) (r (q list_ 0) 5) W (len W) (n+1) (i:Int)=_;rw[nDv];simp only[aZ,sg b,mZ b,mZ (show i<list_.length by omega),jy b (show W.length≤9223372036854775807 by omega),eR,Oi,H];rfl
   ·intro n;show sM lf a (list_.length+2) list_ o (r (q list_ 0) 4) (r (q list_ 0) 5) W (len W) (n+1) (W.length:Int)=_;rw[nDv];simp only[aZ,Ns,J]
   ·exact Sz (λi X=> !(nEW X (q list_ i))) (a [] 0 0 false) (a o (r (q list_ 0) 4) (r (q list_ 0) 5) true) W 0
  ·rfl
def dN(e:x→Bool→α)(list_:u)(b:Int)(a:u)(h:Int)(i:u)(j:x→Int→α)(d:x)(c:Int):α:=let f:x×Bool:=Eo list_ (⟨i⟩:v) b (r (q a (qC c)) 0) (r (q a (qC c)) 1);let g:x:=f.1;cond (c<h) (cond (t true (A c a)) (cond (!f.2) (e [] false) (cond (t true (EI d g)) (j (d++g) (s (c+1))) lf)) lf) (e d true)
def jL(c:x→Bool→α)(N:Nat)(list_:u)(a:Int)(b:u)(d:Int)(e:u)(f:Nat):x→Int→α:=bW (λ_ _=>lf) (dN lf c list_ a b d e) f
theorem noB(c:x→Bool→α)(N:Nat)(list_:u)(a:Int)(b:u)(d:Int)(e:u)(f:Nat):jL lf c N list_ a b d e (f+1)=dN lf c list_ a b d e (jL lf c N list_ a b d e f):=rfl
def nti(lf:α)(c:x→Bool→α)(d:Int→u→x→Int→α)(list_:u)(m:v)(b:Int)(a:u):α:=cond (!(HT a)) (c [] false) (d (len a) m.a [] 0)
def nvO(c:x→Bool→α)(N:Nat)(list_:u)(m:v)(a:Int)(b:u):α:=nti lf c (λd e=>jL lf c N list_ a b d e N) list_ m a b
def Xc(list_:u)(m:v)(a:Int)(e:List DC)(s:x):Bool:= !(Eo list_ m a (r e 0) (r e 1)).2
def Ft(list_:u)(m:v)(a:Int)(e:List DC)(s:x):x:=s++(Eo list_ m a (r e 0) (r e 1)).1
def U_(list_:u)(m:v)(a:Int)(b:u):x×Bool:=cond (!(HT b)) ([],false) (Vy (Xc list_ m a) (Ft list_ m a) ([],false) (λs=>(s,true)) b [])
theorem nsI{l:u}{m:v}{d:Int}{pieces:u}(b:IJ (.sl sK) (.sl m.a)):(U_ l m d pieces).1.length≤65536:=by
 unfold U_;cases c:HT pieces
 ·exact so _
 have f:=nCV c;simp only[ra,J];have key:∀(e:u) (s:x),s.length+e.length*4096≤65536→(Vy (Xc l m d) (Ft l m d) ([],false) (λs=>(s,true)) e s).1.length≤65536:=by
  intro e
  induction e with
  | nil=>intro s a;simp only[Vy];omega
  | cons Z h g=>
   intro s a;simp only[Vy];cases Xc l m d Z s
   ·refine g _ ?_;have:=(w5 (list_:=l) (m:=m) (eo:=d) (eQ:=r Z 0) (n:=r Z 1) b).2;simp only[Ft,fK,I_] at a ⊢;omega
   ·exact so _
 exact key pieces [] (by simp only[q4];omega)
theorem nhD(b:x→Bool→α)(list_:u)(m:v)(eo:Int)(a:u)(f:Q v.ct m.enc)(g:IJ (.sl o9) (.sl a)):∃N,nvO lf b N list_ m eo a=b (U_ list_ m eo a).1 (U_ list_ m eo a).2:=by
 obtain⟨h,_⟩:=Nh g;have d:=v.PG f;unfold nvO nti U_;refine⟨a.length+1, ?_⟩;refine U6 (K:=λz:x×Bool=>b z.1 z.2) (λ_=>rfl) (λj=>?_);have k:=nCV (Vk j);refine (G8 a (λn i (s:x)=>jL lf b (a.length+1) list_ eo a (len a) m.a n s i) (Xc list_ m eo) (Ft list_ m eo) (b [] false) (λs=>b s true) (λi s=>s.length≤i*4096) ?_ ?_ ?_ [] (by simp)).trans ?_
 ·intro i s c e _;have:=(w5 (list_:=list_) (m:=m) (eo:=eo) (eQ:=r (q a i) 0) (n:=r (q a i) 1) d).2;unfold Ft;rw[fK];omega
 ·intro n i s c e;have p:=(w5 (list_:=list_) (m:=m) (eo:=eo) (eQ:=r (q a i) 0) (n:=r (q a i) 1) d).2;have l:EI s (Eo list_ m eo (r (q a i) 0) (r (q a i) 1)).1=true:=O4 (by omega);show jL lf b (a.length+1) list_ eo a (len a) m.a (n+1) s (i:Int)=_;rw[noB];have o:(⟨m.a⟩:v)=m:=rfl;simp only[dN,sg c,mZ c,o,l,jy c h,eR,Oi,H];rfl
 ·intro n s e;show jL lf b (a.length+1) list_ eo a (len a) m.a (n+1) s (a.length:Int)=_;rw[noB];simp only[dN,Ns,J]
 ·exact jP (λz:x×Bool=>b z.1 z.2) (Xc list_ m eo) (Ft list_ m eo) (x:=([],false)) (λs=>(s,true)) a []
def nzV(a:xW→Bool→α)(s:x):α:=let b:xW:=(⟨0,0,0,0,[]⟩:xW);let c:Int:=bits .or .i64 (PJ .i64 (CW s 0) 32) (Q2 s 2);let d:Int:=bits .or .i64 (PJ .i64 (CW s 6) 32) (Q2 s 8);let e:xW:=(⟨c,d,CW s 14,CW s 16,bZ s 18⟩:xW);let f:xW:=(⟨c,d,(-1),CW s 12,bZ s 14⟩:xW);cond (len s<14) (a b false) (cond (t true (nz s 14)) (cond (cond ((CW s 12)==33024) (decide (18≤len s)) false) (cond (t true (nz s 18)) (cond (!(zA e)) (a b false) (a e true)) lf) (cond (!(zA f)) (a b false) (a f true))) lf)
theorem aV(a:Int):PJ .i64 a 32=s (a*4294967296):=rfl
theorem wq(s:x)(a:Int): -1≤CW s a∧CW s a≤65535:=by have b:=Te s a;have c0:=UE s a;have c:=Te s (a+1);have d:=UE s (a+1);unfold CW;cases !(YK s a 2)<;>simp only[H,J]<;>omega
theorem To{s:x}{a:Int}(b:0≤a)(h:a+2≤len s)(c:s.length≤9223372036854775807):0≤CW s a:=by have d:=Te s a;have e:=Te s (a+1);unfold CW;rw[(within_iff c).2 ⟨b,by omega,h⟩];simp only[ra,J];omega
theorem naK{s:x}{a:Int}(b:0≤a)(h:a+2≤len s)(c:s.length≤9223372036854775807):CW s a=A2 s a*256+A2 s (a+1):=by unfold CW;rw[(within_iff c).2 ⟨b,by omega,h⟩];rfl
theorem Wg{s:x}{a:Int}(b:0≤a)(h:a+4≤len s):0≤Q2 s a:=by have c:=Te s a;have d:=Te s (a+1);have e:=Te s (a+2);have f:=Te s (a+3);unfold Q2;rw[ja (show ¬a<0 by omega),ja (show ¬len s<a+4 by omega)];simp only[J];omega
theorem xF(s:x)(a:Int): -1≤Q2 s a∧Q2 s a≤4294967295:=by have b:=Te s a;have c0:=UE s a;have c:=Te s (a+1);have d:=UE s (a+1);have e:=Te s (a+2);have f:=UE s (a+2);have g:=Te s (a+3);have h:=UE s (a+3);unfold Q2;cases (cond (a<0) true (decide (len s<a+4)))<;>simp only[H,J]<;>omega
def QM(s:x):xW:=⟨CW s 0*4294967296+Q2 s 2,CW s 6*4294967296+Q2 s 8,cond ((CW s 12)==33024) (CW s 14) (-1),cond ((CW s 12)==33024) (CW s 16) (CW s 12),s.drop (mV s).toNat⟩
def Ab(s:x):xW×Bool:=cond (len s<18) (⟨0,0,0,0,[]⟩,false) (cond (!(zA (QM s))) (⟨0,0,0,0,[]⟩,false) (QM s,true))
theorem nBM{e:xW}(h:zA e=true):46≤e.a.length:=(nwX h).2.2.2.2
theorem nqK(d:xW→Bool→α)(s:x)(i:IJ .str (.str s)):nzV lf d s=d (Ab s).1 (Ab s).2:=by
 have g:=cj i;unfold nzV Ab;dsimp only;by_cases c:len s<14
 ·rw[Hd c,Hd (show len s<18 by omega)];rfl
 rw[ja c,J];by_cases b:len s<18
 ·have f:nz s 14=true:=by simp only[len] at c;simp only[nz,Bl,js];omega
  have j:∀e:xW,e.a=bZ s 14→zA e=false:=by
   intro e k;cases h:zA e
   ·rfl
   ·have:=nBM h;rw[k] at this;simp only[bZ,ub,sI] at this;simp only[len] at b c;omega
  have l:(cond ((CW s 12)==33024) (decide (18≤len s)) false)=false:=by rw[ja (show ¬18≤len s by omega)];cases (CW s 12)==33024<;>rfl
  rw[Hd b,l,f];simp only[Oi,H,J];rw[j _ rfl];rfl
 have b:18≤len s:=by omega
 rw[Hd b,ja (show ¬len s<18 by omega),J];have f:nz s 14=true:=by simp only[len] at b;simp only[nz,Bl,js];omega
 have m:nz s 18=true:=by simp only[len] at b;simp only[nz,Bl,js];omega
 have o:bZ s 14=s.drop 14:=by simp[bZ]
 have p:bZ s 18=s.drop 18:=by simp[bZ]
 have q:=wq s 0;have r:=wq s 6;have t:=To (s:=s) (a:=0) (by omega) (by omega) g;have u:=To (s:=s) (a:=6) (by omega) (by omega) g;have v:=xF s 2;have w:=xF s 8;have y:=Wg (s:=s) (a:=2) (by omega) (by omega);have A:=Wg (s:=s) (a:=8) (by omega) (by omega);rw[aV,aV,fg (n:=CW s 0*4294967296),fg (n:=CW s 6*4294967296)];rw[eL 32 (x:=CW s 0*4294967296) (by omega) (by omega) (by omega) (by omega) (by omega) (by omega),eL 32 (x:=CW s 6*4294967296) (by omega) (by omega) (by omega) (by omega) (by omega) (by omega)];rw[show (cond ((CW s 12)==33024) true false)=((CW s 12)==33024) by cases (CW s 12)==33024<;>rfl];simp only[f,m,o,p,Oi,H];unfold QM mV;cases (CW s 12)==33024
 ·simp only[J];exact Ha (K:=λz:xW×Bool=>d z.1 z.2) rfl rfl
 ·simp only[H];exact Ha (K:=λz:xW×Bool=>d z.1 z.2) rfl rfl
def nAG(a:xW→Bool→α)(Z:x):α:=let b:xW:=(⟨0,0,0,0,[]⟩:xW);let c:Int:=s ((PJ .i64 (CW Z 0) 32)+(Q2 Z 2));let d:Int:=s ((PJ .i64 (CW Z 6) 32)+(Q2 Z 8));let e:xW:=(⟨c,d,CW Z 14,CW Z 16,bZ Z 18⟩:xW);let f:xW:=(⟨c,d,(-1),CW Z 12,bZ Z 14⟩:xW);cond (len Z<18) (a b false) (cond (t true (nz Z 14)) (cond ((CW Z 12)==33024) (cond (t true (nz Z 18)) (cond (!(zA e)) (a b false) (a e true)) lf) (cond (!(zA f)) (a b false) (a f true))) lf)
theorem nss(b:xW→Bool→α)(s:x)(e:IJ .str (.str s)):nAG lf b s=b (Ab s).1 (Ab s).2:=by
 have d:=cj e;unfold nAG Ab;dsimp only;refine U6 (K:=λz:xW×Bool=>b z.1 z.2) (λ_=>rfl) (λf=>?_);have c:18≤len s:=by have:=of_decide_eq_false f;omega
 have g:nz s 14=true:=by simp only[len] at c;simp only[nz,Bl,js];omega
 have h:nz s 18=true:=by simp only[len] at c;simp only[nz,Bl,js];omega
 have i:bZ s 14=s.drop 14:=by simp[bZ]
 have j:bZ s 18=s.drop 18:=by simp[bZ]
 have k:=wq s 0;have l:=wq s 6;have m:=To (s:=s) (a:=0) (by omega) (by omega) d;have o:=To (s:=s) (a:=6) (by omega) (by omega) d;have p:=xF s 2;have q:=xF s 8;have r:=Wg (s:=s) (a:=2) (by omega) (by omega);have t:=Wg (s:=s) (a:=8) (by omega) (by omega);rw[aV,aV,fg (n:=CW s 0*4294967296),fg (n:=CW s 6*4294967296)];rw[fg (n:=CW s 0*4294967296+Q2 s 2),fg (n:=CW s 6*4294967296+Q2 s 8)];simp only[g,h,i,j,Oi,H];unfold QM mV;cases (CW s 12)==33024
 ·simp only[J];exact Ha (K:=λz:xW×Bool=>b z.1 z.2) rfl rfl
 ·simp only[H];exact Ha (K:=λz:xW×Bool=>b z.1 z.2) rfl rfl
def nzH(a:qw→Bool→α)(Z:x):α:=let b:qw:=(⟨0,0,0,0,0,0,[]⟩:qw);let c:qw:=(⟨s (A2 Z 1),CW Z 4,s (A2 Z 8),s (A2 Z 9),Q2 Z 12,Q2 Z 16,Q3 Z 20 (CW Z 2)⟩:qw);let d:x×Bool:=yf c;let e:Bool:= !d.2;cond (cond (len Z<20) true (cond (CW Z 2<20) true (decide (len Z<CW Z 2)))) (a b false) (cond (t (t (t (t true (A 1 Z)) (A 8 Z)) (A 9 Z)) (GK Z 20 (CW Z 2))) (cond (pk e true (t true (az Z (CW Z 2)))) (cond (cond e true (!(d.1==(C1 Z (CW Z 2))))) (a b false) (a c true)) lf) lf)
def ntf(Z:x):qw:=⟨s (A2 Z 1),CW Z 4,s (A2 Z 8),s (A2 Z 9),Q2 Z 12,Q2 Z 16,Q3 Z 20 (CW Z 2)⟩
def UP(s:x):qw×Bool:=cond (cond (len s<20) true (cond (CW s 2<20) true (decide (len s<CW s 2)))) (⟨0,0,0,0,0,0,[]⟩,false) (cond (cond (!(yf (ntf s)).2) true (!((yf (ntf s)).1==(C1 s (CW s 2))))) (⟨0,0,0,0,0,0,[]⟩,false) (ntf s,true))
theorem nAe(c:qw→Bool→α)(s:x)(g:IJ .str (.str s)):nzH lf c s=c (UP s).1 (UP s).2:=by
 have l:=cj g;unfold nzH UP;dsimp only;refine U6 (K:=λz:qw×Bool=>c z.1 z.2) (λ_=>rfl) (λa=>?_);have h:20≤len s∧20≤CW s 2∧CW s 2≤len s:=by
  by_cases b:len s<20
  ·rw[Hd b] at a;cases a
  by_cases e:CW s 2<20
  ·rw[ja b,Hd e] at a;cases a
  by_cases d:len s<CW s 2
  ·rw[ja b,ja e,Hd d] at a;cases a
  omega
 obtain⟨b,e,d⟩:=h;have f:∀j:Int,0≤j→j<20→A j s=true:=by intro j m n;simp only[len] at b;simp only[A,Bl,js];omega
 have i:GK s 20 (CW s 2)=true:=by simp only[len] at d;simp only[GK,Bl,js];omega
 have k:az s (CW s 2)=true:=by simp only[len] at d;simp only[az,Bl,js];omega
 refine rR (by rw[f 1 (by omega) (by omega),f 8 (by omega) (by omega),f 9 (by omega) (by omega),i];rfl) ?_;refine rR (Wi (λ_=>rfl) (λ_=>ZY k)) ?_;exact Ha (K:=λz:qw×Bool=>c z.1 z.2) rfl rfl
def frI(b:EP→Bool→α)(c d a:Int)(Z:x):α:=let f:EP:=(⟨a,CW Z 0,CW Z 2,Q2 Z 4,Q2 Z 8,s (A2 Z 13),CW Z 14,bZ Z 20⟩:EP);let g:x×Bool:=ic c d f;let e:EP:=(⟨0,0,0,0,0,0,0,[]⟩:EP);let h:EP:=(⟨a,CW Z 0,CW Z 2,0,0,0,0,bZ Z 8⟩:EP);let i:x×Bool:=ic c d h;cond (cond (a==6) (decide (20≤len Z)) false) (cond (t true (A 13 Z)) (cond (t true (nz Z 20)) (cond (cond (!g.2) true (!(g.1==Z))) (b e false) (b f true)) lf) lf) (cond (cond (a==17) (decide (8≤len Z)) false) (cond (t true (nz Z 8)) (cond (cond (!i.2) true (!(i.1==Z))) (b e false) (b h true)) lf) (b e false))
def nh0(a:Int)(Z:x):EP:=⟨a,CW Z 0,CW Z 2,Q2 Z 4,Q2 Z 8,s (A2 Z 13),CW Z 14,bZ Z 20⟩
def nmx(a:Int)(s:x):EP:=⟨a,CW s 0,CW s 2,0,0,0,0,bZ s 8⟩
def nl2(a b:Int)(s:x)(q:EP):EP×Bool:=cond (cond (!(ic a b q).2) true (!((ic a b q).1==s))) (⟨0,0,0,0,0,0,0,[]⟩,false) (q,true)
def kK(b c a:Int)(s:x):EP×Bool:=cond (cond (a==6) (decide (20≤len s)) false) (nl2 b c s (nh0 a s)) (cond (cond (a==17) (decide (8≤len s)) false) (nl2 b c s (nmx a s)) (⟨0,0,0,0,0,0,0,[]⟩,false))
theorem njH(d:EP→Bool→α)(b c a:Int)(s:x)(i:IJ .str (.str s)):frI lf d b c a s=d (kK b c a s).1 (kK b c a s).2:=by
 have l:=cj i;unfold frI kK;dsimp only;refine U6 (K:=λz:EP×Bool=>d z.1 z.2) (λf=>?_) (λ_=>?_)
 ·have e:20≤len s:=by
   revert f;cases a==6
   ·intro h;cases h
   ·exact of_decide_eq_true
  have j:A 13 s=true:=by simp only[len] at e;simp only[A,Bl,js];omega
  have g:nz s 20=true:=by simp only[len] at e;simp only[nz,Bl,js];omega
  refine rR (ZY j) (rR (ZY g) ?_);exact Ha (K:=λz:EP×Bool=>d z.1 z.2) rfl rfl
 ·refine U6 (K:=λz:EP×Bool=>d z.1 z.2) (λf=>?_) (λ_=>rfl);have k:8≤len s:=by
   revert f;cases a==17
   ·intro h;cases h
   ·exact of_decide_eq_true
  have g:nz s 8=true:=by simp only[len] at k;simp only[nz,Bl,js];omega
  refine rR (ZY g) ?_;exact Ha (K:=λz:EP×Bool=>d z.1 z.2) rfl rfl
def Ak(a:N→Int→α)(s:x):α:=let b:N:=(⟨0,0,0,0,0,0,0,0,(⟨0,0,0,0,0,0,0,[]⟩:EP)⟩:N);let c:EP×Bool:=kK (((UP (((Ab s).1).a)).1).b) (((UP (((Ab s).1).a)).1).d) (((UP (((Ab s).1).a)).1).e) (((UP (((Ab s).1).a)).1).a);let d:N:=(⟨((Ab s).1).d,((Ab s).1).b,((Ab s).1).e,((UP (((Ab s).1).a)).1).f,((UP (((Ab s).1).a)).1).g,((UP (((Ab s).1).a)).1).c,((UP (((Ab s).1).a)).1).b,((UP (((Ab s).1).a)).1).d,c.1⟩:N);cond (cond (!((Ab s).2)) true ((((Ab s).1).c) != 2048)) (a b 2) (cond (!((UP (((Ab s).1).a)).2)) (a b 3) (cond (!c.2) (a b 4) (cond (!(Tp d)) (a b 5) (a d 0))))
def BT(s:x):N×Int:=Ak (λa b=>(a,b)) s
theorem nyW(a:N→Int→α)(s:x):Ak a s=a (BT s).1 (BT s).2:=by exact Ha (K:=λr:N×Int=>a r.1 r.2) rfl (Ha (K:=λr:N×Int=>a r.1 r.2) rfl (Ha (K:=λr:N×Int=>a r.1 r.2) rfl (Ha (K:=λr:N×Int=>a r.1 r.2) rfl rfl)))
def ncD(b:x→α)(s:x):α:=let a:x:=toStr ([[.int (sL .u8 (bq s))],[.int (sL .u8 (I4 .i64 (bq s) 8))],[.int (sL .u8 (I4 .i64 (bq s) 16))],[.int (sL .u8 (I4 .i64 (bq s) 24))]]);cond (t true (EI s a)) (b (s++a)) lf
def Yl(s:x):x:=s++toStr ([[.int (sL .u8 (bq s))],[.int (sL .u8 (I4 .i64 (bq s) 8))],[.int (sL .u8 (I4 .i64 (bq s) 16))],[.int (sL .u8 (I4 .i64 (bq s) 24))]])
theorem nD1(a:x→α)(s:x)(b:U s=true):ncD lf a s=a (Yl s):=by have c:s.length≤4294967296:=of_decide_eq_true b;unfold ncD;exact rR (ZY (O4 (by rw[Sq];simp only[I_,q4];omega))) rfl
def nk_(a:x→Bool→α)(p:N):α:=cond (!(Dc p)) (a [] false) (cond (!((O3 p).2)) (a [] false) (cond (t true (U ((O3 p).1))) (a (Yl ((O3 p).1)) true) lf))
def YA(p:N):x×Bool:=cond (!(Dc p)) ([],false) (Yl (O3 p).1,true)
theorem naL{p:N}(h:Dc p=true):Tp p=true:=by unfold Dc sH at h;revert h;cases Tp p<;>simp
theorem nxp(a:x→Bool→α)(p:N):nk_ lf a p=a (YA p).1 (YA p).2:=by have d:=Pf p;have b:U (O3 p).1=true:=Hd (by omega);unfold nk_ YA;refine U6 (K:=λz:x×Bool=>a z.1 z.2) (λ_=>rfl) (λc=>?_);rw[zV,naL (Vk c)];simp only[ra,J];exact rR (ZY b) rfl
def nca(a:x→Bool→α)(p:N):α:=cond (!(Dc p)) (a [] false) (cond (t true (U ((O3 p).1))) (a (Yl ((O3 p).1)) true) lf)
theorem npf(a:x→Bool→α)(p:N):nca lf a p=a (YA p).1 (YA p).2:=by have c:=Pf p;have b:U (O3 p).1=true:=Hd (by omega);unfold nca YA;refine U6 (K:=λz:x×Bool=>a z.1 z.2) (λ_=>rfl) (λd=>?_);exact rR (ZY b) rfl
def GZ(d:u→α)(list_:u)(e:Int)(c:Int→u→α)(a:Int)(b:u):α:=cond (a<e) (cond (t true (A a list_)) (cond (YA (N.nd (q list_ (qC a)) 0)).2 (cond (t true (Em 16 b ([[.str ((YA (N.nd (q list_ (qC a)) 0)).1)]]))) (c (s (a+1)) (b++([[.str ((YA (N.nd (q list_ (qC a)) 0)).1)]]))) lf) (c (s (a+1)) b)) lf) (d b)
def R4(a:u→α)(N:Nat)(list_:u)(b:Int)(c:Nat):Int→u→α:=bW (λ_ _=>lf) (GZ lf a list_ b) c
theorem nsm(a:u→α)(N:Nat)(list_:u)(b:Int)(c:Nat):R4 lf a N list_ b (c+1)=GZ lf a list_ b (R4 lf a N list_ b c):=rfl
def vv(lf:α)(b:u→α)(a:Int→Int→u→α)(list_:u):α:=a (len list_) 0 []
def neR(a:u→α)(N:Nat)(list_:u):α:=vv lf a (λb=>R4 lf a N list_ b N) list_
def Oo(l:u)(i:Nat)(o:u):u:=cond (YA (N.nd (q l i) 0)).2 (o++[[.str (YA (N.nd (q l i) 0)).1]]) o
def tB(l:u):Bool:=decide (l.length≤1000)
def ae(l:u):u:=kM (Oo l) l.length 0 []
theorem nhZ(l:u):∀(m i:Nat) (o:u),(kM (Oo l) m i o).length≤o.length+m
 | 0,_,_=>sS _
 | m+1,i,o=>by
  have:=nhZ l m (i+1) (Oo l i o);have a:(Oo l i o).length≤o.length+1:=by
   unfold Oo;cases (YA (N.nd (q l i) 0)).2
   ·simp only[J];omega
   ·simp only[H,fK,I_,q4];omega
  simp only[kM];omega
theorem nx9(a:u→α)(list_:u)(d:IJ (.sl t8) (.sl list_))(e:tB list_=true):∃Z,neR lf a Z list_=a (ae list_):=by
 obtain⟨f,_⟩:=Nh d;have h:list_.length≤1000:=of_decide_eq_true e;refine⟨list_.length+1, ?_⟩;unfold neR vv ae;refine (je list_.length (λn i o=>R4 lf a (list_.length+1) list_ (len list_) n i o) (Oo list_) a (λi o=>o.length≤i) ?_ ?_ ?_ (list_.length+1) [] (so _) (by omega))
 ·intro i o b c;unfold Oo;cases (YA (N.nd (q list_ i) 0)).2
  ·simp only[J];omega
  ·simp only[H,fK,I_,q4];omega
 ·intro n i o b c;show R4 lf a (list_.length+1) list_ (len list_) (n+1) (i:Int) o=_;rw[nsm];have g:∀y:List DC,Em 16 o [y]=true:=λy=>W6 (by simp only[I_,q4];omega) (by omega);simp only[GZ,sg b,mZ b,jy b f,g,eR,Oi,H];unfold Oo;cases (YA (N.nd (q list_ i) 0)).2<;>rfl
 ·intro n o c;show R4 lf a (list_.length+1) list_ (len list_) (n+1) (list_.length:Int) o=_;rw[nsm];simp only[GZ,Ns,J]
def zy(Z:u→α)(size:Int)(a:x)(c d e f g h i j l m n o p q r:Int)(X:Int→u→α)(k:Int)(b:u):α:=let Y:Int:=s ((s (k+1))*size);cond (s (k*size)<len a) (cond (Y<len a) (cond (t true (GK a (s (k*size)) Y)) (cond (t true (Em 136 b ([[.int c,.int d,.int e,.int f,.int (q5 (s (g+k)) 65536),.int h,.int i,.int j,.int l,.int m,.int n,.int (q5 (s (o+(s (k*size)))) 4294967296),.int p,.int (bits .andNot .i64 q 9),.int r,.str (Q3 a (s (k*size)) Y)]]))) (X (s (k+1)) (b++([[.int c,.int d,.int e,.int f,.int (q5 (s (g+k)) 65536),.int h,.int i,.int j,.int l,.int m,.int n,.int (q5 (s (o+(s (k*size)))) 4294967296),.int p,.int (bits .andNot .i64 q 9),.int r,.str (Q3 a (s (k*size)) Y)]]))) lf) lf) (cond (t true (GK a (s (k*size)) (len a))) (cond (t true (Em 136 b ([[.int c,.int d,.int e,.int f,.int (q5 (s (g+k)) 65536),.int h,.int i,.int j,.int l,.int m,.int n,.int (q5 (s (o+(s (k*size)))) 4294967296),.int p,.int q,.int r,.str (Q3 a (s (k*size)) (len a))]]))) (X (s (k+1)) (b++([[.int c,.int d,.int e,.int f,.int (q5 (s (g+k)) 65536),.int h,.int i,.int j,.int l,.int m,.int n,.int (q5 (s (o+(s (k*size)))) 4294967296),.int p,.int q,.int r,.str (Q3 a (s (k*size)) (len a))]]))) lf) lf)) (Z b)
def DM(b:u→α)(N:Nat)(size:Int)(a:x)(c d e f g h i j k l m n o p q:Int)(r:Nat):Int→u→α:=bW (λ_ _=>lf) (zy lf b size a c d e f g h i j k l m n o p q) r
theorem nfu(b:u→α)(N:Nat)(size:Int)(a:x)(c d e f g h i j k l m n o p q:Int)(r:Nat):DM lf b N size a c d e f g h i j k l m n o p q (r+1)=zy lf b size a c d e f g h i j k l m n o p q (DM lf b N size a c d e f g h i j k l m n o p q r):=rfl
def njM(lf:α)(a:u→α)(b:x→Int→Int→Int→Int→Int→Int→Int→Int→Int→Int→Int→Int→Int→Int→Int→Int→u→α)(p:N)(size:Int):α:=cond (cond (!(Tp p)) true (!(D size 1 128))) (a []) (cond (cond (p.a.c != 6) true (decide (len p.a.a≤size))) (a [N.enc p]) (b p.a.a p.h p.i p.e p.f p.g p.c p.b p.d p.a.c p.a.f p.a.e p.a.d p.a.g p.a.b p.a.h 0 []))
def nsp(b:u→α)(Z:Nat)(p:N)(size:Int):α:=njM lf b (λa c d e f g h i j k l m n o q r=>DM lf b Z size a c d e f g h i j k l m n o q r Z) p size
theorem Gb{p:N}(h:Tp p=true):p.a.a.length≤320:=by
 have a:B5 p.a=true:=by unfold Tp yU at h;revert h;cases D p.h 0 281474976710655<;>cases D p.i 0 281474976710655<;>cases D p.e (-1) 4095<;>cases D p.f 0 255<;>cases D p.c 0 255<;>cases D p.g 0 65535<;>cases D p.b 0 4294967295<;>cases D p.d 0 4294967295<;>cases B5 p.a<;>simp
 exact D3 a
def nvx(p:N)(size:Int)(k:Nat):x:=Q3 p.a.a ((k:Int)*size) (DB (len p.a.a) (((k:Int)+1)*size))
def sn(p:N)(size:Int)(k:Nat):List DC:=[.int p.h,.int p.i,.int p.e,.int p.f,.int (q5 (s (p.g+(k:Int))) 65536),.int p.c,.int p.b,.int p.d,.int p.a.c,.int p.a.f,.int p.a.e,.int (q5 (s (p.a.d+(k:Int)*size)) 4294967296),.int p.a.g,.int (cond (((k:Int)+1)*size<len p.a.a) (bits .andNot .i64 p.a.b 9) p.a.b),.int p.a.h,.str (nvx p size k)]
def qL(p:N)(size:Int):Nat→Nat→u→u
 | 0,_,o=>o
 | m+1,k,o=>cond ((k:Int)*size<len p.a.a) (qL p size m (k+1) (o++[sn p size k])) o
def Split(p:N)(size:Int):u:=cond (cond (!(Tp p)) true (!(D size 1 128))) [] (cond (cond (p.a.c != 6) true (decide (len p.a.a≤size))) [N.enc p] (qL p size 330 0 []))
theorem nps(p:N)(size:Int):∀(m k:Nat) (o:u),(qL p size m k o).length≤o.length+m
 | 0,_,_=>sS _
 | m+1,k,o=>by
  unfold qL;have:=nps p size m (k+1) (o++[sn p size k]);simp only[fK,I_,q4] at this;cases decide ((k:Int)*size<len p.a.a)
  ·simp only[J];omega
  ·simp only[H];omega
theorem nzI(p:N)(size:Int):(Split p size).length≤330:=by
 unfold Split;have:=nps p size 330 0 [];simp only[q4] at this;cases (cond (!(Tp p)) true (!(D size 1 128)))
 ·cases (cond (p.a.c != 6) true (decide (len p.a.a≤size)))
  ·simp only[J];omega
  ·simp
 ·simp
theorem ncS(b:u→α)(p:N)(size:Int):∃W,nsp lf b W p size=b (Split p size):=by
 unfold nsp njM Split;refine⟨400, ?_⟩;refine U6 (λ_=>rfl) (λh=>?_);refine U6 (λ_=>rfl) (λ_=>?_);have j:Tp p=true:=by revert h;cases Tp p<;>simp
 have l:D size 1 128=true:=by revert h;rw[j];cases D size 1 128<;>simp
 have C:=YF.1 l;have X:=Gb j;have key:∀(m i:Nat) (o:u) (W:Nat),i+m=330→m<W→o.length≤i→
   DM lf b 400 size p.a.a p.h p.i p.e p.f p.g p.c p.b p.d p.a.c p.a.f p.a.e p.a.d p.a.g p.a.b p.a.h W (i:Int) o=b (qL p size m i o):=by
  intro m
  induction m with
  | zero=>
   intro i o W n r Y;obtain⟨W,rfl⟩:=DF W;have t:(i:Int)=330:=by omega
   rw[t,nfu];have d:s (330*size)=330*size:=fg;have Z:decide (330*size<len p.a.a)=false:=ja (by simp only[len];omega);simp only[zy,d,Z,J,qL]
  | succ m v=>
   intro i o W n r Y;obtain⟨W,rfl⟩:=DF W;rw[nfu];have e:0≤(i:Int)*size:=Int.mul_nonneg (by omega) (by omega);have w:(i:Int)*size≤330*128:=Int.mul_le_mul (by omega) (by omega) (by omega) (by omega);have E:((i:Int)+1)*size=(i:Int)*size+size:=by rw[Int.add_mul,Int.one_mul]
   have d:s ((i:Int)*size)=(i:Int)*size:=fg;have x:s ((i:Int)+1)=(i:Int)+1:=fg;have z:s (((i:Int)+1)*size)=((i:Int)+1)*size:=fg;have A:∀y:List DC,Em 136 o [y]=true:=λy=>W6 (by simp only[I_,q4];omega) (by omega);have this:=v (i+1) (o++[sn p size i]) W (by omega) (by omega) (by simp only[fK,I_,q4];omega);have B:((i+1:Nat):Int)=(i:Int)+1:=by omega
   rw[B] at this;simp only[zy,qL,d,x,z,A,Oi,H];refine U6 (λa=>?_) (λ_=>rfl);have a:=of_decide_eq_true a;rw[←this];unfold sn nvx;cases k:decide (((i:Int)+1)*size<len p.a.a)
   ·have c:=of_decide_eq_false k;have f:DB (len p.a.a) (((i:Int)+1)*size)=len p.a.a:=by unfold DB;rw[if_neg c]
    have g:GK p.a.a ((i:Int)*size) (len p.a.a)=true:=by simp only[len] at a;simp only[GK,len,Bl,js];exact⟨⟨e,Hd (Int.le_of_lt a)⟩,Hd (uN _)⟩
    simp only[f,g,Oi,H,J]
   ·have c:=of_decide_eq_true k;have f:DB (len p.a.a) (((i:Int)+1)*size)=((i:Int)+1)*size:=by unfold DB;rw[if_pos c]
    have g:GK p.a.a ((i:Int)*size) (((i:Int)+1)*size)=true:=by simp only[len] at a c;simp only[GK,Bl,js];omega
    simp only[f,g,Oi,H]
 exact key 330 0 [] 400 (by omega) (by omega) (so _)
def nxF(a:u→α)(p:N)(size:Int):α:=cond (t true (tB (Split p size))) (a (ae (Split p size))) lf
def cT(p:N)(size:Int):u:=ae (Split p size)
theorem nof(p:N)(size:Int):(cT p size).length≤330:=by have h:=nhZ (Split p size) (Split p size).length 0 [];have a:=nzI p size;simp only[q4] at h;exact r0 h (by omega)
theorem nBG(a:u→α)(p:N)(size:Int):nxF lf a p size=a (cT p size):=by unfold nxF cT;exact rR (ZY (Hd (r0 (nzI p size) (by omega)))) rfl
def sN(c:Ue→Bool→α)(a b:Int):α:=let d:Ue:=(⟨a,b,0,0,false,false⟩:Ue);cond (!(iv d)) (c (⟨0,0,0,0,false,false⟩:Ue) false) (c d true)
def mW(a b:Int):Ue×Bool:=sN (λc d=>(c,d)) a b
theorem ngT(c:Ue→Bool→α)(a b:Int):sN c a b=c (mW a b).1 (mW a b).2:=by exact Ha (K:=λr:Ue×Bool=>c r.1 r.2) rfl rfl
def nt2(c:G→Bool→α)(a base size d:Int)(e:Int→u→α)(k:Int)(b:u):α:=cond (cond (k<a) (decide (a≤16)) false) (cond (t true (Em 8 b ([[.int k]]))) (e (s (k+1)) (b++([[.int k]]))) lf) (cond (!(PM (⟨base,size,d,b⟩:G))) (c (⟨0,0,0,[]⟩:G) false) (c (⟨base,size,d,b⟩:G) true))
def nvc(b:G→Bool→α)(N:Nat)(a base size c:Int)(d:Nat):Int→u→α:=bW (λ_ _=>lf) (nt2 lf b a base size c) d
def rq(lf:α)(c:G→Bool→α)(b:Int→Int→u→α)(base size a:Int):α:=b a 0 []
def ns9(b:G→Bool→α)(N:Nat)(base size a:Int):α:=rq lf b (λc=>nvc lf b N a base size c N) base size a
def TY(base size a:Int):Bool:=decide (a=8) || decide (a=4)
def Fq(a:Int):u:=cond (a=8) [[.int 0],[.int 1],[.int 2],[.int 3],[.int 4],[.int 5],[.int 6],[.int 7]] [[.int 0],[.int 1],[.int 2],[.int 3]]
def bh(base size a:Int):G×Bool:=cond (!(PM ⟨base,size,a,[]⟩)) (⟨0,0,0,[]⟩,false) (⟨base,size,a,Fq a⟩,true)
theorem nAT(base size:Int):PM ⟨base,size,8,Fq 8⟩=PM ⟨base,size,8,[]⟩:=by unfold PM;cases D base 0 130944<;>cases D size 1 512<;>rfl
theorem nAY(base size:Int):PM ⟨base,size,4,Fq 4⟩=PM ⟨base,size,4,[]⟩:=by unfold PM;cases D base 0 130944<;>cases D size 1 512<;>rfl
theorem nCQ(b:G→Bool→α)(base size a:Int)(c:TY base size a=true):∃N,ns9 lf b N base size a=b (bh base size a).1 (bh base size a).2:=by
 have d:a=8∨a=4:=by simpa [TY] using c
 refine⟨10, ?_⟩;unfold ns9 rq bh;rcases d with rfl | rfl
 ·rw[←nAT];exact U6 (K:=λz:G×Bool=>b z.1 z.2) (λ_=>rfl) (λ_=>rfl)
 ·rw[←nAY];exact U6 (K:=λz:G×Bool=>b z.1 z.2) (λ_=>rfl) (λ_=>rfl)
def WA(k:v→I→G→Int→α)(list_:u)(a:Int)(V:u)(Y X l U:Int)(g:u)(T Z W:Int)(w:na α)(n f b c d e:Int)(h:u):α:=let m:x:=UA (⟨3,0,l,Q6 (⟨X,l,U,g⟩:G) (r (q V (qC f)) 0),0,r (q V (qC f)) 0⟩:Zz);let j:v×I×Bool:=RC list_ (⟨h⟩:v) a (⟨b,c,d,e⟩:I) m;let o:Bool:=t (t true (nz g n)) (Pw (bZ g n));let p:G:=(⟨T,Z,W,F (bZ g n)⟩:G);let i:I:=j.2.1;cond (f<Y) (cond (t true (A f V)) (cond (t true (CY list_ (⟨h⟩:v) a (⟨b,c,d,e⟩:I) m)) (cond (!j.2.2) (cond o (k (⟨h⟩:v) (⟨b,c,d,e⟩:I) p n) lf) (w (s (n+1)) (s (f+1)) i.b i.a i.d i.c j.1.a)) lf) lf) (cond o (k (⟨h⟩:v) (⟨b,c,d,e⟩:I) p n) lf)
def yu(b:v→I→G→Int→α)(N:Nat)(list_:u)(a:Int)(x:u)(c d e f:Int)(g:u)(h i j:Int)(k:Nat):na α:=bW (λ_ _ _ _ _ _ _=>lf) (WA lf b list_ a x c d e f g h i j) k
theorem nql(b:v→I→G→Int→α)(N:Nat)(list_:u)(a:Int)(x:u)(c d e f:Int)(g:u)(h i j:Int)(k:Nat):yu lf b N list_ a x c d e f g h i j (k+1)=WA lf b list_ a x c d e f g h i j (yu lf b N list_ a x c d e f g h i j k):=rfl
def nxN(b:v→I→G→Int→α)(c:u→Int→Int→Int→Int→u→Int→Int→Int→Int→Int→Int→Int→Int→Int→u→α)(list_:u)(m:v)(a:Int)(r:I)(p:G):α:=cond (t (t true (WO m)) (aU p)) (cond (cond (!(Vd r)) true (!(PM p))) (b (F m) r (F p) 0) (c p.d (len p.d) p.b p.a p.c p.d ((F p).b) ((F p).a) ((F p).c) 0 0 r.b r.a r.d r.c ((F m).a))) lf
def nb_(b:v→I→G→Int→α)(N:Nat)(list_:u)(m:v)(a:Int)(r:I)(p:G):α:=nxN lf b (λx c d e f g h i j=>yu lf b N list_ a x c d e f g h i j N) list_ m a r p
def p_(list_:u)(m:v)(a:Int)(r:α)(p:G):Bool:=WO m && aU p
def VA(list_:u)(a:Int)(p:G):u→Int→v→I→v×I×G×Int
 | [],n,m,Z=>(m,Z,⟨p.b,p.a,p.c,[]⟩,n)
 | k::ks,n,m,Z=>
  bif !(RC list_ m a Z (UA ⟨3,0,p.a,Q6 p (r k 0),0,r k 0⟩)).2.2 then (m,Z,⟨p.b,p.a,p.c,k::ks⟩,n)
  else VA list_ a p ks (s (n+1)) (RC list_ m a Z (UA ⟨3,0,p.a,Q6 p (r k 0),0,r k 0⟩)).1 (RC list_ m a Z (UA ⟨3,0,p.a,Q6 p (r k 0),0,r k 0⟩)).2.1
def HJ(list_:u)(m:v)(a:Int)(r:I)(p:G):v×I×G×Int:=cond (cond (!(Vd r)) true (!(PM p))) (m,r,p,0) (VA list_ a p p.d 0 m r)
theorem nkU(l:u)(d:Int)(p:G):∀(a:u) (n:Int) (m:v) (Z:I),(VA l d p a n m Z).1.a.length=m.a.length∧(VA l d p a n m Z).2.2.1.d.length≤a.length
 | [],_,_,_=>⟨rfl,sS _⟩
 | k::a,n,m,Z=>by
  simp only[VA];cases (RC l m d Z (UA ⟨3,0,p.a,Q6 p (r k 0),0,r k 0⟩)).2.2
  ·exact⟨rfl,sS _⟩
  ·obtain⟨b,c⟩:=nkU l d p a (s (n+1)) (RC l m d Z (UA ⟨3,0,p.a,Q6 p (r k 0),0,r k 0⟩)).1 (RC l m d Z (UA ⟨3,0,p.a,Q6 p (r k 0),0,r k 0⟩)).2.1;rw[QB] at b;exact⟨b,Nat.le_succ_of_le c⟩
theorem nrI(l:u)(m:v)(d:Int)(r:I)(p:G):(HJ l m d r p).1.a.length=m.a.length∧(HJ l m d r p).2.2.1.d.length≤p.d.length:=by
 unfold HJ;cases (cond (!(Vd r)) true (!(PM p)))
 ·exact nkU _ _ _ _ _ _ _
 ·exact⟨rfl,sS _⟩
theorem niB{l:u}{m:v}{d:Int}{r:I}{e:x}(h:decide (0<Ry r)=false):(RC l m d r e).2.2=false:=by
 have b:Ry r=0:=by
  have h:=of_decide_eq_false h;unfold Ry Sr at h ⊢;cases a:Vd r
  ·rfl
  ·obtain⟨c,f,g,i,j,k,n,o,p⟩:=Xz a;have q:=t0 (r.c - r.d) (show 2*r.a≠0 by omega);rw[a] at h;simp only[ra,J,id] at h ⊢;rw[fg] at h ⊢;omega
 unfold RC;rw[b];rfl
theorem nEx(c:v→I→G→Int→α)(list_:u)(m:v)(a:Int)(X:I)(p:G)(n:p_ list_ m a X p=true):∃N,nb_ lf c N list_ m a X p=c (HJ list_ m a X p).1 (HJ list_ m a X p).2.1 (HJ list_ m a X p).2.2.1 (HJ list_ m a X p).2.2.2:=by
 have j:=n;simp only[p_,Bl] at j;obtain⟨k,l⟩:=j;have A:=R8 (show Pw p.d=true from l);unfold nb_ nxN HJ;refine⟨p.d.length+1, ?_⟩;refine rR (by rw[k,l];rfl) ?_;refine U6 (K:=λz:v×I×G×Int=>c z.1 z.2.1 z.2.2.1 z.2.2.2) (λ_=>rfl) (λB=>?_);have key:∀(Y i N:Nat) (X:I) (m:v),i+Y=p.d.length→Y<N→Pw m.a=true→
   yu lf c (p.d.length+1) list_ a p.d (len p.d) p.b p.a p.c p.d p.b p.a p.c N (i:Int) (i:Int) X.b X.a X.d X.c m.a=(λz:v×I×G×Int=>c z.1 z.2.1 z.2.2.1 z.2.2.2) (VA list_ a p (p.d.drop i) (i:Int) m X):=by
  intro Y
  induction Y with
  | zero=>
   intro i N X m o U d;obtain⟨N,rfl⟩:=DF N;have b:i=p.d.length:=by omega
   subst b;rw[nql,t6];have f:nz p.d (p.d.length:Int)=true:=by simp only[nz,Bl,js];omega
   have g:bZ p.d (p.d.length:Int)=[]:=by simp[bZ]
   have h:Pw ([]:u)=true:=rfl;simp only[WA,Ns,f,g,h,F,Oi,H,J,VA]
  | succ Y t=>
   intro i N X m o U d;obtain⟨N,rfl⟩:=DF N;have b:i<p.d.length:=by omega
   rw[nql,drop_cons b];have Z:∀(X:I) (e:x),CY list_ (⟨m.a⟩:v) a X e=true:=λ_ _=>d;have W:s ((i:Int)+1)=((i+1:Nat):Int):=by rw[fg];omega
   have w:∀X:I,(⟨X.b,X.a,X.d,X.c⟩:I)=X:=λ_=>rfl;have V:(⟨m.a⟩:v)=m:=rfl;have y:(⟨p.b,p.a,p.c,p.d⟩:G)=p:=rfl;have this:=t (i+1) N (RC list_ m a X (UA ⟨3,0,p.a,Q6 p (r (q p.d i) 0),0,r (q p.d i) 0⟩)).2.1 (RC list_ m a X (UA ⟨3,0,p.a,Q6 p (r (q p.d i) 0),0,r (q p.d i) 0⟩)).1 (by omega) (by omega) (Hd (by rw[QB];exact R8 d));have f:nz p.d (i:Int)=true:=by simp only[nz,Bl,js];omega
   have g:bZ p.d (i:Int)=q p.d i::p.d.drop (i+1):=by rw[←drop_cons b];simp[bZ]
   have h:Pw (q p.d i::p.d.drop (i+1))=true:=Hd (by rw[←drop_cons b,sI];omega);simp only[WA,sg b,mZ b,Z,W,w,V,y,f,g,h,F,eR,Oi,H,VA];refine U6 (K:=λz:v×I×G×Int=>c z.1 z.2.1 z.2.2.1 z.2.2.2) (λ_=>rfl) (λ_=>this)
 exact key p.d.length 0 (p.d.length+1) X m (by omega) (by omega) k
def gb(j:v→I→G→Int→α)(list_:u)(a Z k Y:Int)(X:u)(l m o:Int)(W:Int→Int→Int→Int→Int→u→u→α)(n b c d e:Int)(g f:u):α:=let p:x:=UA (⟨3,0,k,Q6 (⟨Z,k,Y,X⟩:G) (r (q f 0) 0),0,r (q f 0) 0⟩:Zz);let i:v×I×Bool:=RC list_ (⟨g⟩:v) a (⟨b,c,d,e⟩:I) p;let h:I:=i.2.1;cond (cond (0<Ry (⟨b,c,d,e⟩:I)) (decide (0<len f)) false) (cond (t (t true (A 0 f)) (inl 0 f)) (cond (t true (CY list_ (⟨g⟩:v) a (⟨b,c,d,e⟩:I) p)) (cond (!i.2.2) (j (⟨g⟩:v) (⟨b,c,d,e⟩:I) (⟨l,m,o,f⟩:G) n) (cond (t (t true (nz f 1)) (Em 8 [] (bZ f 1))) (W (s (n+1)) h.b h.a h.d h.c i.1.a (bZ f 1)) lf)) lf) lf) (j (⟨g⟩:v) (⟨b,c,d,e⟩:I) (⟨l,m,o,f⟩:G) n)
def jf(b:v→I→G→Int→α)(N:Nat)(list_:u)(a c d e:Int)(f:u)(g h i:Int)(j:Nat):Int→Int→Int→Int→Int→u→u→α:=bW (λ_ _ _ _ _ _ _=>lf) (gb lf b list_ a c d e f g h i) j
theorem nqN(b:v→I→G→Int→α)(N:Nat)(list_:u)(a c d e:Int)(f:u)(g h i:Int)(j:Nat):jf lf b N list_ a c d e f g h i (j+1)=gb lf b list_ a c d e f g h i (jf lf b N list_ a c d e f g h i j):=rfl
def Se(b:v→I→G→Int→α)(c:Int→Int→Int→u→Int→Int→Int→Int→Int→Int→Int→Int→u→u→α)(list_:u)(m:v)(a:Int)(r:I)(p:G):α:=cond (t true (WO m)) (cond (t true (aU p)) (cond (cond (!(Vd r)) true (!(PM p))) (b (F m) r (F p) 0) (c p.b p.a p.c p.d ((F p).b) ((F p).a) ((F p).c) 0 r.b r.a r.d r.c ((F m).a) ((F p).d))) lf) lf
def nja(b:v→I→G→Int→α)(N:Nat)(list_:u)(m:v)(a:Int)(r:I)(p:G):α:=Se lf b (λc d e f g h i=>jf lf b N list_ a c d e f g h i N) list_ m a r p
theorem nlj(b:v→I→G→Int→α)(list_:u)(m:v)(a:Int)(X:I)(p:G)(n:p_ list_ m a X p=true):∃N,nja lf b N list_ m a X p=b (HJ list_ m a X p).1 (HJ list_ m a X p).2.1 (HJ list_ m a X p).2.2.1 (HJ list_ m a X p).2.2.2:=by
 have j:=n;simp only[p_,Bl] at j;obtain⟨k,l⟩:=j;have R:=R8 (show Pw p.d=true from l);unfold nja Se HJ;refine⟨p.d.length+1, ?_⟩;refine rR (ZY k) (rR (ZY l) ?_);refine U6 (K:=λz:v×I×G×Int=>b z.1 z.2.1 z.2.2.1 z.2.2.2) (λ_=>rfl) (λS=>?_);have key:∀(Y i N:Nat) (X:I) (m:v),i+Y=p.d.length→Y<N→Pw m.a=true→
   jf lf b (p.d.length+1) list_ a p.b p.a p.c p.d p.b p.a p.c N (i:Int) X.b X.a X.d X.c m.a (p.d.drop i)=(λz:v×I×G×Int=>b z.1 z.2.1 z.2.2.1 z.2.2.2) (VA list_ a p (p.d.drop i) (i:Int) m X):=by
  intro Y
  induction Y with
  | zero=>
   intro i N X m o U d;obtain⟨N,rfl⟩:=DF N;have f:i=p.d.length:=by omega
   subst f;rw[nqN,t6];have g:(cond (0<Ry X) (decide ((0:Int)<len ([]:u))) false)=false:=by cases decide (0<Ry X)<;>rfl
   have h:(⟨X.b,X.a,X.d,X.c⟩:I)=X:=rfl;simp only[gb,h,g,J,VA]
  | succ Y t=>
   intro i N X m o U d;obtain⟨N,rfl⟩:=DF N;have f:i<p.d.length:=by omega
   rw[nqN,drop_cons f];have Z:∀(X:I) (e:x),CY list_ (⟨m.a⟩:v) a X e=true:=λ_ _=>d;have W:s ((i:Int)+1)=((i+1:Nat):Int):=by rw[fg];omega
   have h:∀X:I,(⟨X.b,X.a,X.d,X.c⟩:I)=X:=λ_=>rfl;have w:(⟨m.a⟩:v)=m:=rfl;have V:(⟨p.b,p.a,p.c,p.d⟩:G)=p:=rfl;have this:=t (i+1) N (RC list_ m a X (UA ⟨3,0,p.a,Q6 p (r (q p.d i) 0),0,r (q p.d i) 0⟩)).2.1 (RC list_ m a X (UA ⟨3,0,p.a,Q6 p (r (q p.d i) 0),0,r (q p.d i) 0⟩)).1 (by omega) (by omega) (Hd (by rw[QB];exact R8 d));have y:bZ (q p.d i::p.d.drop (i+1)) 1=p.d.drop (i+1):=by unfold bZ;rw[ub];rfl
   have T:nz (q p.d i::p.d.drop (i+1)) 1=true:=by simp only[nz,Bl,js,I_];omega
   have B:A 0 (q p.d i::p.d.drop (i+1))=true:=by simp only[A,Bl,js,I_];omega
   have C:inl 0 (q p.d i::p.d.drop (i+1))=true:=rfl;have D:Em 8 [] (p.d.drop (i+1))=true:=W6 (by rw[sI];simp only[q4];omega) (by omega);have E:q (q p.d i::p.d.drop (i+1)) 0=q p.d i:=rfl;have c:decide ((0:Int)<len (q p.d i::p.d.drop (i+1)))=true:=Hd (by simp only[len,I_];omega);have F:(cond (0<Ry X) true false)=decide (0<Ry X):=by cases decide (0<Ry X)<;>rfl
   simp only[gb,h,w,V,Z,W,y,E,T,B,C,D,c,F,Oi,H,VA];cases g:decide (0<Ry X)
   ·rw[niB g];rfl
   ·simp only[H];exact U6 (K:=λz:v×I×G×Int=>b z.1 z.2.1 z.2.2.1 z.2.2.2) (λ_=>rfl) (λ_=>this)
 exact key p.d.length 0 (p.d.length+1) X m (by omega) (by omega) k
def nrz(a:Co→α):α:=cond (t true (TY 256 128 8)) (a (⟨(⟨0,16,0,0⟩:I),(bh 256 128 8).1,[],0⟩:Co)) lf
def TW:Co:=⟨⟨0,16,0,0⟩,(bh 256 128 8).1,[],0⟩
theorem nrZ(a:Co→α):nrz lf a=a TW:=by unfold nrz;exact rR (ZY rfl) rfl
def P6(k:Int):Int:=s (1280+(s (k*1792)))
def T7(k:Int):CI:=⟨s (P6 k+64),4,0⟩
def PH(k:Int):I:=⟨P6 k,4,0,0⟩
def oN(k:Int):G:=(bh (s (P6 k+128)) 384 4).1
def WB(k:Int)(r:I)(a:Int):S:=⟨r,T7 k,T7 k,⟨⟨0,0,0,0,0,0,0,0,⟨0,0,0,0,0,0,0,[]⟩⟩,0,0⟩,false,a⟩
theorem na9(k:Int):aU (oN k)=true:=by unfold oN bh;cases PM (⟨s (P6 k+128),384,4,[]⟩:G)<;>rfl
def nDl(l:z→α)(h:z)(k:Int):α:=let d:Bool:=t (t true (A k h.b)) (inl (qC k) h.b);let a:Int:=s (1280+(s (k*1792)));let e:Int:=s (a+128);let f:v:=(zJ h.j h.h 0 a (vZ 128 0)).1;let g:I:=(⟨a,4,0,0⟩:I);let i:G:=(bh e 384 4).1;let c:v×I×G×Int:=HJ h.j f 0 g i;let b:I:=c.2.1;let j:Int:=s (a+64);let m:G:=c.2.2.1;cond d (cond (t true (TY e 384 4)) (cond (t (t true (WU 128 0)) (Oz h.j h.h 0 a (vZ 128 0))) (cond (t true (p_ h.j f 0 g i)) (cond d (cond (t (t true (A k h.e)) ((inl (qC k) h.e) && true)) (l (⟨c.1,h.j,h.a,q0 h.b (qC k) (Sk (q h.b (qC k)) 0 ([.int b.b,.int b.a,.int b.d,.int b.c,.int j,.int 4,.int 0,.int j,.int 4,.int 0,.int 0,.int 0,.int 0,.int 0,.int 0,.int 0,.int 0,.int 0,.int 0,.int 0,.int 0,.int 0,.int 0,.int 0,.int 0,.str [],.int 0,.int 0,.bool false,.int (r (q h.b (qC k)) 29)])),q0 h.e (qC k) (Sk (q h.e (qC k)) 0 (G.enc m)),h.g,h.i,h.f,h.d,h.k,h.m,h.l,h.n,h.o,h.c⟩:z)) lf) lf) lf) lf) lf) lf
def nlt(h:z)(k:Int):v:=(zJ h.j h.h 0 (P6 k) (vZ 128 0)).1
def wu(h:z)(k:Int):v×I×G×Int:=HJ h.j (nlt h k) 0 (PH k) (oN k)
def zl(h:z)(k:Int):Bool:=(decide (0≤k) && (decide (k<len h.b) && decide (k<len h.e))) && (Pw h.j && Pw h.h.a)
def Yh(h:z)(k:Int):z:= {h with h:=(wu h k).1,b:=q0 h.b k.toNat (S.enc (WB k (wu h k).2.1 (r (q h.b k.toNat) 29))),e:=q0 h.e k.toNat (G.enc (wu h k).2.2.1)}
theorem nlL(d:z→α)(h:z)(k:Int)(b:Q z.ct h.enc)(p:zl h k=true):nDl lf d h k=d (Yh h k):=by
 obtain⟨D,V⟩:=Nh (z.nA9 b);obtain⟨E,e⟩:=Nh (z.npk b);have n:=p;simp only[zl,Bl,js] at n;obtain⟨⟨F,u,v⟩,w,o⟩:=n;obtain⟨c,rfl⟩:∃c:Nat,k=(c:Int):=⟨k.toNat,by omega⟩;have f:c<h.b.length:=by simp only[len] at u;omega
 have g:c<h.e.length:=by simp only[len] at v;omega
 have X:=congrArg tl (S.eta (V _ (nU f)));have y:=congrArg tl (G.eta (e _ (nU g)));have i:∀Z:S,Sk (q h.b c) 0 (S.enc Z)=S.enc Z:=λZ=>Fx (X.symm.trans rfl);have j:∀Z:G,Sk (q h.e c) 0 (G.enc Z)=G.enc Z:=λZ=>Fx (y.symm.trans rfl);have l:TY (s (P6 (c:Int)+128)) 384 4=true:=rfl;have U:WU 128 0=true:=rfl;have m:∀(a:Int) (W:x),Oz h.j h.h 0 a W=true:=λa W=>by simp only[Oz,Bl];exact⟨w,o⟩
 have T:∀Y:I,p_ h.j (nlt h (c:Int)) 0 Y (oN (c:Int))=true:=λY=>by simp only[p_,Bl];refine⟨Hd ?_,na9 _⟩;exact r0 (Nat.le_of_eq (lW _ _ _ _ _ _)) (R8 o)
 have B:(t (t true (A (c:Int) h.b)) (inl c h.b))=true:=by rw[mZ f,R7 f];rfl
 have C:(t (t true (A (c:Int) h.e)) ((inl c h.e) && true))=true:=by rw[mZ g,R7 g];rfl
 unfold nDl;simp only[eR];rw[B,C];simp only[H];refine rR (ZY l) (rR (by rw[U];exact ZY (m _ _)) (rR (ZY (T _)) ?_));rw[j];exact congrArg d (congrArg (λY=>({h with h:=(wu h (c:Int)).1,b:=q0 h.b c Y,e:=q0 h.e c (G.enc (wu h (c:Int)).2.2.1)} :z)) (i (WB (c:Int) (wu h (c:Int)).2.1 (r (q h.b c) 29))))
def UZ(U:z→Bool→α)(d:F9 α)(E v F G H:Int)(I J:Bool)(h e a f g i j k l:Int)(m:Bool)(n:x)(o:Bool)(q r X W Z:Int)(b w Y y V A B:u)(C:Int→u→α)(p:Int)(c:u):α:=cond (p<38) (cond (t true (Em 32 c ([[.int 0,.int p,.int (s (37 - p)),.bool (!(D p 2 9))]]))) (C (s (p+1)) (c++([[.int 0,.int p,.int (s (37 - p)),.bool (!(D p 2 9))]]))) lf) (d 0 h e a f g i j k l m n o q r X W Z b c w Y [] [] [] [] y V A B [] [] [] [])
def NR(M:z→Bool→α)(N abu r acf acs:Int)(aaV w:Bool)(O:F9 α)(k P Q R S T U V W abZ:Int)(y:Bool)(X:x)(acF:Bool)(Y f g h i:Int)(A B j Z l m n o C T0 T3 T4 D E F aei:u):α:=let H:Co:=(⟨(⟨P,Q,R,S⟩:I),(⟨T,U,V,j⟩:G),Z,W⟩:Co);let aes:se:=(⟨T0,(⟨T3⟩:mB),(⟨X,T4⟩:iI)⟩:se);let J:Pa:=(⟨Y,f,g,h,i⟩:Pa);let K:z:=(⟨(⟨A⟩:v),B,H,l++([[.int 0,.int 0,.int 0,.int 0,.int 0,.int 0,.int 0,.int 0,.int 0,.int 0,.int 0,.int 0,.int 0,.int 0,.int 0,.int 0,.int 0,.int 0,.int 0,.int 0,.int 0,.int 0,.int 0,.int 0,.int 0,.str [],.int 0,.int 0,.bool false,.int 0]]),m++([[.int 0,.int 0,.int 0,.sl []]]),n++([[.int abu,.int r,.int acf,.int acs,.bool aaV,.bool w]]),o++([[.bool false]]),(⟨abZ,y,C⟩:QD),aes,D,acF,E,F,aei,J⟩:z);let a:z:=Yh K k;let c:Co:=a.a;let d:I:=c.b;let e:G:=c.a;let p:QD:=a.f;let q:se:=a.d;let L:iI:=q.b;let b:Pa:=a.c;cond (k<N) (cond (t true (Em 248 l ([[.int 0,.int 0,.int 0,.int 0,.int 0,.int 0,.int 0,.int 0,.int 0,.int 0,.int 0,.int 0,.int 0,.int 0,.int 0,.int 0,.int 0,.int 0,.int 0,.int 0,.int 0,.int 0,.int 0,.int 0,.int 0,.str [],.int 0,.int 0,.bool false,.int 0]]))) (cond (t true (Em 48 m ([[.int 0,.int 0,.int 0,.sl []]]))) (cond (t true (Em 40 n ([[.int abu,.int r,.int acf,.int acs,.bool aaV,.bool w]]))) (cond (t true (Em 1 o ([[.bool false]]))) (cond (t true (zl K k)) (O (s (k+1)) d.b d.a d.d d.c e.b e.a e.c c.d p.b p.c L.b a.m b.a b.b b.e b.c b.d a.h.a a.j e.d c.c a.b a.e a.g a.i p.a q.c q.a.a L.a a.k a.l a.n a.o) lf) lf) lf) lf) lf) (M (⟨(⟨A⟩:v),B,H,l,m,n,o,(⟨abZ,y,C⟩:QD),aes,D,acF,E,F,aei,J⟩:z) true)
def ZV(a:z→Bool→α)(N:Nat)(b v c d e:Int)(f g:Bool)(h:Nat):F9 α:=bW (λ_ _ _ _ _ _ _ _ _ _ _ _ _ _ _ _ _ _ _ _ _ _ _ _ _ _ _ _ _ _ _ _ _ _=>lf) (NR lf a b v c d e f g) h
theorem nxl(a:z→Bool→α)(N:Nat)(b v c d e:Int)(f g:Bool)(h:Nat):ZV lf a N b v c d e f g (h+1)=NR lf a b v c d e f g (ZV lf a N b v c d e f g h):=rfl
def ZT(c:z→Bool→α)(N:Nat)(d v e f g:Int)(i j:Bool)(h k a l m n o p q:Int)(r:Bool)(s:x)(t:Bool)(Z w Y y X:Int)(b A B C D E F:u)(G:Nat):Int→u→α:=bW (λ_ _=>lf) (UZ lf c (ZV lf c N d v e f g i j N) d v e f g i j h k a l m n o p q r s t Z w Y y X b A B C D E F) G
theorem nrq(c:z→Bool→α)(N:Nat)(d v e f g:Int)(i j:Bool)(h k a l m n o q r:Int)(s:Bool)(t:x)(Z:Bool)(w Y y X A:Int)(b B C D E F G:u)(H:Nat)(p:Int)(I:u):ZT lf c N d v e f g i j h k a l m n o q r s t Z w Y y X A b B C D E F G (H+1) p I=UZ lf c (ZV lf c N d v e f g i j N) d v e f g i j h k a l m n o q r s t Z w Y y X A b B C D E F G (ZT lf c N d v e f g i j h k a l m n o q r s t Z w Y y X A b B C D E F G H) p I:=rfl
def xG(f:z→Bool→α)(g:Int→Int→Int→Int→Bool→Bool→Int→Int→Int→Int→Int→Int→Int→Int→Int→Bool→x→Int→Int→Int→Int→Int→u→u→u→u→u→u→u→Int→u→α)(e:Int)(b:QD)(d:se)(h:Bool)(a c:Int):α:=cond (cond (!(D e 1 2)) true (cond (!(pY b)) true (cond (!(DA d e)) true (!((mW a c).2))))) (f (⟨(⟨[]⟩:v),[],(⟨(⟨0,0,0,0⟩:I),(⟨0,0,0,[]⟩:G),[],0⟩:Co),[],[],[],[],(⟨0,false,[]⟩:QD),(⟨[],(⟨[]⟩:mB),(⟨[],[]⟩:iI)⟩:se),[],false,[],[],[],(⟨0,0,0,0,0⟩:Pa)⟩:z) false) (cond (t (t true (PO b)) (bu d)) (g (((mW a c).1).e) (((mW a c).1).d) (((mW a c).1).c) (((mW a c).1).b) (((mW a c).1).a) (((mW a c).1).f) TW.b.b TW.b.a TW.b.d TW.b.c TW.a.b TW.a.a TW.a.c TW.d ((F b).b) ((F b).c) (((F d).b).b) 0 0 0 0 0 ((Rz 38).a) TW.a.d TW.c ((F b).a) ((F d).c) (((F d).a).a) (((F d).b).a) 0 []) lf)
def bn(f:z→Bool→α)(N:Nat)(g:Int)(a:QD)(j:se)(i:Bool)(b c:Int):α:=xG lf f (λv k l m n o h p d q r s t u w x y Z A B C D e E F G H I J=>ZT lf f N g v k l m n o h p d q r s t u w x y i Z A B C D e E F G H I J N) g a j i b c
def Xi(i:Nat):List DC:=[.int 0,.int (i:Int),.int (s (37 - (i:Int))),.bool (!(D (i:Int) 2 9))]
def Z6:u:=kM (λi o=>o++[Xi i]) 38 0 []
def SA:z:=⟨⟨[]⟩,[],⟨⟨0,0,0,0⟩,⟨0,0,0,[]⟩,[],0⟩,[],[],[],[],⟨0,false,[]⟩,⟨[],⟨[]⟩,⟨[],[]⟩⟩,[],false,[],[],[],⟨0,0,0,0,0⟩⟩
def cE(a:QD)(b:se)(c:Bool):z:=⟨Rz 38,Z6,TW,[],[],[],[],a,b,[],c,[],[],[],⟨0,0,0,0,0⟩⟩
def Hc(m:v)(k:Int):v×I×G×Int:=HJ Z6 m 0 (PH k) (oN k)
def tG:Nat→v
 | 0=>Rz 38
 | i+1=>(Hc (tG i) (i:Int)).1
def A_(v:Ue)(i:Nat)(h:z):z:= {h with h:=(Hc h.h (i:Int)).1,b:=h.b++[S.enc (WB (i:Int) (Hc h.h (i:Int)).2.1 0)],e:=h.e++[G.enc (Hc h.h (i:Int)).2.2.1],g:=h.g++[Ue.enc v],i:=h.i++[[.bool false]]}
def OT(e:Int)(a:QD)(d:se)(f:Bool)(b c:Int):Bool:=PO a && bu d
def Aw(d:Int)(a:QD)(e:se)(f:Bool)(b c:Int):z×Bool:=cond (cond (!(D d 1 2)) true (cond (!(pY a)) true (cond (!(DA e d)) true (!((mW b c).2))))) (SA,false) (kM (A_ (mW b c).1) d.toNat 0 (cE a e f),true)
theorem naR{a b:Bool}(h:(cond a true b)=false):a=false∧b=false:=by cases a<;>simp_all
theorem ngt(k:Int):(oN k).d.length≤4:=by
 unfold oN bh;cases PM (⟨s (P6 k+128),384,4,[]⟩:G)
 ·exact so _
 ·exact sS _
theorem nc5:∀i,(tG i).a.length=38
 | 0=>by kernel_rfl
 | i+1=>(nrI _ _ _ _ _).1.trans (nc5 i)
theorem nBc:Z6.length=38:=by kernel_rfl
def sj(a:QD)(b:se)(c:Bool)(i:Nat)(o:z):Prop:=o= {cE a b c with h:=o.h,b:=o.b,e:=o.e,g:=o.g,i:=o.i} ∧o.h=tG i∧o.b.length=i∧o.e.length=i∧o.g.length=i∧o.i.length=i∧∀r∈o.e,aU (G.nd r 0)=true
theorem nDn(a:QD)(b:se)(c:Bool):sj a b c 0 (cE a b c):=⟨rfl,rfl,rfl,rfl,rfl,rfl,by intro r d;cases d⟩
theorem nsT{a:QD}{c:se}{d:Bool}(v:Ue){i:Nat}{o:z}(n:i<2)(e:sj a c d i o):sj a c d (i+1) (A_ v i o):=by
 obtain⟨f,g,h,j,k,l,m⟩:=e;refine⟨?_, ?_, ?_, ?_, ?_, ?_, ?_⟩
 ·have this:=congrArg (λx:z=>({x with h:=(A_ v i o).h,b:=(A_ v i o).b,e:=(A_ v i o).e,g:=(A_ v i o).g,i:=(A_ v i o).i} :z)) f;exact this
 ·show (Hc o.h (i:Int)).1=(Hc (tG i) (i:Int)).1;rw[g]
 ·show (o.b++[_]).length=_;rw[fK,h];rfl
 ·show (o.e++[_]).length=_;rw[fK,j];rfl
 ·show (o.g++[_]).length=_;rw[fK,k];rfl
 ·show (o.i++[_]).length=_;rw[fK,l];rfl
 ·intro r b;have b:r∈o.e++[G.enc (Hc o.h (i:Int)).2.2.1]:=b;rcases uJ.1 b with b | b
  ·exact m r b
  ·rw[uK.1 b];have p:=(nrI Z6 o.h 0 (PH (i:Int)) (oN (i:Int))).2;have q:=ngt (i:Int);exact Hd (by show (Hc o.h (i:Int)).2.2.1.d.length≤_;unfold Hc;omega)
def Z3(v:Ue)(o:z):z:= {o with b:=o.b++[[.int 0,.int 0,.int 0,.int 0,.int 0,.int 0,.int 0,.int 0,.int 0,.int 0,.int 0,.int 0,.int 0,.int 0,.int 0,.int 0,.int 0,.int 0,.int 0,.int 0,.int 0,.int 0,.int 0,.int 0,.int 0,.str [],.int 0,.int 0,.bool false,.int 0]],e:=o.e++[[.int 0,.int 0,.int 0,.sl []]],g:=o.g++[Ue.enc v],i:=o.i++[[.bool false]]}
theorem nv5:(zJ Z6 (tG 0) 0 (P6 0) (vZ 128 0)).1=tG 0:=by kernel_rfl
theorem nbo:(zJ Z6 (tG 1) 0 (P6 1) (vZ 128 0)).1=tG 1:=by kernel_rfl
theorem nyq{i:Nat}(h:i<2):(zJ Z6 (tG i) 0 (P6 (i:Int)) (vZ 128 0)).1=tG i:=by
 rcases (show i=0∨i=1 by omega) with rfl | rfl
 ·exact nv5
 ·exact nbo
theorem nbg{l:u}{i:Nat}(h:l.length=i)(x y:List DC):q0 (l++[x]) i y=l++[y]:=by subst h;simp
theorem nb3{l:u}{i:Nat}(h:l.length=i)(x:List DC):q (l++[x]) i=x:=by subst h;simp[q]
theorem nf1{a:QD}{d:se}{e:Bool}(v:Ue){i:Nat}{o:z}(f:i<2)(g:sj a d e i o):Yh (Z3 v o) (i:Int)=A_ v i o:=by
 obtain⟨h,j,c,k,Z,r,s⟩:=g;have b:=congrArg z.j h;replace b:o.j=Z6:=b;have l:wu (Z3 v o) (i:Int)=Hc o.h (i:Int):=by show HJ o.j (zJ o.j o.h 0 (P6 (i:Int)) (vZ 128 0)).1 0 (PH (i:Int)) (oN (i:Int))=HJ Z6 o.h 0 (PH (i:Int)) (oN (i:Int));rw[b,j,nyq f]
 unfold Yh;rw[l,eR];have m:∀x,q0 (Z3 v o).b i x=o.b++[x]:=λx=>nbg c _ x;have n:∀x,q0 (Z3 v o).e i x=o.e++[x]:=λx=>nbg k _ x;have p:q (Z3 v o).b i=[.int 0,.int 0,.int 0,.int 0,.int 0,.int 0,.int 0,.int 0,.int 0,.int 0,.int 0,.int 0,.int 0,.int 0,.int 0,.int 0,.int 0,.int 0,.int 0,.int 0,.int 0,.int 0,.int 0,.int 0,.int 0,.str [],.int 0,.int 0,.bool false,.int 0]:=nb3 c _;rw[m,n,p];rfl
theorem nsu{a:QD}{c:se}{d:Bool}(v:Ue){i:Nat}{o:z}(h:i<2)(e:sj a c d i o):zl (Z3 v o) (i:Int)=true:=by
 obtain⟨f,g,j,k,l,m,n⟩:=e;have b:=congrArg z.j f;replace b:o.j=Z6:=b;have p:=nc5 i;simp only[zl,Bl,js];refine⟨⟨by omega, ?_, ?_⟩,Hd ?_,Hd ?_⟩
 ·show (i:Int)<len (o.b++[_]);simp only[len,fK,I_,q4];omega
 ·show (i:Int)<len (o.e++[_]);simp only[len,fK,I_,q4];omega
 ·show o.j.length≤_;rw[b,nBc];omega
 ·show o.h.a.length≤_;rw[g];omega
theorem ny4(g:z→Bool→α)(j:Int)(a:QD)(b:se)(d:Bool)(e f:Int)(q:OT j a b d e f=true):∃N,bn lf g N j a b d e f=g (Aw j a b d e f).1 (Aw j a b d e f).2:=by
 have p:=q;simp only[OT,Bl] at p;obtain⟨r,Y⟩:=p;refine⟨40, ?_⟩;unfold bn xG Aw;refine U6 (K:=λX:z×Bool=>g X.1 X.2) (λ_=>rfl) (λt=>?_);refine rR (by rw[r,Y];rfl) ?_;obtain⟨H,I⟩:1≤j∧j≤2:=YF.1 (Vk (naR t).1);obtain⟨c,rfl⟩:∃c:Nat,j=(c:Int):=⟨j.toNat,by omega⟩;generalize (mW e f).1=v;have l:ZV lf g 40 (c:Int) v.e v.d v.c v.b v.a v.f 40 0 (cE a b d).a.b.b (cE a b d).a.b.a (cE a b d).a.b.d (cE a b d).a.b.c (cE a b d).a.a.b (cE a b d).a.a.a (cE a b d).a.a.c (cE a b d).a.d (cE a b d).f.b (cE a b d).f.c (cE a b d).d.b.b (cE a b d).m (cE a b d).c.a (cE a b d).c.b (cE a b d).c.e (cE a b d).c.c (cE a b d).c.d (cE a b d).h.a (cE a b d).j (cE a b d).a.a.d (cE a b d).a.c (cE a b d).b (cE a b d).e (cE a b d).g (cE a b d).i (cE a b d).f.a (cE a b d).d.c (cE a b d).d.a.a (cE a b d).d.b.a (cE a b d).k (cE a b d).l (cE a b d).n (cE a b d).o=g (kM (A_ v) c 0 (cE a b d)) true:=by
  refine je c (λn i (o:z)=>ZV lf g 40 (c:Int) v.e v.d v.c v.b v.a v.f n i o.a.b.b o.a.b.a o.a.b.d o.a.b.c o.a.a.b o.a.a.a o.a.a.c o.a.d o.f.b o.f.c o.d.b.b o.m o.c.a o.c.b o.c.e o.c.c o.c.d o.h.a o.j o.a.a.d o.a.c o.b o.e o.g o.i o.f.a o.d.c o.d.a.a o.d.b.a o.k o.l o.n o.o) (A_ v) (λo=>g o true) (sj a b d) ?_ ?_ ?_ 40 (cE a b d) (nDn _ _ _) (by omega)
  ·intro i o k h;exact nsT v (by omega) h
  ·intro n i o k h;have Z:=h;obtain⟨J,L,M,O,P,Q,R⟩:=Z;have w:decide ((i:Int)<(c:Int))=true:=Hd (by omega);have y:s ((i:Int)+1)=(i:Int)+1:=fg;have A:∀x:List DC,Em 248 o.b [x]=true:=λx=>W6 (by simp only[I_,q4];omega) (by omega);have B:∀x:List DC,Em 48 o.e [x]=true:=λx=>W6 (by simp only[I_,q4];omega) (by omega);have C:∀x:List DC,Em 40 o.g [x]=true:=λx=>W6 (by simp only[I_,q4];omega) (by omega);have D:∀x:List DC,Em 1 o.i [x]=true:=λx=>W6 (by simp only[I_,q4];omega) (by omega);show ZV lf g 40 (c:Int) v.e v.d v.c v.b v.a v.f (n+1) (i:Int) o.a.b.b o.a.b.a o.a.b.d o.a.b.c o.a.a.b o.a.a.a o.a.a.c o.a.d o.f.b o.f.c o.d.b.b o.m o.c.a o.c.b o.c.e o.c.c o.c.d o.h.a o.j o.a.a.d o.a.c o.b o.e o.g o.i o.f.a o.d.c o.d.a.a o.d.b.a o.k o.l o.n o.o=_;rw[nxl];have E:=nsu v (by omega) h;have F:=nf1 v (by omega) h;unfold NR;refine (Qo w).trans ?_;refine rR (ZY (A _)) (rR (ZY (B _)) (rR (ZY (C _)) (rR (ZY (D _)) (rR (ZY E) ?_))));rw[y];exact congrArg (λx:z=>ZV lf g 40 (c:Int) v.e v.d v.c v.b v.a v.f n ((i:Int)+1) x.a.b.b x.a.b.a x.a.b.d x.a.b.c x.a.a.b x.a.a.a x.a.a.c x.a.d x.f.b x.f.c x.d.b.b x.m x.c.a x.c.b x.c.e x.c.c x.c.d x.h.a x.j x.a.a.d x.a.c x.b x.e x.g x.i x.f.a x.d.c x.d.a.a x.d.b.a x.k x.l x.n x.o) F
  ·intro n o h;show ZV lf g 40 (c:Int) v.e v.d v.c v.b v.a v.f (n+1) (c:Int) o.a.b.b o.a.b.a o.a.b.d o.a.b.c o.a.a.b o.a.a.a o.a.a.c o.a.d o.f.b o.f.c o.d.b.b o.m o.c.a o.c.b o.c.e o.c.c o.c.d o.h.a o.j o.a.a.d o.a.c o.b o.e o.g o.i o.f.a o.d.c o.d.a.a o.d.b.a o.k o.l o.n o.o=_;rw[nxl];unfold NR;refine (KP (ja (by omega))).trans ?_;rfl
 have G:∀(i:Nat) (o:u) (x:List DC),i<38→o.length≤i→Em 32 o [x]=true:=λi o x S T=>W6 (by simp only[I_,q4];omega) (by omega);have m:ZT lf g 40 (c:Int) v.e v.d v.c v.b v.a v.f TW.b.b TW.b.a TW.b.d TW.b.c TW.a.b TW.a.a TW.a.c TW.d a.b a.c b.b.b d 0 0 0 0 0 (Rz 38).a TW.a.d TW.c a.a b.c b.a.a b.b.a 40 0 []=ZV lf g 40 (c:Int) v.e v.d v.c v.b v.a v.f 40 0 (cE a b d).a.b.b (cE a b d).a.b.a (cE a b d).a.b.d (cE a b d).a.b.c (cE a b d).a.a.b (cE a b d).a.a.a (cE a b d).a.a.c (cE a b d).a.d (cE a b d).f.b (cE a b d).f.c (cE a b d).d.b.b (cE a b d).m (cE a b d).c.a (cE a b d).c.b (cE a b d).c.e (cE a b d).c.c (cE a b d).c.d (cE a b d).h.a (cE a b d).j (cE a b d).a.a.d (cE a b d).a.c (cE a b d).b (cE a b d).e (cE a b d).g (cE a b d).i (cE a b d).f.a (cE a b d).d.c (cE a b d).d.a.a (cE a b d).d.b.a (cE a b d).k (cE a b d).l (cE a b d).n (cE a b d).o:=by
  refine je 38 (λn i o=>ZT lf g 40 (c:Int) v.e v.d v.c v.b v.a v.f TW.b.b TW.b.a TW.b.d TW.b.c TW.a.b TW.a.a TW.a.c TW.d a.b a.c b.b.b d 0 0 0 0 0 (Rz 38).a TW.a.d TW.c a.a b.c b.a.a b.b.a n i o) (λi o=>o++[Xi i]) (λo=>ZV lf g 40 (c:Int) v.e v.d v.c v.b v.a v.f 40 0 ({cE a b d with j:=o} :z).a.b.b ({cE a b d with j:=o} :z).a.b.a ({cE a b d with j:=o} :z).a.b.d ({cE a b d with j:=o} :z).a.b.c ({cE a b d with j:=o} :z).a.a.b ({cE a b d with j:=o} :z).a.a.a ({cE a b d with j:=o} :z).a.a.c ({cE a b d with j:=o} :z).a.d ({cE a b d with j:=o} :z).f.b ({cE a b d with j:=o} :z).f.c ({cE a b d with j:=o} :z).d.b.b ({cE a b d with j:=o} :z).m ({cE a b d with j:=o} :z).c.a ({cE a b d with j:=o} :z).c.b ({cE a b d with j:=o} :z).c.e ({cE a b d with j:=o} :z).c.c ({cE a b d with j:=o} :z).c.d ({cE a b d with j:=o} :z).h.a ({cE a b d with j:=o} :z).j ({cE a b d with j:=o} :z).a.a.d ({cE a b d with j:=o} :z).a.c ({cE a b d with j:=o} :z).b ({cE a b d with j:=o} :z).e ({cE a b d with j:=o} :z).g ({cE a b d with j:=o} :z).i ({cE a b d with j:=o} :z).f.a ({cE a b d with j:=o} :z).d.c ({cE a b d with j:=o} :z).d.a.a ({cE a b d with j:=o} :z).d.b.a ({cE a b d with j:=o} :z).k ({cE a b d with j:=o} :z).l ({cE a b d with j:=o} :z).n ({cE a b d with j:=o} :z).o) (λi o=>o.length≤i) ?_ ?_ ?_ 40 [] (by simp) (by omega)
  ·intro i o k h;simp only[fK,I_,q4];omega
  ·intro n i o k h;show ZT lf g 40 (c:Int) v.e v.d v.c v.b v.a v.f TW.b.b TW.b.a TW.b.d TW.b.c TW.a.b TW.a.a TW.a.c TW.d a.b a.c b.b.b d 0 0 0 0 0 (Rz 38).a TW.a.d TW.c a.a b.c b.a.a b.b.a (n+1) (i:Int) o=_;rw[nrq];unfold UZ;refine (Qo (Hd (by omega))).trans ?_;refine rR (ZY (G i o _ k h)) ?_;rw[fg (n:=(i:Int)+1)];rfl
  ·intro n o h;show ZT lf g 40 (c:Int) v.e v.d v.c v.b v.a v.f TW.b.b TW.b.a TW.b.d TW.b.c TW.a.b TW.a.a TW.a.c TW.d a.b a.c b.b.b d 0 0 0 0 0 (Rz 38).a TW.a.d TW.c a.a b.c b.a.a b.b.a (n+1) 38 o=_;rw[nrq];unfold UZ;exact KP (ja (by omega))
 exact m.trans l
structure Ja where
 d:Int
 e:Int
 a:Int
 c:Int
 b:Int
def Ja.enc(x:Ja):List DC:=[.int x.d,.int x.e,.int x.a,.int x.c,.int x.b]
def Ja.nd(Z:List DC)(o:Nat):Ja:=⟨r Z (o+0),r Z (o+1),r Z (o+2),r Z (o+3),r Z (o+4)⟩
def Ja.ct:List CT:=[.i,.i,.i,.i,.i]
theorem Ja.eta{r:List DC}(h:Q Ja.ct r):(Ja.nd r 0).enc=r:=(show (Ja.nd r 0).enc=Sy Ja.ct r 0 from by kernel_rfl).trans (Qz h)
theorem Ja.nX{r:List CT}{b:List DC}(h:Q (Ja.ct++r) b):∃(x:Ja) (c:List DC),b=x.enc++c∧Q Ja.ct x.enc∧Q r c:=by obtain⟨d,e,rfl,a,f⟩:=SU h;exact⟨Ja.nd d 0,e,by rw[Ja.eta a],by rw[Ja.eta a];exact a,f⟩
theorem Ja.nyK{x:Ja}(h:Q Ja.ct x.enc):IJ .i (.int x.d):=VM 0 h rfl rfl
theorem Ja.nFW{x:Ja}(h:Q Ja.ct x.enc):IJ .i (.int x.e):=VM 1 h rfl rfl
theorem Ja.nkd{x:Ja}(h:Q Ja.ct x.enc):IJ .i (.int x.a):=VM 2 h rfl rfl
theorem Ja.npi{x:Ja}(h:Q Ja.ct x.enc):IJ .i (.int x.c):=VM 3 h rfl rfl
theorem gZ{q:CI}(h:dq q=true):SI q.a=true∧2≤q.a∧q.a≤16∧0≤q.c∧q.c<2*q.a∧0≤q.b∧q.b≤130944:=by
 unfold dq RY at h;simp only[id] at h;cases a:D q.b 0 130944
 case false=>rw[a] at h;cases h
 cases b:SI q.a
 case false=>rw[a,b] at h;cases h
 rw[a,b] at h;have d:2≤q.a∧q.a≤16:=by rcases mM b with h | h | h | h<;>omega
 rw[fg (n:=2*q.a),fg (n:=2*q.a - 1)] at h;have e:=YF.1 (show D q.c 0 (2*q.a - 1)=true from h);have c:=YF.1 a;exact⟨rfl,by omega,by omega,by omega,by omega,c.1,c.2⟩
theorem ny6{q:CI}(h:dq q=true):dq ⟨q.b,q.a,q5 (s (q.c+1)) (s (2*q.a))⟩=true:=by
 obtain⟨a,f,g,i,j,b,c⟩:=gZ h;have e:q5 (s (q.c+1)) (s (2*q.a))=(q.c+1) % (2*q.a):=by rw[fg (n:=q.c+1),fg (n:=2*q.a)];exact uL (by omega)
 have d:=t0 (q.c+1) (show 2*q.a≠0 by omega);have k:=t_ (q.c+1) (show 0<2*q.a by omega);rw[e];unfold dq RY;simp only[id];rw[fg (n:=2*q.a),fg (n:=2*q.a - 1),a,show D q.b 0 130944=true from YF.2 ⟨b,c⟩,show D ((q.c+1) % (2*q.a)) 0 (2*q.a - 1)=true from YF.2 ⟨d,by omega⟩];rfl
theorem fI{q:S}(h:TH q=true):dq q.c=true∧dq q.d=true∧Vd q.b=true∧(q.f=true→Tp q.a.b=true):=by
 unfold TH yp at h;cases a:Vd q.b
 case false=>rw[a] at h;cases h
 cases b:dq q.c
 case false=>rw[a,b] at h;cases h
 cases c:dq q.d
 case false=>rw[a,b,c] at h;cases h
 refine⟨rfl,rfl,rfl,λd=>?_⟩;rw[a,b,c,d] at h;cases e:Tp q.a.b
 ·rw[e] at h;revert h;cases (q.c.b != q.d.b)<;>cases (q.c.a != q.d.a)<;>cases D q.e 0 1000000000000<;>simp
 ·rfl
def nml(a:Bool→α)(x:Ja):α:=a (cond (D x.d 0 65535) (cond (D x.e 0 65535) (cond (D x.a 0 65535) (cond (D x.c 0 65535) (D x.b 0 4294967295) false) false) false) false)
def tQ(x:Ja):Bool:=nml id x
theorem nqb(a:Bool→α)(x:Ja):nml a x=a (tQ x):=by rfl
def nkw(b:x→α)(Z:Ja)(a:Int):α:=let c:x:=(Zt Z.d)++(Zt Z.e);let d:x:=c++(Zt Z.a);let e:x:=d++(Zt Z.c);let f:x:=e++(jo Z.b);cond (cond (!(tQ Z)) true (!(D a 0 1))) (b []) (cond (t (t (t (t (t true (EI (Zt Z.d) (Zt Z.e))) (EI c (Zt Z.a))) (EI d (Zt Z.c))) (EI e (jo Z.b))) (EI f (jo a))) (b (f++(jo a))) lf)
def eM(Z:Ja)(a:Int):x:=cond (cond (!(tQ Z)) true (!(D a 0 1))) [] (Zt Z.d++Zt Z.e++Zt Z.a++Zt Z.c++jo Z.b++jo a)
theorem nfo(x:Ja)(g:Int):(eM x g).length≤16:=by
 have a:=P3 x.d;have b:=P3 x.e;have c:=P3 x.a;have d:=P3 x.c;have e:=Uy x.b;have f:=Uy g;unfold eM;cases (cond (!(tQ x)) true (!(D g 0 1)))
 ·simp only[J,fK];omega
 ·exact so _
theorem nkY(h:x→α)(Z:Ja)(g:Int):nkw lf h Z g=h (eM Z g):=by have a:=P3 Z.d;have b:=P3 Z.e;have c:=P3 Z.a;have d:=P3 Z.c;have e:=Uy Z.b;have f:=Uy g;unfold nkw eM;refine U6 (λ_=>rfl) (λi=>?_);refine rR (by simp only[cI,EI,U,fK,Sq,I_,q4,js,true_and,and_true];omega) rfl
def nmu(a:Ve→α)(p:N):α:=a (⟨p.a.c,p.b,p.d,p.a.f,p.a.e⟩:Ve)
def Ng(p:N):Ve:=nmu id p
theorem nu1(a:Ve→α)(p:N):nmu a p=a (Ng p):=by rfl
def nyb(c:x→α)(f:Ve):α:=let a:x:=(jo f.b)++(jo f.d);let b:x:=a++(Zt f.f);cond (t (t (t true (EI (jo f.b) (jo f.d))) (EI a (Zt f.f))) (EI b (Zt f.e))) (c (b++(Zt f.e))) lf
def WQ(f:Ve):x:=jo f.b++jo f.d++Zt f.f++Zt f.e
theorem nkN(e:x→α)(f:Ve):nyb lf e f=e (WQ f):=by have a:=Uy f.b;have b:=Uy f.d;have c:=P3 f.f;have d:=P3 f.e;unfold nyb;refine rR (by simp only[cI,EI,U,fK,Sq,I_,q4,js,true_and,and_true];omega) rfl
def Ur(a:Ue→α)(v:Ue):α:=cond (!(iv v)) (a v) (a (zY (⟨v.e,v.d,DB (s (v.c+1)) 1000000,v.b,v.a,v.f⟩:Ue)))
def Uw(v:Ue):Ue:=Ur id v
theorem nr4(a:Ue→α)(v:Ue):Ur a v=a (Uw v):=by exact Ha rfl rfl
def nhK(b:Int→α)(Z:x)(i:Int):α:=let a:Int:=s (7 - (q5 i 8));cond (t (t true (A (s (tk i 8)) Z)) (decide (0≤a))) (b (bits .and .i64 (s (I4 .u8 (A2 Z (s (tk i 8))) a)) 1)) lf
theorem nek{x n:Int}(a:0≤x)(e:x<256)(f:0≤n)(n1:n≤7):I4 .u8 x n=I4 .i64 x n∧s (I4 .i64 x n)=I4 .i64 x n:=by
 have d:I4 .u8 x n=Int.fdiv x (2 ^ n.toNat):=by unfold I4;rw[show min n.toNat IntKind.u8.bits=n.toNat from uC (by show n.toNat≤8;omega)]
 have b:I4 .i64 x n=Int.fdiv x (2 ^ n.toNat):=by unfold I4;rw[show min n.toNat IntKind.i64.bits=n.toNat from uC (by show n.toNat≤64;omega)]
 refine⟨d.trans b.symm, ?_⟩;rw[b];have c:(0:Int)≤2 ^ n.toNat:=Int.pow_nonneg (by omega);rw[uT x c];exact fg (by have:=Int.ediv_nonneg a c;omega) (by have:=Int.ediv_le_self (2 ^ n.toNat:Int) a;omega)
def pX(s:x)(i:Int):Bool:=decide (0≤i) && decide (i<8*len s)
def nV(s:x)(i:Int):Int:=bits .and .i64 (I4 .i64 (A2 s (tk i 8)) (7 - q5 i 8)) 1
theorem nfw(s:x)(i:Int):0≤nV s i∧nV s i<2:=by unfold nV;rw[show bits .and .i64 (I4 .i64 (A2 s (tk i 8)) (7 - q5 i 8)) 1=I4 .i64 (A2 s (tk i 8)) (7 - q5 i 8) % 2 from Ov 1 (by decide) _];omega
theorem nBT(b:Int→α)(Z:x)(i:Int)(d:IJ .str (.str Z))(a:IJ .i (.int i))(c:pX Z i=true):nhK lf b Z i=b (nV Z i):=by
 have q:=cj d;have r:=Ti a;simp only[pX,Bl,js] at c;simp only[len] at c;have e:tk i 8=i / 8:=Int.tdiv_eq_ediv_of_nonneg (by omega);have f:q5 i 8=i % 8:=uL (by omega);have g:=Te Z (i / 8);have c0:=UE Z (i / 8);have h:s (i / 8)=i / 8:=fg;have j:s (7 - i % 8)=7 - i % 8:=fg;have k:s (A2 Z (i / 8))=A2 Z (i / 8):=fg;obtain⟨l,m⟩:=nek g c0 (n:=7 - i % 8) (by omega) (by omega);have o:A (i / 8) Z=true:=by simp only[A,Bl,js];omega
 have p:decide (0≤7 - i % 8)=true:=Hd (by omega);unfold nhK nV;simp only[e,f,h,j,k,l,m,o,p,Oi,H]
def RM(b:Int→α)(key:x)(a:Int)(c:Int→Int→α)(n i:Int):α:=cond (i<s (a+32)) (cond (t true (pX key i)) (c (bits .or .i64 (PJ .i64 n 1) (nV key i)) (s (i+1))) lf) (b n)
def F2(b:Int→α)(N:Nat)(key:x)(a:Int)(c:Nat):Int→Int→α:=bW (λ_ _=>lf) (RM lf b key a) c
theorem nCI(b:Int→α)(N:Nat)(key:x)(a:Int)(c:Nat):F2 lf b N key a (c+1)=RM lf b key a (F2 lf b N key a c):=rfl
def fO(lf:α)(b:Int→α)(c:Int→Int→α)(key:x)(a:Int):α:=cond (cond ((len key) != 16) true (!(D a 0 96))) (b (-1)) (c 0 a)
def nAj(b:Int→α)(N:Nat)(key:x)(a:Int):α:=fO lf b (F2 lf b N key a N) key a
theorem noK:∀j:Nat,j<33→(2:Int) ^ j≤4294967296:=by decide
def ngs(key:x)(a:Int)(j:Nat)(n:Int):Int:=n*2+nV key (a+(j:Int))
def af(key:x)(a:Int):Int:=cond (cond ((len key) != 16) true (!(D a 0 96))) (-1) (kM (ngs key a) 32 0 0)
theorem nb8(b:Int→α)(key:x)(a:Int):∃N,nAj lf b N key a=b (af key a):=by
 unfold nAj fO af;refine⟨33, ?_⟩;refine U6 (λ_=>rfl) (λd=>?_);have f:len key=16:=by
  revert d;cases h:(len key) != 16
  ·intro _;simpa using h
  ·intro h;cases h
 have e:D a 0 96=true:=by revert d;cases (len key) != 16<;>cases D a 0 96<;>simp
 have e:=YF.1 e;have key:∀(m j:Nat) (n:Int) (N:Nat),j+m=32→m<N→0≤n→n<2 ^ j→F2 lf b 33 key a N n (a+(j:Int))=b (kM (ngs key a) m j n):=by
  intro m
  induction m with
  | zero=>
   intro j n N g i k l;obtain⟨N,rfl⟩:=DF N;have v:(j:Int)=32:=by omega
   rw[nCI];have c:s (a+32)=a+32:=fg;have o:decide (a+(j:Int)<a+32)=false:=ja (by omega);simp only[RM,c,o,J,kM]
  | succ m p=>
   intro j n N g i k l;obtain⟨N,rfl⟩:=DF N;have w:=nfw key (a+(j:Int));have Z:=noK j (by omega);have y:=noK (j+1) (by omega);have z:(2:Int) ^ (j+1)=2 ^ j*2:=Int.pow_succ 2 j;have r:pX key (a+(j:Int))=true:=by simp only[pX,Bl,js];omega
   have this:=p (j+1) (n*2+nV key (a+(j:Int))) N (by omega) (by omega) (by omega) (by omega);rw[nCI];have c:s (a+32)=a+32:=fg;have Y:s (a+(j:Int)+1)=a+((j+1:Nat):Int):=by rw[fg];omega
   have t:decide (a+(j:Int)<a+32)=true:=Hd (by omega);have u:bits .or .i64 (PJ .i64 n 1) (nV key (a+(j:Int)))=n*2+nV key (a+(j:Int)):=by rw[show PJ .i64 n 1=s (n*2) from rfl,fg (n:=n*2)];exact eL 1 (by omega) (by omega) (by omega) (by omega) (by omega) (by omega)
   simp only[RM,c,Y,t,u,r,Oi,H];exact this
 have:=key 32 0 0 33 (by omega) (by omega) (by omega) (by decide);exact (by rw[show a+((0:Nat):Int)=a by omega] at this;exact this)
def Zr(b:Int→α)(key a:x)(c:Int→Int→α)(h i:Int):α:=cond (i<s (8*(len a))) (cond (t true (pX a i)) (c (cond ((nV a i)==1) (bits .xor .i64 h (af key i)) h) (s (i+1))) lf) (b h)
def Pc(b:Int→α)(N:Nat)(key a:x)(c:Nat):Int→Int→α:=bW (λ_ _=>lf) (Zr lf b key a) c
theorem niw(b:Int→α)(N:Nat)(key a:x)(c:Nat):Pc lf b N key a (c+1)=Zr lf b key a (Pc lf b N key a c):=rfl
def bw(lf:α)(b:Int→α)(c:Int→Int→α)(key a:x):α:=cond (cond ((len key) != 16) true (decide (12<len a))) (b (-1)) (c 0 0)
def nje(b:Int→α)(N:Nat)(key a:x):α:=bw lf b (Pc lf b N key a N) key a
def nF3(key a:x)(i:Nat)(h:Int):Int:=cond ((nV a (i:Int))==1) (bits .xor .i64 h (af key (i:Int))) h
def kf(key a:x):Int:=cond (cond ((len key) != 16) true (decide (12<len a))) (-1) (kM (nF3 key a) (8*a.length) 0 0)
theorem niE(b:Int→α)(key a:x)(c:IJ .str (.str a)):∃N,nje lf b N key a=b (kf key a):=by
 have m:=cj c;unfold nje bw kf;refine⟨8*a.length+1, ?_⟩;refine U6 (λ_=>rfl) (λe=>?_);have f:a.length≤12:=by
  revert e;cases (len key) != 16
  ·intro h;have:=of_decide_eq_false h;simp only[len] at this;omega
  ·intro h;cases h
 have d:s (8*(len a))=((8*a.length:Nat):Int):=by rw[fg (by simp only[len];omega) (by simp only[len];omega)];simp only[len];omega
 refine (je (8*a.length) (λn i (h:Int)=>Pc lf b (8*a.length+1) key a n h i) (nF3 key a) b (λ_ _=>True) (λ_ _ _ _=>trivial) ?_ ?_ (8*a.length+1) 0 trivial (by omega))
 ·intro n i h o _;show Pc lf b (8*a.length+1) key a (n+1) h (i:Int)=_;rw[niw];have g:pX a (i:Int)=true:=by simp only[pX,Bl,js];simp only[len];omega
  have j:s ((i:Int)+1)=(i:Int)+1:=fg;have k:decide ((i:Int)<((8*a.length:Nat):Int))=true:=Hd (by omega);simp only[Zr,d,j,k,g,Oi,H];rfl
 ·intro n h _;show Pc lf b (8*a.length+1) key a (n+1) h ((8*a.length:Nat):Int)=_;rw[niw];have l:decide (((8*a.length:Nat):Int)<((8*a.length:Nat):Int))=false:=ja (by omega);simp only[Zr,d,l,J]
def nC7(a:Int→α)(key:x)(f:Ve):α:=a (kf key (WQ f))
def NK(key:x)(f:Ve):Int:=nC7 id key f
theorem nL6(a:Int→α)(key:x)(f:Ve):nC7 a key f=a (NK key f):=by rfl
def nlC(a:Int→α)(q:CI):α:=cond (q.c<q.a) (a 1) (a 0)
def PW(q:CI):Int:=nlC id q
theorem npd(a:Int→α)(q:CI):nlC a q=a (PW q):=by exact Ha rfl rfl
def np9(a:Int→α)(q:CI):α:=cond (t true (!(q.a==0))) (a (s (q.b+(s ((q5 q.c q.a)*16))))) lf
def WC(q:CI):Int:=s (q.b+s (q5 q.c q.a*16))
theorem nz0(a:Int→α)(q:CI)(b:dq q=true):np9 lf a q=a (WC q):=by
 obtain⟨d,e,f,g,h,i,j⟩:=gZ b;have c:(!(q.a==0))=true:=by simp;omega
 unfold np9;exact rR (ZY c) rfl
def nvd(b:v→CI→Bool→α)(list_:u)(m:v)(a:Int)(q:CI)(x:Ja):α:=let c:v×Bool:=YI list_ m a (WC q) (eM x (PW q));cond (cond (!(dq q)) true (!(tQ x))) (cond (t true (WO m)) (b (F m) q false) lf) (cond (t (t true (dq q)) (zE list_ m a (WC q) (eM x (PW q)))) (cond (!c.2) (b c.1 q false) (cond (t true (!((s (2*q.a))==0))) (b c.1 (⟨q.b,q.a,q5 (s (q.c+1)) (s (2*q.a))⟩:CI) true) lf)) lf)
def Yi(list_:u)(m:v)(a:Int)(q:CI)(x:Ja):v×CI×Bool:=cond (cond (!(dq q)) true (!(tQ x))) (m,q,false) (cond (!(YI list_ m a (WC q) (eM x (PW q))).2) (m,q,false) ((YI list_ m a (WC q) (eM x (PW q))).1,⟨q.b,q.a,q5 (s (q.c+1)) (s (2*q.a))⟩,true))
def TF{α β:Type}(list_:u)(m:v)(a:Int)(q:α)(x:β):Bool:=WO m
theorem nx8(l:u)(m:v)(d:Int)(q:CI)(x:Ja):(Yi l m d q x).1.a.length=m.a.length:=by
 unfold Yi;cases (cond (!(dq q)) true (!(tQ x)))
 ·cases (YI l m d (WC q) (eM x (PW q))).2
  ·rfl
  ·exact lW _ _ _ _ _ _
 ·rfl
theorem nm6{l:u}{m:v}{d:Int}{q:CI}{x:Ja}(h:dq q=true):dq (Yi l m d q x).2.1=true:=by
 unfold Yi;cases (cond (!(dq q)) true (!(tQ x)))
 ·cases (YI l m d (WC q) (eM x (PW q))).2
  ·exact h
  ·exact ny6 h
 ·exact h
theorem niM(c:v→CI→Bool→α)(list_:u)(m:v)(b:Int)(q:CI)(x:Ja)(f:TF list_ m b q x=true):nvd lf c list_ m b q x=c (Yi list_ m b q x).1 (Yi list_ m b q x).2.1 (Yi list_ m b q x).2.2:=by
 have h:WO m=true:=f;have d:∀a X,zE list_ m b a X=true:=λa X=>f;unfold nvd Yi;dsimp only;refine U6 (K:=λr:v×CI×Bool=>c r.1 r.2.1 r.2.2) (λ_=>by rw[h];rfl) (λi=>?_);have g:dq q=true:=by revert i;cases dq q<;>simp
 obtain⟨k,l,n,o,p,t,Z⟩:=gZ g;have j:(!((s (2*q.a))==0))=true:=by rw[fg];simp;omega
 have Y:(!(q.a==0))=true:=by simp;omega
 refine rR (by rw[g,d];rfl) ?_;refine U6 (K:=λr:v×CI×Bool=>c r.1 r.2.1 r.2.2) (λe=>?_) (λ_=>rR (ZY j) rfl);have e:(YI list_ m b (WC q) (eM x (PW q))).2=false:=by simpa using e
 rw[show (YI list_ m b (WC q) (eM x (PW q))).1=m from neG e]
def oy(list_:u)(m:v)(b:Int)(q:S)(a key:x):v×CI×Bool:=cond (cond (!(UX a).2) true (cond ((UX a).1.c != 3) true (decide ((UX a).1.e<len (O3 q.a.b).1)))) (m,q.c,false) (cond (!(YI list_ m b (UX a).1.f (O3 q.a.b).1).2) (m,q.c,false) (Yi list_ (YI list_ m b (UX a).1.f (O3 q.a.b).1).1 b q.c ⟨(UX a).1.d,len (O3 q.a.b).1,q.a.a,q.a.c,NK key (Ng q.a.b)⟩))
def NP{α β d:Type}(list_:u)(m:v)(c:Int)(q:α)(a:β)(b:d):Bool:=WO m
theorem nmX(l:u)(m:v)(d:Int)(q:S)(e key:x):(oy l m d q e key).1.a.length=m.a.length:=by
 unfold oy;cases (cond (!(UX e).2) true (cond ((UX e).1.c != 3) true (decide ((UX e).1.e<len (O3 q.a.b).1))))
 ·cases (YI l m d (UX e).1.f (O3 q.a.b).1).2
  ·rfl
  ·exact (nx8 _ _ _ _ _).trans (lW _ _ _ _ _ _)
 ·rfl
theorem nmi{l:u}{m:v}{d:Int}{q:S}{e key:x}(h:dq q.c=true):dq (oy l m d q e key).2.1=true:=by
 unfold oy;cases (cond (!(UX e).2) true (cond ((UX e).1.c != 3) true (decide ((UX e).1.e<len (O3 q.a.b).1))))
 ·cases (YI l m d (UX e).1.f (O3 q.a.b).1).2
  ·exact h
  ·exact nm6 h
 ·exact h
def jt(list_:u)(m:v)(a:Int)(q:S)(key b:x):v×CI×Bool:=cond (!(O3 q.a.b).2) (m,q.c,false) (oy list_ m a q b key)
def nhi(c:v→CI→Bool→α)(list_:u)(m:v)(b:Int)(q:S)(key a:x):α:=let e:Int:=len ((O3 q.a.b).1);let f:v×Bool:=YI list_ m b (((UX a).1).f) ((O3 q.a.b).1);let g:v:=f.1;let h:Ja:=(⟨((UX a).1).d,e,q.a.a,q.a.c,NK key (Ng q.a.b)⟩:Ja);let d:v×CI×Bool:=Yi list_ g b q.c h;cond (cond (!((UX a).2)) true (cond (!((O3 q.a.b).2)) true (cond ((((UX a).1).c) != 3) true (decide (((UX a).1).e<e))))) (c m q.c false) (cond (t true (zE list_ m b (((UX a).1).f) ((O3 q.a.b).1))) (cond (!f.2) (c m q.c false) (cond (t true (TF list_ g b q.c h)) (c d.1 d.2.1 d.2.2) lf)) lf)
theorem nb0(f:v→CI→Bool→α)(list_:u)(m:v)(d:Int)(q:S)(key e:x)(g:NP list_ m d q key e=true):nhi lf f list_ m d q key e=f (jt list_ m d q key e).1 (jt list_ m d q key e).2.1 (jt list_ m d q key e).2.2:=by
 have k:WO m=true:=g;have h:∀a s,zE list_ m d a s=true:=λa s=>g;have i:∀a s (Z:Ja),TF list_ (YI list_ m d a s).1 d q.c Z=true:=λa s Z=>Hd (by show (put list_ m d a s true).1.a.length≤16777216;rw[lW];exact R8 g)
 unfold nhi jt;dsimp only;have j:∀a b c:Bool,(cond a true (cond (!(O3 q.a.b).2) true (cond b true c)))=(cond (!(O3 q.a.b).2) true (cond a true (cond b true c))):=by intro a b c;cases a<;>cases (O3 q.a.b).2<;>rfl
 rw[j];cases (O3 q.a.b).2
 ·rfl
 simp only[ra,J];unfold oy;refine U6 (K:=λr:v×CI×Bool=>f r.1 r.2.1 r.2.2) (λ_=>rfl) (λl=>?_);refine rR (ZY (h _ _)) ?_;refine U6 (K:=λr:v×CI×Bool=>f r.1 r.2.1 r.2.2) (λ_=>rfl) (λ_=>?_);exact rR (ZY (i _ _ _)) rfl
def nln(c:v→CI→Bool→α)(list_:u)(m:v)(b:Int)(q:S)(key a:x):α:=let e:Int:=len ((O3 q.a.b).1);let f:v×Bool:=YI list_ m b (((UX a).1).f) ((O3 q.a.b).1);let g:v:=f.1;let h:Ja:=(⟨((UX a).1).d,e,q.a.a,q.a.c,NK key (Ng q.a.b)⟩:Ja);let d:v×CI×Bool:=Yi list_ g b q.c h;cond (cond (!((UX a).2)) true (cond (!((O3 q.a.b).2)) true (cond ((((UX a).1).c) != 3) true (decide (((UX a).1).e<e))))) (cond false (c m q.c false) lf) (cond (t true (zE list_ m b (((UX a).1).f) ((O3 q.a.b).1))) (cond (!f.2) (cond false (c m q.c false) lf) (cond (t true (TF list_ g b q.c h)) (c d.1 d.2.1 d.2.2) lf)) lf)
def VI(list_:u)(m:v)(a:Int)(q:S)(key b:x):Bool:=NP list_ m a q key b && (jt list_ m a q key b).2.2
theorem veD(h:v→CI→Bool→α)(list_:u)(m:v)(d:Int)(q:S)(key e:x)(g:VI list_ m d q key e=true):nln lf h list_ m d q key e=h (jt list_ m d q key e).1 (jt list_ m d q key e).2.1 (jt list_ m d q key e).2.2:=by
 obtain⟨g,f⟩:NP list_ m d q key e=true∧(jt list_ m d q key e).2.2=true:=by simpa only[VI,Bl] using g
 unfold jt oy at f;have p:WO m=true:=g;have i:∀a s,zE list_ m d a s=true:=λa s=>g;have j:∀a s (Z:Ja),TF list_ (YI list_ m d a s).1 d q.c Z=true:=λa s Z=>Hd (by show (put list_ m d a s true).1.a.length≤16777216;rw[lW];exact R8 g)
 unfold nln jt;dsimp only;have n:∀a b c:Bool,(cond a true (cond (!(O3 q.a.b).2) true (cond b true c)))=(cond (!(O3 q.a.b).2) true (cond a true (cond b true c))):=by intro a b c;cases a<;>cases (O3 q.a.b).2<;>rfl
 rw[n];cases l:(O3 q.a.b).2
 ·rw[l] at f;cases f
 rw[l] at f;simp only[ra,J] at f ⊢;unfold oy;refine U6 (K:=λr:v×CI×Bool=>h r.1 r.2.1 r.2.2) (λk=>?_) (λk=>?_)
 ·rw[k] at f;cases f
 rw[k,J] at f;refine rR (ZY (i _ _)) ?_;refine U6 (K:=λr:v×CI×Bool=>h r.1 r.2.1 r.2.2) (λo=>?_) (λ_=>?_)
 ·rw[o] at f;cases f
 exact rR (ZY (j _ _ _)) rfl
def nbJ(c:v→S→α)(list_:u)(m:v)(a:Int)(q:S)(key:x):α:=let b:x×I×Bool:=D0 list_ m a q.b;let d:v×CI×Bool:=jt list_ m a q key b.1;let e:QI:=(⟨(⟨0,0,0,0,0,0,0,0,(⟨0,0,0,0,0,0,0,[]⟩:EP)⟩:N),0,0⟩:QI);let f:Int:=s (q.e+q.a.c);cond (cond (!(TH q)) true (cond (!q.f) true ((len key) != 16))) (cond (t true (WO m)) (c (F m) q) lf) (cond b.2.2 (cond (t true (VI list_ m a q key b.1)) (cond d.2.2 (c d.1 (⟨b.2.1,d.2.1,q.d,e,false,q.e⟩:S)) (cond (t true (WO m)) (c (F m) (⟨b.2.1,q.c,q.d,e,false,f⟩:S)) lf)) lf) (cond (t true (WO m)) (c (F m) (⟨q.b,q.c,q.d,e,false,f⟩:S)) lf))
def gO:QI:=⟨⟨0,0,0,0,0,0,0,0,⟨0,0,0,0,0,0,0,[]⟩⟩,0,0⟩
def aX{α β:Type}(list_:u)(m:v)(a:Int)(q:α)(key:β):Bool:=WO m
def Wd(list_:u)(m:v)(a:Int)(q:S)(key:x):v×S:=cond (cond (!(TH q)) true (cond (!q.f) true ((len key) != 16))) (m,q) (cond (cond (D0 list_ m a q.b).2.2 (oy list_ m a q (D0 list_ m a q.b).1 key).2.2 false) ((oy list_ m a q (D0 list_ m a q.b).1 key).1,⟨(D0 list_ m a q.b).2.1,(oy list_ m a q (D0 list_ m a q.b).1 key).2.1,q.d,gO,false,q.e⟩) (m,⟨(D0 list_ m a q.b).2.1,q.c,q.d,gO,false,s (q.e+q.a.c)⟩))
theorem nFe(l:u)(m:v)(d:Int)(q:S)(key:x):(Wd l m d q key).1.a.length=m.a.length:=by
 unfold Wd;cases (cond (!(TH q)) true (cond (!q.f) true ((len key) != 16)))
 ·cases (cond (D0 l m d q.b).2.2 (oy l m d q (D0 l m d q.b).1 key).2.2 false)
  ·rfl
  ·exact nmX _ _ _ _ _ _
 ·rfl
theorem ZD{l:u}{m:v}{d:Int}{q:S}{key:x}(h:dq q.c=true):dq (Wd l m d q key).2.c=true:=by
 unfold Wd;cases (cond (!(TH q)) true (cond (!q.f) true ((len key) != 16)))
 ·cases (cond (D0 l m d q.b).2.2 (oy l m d q (D0 l m d q.b).1 key).2.2 false)
  ·exact h
  ·exact nmi h
 ·exact h
def i6(list_:u)(m:v)(a:Int)(q:S)(key:x):Bool:=cond (cond (!(TH q)) true (cond (!q.f) true ((len key) != 16))) true (cond (D0 list_ m a q.b).2.2 (jt list_ m a q key (D0 list_ m a q.b).1).2.2 true)
def fJ(list_:u)(m:v)(a:Int)(q:S)(key:x):Bool:=aX list_ m a q key && i6 list_ m a q key
def SS(list_:u)(m:v)(a:Int)(q:S)(key:x):Bool:=aX list_ m a q key && !(i6 list_ m a q key)
theorem nvT(d:v→S→α)(list_:u)(m:v)(a:Int)(q:S)(key:x)(b:fJ list_ m a q key=true):nbJ lf d list_ m a q key=d (Wd list_ m a q key).1 (Wd list_ m a q key).2:=by
 obtain⟨b,c⟩:aX list_ m a q key=true∧i6 list_ m a q key=true:=by simpa only[fJ,Bl] using b
 have i:WO m=true:=b;have t:∀e:x,NP list_ m a q key e=true:=λe=>b;have l:∀e:x,NP list_ m a q e key=true:=λe=>b;unfold nbJ Wd;dsimp only;refine U6 (K:=λr:v×S=>d r.1 r.2) (λ_=>rR (ZY i) rfl) (λf=>?_);have n:(O3 q.a.b).2=true:=by
  rw[zV];have o:TH q=true:=by revert f;cases TH q<;>simp
  have p:q.f=true:=by revert f;cases TH q<;>cases q.f<;>simp
  exact (fI o).2.2.2 p
 have j:∀e,jt list_ m a q key e=oy list_ m a q e key:=λe=>by unfold jt;rw[n];rfl
 have g:(D0 list_ m a q.b).2.2=false→(D0 list_ m a q.b).2.1=q.b:=by
  unfold D0;cases (cond (!(Vd q.b)) true ((TG q.b)==0))
  ·cases (Eo list_ m a (lO q.b q.b.d) 16).2
   ·intro _;rfl
   ·intro h;cases h
  ·intro _;rfl
 unfold i6 at c;rw[f,J] at c;cases k:(D0 list_ m a q.b).2.2
 ·rw[g k];simp only[J];exact rR (ZY i) rfl
 ·rw[k,H] at c;have s:VI list_ m a q key (D0 list_ m a q.b).1=true:=by simp only[VI,Bl];exact⟨b,c⟩
  rw[j] at c;simp only[H,s,j,c,Oi];rfl
def nrM(c:v→S→α)(list_:u)(m:v)(a:Int)(q:S)(key:x):α:=let b:x×I×Bool:=D0 list_ m a q.b;let d:v×CI×Bool:=jt list_ m a q key b.1;let e:QI:=(⟨(⟨0,0,0,0,0,0,0,0,(⟨0,0,0,0,0,0,0,[]⟩:EP)⟩:N),0,0⟩:QI);let f:Int:=s (q.e+q.a.c);cond (cond (!(TH q)) true (cond (!q.f) true ((len key) != 16))) (cond (t true (WO m)) (c (F m) q) lf) (cond b.2.2 (cond (t true (NP list_ m a q key b.1)) (cond d.2.2 (cond false (c d.1 (⟨b.2.1,d.2.1,q.d,e,false,q.e⟩:S)) lf) (cond (t true (WO m)) (c (F m) (⟨b.2.1,q.c,q.d,e,false,f⟩:S)) lf)) lf) (cond (t true (WO m)) (c (F m) (⟨q.b,q.c,q.d,e,false,f⟩:S)) lf))
theorem nEf(d:v→S→α)(list_:u)(m:v)(a:Int)(q:S)(key:x)(c:SS list_ m a q key=true):nrM lf d list_ m a q key=d (Wd list_ m a q key).1 (Wd list_ m a q key).2:=by
 obtain⟨c,b⟩:aX list_ m a q key=true∧(!(i6 list_ m a q key))=true:=by simpa only[SS,Bl] using c
 have g:WO m=true:=c;have k:∀e:x,NP list_ m a q key e=true:=λe=>c;have l:∀e:x,NP list_ m a q e key=true:=λe=>c;unfold nrM Wd;dsimp only;refine U6 (K:=λr:v×S=>d r.1 r.2) (λ_=>rR (ZY g) rfl) (λf=>?_);have n:(O3 q.a.b).2=true:=by
  rw[zV];have o:TH q=true:=by revert f;cases TH q<;>simp
  have p:q.f=true:=by revert f;cases TH q<;>cases q.f<;>simp
  exact (fI o).2.2.2 p
 have i:∀e,jt list_ m a q key e=oy list_ m a q e key:=λe=>by unfold jt;rw[n];rfl
 have s:(D0 list_ m a q.b).2.2=false→(D0 list_ m a q.b).2.1=q.b:=by
  unfold D0;cases (cond (!(Vd q.b)) true ((TG q.b)==0))
  ·cases (Eo list_ m a (lO q.b q.b.d) 16).2
   ·intro _;rfl
   ·intro h;cases h
  ·intro _;rfl
 have b:i6 list_ m a q key=false:=by simpa using b
 unfold i6 at b;rw[f,J] at b;cases j:(D0 list_ m a q.b).2.2
 ·rw[j] at b;cases b
 ·rw[j,H,i] at b;simp only[H,k,i,b,Oi,J];exact rR g rfl
def Pg(b:z→α)(k c d e f g h i j l:Int)(m:Bool)(o:x)(p:Bool)(Y r V U Z:Int)(X w W y T S B C D E F R H Q J:u)(K:Int→u→α)(n:Int)(a:u):α:=cond (0<n) (cond (t (t (t (t true (A k a)) (inl (qC k) a)) (A k a)) (inl (qC k) a)) (K (s (n - 1)) (q0 a (qC k) (Sk (q a (qC k)) 0 (Ue.enc (Uw (Ue.nd (q a (qC k)) 0)))))) lf) (b (⟨(⟨X⟩:v),w,(⟨(⟨c,d,e,f⟩:I),(⟨g,h,i,W⟩:G),y,j⟩:Co),T,S,a,B,(⟨l,m,C⟩:QD),(⟨D,(⟨E⟩:mB),(⟨o,F⟩:iI)⟩:se),R,p,H,Q,J,(⟨Y,r,V,U,Z⟩:Pa)⟩:z))
def iO(a:z→α)(N:Nat)(k b c d e f g h i j:Int)(l:Bool)(m:x)(n:Bool)(o p q r s:Int)(t Z v w Y y X A B C D E F G H:u)(I:Nat):Int→u→α:=bW (λ_ _=>lf) (Pg lf a k b c d e f g h i j l m n o p q r s t Z v w Y y X A B C D E F G H) I
theorem nE9(a:z→α)(N:Nat)(k b c d e f g h i j:Int)(l:Bool)(m:x)(n:Bool)(o p q r s:Int)(t Z v w Y y X A B C D E F G H:u)(I:Nat):iO lf a N k b c d e f g h i j l m n o p q r s t Z v w Y y X A B C D E F G H (I+1)=Pg lf a k b c d e f g h i j l m n o p q r s t Z v w Y y X A B C D E F G H (iO lf a N k b c d e f g h i j l m n o p q r s t Z v w Y y X A B C D E F G H I):=rfl
def e9(e:z→α)(d:Int→Int→Int→Int→Int→Int→Int→Int→Int→Bool→x→Bool→Int→Int→Int→Int→Int→u→u→u→u→u→u→u→u→u→u→u→u→u→u→u→Int→u→α)(h:z)(k a:Int):α:=let b:Int:=s ((r (q h.b (qC k)) 6) - a);let c:Int:=s (2*(r (q h.b (qC k)) 5));cond (t (t true (A k h.b)) (inl (qC k) h.b)) (cond (t true (vt b c)) (d h.a.b.b h.a.b.a h.a.b.d h.a.b.c h.a.a.b h.a.a.a h.a.a.c h.a.d h.f.b h.f.c h.d.b.b h.m h.c.a h.c.b h.c.e h.c.c h.c.d h.h.a h.j h.a.a.d h.a.c h.b h.e h.i h.f.a h.d.c h.d.a.a h.d.b.a h.k h.l h.n h.o (Rk b c) h.g) lf) lf
def nuZ(b:z→α)(N:Nat)(h:z)(k a:Int):α:=e9 lf b (λc d e f g i j l m n o p q r s t u v w x y Z A B C D E F G H I J=>iO lf b N k c d e f g i j l m n o p q r s t u v w x y Z A B C D E F G H I J N) h k a
def Zj(r:List DC):List DC:=Ue.enc (Uw (Ue.nd r 0))
def dD(h:z)(k:Int):CI:=(S.nd (q h.b k.toNat) 0).c
def Xk(h:z)(k a:Int):Nat:=(((dD h k).c - a) % (2*(dD h k).a)).toNat
def Hf(h:z)(k a:Int):Bool:=decide (0≤k) && (decide (k<len h.b) && (decide (k<len h.g) && (dq (dD h k) && D a 0 31)))
def Nc(h:z)(k a:Int):z:= {h with g:=kM (λ_ v=>q0 v k.toNat (Zj (q v k.toNat))) (Xk h k a) 0 h.g}
theorem nmD(d:z→α)(h:z)(k a:Int)(f:Q z.ct h.enc)(l:Hf h k a=true):∃N,nuZ lf d N h k a=d (Nc h k a):=by
 have acg:=(Nh (z.nni f)).2;simp only[Hf,Bl,js] at l;obtain⟨O,t,Z,w,y⟩:=l;obtain⟨c,rfl⟩:∃c:Nat,k=(c:Int):=⟨k.toNat,by omega⟩;have o:c<h.b.length:=by simp only[len] at t;omega
 have acG:c<h.g.length:=by simp only[len] at Z;omega
 obtain⟨P,agc,R,S,T,U,V⟩:=gZ w;have W:=YF.1 y;have g:r (q h.b c) 5=(dD h (c:Int)).a:=rfl;have j:r (q h.b c) 6=(dD h (c:Int)).c:=rfl;have X:=t0 ((dD h (c:Int)).c - a) (show 2*(dD h (c:Int)).a≠0 by omega);have n1:=t_ ((dD h (c:Int)).c - a) (show 0<2*(dD h (c:Int)).a by omega);have A:((dD h (c:Int)).c - a) % (2*(dD h (c:Int)).a)=((Xk h (c:Int) a:Nat):Int):=by unfold Xk;omega
 have Y:Xk h (c:Int) a≤32:=by unfold Xk;omega
 have B:s ((dD h (c:Int)).c - a)=(dD h (c:Int)).c - a:=fg;have C:s (2*(dD h (c:Int)).a)=2*(dD h (c:Int)).a:=fg;unfold nuZ e9 Nc;refine⟨40, ?_⟩;simp only[g,j,eR,mZ o,R7 o,Oi,H];rw[B,C];obtain⟨D,E⟩:=l9 (x:=(dD h (c:Int)).c - a) (n:=2*(dD h (c:Int)).a) (by omega) (by omega) (by omega) (by omega);simp only[D,E,A,Oi,H];have key:∀(m:Nat) (i:Nat) (v:u) (N:Nat),m<N→i+m=Xk h (c:Int) a→v.length=h.g.length→(∃x:Ue,q v c=x.enc)→
   iO lf d 40 (c:Int) h.a.b.b h.a.b.a h.a.b.d h.a.b.c h.a.a.b h.a.a.a h.a.a.c h.a.d h.f.b h.f.c h.d.b.b h.m h.c.a h.c.b h.c.e h.c.c h.c.d h.h.a h.j h.a.a.d h.a.c h.b h.e h.i h.f.a h.d.c h.d.a.a h.d.b.a h.k h.l h.n h.o N ((m:Nat):Int) v=d {h with g:=kM (λ_ v=>q0 v c (Zj (q v c))) m i v} :=by
  intro m
  induction m with
  | zero=>
   intro i v N F G p aba;obtain⟨N,rfl⟩:=DF N;rw[nE9];have adL:decide ((0:Int)<((0:Nat):Int))=false:=ja (by omega);simp only[Pg,adL,J,kM]
  | succ m I=>
   intro i v N F G p aba;obtain⟨N,rfl⟩:=DF N;rw[nE9];have b:c<v.length:=by omega
   have aeG:decide ((0:Int)<((m+1:Nat):Int))=true:=Hd (by omega);have e:(Ue.nd (q v c) 0).enc=q v c:=by obtain⟨x,K⟩:=aba;rw[K];rfl
   have L:Sk (q v c) 0 (Ue.enc (Uw (Ue.nd (q v c) 0)))=Zj (q v c):=Fx (by rw[←e];rfl);have this:=I (i+1) (q0 v c (Zj (q v c))) N (by omega) (by omega) (by rw[tr];exact p) ⟨Uw (Ue.nd (q v c) 0),O6 b _⟩;have M:s (((m+1:Nat):Int) - 1)=((m:Nat):Int):=by rw[fg];omega
   simp only[Pg,aeG,M,L,eR,mZ b,R7 b,Oi,H];exact this
 have:=key (Xk h (c:Int) a) 0 h.g 40 (by omega) (by omega) rfl ⟨Ue.nd (q h.g c) 0,(Ue.eta (acg _ (nU acG))).symm⟩;exact this
theorem Uk{a b:Bool}(h:(cond a true b)=false):a=false∧b=false:=by cases a<;>simp_all
theorem NU{h:z}(c:zp h=true):1≤h.b.length∧h.b.length≤2∧h.e.length=h.b.length∧h.g.length=h.b.length∧h.i.length=h.b.length∧
  ∀i,i<h.b.length→TH (S.nd (q h.b i) 0)=true∧PM (G.nd (q h.e i) 0)=true∧iv (Ue.nd (q h.g i) 0)=true:=by
 unfold zp at c;cases a:SH h
 case true=>rw[a] at c;cases c
 rw[a,J] at c;cases g:DA h.d (len h.b)
 case false=>rw[g] at c;cases c
 rw[g,H] at c;cases j:Ot (λi=>cond (!(TH (S.nd (q h.b i) 0))) true (cond (!(PM (G.nd (q h.e i) 0))) true (!(iv (Ue.nd (q h.g i) 0))))) h.b.length 0
 case true=>rw[j] at c;cases c
 unfold SH at a;obtain⟨_,a⟩:=Uk a;obtain⟨_,a⟩:=Uk a;obtain⟨_,a⟩:=Uk a;obtain⟨_,a⟩:=Uk a;obtain⟨b,a⟩:=Uk a;obtain⟨d,a⟩:=Uk a;obtain⟨e,f⟩:=Uk a;have b:=YF.1 (Vk b);have d:len h.e=len h.b:=by simpa using d
 have e:len h.g=len h.b:=by simpa using e
 have f:len h.i=len h.b:=by simpa using f
 simp only[len] at b d e f;refine⟨by omega,by omega,by omega,by omega,by omega,λi n=>?_⟩;have:=AZ.1 j i (by omega) (by omega);obtain⟨k,this⟩:=Uk this;obtain⟨l,m⟩:=Uk this;exact⟨Vk k,Vk l,Vk m⟩
def vu(E:z→α)(ab0:Int)(k:u)(F:F9 α)(a aej H aet J K L M N n:Int)(o:Bool)(f:x)(p:Bool)(O P Q R ahs:Int)(g d T U c Y abb ach acu V W X Z abv w y:u):α:=let acH:Co:=(⟨(⟨aej,H,aet,J⟩:I),(⟨K,L,M,T⟩:G),U,N⟩:Co);let ac2:se:=(⟨V,(⟨W⟩:mB),(⟨f,X⟩:iI)⟩:se);let B:Pa:=(⟨O,P,Q,R,ahs⟩:Pa);let C:z:=(⟨(Wd d (⟨g⟩:v) 0 (S.nd (q c (qC a)) 0) f).1,d,acH,q0 c (qC a) (Sk (q c (qC a)) 0 (S.enc ((Wd d (⟨g⟩:v) 0 (S.nd (q c (qC a)) 0) f).2))),Y,abb,ach,(⟨n,o,acu⟩:QD),ac2,Z,p,abv,w,y,B⟩:z);let b:z:=Nc C a (r (q k (qC a)) 6);let h:Co:=b.a;let i:I:=h.b;let j:G:=h.a;let l:QD:=b.f;let m:se:=b.d;let D:iI:=m.b;let e:Pa:=b.c;cond (a<ab0) (cond (t (t (t (t (t true (A a c)) (inl (qC a) c)) (aX d (⟨g⟩:v) 0 (S.nd (q c (qC a)) 0) f)) (A a c)) (inl (qC a) c)) (cond (t (t true (A a k)) (Hf C a (r (q k (qC a)) 6))) (F (s (a+1)) i.b i.a i.d i.c j.b j.a j.c h.d l.b l.c D.b b.m e.a e.b e.e e.c e.d b.h.a b.j j.d h.c b.b b.e b.g b.i l.a m.c m.a.a D.a b.k b.l b.n b.o) lf) lf) (E (⟨(⟨g⟩:v),d,acH,c,Y,abb,ach,(⟨n,o,acu⟩:QD),ac2,Z,p,abv,w,y,B⟩:z))
def bU(a:z→α)(N:Nat)(x:Int)(b:u)(c:Nat):F9 α:=bW (λ_ _ _ _ _ _ _ _ _ _ _ _ _ _ _ _ _ _ _ _ _ _ _ _ _ _ _ _ _ _ _ _ _ _=>lf) (vu lf a x b) c
theorem nEk(a:z→α)(N:Nat)(x:Int)(b:u)(c:Nat):bU lf a N x b (c+1)=vu lf a x b (bU lf a N x b c):=rfl
def iZ(a:z→α)(b:Int→u→Int→Int→Int→Int→Int→Int→Int→Int→Int→Int→Bool→x→Bool→Int→Int→Int→Int→Int→u→u→u→u→u→u→u→u→u→u→u→u→u→u→u→u→α)(h:z):α:=cond (t true (mD h)) (cond (t true (Aa h)) (cond (!(zp h)) (a (F h)) (b (len ((F h).b)) h.b 0 ((((F h).a).b).b) ((((F h).a).b).a) ((((F h).a).b).d) ((((F h).a).b).c) ((((F h).a).a).b) ((((F h).a).a).a) ((((F h).a).a).c) (((F h).a).d) (((F h).f).b) (((F h).f).c) ((((F h).d).b).b) ((F h).m) (((F h).c).a) (((F h).c).b) (((F h).c).e) (((F h).c).c) (((F h).c).d) (((F h).h).a) ((F h).j) ((((F h).a).a).d) (((F h).a).c) ((F h).b) ((F h).e) ((F h).g) ((F h).i) (((F h).f).a) (((F h).d).c) ((((F h).d).a).a) ((((F h).d).b).a) ((F h).k) ((F h).l) ((F h).n) ((F h).o))) lf) lf
def Zy(a:z→α)(N:Nat)(h:z):α:=iZ lf a (λx b=>bU lf a N x b N) h
def aj(h o:z)(i:Nat):v×S:=Wd h.j o.h 0 (S.nd (q h.b i) 0) h.d.b.b
def m0(h o:z)(i:Nat):z:= {o with h:=(aj h o i).1,b:=q0 o.b i (S.enc (aj h o i).2)}
def qK(h:z)(i:Nat)(o:z):z:=Nc (m0 h o i) (i:Int) (r (q h.b i) 6)
def KQ(h:z):Bool:=mD h && Aa h
def Ys(h:z):z:=cond (zp h) (kM (qK h) h.b.length 0 h) h
def X_(h:z)(i:Nat)(o:z):Prop:=o= {h with h:=o.h,b:=o.b,g:=o.g} ∧o.h.a.length=h.h.a.length∧o.b.length=h.b.length∧o.g.length=h.g.length∧∀j,i≤j→q o.b j=q h.b j
theorem nso(c:Nat):∀(m i:Nat) (v:u),(kM (λ_ v=>q0 v c (Zj (q v c))) m i v).length=v.length
 | 0,_,_=>rfl
 | m+1,i,v=>(nso c m (i+1) _).trans (tr ..)
theorem nsC{l:u}{i j:Nat}(h:i≠j)(x:List DC):q (q0 l i x) j=q l j:=by simp only[q,tj,uY h]
theorem XE{h o:z}{i:Nat}(a:X_ h i o):X_ h (i+1) (qK h i o):=by
 obtain⟨b,c,d,e,f⟩:=a;refine⟨?_, ?_, ?_, ?_, ?_⟩
 ·have this:=congrArg (λx:z=>({x with h:=(qK h i o).h,b:=(qK h i o).b,g:=(qK h i o).g} :z)) b;exact this
 ·exact (nFe _ _ _ _ _).trans c
 ·exact (tr ..).trans d
 ·exact (nso _ _ _ _).trans e
 ·intro j g;exact (nsC (by omega) _).trans (f j (by omega))
theorem nCo{h o:z}{i:Nat}(b:zp h=true)(c:i<h.b.length)(d:X_ h i o):Hf (m0 h o i) (i:Int) (r (q h.b i) 6)=true:=by
 obtain⟨_,n2,j,k,l,e⟩:=NU b;obtain⟨m,n,p,Z,Y⟩:=d;have a:=(fI (e i c).1).1;obtain⟨s,t,u,f,v,w,x⟩:=gZ a;have g:dD (m0 h o i) (i:Int)=(aj h o i).2.c:=by show (S.nd (q (q0 o.b i (S.enc (aj h o i).2)) (qC (i:Int))) 0).c=_;rw[eR,O6 (by omega)];rfl
 simp only[Hf,Bl,js];refine⟨by omega, ?_, ?_, ?_, ?_⟩
 ·show (i:Int)<len (q0 o.b i _);simp only[len,tr];omega
 ·show (i:Int)<len o.g;simp only[len];omega
 ·rw[g];exact ZD a
 ·exact YF.2 ⟨f,by show (S.nd (q h.b i) 0).c.c≤31;omega⟩
theorem nvP{h:z} :∃i,X_ h i (Ys h):=by
 unfold Ys;cases zp h
 ·exact⟨0,rfl,rfl,rfl,rfl,λ_ _=>rfl⟩
 ·have:∀(m i:Nat) (o:z),X_ h i o→X_ h (i+m) (kM (qK h) m i o):=by
   intro m
   induction m with
   | zero=>intro i o a;exact a
   | succ m b=>intro i o a;have:=b (i+1) _ (XE a);rw[show i+(m+1)=i+1+m by omega];exact this
  exact⟨_,this h.b.length 0 h ⟨rfl,rfl,rfl,rfl,λ_ _=>rfl⟩⟩
theorem nre(a:z→α)(h:z)(f:Q z.ct h.enc)(W:KQ h=true):∃N,Zy lf a N h=a (Ys h):=by
 obtain⟨w,y⟩:=Nh (z.nA9 f);have p:(mD h && Aa h)=true:=W;simp only[Bl] at p;obtain⟨s,b⟩:=p;have s':=s;simp only[mD,Bl] at s';have agd:=R8 s'.1;have b':Aa (⟨(⟨h.h.a⟩:v),h.j,(⟨(⟨h.a.b.b,h.a.b.a,h.a.b.d,h.a.b.c⟩:I),(⟨h.a.a.b,h.a.a.a,h.a.a.c,h.a.a.d⟩:G),h.a.c,h.a.d⟩:Co),h.b,h.e,h.g,h.i,(⟨h.f.b,h.f.c,h.f.a⟩:QD),(⟨h.d.c,(⟨h.d.a.a⟩:mB),(⟨h.d.b.b,h.d.b.a⟩:iI)⟩:se),h.k,h.m,h.l,h.n,h.o,(⟨h.c.a,h.c.b,h.c.e,h.c.c,h.c.d⟩:Pa)⟩:z)=true:=b;refine⟨h.b.length+1, ?_⟩;unfold Zy iZ Ys;simp only[s,b,F,Oi,H];cases g:zp h
 ·rfl
 ·have R:zp (⟨(⟨h.h.a⟩:v),h.j,(⟨(⟨h.a.b.b,h.a.b.a,h.a.b.d,h.a.b.c⟩:I),(⟨h.a.a.b,h.a.a.a,h.a.a.c,h.a.a.d⟩:G),h.a.c,h.a.d⟩:Co),h.b,h.e,h.g,h.i,(⟨h.f.b,h.f.c,h.f.a⟩:QD),(⟨h.d.c,(⟨h.d.a.a⟩:mB),(⟨h.d.b.b,h.d.b.a⟩:iI)⟩:se),h.k,h.m,h.l,h.n,h.o,(⟨h.c.a,h.c.b,h.c.e,h.c.c,h.c.d⟩:Pa)⟩:z)=true:=g;obtain⟨_,n2,aeu,aeH,K,L⟩:=NU g;have key:bU lf a (h.b.length+1) (len h.b) h.b (h.b.length+1) 0 h.a.b.b h.a.b.a h.a.b.d h.a.b.c h.a.a.b h.a.a.a h.a.a.c h.a.d h.f.b h.f.c h.d.b.b h.m h.c.a h.c.b h.c.e h.c.c h.c.d h.h.a h.j h.a.a.d h.a.c h.b h.e h.g h.i h.f.a h.d.c h.d.a.a h.d.b.a h.k h.l h.n h.o=a (kM (qK h) h.b.length 0 h):=by
   refine je h.b.length (λn i (o:z)=>bU lf a (h.b.length+1) (len h.b) h.b n i o.a.b.b o.a.b.a o.a.b.d o.a.b.c o.a.a.b o.a.a.a o.a.a.c o.a.d o.f.b o.f.c o.d.b.b o.m o.c.a o.c.b o.c.e o.c.c o.c.d o.h.a o.j o.a.a.d o.a.c o.b o.e o.g o.i o.f.a o.d.c o.d.a.a o.d.b.a o.k o.l o.n o.o) (qK h) (λo=>a o) (X_ h) ?_ ?_ ?_ (h.b.length+1) h ⟨rfl,rfl,rfl,rfl,λ_ _=>rfl⟩ (by omega)
   ·intro i o c d;exact XE d
   ·intro n i o c d;have U:Hf (⟨(aj h o i).1,o.j,(⟨(⟨o.a.b.b,o.a.b.a,o.a.b.d,o.a.b.c⟩:I),(⟨o.a.a.b,o.a.a.a,o.a.a.c,o.a.a.d⟩:G),o.a.c,o.a.d⟩:Co),q0 o.b i (S.enc (aj h o i).2),o.e,o.g,o.i,(⟨o.f.b,o.f.c,o.f.a⟩:QD),(⟨o.d.c,(⟨o.d.a.a⟩:mB),(⟨o.d.b.b,o.d.b.a⟩:iI)⟩:se),o.k,o.m,o.l,o.n,o.o,(⟨o.c.a,o.c.b,o.c.e,o.c.c,o.c.d⟩:Pa)⟩:z) (i:Int) (r (q h.b i) 6)=true:=nCo g c d;obtain⟨X,M,O,P,T⟩:=d;have j:=congrArg z.j X;have k:=congrArg (λV:z=>V.d.b.b) X;replace j:o.j=h.j:=j;replace k:o.d.b.b=h.d.b.b:=k;have t:q o.b i=q h.b i:=T i (sS _);show bU lf a (h.b.length+1) (len h.b) h.b (n+1) (i:Int) o.a.b.b o.a.b.a o.a.b.d o.a.b.c o.a.a.b o.a.a.a o.a.a.c o.a.d o.f.b o.f.c o.d.b.b o.m o.c.a o.c.b o.c.e o.c.c o.c.d o.h.a o.j o.a.a.d o.a.c o.b o.e o.g o.i o.f.a o.d.c o.d.a.a o.d.b.a o.k o.l o.n o.o=_;rw[nEk];have e:=congrArg tl (S.eta (y _ (nU c)));have Z:∀Y:S,Sk (q h.b i) 0 (S.enc Y)=S.enc Y:=λY=>Fx (e.symm.trans rfl);have B:∀Y:S,Sk (q o.b i) 0 (S.enc Y)=S.enc Y:=λY=>by rw[t];exact Z Y
    have C:A (i:Int) o.b=true:=mZ (by omega);have D:inl i o.b=true:=R7 (by omega);have E:WO (⟨o.h.a⟩:v)=true:=Hd (by show o.h.a.length≤_;omega);have m:∀(l:u) (Y:S) (key:x),aX l (⟨o.h.a⟩:v) 0 Y key=true:=λ_ _ _=>E;have aht:Wd o.j (⟨o.h.a⟩:v) 0 (S.nd (q h.b i) 0) o.d.b.b=aj h o i:=by rw[j,k];rfl
    simp only[vu,eR,t,aht,Z,sg c,mZ c,C,D,m,U,jy c w,Oi,cz,H];rfl
   ·intro n o d;show bU lf a (h.b.length+1) (len h.b) h.b (n+1) (h.b.length:Int) o.a.b.b o.a.b.a o.a.b.d o.a.b.c o.a.a.b o.a.a.a o.a.a.c o.a.d o.f.b o.f.c o.d.b.b o.m o.c.a o.c.b o.c.e o.c.c o.c.d o.h.a o.j o.a.a.d o.a.c o.b o.e o.g o.i o.f.a o.d.c o.d.a.a o.d.b.a o.k o.l o.n o.o=_;rw[nEk];simp only[vu,Ns,b',Oi,vb,H,J]
  exact key
theorem htC{t part:x}{a j:Int}(b:t.length≤9223372036854775807)(e:0≤j)(h:j<a):A2 (B9 t a part) j=A2 t j:=by
 unfold B9;cases c:YK t a (len part)
 ·rfl
 ·have d:=(within_iff b).1 c;simp only[len] at d;simp only[ra,J,A2,tj];rw[t5,List.getElem?_append_left (by rw[r8];omega),uZ (by omega)]
def IL(s t:x):Prop:=s.length=t.length∧∀j:Int,0≤j→j<24→A2 s j=A2 t j
theorem fQ{s t:x}(h:IL s t){a:Int}(b:0≤a)(d:a<23):CW s a=CW t a:=by
 have c:len s=len t:=by simp only[len,h.1]
 unfold CW YK Pb;rw[c,h.2 a b (by omega),h.2 (a+1) (by omega) (by omega)]
theorem nuo{s t:x}(h:IL s t){a:Int}(b:0≤a)(d:a<21):Q2 s a=Q2 t a:=by
 have c:len s=len t:=by simp only[len,h.1]
 unfold Q2;rw[c,h.2 a b (by omega),h.2 (a+1) (by omega) (by omega),h.2 (a+2) (by omega) (by omega),h.2 (a+3) (by omega) (by omega)]
theorem nmk{e f:xW}(a:e.d=f.d)(b:e.b=f.b)(c:e.e=f.e)(d:e.c=f.c)(g:e.a.length=f.a.length):zA e=zA f:=by unfold zA RQ;simp only[len,a,b,c,d,g]
theorem nBD{s t:x}(h:IL s t):(Ab s).2=(Ab t).2:=by
 have c:zA (QM s)=zA (QM t):=by
  have b:=fQ h (a:=12) (by omega) (by omega);refine nmk ?_ ?_ ?_ ?_ ?_
  ·simp only[QM,fQ h (a:=0) (by omega) (by omega),nuo h (a:=2) (by omega) (by omega)]
  ·simp only[QM,fQ h (a:=6) (by omega) (by omega),nuo h (a:=8) (by omega) (by omega)]
  ·simp only[QM,b,fQ h (a:=14) (by omega) (by omega)]
  ·simp only[QM,b,fQ h (a:=16) (by omega) (by omega)]
  ·simp only[QM,mV,b,sI,h.1]
 have d:len s=len t:=by simp only[len,h.1]
 unfold Ab;rw[d,c];cases decide (len t<18)<;>cases !(zA (QM t))<;>rfl
theorem nd_{s:x}(h:((BT s).2 != 0)=false):(Ab s).2=true∧Tp (BT s).1=true:=by
 unfold BT Ak at h ⊢;cases a:(Ab s).2
 ·rw[a] at h;cases h
 rw[a] at h;refine⟨rfl, ?_⟩;revert h;simp only[ra,J];cases ((Ab s).1.c != 2048)
 case true=>intro h;cases h
 cases (UP (Ab s).1.a).2
 case false=>intro h;cases h
 generalize kK (UP (Ab s).1.a).1.b (UP (Ab s).1.a).1.d (UP (Ab s).1.a).1.e (UP (Ab s).1.a).1.a=g;cases g.2
 case false=>intro h;cases h
 simp only[ra,J];generalize c:(⟨(Ab s).1.d,(Ab s).1.b,(Ab s).1.e,(UP (Ab s).1.a).1.f,(UP (Ab s).1.a).1.g,(UP (Ab s).1.a).1.c,(UP (Ab s).1.a).1.b,(UP (Ab s).1.a).1.d,g.1⟩:N)=p;cases b:Tp p
 case false=>intro h;cases h
 intro _;exact b
def On(t:x):Int:=CW t (mV t+2)
def oQ(t:x):Int:=A2 t (mV t+9)
def fV(t:x):Int:=mV t+10
def T_(t:x):Int:=mV t+20+OP (oQ t)
def aF(t:x):Bool:=decide (mV t+46≤len t) && (decide (22+OP (oQ t)≤On t) && decide (On t≤len t - mV t))
def Z7(t:x):x:=Q3 t (mV t) (mV t+20)
def RJ(t:x):x:=(TI (Q2 t (mV t+12)) (Q2 t (mV t+16)) (oQ t) (On t - 20)).1++Q3 t (mV t+20) (mV t+On t)
def naB(t:x):Int:=cond (cond ((Vu (RJ t))==0) (oQ t==17) false) 65535 (Vu (RJ t))
def b0(t:x):x:=B9 (B9 t (fV t) (Zt (Vu (Z7 t)))) (T_ t) (Zt (naB t))
def A4(t:x):Bool:=cond ((BT (b0 t)).2 != 0) true (!((e7 (BT (b0 t)).1).1==t))
def WX(t:x):x×Bool:=cond (!(aF t)) ([],false) (cond (A4 t) ([],false) (O3 (BT (b0 t)).1))
theorem Ua(k:Int):OP k=6∨OP k=16:=by rw[U2];cases k==6<;>simp
theorem ncK{t:x}(c:t.length≤4294967296)(h:((BT (b0 t)).2 != 0)=false):(Ab t).2=true:=by
 rw[←nBD (s:=b0 t) ?_]
 ·exact (nd_ h).1
 have d:=Gk t;have e:=Ua (oQ t);have b:(B9 t (fV t) (Zt (Vu (Z7 t)))).length=t.length:=aW (by omega);refine⟨by unfold b0;rw[aW (by omega),b],λj a f=>?_⟩;unfold b0;rw[htC (by omega) a (by unfold T_;omega),htC (by omega) a (by unfold fV;omega)]
theorem nbd{t:x}(j:t.length≤4294967296)(h:aF t=true):(TI (Q2 t (mV t+12)) (Q2 t (mV t+16)) (oQ t) (On t - 20)).2=true∧(RJ t).length≤100000∧(Z7 t).length≤20:=by
 have k:=Gk t;simp only[aF,Bl,js] at h;obtain⟨l,m,n⟩:=h;have o:=Ua (oQ t);have b:=wq t (mV t+2);have c:=xF t (mV t+12);have d:=xF t (mV t+16);have e:=Wg (s:=t) (a:=mV t+12) (by omega) (by omega);have f:=Wg (s:=t) (a:=mV t+16) (by omega) (by omega);have g:=Te t (mV t+9);have i:=UE t (mV t+9);have r1':On t≤65535:=b.2;have k0':0≤oQ t:=g;have k1':oQ t<256:=i;refine⟨?_, ?_, ?_⟩
 ·unfold TI;rw[show D (Q2 t (mV t+12)) 0 4294967295=true from YF.2 ⟨e,c.2⟩,show D (Q2 t (mV t+16)) 0 4294967295=true from YF.2 ⟨f,d.2⟩,show D (oQ t) 0 255=true from YF.2 ⟨k0',by omega⟩,show D (On t - 20) 0 65535=true from YF.2 ⟨by omega,by omega⟩];rfl
 ·have:=nce (Q2 t (mV t+12)) (Q2 t (mV t+16)) (oQ t) (On t - 20);simp only[RJ,fK,Q3,sI,r8];omega
 ·simp only[Z7,Q3,sI,r8];omega
def ndx(e:x→Bool→α)(Z:x):α:=let f:Int:=CW (((Ab Z).1).a) 2;let g:Int:=s (A2 (((Ab Z).1).a) 9);let h:x:=Q3 (((Ab Z).1).a) 20 f;let i:Int:=len h;let j:x×Bool:=TI (Q2 (((Ab Z).1).a) 12) (Q2 (((Ab Z).1).a) 16) g i;let k:x:=j.1;let l:x:=k++h;let m:x:=C1 (((Ab Z).1).a) 20;let n:x:=Zt (Vu m);let o:x:=B9 Z ((U0 Z).1) n;let p:Int:=Vu l;let q:x:=Zt (cond (cond (g==17) (p==0) false) 65535 p);let a:N×Int:=BT (B9 o ((U0 Z).2) q);let b:N:=a.1;let c:x×Bool:=e7 b;let d:x×Bool:=O3 b;cond (cond (!((Ab Z).2)) true (cond (f<20) true (decide (len (((Ab Z).1).a)<f)))) (e [] false) (cond (t true (GK (((Ab Z).1).a) 20 f)) (cond (t true (A 9 (((Ab Z).1).a))) (cond (cond (!j.2) true (decide (i<s ((OP g)+2)))) (e [] false) (cond (t (t true (EI k h)) (U l)) (cond (t (t (t (t true (az (((Ab Z).1).a) 20)) (U m)) (eZ Z ((U0 Z).1) n)) (eZ o ((U0 Z).2) q)) (cond (cond (a.2 != 0) true (cond (!c.2) true (!(c.1==Z)))) (e [] false) (e d.1 d.2)) lf) lf)) lf) lf)
theorem nBy(d:x→Bool→α)(t:x)(I:U t=true):ndx lf d t=d (WX t).1 (WX t).2:=by
 have C:t.length≤4294967296:=of_decide_eq_true I;have aeI:len t≤4294967296:=by simp only[len];omega
 have ha:=Gk t;unfold ndx WX;dsimp only;cases c:(Ab t).2
 ·have K:(cond (!(aF t)) (([],false):x×Bool) (cond (A4 t) ([],false) (O3 (BT (b0 t)).1)))=([],false):=by
   cases aF t
   ·rfl
   ·cases g:A4 t
    ·have:=ncK C (show ((BT (b0 t)).2 != 0)=false by
      unfold A4 at g;cases h:((BT (b0 t)).2 != 0)
      ·rfl
      ·rw[h] at g;cases g)
     rw[c] at this;cases this
    ·rfl
  rw[K];rfl
 have l:(Ab t).1=QM t∧zA (QM t)=true∧18≤len t:=by
  unfold Ab at c ⊢;by_cases e:len t<18
  ·rw[Hd e] at c;cases c
  rw[ja e] at c ⊢;cases l:zA (QM t)
  ·rw[l] at c;cases c
  ·exact⟨rfl,rfl,by omega⟩
 obtain⟨L,M,e3⟩:=l;have ac9:(QM t).a=t.drop (mV t).toNat:=rfl;have N:(t.drop (mV t).toNat).length=t.length - (mV t).toNat:=sI;have O:46≤t.length - (mV t).toNat:=by have:=nBM M;rw[ac9,N] at this;exact this
 have P:len (t.drop (mV t).toNat)=len t - mV t:=by simp only[len];omega
 have m:mV t+46≤len t:=by simp only[len];omega
 have b:∀j:Int,0≤j→A2 (t.drop (mV t).toNat) j=A2 t (mV t+j):=by
  intro j E;simp only[A2,tj,List.getElem?_drop]
  congr 4
  omega
 have n:CW (t.drop (mV t).toNat) 2=On t:=by rw[naK (by omega) (by omega) (by omega),b 2 (by omega),b (2+1) (by omega)];unfold On;rw[naK (by omega) (by omega) (by omega)];rw[Int.add_assoc]
 have f:∀j:Int,0≤j→j+4≤46→Q2 (t.drop (mV t).toNat) j=Q2 t (mV t+j):=by intro j E h1;unfold Q2;rw[b j E,b (j+1) (by omega),b (j+2) (by omega),b (j+3) (by omega)];rw[ja (show ¬j<0 by omega),ja (show ¬mV t+j<0 by omega),ja (show ¬len (t.drop (mV t).toNat)<j+4 by omega),ja (show ¬len t<mV t+j+4 by omega)];simp only[J,Int.add_assoc]
 have Q:s (A2 (t.drop (mV t).toNat) 9)=oQ t:=by rw[b 9 (by omega)];have F:=Te t (mV t+9);have R:=UE t (mV t+9);exact fg
 have S:Q3 (t.drop (mV t).toNat) 20 (On t)=Q3 t (mV t+20) (mV t+On t):=by
  by_cases g:0≤On t
  ·simp only[Q3];rw[List.take_drop,List.drop_drop]
   congr 2<;>omega
  ·have i:=wq t (mV t+2);have T:On t= -1:=by have: -1≤On t:=i.1;omega
   rw[T];simp only[Q3];rw[show qC (-1)=0 by rfl,List.take_zero,List.drop_nil,uc (by rw[r8];omega)]
 have ahd:C1 (t.drop (mV t).toNat) 20=Z7 t:=by
  simp only[C1,Z7,Q3,tS];rw[List.take_drop]
  congr 2;omega
 have sp:U0 t=(fV t,T_ t):=by unfold U0;rw[Hd (show mV t+9<len t by omega)];rfl
 simp only[L,ac9,n,Q,S,ahd,sp,P,f 12 (by omega) (by omega),f 16 (by omega) (by omega),ra];have hq:=Ua (oQ t);have i:=wq t (mV t+2);have r1':On t≤65535∧ -1≤On t:=⟨i.2,i.1⟩;have V:s (OP (oQ t)+2)=OP (oQ t)+2:=fg;have o:WX t=cond (!(aF t)) ([],false) (cond (A4 t) ([],false) (O3 (BT (b0 t)).1)):=rfl;rw[←o,V,J];have p:aF t=false→WX t=([],false):=λh=>by rw[o,h];rfl
 by_cases q:On t<20
 ·rw[Hd q,p (by unfold aF;rw[ja (show ¬22+OP (oQ t)≤On t by omega)];cases decide (mV t+46≤len t)<;>rfl)];rfl
 by_cases k:len t - mV t<On t
 ·rw[ja q,Hd k,p (by unfold aF;rw[ja (show ¬On t≤len t - mV t by omega)];cases decide (mV t+46≤len t)<;>cases decide (22+OP (oQ t)≤On t)<;>rfl)];rfl
 rw[ja q,ja k];simp only[J];have lT:t.length=(len t).toNat:=by simp only[len];omega
 have W:GK (t.drop (mV t).toNat) 20 (On t)=true:=by simp only[len] at k;simp only[GK,Bl,js];omega
 have X:A 9 (t.drop (mV t).toNat)=true:=by simp only[A,Bl,js];omega
 refine rR (ZY W) (rR (ZY X) ?_);have Y:len (Q3 t (mV t+20) (mV t+On t))=On t - 20:=by simp only[len] at k ⊢;simp only[Q3,sI,r8];omega
 have r:(TI (Q2 t (mV t+12)) (Q2 t (mV t+16)) (oQ t) (On t - 20)).2=true:=by have Z:=xF t (mV t+12);have r3:=xF t (mV t+16);have p2:=Wg (s:=t) (a:=mV t+12) (by omega) (by omega);have p3:=Wg (s:=t) (a:=mV t+16) (by omega) (by omega);have F:0≤oQ t:=Te t (mV t+9);have R:oQ t<256:=UE t (mV t+9);unfold TI;rw[show D (Q2 t (mV t+12)) 0 4294967295=true from YF.2 ⟨p2,Z.2⟩,show D (Q2 t (mV t+16)) 0 4294967295=true from YF.2 ⟨p3,r3.2⟩,show D (oQ t) 0 255=true from YF.2 ⟨F,by omega⟩,show D (On t - 20) 0 65535=true from YF.2 ⟨by omega,by omega⟩];rfl
 rw[Y,r];simp only[ra,J];by_cases G:On t - 20<OP (oQ t)+2
 ·rw[Hd G,p (by unfold aF;rw[ja (show ¬22+OP (oQ t)≤On t by omega)];cases decide (mV t+46≤len t)<;>rfl)];rfl
 rw[ja G,J];have H:aF t=true:=by unfold aF;rw[Hd m,Hd (show 22+OP (oQ t)≤On t by omega),Hd (show On t≤len t - mV t by omega)];rfl
 obtain⟨f1,f2,f3⟩:=nbd C H;have g3:U (Z7 t)=true:=Hd (by omega);have g4:U (RJ t)=true:=Hd (by omega);have g5:EI (TI (Q2 t (mV t+12)) (Q2 t (mV t+16)) (oQ t) (On t - 20)).1 (Q3 t (mV t+20) (mV t+On t))=true:=by refine O4 ?_;rw[←fK];exact r0 f2 (by omega)
 have g6:∀v,eZ t (fV t) (Zt v)=true:=λv=>by have:=P3 v;simp only[eZ,Bl,js];omega
 have g7:∀v u,eZ (B9 t (fV t) (Zt u)) (T_ t) (Zt v)=true:=λv u=>by have:=P3 v;simp only[eZ,Bl,js];rw[aW (by omega)];omega
 have g8:az (t.drop (mV t).toNat) 20=true:=by simp only[az,Bl,js];omega
 refine rR (by rw[g5];exact ZY g4) ?_;refine rR (by rw[g6,g7,g8,g3];rfl) ?_;have hY:(cond (cond (oQ t==17) ((Vu (RJ t))==0) false) 65535 (Vu (RJ t)))=naB t:=by unfold naB;cases oQ t==17<;>cases (Vu (RJ t))==0<;>rfl
 have w:∀(ab1 y z:Bool) (B:x×Bool),(ab1=false→y=true)→(cond (cond ab1 true (cond (!y) true (!z))) (d [] false) (d B.1 B.2))=(λz:x×Bool=>d z.1 z.2) (cond (!true) ([],false) (cond (cond ab1 true (!z)) ([],false) B)):=by
  intro ab1 y z B h;cases ab1
  ·rw[h rfl];cases z<;>rfl
  ·rfl
 have hZ:WX t=cond (!true) ([],false) (cond (cond ((BT (b0 t)).2 != 0) true (!((e7 (BT (b0 t)).1).1==t))) ([],false) (O3 (BT (b0 t)).1)):=by rw[o,H];rfl
 rw[hZ];have ac3:B9 (B9 t (fV t) (Zt (Vu (Z7 t)))) (T_ t) (Zt (cond (cond (oQ t==17) ((Vu (RJ t))==0) false) 65535 (Vu (RJ t))))=b0 t:=by rw[hY];rfl
 refine Eq.trans ?_ (w ((BT (b0 t)).2 != 0) (e7 (BT (b0 t)).1).2 ((e7 (BT (b0 t)).1).1==t) _ (λh=>by rw[nlQ];exact (nd_ h).2));rw[←ac3];rfl
def nGS(b:I→u→Int→α)(list_:u)(m:v)(a:Int)(r:I):α:=let c:u×Int×Int×Bool:=N6 ((cN list_ m a r).1);let d:x×Bool:=U_ list_ m a c.1;let e:x:=d.1;let f:x×Bool:=WX e;let g:N×Int:=BT f.1;cond (cond (!(Vd r)) true ((TG r)==0)) (b r [] 0) (cond (!((cN list_ m a r).2.2)) (b ((cN list_ m a r).2.1) [] 2) (cond (t true (Q5 ((cN list_ m a r).1))) (cond (!c.2.2.2) (b ((cN list_ m a r).2.1) [] 2) (cond (!d.2) (b ((cN list_ m a r).2.1) [] 2) (cond (t true (U e)) (cond (!f.2) (b ((cN list_ m a r).2.1) [] 2) (cond (g.2 != 0) (b ((cN list_ m a r).2.1) [] 2) (b ((cN list_ m a r).2.1) (cT g.1 c.2.1) 1))) lf))) lf))
def Yf(T:u×I×Bool)(P:u×Int×Int×Bool)(G F:x×Bool)(Z:N×Int):I×u×Int:=cond (T.2.2 && (P.2.2.2 && (G.2 && (F.2 && !(Z.2 != 0))))) (T.2.1,cT Z.1 P.2.1,1) (T.2.1,[],2)
def Ar(list_:u)(m:v)(a:Int)(r:I):I×u×Int:=cond (cond (!(Vd r)) true ((TG r)==0)) (r,[],0) (Yf (cN list_ m a r) (N6 (cN list_ m a r).1) (U_ list_ m a (N6 (cN list_ m a r).1).1) (WX (U_ list_ m a (N6 (cN list_ m a r).1).1).1) (BT (WX (U_ list_ m a (N6 (cN list_ m a r).1).1).1).1))
theorem nmp(T:u×I×Bool)(P:u×Int×Int×Bool)(G F:x×Bool)(Z:N×Int):(Yf T P G F Z).1=T.2.1∧(Yf T P G F Z).2.1.length≤330∧((Yf T P G F Z).2.2=1∨(Yf T P G F Z).2.2=2):=by
 unfold Yf;cases (T.2.2 && (P.2.2.2 && (G.2 && (F.2 && !(Z.2 != 0)))))
 ·exact⟨rfl,so _,.inr rfl⟩
 ·exact⟨rfl,nof _ _,.inl rfl⟩
theorem nDA(b:I→u→Int→α)(list_:u)(m:v)(a:Int)(r:I)(f:Q v.ct m.enc):nGS lf b list_ m a r=b (Ar list_ m a r).1 (Ar list_ m a r).2.1 (Ar list_ m a r).2.2:=by
 have g:=v.PG f;unfold nGS Ar;dsimp only;refine U6 (K:=λz:I×u×Int=>b z.1 z.2.1 z.2.2) (λ_=>rfl) (λh=>?_);have e:Vd r=true∧TG r≠0:=by revert h;cases Vd r<;>simp
 obtain⟨k,n,o⟩:=nCe (l:=list_) (m:=m) (d:=a) e.1 e.2;have i:Q5 (cN list_ m a r).1=true:=Hd (by omega);have j:=nsI (l:=list_) (d:=a) (pieces:=(N6 (cN list_ m a r).1).1) g;have c:U (U_ list_ m a (N6 (cN list_ m a r).1).1).1=true:=Hd (by omega);generalize cN list_ m a r=T at*;generalize N6 T.1=P at*;generalize U_ list_ m a P.1=G at*;rw[i,c];generalize WX G.1=F at*;generalize BT F.1=Z at*;unfold Yf;cases T.2.2<;>cases P.2.2.2<;>cases G.2<;>cases F.2<;>cases Z.2 != 0<;>rfl
def wj(k:I→u→Int→Int→α)(list_:u)(b:Int)(l:u)(m:na α)(a d f g h i:Int)(e:u):α:=let c:I×u×Int:=Ar list_ (⟨l⟩:v) b (⟨f,g,h,i⟩:I);let j:Bool:=c.2.2==1;cond (c.2.2==0) (k c.1 e a d) (cond (t true (Em 16 e c.2.1)) (m (cond j (s (a+1)) a) (cond j d (s (d+1))) c.1.b c.1.a c.1.d c.1.c (e++c.2.1)) lf)
def fN(b:I→u→Int→Int→α)(N:Nat)(list_:u)(a:Int)(c:u)(d:Nat):na α:=bW (λ_ _ _ _ _ _ _=>lf) (wj lf b list_ a c) d
theorem nCM(b:I→u→Int→Int→α)(N:Nat)(list_:u)(a:Int)(c:u)(d:Nat):fN lf b N list_ a c (d+1)=wj lf b list_ a c (fN lf b N list_ a c d):=rfl
def qW(lf:α)(c:I→u→Int→Int→α)(b:u→Int→Int→Int→Int→Int→Int→u→α)(list_:u)(m:v)(a:Int)(r:I):α:=b m.a 0 0 r.b r.a r.d r.c []
def ntE(b:I→u→Int→Int→α)(N:Nat)(list_:u)(m:v)(a:Int)(r:I):α:=qW lf b (λc=>fN lf b N list_ a c N) list_ m a r
theorem yH{l:u}{m:v}{d:Int}(x:I):(Ar l m d x).2.1.length≤330∧((Ar l m d x).2.2=0→(Ar l m d x).1=x)∧
  ((Ar l m d x).2.2≠0→Vd x=true∧Vd (Ar l m d x).1=true∧TG (Ar l m d x).1<TG x):=by
 unfold Ar;cases f:(cond (!(Vd x)) true ((TG x)==0))
 ·have b:Vd x=true∧TG x≠0:=by revert f;cases Vd x<;>simp
  simp only[J];have c:=nCe (l:=l) (m:=m) (d:=d) b.1 b.2;have a:=nmp (cN l m d x) (N6 (cN l m d x).1) (U_ l m d (N6 (cN l m d x).1).1) (WX (U_ l m d (N6 (cN l m d x).1).1).1) (BT (WX (U_ l m d (N6 (cN l m d x).1).1).1).1);refine⟨a.2.1,λh=>?_,λ_=>⟨b.1, ?_, ?_⟩⟩
  ·rcases a.2.2 with e | e<;>rw[e] at h<;>cases h
  ·rw[a.1];exact c.1
  ·rw[a.1];exact c.2.1
 ·exact⟨so _,λ_=>rfl,λh=>absurd rfl h⟩
def jZ(list_:u)(m:v)(a:Int):Nat→I→u→Int→Int→I×u×Int×Int
 | 0,r,o,dn,bd=>(r,o,dn,bd)
 | n+1,r,o,dn,bd=>bif (Ar list_ m a r).2.2==0 then (r,o,dn,bd)
  else jZ list_ m a n (Ar list_ m a r).1 (o++(Ar list_ m a r).2.1) (cond ((Ar list_ m a r).2.2==1) (s (dn+1)) dn) (cond ((Ar list_ m a r).2.2==1) bd (s (bd+1)))
def PU(list_:u)(m:v)(a:Int)(r:I):I×u×Int×Int:=jZ list_ m a 40 r [] 0 0
theorem nnR{l:u}{m:v}{d:Int} :∀(n:Nat) (x:I) (o:u) (a b:Int),(jZ l m d n x o a b).2.1.length≤o.length+n*330
 | 0,_,_,_,_=>by simp[jZ]
 | n+1,x,o,a,b=>by
  unfold jZ;have h:=(yH (l:=l) (m:=m) (d:=d) x).1;have c:=nnR (l:=l) (m:=m) (d:=d) n (Ar l m d x).1 (o++(Ar l m d x).2.1) (cond ((Ar l m d x).2.2==1) (s (a+1)) a) (cond ((Ar l m d x).2.2==1) b (s (b+1)));rw[fK] at c;cases (Ar l m d x).2.2==0
  ·simp only[J];omega
  ·simp only[H];omega
theorem niW(l:u)(m:v)(d:Int)(x:I):(PU l m d x).2.1.length≤13200:=by have:=nnR (l:=l) (m:=m) (d:=d) 40 x [] 0 0;simp only[q4] at this;exact r0 this (by omega)
theorem nn_(b:I→u→Int→Int→α)(list_:u)(m:v)(a:Int)(r:I):∃N,ntE lf b N list_ m a r=b (PU list_ m a r).1 (PU list_ m a r).2.1 (PU list_ m a r).2.2.1 (PU list_ m a r).2.2.2:=by
 unfold ntE qW PU;refine⟨40, ?_⟩;have key:∀(n:Nat) (x:I) (o:u) (c e:Int) (N:Nat),(Vd x=true→TG x<n)→0<n→n≤N→o.length+n*330≤20000→n≤40→
   fN lf b 40 list_ a m.a N c e x.b x.a x.d x.c o=(λz:I×u×Int×Int=>b z.1 z.2.1 z.2.2.1 z.2.2.2) (jZ list_ m a n x o c e):=by
  intro n
  induction n with
  | zero=>intro x o c e N f j;omega
  | succ n k=>
   intro x o c e N f j W J L;obtain⟨N,rfl⟩:=DF N;rw[nCM];have p:(⟨x.b,x.a,x.d,x.c⟩:I)=x:=rfl;have s:(⟨m.a⟩:v)=m:=rfl;obtain⟨M,t,Z⟩:=yH (l:=list_) (m:=m) (d:=a) x;have Y:Em 16 o (Ar list_ m a x).2.1=true:=W6 (by omega) (by omega);simp only[wj,jZ,p,s,Y,Oi,H];refine U6 (K:=λz:I×u×Int×Int=>b z.1 z.2.1 z.2.2.1 z.2.2.2) (λg=>by rw[t (beq_iff_eq.1 g)]) (λg=>?_);obtain⟨w,y,O⟩:=Z (beq_eq_false_iff_ne.1 g);have f:=f w;have P:0≤TG (Ar list_ m a x).1:=by obtain⟨A,i,B,C,D,E,F,G,X⟩:=Xz y;rw[i];exact t0 _ (by omega)
   exact k _ _ _ _ N (λ_=>by omega) (by omega) (by omega) (by rw[fK];omega) (by omega)
 refine key 40 r [] 0 0 40 (λh=>?_) (by omega) (by omega) (by simp) (by omega);obtain⟨A,i,B,C,D,E,F,G,X⟩:=Xz h;omega
def eI(i:Co→u→α)(n:Int)(x:u)(j:Int)(a:u)(k l m o p:Int)(Z:Int→Int→Int→Int→u→u→α)(b e f g:Int)(c h:u):α:=let d:G:=(Un (⟨e,f,g,h⟩:G) (df (q x (qC b)) 2)).1;cond (b<j) (cond (t true (A b x)) (cond (t true (Ut (⟨e,f,g,h⟩:G) (df (q x (qC b)) 2))) (cond (t true (Em 8 c ([[.int (r (q x (qC b)) 0)]]))) (Z (s (b+1)) d.b d.a d.c (c++([[.int (r (q x (qC b)) 0)]])) d.d) lf) lf) lf) (cond (t (t true (nz a n)) (NI (bZ a n))) (i (⟨(⟨k,l,m,o⟩:I),(⟨e,f,g,h⟩:G),F (bZ a n),p⟩:Co) c) lf)
def MD(b:Co→u→α)(N:Nat)(n:Int)(x:u)(c:Int)(a:u)(d e f g h:Int)(i:Nat):Int→Int→Int→Int→u→u→α:=bW (λ_ _ _ _ _ _=>lf) (eI lf b n x c a d e f g h) i
theorem nsj(b:Co→u→α)(N:Nat)(n:Int)(x:u)(c:Int)(a:u)(d e f g h:Int)(i:Nat):MD lf b N n x c a d e f g h (i+1)=eI lf b n x c a d e f g h (MD lf b N n x c a d e f g h i):=rfl
def Bz(a:Co→u→α)(b:u→Int→u→Int→Int→Int→Int→Int→Int→Int→Int→Int→u→u→α)(q:Co)(n:Int):α:=cond (t true (yK q)) (cond (pk (!(Q7 q)) (t true (cF q)) (t true (cF q))) (cond (cond (!(Q7 q)) true (!(D n 0 (len q.c)))) (a (F q) []) (cond (t true (az q.c n)) (b (C1 q.c n) (len (C1 q.c n)) q.c (((F q).b).b) (((F q).b).a) (((F q).b).d) (((F q).b).c) ((F q).d) 0 (((F q).a).b) (((F q).a).a) (((F q).a).c) [] (((F q).a).d)) lf)) lf) lf
def nw3(b:Co→u→α)(N:Nat)(q:Co)(n:Int):α:=Bz lf b (λx c a d e f g h=>MD lf b N n x c a d e f g h N) q n
def P5(Z:Co)(i:Nat)(s:G×u):G×u:=((Un s.1 (df (q Z.c i) 2)).1,s.2++[[.int (r (q Z.c i) 0)]])
def PX(q:Co)(n:Int):Bool:=yK q && cF q
def sC(q:Co)(n:Int):Co×u:=cond (cond (!(Q7 q)) true (!(D n 0 (len q.c)))) (q,[]) (⟨q.b,(kM (P5 q) n.toNat 0 (q.a,[])).1,q.c.drop n.toNat,q.d⟩,(kM (P5 q) n.toNat 0 (q.a,[])).2)
theorem nsl(a:Co→u→α)(Y:Co)(n:Int)(p:PX Y n=true):∃N,nw3 lf a N Y n=a (sC Y n).1 (sC Y n).2:=by
 have g:=p;simp only[PX,Bl] at g;obtain⟨j,k⟩:=g;have s1':=j;simp only[yK,NI,Bl,tt] at s1';have s2':=k;simp only[cF,Bl,js] at s2';have t:=R8 s1'.2.1;unfold nw3 Bz sC;refine⟨Y.c.length+1, ?_⟩;refine rR (ZY j) ?_;refine rR (by simp only[k,Oi,vb]) ?_;refine U6 (K:=λz:Co×u=>a z.1 z.2) (λ_=>rfl) (λZ=>?_);have v:0≤n∧n≤len Y.c:=by
  revert Z;cases Q7 Y
  ·intro h;cases h
  ·intro h;exact YF.1 (Vk h)
 simp only[len] at v;obtain⟨c,rfl⟩:∃c:Nat,n=(c:Int):=⟨n.toNat,by omega⟩;have b:C1 Y.c (c:Int)=Y.c.take c:=by simp[C1]
 have l:len (Y.c.take c)=(c:Int):=by simp only[len,r8];omega
 have w:az Y.c (c:Int)=true:=by simp only[az,Bl,js];omega
 refine rR (ZY w) ?_;refine (je c (λN i (X:G×u)=>MD lf a (Y.c.length+1) (c:Int) (C1 Y.c (c:Int)) (len (C1 Y.c (c:Int))) Y.c Y.b.b Y.b.a Y.b.d Y.b.c Y.d N i X.1.b X.1.a X.1.c X.2 X.1.d) (P5 Y) (λX=>a (⟨Y.b,X.1,Y.c.drop c,Y.d⟩:Co) X.2)
  (λi X=>X.2.length≤i∧X.1.d.length+kX (Y.c.drop i)≤Y.a.d.length+kX Y.c) ?_ ?_ ?_ (Y.c.length+1) (Y.a,[]) ⟨so _,by simp⟩ (by omega)).trans ?_
 ·intro i X m o;have x:=w4 (show i<Y.c.length by omega);refine⟨?_, ?_⟩
  ·simp only[P5,fK,I_,q4];omega
  ·simp only[P5];have W:(Un X.1 (df (q Y.c i) 2)).1.d.length≤X.1.d.length+(df (q Y.c i) 2).length:=by
    unfold Un;cases (cond (!(PM X.1)) true (!(PM (⟨X.1.b,X.1.a,X.1.c,X.1.d++df (q Y.c i) 2⟩:G))))
    ·simp only[J,fK];omega
    ·simp only[H];omega
   omega
 ·intro N i X m o;have x:=w4 (show i<Y.c.length by omega);have I:i<Y.c.length:=by omega
  have d:Ut (⟨X.1.b,X.1.a,X.1.c,X.1.d⟩:G) (df (q Y.c i) 2)=true:=by simp only[Ut,Bl,js];exact⟨Hd (by omega),by omega⟩
  have B:∀y:List DC,Em 8 X.2 [y]=true:=λy=>W6 (by simp only[I_,q4];omega) (by omega);have C:s ((i:Int)+1)=(i:Int)+1:=fg;show MD lf a (Y.c.length+1) (c:Int) (C1 Y.c (c:Int)) (len (C1 Y.c (c:Int))) Y.c Y.b.b Y.b.a Y.b.d Y.b.c Y.d (N+1) (i:Int) X.1.b X.1.a X.1.c X.2 X.1.d=_;rw[nsj];have D:A (i:Int) (C1 Y.c (c:Int))=true:=by rw[b];exact mZ (by rw[r8];omega)
  have E:q (C1 Y.c (c:Int)) i=q Y.c i:=by rw[b];simp only[q,tj];rw[uZ m]
  have e:decide ((i:Int)<len (C1 Y.c (c:Int)))=true:=Hd (by rw[b,l];omega);simp only[eI,e,D,d,B,C,E,eR,Oi,H];rfl
 ·intro N X o;show MD lf a (Y.c.length+1) (c:Int) (C1 Y.c (c:Int)) (len (C1 Y.c (c:Int))) Y.c Y.b.b Y.b.a Y.b.d Y.b.c Y.d (N+1) (c:Int) X.1.b X.1.a X.1.c X.2 X.1.d=_;rw[nsj];have F:nz Y.c (c:Int)=true:=by simp only[nz,Bl,js];omega
  have U:bZ Y.c (c:Int)=Y.c.drop c:=by simp[bZ]
  have e:decide ((c:Int)<len (C1 Y.c (c:Int)))=false:=ja (by rw[b,l];omega);have f:NI (Y.c.drop c)=true:=by simp only[NI,Bl,tt];exact⟨Hd (by rw[sI];omega),λr V=>s1'.2.2 r (List.mem_of_mem_drop V)⟩
  simp only[eI,e,F,U,f,Oi,H,J];rfl
 ·rfl
def nog(b:z→α)(h:z):α:=let a:I×u×Int×Int:=PU h.j h.h 0 h.a.b;let c:Co:=(⟨a.1,((F h).a).a,((F h).a).c,((F h).a).d⟩:Co);let d:Int:=DB (s (a.2.2.1+a.2.2.2)) (len h.a.c);let e:Co×u:=sC c d;let f:u:=e.2;cond (t true (mD h)) (cond (t true (Aa h)) (cond (!(zp h)) (b (F h)) (cond (t true (Em 16 ((F h).l) a.2.1)) (cond (t true (PX c d)) (cond (t true (Em 8 ((F h).n) f)) (b (⟨(F h).h,(F h).j,e.1,(F h).b,(F h).e,(F h).g,(F h).i,(F h).f,(F h).d,(F h).k,(F h).m,((F h).l)++a.2.1,((F h).n)++f,(F h).o,(F h).c⟩:z)) lf) lf) lf)) lf) lf
theorem npK(Z:Co):∀(m i:Nat) (s:G×u),(kM (P5 Z) m i s).2.length=s.2.length+m∧(kM (P5 Z) m i s).1.d.length≤s.1.d.length+kX (Z.c.drop i)∨Z.c.length<i+m
 | 0,i,s=> .inl ⟨rfl,t3 _ _⟩
 | m+1,i,s=>by
  by_cases a:i<Z.c.length
  ·rcases npK Z m (i+1) (P5 Z i s) with h | h
   ·refine .inl ?_;have c:=w4 a;have b:(Un s.1 (df (q Z.c i) 2)).1.d.length≤s.1.d.length+(df (q Z.c i) 2).length:=by
     unfold Un;cases (cond (!(PM s.1)) true (!(PM (⟨s.1.b,s.1.a,s.1.c,s.1.d++df (q Z.c i) 2⟩:G))))
     ·simp only[J,fK];omega
     ·simp only[H];omega
    simp only[P5,fK,I_,q4] at h;simp only[kM,P5];exact⟨by omega,by omega⟩
   ·exact .inr (by omega)
  ·exact .inr (by omega)
theorem npN(q:Co)(n:Int):(sC q n).2.length≤q.c.length∧(sC q n).1.a.d.length≤q.a.d.length+kX q.c∧∃c,(sC q n).1.c=q.c.drop c:=by
 unfold sC;cases a:(cond (!(Q7 q)) true (!(D n 0 (len q.c))))
 ·have b:0≤n∧n≤len q.c:=by
   revert a;cases Q7 q
   ·intro h;cases h
   ·intro h;exact YF.1 (Vk h)
  simp only[len] at b;rcases npK q n.toNat 0 (q.a,[]) with h | h
  ·simp only[tS,q4] at h;simp only[J];exact⟨by omega,h.2,n.toNat,rfl⟩
  ·omega
 ·exact⟨so _,t3 _ _,0,rfl⟩
theorem nA3(q:Co)(n:Int):(sC q n).2.length≤q.c.length:=(npN q n).1
def sZ(h:z):I×u×Int×Int:=PU h.j h.h 0 h.a.b
def d7(h:z):Co×u:=sC (⟨(sZ h).1,h.a.a,h.a.c,h.a.d⟩:Co) (DB (s ((sZ h).2.2.1+(sZ h).2.2.2)) (len h.a.c))
def Yu(h:z):Bool:=mD h && Aa h
def ZC(h:z):z:=cond (!(zp h)) h ⟨h.h,h.j,(d7 h).1,h.b,h.e,h.g,h.i,h.f,h.d,h.k,h.m,h.l++(sZ h).2.1,h.n++(d7 h).2,h.o,h.c⟩
theorem nbC(a:z→α)(h:z)(k:Yu h=true):nog lf a h=a (ZC h):=by
 have j:(mD h && Aa h)=true:=k;simp only[Bl] at j;obtain⟨s,b⟩:=j;have s':=s;simp only[mD,Bl] at s';obtain⟨m,o,l,c,_,_,_,_,_,_,_,_,_,d,e,_⟩:=s';have f:∀(r:I) (n:Int),PX (⟨r,h.a.a,h.a.c,h.a.d⟩:Co) n=true:=by intro r n;simp only[PX,yK,Bl];exact⟨⟨l,c⟩,b⟩
 have p:=niW h.j h.h 0 h.a.b;have g:Em 16 h.l (PU h.j h.h 0 h.a.b).2.1=true:=W6 (by have:=R8 d;omega) (by omega);have i:∀(r:I) (n:Int),Em 8 h.n (sC (⟨r,h.a.a,h.a.c,h.a.d⟩:Co) n).2=true:=by intro r n;have q:(sC (⟨r,h.a.a,h.a.c,h.a.d⟩:Co) n).2.length≤h.a.c.length:=nA3 _ n;have t:=R8 e;simp only[NI,Bl] at c;have u:=R8 c.1;exact W6 (by omega) (by omega)
 unfold nog ZC;dsimp only;refine rR (ZY s) ?_;refine rR (ZY b) ?_;refine U6 (K:=λZ:z=>a Z) (λ_=>rfl) (λ_=>?_);refine rR (ZY g) (rR (ZY (f _ _)) (rR (ZY (i _ _)) rfl))
def Ug(a:Ue→Bool→α)(v:Ue):α:=cond (cond (!(iv v)) true (!v.f)) (a v false) (a (⟨v.e,v.d,0,0,true,false⟩:Ue) true)
def jI(v:Ue):Ue×Bool:=Ug (λa b=>(a,b)) v
theorem ntx(a:Ue→Bool→α)(v:Ue):Ug a v=a (jI v).1 (jI v).2:=by exact Ha (K:=λr:Ue×Bool=>a r.1 r.2) rfl rfl
def Sa(a:Ue→α)(v:Ue):α:=cond (!(iv v)) (a v) (a (zY (⟨v.e,v.d,v.c,v.b,false,v.f⟩:Ue)))
def eY(v:Ue):Ue:=Sa id v
theorem nnZ(a:Ue→α)(v:Ue):Sa a v=a (eY v):=by exact Ha rfl rfl
theorem noG(a b:Bool)(x y:α):(cond a x (cond b x y))=cond (cond a true b) x y:=by cases a<;>rfl
theorem nf2(p:Nat→List DC→Bool):∀(l:u) (s:Nat),findIdx p l s= -1∨∃i,i<l.length∧findIdx p l s=((s+i:Nat):Int)
 | [],s=> .inl rfl
 | r::l,s=>by
  simp only[findIdx];cases p s r
  ·rcases nf2 p l (s+1) with h | ⟨i,b,a⟩
   ·exact .inl h
   ·exact .inr ⟨i+1,by simp only[I_];omega,by simp only[J];rw[a];congr 1;omega⟩
  ·exact .inr ⟨0,by simp,rfl⟩
def nu6(a:Ja→Int→Bool→α)(s:x):α:=let b:Ja:=(⟨0,0,0,0,0⟩:Ja);cond ((len s) != 16) (a b 0 false) (cond (1<Q2 s 12) (a b 0 false) (a (⟨CW s 0,CW s 2,CW s 4,CW s 6,Q2 s 8⟩:Ja) (Q2 s 12) true))
def YQ(s:x):Ja×Int×Bool:=cond (cond ((len s) != 16) true (decide (1<Q2 s 12))) (⟨0,0,0,0,0⟩,0,false) (⟨CW s 0,CW s 2,CW s 4,CW s 6,Q2 s 8⟩,Q2 s 12,true)
theorem nwo(a:Ja→Int→Bool→α)(s:x):nu6 a s=a (YQ s).1 (YQ s).2.1 (YQ s).2.2:=by unfold nu6 YQ;dsimp only;rw[noG];exact U6 (K:=λr:Ja×Int×Bool=>a r.1 r.2.1 r.2.2) (λ_=>rfl) (λ_=>rfl)
def ncc(b:Ja→CI→Bool→α)(list_:u)(m:v)(a:Int)(q:CI):α:=let c:Ja:=(⟨0,0,0,0,0⟩:Ja);let e:x×Bool:=Eo list_ m a (WC q) 16;let d:Ja×Int×Bool:=YQ e.1;cond (!(dq q)) (b c q false) (cond (t true (dq q)) (cond (!e.2) (b c q false) (cond (cond (!d.2.2) true (d.2.1 != (PW q))) (b c q false) (cond (t true (!((s (2*q.a))==0))) (b d.1 (⟨q.b,q.a,q5 (s (q.c+1)) (s (2*q.a))⟩:CI) true) lf))) lf)
def pg(list_:u)(m:v)(a:Int)(q:CI):Ja×Int×Bool:=YQ (Eo list_ m a (WC q) 16).1
def Oq(list_:u)(m:v)(a:Int)(q:CI):Bool:=cond (!(Eo list_ m a (WC q) 16).2) true (cond (!(pg list_ m a q).2.2) true ((pg list_ m a q).2.1 != PW q))
def Sf(list_:u)(m:v)(a:Int)(q:CI):Ja×CI×Bool:=cond (!(dq q)) (⟨0,0,0,0,0⟩,q,false) (cond (Oq list_ m a q) (⟨0,0,0,0,0⟩,q,false) ((pg list_ m a q).1,⟨q.b,q.a,q5 (s (q.c+1)) (s (2*q.a))⟩,true))
theorem nyU{l:u}{m:v}{d:Int}{q:CI}(h:dq q=true):dq (Sf l m d q).2.1=true:=by
 unfold Sf;rw[h];cases Oq l m d q
 ·exact ny6 h
 ·exact h
theorem npI(l:u)(m:v)(d:Int)(q:CI):(Sf l m d q).2.1.b=q.b∧(Sf l m d q).2.1.a=q.a:=by
 unfold Sf;cases (!(dq q))
 ·cases Oq l m d q<;>exact⟨rfl,rfl⟩
 ·exact⟨rfl,rfl⟩
theorem npC(b:Ja→CI→Bool→α)(list_:u)(m:v)(a:Int)(q:CI):ncc lf b list_ m a q=b (Sf list_ m a q).1 (Sf list_ m a q).2.1 (Sf list_ m a q).2.2:=by
 unfold ncc Sf;dsimp only;refine U6 (K:=λr:Ja×CI×Bool=>b r.1 r.2.1 r.2.2) (λ_=>rfl) (λd=>?_);have c:dq q=true:=Vk d;obtain⟨f,g,h,i,j,k,l⟩:=gZ c;have e:(!((s (2*q.a))==0))=true:=by rw[fg];simp;omega
 have n:(!(q.a==0))=true:=by simp;omega
 refine rR (ZY c) ?_;rw[noG];exact U6 (K:=λr:Ja×CI×Bool=>b r.1 r.2.1 r.2.2) (λ_=>rfl) (λ_=>rR (ZY e) rfl)
def D2(b:Int→α)(list_:u)(c d e f g h:Int)(i:Int→α)(a:Int):α:=cond (a<c) (cond (t true (A a list_)) (cond (cond ((r (q list_ (qC a)) 0)==d) (cond ((r (q list_ (qC a)) 1)==e) (cond ((r (q list_ (qC a)) 2)==f) (cond ((r (q list_ (qC a)) 3)==g) (cond ((r (q list_ (qC a)) 4)==h) true false) false) false) false) false) (b a) (i (s (a+1)))) lf) (b (-1))
def CU(a:Int→α)(N:Nat)(list_:u)(b c d e f g:Int)(h:Nat):Int→α:=bW (λ_=>lf) (D2 lf a list_ b c d e f g) h
theorem nvy(a:Int→α)(N:Nat)(list_:u)(b c d e f g:Int)(h:Nat):CU lf a N list_ b c d e f g (h+1)=D2 lf a list_ b c d e f g (CU lf a N list_ b c d e f g h):=rfl
def Qw(lf:α)(b:Int→α)(a:Int→Int→Int→Int→Int→Int→Int→α)(list_:u)(f:Ve):α:=a (len list_) f.c f.b f.d f.f f.e 0
def ndl(a:Int→α)(N:Nat)(list_:u)(f:Ve):α:=Qw lf a (λb c d e g h=>CU lf a N list_ b c d e g h N) list_ f
def P8(f:Ve)(Z:List DC):Bool:=(cond ((r Z 0)==f.c) (cond ((r Z 1)==f.b) (cond ((r Z 2)==f.d) (cond ((r Z 3)==f.f) (cond ((r Z 4)==f.e) true false) false) false) false) false)
def Uf(list_:u)(f:Ve):Int:=findIdx (λ_ r=>P8 f r) list_ 0
theorem ni_(a:Int→α)(list_:u)(f:Ve)(b:IJ (.sl qJ) (.sl list_)):∃N,ndl lf a N list_ f=a (Uf list_ f):=by
 obtain⟨d,_⟩:=Nh b;refine⟨list_.length+1, ?_⟩;unfold ndl Qw Uf;have key:CU lf a (list_.length+1) list_ (len list_) f.c f.b f.d f.f f.e (list_.length+1) 0=a (findIdx (λ_ r=>P8 f r) list_ 0):=by
  refine (x9 list_ (CU lf a (list_.length+1) list_ (len list_) f.c f.b f.d f.f f.e) (λi r c=>cond (P8 f r) (a (i:Int)) c) (a (-1)) ?_ ?_).trans ?_
  ·intro n i h;rw[nvy];simp only[D2,sg h,mZ h,jy h d,eR,Oi,cz,H];rfl
  ·intro n;rw[nvy];simp only[D2,Ns,J]
  ·exact vd (λ_ r=>P8 f r) a list_ 0
 exact key
def j8(a:Int→α)(list_:u)(b c d e f:Int)(g:Int→α)(k:Int):α:=cond (k<len list_) (cond (t true (A k list_)) (cond (cond ((r (q list_ (qC k)) 0)==b) (cond ((r (q list_ (qC k)) 1)==c) (cond ((r (q list_ (qC k)) 2)==d) (cond ((r (q list_ (qC k)) 3)==e) (cond ((r (q list_ (qC k)) 4)==f) true false) false) false) false) false) (a k) (g (s (k+1)))) lf) (a (-1))
def qx(a:Int→α)(N:Nat)(list_:u)(b c d e f:Int)(g:Nat):Int→α:=bW (λ_=>lf) (j8 lf a list_ b c d e f) g
theorem nqJ(a:Int→α)(N:Nat)(list_:u)(b c d e f:Int)(g:Nat):qx lf a N list_ b c d e f (g+1)=j8 lf a list_ b c d e f (qx lf a N list_ b c d e f g):=rfl
def A6(lf:α)(b:Int→α)(a:Int→Int→Int→Int→Int→Int→α)(list_:u)(f:Ve):α:=a f.c f.b f.d f.f f.e 0
def nt_(a:Int→α)(N:Nat)(list_:u)(f:Ve):α:=A6 lf a (λb c d e g=>qx lf a N list_ b c d e g N) list_ f
theorem nmT(a:Int→α)(list_:u)(f:Ve)(b:IJ (.sl qJ) (.sl list_)):∃N,nt_ lf a N list_ f=a (Uf list_ f):=by
 obtain⟨d,_⟩:=Nh b;refine⟨list_.length+1, ?_⟩;unfold nt_ A6 Uf;have key:qx lf a (list_.length+1) list_ f.c f.b f.d f.f f.e (list_.length+1) 0=a (findIdx (λ_ r=>P8 f r) list_ 0):=by
  refine (x9 list_ (qx lf a (list_.length+1) list_ f.c f.b f.d f.f f.e) (λi r c=>cond (P8 f r) (a (i:Int)) c) (a (-1)) ?_ ?_).trans ?_
  ·intro n i h;rw[nqJ];simp only[j8,sg h,mZ h,jy h d,eR,Oi,cz,H];rfl
  ·intro n;rw[nqJ];simp only[j8,Ns,J]
  ·exact vd (λ_ r=>P8 f r) a list_ 0
 exact key
theorem nqj(x:Int):s x % 4294967296=x % 4294967296:=by rw[C3];omega
theorem ngq(a b:Int):(s a - b) % 4294967296=(a - b) % 4294967296:=by rw[C3];omega
def nrv(d:u→α)(list_:u)(p:N):α:=let l:Bool:=decide (Uf (F list_) (Ng p)<0);let W:Bool:=A (len (F list_)) ((F list_)++([[.int ((Ng p).c),.int ((Ng p).b),.int ((Ng p).d),.int ((Ng p).f),.int ((Ng p).e),.int 0,.str [],.bool false]]));let V:Bool:=inl (qC (len (F list_))) ((F list_)++([[.int ((Ng p).c),.int ((Ng p).b),.int ((Ng p).d),.int ((Ng p).f),.int ((Ng p).e),.int 0,.str [],.bool false]]));let Z:Bool:=EI (Zt (len p.a.a)) p.a.a;let o:List DC:=q ((F list_)++([[.int ((Ng p).c),.int ((Ng p).b),.int ((Ng p).d),.int ((Ng p).f),.int ((Ng p).e),.int 0,.str [],.bool false]])) (qC (len (F list_)));let m:x:=(Zt (len p.a.a))++p.a.a;let v:Bool:=A (Uf (F list_) (Ng p)) (F list_);let w:Bool:=t true v;let a:Nat:=qC (Uf (F list_) (Ng p));let n:Bool:=inl a (F list_);let Y:Bool:=t w n;let b:List DC:=q (F list_) a;let f:Bool:=t true n;let g:Int:=s ((r b 5) - p.a.d);let c:Int:=Rk g 4294967296;let h:x:=bZ p.a.a c;let X:u:=q0 (F list_) a (Sk b 6 [.str ((Gi b 6)++h)]);let i:Bool:=inl a X;let j:List DC:=q X a;let k:Int:=s ((s ((r j 5)+(len p.a.a))) - c);let e:u:=q0 X a (Sk j 5 [.int (Rk k 4294967296)]);cond (t true (Pw list_)) (cond (!(Tp p)) (d (F list_)) (cond (p.a.c==17) (cond l (cond (t true (Em 72 (F list_) ([[.int ((Ng p).c),.int ((Ng p).b),.int ((Ng p).d),.int ((Ng p).f),.int ((Ng p).e),.int 0,.str [],.bool false]]))) (cond (t (t (t (t (t (t true W) V) Z) (EI (Gi o 6) m)) W) V) (d (q0 ((F list_)++([[.int ((Ng p).c),.int ((Ng p).b),.int ((Ng p).d),.int ((Ng p).f),.int ((Ng p).e),.int 0,.str [],.bool false]])) (qC (len (F list_))) (Sk o 6 [.str ((Gi o 6)++m)]))) lf) lf) (cond (t (t (t (t Y Z) (EI (Gi b 6) m)) v) n) (d (q0 (F list_) a (Sk b 6 [.str ((Gi b 6)++m)]))) lf)) (cond ((bits .and .i64 p.a.b 2) != 0) (cond l (cond (t true (Em 72 (F list_) ([[.int ((Ng p).c),.int ((Ng p).b),.int ((Ng p).d),.int ((Ng p).f),.int ((Ng p).e),.int (q5 (s (p.a.d+1)) 4294967296),.str [],.bool false]]))) (d ((F list_)++([[.int ((Ng p).c),.int ((Ng p).b),.int ((Ng p).d),.int ((Ng p).f),.int ((Ng p).e),.int (q5 (s (p.a.d+1)) 4294967296),.str [],.bool false]]))) lf) (d (F list_))) (cond (pk l true (pk (Dd b 7) Y Y)) (cond (cond l true (cond (Dd b 7) true ((bits .and .i64 p.a.b 4) != 0))) (d (F list_)) (cond w (cond (t f (vt g 4294967296)) (cond (c≤len p.a.a) (cond (t (t (t f (nz p.a.a c)) (EI (Gi b 6) h)) n) (cond (t (t (t true i) (vt k 4294967296)) i) (cond (t true (inl a e)) (d (q0 e a (Sk (q e a) 7 [.bool ((bits .and .i64 p.a.b 1) != 0)]))) lf) lf) lf) (d (F list_))) lf) lf)) lf)))) lf
def nuY(f:Ve)(next:Int)(a:x):List DC:=vg.enc ⟨f,next,a,false⟩
def UY(s:vg)(p:N):Int:=(s.d - p.a.d) % 4294967296
def njt(s:vg)(p:N):vg:=⟨s.a,(s.d+len p.a.a - UY s p) % 4294967296,s.c++bZ p.a.a (UY s p),(bits .and .i64 p.a.b 1) != 0⟩
def ngH(s:vg)(p:N):vg:=⟨s.a,s.d,s.c++(Zt (len p.a.a)++p.a.a),s.b⟩
def jN(list_:u)(p:N):Bool:=decide (list_.length≤16777216) && list_.all (λr=>decide ((Gi r 6).length≤1000000000000))
def Dh(list_:u)(p:N):u:=cond (!(Tp p)) list_ (cond (p.a.c==17) (cond (Uf list_ (Ng p)<0) (list_++[nuY (Ng p) 0 (Zt (len p.a.a)++p.a.a)]) (q0 list_ (Uf list_ (Ng p)).toNat (vg.enc (ngH (vg.nd (q list_ (Uf list_ (Ng p)).toNat) 0) p)))) (cond ((bits .and .i64 p.a.b 2) != 0) (cond (Uf list_ (Ng p)<0) (list_++[nuY (Ng p) (q5 (s (p.a.d+1)) 4294967296) []]) list_) (cond (cond (Uf list_ (Ng p)<0) true (cond (vg.nd (q list_ (Uf list_ (Ng p)).toNat) 0).b true ((bits .and .i64 p.a.b 4) != 0))) list_ (cond (UY (vg.nd (q list_ (Uf list_ (Ng p)).toNat) 0) p≤len p.a.a) (q0 list_ (Uf list_ (Ng p)).toNat (vg.enc (njt (vg.nd (q list_ (Uf list_ (Ng p)).toNat) 0) p))) list_))))
theorem nf9(C:u→α)(list_:u)(p:N)(L:IJ (.sl qJ) (.sl list_))(w:Q N.ct p.enc)(D:jN list_ p=true):nrv lf C list_ p=C (Dh list_ p):=by
 obtain⟨hl,z⟩:=Nh L;have M:=Ti (EP.nFY (N.nFX w));simp only[jN,Bl,tt,js] at D;obtain⟨ac4,af2⟩:=D;have ac4:list_.length≤16777216:=ac4;unfold nrv Dh;dsimp only;rw[show F list_=list_ from rfl];refine rR (ZY (Hd ac4)) ?_;refine U6 (λ_=>rfl) (λO=>?_);have hb:=Gb (Vk O);have P:=P3 (len p.a.a);have l:∀ab2:List DC,Em 72 list_ [ab2]=true:=λab2=>W6 (by simp only[I_,q4];omega) (by omega);have e:∀a b:x,a.length≤2000000000000→b.length≤2000000000000→EI a b=true:=λa b h1 h2=>Hd (by omega);generalize hf:Ng p=f;rcases nf2 (λ_ abc=>P8 f abc) list_ 0 with t | ⟨c,g,t⟩
 ·have m:Uf list_ f= -1:=t;generalize Uf list_ f=X at m ⊢;subst m;have j:decide ((-1:Int)<0)=true:=rfl;simp only[j,H];refine U6 (λ_=>?_) (λ_=>?_)
  ·refine rR (ZY (l _)) ?_;have o:∀ab2:List DC,A (len list_) (list_++[ab2])=true:=λab2=>mZ (i:=list_.length) (by simp);have aa5:∀ab2:List DC,inl (qC (len list_)) (list_++[ab2])=true:=λab2=>R7 (by simp[len]);have age:∀ab2:List DC,q (list_++[ab2]) (qC (len list_))=ab2:=λab2=>by simp[q,len]
   have R:∀ab2 y:List DC,q0 (list_++[ab2]) (qC (len list_)) y=list_++[y]:=λab2 y=>by simp[len]
   have B:EI (Zt (len p.a.a)) p.a.a=true:=e _ _ (by omega) (by omega);simp only[o,aa5,age,R,B,Oi,cz];exact rR (e _ _ (so _) (by rw[fK];omega)) rfl
  ·refine U6 (λ_=>rR (ZY (l _)) rfl) (λ_=>?_);exact rR (Wi (λ_=>rfl) (λh=>by cases h)) rfl
 ·have m:Uf list_ f=(c:Int):=by rw[Nat.zero_add] at t;exact t
  generalize Uf list_ f=X at m ⊢;subst m;have j:decide ((c:Int)<0)=false:=ja (by omega);have o:A (c:Int) list_=true:=mZ g;have aa5:inl c list_=true:=R7 g;have aaW:=af2 _ (nU g);have S:=Ti (vg.nCv (x:=vg.nd (q list_ c) 0) (by rw[vg.eta (z _ (nU g))];exact z _ (nU g)));have v:=(vg.eta (z _ (nU g))).symm;generalize vg.nd (q list_ c) 0=aci at v S;have aaW:aci.c.length≤1000000000000:=by rw[v] at aaW;exact aaW
  rw[j,eR];simp only[J];refine U6 (λ_=>?_) (λ_=>?_)
  ·rw[v];have B:EI (Zt (len p.a.a)) p.a.a=true:=e _ _ (by omega) (by omega);simp only[o,aa5,B,Oi,cz];exact rR (e _ _ (r0 aaW (by omega)) (by rw[fK];omega)) rfl
  ·refine U6 (λ_=>rfl) (λ_=>?_);rw[v];have E:r (vg.enc aci) 5=aci.d:=rfl;have T:Gi (vg.enc aci) 6=aci.c:=rfl;have U:Dd (vg.enc aci) 7=aci.b:=rfl;have adC:∀d:x,Sk (vg.enc aci) 6 [.str d]=vg.enc ⟨aci.a,aci.d,d,aci.b⟩:=λ_=>rfl;have G:∀d:x,r (vg.enc ⟨aci.a,aci.d,d,aci.b⟩) 5=aci.d:=λ_=>rfl;have V:∀(d:x) (n:Int),Sk (vg.enc ⟨aci.a,aci.d,d,aci.b⟩) 5 [.int n]=vg.enc ⟨aci.a,n,d,aci.b⟩:=λ_ _=>rfl;have W:∀(d:x) (n:Int) (b:Bool),Sk (vg.enc ⟨aci.a,n,d,aci.b⟩) 7 [.bool b]=vg.enc ⟨aci.a,n,d,b⟩:=λ_ _ _=>rfl;have hB:0≤len p.a.a∧len p.a.a≤320:=by simp only[len];omega
   have Y:0≤UY aci p∧UY aci p<4294967296:=by unfold UY;omega
   obtain⟨Z,adM⟩:=l9 (x:=s (aci.d - p.a.d)) (n:=4294967296) (nxy _) (G_ _) (by omega) (by omega);rw[nqj] at adM;have m1:Rk (s (aci.d - p.a.d)) 4294967296=UY aci p:=adM;simp only[E,Z];simp only[o,aa5,E,T,U,m1,Oi,cz,vb,H,J];refine U6 (λ_=>rfl) (λ_=>?_);refine U6 (λk=>?_) (λ_=>rfl);have k:=of_decide_eq_true k;have lA:(bZ p.a.a (UY aci p)).length≤p.a.a.length:=by unfold bZ;rw[sI,r8];omega
   have I:nz p.a.a (UY aci p)=true:=by simp only[nz,Bl,js];exact⟨Y.1,k⟩
   have aeJ:EI aci.c (bZ p.a.a (UY aci p))=true:=e _ _ (by omega) (by omega);obtain⟨b1,K⟩:=l9 (x:=s (s (aci.d+len p.a.a) - UY aci p)) (n:=4294967296) (nxy _) (G_ _) (by omega) (by omega);rw[nqj,ngq] at K;have m2:=K;have m3:=b1;simp only[I,aeJ,adC,G,BA,O6 g,m3];simp only[I,aeJ,adC,o,aa5,nx2,BA,List.set_set,O6 g,G,V,W,m2,Oi,cz,H];rfl
def XJ(Q:v→S→G→u→Int→α)(list_:u)(b h i j k l q r acj acv Z abw w ab3 y z A B C D E F aek H:Int)(aev:x)(J K:Int)(L:Bool)(M:Int)(p:u)(af3:Int→Int→Int→Int→Int→Int→Int→u→u→α)(n m o R c d e:Int)(g f:u):α:=let a:Ja×CI×Bool:=Sf list_ (⟨p⟩:v) b (⟨m,o,R⟩:CI);let ahu:Bool:=t true (p_ list_ (⟨p⟩:v) b (⟨i,j,k,l⟩:I) (⟨c,d,e,f⟩:G));let O:v×I×G×Int:=HJ list_ (⟨p⟩:v) b (⟨i,j,k,l⟩:I) (⟨c,d,e,f⟩:G);let T:v:=O.1;let U:S:=(⟨O.2.1,(⟨q,r,acj⟩:CI),(⟨m,o,R⟩:CI),(⟨(⟨acv,Z,abw,w,ab3,y,z,A,(⟨B,C,D,E,F,aek,H,aev⟩:EP)⟩:N),J,K⟩:QI),L,M⟩:S);let V:G:=O.2.2.1;let W:x×Bool:=Eo list_ (⟨p⟩:v) b (Q6 (⟨c,d,e,f⟩:G) a.1.d) a.1.e;let X:N×Int:=BT W.1;let Y:N:=X.1;let P:Bool:=t true (Ut (⟨c,d,e,f⟩:G) ([[.int a.1.d]]));cond (n<h) (cond (!a.2.2) (cond ahu (Q T U V g n) lf) (cond W.2 (cond (X.2==0) (cond (t true (jN g Y)) (cond P (af3 (s (n+1)) a.2.1.b a.2.1.a a.2.1.c (((Un (⟨c,d,e,f⟩:G) ([[.int a.1.d]])).1).b) (((Un (⟨c,d,e,f⟩:G) ([[.int a.1.d]])).1).a) (((Un (⟨c,d,e,f⟩:G) ([[.int a.1.d]])).1).c) (Dh g Y) (((Un (⟨c,d,e,f⟩:G) ([[.int a.1.d]])).1).d)) lf) lf) (cond P (af3 (s (n+1)) a.2.1.b a.2.1.a a.2.1.c (((Un (⟨c,d,e,f⟩:G) ([[.int a.1.d]])).1).b) (((Un (⟨c,d,e,f⟩:G) ([[.int a.1.d]])).1).a) (((Un (⟨c,d,e,f⟩:G) ([[.int a.1.d]])).1).c) g (((Un (⟨c,d,e,f⟩:G) ([[.int a.1.d]])).1).d)) lf)) (cond P (af3 (s (n+1)) a.2.1.b a.2.1.a a.2.1.c (((Un (⟨c,d,e,f⟩:G) ([[.int a.1.d]])).1).b) (((Un (⟨c,d,e,f⟩:G) ([[.int a.1.d]])).1).a) (((Un (⟨c,d,e,f⟩:G) ([[.int a.1.d]])).1).c) g (((Un (⟨c,d,e,f⟩:G) ([[.int a.1.d]])).1).d)) lf))) (cond ahu (Q T U V g n) lf)
def jE(D:v→S→G→u→Int→α)(N:Nat)(list_:u)(a b c d e f g h i j k l m n o p q r s t Z Y w X:Int)(y:x)(z A:Int)(B:Bool)(C:Int)(E:u)(F:Nat):Int→Int→Int→Int→Int→Int→Int→u→u→α:=bW (λ_ _ _ _ _ _ _ _ _=>lf) (XJ lf D list_ a b c d e f g h i j k l m n o p q r s t Z Y w X y z A B C E) F
theorem naW(D:v→S→G→u→Int→α)(N:Nat)(list_:u)(a b c d e f g h i j k l m n o p q r s t Z Y w X:Int)(y:x)(z A:Int)(B:Bool)(C:Int)(E:u)(F:Nat):jE lf D N list_ a b c d e f g h i j k l m n o p q r s t Z Y w X y z A B C E (F+1)=XJ lf D list_ a b c d e f g h i j k l m n o p q r s t Z Y w X y z A B C E (jE lf D N list_ a b c d e f g h i j k l m n o p q r s t Z Y w X y z A B C E F):=rfl
def W_(d:v→S→G→u→Int→α)(e:Int→Int→Int→Int→Int→Int→Int→Int→Int→Int→Int→Int→Int→Int→Int→Int→Int→Int→Int→Int→Int→Int→x→Int→Int→Bool→Int→u→Int→Int→Int→Int→Int→Int→Int→u→u→α)(list_:u)(m:v)(c:Int)(q:S)(p:G)(a:u)(b:Int):α:=cond (t (t (t true (WO m)) (aU p)) (Pw a)) (cond (cond (!(TH q)) true (cond (!(PM p)) true (!(D b 0 1000)))) (d (F m) q (F p) (F a) 0) (e q.b.b q.b.a q.b.d q.b.c q.c.b q.c.a q.c.c q.a.b.h q.a.b.i q.a.b.e q.a.b.f q.a.b.g q.a.b.c q.a.b.b q.a.b.d q.a.b.a.c q.a.b.a.f q.a.b.a.e q.a.b.a.d q.a.b.a.g q.a.b.a.b q.a.b.a.h q.a.b.a.a q.a.a q.a.c q.f q.e ((F m).a) 0 q.d.b q.d.a q.d.c ((F p).b) ((F p).a) ((F p).c) (F a) ((F p).d))) lf
def nxX(H:v→S→G→u→Int→α)(N:Nat)(list_:u)(m:v)(a:Int)(q:S)(p:G)(c:u)(b:Int):α:=W_ lf H (λd e f g h i j k l n o r s t Z Y w x y z A B C D E F X I=>jE lf H N list_ a b d e f g h i j k l n o r s t Z Y w x y z A B C D E F X I N) list_ m a q p c b
def Z9(list_:u)(m:v)(a:Int)(p:G)(Z:Ja):x×Bool:=Eo list_ m a (Q6 p Z.d) Z.e
def Bk(list_:u)(m:v)(b:Int)(p:G)(x:Ja)(a:u):u:=cond (Z9 list_ m b p x).2 (cond ((BT (Z9 list_ m b p x).1).2==0) (Dh a (BT (Z9 list_ m b p x).1).1) a) a
def xa(list_:u)(m:v)(b:Int):Nat→CI→G→u→Int→CI×G×u×Int
 | 0,d,p,a,n=>(d,p,a,n)
 | f+1,d,p,a,n=>bif !(Sf list_ m b d).2.2 then (d,p,a,n)
  else xa list_ m b f (Sf list_ m b d).2.1 (Un p [[.int (Sf list_ m b d).1.d]]).1 (Bk list_ m b p (Sf list_ m b d).1 a) (s (n+1))
def qD(list_:u)(m:v)(a:Int)(q:S)(s:CI×G×u×Int):v×S×G×u×Int:=((HJ list_ m a q.b s.2.1).1, {q with b:=(HJ list_ m a q.b s.2.1).2.1,d:=s.1},(HJ list_ m a q.b s.2.1).2.2.1,s.2.2.1,s.2.2.2)
def b9(list_:u)(m:v)(b:Int)(q:S)(p:G)(a:u)(c:Int):Bool:=WO m && (decide (p.d.length≤8000000) && (decide (a.length≤8000000) && a.all (λr=>decide ((Gi r 6).length≤500000000000))))
def sO(list_:u)(m:v)(b:Int)(q:S)(p:G)(a:u)(c:Int):v×S×G×u×Int:=cond (cond (!(TH q)) true (cond (!(PM p)) true (!(D c 0 1000)))) (m,q,p,a,0) (qD list_ m b q (xa list_ m b c.toNat q.d p a 0))
theorem na4{l:u}{i:Nat}{x r:List DC}(h:r∈q0 l i x):r∈l∨r=x:=by
 rcases List.mem_or_eq_of_mem_set h with h | h
 ·exact .inl h
 ·exact .inr h
theorem ncV(l:u)(p:N):(Dh l p).length≤l.length+1:=by
 unfold Dh;cases (!(Tp p))<;>cases (p.a.c==17)<;>cases decide (Uf l (Ng p)<0)<;>cases ((bits .and .i64 p.a.b 2) != 0)<;>simp only[H,J,fK,tr,I_,q4]<;>try omega
 all_goals
  cases (vg.nd (q l (Uf l (Ng p)).toNat) 0).b<;>cases ((bits .and .i64 p.a.b 4) != 0)<;>cases decide (UY (vg.nd (q l (Uf l (Ng p)).toNat) 0) p≤len p.a.a)<;>simp only[H,J,tr]<;>omega
theorem nGs{l:u}{p:N}{D:Nat}(h:∀r∈l,(Gi r 6).length≤D):∀r∈Dh l p,(Gi r 6).length≤D+400:=by
 have a:∀r∈l,(Gi r 6).length≤D+400:=λr b=>r0 (h r b) (by omega);have i:(Gi (q l (Uf l (Ng p)).toNat) 6).length≤D:=by
  by_cases f:(Uf l (Ng p)).toNat<l.length
  ·exact h _ (nU f)
  ·rw[show q l (Uf l (Ng p)).toNat=[] by simp[q,tj,u0 (Nat.le_of_not_lt f)]];exact so _
 cases d:Tp p
 ·unfold Dh;rw[d];exact a
 have j:=Gb d;have k:=P3 (len p.a.a);have m:(bZ p.a.a (UY (vg.nd (q l (Uf l (Ng p)).toNat) 0) p)).length≤p.a.a.length:=by unfold bZ;rw[sI,r8];omega
 have g:∀Z:List DC,(Gi Z 6).length≤D+400→∀r∈q0 l (Uf l (Ng p)).toNat Z,(Gi r 6).length≤D+400:=λZ e r b=>by
  rcases na4 b with h | rfl
  ·exact a r h
  ·exact e
 have c:∀Z:List DC,(Gi Z 6).length≤D+400→∀r∈l++[Z],(Gi r 6).length≤D+400:=λZ e r b=>by
  rcases uJ.1 b with h | h
  ·exact a r h
  ·rw[uK.1 h];exact e
 unfold Dh;rw[d];simp only[ra,J];cases (p.a.c==17)
 ·simp only[J];cases ((bits .and .i64 p.a.b 2) != 0)
  ·simp only[J];cases (cond (Uf l (Ng p)<0) true (cond (vg.nd (q l (Uf l (Ng p)).toNat) 0).b true ((bits .and .i64 p.a.b 4) != 0)))
   ·simp only[J];cases decide (UY (vg.nd (q l (Uf l (Ng p)).toNat) 0) p≤len p.a.a)
    ·exact a
    ·exact g _ (by show (Gi (q l (Uf l (Ng p)).toNat) 6++_).length≤_;rw[fK];omega)
   ·exact a
  ·simp only[H];cases decide (Uf l (Ng p)<0)
   ·exact a
   ·exact c _ (so _)
 ·simp only[H];cases decide (Uf l (Ng p)<0)
  ·exact g _ (by show (Gi (q l (Uf l (Ng p)).toNat) 6++_).length≤_;rw[fK,fK];omega)
  ·exact c _ (by show (_++_:x).length≤_;rw[fK];omega)
theorem nfk(h:v→S→G→u→Int→α)(list_:u)(m:v)(b:Int)(q:S)(p:G)(c:u)(e:Int)(Y:b9 list_ m b q p c e=true):∃af4,nxX lf h af4 list_ m b q p c e=h (sO list_ m b q p c e).1 (sO list_ m b q p c e).2.1 (sO list_ m b q p c e).2.2.1 (sO list_ m b q p c e).2.2.2.1 (sO list_ m b q p c e).2.2.2.2:=by
 simp only[b9,Bl,tt,js] at Y;obtain⟨k,R,ahv,y⟩:=Y;have A:Pw c=true:=Hd (by omega);have l:aU p=true:=Hd (show p.d.length≤16777216 by omega);unfold nxX W_ sO;rw[show F p=p from rfl,show F m=m from rfl];refine⟨1002, ?_⟩;rw[show F c=c from rfl];refine rR (by rw[k,l,A];rfl) ?_;refine U6 (K:=(λz:v×S×G×u×Int=>h z.1 z.2.1 z.2.2.1 z.2.2.2.1 z.2.2.2.2)) (λ_=>rfl) (λC=>?_);have T:=YF.1 (Vk (Uk (Uk C).2).2);obtain⟨B,rfl⟩:∃B:Nat,e=(B:Int):=⟨e.toNat,by omega⟩;rw[eR];have w:(⟨m.a⟩:v)=m:=rfl;have g:(⟨q.b.b,q.b.a,q.b.d,q.b.c⟩:I)=q.b:=rfl;have key:∀(f n af4:Nat) (d:CI) (p:G) (a:u),n+f=B→f<af4→p.d.length≤8000000+n→a.length≤8000000+n→(∀r∈a,(Gi r 6).length≤500000000000+400*n)→
   jE lf h 1002 list_ b (B:Int) q.b.b q.b.a q.b.d q.b.c q.c.b q.c.a q.c.c q.a.b.h q.a.b.i q.a.b.e q.a.b.f q.a.b.g q.a.b.c q.a.b.b q.a.b.d q.a.b.a.c q.a.b.a.f q.a.b.a.e q.a.b.a.d q.a.b.a.g q.a.b.a.b q.a.b.a.h q.a.b.a.a q.a.a q.a.c q.f q.e m.a af4 (n:Int) d.b d.a d.c p.b p.a p.c a p.d=(λz:v×S×G×u×Int=>h z.1 z.2.1 z.2.2.1 z.2.2.2.1 z.2.2.2.2) (qD list_ m b q (xa list_ m b f d p a (n:Int))):=by
  intro f
  induction f with
  | zero=>
   intro n af4 d p a D E adD ael i;obtain⟨af4,rfl⟩:=DF af4;rw[naW];have adN:decide ((n:Int)<(B:Int))=false:=ja (by omega);have o:∀(r:I),p_ list_ m b r (⟨p.b,p.a,p.c,p.d⟩:G)=true:=λr=>by simp only[p_,Bl];exact⟨k,Hd (show p.d.length≤16777216 by omega)⟩
   simp only[XJ,adN,w,g,o,Oi,H,J];rfl
  | succ f aew=>
   intro n af4 d p a D E adD ael i;obtain⟨af4,rfl⟩:=DF af4;rw[naW];have aeK:decide ((n:Int)<(B:Int))=true:=Hd (by omega);have L:(⟨d.b,d.a,d.c⟩:CI)=d:=rfl;have M:(⟨p.b,p.a,p.c,p.d⟩:G)=p:=rfl;have o:∀(r:I),p_ list_ m b r p=true:=λr=>by simp only[p_,Bl];exact⟨k,Hd (show p.d.length≤16777216 by omega)⟩
   have O:∀x:List DC,Ut p [x]=true:=λx=>by simp only[Ut,Bl,js];exact⟨Hd (by omega),by simp only[I_,q4];omega⟩
   have ack:∀x:N,jN a x=true:=λx=>by simp only[jN,Bl,tt,js];exact⟨by omega,λr g=>r0 (i r g) (by omega)⟩
   have P:s ((n:Int)+1)=((n+1:Nat):Int):=by rw[fg];omega
   have t:∀x:List DC,(Un p [x]).1.d.length≤p.d.length+1:=λx=>by
    unfold Un;cases (cond (!(PM p)) true (!(PM (⟨p.b,p.a,p.c,p.d++[x]⟩:G))))
    ·simp
    ·simp
   simp only[XJ,aeK,w,g,L,M,o,O,ack,P,Oi,H,xa];cases U:(Sf list_ m b d).2.2
   ·simp only[ua,H];rfl
   ·simp only[ra,J];have Z:∀j:u,j.length≤a.length+1→(∀r∈j,(Gi r 6).length≤500000000000+400*n+400)→_:=λj V Q=>aew (n+1) af4 (Sf list_ m b d).2.1 (Un p [[.int (Sf list_ m b d).1.d]]).1 j (by omega) (by omega) (r0 (t _) (by omega)) (by omega) (λr g=>r0 (Q r g) (by omega));unfold Bk Z9;cases W:(Eo list_ m b (Q6 p (Sf list_ m b d).1.d) (Sf list_ m b d).1.e).2
    ·exact Z a (by omega) (λr g=>r0 (i r g) (by omega))
    ·simp only[H];cases X:((BT (Eo list_ m b (Q6 p (Sf list_ m b d).1.d) (Sf list_ m b d).1.e).1).2==0)
     ·exact Z a (by omega) (λr g=>r0 (i r g) (by omega))
     ·exact Z _ (ncV _ _) (nGs i)
 have:=key B 0 1002 q.d p c (by omega) (by omega) (by omega) (by omega) (λr g=>y r g);exact this
def ndZ(d:Int→z→α)(h:z)(k a:Int):α:=let b:v×S×G×u×Int:=sO h.j h.h 0 (S.nd (q h.b (qC k)) 0) (G.nd (q h.e (qC k)) 0) h.k a;let c:S:=b.2.1;let i:I:=c.b;let j:CI:=c.c;let l:CI:=c.d;let e:QI:=c.a;let f:N:=e.b;let m:EP:=f.a;let g:G:=b.2.2.1;cond (t (t (t (t (t (t (t (t (t true (A k h.b)) (inl (qC k) h.b)) (A k h.e)) (inl (qC k) h.e)) (b9 h.j h.h 0 (S.nd (q h.b (qC k)) 0) (G.nd (q h.e (qC k)) 0) h.k a)) (A k h.b)) (inl (qC k) h.b)) (A k h.e)) ((inl (qC k) h.e) && (Nat.beq (qC k) (qC k)))) (d b.2.2.2.2 (⟨b.1,h.j,h.a,q0 h.b (qC k) (Sk (q h.b (qC k)) 0 (S.enc c)),q0 h.e (qC k) (Sk (q h.e (qC k)) 0 (G.enc g)),h.g,h.i,h.f,h.d,b.2.2.2.1,h.m,h.l,h.n,h.o,h.c⟩:z)) lf
def jj(h:z)(k a:Int):v×S×G×u×Int:=sO h.j h.h 0 (S.nd (q h.b k.toNat) 0) (G.nd (q h.e k.toNat) 0) h.k a
def aK(h:z)(k a:Int):Bool:=(decide (0≤k) && (decide (k<len h.b) && decide (k<len h.e))) && b9 h.j h.h 0 (S.nd (q h.b k.toNat) 0) (G.nd (q h.e k.toNat) 0) h.k a
def tv(h:z)(k a:Int):Int×z:=((jj h k a).2.2.2.2, {h with h:=(jj h k a).1,b:=q0 h.b k.toNat (S.enc (jj h k a).2.1),e:=q0 h.e k.toNat (G.enc (jj h k a).2.2.1),k:=(jj h k a).2.2.2.1})
theorem naV(j:Int→z→α)(h:z)(k a:Int)(b:Q z.ct h.enc)(n:aK h k a=true):ndZ lf j h k a=j (tv h k a).1 (tv h k a).2:=by
 obtain⟨u,o⟩:=Nh (z.nA9 b);obtain⟨v,d⟩:=Nh (z.npk b);have l:=n;simp only[aK,Bl,js] at l;obtain⟨⟨w,p,r⟩,m⟩:=l;obtain⟨c,rfl⟩:∃c:Nat,k=(c:Int):=⟨k.toNat,by omega⟩;rw[eR] at m;have e:c<h.b.length:=by simp only[len] at p;omega
 have f:c<h.e.length:=by simp only[len] at r;omega
 have s:=congrArg tl (S.eta (o _ (nU e)));have t:=congrArg tl (G.eta (d _ (nU f)));have g:∀Z:S,Sk (q h.b c) 0 (S.enc Z)=S.enc Z:=λZ=>Fx (s.symm.trans rfl);have i:∀Z:G,Sk (q h.e c) 0 (G.enc Z)=G.enc Z:=λZ=>Fx (t.symm.trans rfl);unfold ndZ tv jj;rw[eR];refine rR (by simp only[mZ e,R7 e,mZ f,R7 f,m,Nat.beq_refl,Oi,uI]) ?_;rw[g,i]
def jx(k_:z→Int→α)(b ab4:Int)(abx:nCO α)(d a og qR qS qT qz qA qB qU w:Int)(y:Bool)(rK:x)(acI:Bool)(rZ r7 r9 r_ sa:Int)(ac5 B pJ pd C D aa6 p E sb sd qo F aem H aex:u):α:=let z0:Bool:=t (t true (A a aa6)) (inl (qC a) aa6);let z1:Bool:=t (t true (A a p)) (inl (qC a) p);let J:u:=q0 p (qC a) (Sk (q p (qC a)) 0 [.bool true]);let z3:u:=q0 aa6 (qC a) (Sk (q aa6 (qC a)) 0 (Ue.enc ((jI (Ue.nd (q aa6 (qC a)) 0)).1)));let z4:Co:=(⟨(⟨og,qR,qS,qT⟩:I),(⟨qz,qA,qB,pJ⟩:G),pd,qU⟩:Co);let z5:se:=(⟨sb,(⟨sd⟩:mB),(⟨rK,qo⟩:iI)⟩:se);let z6:Pa:=(⟨rZ,r7,r9,r_,sa⟩:Pa);let z7:z:=(⟨(⟨ac5⟩:v),B,z4,C,D,z3,J,(⟨w,y,E⟩:QD),z5,F,acI,aem,H,aex,z6⟩:z);let z8:Int×z:=tv z7 a b;let z9:Int:=z8.1;let e:z:=z8.2;let K:u:=e.i;let f:u:=e.g;let L:Bool:=A a f;let M:Bool:=inl (qC a) f;let N:Int:=s (d+z9);let NY:Co:=e.a;let k:I:=NY.b;let O:Int:=k.b;let P:Int:=k.a;let Q:Int:=k.d;let R:Int:=k.c;let l:G:=NY.a;let S:Int:=l.b;let T:Int:=l.a;let U:Int:=l.c;let V:Int:=NY.d;let r:QD:=e.f;let W:Int:=r.b;let X:Bool:=r.c;let acm:se:=e.d;let Y:iI:=acm.b;let Z:x:=Y.b;let z33:Bool:=e.m;let g:Pa:=e.c;let z35:Int:=g.a;let z36:Int:=g.b;let z37:Int:=g.e;let z38:Int:=g.c;let z39:Int:=g.d;let z40:u:=e.h.a;let z41:u:=e.j;let z42:u:=l.d;let z43:u:=NY.c;let z44:u:=e.b;let z45:u:=e.e;let z46:List DC:=q f (qC a);let z47:Ue:=eY (Ue.nd z46 0);let z48:u:=r.a;let z49:u:=acm.c;let z50:u:=acm.a.a;let z51:u:=Y.a;let z52:u:=e.k;let z53:u:=e.l;let z54:u:=e.n;let z55:u:=e.o;let z56:z:=(⟨(⟨ac5⟩:v),B,z4,C,D,z3,p,(⟨w,y,E⟩:QD),z5,F,acI,aem,H,aex,z6⟩:z);let z57:Int×z:=tv z56 a b;let z58:Int:=z57.1;let c:z:=z57.2;let h:u:=c.i;let i:u:=c.g;let z62:Bool:=A a i;let z63:Bool:=inl (qC a) i;let z64:Int:=s (d+z58);let m:Co:=c.a;let n:I:=m.b;let z67:Int:=n.b;let z68:Int:=n.a;let z69:Int:=n.d;let z70:Int:=n.c;let o:G:=m.a;let z72:Int:=o.b;let z73:Int:=o.a;let z74:Int:=o.c;let z75:Int:=m.d;let acw:QD:=c.f;let z77:Int:=acw.b;let z78:Bool:=acw.c;let aaX:se:=c.d;let z80:iI:=aaX.b;let z81:x:=z80.b;let z82:Bool:=c.m;let j:Pa:=c.c;let z84:Int:=j.a;let z85:Int:=j.b;let z86:Int:=j.e;let z87:Int:=j.c;let z88:Int:=j.d;let z89:u:=c.h.a;let z90:u:=c.j;let z91:u:=o.d;let z92:u:=m.c;let z93:u:=c.b;let z94:u:=c.e;let z95:List DC:=q i (qC a);let z96:Ue:=eY (Ue.nd z95 0);let z97:u:=acw.a;let z98:u:=aaX.c;let z99:u:=aaX.a.a;let nGw:u:=z80.a;let nGx:u:=c.k;let nGy:u:=c.l;let nGz:u:=c.n;let nGA:u:=c.o;cond (a<ab4) (cond z0 (cond z0 (cond (jI (Ue.nd (q aa6 (qC a)) 0)).2 (cond z1 (cond (t (t true (A a J)) (inl (qC a) J)) (cond (!(Dd (q J (qC a)) 0)) (abx d (s (a+1)) og qR qS qT qz qA qB qU w y rK acI rZ r7 r9 r_ sa ac5 B pJ pd C D z3 J E sb sd qo F aem H aex) (cond (t true (aK z7 a b)) (cond (z9<b) (cond (t (t true (A a K)) (inl (qC a) K)) (cond (t (t (t (t true L) M) L) M) (abx N (s (a+1)) O P Q R S T U V W X Z z33 z35 z36 z37 z38 z39 z40 z41 z42 z43 z44 z45 (q0 f (qC a) (Sk z46 0 (Ue.enc z47))) (q0 K (qC a) (Sk (q K (qC a)) 0 [.bool false])) z48 z49 z50 z51 z52 z53 z54 z55) lf) lf) (abx N (s (a+1)) O P Q R S T U V W X Z z33 z35 z36 z37 z38 z39 z40 z41 z42 z43 z44 z45 f K z48 z49 z50 z51 z52 z53 z54 z55)) lf)) lf) lf) (cond z1 (cond (!(Dd (q p (qC a)) 0)) (abx d (s (a+1)) og qR qS qT qz qA qB qU w y rK acI rZ r7 r9 r_ sa ac5 B pJ pd C D z3 p E sb sd qo F aem H aex) (cond (t true (aK z56 a b)) (cond (z58<b) (cond (t (t true (A a h)) (inl (qC a) h)) (cond (t (t (t (t true z62) z63) z62) z63) (abx z64 (s (a+1)) z67 z68 z69 z70 z72 z73 z74 z75 z77 z78 z81 z82 z84 z85 z86 z87 z88 z89 z90 z91 z92 z93 z94 (q0 i (qC a) (Sk z95 0 (Ue.enc z96))) (q0 h (qC a) (Sk (q h (qC a)) 0 [.bool false])) z97 z98 z99 nGw nGx nGy nGz nGA) lf) lf) (abx z64 (s (a+1)) z67 z68 z69 z70 z72 z73 z74 z75 z77 z78 z81 z82 z84 z85 z86 z87 z88 z89 z90 z91 z92 z93 z94 i h z97 z98 z99 nGw nGx nGy nGz nGA)) lf)) lf)) lf) lf) (k_ (⟨(⟨ac5⟩:v),B,z4,C,D,aa6,p,(⟨w,y,E⟩:QD),z5,F,acI,aem,H,aex,z6⟩:z) d)
def gC(b:z→Int→α)(N:Nat)(a x:Int)(c:Nat):nCO α:=bW (λ_ _ _ _ _ _ _ _ _ _ _ _ _ _ _ _ _ _ _ _ _ _ _ _ _ _ _ _ _ _ _ _ _ _ _=>lf) (jx lf b a x) c
theorem nxL(b:z→Int→α)(N:Nat)(a x:Int)(c:Nat):gC lf b N a x (c+1)=jx lf b a x (gC lf b N a x c):=rfl
def Q4(b:z→Int→α)(c:Int→Int→Int→Int→Int→Int→Int→Int→Int→Int→Int→Int→Bool→x→Bool→Int→Int→Int→Int→Int→u→u→u→u→u→u→u→u→u→u→u→u→u→u→u→u→α)(h:z)(a:Int):α:=cond (t true (mD h)) (cond (pk (!(zp h)) (t true (Aa h)) (t true (Aa h))) (cond (cond (!(zp h)) true (!(D a 1 1000))) (b (F h) 0) (c (len ((F h).b)) 0 0 ((((F h).a).b).b) ((((F h).a).b).a) ((((F h).a).b).d) ((((F h).a).b).c) ((((F h).a).a).b) ((((F h).a).a).a) ((((F h).a).a).c) (((F h).a).d) (((F h).f).b) (((F h).f).c) ((((F h).d).b).b) ((F h).m) (((F h).c).a) (((F h).c).b) (((F h).c).e) (((F h).c).c) (((F h).c).d) (((F h).h).a) ((F h).j) ((((F h).a).a).d) (((F h).a).c) ((F h).b) ((F h).e) ((F h).g) ((F h).i) (((F h).f).a) (((F h).d).c) ((((F h).d).a).a) ((((F h).d).b).a) ((F h).k) ((F h).l) ((F h).n) ((F h).o))) lf) lf
def RB(b:z→Int→α)(N:Nat)(h:z)(a:Int):α:=Q4 lf b (λx=>gC lf b N a x N) h a
def VC(o:z)(i:Nat)(a:Int):v×S×G×u×Int:=sO o.j o.h 0 (S.nd (q o.b i) 0) (G.nd (q o.e i) 0) o.k a
def bx(o:z)(i:Nat):Ue×Bool:=jI (Ue.nd (q o.g i) 0)
def dj(ew:Int)(i:Nat)(Z:z×Int):z×Int:=cond (!(cond (bx Z.1 i).2 true (Dd (q Z.1.i i) 0))) ({Z.1 with g:=q0 Z.1.g i (Ue.enc (bx Z.1 i).1),i:=cond (bx Z.1 i).2 (q0 Z.1.i i [.bool true]) Z.1.i},Z.2) (cond ((VC Z.1 i ew).2.2.2.2<ew) ({Z.1 with h:=(VC Z.1 i ew).1,b:=q0 Z.1.b i (S.enc (VC Z.1 i ew).2.1),e:=q0 Z.1.e i (G.enc (VC Z.1 i ew).2.2.1),k:=(VC Z.1 i ew).2.2.2.1,g:=q0 Z.1.g i (Ue.enc (eY (bx Z.1 i).1)),i:=q0 Z.1.i i [.bool false]},s (Z.2+(VC Z.1 i ew).2.2.2.2)) ({Z.1 with h:=(VC Z.1 i ew).1,b:=q0 Z.1.b i (S.enc (VC Z.1 i ew).2.1),e:=q0 Z.1.e i (G.enc (VC Z.1 i ew).2.2.1),k:=(VC Z.1 i ew).2.2.2.1,g:=q0 Z.1.g i (Ue.enc (bx Z.1 i).1),i:=cond (bx Z.1 i).2 (q0 Z.1.i i [.bool true]) Z.1.i},s (Z.2+(VC Z.1 i ew).2.2.2.2)))
def fo(h:z):Bool:=h.e.all (λr=>decide ((df r 3).length≤8000000)) && (decide (h.k.length≤4000000) && h.k.all (λr=>decide ((Gi r 6).length≤400000000000)))
def wN(h:z)(a:Int):Bool:=mD h && (Aa h && fo h)
def uf(h:z)(a:Int):z×Int:=cond (cond (!(zp h)) true (!(D a 1 1000))) (h,0) (kM (dj a) h.b.length 0 (h,0))
theorem nzK{l:u}{i:Nat}(h:i<l.length):q0 l i (q l i)=l:=by simp[q,tj,h]
theorem fU{l:u}{i j:Nat}(h:i≠j)(x:List DC):q (q0 l i x) j=q l j:=by simp only[q,tj,uY h]
theorem nfR(l:u)(m:v)(d:Int):∀(f:Nat) (q:CI) (p:G) (a:u) (n:Int) (D:Nat),(∀r∈a,(Gi r 6).length≤D)→
  (xa l m d f q p a n).2.1.d.length≤p.d.length+f∧(xa l m d f q p a n).2.2.1.length≤a.length+f∧∀r∈(xa l m d f q p a n).2.2.1,(Gi r 6).length≤D+400*f
 | 0,_,_,_,_,_,h=>⟨sS _,sS _,λr b=>r0 (h r b) (by omega)⟩
 | f+1,q,p,a,n,D,h=>by
  simp only[xa];cases (Sf l m d q).2.2
  ·exact⟨t3 _ _,t3 _ _,λr b=>r0 (h r b) (by omega)⟩
  ·have c:∀x:List DC,(Un p [x]).1.d.length≤p.d.length+1:=λx=>by
    unfold Un;cases (cond (!(PM p)) true (!(PM (⟨p.b,p.a,p.c,p.d++[x]⟩:G))))
    ·simp
    ·simp
   have e:(Bk l m d p (Sf l m d q).1 a).length≤a.length+1∧∀r∈Bk l m d p (Sf l m d q).1 a,(Gi r 6).length≤D+400:=by
    unfold Bk;cases (Z9 l m d p (Sf l m d q).1).2
    ·exact⟨Nat.le_succ _,λr b=>r0 (h r b) (by omega)⟩
    ·cases ((BT (Z9 l m d p (Sf l m d q).1).1).2==0)
     ·exact⟨Nat.le_succ _,λr b=>r0 (h r b) (by omega)⟩
     ·exact⟨ncV _ _,nGs h⟩
   obtain⟨i,j,g⟩:=nfR l m d f (Sf l m d q).2.1 (Un p [[.int (Sf l m d q).1.d]]).1 (Bk l m d p (Sf l m d q).1 a) (s (n+1)) (D+400) e.2;have:=c [.int (Sf l m d q).1.d];simp only[ra,J];exact⟨by omega,by omega,λr b=>r0 (g r b) (by omega)⟩
theorem noM(l:u)(m:v)(d:Int)(q:S)(p:G)(a:u)(b:Int)(Z:Nat)(h:∀r∈a,(Gi r 6).length≤Z):
  (sO l m d q p a b).1.a.length=m.a.length∧(sO l m d q p a b).2.2.1.d.length≤p.d.length+1000∧(sO l m d q p a b).2.2.2.1.length≤a.length+1000∧∀r∈(sO l m d q p a b).2.2.2.1,(Gi r 6).length≤Z+400000:=by
 unfold sO;cases e:(cond (!(TH q)) true (cond (!(PM p)) true (!(D b 0 1000))))
 ·have i:=YF.1 (Vk (Uk (Uk e).2).2);simp only[J,qD];obtain⟨j,k,f⟩:=nfR l m d b.toNat q.d p a 0 Z h;obtain⟨g,n⟩:=nrI l m d q.b (xa l m d b.toNat q.d p a 0).2.1;exact⟨g,by omega,by omega,λr c=>r0 (f r c) (by omega)⟩
 ·exact⟨rfl,t3 _ _,t3 _ _,λr c=>r0 (h r c) (by omega)⟩
def vk(h:z)(i:Nat)(o:z):Prop:=o= {h with h:=o.h,b:=o.b,e:=o.e,g:=o.g,i:=o.i,k:=o.k} ∧o.h.a.length=h.h.a.length∧o.b.length=h.b.length∧o.e.length=h.e.length∧o.g.length=h.g.length∧o.i.length=h.i.length∧ (∀j,i≤j→q o.b j=q h.b j∧q o.e j=q h.e j∧q o.g j=q h.g j∧q o.i j=q h.i j)∧(∀r∈o.e,(df r 3).length≤8000000+1000*i)∧o.k.length≤4000000+1000*i∧∀r∈o.k,(Gi r 6).length≤400000000000+400000*i
theorem ntC{h:z}(a:fo h=true):vk h 0 h:=by simp only[fo,Bl,tt,js] at a;exact⟨rfl,rfl,rfl,rfl,rfl,rfl,λ_ _=>⟨rfl,rfl,rfl,rfl⟩,a.1,a.2.1,a.2.2⟩
theorem nyV(l:u)(i B:Nat)(h:∀r∈l,(df r 3).length≤B):(G.nd (q l i) 0).d.length≤B:=by
 show (df (q l i) 3).length≤B;by_cases a:i<l.length
 ·exact h _ (nU a)
 ·rw[show q l i=[] by simp[q,tj,u0 (Nat.le_of_not_lt a)]];exact so _
theorem nsx{h:z}{a:Int}{i:Nat}{o:z}{t:Int}(y:vk h i o):vk h (i+1) (dj a i (o,t)).1:=by
 obtain⟨acJ,A,B,C,D,E,F,g,U,f⟩:=y;obtain⟨k,ahz,X,aen⟩:=noM o.j o.h 0 (S.nd (q o.b i) 0) (G.nd (q o.e i) 0) o.k a _ f;have Y:=nyV o.e i _ g;have m:∀(b:Bool) (x:List DC),(cond b (q0 o.i i x) o.i).length=o.i.length∧∀j,i+1≤j→q (cond b (q0 o.i i x) o.i) j=q o.i j:=λb x=>by
  cases b
  ·exact⟨rfl,λ_ _=>rfl⟩
  ·exact⟨tr ..,λj e=>fU (by omega) _⟩
 have c:∀(l:u) (x:List DC),(q0 l i x).length=l.length∧∀j,i+1≤j→q (q0 l i x) j=q l j:=λl x=>⟨tr ..,λj e=>fU (by omega) _⟩;have W:∀(M:v) (R P V L T:u),M.a.length=o.h.a.length→(R.length=o.b.length∧∀j,i+1≤j→q R j=q o.b j)→(P.length=o.e.length∧∀j,i+1≤j→q P j=q o.e j)→(V.length=o.g.length∧∀j,i+1≤j→q V j=q o.g j)→(L.length=o.i.length∧∀j,i+1≤j→q L j=q o.i j)→(∀r∈P,(df r 3).length≤8000000+1000*(i+1))→T.length≤4000000+1000*(i+1)→(∀r∈T,(Gi r 6).length≤400000000000+400000*(i+1))→
   vk h (i+1) {o with h:=M,b:=R,e:=P,g:=V,i:=L,k:=T} :=by
  intro M R P V L T H n p aa7 s I J K;refine⟨?_,H.trans A,n.1.trans B,p.1.trans C,aa7.1.trans D,s.1.trans E,λj e=>?_,I,J,K⟩
  ·have this:=congrArg (λx:z=>({x with h:=M,b:=R,e:=P,g:=V,i:=L,k:=T} :z)) acJ;exact this
  ·obtain⟨N,O,Q,ahw⟩:=F j (by omega);exact⟨(n.2 j e).trans N,(p.2 j e).trans O,(aa7.2 j e).trans Q,(s.2 j e).trans ahw⟩
 have Z:∀r∈q0 o.e i (G.enc (VC o i a).2.2.1),(df r 3).length≤8000000+1000*(i+1):=λr d=>by
  rcases na4 d with h | rfl
  ·exact r0 (g r h) (by omega)
  ·show (VC o i a).2.2.1.d.length≤_;unfold VC;omega
 have aby:(VC o i a).2.2.2.1.length≤4000000+1000*(i+1):=by unfold VC;omega
 have w:∀r∈(VC o i a).2.2.2.1,(Gi r 6).length≤400000000000+400000*(i+1):=λr d=>r0 (aen r d) (by omega);unfold dj;simp only[];cases (!(cond (bx o i).2 true (Dd (q o.i i) 0)))
 ·cases decide ((VC o i a).2.2.2.2<a)
  ·exact W _ _ _ _ _ _ k (c _ _) (c _ _) (c _ _) (m _ _) Z aby w
  ·exact W _ _ _ _ _ _ k (c _ _) (c _ _) (c _ _) (c _ _) Z aby w
 ·exact W o.h o.b o.e _ _ o.k rfl ⟨rfl,λ_ _=>rfl⟩ ⟨rfl,λ_ _=>rfl⟩ (c _ _) (m _ _) (λr d=>r0 (g r d) (by omega)) (by omega) (λr d=>r0 (f r d) (by omega))
theorem nez{h:z}(d:zp h=true)(s:mD h=true)(c:fo h=true){i:Nat}{o:z}(j:i<h.b.length)(e:vk h i o)(a:Int):∀(V P:u),aK (⟨(⟨o.h.a⟩:v),o.j,(⟨(⟨o.a.b.b,o.a.b.a,o.a.b.d,o.a.b.c⟩:I),(⟨o.a.a.b,o.a.a.a,o.a.a.c,o.a.a.d⟩:G),o.a.c,o.a.d⟩:Co),o.b,o.e,V,P,(⟨o.f.b,o.f.c,o.f.a⟩:QD),(⟨o.d.c,(⟨o.d.a.a⟩:mB),(⟨o.d.b.b,o.d.b.a⟩:iI)⟩:se),o.k,o.m,o.l,o.n,o.o,(⟨o.c.a,o.c.b,o.c.e,o.c.c,o.c.d⟩:Pa)⟩:z) (i:Int) a=true:=by
 intro V P;obtain⟨_,n2,k,l,m,n⟩:=NU d;obtain⟨p,Y,t,Z,X,w,f,x,y,b⟩:=e;simp only[mD,Bl] at s;have W:=R8 s.1;simp only[fo,Bl,tt,js] at c;have A:(G.nd (q o.e i) 0).d.length≤8000000:=by rw[(f i (sS _)).2.1];exact nyV h.e i _ c.1
 simp only[aK,b9,Bl,js,tt,eR,WO,Pw,len];exact⟨⟨by omega,Hd (show (i:Int)<(o.b.length:Int) by omega),Hd (show (i:Int)<(o.e.length:Int) by omega)⟩,by omega,by omega,by omega,λr g=>r0 (b r g) (by omega)⟩
theorem nlK{h:z}{ew:Int}(b:fo h=true):∃i,i≤2∧vk h i (uf h ew).1:=by
 unfold uf;cases c:(cond (!(zp h)) true (!(D ew 1 1000)))
 ·have:=(NU (Vk (Uk c).1)).2.1;have:∀(m i:Nat) (o:z×Int),vk h i o.1→vk h (i+m) (kM (dj ew) m i o).1:=by
   intro m
   induction m with
   | zero=>intro i o a;exact a
   | succ m d=>intro i ⟨o,t⟩ a;have:=d (i+1) (dj ew i (o,t)) (nsx (t:=t) a);rw[show i+(m+1)=i+1+m by omega];exact this
  exact⟨_,by omega,this h.b.length 0 (h,0) (ntC b)⟩
 ·exact⟨0,by omega,ntC b⟩
theorem npb(d:z→Int→α)(h:z)(a:Int)(e:Q z.ct h.enc)(D:wN h a=true):∃N,RB lf d N h a=d (uf h a).1 (uf h a).2:=by
 obtain⟨hl,M⟩:=Nh (z.nA9 e);have p:=(Nh (z.npk e)).2;have r:=(Nh (z.nni e)).2;have aaY:=(Nh (z.nBQ e)).2;simp only[wN,Bl] at D;obtain⟨acn,b,E⟩:=D;have s':=acn;simp only[mD,Bl] at s';have s0:=R8 s'.1;refine⟨h.b.length+1, ?_⟩;unfold RB Q4 uf;rw[show F h=h from rfl];refine rR (ZY acn) ?_;refine rR (by rw[b];exact Wi (λ_=>rfl) (λ_=>rfl)) ?_;refine U6 (K:=λacK:z×Int=>d acK.1 acK.2) (λ_=>rfl) (λO=>?_);obtain⟨agf,R⟩:=Uk O;have adE:=Vk agf;have ahx:=YF.1 (Vk R);obtain⟨_,n2,r1,r2,r3,r4⟩:=NU adE;have key:gC lf d (h.b.length+1) a (len h.b) (h.b.length+1) 0 0 h.a.b.b h.a.b.a h.a.b.d h.a.b.c h.a.a.b h.a.a.a h.a.a.c h.a.d h.f.b h.f.c h.d.b.b h.m h.c.a h.c.b h.c.e h.c.c h.c.d h.h.a h.j h.a.a.d h.a.c h.b h.e h.g h.i h.f.a h.d.c h.d.a.a h.d.b.a h.k h.l h.n h.o=(λacK:z×Int=>d acK.1 acK.2) (kM (dj a) h.b.length 0 (h,0)):=by
  refine je h.b.length (λn i (o:z×Int)=>gC lf d (h.b.length+1) a (len h.b) n o.2 i o.1.a.b.b o.1.a.b.a o.1.a.b.d o.1.a.b.c o.1.a.a.b o.1.a.a.a o.1.a.a.c o.1.a.d o.1.f.b o.1.f.c o.1.d.b.b o.1.m o.1.c.a o.1.c.b o.1.c.e o.1.c.c o.1.c.d o.1.h.a o.1.j o.1.a.a.d o.1.a.c o.1.b o.1.e o.1.g o.1.i o.1.f.a o.1.d.c o.1.d.a.a o.1.d.b.a o.1.k o.1.l o.1.n o.1.o) (dj a) (λacK:z×Int=>d acK.1 acK.2) (λi o=>vk h i o.1) ?_ ?_ ?_ (h.b.length+1) (h,0) (ntC E) (by omega)
  ·rintro i ⟨o,t⟩ m f
   exact nsx f
  ·rintro n i ⟨o,t⟩ m f
   replace f:vk h i o:=f;have j:=nez adE acn E m f a;obtain⟨aeo,m2,m3,m4,m5,m6,T,_,_,_⟩:=f;have adO:=congrArg z.j aeo;replace adO:o.j=h.j:=adO;obtain⟨U,W,X,Y⟩:=T i (sS _);have aey:i<o.b.length:=by omega
   have k:i<o.e.length:=by omega
   have g:i<o.g.length:=by omega
   have c:i<o.i.length:=by omega
   show gC lf d (h.b.length+1) a (len h.b) (n+1) t (i:Int) o.a.b.b o.a.b.a o.a.b.d o.a.b.c o.a.a.b o.a.a.a o.a.a.c o.a.d o.f.b o.f.c o.d.b.b o.m o.c.a o.c.b o.c.e o.c.c o.c.d o.h.a o.j o.a.a.d o.a.c o.b o.e o.g o.i o.f.a o.d.c o.d.a.a o.d.b.a o.k o.l o.n o.o=_;rw[nxL];have x:∀aa8:S,Sk (q o.b i) 0 (S.enc aa8)=S.enc aa8:=λaa8=>by rw[U];exact Fx ((congrArg tl (S.eta (M _ (nU m)))).symm.trans rfl)
   have y:∀aa8:G,Sk (q o.e i) 0 (G.enc aa8)=G.enc aa8:=λaa8=>by rw[W];exact Fx ((congrArg tl (G.eta (p _ (nU (show i<h.e.length by omega))))).symm.trans rfl)
   have A:∀aa8:Ue,Sk (q o.g i) 0 (Ue.enc aa8)=Ue.enc aa8:=λaa8=>by rw[X];exact Fx ((congrArg tl (Ue.eta (r _ (nU (show i<h.g.length by omega))))).symm.trans rfl)
   have B:∀abz w:Ue,Sk (Ue.enc abz) 0 (Ue.enc w)=Ue.enc w:=λ_ _=>rfl;have Z:∀abz:Ue,Ue.nd (Ue.enc abz) 0=abz:=λ_=>rfl;have l:∃b,q o.i i=[DC.bool b]:=⟨Dd (q h.i i) 0,by rw[Y];exact (npx (aaY _ (nU (show i<h.i.length by omega)))).symm⟩;obtain⟨aeL,l⟩:=l;have C:q0 o.i i [DC.bool aeL]=o.i:=by rw[←l];exact nzK c
   have w1:s ((i:Int)+1)=(i:Int)+1:=fg;have L:∀V P:u,jj (⟨(⟨o.h.a⟩:v),o.j,(⟨(⟨o.a.b.b,o.a.b.a,o.a.b.d,o.a.b.c⟩:I),(⟨o.a.a.b,o.a.a.a,o.a.a.c,o.a.a.d⟩:G),o.a.c,o.a.d⟩:Co),o.b,o.e,V,P,(⟨o.f.b,o.f.c,o.f.a⟩:QD),(⟨o.d.c,(⟨o.d.a.a⟩:mB),(⟨o.d.b.b,o.d.b.a⟩:iI)⟩:se),o.k,o.m,o.l,o.n,o.o,(⟨o.c.a,o.c.b,o.c.e,o.c.c,o.c.d⟩:Pa)⟩:z) (i:Int) a=VC o i a:=λV P=>rfl;simp only[jx,sg m,mZ aey,R7 aey,mZ k,R7 k,mZ g,R7 g,mZ c,R7 c,nx2,BA,eR,Nat.beq_refl,uI,x,y,A,w1,l,Z1,vb,Oi,cz,H,dj,bx,j,tv,L];cases hT:(jI (Ue.nd (q o.g i) 0)).2<;>cases aeL<;>simp only[C,O6 c,O6 g,List.set_set,mZ c,R7 c,nx2,BA,vb,cz,nBE,Z1,B,Z,l,j,tv,L,ra,ua,H,J,Oi]
   all_goals first
    | rfl
    | (cases decide ((VC o i a).2.2.2.2<a)<;>rfl)
  ·rintro n ⟨o,t⟩ f
   have aeo:=f.1;show gC lf d (h.b.length+1) a (len h.b) (n+1) t (h.b.length:Int) o.a.b.b o.a.b.a o.a.b.d o.a.b.c o.a.a.b o.a.a.a o.a.a.c o.a.d o.f.b o.f.c o.d.b.b o.m o.c.a o.c.b o.c.e o.c.c o.c.d o.h.a o.j o.a.a.d o.a.c o.b o.e o.g o.i o.f.a o.d.c o.d.a.a o.d.b.a o.k o.l o.n o.o=_;rw[nxL];simp only[jx,Ns,J]
 exact key
def nzw(b:x→Bool→α)(Z:x):α:=let c:Bool:=decide (s ((len Z) - 4)<0);let d:Bool:=t true (az Z (s ((len Z) - 4)));let a:x:=C1 Z (s ((len Z) - 4));cond (pk c true (t d (U a))) (cond (cond c true (!((Yl a)==Z))) (b [] false) (cond d (b a true) lf)) lf
def SQ(s:x):Bool:=decide (s.length≤1000000000)
def lr(s:x):x×Bool:=cond (cond (len s<4) true (!((Yl (C1 s (len s - 4)))==s))) ([],false) (C1 s (len s - 4),true)
theorem no0(a:x→Bool→α)(Z:x)(c:SQ Z=true):nzw lf a Z=a (lr Z).1 (lr Z).2:=by
 have g:Z.length≤1000000000:=of_decide_eq_true c;have d:s (len Z - 4)=len Z - 4:=fg (by simp only[len];omega) (by simp only[len];omega);have i:(C1 Z (len Z - 4)).length≤Z.length:=by unfold C1;rw[sI,r8];omega
 have e:U (C1 Z (len Z - 4))=true:=Hd (by omega);unfold nzw lr;dsimp only;rw[d];rw[show decide (len Z - 4<0)=decide (len Z<4) from decide_eq_decide.2 (by omega)];rw[e];by_cases b:len Z<4
 ·rw[Hd b];refine rR (Wi (λ_=>rfl) (λh=>by cases h)) rfl
 ·have f:az Z (len Z - 4)=true:=by simp only[len] at b;simp only[az,Bl,js];simp only[len];omega
  rw[ja b,f];refine rR rfl ?_;exact U6 (K:=λr:x×Bool=>a r.1 r.2) (λ_=>rfl) (λ_=>rR rfl rfl)
def hfP(b:x→Bool→α)(Z:x):α:=let c:Bool:=t true (az Z (s ((len Z) - 4)));let a:x:=C1 Z (s ((len Z) - 4));cond (pk (decide (len Z<4)) true (t c (U a))) (cond (cond (len Z<4) true (!((Yl a)==Z))) (b [] false) (cond c (b a true) lf)) lf
theorem nxt(a:x→Bool→α)(Z:x)(c:SQ Z=true):hfP lf a Z=a (lr Z).1 (lr Z).2:=by
 have g:Z.length≤1000000000:=of_decide_eq_true c;have d:s (len Z - 4)=len Z - 4:=fg (by simp only[len];omega) (by simp only[len];omega);have i:(C1 Z (len Z - 4)).length≤Z.length:=by unfold C1;rw[sI,r8];omega
 have e:U (C1 Z (len Z - 4))=true:=Hd (by omega);unfold hfP lr;dsimp only;rw[d];rw[e];by_cases b:len Z<4
 ·rw[Hd b];refine rR (Wi (λ_=>rfl) (λh=>by cases h)) rfl
 ·have f:az Z (len Z - 4)=true:=by simp only[len] at b;simp only[az,Bl,js];simp only[len];omega
  rw[ja b,f];refine rR rfl ?_;exact U6 (K:=λr:x×Bool=>a r.1 r.2) (λ_=>rfl) (λ_=>rR rfl rfl)
def nbD(b:Bool→α)(f:QD)(p:N):α:=let a:Bool:=cond (p.e==(-1)) true (wc f.a p.e);b (cond (pY f) (cond (p.h==f.b) a (cond (p.h==281474976710655) a (cond f.c a false))) false)
def lj(f:QD)(p:N):Bool:=nbD id f p
theorem nBY(a:Bool→α)(f:QD)(p:N):nbD a f p=a (lj f p):=by rfl
def nqG(e:Bool→α)(a b c:Int):α:=let d:Bool:=decide (0≤s (32 - c));cond (t (t true d) d) (e ((I4 .i64 a (s (32 - c)))==(I4 .i64 b (s (32 - c))))) lf
def YR(a b c:Int):Bool:=decide (0≤s (32 - c))
def Ax(a b c:Int):Bool:=(I4 .i64 a (s (32 - c)))==(I4 .i64 b (s (32 - c)))
theorem nx0(d:Bool→α)(a b c:Int)(e:YR a b c=true):nqG lf d a b c=d (Ax a b c):=by have f:decide (0≤s (32 - c))=true:=e;unfold nqG;dsimp only;rw[f];rfl
def nEA(r:ao)(p:N):Bool:=cond (cond (r.c==0) true (r.c==p.a.c)) (cond (Ax r.b p.b r.a) (cond (D p.a.e r.g r.h) (cond (r.e==(-2)) true (r.e==p.e)) false) false) false
def njr(c:Bool→α)(a b:N):α:=c (cond (a.h==b.h) (cond (a.i==b.i) (cond (a.e==b.e) (cond (a.f==b.f) (cond (a.g==a.g) (cond (a.c==b.c) (cond (a.b==b.b) (cond (a.d==b.d) (cond (cond (a.a.c==b.a.c) (cond (a.a.f==b.a.f) (cond (a.a.e==b.a.e) (cond (a.a.d==a.a.d) (cond (a.a.g==b.a.g) (cond (a.a.b==a.a.b) (cond (a.a.h==b.a.h) (cond (a.a.a==a.a.a) true false) false) false) false) false) false) false) false) true false) false) false) false) false) false) false) false) false)
def xp(a b:N):Bool:=njr id a b
theorem nzf(c:Bool→α)(a b:N):njr c a b=c (xp a b):=by rfl
def nep(a:QI→α)(p:N):α:=a (⟨p,len p.a.a,1⟩:QI)
def iU(p:N):QI:=nep id p
theorem nEg(a:QI→α)(p:N):nep a p=a (iU p):=by rfl
def nzE(a:Int→α)(s:iI)(f:Ve):α:=cond (cond ((len s.a)==0) true (decide (NK s.b f<0))) (a (-1)) (cond (t true (!((len s.a)==0))) (a (q5 (NK s.b f) (len s.a))) lf)
def AK(s:iI)(f:Ve):Int:=cond (cond ((len s.a)==0) true (decide (NK s.b f<0))) (-1) (q5 (NK s.b f) (len s.a))
theorem nyj(a:Int→α)(s:iI)(f:Ve):nzE lf a s f=a (AK s f):=by unfold nzE AK;refine U6 (λ_=>rfl) (λb=>?_);exact rR (by rw[(Uk b).1];rfl) rfl
end
end Go.Proofs.YteffpikahopfoaaGreat.Pl
