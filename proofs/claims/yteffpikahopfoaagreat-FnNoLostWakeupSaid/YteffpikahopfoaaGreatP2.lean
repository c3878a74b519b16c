/- Conditions: as each says. -/
import Derived.Test.YteffpikahopfoaaGreatP1
import Derived.Test.YteffpikahopfoaaGreatP0
import Derived.Test.YteffpikahopfoaaGreatBit
set_option linter.unusedVariables false
set_option linter.unusedSimpArgs false
set_option maxRecDepth 100000
open Int renaming toNat→u1,tmod→u3,tdiv→vK,le_refl→vP,emod_nonneg→vQ,tmod_eq_emod_of_nonneg→vR,tmod_lt_of_pos→wb,mul_le_mul→we,emod_lt_of_pos→wv,toNat_of_nonneg→xY
open List renaming set→u2,length_set→vo,length_nil→vF,all_eq_true→vG,append_assoc→vJ,getD_eq_getElem?_getD→vL,replicate→vU,Sublist→v3,map_cons→v9,mem_append→v_,mem_singleton→wa,mem_cons→wB,nodup_cons→wP,mem_map→w2,length_replicate→w3,cons_append→w8,all_cons→w9,append_nil→xb,sublist_append_left→xc,length_take→xd,getElem?_take_of_lt→xe,getElem?_drop→xf,nil_append→xI,getElem?_append_left→xJ,drop_eq_nil_of_le→x4,drop_eq_getElem_cons→x5,mem_of_mem_drop→x6,take_append_drop→ym,getElem?_append→y1,getElem?_eq_none→y3
open Bool renaming not_true→va,and_self→vM,not_false→vT,eq_false_iff→x3
open Nat renaming zero_add→vH,zero_le→vI,le_refl→vN,not_lt_zero→vO,le_trans→xK,zero_lt_one→x1,lt_or_gt_of_ne→y4
open BitVec renaming ofInt→vS
namespace Go.Proofs.YteffpikahopfoaaGreat.Pl
open Vm
noncomputable section
variable {α:Type} (lf:α)
def nF9(a:N→Int→α)(s:x):α:=let b:N:=(⟨0,0,0,0,0,0,0,0,(⟨0,0,0,0,0,0,0,[]⟩:EP)⟩:N);cond (t true (SQ s)) (cond (!((lr s).2)) (a b 1) (cond (((BT ((lr s).1)).2) != 0) (a b ((BT ((lr s).1)).2)) (cond (!(Dc ((BT ((lr s).1)).1))) (a b 5) (a ((BT ((lr s).1)).1) 0)))) lf
def QQ:N:=⟨0,0,0,0,0,0,0,0,⟨0,0,0,0,0,0,0,[]⟩⟩
def aA(s:x):N×Int:=cond (!(lr s).2) (QQ,1) (cond ((BT (lr s).1).2 != 0) (QQ,(BT (lr s).1).2) (cond (!(Dc (BT (lr s).1).1)) (QQ,5) ((BT (lr s).1).1,0)))
theorem njJ(a:N→Int→α)(s:x)(b:SQ s=true):nF9 lf a s=a (aA s).1 (aA s).2:=by have c:SQ s=true:=b;unfold nF9 aA;refine rR (ZY c) ?_;refine U6 (K:=λr:N×Int=>a r.1 r.2) (λ_=>rfl) (λ_=>?_);refine U6 (K:=λr:N×Int=>a r.1 r.2) (λ_=>rfl) (λ_=>?_);exact U6 (K:=λr:N×Int=>a r.1 r.2) (λ_=>rfl) (λ_=>rfl)
def noQ(g:Bool→α)(r:ao)(p:N):α:=let b:Bool:=Ax r.b p.b r.a;let c:Bool:=D p.a.e r.g r.h;let a:Bool:=t true (YR r.b p.b r.a);let d:Bool:=pk b (pk c (pk (r.e==(-2)) a a) a) a;let e:Bool:=r.c==p.a.c;let f:Bool:=cond b (cond c (cond (r.e==(-2)) true (r.e==p.e)) false) false;cond (pk (dG r) (pk (Tp p) (pk (r.c==0) d (pk e d true)) true) true) (g (cond (dG r) (cond (Tp p) (cond (r.c==0) f (cond e f false)) false) false)) lf
theorem nkZ{r:ao}(h:dG r=true)(d:(r.f==1)=false):0≤r.d:=by
 cases c:D r.d 0 3
 ·unfold dG qH at h;simp only[id,d,c,J] at h;revert h;generalize (cond (!(D r.i 0 1000)) true (cond (r.c != 0) (cond (r.c != 6) (cond (r.c != 17) true (cond (!(D r.b 0 4294967295)) true (!(D r.a 0 32)))) (cond (!(D r.b 0 4294967295)) true (!(D r.a 0 32)))) (cond (!(D r.b 0 4294967295)) true (!(D r.a 0 32)))))=a;generalize (cond (r.g<0) true (cond (r.h<r.g) true (cond (65535<r.h) true (!(D r.e (-2) 4095)))))=b;cases a<;>cases b<;>cases (r.f==0)<;>simp
 ·exact (YF.1 c).1
def xh(r:ao)(p:N):Bool:=cond (dG r) (cond (Tp p) (nEA r p) false) false
theorem nEY{r:ao}(h:dG r=true):0≤s (32 - r.a):=by
 cases a:D r.a 0 32
 ·unfold dG qH at h;simp only[id,a,vT] at h;revert h;cases D r.i 0 1000<;>cases (r.c != 0)<;>cases (r.c != 6)<;>cases (r.c != 17)<;>cases D r.b 0 4294967295<;>simp
 ·have:=YF.1 a;rw[fg];omega
theorem nzX(a:Bool→α)(r:ao)(p:N):noQ lf a r p=a (xh r p):=by
 unfold noQ xh nEA;dsimp only;cases b:dG r
 ·exact rR (Wi (λh=>by cases h) (λ_=>rfl)) rfl
 cases Tp p
 ·exact rR (Wi (λ_=>Wi (λh=>by cases h) (λ_=>rfl)) (λ_=>rfl)) rfl
 have c:YR r.b p.b r.a=true:=Hd (nEY b);simp only[c,Oi,vb,H];cases r.c==0<;>cases r.c==p.a.c<;>rfl
def Wb(e:Int→α)(list_ W:u)(f g h i j k l m n o p Y X V U Z:Int)(c:x)(v:Int→Int→α)(a b:Int):α:=let d:Bool:=xh (ao.nd (q W (u1 b)) 0) (⟨g,h,i,j,k,l,m,n,(⟨o,p,Y,X,V,U,Z,c⟩:EP)⟩:N);cond (b<f) (cond (t true (A b W)) (cond (pk d (pk (decide (a<0)) true (t true (A a list_))) true) (v (cond (cond d (cond (a<0) true (decide (r (q W (u1 b)) 0<r (q list_ (u1 a)) 0))) false) b a) (s (b+1))) lf) lf) (e a)
def SF(b:Int→α)(N:Nat)(list_ Z:u)(c d e f g h i j k l m n o p q r:Int)(a:x)(s:Nat):Int→Int→α:=bW (λ_ _=>lf) (Wb lf b list_ Z c d e f g h i j k l m n o p q r a) s
theorem nol(b:Int→α)(N:Nat)(list_ Z:u)(c d e f g h i j k l m n o p q r:Int)(a:x)(s:Nat):SF lf b N list_ Z c d e f g h i j k l m n o p q r a (s+1)=Wb lf b list_ Z c d e f g h i j k l m n o p q r a (SF lf b N list_ Z c d e f g h i j k l m n o p q r a s):=rfl
def vf(lf:α)(a:Int→α)(b:u→Int→Int→Int→Int→Int→Int→Int→Int→Int→Int→Int→Int→Int→Int→Int→Int→x→Int→Int→α)(list_:u)(p:N):α:=cond (!(vz list_)) (a (-1)) (b list_ (len list_) p.h p.i p.e p.f p.g p.c p.b p.d p.a.c p.a.f p.a.e p.a.d p.a.g p.a.b p.a.h p.a.a (-1) 0)
def nke(b:Int→α)(Z:Nat)(list_:u)(p:N):α:=vf lf b (λx c d e f g h i j k l m n o q r s a=>SF lf b Z list_ x c d e f g h i j k l m n o q r s a Z) list_ p
def Qq(list_:u)(p:N)(i:Nat)(b:Int):Int:=cond (cond (xh (ao.nd (q list_ i) 0) p) (cond (b<0) true (decide (r (q list_ i) 0<r (q list_ (u1 b)) 0))) false) (i:Int) b
def QP(i:Nat)(b:Int):Prop:=b= -1∨(0≤b∧b<(i:Int))
theorem nkH{list_:u}{p:N}{i:Nat}{b:Int}(h:QP i b):QP (i+1) (Qq list_ p i b):=by
 unfold Qq;cases (cond (xh (ao.nd (q list_ i) 0) p) (cond (b<0) true (decide (r (q list_ i) 0<r (q list_ (u1 b)) 0))) false)
 ·rcases h with h | ⟨a,c⟩
  ·exact .inl h
  ·exact .inr ⟨a,by simp only[J];omega⟩
 ·exact .inr ⟨by simp only[H];omega,by simp only[H];omega⟩
def I2(list_:u)(p:N):Int:=cond (!(vz list_)) (-1) (kM (Qq list_ p) list_.length 0 (-1))
theorem ny0(list_:u)(p:N):QP list_.length (I2 list_ p):=by
 unfold I2;cases (!(vz list_))
 ·have:∀(m i:Nat) (b:Int),QP i b→QP (i+m) (kM (Qq list_ p) m i b):=by
   intro m
   induction m with
   | zero=>intro i b h;exact h
   | succ m a=>intro i b h;have:=a (i+1) _ (nkH (list_:=list_) (p:=p) h);rw[show i+(m+1)=i+1+m by omega];exact this
  have:=this list_.length 0 (-1) (.inl rfl);rw[vH] at this;exact this
 ·exact .inl rfl
theorem nnX(a:Int→α)(list_:u)(p:N)(f:IJ (.sl uz) (.sl list_)):∃Z,nke lf a Z list_ p=a (I2 list_ p):=by
 obtain⟨g,_⟩:=Nh f;refine⟨list_.length+1, ?_⟩;unfold nke vf I2;dsimp only;refine U6 (λ_=>rfl) (λ_=>?_);refine je list_.length (λn i b=>SF lf a (list_.length+1) list_ list_ (len list_) p.h p.i p.e p.f p.g p.c p.b p.d p.a.c p.a.f p.a.e p.a.d p.a.g p.a.b p.a.h p.a.a n b i) (Qq list_ p) a QP ?_ ?_ ?_ (list_.length+1) (-1) (.inl rfl) (by omega)
 ·intro i b c d;exact nkH d
 ·intro n i b c d;show SF lf a (list_.length+1) list_ list_ (len list_) p.h p.i p.e p.f p.g p.c p.b p.d p.a.c p.a.f p.a.e p.a.d p.a.g p.a.b p.a.h p.a.a (n+1) b (i:Int)=_;rw[nol];have j:(⟨p.h,p.i,p.e,p.f,p.g,p.c,p.b,p.d,⟨p.a.c,p.a.f,p.a.e,p.a.d,p.a.g,p.a.b,p.a.h,p.a.a⟩⟩:N)=p:=rfl;have e:pk (decide (b<0)) true (A b list_)=true:=Wi (λ_=>rfl) (λh=>by
   have h:=of_decide_eq_false h;rcases d with rfl | ⟨l,m⟩
   ·omega
   ·simp only[A,Bl,js];omega)
  have k:∀z:Bool,pk z (pk (decide (b<0)) true (A b list_)) true=true:=λz=>Wi (λ_=>e) (λ_=>rfl);simp only[Wb,j,sg c,mZ c,k,e,vb,jy c g,eR,Oi,cz,H];rfl
 ·intro n b d;show SF lf a (list_.length+1) list_ list_ (len list_) p.h p.i p.e p.f p.g p.c p.b p.d p.a.c p.a.f p.a.e p.a.d p.a.g p.a.b p.a.h p.a.a (n+1) b (list_.length:Int)=_;rw[nol];simp only[Wb,Ns,J]
def njz(a:Int→α)(t:mB)(f:Ve):α:=cond (!(Fo t)) (a (-1)) (a (aJ t f))
def lK(t:mB)(f:Ve):Int:=cond (!(Fo t)) (-1) (aJ t f)
theorem nBw(t:mB)(f:Ve):lK t f= -1∨∃i:Nat,i<t.a.length∧lK t f=(i:Int):=by
 unfold lK;cases (!(Fo t))
 ·rcases xP (λ_ r=>tP r f) t.a 0 with ⟨e,_⟩ | ⟨i,a,e,_⟩
  ·exact .inl e
  ·rw[vH] at e;exact .inr ⟨i,a,e⟩
 ·exact .inl rfl
theorem nfW(a:Int→α)(t:mB)(f:Ve):njz a t f=a (lK t f):=by unfold njz lK;exact U6 (λ_=>rfl) (λ_=>rfl)
def fsB(a:Int→α)(s:iI)(b:Int)(f:Ve):α:=cond (cond (!(Dv s b)) true (decide (AK s f<0))) (a (-1)) (cond (t true (A (AK s f) s.a)) (a (r (q s.a (u1 (AK s f))) 0)) lf)
theorem nvH{s:iI}{f:Ve}(h:¬AK s f<0):AK s f<len s.a:=by
 unfold AK at h ⊢;cases b:(cond ((len s.a)==0) true (decide (NK s.b f<0)))
 ·obtain⟨a,c⟩:=Uk b;have a:len s.a≠0:=by simpa using a
  have c:=of_decide_eq_false c;simp only[J];exact wb _ (by simp only[len] at a ⊢;omega)
 ·rw[b] at h;exact absurd (show (-1:Int)<0 by decide) h
def lL(s:iI)(a:Int)(f:Ve):Int:=cond (cond (!(Dv s a)) true (decide (AK s f<0))) (-1) (r (q s.a (u1 (AK s f))) 0)
theorem nsY(a:Int→α)(s:iI)(b:Int)(f:Ve):fsB lf a s b f=a (lL s b f):=by unfold fsB lL;refine U6 (λ_=>rfl) (λc=>?_);refine rR (ZY ?_) rfl;have d:=of_decide_eq_false (Uk c).2;have e:=nvH d;simp only[A,Bl,js];simp only[len] at e;omega
def nr5(a:Int→α)(s:se)(b:Int)(p:N):α:=let c:Bool:=t true (A (I2 s.c p) s.c);let d:List DC:=q s.c (u1 (I2 s.c p));cond (cond (!(DA s b)) true (!(Tp p))) (a (-1)) (cond (0≤I2 s.c p) (cond c (cond ((r d 7)==1) (a (-1)) (cond c (a (r d 8)) lf)) lf) (cond (0≤lK s.a (Ng p)) (cond (t true (A (lK s.a (Ng p)) s.a.a)) (a (r (q s.a.a (u1 (lK s.a (Ng p)))) 6)) lf) (a (lL s.b b (Ng p)))))
def Sp(s:se)(a:Int)(p:N):Int:=cond (cond (!(DA s a)) true (!(Tp p))) (-1) (cond (0≤I2 s.c p) (cond ((r (q s.c (u1 (I2 s.c p))) 7)==1) (-1) (r (q s.c (u1 (I2 s.c p))) 8)) (cond (0≤lK s.a (Ng p)) (r (q s.a.a (u1 (lK s.a (Ng p)))) 6) (lL s.b a (Ng p))))
theorem ya(s:se)(c:Int)(p:N):Sp s c p= -1∨(0≤Sp s c p∧Sp s c p<c):=by
 unfold Sp;cases v:(cond (!(DA s c)) true (!(Tp p)))
 case true=>exact .inl rfl
 have d:=Vk (Uk v).1;unfold DA at d;cases n:(cond (!(vz s.c)) true (cond (!(Fo s.a)) true (!(Dv s.b c))))
 case true=>rw[n] at d;cases d
 rw[n,J] at d;obtain⟨w,f,X⟩:=ngM n;cases h:s.c.all (λY=> !(decide (c≤r Y 8)))
 case false=>rw[h] at d;cases d
 rw[h,H] at d;have h:=vG.1 h;have x:=vG.1 d;simp only[J];by_cases l:0≤I2 s.c p
 ·rw[Hd l,H];rcases ny0 s.c p with g | ⟨_,g⟩
  ·omega
  generalize I2 s.c p=b at l g;obtain⟨i,rfl⟩:=Int.eq_ofNat_of_zero_le l;rw[eR];have j:i<s.c.length:=by omega
  have y:=w _ (nU j);have k:=h _ (nU j);have k:¬c≤r (q s.c i) 8:=by simpa using k
  cases z:(r (q s.c i) 7)==1
  ·refine .inr ⟨?_,by simp only[J];omega⟩;simp only[J];exact nkZ y z
  ·exact .inl rfl
 ·rw[ja l,J];rcases nBw s.a (Ng p) with g | ⟨i,j,g⟩
  ·rw[g,show decide ((0:Int)≤ -1)=false from rfl,J];unfold lL;cases A:(cond (!(Dv s.b c)) true (decide (AK s.b (Ng p)<0)))
   case true=>exact .inl rfl
   obtain⟨e,o⟩:=Uk A;have o:=of_decide_eq_false o;have B:=nvH o;have e:=Vk e;unfold Dv at e;cases Z:(cond (!(D c 1 4)) true (cond ((len s.b.b) != 16) true (!(Xv (len s.b.a)))))
   case true=>rw[Z] at e;cases e
   rw[Z,J] at e;have C:=YF.1 (Vk (Uk Z).1);simp only[len] at B;have m:=vG.1 e _ (nU (a:=s.b.a) (i:=u1 (AK s.b (Ng p))) (by omega));have m:=YF.1 m;rw[fg] at m;exact .inr ⟨m.1,by simp only[J];omega⟩
  ·rw[g];rw[Hd (show (0:Int)≤(i:Int) by omega),H,eR];have k:=x _ (nU j);have k:¬c≤r (q s.a.a i) 6:=by simpa using k
   refine .inr ⟨?_,by omega⟩;unfold Fo at f;cases t:(len s.a.a) != 8
   case true=>rw[t] at f;cases f
   rw[t,J] at f;cases u:RP (iu s.a.a) s.a.a 0
   case true=>rw[u] at f;cases f
   have:=YE u i j;rw[vH] at this;unfold iu at this;have:=(Uk this).1;unfold dE at this;exact (YF.1 (Vk (Uk this).2)).1
theorem nCp(c:Int→α)(s:se)(d:Int)(p:N):nr5 lf c s d p=c (Sp s d p):=by
 unfold nr5 Sp;dsimp only;refine U6 (λ_=>rfl) (λg=>?_);have b:=ny0 s.c p;have a:=nBw s.a (Ng p);refine U6 (λh=>?_) (λ_=>?_)
 ·have h:=of_decide_eq_true h;have e:A (I2 s.c p) s.c=true:=by
   rcases b with b | ⟨b,a⟩
   ·omega
   ·simp only[A,Bl,js];omega
  refine rR (ZY e) ?_;exact U6 (λ_=>rfl) (λ_=>rR (ZY e) rfl)
 ·refine U6 (λh=>?_) (λ_=>rfl);have h:=of_decide_eq_true h;rcases a with a | ⟨i,f,a⟩
  ·omega
  ·refine rR (ZY ?_) rfl;rw[a];exact mZ f
def nlD(a:Bool→α)(Z:QI)(p:N):α:=let b:Bool:= !(D Z.c 1 320);let c:Bool:=(u3 (len Z.b.a.a) Z.c) != 0;let d:Bool:=t true (!(Z.c==0));cond (cond (!(Tp Z.b)) true (cond (!(Dc p)) true (cond (!(xp Z.b p)) true (cond (p.a.c != 6) true (cond (Z.b.a.b != 16) true (!(HL p.a.b))))))) (a false) (cond (pk (decide (Z.a<1)) true (pk b true (pk c d (t d (!(Z.c==0)))))) (cond (cond (Z.a<1) true (cond b true (cond c true ((s (vK (len Z.b.a.a) Z.c)) != Z.a)))) (a false) (a (cond (D (len p.a.a) 1 Z.a) (cond (s ((len Z.b.a.a)+(len p.a.a))≤320) (cond (p.a.d==(u3 (s (Z.b.a.d+(len Z.b.a.a))) 4294967296)) (p.g==(u3 (s (Z.b.g+Z.c)) 65536)) false) false) false))) lf)
theorem pO{p:N}(h:Tp p=true):p.a.a.length≤320:=by
 have a:B5 p.a=true:=by unfold Tp yU at h;revert h;cases D p.h 0 281474976710655<;>cases D p.i 0 281474976710655<;>cases D p.e (-1) 4095<;>cases D p.f 0 255<;>cases D p.c 0 255<;>cases D p.g 0 65535<;>cases D p.b 0 4294967295<;>cases D p.d 0 4294967295<;>cases B5 p.a<;>simp
 exact D3 a
def jH(s:QI)(p:N):Bool:=cond (!(Tp s.b)) true (cond (!(Dc p)) true (cond (!(xp s.b p)) true (cond (p.a.c != 6) true (cond (s.b.a.b != 16) true (!(HL p.a.b))))))
def nnp(Z:QI)(p:N):Bool:=cond (p.a.d==(u3 (s (Z.b.a.d+(len Z.b.a.a))) 4294967296)) (p.g==(u3 (s (Z.b.g+Z.c)) 65536)) false
def nZ(n c z m:Int):Bool:=cond (!(D z 1 320)) true (cond (!(D c 1 320)) true (cond (n != s (z*c)) true (cond (!(D m 1 z)) true (decide (320<s (n+m))))))
def U5(s:QI)(p:N):Bool:=cond (jH s p) false (cond (nZ (len s.b.a.a) s.c s.a (len p.a.a)) false (nnp s p))
theorem nzN{n c z:Int}(a:0≤n)(n1:n≤320)(c0:1≤c)(b:1≤z)(h:n=z*c):z≤320∧u3 n c=0∧vK n c=z:=by
 have d:z≤n:=by have:=Int.mul_le_mul_of_nonneg_left c0 (show 0≤z by omega);rw[Int.mul_one] at this;omega
 refine⟨by omega, ?_, ?_⟩
 ·rw[h];exact Int.mul_tmod_left z c
 ·rw[h];exact Int.mul_tdiv_cancel z (by omega)
theorem ndf{n c z m:Int}{X:Bool}(d:0≤n)(n1:n≤320):(cond (cond (z<1) true (cond (!(D c 1 320)) true (cond ((u3 n c) != 0) true ((s (vK n c)) != z)))) false (cond (D m 1 z) (cond (s (n+m)≤320) X false) false))=(cond (nZ n c z m) false X):=by
 have j:decide (320<s (n+m))= !(decide (s (n+m)≤320)):=by
  by_cases h:320<s (n+m)
  ·rw[Hd h,ja (by omega)];rfl
  ·rw[ja h,Hd (by omega)];rfl
 unfold nZ;rw[j];by_cases g:z<1
 ·rw[Hd g,show D z 1 320=false from x3.2 (λh=>by have:=YF.1 h;omega)];rfl
 rw[ja g,J];cases e:D c 1 320
 ·cases D z 1 320<;>rfl
 have e:=YF.1 e;by_cases h:n=z*c
 ·obtain⟨a,b,f⟩:=nzN d n1 e.1 (by omega) h;rw[show D z 1 320=true from YF.2 ⟨by omega,a⟩,b,f,←h,fg (n:=n),fg (n:=z)];simp only[bne_self_eq_false,va,J];cases D m 1 z<;>cases decide (s (n+m)≤320)<;>rfl
 ·have k:(cond ((u3 n c) != 0) true ((s (vK n c)) != z))=true:=by
   cases a:(u3 n c) != 0
   ·have a:u3 n c=0:=by simpa using a
    cases b:(s (vK n c)) != z
    ·have b:s (vK n c)=z:=by simpa using b
     have f:0≤vK n c:=Int.tdiv_nonneg d (by omega);have o:vK n c≤n:=by rw[Int.tdiv_eq_ediv_of_nonneg d];exact Int.ediv_le_self c d
     rw[fg] at b;have i:=Int.mul_tdiv_add_tmod n c;rw[a,b,Int.add_zero,Int.mul_comm] at i;exact absurd i.symm h
    ·rfl
   ·rfl
  have l:D z 1 320=true→(n != s (z*c))=true:=λa=>by have a:=YF.1 a;have b:z*c≤320*320:=we a.2 e.2 (by omega) (by omega);have f:0≤z*c:=Int.mul_nonneg (by omega) (by omega);rw[fg];simpa using h
  simp only[va,J,k,H];cases a:D z 1 320
  ·rfl
  ·rw[l a];rfl
theorem nwD{p:N}(h:Tp p=true):0≤len p.a.a∧len p.a.a≤320:=by have:=pO h;simp only[len];omega
theorem nn2(a:Bool→α)(s:QI)(p:N):nlD lf a s p=a (U5 s p):=by
 unfold nlD U5
 try dsimp only
 rw[show (cond (!(Tp s.b)) true (cond (!(Dc p)) true (cond (!(xp s.b p)) true (cond (p.a.c != 6) true (cond (s.b.a.b != 16) true (!(HL p.a.b)))))))=jH s p from rfl];refine U6 (λ_=>rfl) (λd=>?_);have b:=nwD (Vk (Uk d).1);have e:pk (!(D s.c 1 320)) true (pk ((u3 (len s.b.a.a) s.c) != 0) (t true (!(s.c==0))) (t (t true (!(s.c==0))) (!(s.c==0))))=true:=by
  refine Wi (λ_=>rfl) (λh=>?_);have h:=YF.1 (Vk h);have f:(!(s.c==0))=true:=by simp;omega
  rw[f];exact Wi (λ_=>rfl) (λ_=>rfl)
 refine rR (Wi (λ_=>rfl) (λ_=>e)) ?_;rw[←ndf (n:=len s.b.a.a) (c:=s.c) (z:=s.a) (m:=len p.a.a) (X:=nnp s p) b.1 b.2];exact U6 (λ_=>rfl) (λ_=>rfl)
def npF(a:QI→α)(Z:QI)(p:N):α:=cond (!(U5 Z p)) (a Z) (cond (t true (EI Z.b.a.a p.a.a)) (a (⟨(⟨Z.b.h,Z.b.i,Z.b.e,Z.b.f,Z.b.g,Z.b.c,Z.b.b,Z.b.d,(⟨Z.b.a.c,Z.b.a.f,Z.b.a.e,Z.b.a.d,Z.b.a.g,p.a.b,Z.b.a.h,Z.b.a.a++p.a.a⟩:EP)⟩:N),Z.a,s (Z.c+1)⟩:QI)) lf)
def jd(Z:QI)(p:N):QI:=cond (!(U5 Z p)) Z ({Z with b:= {Z.b with a:= {Z.b.a with b:=p.a.b,a:=Z.b.a.a++p.a.a} },c:=s (Z.c+1)})
theorem nb2(d:QI→α)(s:QI)(p:N):npF lf d s p=d (jd s p):=by
 unfold npF jd;refine U6 (λ_=>rfl) (λf=>?_);have b:=Vk f;unfold U5 at b;cases a:jH s p
 case true=>rw[a] at b;cases b
 unfold jH at a;obtain⟨e,a⟩:=Uk a;have e:=pO (Vk e);have h:p.a.a.length≤320:=pO (by
  have c:=Vk (Uk a).1;unfold Dc sH at c;cases g:Tp p
  ·rw[g] at c;cases c
  ·rfl)
 exact rR (ZY (Hd (by omega))) rfl
def nmW(c:v→S→α)(list_:u)(m:v)(a:Int)(q:S)(key:x)(p:N)(e:Bool):α:=let b:v×S:=Wd list_ m a q key;let d:S:=(⟨b.2.b,b.2.c,b.2.d,iU p,true,b.2.e⟩:S);let f:v×S:=Wd list_ b.1 a d key;cond (cond (!(TH q)) true (cond (!(Dc p)) true ((len key) != 16))) (cond (t true (WO m)) (c (F m) q) lf) (cond (cond e (cond q.f (U5 q.a p) false) false) (cond (t true (WO m)) (c (F m) (⟨q.b,q.c,q.d,jd q.a p,q.f,q.e⟩:S)) lf) (cond (t true (aX list_ m a q key)) (cond (!e) (cond (t true (aX list_ b.1 a d key)) (c f.1 f.2) lf) (c b.1 d)) lf))
def E_(z:v×S)(p:N):S:=⟨z.2.b,z.2.c,z.2.d,iU p,true,z.2.e⟩
def gu{α β b c:Type}(list_:u)(m:v)(a:Int)(q:α)(key:β)(p:b)(d:c):Bool:=WO m
def mY(list_:u)(m:v)(a:Int)(q:S)(key:x)(p:N)(b:Bool):v×S:=cond (cond (!(TH q)) true (cond (!(Dc p)) true ((len key) != 16))) (m,q) (cond (cond b (cond q.f (U5 q.a p) false) false) (m,⟨q.b,q.c,q.d,jd q.a p,q.f,q.e⟩) (cond (!b) (Wd list_ (Wd list_ m a q key).1 a (E_ (Wd list_ m a q key) p) key) ((Wd list_ m a q key).1,E_ (Wd list_ m a q key) p)))
theorem naw{l:u}{m:v}{d:Int}{q:S}{key:x}{p:N}{c:Bool}(h:dq q.c=true):dq (mY l m d q key p c).2.c=true:=by
 unfold mY;cases (cond (!(TH q)) true (cond (!(Dc p)) true ((len key) != 16)))
 ·cases (cond c (cond q.f (U5 q.a p) false) false)
  ·cases c
   ·exact ZD (ZD h)
   ·exact ZD h
  ·exact h
 ·exact h
theorem nhq(b:v→S→α)(list_:u)(m:v)(a:Int)(q:S)(key:x)(p:N)(c:Bool)(f:gu list_ m a q key p c=true):nmW lf b list_ m a q key p c=b (mY list_ m a q key p c).1 (mY list_ m a q key p c).2:=by have d:WO m=true:=f;have g:∀(q:S),aX list_ m a q key=true:=λ_=>d;have e:∀(h:S),aX list_ (Wd list_ m a q key).1 a h key=true:=λ_=>Hd (by rw[nFe];exact R8 d);unfold nmW mY;dsimp only;refine U6 (K:=λr:v×S=>b r.1 r.2) (λ_=>rR (ZY d) rfl) (λ_=>?_);refine U6 (K:=λr:v×S=>b r.1 r.2) (λ_=>rR (ZY d) rfl) (λ_=>?_);refine rR (ZY (g _)) ?_;exact U6 (K:=λr:v×S=>b r.1 r.2) (λ_=>rR (ZY (e _)) rfl) (λ_=>rfl)
def nCB(c:z→α)(h:z)(a:x):α:=let g:Int:=s ((((F h).c).a)+1);let b:Int:=Sp h.d (len h.b) ((aA a).1);let k:Bool:=t true (A b h.b);let i:Nat:=u1 b;let l:List DC:=q h.b i;let m:S:=S.nd l 0;let n:v×S:=mY h.j h.h 0 m h.d.b.b ((aA a).1) h.m;let d:S:=n.2;let Z:I:=d.b;let Y:CI:=d.c;let X:CI:=d.d;let o:QI:=d.a;let j:N:=o.b;let p:EP:=j.a;let e:z:=(⟨n.1,(F h).j,(F h).a,u2 ((F h).b) i (Sk (q ((F h).b) i) 0 (S.enc d)),(F h).e,(F h).g,(F h).i,(F h).f,(F h).d,(F h).k,(F h).m,(F h).l,(F h).n,(F h).o,(⟨g,((F h).c).b,((F h).c).e,((F h).c).c,s ((((F h).c).d)+1)⟩:Pa)⟩:z);let f:Int:=r l 6;cond (t true (mD h)) (cond (t true (Aa h)) (cond (!(zp h)) (c (F h)) (cond (t true (SQ a)) (cond (((aA a).2) != 0) (c (⟨(F h).h,(F h).j,(F h).a,(F h).b,(F h).e,(F h).g,(F h).i,(F h).f,(F h).d,(F h).k,(F h).m,(F h).l,(F h).n,(F h).o,(⟨g,s ((((F h).c).b)+1),((F h).c).e,((F h).c).c,((F h).c).d⟩:Pa)⟩:z)) (cond (!(lj h.f ((aA a).1))) (c (⟨(F h).h,(F h).j,(F h).a,(F h).b,(F h).e,(F h).g,(F h).i,(F h).f,(F h).d,(F h).k,(F h).m,(F h).l,(F h).n,(F h).o,(⟨g,((F h).c).b,s ((((F h).c).e)+1),((F h).c).c,((F h).c).d⟩:Pa)⟩:z)) (cond (b==(-1)) (c (⟨(F h).h,(F h).j,(F h).a,(F h).b,(F h).e,(F h).g,(F h).i,(F h).f,(F h).d,(F h).k,(F h).m,(F h).l,(F h).n,(F h).o,(⟨g,((F h).c).b,((F h).c).e,s ((((F h).c).c)+1),((F h).c).d⟩:Pa)⟩:z)) (cond (t (t (t k (gu h.j h.h 0 m h.d.b.b ((aA a).1) h.m)) (A b ((F h).b))) (inl i ((F h).b))) (cond (t k (Hf e b f)) (c (Nc e b f)) lf) lf)))) lf)) lf) lf
def Ff(h:z)(a:x):Int:=Sp h.d (len h.b) (aA a).1
def ia(h:z)(a:x):v×S:=mY h.j h.h 0 (S.nd (q h.b (Ff h a).toNat) 0) h.d.b.b (aA a).1 h.m
def DV(h:z)(a:x):z:= {h with h:=(ia h a).1,b:=u2 h.b (Ff h a).toNat (S.enc (ia h a).2),c:=⟨s (h.c.a+1),h.c.b,h.c.e,h.c.c,s (h.c.d+1)⟩}
def Xf(h:z)(a:x):Bool:=mD h && (Aa h && SQ a)
def rC(h:z)(a:x):z:=cond (!(zp h)) h (cond ((aA a).2 != 0) ({h with c:=⟨s (h.c.a+1),s (h.c.b+1),h.c.e,h.c.c,h.c.d⟩}) (cond (!(lj h.f (aA a).1)) ({h with c:=⟨s (h.c.a+1),h.c.b,s (h.c.e+1),h.c.c,h.c.d⟩}) (cond (Ff h a<0) ({h with c:=⟨s (h.c.a+1),h.c.b,h.c.e,s (h.c.c+1),h.c.d⟩}) (Nc (DV h a) (Ff h a) (r (q h.b (Ff h a).toNat) 6)))))
theorem ngd{h:z}{frame:x}(f:zp h=true)(a:0≤Ff h frame∧Ff h frame<len h.b):Hf (DV h frame) (Ff h frame) (r (q h.b (Ff h frame).toNat) 6)=true:=by
 obtain⟨_,n2,k,l,m,g⟩:=NU f;obtain⟨c,b⟩:∃c:Nat,Ff h frame=(c:Int):=⟨(Ff h frame).toNat,by omega⟩;have d:c<h.b.length:=by rw[b] at a;simp only[len] at a;omega
 have e:=(fI (g c d).1).1;obtain⟨n,o,p,i,Z,Y,s⟩:=gZ e;have j:dD (DV h frame) (Ff h frame)=(ia h frame).2.c:=by show (S.nd (q (u2 h.b (Ff h frame).toNat (S.enc (ia h frame).2)) (Ff h frame).toNat) 0).c=_;rw[O6 (by rw[b,eR];exact d)];rfl
 simp only[Hf,Bl,js];refine⟨a.1, ?_, ?_, ?_, ?_⟩
 ·show Ff h frame<len (u2 h.b _ _);simp only[len,vo];exact a.2
 ·show Ff h frame<len h.g;have:=a.2;simp only[len] at this ⊢;omega
 ·rw[j];refine naw ?_;rw[b,eR];exact e
 ·rw[b,eR];exact YF.2 ⟨i,by show (S.nd (q h.b c) 0).c.c≤31;omega⟩
theorem nEb(c:Nat):∀(m i:Nat) (v:u),(kM (λ_ v=>u2 v c (Zj (q v c))) m i v).length=v.length
 | 0,_,_=>rfl
 | m+1,i,v=>(nEb c m (i+1) _).trans (vo ..)
theorem nAd(l:z→α)(h:z)(frame:x)(i:Q z.ct h.enc)(n:Xf h frame=true):nCB lf l h frame=l (rC h frame):=by
 obtain⟨Y,o⟩:=Nh (z.nA9 i);have m:=n;simp only[Xf,Bl] at m;obtain⟨s,b,p⟩:=m;have s':=s;simp only[mD,Bl] at s';have r:=R8 s'.1;unfold nCB rC;rw[show F h=h from rfl];dsimp only;refine rR (ZY s) (rR (ZY b) ?_);refine U6 (λ_=>rfl) (λt=>?_);have u:=Vk t;refine rR (ZY p) ?_;refine U6 (λ_=>rfl) (λ_=>?_);refine U6 (λ_=>rfl) (λ_=>?_);have a:=ya h.d (len h.b) (aA frame).1;rw[show (Sp h.d (len h.b) (aA frame).1==(-1))=decide (Ff h frame<0) from by
  unfold Ff;rcases a with a | a
  ·rw[a];rfl
  ·rw[ja (by omega)];exact x3.2 (λh=>by have:=eq_of_beq h;omega)]
 refine U6 (λ_=>rfl) (λd=>?_);have d:=of_decide_eq_false d;have a:0≤Ff h frame∧Ff h frame<len h.b:=by
  rcases a with a | a
  ·exact absurd (show Ff h frame<0 by unfold Ff;omega) d
  ·exact a
 obtain⟨c,f⟩:∃c:Nat,Ff h frame=(c:Int):=⟨(Ff h frame).toNat,by omega⟩;have j:=ngd (frame:=frame) u a;have v:Sp h.d (len h.b) (aA frame).1=(c:Int):=f;have g:c<h.b.length:=by rw[f] at a;simp only[len] at a;omega
 have e:=congrArg List.length (S.eta (o _ (nU g)));have w:∀Z:S,Sk (q h.b c) 0 (S.enc Z)=S.enc Z:=λZ=>Fx (e.symm.trans rfl);unfold DV ia at j ⊢;rw[f,eR] at j;rw[f,v,eR,w];have k:∀(Z:S),gu h.j h.h 0 Z h.d.b.b (aA frame).1 h.m=true:=λ_=>Hd r;refine rR (by rw[mZ g,R7 g,k];rfl) ?_;exact rR (by rw[mZ g,Oi];exact ZY j) rfl
def UO(m:v):Prop:=fP m.a∧m.a.length=38
theorem Q1{m:v}(h:UO m):m.a.length≤64:=by have:=h.2;omega
theorem nfV{m:v}(h:UO m):Km m=true:=nqf h.1 (Q1 h)
theorem txG:∀(R:u) (s:x) (l:u),fP l→l.length≤64→fP (cS R s l)∧(cS R s l).length=l.length
 | [],_,_,h,_=>⟨h,rfl⟩
 | Z::rs,s,l,h,hl=>by have w:=VW (a:=r Z 0) (s:=s.take (u1 (r Z 1))) h hl;have:=txG rs (s.drop (u1 (r Z 1))) _ w.1 (by rw[w.2];exact hl);exact⟨this.1,this.2.trans w.2⟩
theorem Ew{l:u}{m:v}{d a:Int}{s:x}{w:Bool}(h:UO m):UO (put l m d a s w).1:=by
 unfold put;cases (Av l m d a (len s) w).2
 ·exact h
 ·have:=txG (Av l m d a (len s) w).1 s m.a h.1 (Q1 h);exact⟨this.1,this.2.trans h.2⟩
theorem BU{l:u}{m:v}{d:Int}{r:I}{e:x}(h:UO m):UO (RC l m d r e).1:=by
 unfold RC;cases (cond ((Ry r)==0) true ((len e) != 16))
 ·cases !(YI l m d (lO r r.c) e).2
  ·exact Ew h
  ·exact h
 ·exact h
theorem nwn(l:u)(d:Int)(p:G):∀(a:u) (n:Int) (m:v) (Z:I),UO m→UO (VA l d p a n m Z).1
 | [],_,_,_,h=>h
 | k::a,n,m,Z,h=>by
  simp only[VA];cases (RC l m d Z (UA ⟨3,0,p.a,Q6 p (r k 0),0,r k 0⟩)).2.2
  ·exact h
  ·exact nwn l d p a _ _ _ (BU h)
theorem nrw{l:u}{m:v}{d:Int}{r:I}{p:G}(h:UO m):UO (HJ l m d r p).1:=by
 unfold HJ;cases (cond (!(Vd r)) true (!(PM p)))
 ·exact nwn _ _ _ _ _ _ _ h
 ·exact h
theorem nDj{l:u}{m:v}{d:Int}{r:I}{e:u}(h:UO m):UO (R6 l m d r e).1:=by
 have key:∀(e:u) (s:v×I),UO s.1→UO (Vy (Xp l d) (VT l d) (m,r,false) (λs=>(s.1,s.2,true)) e s).1:=by
  intro e
  induction e with
  | nil=>intro s a;exact a
  | cons x c b=>
   intro s a;simp only[Vy];cases Xp l d x s
   ·exact b _ (BU a)
   ·exact h
 exact key e (m,r) h
theorem A9(l:u)(d:Int)(p:G)(a:Int):∀(c:u) (t:x) (m:v) (o:u),UO m→UO (DS l d p a c t m o).1
 | [],_,_,_,h=>h
 | b::c,t,m,o,h=>by
  simp only[DS];cases (zJ l m d (Q6 p (r b 0)) (t.take a.toNat)).2
  ·exact h
  ·exact A9 l d p a c _ _ _ (Ew h)
theorem nmO{l:u}{m:v}{d:Int}{q:Co}{p:N}{size cut:Int}(h:UO m):UO (tY l m d q p size cut).1:=by
 unfold tY;cases zi q p size cut
 case true=>exact h
 cases SP q (sw (e7 p).1 cut)
 case true=>exact h
 cases (pN q.a (sw (e7 p).1 cut)).2.2
 case false=>exact h
 have a:UO (mi l m d q.a (pN q.a (sw (e7 p).1 cut)).2.1 (e7 p).1 cut).1:=A9 _ _ _ _ _ _ _ _ h;cases (mi l m d q.a (pN q.a (sw (e7 p).1 cut)).2.1 (e7 p).1 cut).2.2
 case false=>exact h
 simp only[va,J];unfold eC;generalize (VJ (mi l m d q.a (pN q.a (sw (e7 p).1 cut)).2.1 (e7 p).1 cut).2.1 size q.d)=D;cases (R6 l (mi l m d q.a (pN q.a (sw (e7 p).1 cut)).2.1 (e7 p).1 cut).1 d q.b (D.map tz)).2.2
 ·exact h
 ·exact nDj a
theorem nkr{l:u}{m:v}{d:Int}{q:CI}{x:Ja}(h:UO m):UO (Yi l m d q x).1:=by
 unfold Yi;cases (cond (!(dq q)) true (!(tQ x)))
 ·cases (YI l m d (WC q) (eM x (PW q))).2
  ·exact h
  ·exact Ew h
 ·exact h
theorem nh6{l:u}{m:v}{d:Int}{q:S}{e key:x}(h:UO m):UO (oy l m d q e key).1:=by
 unfold oy;cases (cond (!(UX e).2) true (cond ((UX e).1.c != 3) true (decide ((UX e).1.e<len (O3 q.a.b).1))))
 ·cases (YI l m d (UX e).1.f (O3 q.a.b).1).2
  ·exact h
  ·exact nkr (Ew h)
 ·exact h
theorem cD{l:u}{m:v}{d:Int}{q:S}{key:x}(h:UO m):UO (Wd l m d q key).1:=by
 unfold Wd;cases (cond (!(TH q)) true (cond (!q.f) true ((len key) != 16)))
 ·cases (cond (D0 l m d q.b).2.2 (oy l m d q (D0 l m d q.b).1 key).2.2 false)
  ·exact h
  ·exact nh6 h
 ·exact h
theorem nl6{l:u}{m:v}{d:Int}{q:S}{key:x}{p:N}{c:Bool}(h:UO m):UO (mY l m d q key p c).1:=by
 unfold mY;cases (cond (!(TH q)) true (cond (!(Dc p)) true ((len key) != 16)))
 ·cases (cond c (cond q.f (U5 q.a p) false) false)
  ·cases c
   ·exact cD (cD h)
   ·exact cD h
  ·exact h
 ·exact h
theorem Pq{l:u}{m:v}{d:Int}{q:S}{p:G}{a:u}{b:Int}(h:UO m):UO (sO l m d q p a b).1:=by
 unfold sO;cases (cond (!(TH q)) true (cond (!(PM p)) true (!(D b 0 1000))))
 ·exact nrw h
 ·exact h
theorem nBL{r:I}(h:Vd r=true):0≤r.b∧r.b≤130944:=by
 unfold Vd i7 at h;cases a:D r.b 0 130944
 ·rw[a] at h;cases h
 ·exact YF.1 a
theorem nDR{r:I}(h:Vd r=true){a b:Int}(d:0≤a)(j:a<2*r.a)(e:0≤b)(k:b<2*r.a)(f:(b - a) % (2*r.a)≤r.a):Vd ⟨r.b,r.a,a,b⟩=true:=by
 obtain⟨c,l,m,o,p,q,s,t,u⟩:=Xz h;have g:TG ⟨r.b,r.a,a,b⟩=(b - a) % (2*r.a):=by unfold TG;rw[c];rfl
 have i:D r.b 0 130944=true:=YF.2 (nBL h);unfold Vd i7;simp only[id];rw[g];rw[fg (n:=2*r.a),fg (n:=2*r.a - 1)];rw[i,c,show D a 0 (2*r.a - 1)=true from YF.2 ⟨d,by omega⟩,show D b 0 (2*r.a - 1)=true from YF.2 ⟨e,by omega⟩];exact Hd f
def aI(r q:I):Prop:=Vd q=true∧q.b=r.b∧q.a=r.a
theorem yh{a b c:I}(h:aI a b)(k:aI b c):aI a c:=⟨k.1,k.2.1.trans h.2.1,k.2.2.trans h.2.2⟩
theorem nEj{r:I}(h:Vd r=true):Ry r=r.a - TG r:=by obtain⟨a,b,c,d,e,f,g,i,j⟩:=Xz h;have k:=vQ (r.c - r.d) (show 2*r.a≠0 by omega);unfold Ry Sr;rw[h];simp only[va,J,id];exact fg
theorem jT{l:u}{m:v}{d:Int}{r:I}{e:x}(h:Vd r=true):aI r (RC l m d r e).2.1:=by
 unfold RC;cases a:(cond ((Ry r)==0) true ((len e) != 16))
 case true=>exact⟨h,rfl,rfl⟩
 cases (YI l m d (lO r r.c) e).2
 case false=>exact⟨h,rfl,rfl⟩
 obtain⟨k,b,o,c,f,p,q,X,t⟩:=Xz h;have Z:=nEj h;have Y:Ry r≠0:=by intro g;rw[g] at a;cases a
 have i:u3 (s (r.c+1)) (s (2*r.a))=(r.c+1) % (2*r.a):=by rw[fg (n:=r.c+1),fg (n:=2*r.a)];exact vR (by omega)
 refine⟨?_,rfl,rfl⟩;show Vd ⟨r.b,r.a,r.d,u3 (s (r.c+1)) (s (2*r.a))⟩=true;rw[i];refine nDR h c f (vQ _ (by omega)) (wv _ (by omega)) ?_;rw[Int.sub_emod,Int.emod_emod_of_dvd _ (Int.dvd_refl _),←Int.sub_emod,show r.c+1 - r.d=(r.c - r.d)+1 by omega,Int.add_emod];rw[←b];have j:(1:Int) % (2*r.a)=1:=Int.emod_eq_of_lt (by omega) (by omega);have w:=vQ (r.c - r.d) (show 2*r.a≠0 by omega);rw[j,Int.emod_eq_of_lt (by omega) (by omega)];omega
theorem nCA(l:u)(d:Int)(p:G):∀(a:u) (n:Int) (m:v) (Z:I),Vd Z=true→aI Z (VA l d p a n m Z).2.1
 | [],_,_,_,h=>⟨h,rfl,rfl⟩
 | k::a,n,m,Z,h=>by
  simp only[VA];have b:=jT (l:=l) (m:=m) (d:=d) (e:=UA ⟨3,0,p.a,Q6 p (r k 0),0,r k 0⟩) h;cases (RC l m d Z (UA ⟨3,0,p.a,Q6 p (r k 0),0,r k 0⟩)).2.2
  ·exact⟨h,rfl,rfl⟩
  ·exact yh b (nCA l d p a _ _ _ b.1)
theorem neZ{l:u}{m:v}{d:Int}{r:I}{p:G}(h:Vd r=true):aI r (HJ l m d r p).2.1:=by
 unfold HJ;cases (cond (!(Vd r)) true (!(PM p)))
 ·exact nCA _ _ _ _ _ _ _ h
 ·exact⟨h,rfl,rfl⟩
theorem nuS{l:u}{m:v}{d:Int}{r:I}{e:u}(h:Vd r=true):aI r (R6 l m d r e).2.1:=by
 have key:∀(e:u) (s:v×I),aI r s.2→aI r (Vy (Xp l d) (VT l d) (m,r,false) (λs=>(s.1,s.2,true)) e s).2.1:=by
  intro e
  induction e with
  | nil=>intro s a;exact a
  | cons x c b=>
   intro s a;simp only[Vy];cases Xp l d x s
   ·exact b _ (yh a (jT a.1))
   ·exact⟨h,rfl,rfl⟩
 exact key e (m,r) ⟨h,rfl,rfl⟩
theorem nxW{l:u}{m:v}{d:Int}{r:I}(h:Vd r=true):aI r (D0 l m d r).2.1:=by
 cases a:(D0 l m d r).2.2
 ·have:(D0 l m d r).2.1=r:=by
   revert a;unfold D0;cases (cond (!(Vd r)) true ((TG r)==0))
   ·cases (Eo l m d (lO r r.d) 16).2
    ·intro _;rfl
    ·intro h;cases h
   ·intro _;rfl
  rw[this];exact⟨h,rfl,rfl⟩
 ·have c:0<TG r:=by
   obtain⟨g,i,j,k,n,o,p,q,s⟩:=Xz h;have t:=vQ (r.c - r.d) (show 2*r.a≠0 by omega);have:TG r≠0:=by intro e;unfold D0 at a;rw[e,h] at a;cases a
   omega
  obtain⟨b,f,Z⟩:=fv h c a;refine⟨f, ?_, ?_⟩
  ·rw[b]
  ·rw[b]
theorem noL(l:u)(m:v)(d:Int):∀(n:Nat) (r:I) (o:u),Vd r=true→(wh l m d n r o).2.1.b=r.b∧(wh l m d n r o).2.1.a=r.a
 | 0,_,_,_=>⟨rfl,rfl⟩
 | n+1,r,o,h=>by
  unfold wh;have a:=nxW (l:=l) (m:=m) (d:=d) h;cases decide (0<TG r)
  ·exact⟨rfl,rfl⟩
  ·simp only[H];cases (cond (!(D0 l m d r).2.2) true (!(UX (D0 l m d r).1).2))
   ·simp only[J];cases (cond ((UX (D0 l m d r).1).1.c==1) ((bits .and .i64 (UX (D0 l m d r).1).1.b 1) != 0) false)
    ·have:=noL l m d n _ (o++[Zz.enc (UX (D0 l m d r).1).1]) a.1;exact⟨this.1.trans a.2.1,this.2.trans a.2.2⟩
    ·exact a.2
   ·exact⟨rfl,rfl⟩
theorem nnK{l:u}{m:v}{d:Int}{r:I}(h:Vd r=true):aI r (Ar l m d r).1:=by
 obtain⟨e,b,c⟩:=yH (l:=l) (m:=m) (d:=d) r;by_cases a:(Ar l m d r).2.2=0
 ·rw[b a];exact⟨h,rfl,rfl⟩
 ·refine⟨(c a).2.1, ?_⟩;unfold Ar;cases (cond (!(Vd r)) true ((TG r)==0))
  ·simp only[J];rw[(nmp (cN l m d r) (N6 (cN l m d r).1) (U_ l m d (N6 (cN l m d r).1).1) (WX (U_ l m d (N6 (cN l m d r).1).1).1) (BT (WX (U_ l m d (N6 (cN l m d r).1).1).1).1)).1];unfold cN;cases (cond (!(Vd r)) true ((TG r)==0))
   ·exact noL l m d 16 r [] h
   ·exact⟨rfl,rfl⟩
  ·exact⟨rfl,rfl⟩
theorem nxk(l:u)(m:v)(d:Int):∀(n:Nat) (r:I) (o:u) (a b:Int),Vd r=true→aI r (jZ l m d n r o a b).1
 | 0,_,_,_,_,h=>⟨h,rfl,rfl⟩
 | n+1,r,o,a,b,h=>by
  unfold jZ;have c:=nnK (l:=l) (m:=m) (d:=d) h;cases (Ar l m d r).2.2==0
  ·exact yh c (nxk l m d n _ _ _ _ c.1)
  ·exact⟨h,rfl,rfl⟩
theorem ngz{l:u}{m:v}{d:Int}{r:I}(h:Vd r=true):aI r (PU l m d r).1:=nxk l m d 40 r [] 0 0 h
def fk(n:Int)(l:u):Prop:=(∀Z∈l,0≤r Z 0∧r Z 0<n)∧(l.map (λZ=>r Z 0)).Nodup
theorem nsJ{n:Int} :∀(l s:u),(∀i:Nat,(i:Int)<n→i<s.length∧∃b,q s i=[.bool b])→
  (Vy (mv n) ib false (λ_=>true) l s=true↔fk n l∧∀X∈l,Dd (q s (u1 (r X 0))) 0=false)
 | [],s,_=>⟨λ_=>⟨⟨λX a=>(by cases a),List.nodup_nil⟩,λX a=>(by cases a)⟩,λ_=>rfl⟩
 | x::l,s,hs=>by
  simp only[Vy];cases g:D (r x 0) 0 (n - 1)
  ·have e:mv n x s=true:=by unfold mv;rw[g];rfl
   rw[e];refine⟨λh=>(by cases h),λh=>?_⟩;have:=h.1.1 x (by simp);rw[show D (r x 0) 0 (n - 1)=true from YF.2 ⟨this.1,by omega⟩] at g;cases g
  ·have E:=YF.1 g;have e:mv n x s=Dd (q s (u1 (r x 0))) 0:=by unfold mv;rw[g];rfl
   obtain⟨i,o⟩:∃i:Nat,r x 0=(i:Int):=⟨(r x 0).toNat,by omega⟩;obtain⟨z,b,v⟩:=hs i (by omega);have w:∀j,q (ib x s) j=if j=i then [.bool true] else q s j:=by
    intro j;unfold ib;rw[o,eR,v,Z1];by_cases d:j=i
    ·rw[if_pos d,d];exact O6 z _
    ·rw[if_neg d];exact fU (λh=>d h.symm) _
   have y:=nsJ l (ib x s) (λj d=>by
    obtain⟨A,c,B⟩:=hs j d;refine⟨by rw[Gp];exact A, ?_⟩;rw[w];by_cases h:j=i
    ·rw[if_pos h];exact⟨true,rfl⟩
    ·rw[if_neg h];exact⟨c,B⟩)
   rw[e];have p:Dd (q s (u1 (r x 0))) 0=b:=by rw[o,eR,v];rfl
   rw[p];have t:∀X∈l,Dd (q (ib x s) (u1 (r X 0))) 0=(if u1 (r X 0)=i then true else Dd (q s (u1 (r X 0))) 0):=by intro X _;rw[w];split<;>rfl
   constructor
   ·intro h;cases b
    ·obtain⟨⟨m,f⟩,k⟩:=y.1 h;refine⟨⟨λX a=>?_, ?_⟩,λX a=>?_⟩
     ·rcases wB.1 a with rfl | a
      ·omega
      ·exact m X a
     ·rw[v9,wP];refine⟨λC=>?_,f⟩;obtain⟨X,a,Z⟩:=w2.1 C;have:=k X a;rw[t X a,if_pos (by rw[Z,o];rfl)] at this;cases this
     ·rcases wB.1 a with rfl | a
      ·exact p
      ·have:=k X a;rw[t X a] at this;split at this
       ·cases this
       ·exact this
    ·cases h
   ·rintro ⟨⟨m,f⟩,k⟩
    have W:b=false:=by rw[←p];exact k x (by simp)
    subst W;refine y.2 ⟨⟨λX a=>m X (by simp[a]), ?_⟩,λX a=>?_⟩
    ·rw[v9,wP] at f;exact f.2
    ·rw[t X a];split
     ·rename_i h;rw[v9,wP] at f;have Y:=m X (by simp[a]);exact absurd (w2.2 ⟨X,a,show r X 0=r x 0 by omega⟩) f.1
     ·exact k X (by simp[a])
theorem nkl(x:List DC)(n i:Nat)(h:i<n):q (vU n x) i=x:=by simp[q,vL,List.getElem?_replicate,h]
theorem yy{p:G} :PM p=true↔(D p.b 0 130944=true∧D p.a 1 512=true∧D p.c 0 16=true)∧fk p.c p.d:=by
 have key:=nsJ (n:=p.c) p.d (vU (u1 p.c) [.bool false]) (λi b=>⟨by rw[w3];omega,false,nkl _ _ _ (by omega)⟩);unfold PM;cases D p.b 0 130944
 ·simp
 cases D p.a 1 512
 ·simp
 cases D p.c 0 16
 ·simp
 simp only[va,J];rw[key];simp only[true_and,and_true];refine⟨λh=>h.1,λh=>⟨h,λr a=>?_⟩⟩;have:=h.1 r a;rw[nkl _ _ _ (by omega)];rfl
theorem TD:∀(n:Nat) (l:List Int),l.Nodup→(∀x∈l,0≤x∧x<(n:Int))→l.length≤n
 | 0,[],_,_=>vN _
 | 0,x::l,_,h=>by have:=h x (by simp);omega
 | n+1,l,hd,h=>by
  by_cases c:(n:Int)∈l
  ·have e:=List.length_erase_of_mem c;have:=TD n (l.erase (n:Int)) (hd.erase _) (λx a=>by
    have d:=h x (List.mem_of_mem_erase a);have f:x≠(n:Int):=λb=>by subst b;exact absurd a (λh=>by have:=(List.Nodup.mem_erase_iff hd).1 h;exact this.1 rfl)
    omega)
   omega
  ·have:=TD n l hd (λx a=>by
    have d:=h x a;have f:x≠(n:Int):=λb=>by subst b;exact c a
    omega)
   omega
theorem nov{p:G}(h:PM p=true):p.d.length≤16:=by
 obtain⟨⟨_,_,a⟩,b,c⟩:=yy.1 h;have a:=YF.1 a;have:=TD 16 _ c (λx d=>by obtain⟨r,e,rfl⟩:=w2.1 d;have:=b r e;omega)
 rw[List.length_map] at this;exact this
theorem naf{n:Int}{l k:u}(h:fk n l)(s:v3 k l):fk n k:=
 ⟨λr a=>h.1 r (s.subset a),List.Pairwise.sublist (s.map _) h.2⟩
theorem nlw{n:Int}{l k:u}(h:fk n l)(s:List.Perm k l):fk n k:=
 ⟨λr a=>h.1 r (s.mem_iff.1 a),(s.map _).nodup_iff.2 h.2⟩
def NM(p q:G):Prop:=PM q=true∧q.b=p.b∧q.a=p.a∧q.c=p.c
theorem noc{a b c:G}(h:NM a b)(k:NM b c):NM a c:=⟨k.1,k.2.1.trans h.2.1,k.2.2.1.trans h.2.2.1,k.2.2.2.trans h.2.2.2⟩
theorem xA{p:G}{l:u}(h:PM p=true)(s:v3 l p.d):PM ⟨p.b,p.a,p.c,l⟩=true:=by obtain⟨a,b⟩:=yy.1 h;exact yy.2 ⟨a,naf b s⟩
theorem nue{p:G}{l:u}(h:PM p=true):NM p (Un p l).1:=by
 unfold Un;rw[h];cases a:PM (⟨p.b,p.a,p.c,p.d++l⟩:G)
 ·exact⟨h,rfl,rfl,rfl⟩
 ·exact⟨a,rfl,rfl,rfl⟩
theorem nCh{p:G}{l:u} :(Un p l).2=true↔PM p=true∧PM (⟨p.b,p.a,p.c,p.d++l⟩:G)=true:=by unfold Un;cases PM p<;>cases PM (⟨p.b,p.a,p.c,p.d++l⟩:G)<;>simp
theorem opF(l:u)(d:Int)(p:G):∀(a:u) (n:Int) (m:v) (Z:I),∃b,(VA l d p a n m Z).2.2.1=⟨p.b,p.a,p.c,b⟩∧v3 b a
 | [],_,_,_=>⟨[],rfl,List.Sublist.refl _⟩
 | k::a,n,m,Z=>by
  simp only[VA];cases (RC l m d Z (UA ⟨3,0,p.a,Q6 p (r k 0),0,r k 0⟩)).2.2
  ·exact⟨k::a,rfl,List.Sublist.refl _⟩
  ·obtain⟨b,e,Y⟩:=opF l d p a (s (n+1)) (RC l m d Z (UA ⟨3,0,p.a,Q6 p (r k 0),0,r k 0⟩)).1 (RC l m d Z (UA ⟨3,0,p.a,Q6 p (r k 0),0,r k 0⟩)).2.1;exact⟨b,e,Y.trans (List.sublist_cons_self k a)⟩
theorem ns4{l:u}{m:v}{d:Int}{r:I}{p:G}(h:PM p=true):NM p (HJ l m d r p).2.2.1:=by
 unfold HJ;cases (cond (!(Vd r)) true (!(PM p)))
 ·obtain⟨a,e,s⟩:=opF l d p p.d 0 m r;simp only[J];rw[e];exact⟨xA h s,rfl,rfl,rfl⟩
 ·exact⟨h,rfl,rfl,rfl⟩
theorem nnY:∀(a b:u),nm (a++b)=nm a++nm b
 | [],b=>rfl
 | r::a,b=>by simp only[w8,nm,nnY a b,vJ]
theorem DR:∀(a b:u),Rw (a++b)=Rw a+Rw b
 | [],b=>by simp[Rw]
 | r::a,b=>by simp only[w8,Rw,DR a b,Int.add_assoc]
theorem nvw:∀(l:u),kX l=(nm l).length
 | []=>rfl
 | r::l=>by simp only[kX,nm,fK,nvw l]
theorem PE{q:Co} :Q7 q=true↔(Vd q.b=true∧PM q.a=true∧D q.d 0 65535=true)∧q.c.all (wA q.b.a)=true∧PM (⟨q.a.b,q.a.a,q.a.c,q.a.d++nm q.c⟩:G)=true∧Rw q.c≤q.b.a:=by
 have a:=nCh (p:=q.a) (l:=nm q.c);unfold Q7;cases Vd q.b
 ·simp
 cases b:PM q.a
 ·simp
 cases D q.d 0 65535
 ·simp
 rw[b] at a;simp only[va,J,true_and];cases q.c.all (wA q.b.a)
 ·simp
 ·simp only[eq_self,true_and] at a ⊢;rw[←a];cases (Un q.a (nm q.c)).2
  ·simp
  ·simp
theorem nx4{n:Int} :∀ {l:u},l.all (wA n)=true→(l.length:Int)≤Rw l
 | [],_=>by simp[Rw]
 | r::rs,h=>by simp only[w9,Bl] at h;have:=nx4 h.2;have:=(fb.1 h.1).1;simp only[Rw,I_];omega
theorem nCm{l:u}{r:List DC}(h:r∈l):(df r 2).length≤kX l:=by
 induction l with
 | nil=>cases h
 | cons x l a=>
  simp only[kX];rcases wB.1 h with rfl | h
  ·omega
  ·have:=a h;omega
theorem nhF{q:Co}(h:Q7 q=true):q.a.d.length≤16∧q.c.length≤16∧kX q.c≤16:=by obtain⟨⟨d,g,i⟩,e,f,j⟩:=PE.1 h;have a:=nov f;have b:=nx4 e;have c:=(OD d).2;rw[fK,←nvw] at a;exact⟨by omega,by omega,by omega⟩
theorem ngV{q:Co}(h:Q7 q=true):yK q=true∧cF q=true:=by obtain⟨a,b,c⟩:=nhF h;simp only[yK,cF,NI,Bl,vG,js];exact⟨⟨Hd (by omega),Hd (by omega),λr d=>Hd (by have:=nCm d;omega)⟩,by omega,Hd (by omega),by omega⟩
theorem nd2{n:Int}{l:u}(h:l.all (wA n)=true)(b:Rw l≤16):∀(m i:Nat) (o:Int),i+m=l.length→0≤o→o+Rw (l.drop i)≤16→kM (λi o=>s (o+r (q l i) 1)) m i o=o+Rw (l.drop i)
 | 0,i,o,h1,h2,h3=>by rw[x4 (by omega)];simp[kM,Rw]
 | m+1,i,o,h1,h2,h3=>by
  have a:i<l.length:=by omega
  have c:l.drop i=q l i::l.drop (i+1):=by rw[x5 a];simp[q,vL,a]
  rw[c] at h3 ⊢;simp only[Rw] at h3 ⊢;have e:=(fb.1 (vG.1 h _ (nU a))).1;have f:0≤Rw (l.drop (i+1)):=Rv (n:=n) (vG.2 (λZ d=>vG.1 h Z (x6 d)));simp only[kM];rw[fg,nd2 h b m (i+1) _ (by omega) (by omega) (by omega)];omega
theorem niX{q:Co}(h:Q7 q=true):da q=Rw q.c:=by obtain⟨⟨a,d,e⟩,b,f,g⟩:=PE.1 h;have c:=(OD a).2;have:=nd2 b (by omega) q.c.length 0 0 (by omega) (by omega) (by simp;omega);unfold da;rw[this];simp
theorem nr6{p:G}{n:Int}(h:(pN p n).2.2=true):(pN p n).1=⟨p.b,p.a,p.c,(pN p n).1.d⟩∧(pN p n).2.1++(pN p n).1.d=p.d:=by
 unfold pN at h ⊢;cases a:(cond (!(PM p)) true (!(D n 0 (len p.d))))
 ·have b:=YF.1 (Vk (Uk a).2);refine⟨rfl, ?_⟩;show C1 p.d n++bZ p.d n=p.d;unfold bZ C1;simp only[List.take_length,List.drop_zero];exact ym _ _
 ·rw[a] at h;cases h
theorem nAp{l:u}{m:v}{d:Int}{q:Co}{p:N}{size cut:Int}(h:Q7 q=true):Q7 (tY l m d q p size cut).2.1=true∧aI q.b (tY l m d q p size cut).2.1.b:=by
 obtain⟨⟨b,X,i⟩,t4,t,E⟩:=PE.1 h;have same:Q7 q=true∧aI q.b q.b:=⟨h,b,rfl,rfl⟩;unfold tY;cases Z:zi q p size cut
 case true=>exact same
 cases a:SP q (sw (e7 p).1 cut)
 case true=>exact same
 cases j:(pN q.a (sw (e7 p).1 cut)).2.2
 case false=>exact same
 obtain⟨c,n,V,H,I,Y,U,K,L,M,f⟩:=noS (list_:=l) (m:=m) (eo:=d) Z a j;cases w:(mi l m d q.a (pN q.a (sw (e7 p).1 cut)).2.1 (e7 p).1 cut).2.2
 case false=>exact same
 have f:=(f w).2;simp only[va,J];unfold eC;generalize (VJ (mi l m d q.a (pN q.a (sw (e7 p).1 cut)).2.1 (e7 p).1 cut).2.1 size q.d)=W at f ⊢;have g:=nuS (l:=l) (m:=(mi l m d q.a (pN q.a (sw (e7 p).1 cut)).2.1 (e7 p).1 cut).1) (d:=d) (e:=W.map tz) b;cases (R6 l (mi l m d q.a (pN q.a (sw (e7 p).1 cut)).2.1 (e7 p).1 cut).1 d q.b (W.map tz)).2.2
 case false=>exact same
 refine⟨PE.2 ?_,g⟩;obtain⟨k,o⟩:=nr6 j;have T:=(OD b).2;have x:=Rv t4;have y:Rw q.c+(n:Int)+1≤q.b.a:=by unfold SP at a;rw[Y,niX h] at a;have:=of_decide_eq_false (Uk (Uk a).2).2;rw[fg (n:=Rw q.c+(n:Int)),fg] at this;omega
 generalize (pN q.a (sw (e7 p).1 cut)).2.1=B at*;generalize O:(pN q.a (sw (e7 p).1 cut)).1=F at*;have z:=YF.1 i;simp only[va,J];rw[g.2.2];have r:len W=(n:Int)+1:=by simp only[len];omega
 refine⟨⟨g.1, ?_, ?_⟩, ?_, ?_, ?_⟩
 ·rw[k];exact xA X (by rw[←o];exact List.sublist_append_right _ _)
 ·show D (u3 (s (q.d+1)) 65536) 0 65535=true;rw[fg,vR (by omega)];exact YF.2 ⟨by omega,by omega⟩
 ·show (q.c++[[DC.int q.d,DC.int (len W),DC.sl B]]).all (wA q.b.a)=true;rw[List.all_append,t4];simp only[w9,List.all_nil,Bool.and_true,Bool.true_and];exact fb.2 ⟨⟨show 1≤len W by omega,show len W≤_ by omega⟩,i⟩
 ·rw[k];show PM (⟨q.a.b,q.a.a,q.a.c,F.d++nm (q.c++[[DC.int q.d,DC.int (len W),DC.sl B]])⟩:G)=true;obtain⟨A,C⟩:=yy.1 t;refine yy.2 ⟨A,nlw C ?_⟩;show List.Perm (F.d++nm (q.c++[[DC.int q.d,DC.int (len W),DC.sl B]])) (q.a.d++nm q.c);rw[nnY,←o];show List.Perm (F.d++(nm q.c++(B++[]))) (B++F.d++nm q.c);rw[xb,vJ,←vJ F.d];exact List.perm_append_comm
 ·show Rw (q.c++[[DC.int q.d,DC.int (len W),DC.sl B]])≤q.b.a;rw[DR];show Rw q.c+(len W+0)≤_;omega
theorem neU{Z:Co}(b:PM (⟨Z.a.b,Z.a.a,Z.a.c,Z.a.d++nm Z.c⟩:G)=true):∀(m i:Nat) (s:G×u),i+m≤Z.c.length→
  s.1=⟨Z.a.b,Z.a.a,Z.a.c,s.1.d⟩→s.1.d++nm (Z.c.drop i)=Z.a.d++nm Z.c→
  (kM (P5 Z) m i s).1=⟨Z.a.b,Z.a.a,Z.a.c,(kM (P5 Z) m i s).1.d⟩∧(kM (P5 Z) m i s).1.d++nm (Z.c.drop (i+m))=Z.a.d++nm Z.c
 | 0,i,s,h1,h2,h3=>⟨h2,h3⟩
 | m+1,i,s,h1,h2,h3=>by
  have c:i<Z.c.length:=by omega
  have f:Z.c.drop i=q Z.c i::Z.c.drop (i+1):=by rw[x5 c];simp[q,vL,c]
  rw[f] at h3;simp only[nm] at h3;have d:v3 (s.1.d++df (q Z.c i) 2) (Z.a.d++nm Z.c):=by rw[←h3,←vJ];exact xc _ _
  have g:PM (⟨s.1.b,s.1.a,s.1.c,s.1.d++df (q Z.c i) 2⟩:G)=true:=by rw[h2];have a:=xA b d;exact a
  have h:PM s.1=true:=by rw[h2];have a:=xA b ((xc _ _).trans d);exact a
  have e:(Un s.1 (df (q Z.c i) 2)).1=⟨s.1.b,s.1.a,s.1.c,s.1.d++df (q Z.c i) 2⟩:=by unfold Un;rw[h,g];rfl
  have:=neU b m (i+1) (P5 Z i s) (by omega) (by
   show (Un s.1 (df (q Z.c i) 2)).1=⟨Z.a.b,Z.a.a,Z.a.c,(Un s.1 (df (q Z.c i) 2)).1.d⟩;rw[e,h2]) (by
   show (Un s.1 (df (q Z.c i) 2)).1.d++_=_;rw[e,vJ];exact h3)
  rw[show i+(m+1)=i+1+m by omega];exact this
theorem ndw{q:Co}{n:Int}(h:Q7 q=true):Q7 (sC q n).1=true∧(sC q n).1.b=q.b:=by
 obtain⟨⟨g,o,i⟩,t4,b,p⟩:=PE.1 h;unfold sC;cases j:(cond (!(Q7 q)) true (!(D n 0 (len q.c))))
 ·have k:=YF.1 (Vk (Uk j).2);simp only[len] at k;obtain⟨c,a⟩:=neU b n.toNat 0 (q.a,[]) (by omega) rfl (by simp);rw[vH] at a;simp only[J,and_true];generalize (kM (P5 q) n.toNat 0 (q.a,[])).1=P at c a ⊢;have m:(q.c.drop n.toNat).all (wA q.b.a)=true:=vG.2 (λr d=>vG.1 t4 r (x6 d));refine PE.2 ⟨⟨g, ?_,i⟩,m, ?_, ?_⟩
  ·show PM P=true;rw[c];have f:=xA b (l:=P.d) (by show v3 P.d (q.a.d++nm q.c);rw[←a];exact xc _ _);exact f
  ·show PM (⟨P.b,P.a,P.c,P.d++nm (q.c.drop n.toNat)⟩:G)=true;rw[a,c];exact b
  ·show Rw (q.c.drop n.toNat)≤q.b.a;have e:=DR (q.c.take n.toNat) (q.c.drop n.toNat);rw[ym] at e;have:=Rv (n:=q.b.a) (l:=q.c.take n.toNat) (vG.2 (λr d=>vG.1 t4 r (List.mem_of_mem_take d)));omega
 ·exact⟨h,rfl⟩
theorem ur(a b:Bool):(cond a b false)=true↔a=true∧b=true:=by cases a<;>cases b<;>simp
theorem nhM(a b:Bool):(cond a true b)=false↔a=false∧b=false:=by cases a<;>cases b<;>simp
theorem nB8(a b:Bool):(cond a false b)=true↔a=false∧b=true:=by cases a<;>cases b<;>simp
theorem njn(a b:Bool):(cond a true b)=true↔a=true∨b=true:=by cases a<;>cases b<;>simp
def ZS(q:S):Prop:=Tp q.a.b=true∧(0≤q.a.a∧q.a.a≤320)∧(1≤q.a.c∧q.a.c≤320)
def nCn(q:S):Prop:=Vd q.b=true∧dq q.c=true∧dq q.d=true∧q.c.b=q.d.b∧q.c.a=q.d.a∧(0≤q.e∧q.e≤1000000000000)∧((q.f=true∧ZS q)∨(q.f=false∧q.a=gO))
theorem D6{q:S} :TH q=true↔nCn q:=by
 have o:∀x:Bool,(x != true)= !x:=λx=>by cases x<;>rfl
 obtain⟨r,d,v,⟨⟨p,s,t,u,w,y,z,A,⟨B,C,Z,E,F,G,Y,I⟩⟩,i,j⟩,k,n⟩:=q;unfold TH yp nCn ZS gO;simp only[id];cases Vd r
 ·simp
 cases dq d
 ·simp
 cases dq v
 ·simp
 simp only[va,J];by_cases c:d.b=v.b
 case neg=>simp[c]
 by_cases e:d.a=v.a
 case neg=>simp[c,e]
 rw[show (d.b != v.b)=false by simp[c],show (d.a != v.a)=false by simp[e]];simp only[J];cases f:D n 0 1000000000000
 ·refine⟨λh=>(by cases h),λh=>?_⟩;rw[show D n 0 1000000000000=true from YF.2 h.2.2.2.2.2.1] at f;cases f
 have g:=YF.1 f;cases k
 ·simp only[vT,va,H,J,ur,beq_iff_eq,true_and,c,e,g,Bool.false_eq_true,false_and,false_or,QI.mk.injEq,N.mk.injEq,EP.mk.injEq,and_assoc,and_self,and_true]
 ·have l:=YF (n:=i) (a:=0) (b:=320);have m:=YF (n:=j) (a:=1) (b:=320);simp only[va,J,ur,true_and,c,e,g,and_self,Bool.true_eq_false,false_and,or_false];exact and_congr Iff.rfl (and_congr l m)
theorem oP(q:S):S.nd (S.enc q) 0=q:=rfl
def nbW(q q':S):Prop:=q'.d=q.d∧aI q.b q'.b∧dq q'.c=true∧q'.c.b=q.c.b∧q'.c.a=q.c.a∧q.e≤q'.e∧q'.e≤q.e+320
theorem nE_{q:S}(h:TH q=true):nbW q q:=by obtain⟨a,b,c,_⟩:=D6.1 h;exact⟨rfl,⟨a,rfl,rfl⟩,b,rfl,rfl,by omega,by omega⟩
theorem nvS(l:u)(m:v)(d:Int)(q:CI)(x:Ja):(Yi l m d q x).2.1.b=q.b∧(Yi l m d q x).2.1.a=q.a:=by
 unfold Yi;cases (cond (!(dq q)) true (!(tQ x)))
 ·cases (YI l m d (WC q) (eM x (PW q))).2<;>exact⟨rfl,rfl⟩
 ·exact⟨rfl,rfl⟩
theorem nko(l:u)(m:v)(d:Int)(q:S)(e key:x):(oy l m d q e key).2.1.b=q.c.b∧(oy l m d q e key).2.1.a=q.c.a:=by
 unfold oy;cases (cond (!(UX e).2) true (cond ((UX e).1.c != 3) true (decide ((UX e).1.e<len (O3 q.a.b).1))))
 ·cases (YI l m d (UX e).1.f (O3 q.a.b).1).2
  ·exact⟨rfl,rfl⟩
  ·exact nvS _ _ _ _ _
 ·exact⟨rfl,rfl⟩
theorem Rc{l:u}{m:v}{d:Int}{q:S}{key:x}(h:TH q=true)(t:q.e≤1000000000):TH (Wd l m d q key).2=true∧nbW q (Wd l m d q key).2:=by
 obtain⟨p,f,i,j,k,r,a⟩:=D6.1 h;unfold Wd;cases g:(cond (!(TH q)) true (cond (!q.f) true ((len key) != 16)))
 case true=>exact⟨h,nE_ h⟩
 obtain⟨_,g⟩:=Uk g;have n:=Vk (Uk g).1;have b:=nxW (l:=l) (m:=m) (d:=d) p;have o:=nmi (l:=l) (m:=m) (d:=d) (e:=(D0 l m d q.b).1) (key:=key) f;have c:=nko l m d q (D0 l m d q.b).1 key;cases (cond (D0 l m d q.b).2.2 (oy l m d q (D0 l m d q.b).1 key).2.2 false)
 ·have X:ZS q:=by
   rcases a with a | a
   ·exact a.2
   ·rw[a.1] at n;cases n
  obtain⟨_,_,Z,Y⟩:=X;have e:s (q.e+q.a.c)=q.e+q.a.c:=fg;simp only[J];rw[e];refine⟨D6.2 ⟨b.1,f,i,j,k,⟨?_, ?_⟩,.inr ⟨rfl,rfl⟩⟩,rfl,b,f,rfl,rfl, ?_, ?_⟩
  ·show 0≤q.e+q.a.c;omega
  ·show q.e+q.a.c≤_;omega
  ·show q.e≤q.e+q.a.c;omega
  ·show q.e+q.a.c≤_;omega
 ·simp only[H,J];exact⟨D6.2 ⟨b.1,o,i,c.1.trans j,c.2.trans k,r,.inr ⟨rfl,rfl⟩⟩,rfl,b,o,c.1,c.2,by show q.e≤q.e;omega,by show q.e≤q.e+320;omega⟩
theorem fS{p:N}(h:Dc p=true):Tp p=true:=by unfold Dc sH at h;simp only[id,ur] at h;exact h.1
theorem nkL{Z:QI}{p:N}(a:Tp Z.b=true)(h:0≤Z.a∧Z.a≤320)(u:1≤Z.c∧Z.c≤320):Tp (jd Z p).b=true∧(0≤(jd Z p).a∧(jd Z p).a≤320)∧(1≤(jd Z p).c∧(jd Z p).c≤320):=by
 unfold jd;cases i:U5 Z p
 case false=>exact⟨a,h,u⟩
 unfold U5 at i;simp only[nB8] at i;obtain⟨j,k,F⟩:=i;unfold jH at j;simp only[nhM] at j;obtain⟨_,e,G,v,l,m⟩:=j;have m:=Vk m;have e:=Vk e;have l:Z.b.a.b=16:=by simpa using l
 unfold nZ at k;simp only[nhM] at k;obtain⟨o,H,f,q,g⟩:=k;have o:=YF.1 (Vk o);have q:=YF.1 (Vk q);have g:=of_decide_eq_false g;have f:len Z.b.a.a=s (Z.a*Z.c):=by simpa using f
 have I:=pO a;have X:=pO (fS e);simp only[len] at f q g;have K:Z.c≤Z.a*Z.c:=by have:=Int.mul_le_mul_of_nonneg_right o.1 (show 0≤Z.c by omega);omega
 have L:Z.a*Z.c≤320*320:=we h.2 u.2 (by omega) (by omega);rw[fg] at f;rw[fg] at g;simp only[va,J];rw[fg (n:=Z.c+1)];refine⟨?_,h,by omega,by omega⟩;have r:=fS e;unfold Tp yU at a r ⊢;simp only[id,ur] at a r ⊢;obtain⟨w,x,y,z,A,B,C,Y,b,M⟩:=a;obtain⟨_,_,_,_,_,_,_,_,t,_⟩:=r;have c:B5 (⟨Z.b.a.c,Z.b.a.f,Z.b.a.e,Z.b.a.d,Z.b.a.g,p.a.b,Z.b.a.h,Z.b.a.a++p.a.a⟩:EP)=true∧(Z.b.a.c==6)=true:=by
  have E:p.a.c=6:=by simpa using v
  unfold B5 Vj at b t ⊢;simp only[id,E,l] at b t ⊢;by_cases d:Z.b.a.c=6
  ·rw[d] at b ⊢;revert b t;rw[show decide (320<len (Z.b.a.a++p.a.a))=false from ja (by simp only[len,fK];omega),show decide (320<len Z.b.a.a)=false from ja (by simp only[len];omega),show decide (320<len p.a.a)=false from ja (by simp only[len];omega)];cases D Z.b.a.f 0 65535<;>cases D Z.b.a.e 0 65535<;>cases D Z.b.a.d 0 4294967295<;>cases D Z.b.a.g 0 4294967295<;>cases D Z.b.a.h 0 65535<;>cases D p.a.f 0 65535<;>cases D p.a.e 0 65535<;>cases D p.a.d 0 4294967295<;>cases D p.a.g 0 4294967295<;>cases D p.a.b 0 31<;>simp
  ·exfalso;revert b;rw[show (Z.b.a.c==6)=false by simpa using d];cases D Z.b.a.f 0 65535<;>cases D Z.b.a.e 0 65535<;>cases decide (320<len Z.b.a.a)<;>cases (Z.b.a.c==17)<;>cases (Z.b.a.d==0)<;>cases (Z.b.a.g==0)<;>simp
 refine⟨w,x,y,z,A,B,C,Y,c.1, ?_⟩;rw[c.2,m];cases decide (len (Z.b.a.a++p.a.a)≤128)<;>rfl
theorem nnj{l:u}{m:v}{d:Int}{q:S}{key:x}{p:N}{c:Bool}(h:TH q=true)(G:q.e≤999999000):TH (mY l m d q key p c).2=true∧(mY l m d q key p c).2.d=q.d∧(mY l m d q key p c).2.c.b=q.c.b∧(mY l m d q key p c).2.c.a=q.c.a∧aI q.b (mY l m d q key p c).2.b∧(mY l m d q key p c).2.e≤q.e+640:=by
 obtain⟨f,Y,o,r,s,w,b⟩:=D6.1 h;unfold mY;cases X:(cond (!(TH q)) true (cond (!(Dc p)) true ((len key) != 16)))
 case true=>exact⟨h,rfl,rfl,rfl,⟨f,rfl,rfl⟩,by show q.e≤_;omega⟩
 have t:=Vk (Uk (Uk X).2).1;cases y:(cond c (cond q.f (U5 q.a p) false) false)
 case true=>
  have a:q.f=true:=by revert y;cases c<;>cases q.f<;>simp
  have g:ZS q:=by
   rcases b with b | b
   ·exact b.2
   ·rw[b.1] at a;cases a
  exact⟨D6.2 ⟨f,Y,o,r,s,w,.inl ⟨a,nkL g.1 g.2.1 g.2.2⟩⟩,rfl,rfl,rfl,⟨f,rfl,rfl⟩,by show q.e≤_;omega⟩
 obtain⟨H,e,i,z,j,k,I,J⟩:=Rc (l:=l) (m:=m) (d:=d) (key:=key) h (by omega);have K:=pO (fS t);have A:ZS (E_ (Wd l m d q key) p):=by
  refine⟨fS t,⟨?_, ?_⟩, ?_, ?_⟩
  ·show (0:Int)≤len p.a.a;simp only[len];omega
  ·show len p.a.a≤320;simp only[len];omega
  ·show (1:Int)≤1;omega
  ·show (1:Int)≤320;omega
 have Z:TH (E_ (Wd l m d q key) p)=true:=by
  refine D6.2 ⟨i.1,z,by show dq (Wd l m d q key).2.d=true;rw[e];exact o, ?_, ?_,⟨?_, ?_⟩,.inl ⟨rfl,A⟩⟩
  ·show (Wd l m d q key).2.c.b=(Wd l m d q key).2.d.b;rw[e,j];exact r
  ·show (Wd l m d q key).2.c.a=(Wd l m d q key).2.d.a;rw[e,k];exact s
  ·show 0≤(Wd l m d q key).2.e;omega
  ·show (Wd l m d q key).2.e≤_;omega
 cases c
 ·obtain⟨B,C,D,L,E,F,M,n⟩:=Rc (l:=l) (m:=(Wd l m d q key).1) (d:=d) (key:=key) Z (by show (Wd l m d q key).2.e≤_;omega);refine⟨B,C.trans e,E.trans j,F.trans k,yh i D, ?_⟩;have n:_≤(Wd l m d q key).2.e+320:=n;exact Int.le_trans n (by omega)
 ·exact⟨Z,e,j,k,i,by show (Wd l m d q key).2.e≤_;omega⟩
theorem ni2(l:u)(m:v)(d:Int):∀(f:Nat) (q:CI) (p:G) (a:u) (n:Int),dq q=true→PM p=true→
  (dq (xa l m d f q p a n).1=true∧(xa l m d f q p a n).1.b=q.b∧(xa l m d f q p a n).1.a=q.a)∧NM p (xa l m d f q p a n).2.1
 | 0,_,_,_,_,h,hp=>⟨⟨h,rfl,rfl⟩,hp,rfl,rfl,rfl⟩
 | f+1,q,p,a,n,h,hp=>by
  simp only[xa];cases (Sf l m d q).2.2
  ·exact⟨⟨h,rfl,rfl⟩,hp,rfl,rfl,rfl⟩
  ·have b:=npI l m d q;have g:=nue (l:=[[.int (Sf l m d q).1.d]]) hp;obtain⟨⟨c,e,i⟩,j⟩:=ni2 l m d f (Sf l m d q).2.1 (Un p [[.int (Sf l m d q).1.d]]).1 (Bk l m d p (Sf l m d q).1 a) (s (n+1)) (nyU h) g.1;exact⟨⟨c,e.trans b.1,i.trans b.2⟩,noc g j⟩
theorem ndL{l:u}{m:v}{d:Int}{q:S}{p:G}{a:u}{b:Int}(h:TH q=true)(c:PM p=true):TH (sO l m d q p a b).2.1=true∧(sO l m d q p a b).2.1.e=q.e∧NM p (sO l m d q p a b).2.2.1∧aI q.b (sO l m d q p a b).2.1.b∧(sO l m d q p a b).2.1.c=q.c∧(sO l m d q p a b).2.1.d.b=q.d.b∧(sO l m d q p a b).2.1.d.a=q.d.a:=by
 obtain⟨e,k,n,o,s,t,Z⟩:=D6.1 h;unfold sO;cases (cond (!(TH q)) true (cond (!(PM p)) true (!(D b 0 1000))))
 case true=>exact⟨h,rfl,⟨c,rfl,rfl,rfl⟩,⟨e,rfl,rfl⟩,rfl,rfl,rfl⟩
 obtain⟨⟨Y,f,g⟩,i⟩:=ni2 l m d b.toNat q.d p a 0 n c;have j:=neZ (l:=l) (m:=m) (d:=d) (p:=(xa l m d b.toNat q.d p a 0).2.1) e;have w:=ns4 (l:=l) (m:=m) (d:=d) (r:=q.b) i.1;exact⟨D6.2 ⟨j.1,k,Y,o.trans f.symm,s.trans g.symm,t,Z⟩,rfl,noc i w,j,rfl,f,g⟩
def Nx(v:Ue):Prop:=(1≤v.e∧v.e≤64)∧(0≤v.d∧v.d≤64)∧(0≤v.c∧v.c≤1000000)∧(0≤v.b∧v.b≤1000000)∧(0<v.c∨v.b=0)∧v.f=(due v && !v.a)
theorem Nl{v:Ue} :iv v=true↔Nx v:=by
 obtain⟨a,b,c,t,e,f⟩:=v;have h:D a 1 64=true↔1≤a∧a≤64:=YF;have i:D b 0 64=true↔0≤b∧b≤64:=YF;have j:D c 0 1000000=true↔0≤c∧c≤1000000:=YF;have k:D t 0 1000000=true↔0≤t∧t≤1000000:=YF;unfold iv fL Nx;simp only[id];generalize due (⟨a,b,c,t,e,f⟩:Ue)=Z;rw[←h,←i,←j,←k];cases D a 1 64
 ·simp
 cases D b 0 64
 ·simp
 cases D c 0 1000000
 ·simp
 cases D t 0 1000000
 ·simp
 by_cases d:0<c
 ·rw[Hd d];cases Z<;>cases e<;>cases f<;>simp[d]
 ·rw[ja d];by_cases g:t=0
  ·subst g;cases Z<;>cases e<;>cases f<;>simp[d]
  ·simp[d,g]
theorem zj{v:Ue} :due v=true↔1≤v.c∧(v.e≤v.c∨v.d≤v.b):=by unfold due nmB;simp only[id,ur,njn,js]
theorem Ei{v:Ue}(a:1≤v.e∧v.e≤64)(b:0≤v.d∧v.d≤64)(c:0≤v.c∧v.c≤1000000)(d:0≤v.b∧v.b≤1000000)(e:0<v.c∨v.b=0)(g:v.f=true→due v=true∧v.a=false):iv (zY v)=true∧(zY v).e=v.e∧(zY v).d=v.d∧(zY v).c=v.c∧(zY v).b=v.b∧(zY v).a=v.a:=by
 unfold zY mo;simp only[id];cases f:(cond (due v) (!v.a) false)
 ·refine⟨Nl.2 ⟨a,b,c,d,e, ?_⟩,rfl,rfl,rfl,rfl,rfl⟩;show v.f=(due v && !v.a);revert g f;cases due v<;>cases v.a<;>cases v.f<;>simp
 ·refine⟨Nl.2 ⟨a,b,c,d,e, ?_⟩,rfl,rfl,rfl,rfl,rfl⟩;show true=(due v && !v.a);revert f;cases due v<;>cases v.a<;>simp
theorem Yr{v:Ue}(h:Nx v):v.f=true→due v=true∧v.a=false:=by obtain⟨_,_,_,_,_,a⟩:=h;rw[a];cases due v<;>cases v.a<;>simp
theorem nD5{v:Ue}(h:iv v=true):iv (Uw v)=true∧1≤(Uw v).c∧(Uw v).a=v.a:=by
 have b:=Nl.1 h;have d:=Yr b;obtain⟨f,g,p,i,q,_⟩:=b;have e:Uw v=zY ⟨v.e,v.d,DB (s (v.c+1)) 1000000,v.b,v.a,v.f⟩:=by unfold Uw Ur;simp only[id,h,va,J]
 have w:s (v.c+1)=v.c+1:=fg;rw[w] at e;have a:1≤DB (v.c+1) 1000000∧DB (v.c+1) 1000000≤1000000∧(DB (v.c+1) 1000000=v.c+1∨DB (v.c+1) 1000000=1000000):=by unfold DB;split<;>omega
 generalize DB (v.c+1) 1000000=M at e a;obtain⟨j,r,Z,k,t,l⟩:=Ei (v:=⟨v.e,v.d,M,v.b,v.a,v.f⟩) f g (show 0≤M∧M≤1000000 by omega) i (.inl (show 0<M by omega)) (λm=>by obtain⟨n,o⟩:=d m;refine⟨zj.2 ?_,o⟩;obtain⟨u,c⟩:=zj.1 n;refine⟨a.1,c.imp (λc=>?_) id⟩;show v.e≤M;omega)
 rw[e];exact⟨j,by rw[k];exact a.1,l⟩
theorem nBI{v:Ue}(h:iv v=true):iv (Uw v)=true:=(nD5 h).1
theorem nor{v:Ue}(h:iv v=true):iv (Rb v)=true∧(Rb v).c=v.c∧(Rb v).a=v.a:=by
 have f:=Nl.1 h;have g:=Yr f;obtain⟨i,j,k,m,n,_⟩:=f;by_cases a:0<v.c
 ·have e:Rb v=zY ⟨v.e,v.d,v.c,DB (s (v.b+1)) 1000000,v.a,v.f⟩:=by unfold Rb NJ;simp only[id,h,va,J,Hd a,H]
  have w:s (v.b+1)=v.b+1:=fg;rw[w] at e;have o:1≤DB (v.b+1) 1000000∧DB (v.b+1) 1000000≤1000000∧(DB (v.b+1) 1000000=v.b+1∨DB (v.b+1) 1000000=1000000):=by unfold DB;split<;>omega
  generalize DB (v.b+1) 1000000=M at e o;obtain⟨b,p,q,c,r,d⟩:=Ei (v:=⟨v.e,v.d,v.c,M,v.a,v.f⟩) i j k (show 0≤M∧M≤1000000 by omega) (.inl a) (λZ=>by obtain⟨t,u⟩:=g Z;refine⟨zj.2 ?_,u⟩;obtain⟨x,l⟩:=zj.1 t;refine⟨x,l.imp id (λl=>?_)⟩;show v.d≤M;omega)
  rw[e];exact⟨b,c,d⟩
 ·have e:Rb v=zY v:=by unfold Rb NJ;simp only[id,h,va,J,ja a]
  obtain⟨b,p,q,c,r,d⟩:=Ei i j k m n g;rw[e];exact⟨b,c,d⟩
theorem nud{v:Ue}(h:iv v=true):iv (Rb v)=true:=(nor h).1
theorem njo{v:Ue}(h:iv v=true):iv (jI v).1=true∧((jI v).2=false→(jI v).1=v)∧((jI v).2=true→(jI v).1.a=true):=by
 have a:=Nl.1 h;obtain⟨b,c,d,e,f,g⟩:=a;unfold jI Ug;simp only[id,h,va,J];cases v.f
 ·exact⟨h,λ_=>rfl,λh=>(by cases h)⟩
 ·refine⟨Nl.2 ⟨b,c,by show (0:Int)≤0∧(0:Int)≤1000000;omega,by show (0:Int)≤0∧(0:Int)≤1000000;omega,.inr rfl, ?_⟩,λh=>(by cases h),λ_=>rfl⟩;show false=(due _ && !true);rw[va,Bool.and_false]
theorem nkD{v:Ue}(h:iv v=true):iv (jI v).1=true:=(njo h).1
theorem nsd{v:Ue}(h:iv v=true):iv (eY v)=true∧(eY v).c=v.c∧(eY v).a=false:=by
 have a:=Nl.1 h;have b:=Yr a;obtain⟨c,d,f,g,i,_⟩:=a;have e:eY v=zY ⟨v.e,v.d,v.c,v.b,false,v.f⟩:=by unfold eY Sa;simp only[id,h,va,J]
 obtain⟨j,n,o,k,p,l⟩:=Ei (v:=⟨v.e,v.d,v.c,v.b,false,v.f⟩) c d f g i (λm=>⟨(b m).1,rfl⟩);rw[e];exact⟨j,k,l⟩
theorem nC1{v:Ue}(h:iv v=true):iv (eY v)=true:=(nsd h).1
structure kq (j:Nat) (h:z):Prop where
 mem:UO h.h
 maps:h.j=Z6
 tx:Q7 h.a=true
 fil:pY h.f=true
 ste:DA h.d (len h.b)=true
 fsm:PO h.f=true
 ssm:bu h.d=true
 n1:1≤h.b.length
 n2:h.b.length≤2
 np:h.e.length=h.b.length
 nv:h.g.length=h.b.length
 nb:h.i.length=h.b.length
 rx:∀k,k<h.b.length→TH (S.nd (q h.b k) 0)=true∧(S.nd (q h.b k) 0).e≤640*(j:Int)
 po:∀k,k<h.b.length→PM (G.nd (q h.e k) 0)=true
 ve:∀k,k<h.b.length→iv (Ue.nd (q h.g k) 0)=true
 c0:0≤h.c.b∧0≤h.c.e∧0≤h.c.c∧0≤h.c.d
 c1:h.c.a≤(j:Int)
 c2:h.c.a=h.c.b+h.c.e+h.c.c+h.c.d
 s1:h.k.length≤100+2000*j
 s2:∀r∈h.k,(Gi r 6).length≤800000*j
 wi:h.l.length≤13200*j
 co:h.n.length≤16*j
 re:h.o.length=0
theorem nAz:mC Z6=true:=by kernel_rfl
theorem nvf{l:u}{r:List DC}(h:r∈l):∃i,i<l.length∧q l i=r:=by obtain⟨i,a,e⟩:=List.getElem_of_mem h;exact⟨i,a,by rw[←e];simp[q,vL,a]⟩
theorem I3{j:Nat}{h:z}(i:kq j h)(o:j≤20):zp h=true:=by
 obtain⟨c,d,e,f⟩:=i.c0;have p:=i.c1;have Z:=i.c2;have n1:=i.n1;have n2:=i.n2;have g:SH h=false:=by
  unfold SH;rw[nfV i.mem,show mC h.j=true from by rw[i.maps];exact nAz,i.tx,i.fil,show D (len h.b) 1 2=true from YF.2 ⟨by simp only[len];omega,by simp only[len];omega⟩,
   show (len h.e != len h.b)=false from by simp[len,i.np],show (len h.g != len h.b)=false from by simp[len,i.nv],show (len h.i != len h.b)=false from by simp[len,i.nb]]
  rfl
 have l:Ot (λi=>cond (!(TH (S.nd (q h.b i) 0))) true (cond (!(PM (G.nd (q h.e i) 0))) true (!(iv (Ue.nd (q h.g i) 0))))) h.b.length 0=false:=by
  refine AZ.2 (λk _ b=>?_);have b:k<h.b.length:=by omega
  rw[(i.rx k b).1,i.po k b,i.ve k b];rfl
 have a:∀x:Int,0≤x→x≤1000000000000→D x 0 1000000000000=true:=λx m n=>YF.2 ⟨m,n⟩;unfold zp;rw[g,J,i.ste,H,l,J];simp only[hC,w9,List.all_nil,Bool.and_true,Bl];exact⟨a _ (show 0≤h.c.a by omega) (show h.c.a≤_ by omega),a _ c (show h.c.b≤_ by omega),a _ d (show h.c.e≤_ by omega),a _ e (show h.c.c≤_ by omega),a _ f (show h.c.d≤_ by omega)⟩
theorem Tk{j:Nat}{h:z}(i:kq j h)(f:j≤20):mD h=true∧Aa h=true∧fo h=true:=by
 obtain⟨b,e⟩:=ngV i.tx;have n1:=i.n1;have n2:=i.n2;have np:=i.np;have nv:=i.nv;have nb:=i.nb;have g:=i.s1;have wi:=i.wi;have co:=i.co;have c:∀r∈h.e,(df r 3).length≤16:=λr a=>by obtain⟨k,l,rfl⟩:=nvf a;exact nov (i.po k (by omega))
 simp only[yK,Bl] at b;have d:=i.fsm;simp only[PO] at d;have U:=i.ssm;simp only[bu,Bl] at U;refine⟨?_,e, ?_⟩
 ·simp only[mD,Ek,Bl,vG];refine⟨Hd (by rw[i.mem.2];omega),Hd (by rw[i.maps,nBc];omega),b.1,b.2,Hd (by omega),⟨Hd (by omega),λr a=>Hd (by have:=c r a;omega)⟩,Hd (by omega),Hd (by omega),d,U.1,U.2.1,U.2.2,Hd (by omega),Hd (by omega),Hd (by omega),Hd (by rw[i.re];omega)⟩
 ·simp only[fo,Bl,vG,js];exact⟨λr a=>by have:=c r a;omega,by omega,λr a=>by have:=i.s2 r a;omega⟩
theorem ll{j:Nat}{h:z}(i:kq j h):kq (j+1) h:=
 {i with
  rx:=λk a=>⟨(i.rx k a).1,by have:=(i.rx k a).2;omega⟩
  c1:=by have:=i.c1;omega
  s1:=by have:=i.s1;omega
  s2:=λr b=>by have:=i.s2 r b;omega
  wi:=by have:=i.wi;omega
  co:=by have:=i.co;omega}
theorem ngZ{j:Nat}{h:z}{p:N}{size a:Int}(i:kq j h):kq (j+1) (PK h p size a).1:=by
 unfold PK;cases zp h
 ·exact ll i
 ·exact {ll i with mem:=nmO i.mem,tx:=(nAp i.tx).1}
theorem nrL{q:Co}(h:Q7 q=true){r:I}(a:aI q.b r):Q7 (⟨r,q.a,q.c,q.d⟩:Co)=true:=by obtain⟨⟨f,b,c⟩,t4,d,e⟩:=PE.1 h;exact PE.2 ⟨⟨a.1,b,c⟩,by show q.c.all (wA r.a)=true;rw[a.2.2];exact t4,d,by show Rw q.c≤r.a;rw[a.2.2];exact e⟩
theorem noa{j:Nat}{h:z}(i:kq j h):kq (j+1) (ZC h):=by
 unfold ZC;cases zp h
 ·exact ll i
 ·have a:aI h.a.b (sZ h).1:=ngz (PE.1 i.tx).1.1;have b:(sZ h).2.1.length≤13200:=niW h.j h.h 0 h.a.b;have c:(d7 h).2.length≤h.a.c.length:=nA3 _ _;have d:=(nhF i.tx).2.1;have wi:=i.wi;have co:=i.co;exact {ll i with
   tx:=(ndw (nrL i.tx a)).1
   wi:=by show (h.l++(sZ h).2.1).length≤_;rw[fK];omega
   co:=by show (h.n++(d7 h).2).length≤_;rw[fK];omega}
theorem ny7{j:Nat}{h:z}(i:kq j h):kq (j+1) (Xa h):=by
 unfold Xa;cases zp h
 ·exact ll i
 ·exact {ll i with
   nv:=by show (h.g.map wH).length=_;rw[List.length_map];exact i.nv
   ve:=λk a=>by show iv (Ue.nd (q (h.g.map wH) k) 0)=true;rw[zx wH (show k<h.g.length by rw[i.nv];exact a)];exact nud (i.ve k a)}
theorem Vt(c:Nat):∀(m i:Nat) (v:u),c<v.length→(∀k,k<v.length→iv (Ue.nd (q v k) 0)=true)→∀k,k<v.length→iv (Ue.nd (q (kM (λ_ v=>u2 v c (Zj (q v c))) m i v) k) 0)=true
 | 0,_,_,_,h=>h
 | m+1,i,v,hc,h=>by
  intro k a;refine Vt c m (i+1) (u2 v c (Zj (q v c))) (by rw[vo];exact hc) (λk a=>?_) k (by rw[vo];exact a);rw[vo] at a;by_cases e:c=k
  ·subst e;rw[O6 hc];exact nBI (h c hc)
  ·rw[fU e];exact h k a
theorem zd{P:List DC→Prop}{l:u}{c:Nat}{x:List DC}(h:∀k,k<l.length→P (q l k))(b:P x):∀k,k<(u2 l c x).length→P (q (u2 l c x) k):=by
 intro k a;rw[vo] at a;by_cases e:c=k
 ·subst e;rw[O6 a];exact b
 ·rw[fU e];exact h k a
theorem nck{j:Nat}{h:z}(i:kq j h)(a:j≤20):s (h.c.a+1)=h.c.a+1∧s (h.c.b+1)=h.c.b+1∧s (h.c.e+1)=h.c.e+1∧s (h.c.c+1)=h.c.c+1∧s (h.c.d+1)=h.c.d+1:=by obtain⟨b,c,d,e⟩:=i.c0;have f:=i.c1;have g:=i.c2;exact⟨fg,fg,fg,fg,fg⟩
theorem nne{j:Nat}{h:z}{f:x}(i:kq j h)(s:j≤20):kq (j+1) (rC h f)∧(rC h f).c.a=h.c.a+1:=by
 obtain⟨n,u,v,w,Z⟩:=nck i s;obtain⟨c1,c2,o,q⟩:=i.c0;have B:=i.c1;have C:=i.c2;unfold rC;rw[I3 i s];simp only[va,J];have b:=ll i;cases (aA f).2 != 0
 case true=>
  rw[n,u];exact⟨{b with c0:=⟨by show 0≤h.c.b+1;omega,c2,o,q⟩,c1:=by show h.c.a+1≤_;omega,c2:=by show h.c.a+1=h.c.b+1+h.c.e+h.c.c+h.c.d;omega},rfl⟩
 cases !(lj h.f (aA f).1)
 case true=>
  rw[n,v];exact⟨{b with c0:=⟨c1,by show 0≤h.c.e+1;omega,o,q⟩,c1:=by show h.c.a+1≤_;omega,c2:=by show h.c.a+1=h.c.b+(h.c.e+1)+h.c.c+h.c.d;omega},rfl⟩
 cases a:decide (Ff h f<0)
 case true=>
  rw[n,w];exact⟨{b with c0:=⟨c1,c2,by show 0≤h.c.c+1;omega,q⟩,c1:=by show h.c.a+1≤_;omega,c2:=by show h.c.a+1=h.c.b+h.c.e+(h.c.c+1)+h.c.d;omega},rfl⟩
 have a:=of_decide_eq_false a;have e:0≤Ff h f∧Ff h f<len h.b:=by
  rcases ya h.d (len h.b) (aA f).1 with e | e
  ·exact absurd (show Ff h f<0 by unfold Ff;omega) a
  ·exact e
 obtain⟨c,t⟩:∃c:Nat,Ff h f=(c:Int):=⟨(Ff h f).toNat,by omega⟩;have y:c<h.b.length:=by rw[t] at e;simp only[len] at e;omega
 obtain⟨Y,D⟩:=i.rx c y;have nv:=i.nv;simp only[J];unfold Nc DV ia;rw[n,Z,t,eR];obtain⟨A,E,F,G,H,I⟩:=nnj (l:=h.j) (m:=h.h) (d:=0) (key:=h.d.b.b) (p:=(aA f).1) (c:=h.m) Y (by omega);refine⟨{b with
  mem:=nl6 i.mem
  ste:=by show DA h.d (len (u2 h.b c _))=true;simp only[len,vo];exact i.ste
  n1:=by show 1≤(u2 h.b c _).length;rw[vo];exact i.n1
  n2:=by show (u2 h.b c _).length≤2;rw[vo];exact i.n2
  np:=by show _=(u2 h.b c _).length;rw[vo];exact i.np
  nv:=by show (kM _ _ 0 h.g).length=(u2 h.b c _).length;rw[vo,nEb];exact i.nv
  nb:=by show _=(u2 h.b c _).length;rw[vo];exact i.nb
  rx:=zd (P:=λr=>TH (S.nd r 0)=true∧(S.nd r 0).e≤640*((j+1:Nat):Int)) b.rx ⟨A,by rw[oP];omega⟩
  po:=λk g=>b.po k (by rw[vo] at g;exact g)
  ve:=λk g=>by rw[vo] at g;exact Vt c _ 0 h.g (by omega) (λk g=>i.ve k (by omega)) k (by omega)
  c0:=⟨c1,c2,o,by show 0≤h.c.d+1;omega⟩
  c1:=by show h.c.a+1≤_;omega
  c2:=by show h.c.a+1=h.c.b+h.c.e+h.c.c+(h.c.d+1);omega},rfl⟩
def vi(j:Nat)(h:z)(i:Nat)(o:z):Prop:=X_ h i o∧UO o.h∧(∀k,k<o.b.length→TH (S.nd (q o.b k) 0)=true∧(S.nd (q o.b k) 0).e≤640*((j+1:Nat):Int))∧∀k,k<o.b.length→iv (Ue.nd (q o.g k) 0)=true
theorem B4{j:Nat}{h:z}(i:kq j h)(c:j≤20):∀(m Z:Nat) (o:z),Z+m=h.b.length→vi j h Z o→vi j h (Z+m) (kM (qK h) m Z o)
 | 0,_,_,_,ho=>ho
 | m+1,Z,o,hm,ho=>by
  obtain⟨b,e,f,g⟩:=ho;have n:Z<h.b.length:=by omega
  obtain⟨p,t⟩:=i.rx Z n;obtain⟨s,u,v,w,x,y,Y,A⟩:=Rc (l:=h.j) (m:=o.h) (d:=0) (key:=h.d.b.b) p (by omega);have nv:=i.nv;have B:o.g.length=h.g.length:=b.2.2.2.1;have C:o.b.length=h.b.length:=b.2.2.1;have this:=B4 i c m (Z+1) (qK h Z o) (by omega) ⟨XE b,cD e,zd (P:=λr=>TH (S.nd r 0)=true∧(S.nd r 0).e≤640*((j+1:Nat):Int)) f ⟨s,by
   rw[oP];show (Wd h.j o.h 0 (S.nd (q h.b Z) 0) h.d.b.b).2.e≤_;omega⟩,λk a=>by
   have a:k<(u2 o.b Z _).length:=a;rw[vo] at a;exact Vt Z _ 0 o.g (by omega) (λk a=>g k (by omega)) k (by omega)⟩
  rw[show Z+(m+1)=Z+1+m by omega];exact this
theorem nB0{j:Nat}{h:z}(i:kq j h)(b:j≤20):kq (j+1) (Ys h):=by
 unfold Ys;rw[I3 i b,H];have c:=ll i;obtain⟨⟨d,n,a,e,p⟩,f,g,l⟩:=B4 i b h.b.length 0 h (by omega) ⟨⟨rfl,rfl,rfl,rfl,λ_ _=>rfl⟩,i.mem,c.rx,i.ve⟩;generalize kM (qK h) h.b.length 0 h=o at*;have nv:=i.nv;rw[d];exact {c with
  mem:=f
  ste:=by show DA h.d (len o.b)=true;simp only[len,a];exact i.ste
  n1:=by show 1≤o.b.length;rw[a];exact i.n1
  n2:=by show o.b.length≤2;rw[a];exact i.n2
  np:=by show _=o.b.length;rw[a];exact i.np
  nv:=by show o.g.length=o.b.length;rw[a,e];exact i.nv
  nb:=by show _=o.b.length;rw[a];exact i.nb
  rx:=g
  po:=λk m=>i.po k (by rw[←a];exact m)
  ve:=l}
structure hI (j:Nat) (h:z) (i:Nat) (o:z):Prop where
 eq:o= {h with h:=o.h,b:=o.b,e:=o.e,g:=o.g,i:=o.i,k:=o.k}
 mem:UO o.h
 nr:o.b.length=h.b.length
 np:o.e.length=h.b.length
 nv:o.g.length=h.b.length
 nb:o.i.length=h.b.length
 rx:∀k,k<o.b.length→TH (S.nd (q o.b k) 0)=true∧(S.nd (q o.b k) 0).e≤640*((j+1:Nat):Int)
 po:∀k,k<o.e.length→PM (G.nd (q o.e k) 0)=true
 ve:∀k,k<o.g.length→iv (Ue.nd (q o.g k) 0)=true
 s1:o.k.length≤100+2000*j+1000*i
 s2:∀r∈o.k,(Gi r 6).length≤800000*j+400000*i
theorem npU{A B j q n:Nat}(h:n≤(A*j+B*q)+B):n≤A*j+B*(q+1):=by rw[Nat.mul_add,Nat.mul_one,←Nat.add_assoc];exact h
theorem yj{j:Nat}{h:z}{ew:Int} :∀(m Y:Nat) (o:z×Int),Y+m≤h.b.length→hI j h Y o.1→hI j h (Y+m) (kM (dj ew) m Y o).1
 | 0,_,_,_,e=>e
 | m+1,Y,(o,t),hm,e=>by
  have e:hI j h Y o:=e;have s:Y<o.b.length:=by have:=e.nr;omega
  obtain⟨Z,w⟩:=e.rx Y s;have np:=e.np;have nv:=e.nv;have nb:=e.nb;have nr:=e.nr;have y:=e.po Y (by omega);have v1:=e.ve Y (by omega);obtain⟨N,O,Q,X⟩:=noM o.j o.h 0 (S.nd (q o.b Y) 0) (G.nd (q o.e Y) 0) o.k ew _ e.s2;obtain⟨A,B,C,R,ahy,T,U⟩:=ndL (l:=o.j) (m:=o.h) (d:=0) (a:=o.k) (b:=ew) Z y;have D:∀r∈(VC o Y ew).2.2.2.1,(Gi r 6).length≤(800000*j+400000*Y)+400000:=X;have E:=Pq (l:=o.j) (d:=0) (q:=S.nd (q o.b Y) 0) (p:=G.nd (q o.e Y) 0) (a:=o.k) (b:=ew) e.mem;have f:iv (bx o Y).1=true:=nkD v1;have F:iv (eY (bx o Y).1)=true:=nC1 f;have g:∀v:Ue,iv v=true→∀k,k<(u2 o.g Y (Ue.enc v)).length→iv (Ue.nd (q (u2 o.g Y (Ue.enc v)) k) 0)=true:=λv ahA=>zd (P:=λr=>iv (Ue.nd r 0)=true) e.ve ahA;have H:=zd (P:=λr=>TH (S.nd r 0)=true∧(S.nd r 0).e≤640*((j+1:Nat):Int)) (c:=Y) (x:=S.enc (VC o Y ew).2.1) e.rx ⟨A,by rw[oP];show (sO o.j o.h 0 (S.nd (q o.b Y) 0) (G.nd (q o.e Y) 0) o.k ew).2.1.e≤_;rw[B];exact w⟩;have I:=zd (P:=λr=>PM (G.nd r 0)=true) (c:=Y) (x:=G.enc (VC o Y ew).2.2.1) e.po C.1;have n:∀(b:Bool) (x:List DC),(cond b (u2 o.i Y x) o.i).length=h.b.length:=λb x=>by
   cases b
   ·exact nb
   ·exact (vo ..).trans nb
  have W:∀(V L:u),V.length=o.g.length→L.length=h.b.length→(∀k,k<V.length→iv (Ue.nd (q V k) 0)=true)→
    hI j h (Y+1) {o with h:=(VC o Y ew).1,b:=u2 o.b Y (S.enc (VC o Y ew).2.1),e:=u2 o.e Y (G.enc (VC o Y ew).2.2.1),k:=(VC o Y ew).2.2.2.1,g:=V,i:=L} :=λV L J K M=>
   {eq:=by have this:=congrArg (λx:z=>({x with h:=(VC o Y ew).1,b:=u2 o.b Y (S.enc (VC o Y ew).2.1),e:=u2 o.e Y (G.enc (VC o Y ew).2.2.1),k:=(VC o Y ew).2.2.2.1,g:=V,i:=L} :z)) e.eq;exact this
    mem:=E
    nr:=(vo ..).trans nr
    np:=(vo ..).trans np
    nv:=J.trans nv
    nb:=K
    rx:=H
    po:=I
    ve:=M
    s1:=by show (VC o Y ew).2.2.2.1.length≤_;have:=e.s1;unfold VC;omega
    s2:=λr i=>npU (D r i)}
  have this:=yj (j:=j) (h:=h) (ew:=ew) m (Y+1) (dj ew Y (o,t)) (by omega) (by
   unfold dj;simp only[];cases (!(cond (bx o Y).2 true (Dd (q o.i Y) 0)))
   ·cases decide ((VC o Y ew).2.2.2.2<ew)
    ·exact W _ _ (vo ..) (n _ _) (g _ f)
    ·exact W _ _ (vo ..) ((vo ..).trans nb) (g _ F)
   ·have this:=congrArg (λx:z=>({x with g:=u2 o.g Y (Ue.enc (bx o Y).1),i:=cond (bx o Y).2 (u2 o.i Y [.bool true]) o.i} :z)) e.eq;exact⟨this,e.mem,nr,np,(vo ..).trans nv,n _ _,e.rx,e.po,g _ f,by have:=e.s1;show o.k.length≤_;omega,λr i=>by have:=e.s2 r i;omega⟩)
  rw[show Y+(m+1)=Y+1+m by omega];exact this
theorem npw{j:Nat}{h:z}{ew:Int}(i:kq j h):kq (j+1) (uf h ew).1:=by
 unfold uf;have b:=ll i;cases (cond (!(zp h)) true (!(D ew 1 1000)))
 case true=>exact b
 have nr:=i.n2;have this:=yj (ew:=ew) h.b.length 0 (h,0) (by omega) (show hI j h 0 h from
  {eq:=rfl,mem:=i.mem,nr:=rfl,np:=i.np,nv:=i.nv,nb:=i.nb,rx:=b.rx,po:=λk a=>i.po k (by rw[←i.np];exact a),ve:=λk a=>i.ve k (by rw[←i.nv];exact a)
   s1:=by have:=i.s1;omega
   s2:=λr c=>by have:=i.s2 r c;omega})
 simp only[J];generalize (kM (dj ew) h.b.length 0 (h,0)).1=o at*;rw[this.eq];exact {b with
  mem:=this.mem
  ste:=by show DA h.d (len o.b)=true;simp only[len,this.nr];exact i.ste
  n1:=by show 1≤o.b.length;rw[this.nr];exact i.n1
  n2:=by show o.b.length≤2;rw[this.nr];exact i.n2
  np:=this.np.trans this.nr.symm
  nv:=this.nv.trans this.nr.symm
  nb:=this.nb.trans this.nr.symm
  rx:=this.rx
  po:=λk a=>this.po k (by show k<o.e.length;rw[this.np,←this.nr];exact a)
  ve:=λk a=>this.ve k (by show k<o.g.length;rw[this.nv,←this.nr];exact a)
  s1:=by have:=this.s1;show o.k.length≤_;omega
  s2:=λr c=>by have:=this.s2 r c;omega}
theorem dx{n a b:Int} :D n a b=true↔a≤n∧n≤b:=YF
def aw(l:u)(a:Nat):Option UInt8:=(Gi (q l (a / 128)) 0)[a % 128]?
theorem ngn{l:u}(f:fP l){p:Nat}{s:x}(i:p % 128+s.length≤128)(d:p / 128<l.length)(b:Nat):aw (e8 l p s) b=if p≤b∧b<p+s.length then s[b - p]? else aw l b:=by
 obtain⟨P,g,j⟩:=f (p / 128) d;unfold aw e8;rw[nuO l _ _ _ d];by_cases a:b / 128=p / 128
 ·rw[if_pos a,a,g];show (EO P (p % 128) s)[b % 128]? =if _ then _ else P[b % 128]?;unfold EO;rw[List.take_of_length_le (show s.length≤128 - p % 128 by omega),Nat.min_eq_left (show s.length≤128 - p % 128 by omega)];have h:(P.take (p % 128)).length=p % 128:=by rw[xd];omega
  rw[y1,h];by_cases c:b % 128<p % 128
  ·rw[if_pos c,if_neg (by omega),xe c]
  ·rw[if_neg c,y1];by_cases e:b % 128 - p % 128<s.length
   ·rw[if_pos e,if_pos (by omega)]
    congr 1
    omega
   ·rw[if_neg e,if_neg (by omega),xf]
    congr 1
    omega
 ·rw[if_neg a,if_neg (by omega)]
theorem na2{l:u}(c:fP l)(d:l.length≤64){p:Nat}{s:x}(f:p % 128+s.length≤128)(g:p / 128<l.length)(b:Nat):aw (jc (⟨l⟩:v) (p:Int) s).1.a b=if p≤b∧b<p+s.length then s[b - p]? else aw l b:=by
 unfold jc;rw[show within (⟨l⟩:v) (p:Int) (len s)=true from Xr c d (n:=s.length) (by omega)];simp only[va,J,eR];cases s with
 | nil=>rw[if_neg (by simp only[vF];omega)];rfl
 | cons Z a=>
  have e:jY (Z::a).length p (Z::a) l=e8 l p (Z::a):=by show jY (a.length+1) p (Z::a) l=_;unfold jY;rw[Hd (show 0<(Z::a).length by simp),H,x4 (show (Z::a).length≤min (Z::a).length (128 - p % 128) by omega),nf8]
  rw[e];exact ngn c f g b
theorem ncv{l:u}(a:fP l)(b:l.length≤64){p k:Nat}(f:p % 128+k≤128)(d:p / 128<l.length)(g:1≤k):(pD (⟨l⟩:v) (p:Int) (k:Int)).1.length=k∧∀i,i<k→(pD (⟨l⟩:v) (p:Int) (k:Int)).1[i]? =aw l (p+i):=by
 unfold pD;rw[Xr a b (n:=k) (by omega)];simp only[va,J,eR];have h:=Oc a (n:=k) d;obtain⟨k,rfl⟩:=DF k;have e:ny (k+1) p (k+1) l=UF l p (k+1):=by
  unfold ny;rw[Hd (show 0<k+1 by omega),H,show k+1 - min (k+1) (128 - p % 128)=0 by omega];have:ny k (p+min (k+1) (128 - p % 128)) 0 l=[]:=by
   cases k<;>rfl
  rw[this,xb]
 rw[e];refine⟨by omega,λi j=>?_⟩;unfold UF aw;rw[xe (by omega),xf];rw[show (p+i) / 128=p / 128 by omega]
 congr 1
 omega
def v8(a:Nat):Nat:=(37 - a / 128)*128+a % 128
def xl(m:v)(a:Nat):Option UInt8:=aw m.a (v8 a)
def WN:u→Nat→Nat→Prop
 | [],_,n=>n=0
 | r::rs,a,n=>∃k:Nat,r=[.int ((v8 a:Nat):Int),.int (k:Int)]∧1≤k∧k≤n∧a % 128+k≤128∧a+n≤4864∧WN rs (a+k) (n - k)
theorem niz:∀(rs:u) (a:Nat) (s:x) (l:u),WN rs a s.length→fP l→l.length=38→∀b,b<4864→aw (cS rs s l) (v8 b)=if a≤b∧b<a+s.length then s[b - a]? else aw l (v8 b)
 | [],a,s,l,h,_,_,b,_=>by have h:s.length=0:=h;rw[if_neg (by omega)];rfl
 | Y::rs,a,s,l,h,hp,hl,b,hb=>by
  obtain⟨k,rfl,o,q,t,Z,f⟩:=h;have i:r [DC.int ((v8 a:Nat):Int),DC.int (k:Int)] 0=((v8 a:Nat):Int):=rfl;have j:r [DC.int ((v8 a:Nat):Int),DC.int (k:Int)] 1=(k:Int):=rfl;rw[cS,i,j,eR];have c:=VW (a:=((v8 a:Nat):Int)) (s:=s.take k) hp (by omega);have m:(s.take k).length=k:=by rw[xd];omega
  have X:v8 a / 128=37 - a / 128∧v8 a % 128=a % 128:=by unfold v8;omega
  have g:=na2 hp (by omega) (p:=v8 a) (s:=s.take k) (by omega) (by omega) (v8 b);have n:=niz rs (a+k) (s.drop k) (jc (⟨l⟩:v) ((v8 a:Nat):Int) (s.take k)).1.a (by rw[List.length_drop];exact f) c.1 (c.2.trans hl) b hb;rw[n,g,m,List.length_drop];by_cases d:a+k≤b∧b<a+k+(s.length - k)
  ·rw[if_pos d,if_pos (by omega),xf]
   congr 1
   omega
  ·rw[if_neg d];by_cases e:a≤b∧b<a+s.length
   ·rw[if_pos e,if_pos (by unfold v8;omega),xe (by unfold v8;omega)]
    congr 1
    unfold v8;omega
   ·rw[if_neg e,if_neg (by unfold v8;omega)]
theorem npZ:∀(m i:Nat) (o:u),kM (λi o=>o++[Xi i]) m i o=o++(List.range' i m).map Xi
 | 0,_,_=>by simp[kM]
 | m+1,i,o=>by rw[kM,npZ m (i+1) _,vJ,List.range'_succ];rfl
theorem nAX{i:Nat}(h:i<38):q Z6 i=Xi i:=by unfold Z6;rw[npZ 38 0 [],xI];simp[q,vL,h]
theorem nc_(v:Int):(0≤v∧v<38∧uW Z6 0 v=v)∨(¬(0≤v∧v<38)∧uW Z6 0 v= -1):=by
 have a:=xP (λ_ Z=>cond ((r Z 0)==0) ((r Z 1)==v) false) Z6 0;have e:uW Z6 0 v=findIdx (λ_ Z=>cond ((r Z 0)==0) ((r Z 1)==v) false) Z6 0:=rfl;have b:∀i:Nat,i<38→((cond ((r (q Z6 i) 0)==0) ((r (q Z6 i) 1)==v) false)=true↔(i:Int)=v):=λi f=>by rw[nAX f,show r (Xi i) 0=0 from rfl,show r (Xi i) 1=(i:Int) from rfl];simp
 rw[e];rw[nBc] at a;rcases a with ⟨g,j⟩ | ⟨i,k,l,m⟩
 ·refine .inr ⟨λh=>?_,g⟩;obtain⟨c,rfl⟩:∃c:Nat,v=(c:Int):=⟨v.toNat,by omega⟩;have d:=j c (by omega);rw[(b c (by omega)).2 rfl] at d;cases d
 ·have:=(b i k).1 m;exact .inl ⟨by omega,by omega,by rw[l];omega⟩
theorem nu3{a:Nat}(g:a≤1000000)(w:Bool):(place Z6 0 (a:Int) w= -1∧(w=true∨4864≤a))∨(a<4864∧place Z6 0 (a:Int) w=((v8 a:Nat):Int)):=by
 unfold place N3;rw[ja (show ¬(a:Int)<0 by omega),J,WG,lS,fg (n:=((a / 128:Nat):Int))];rcases nc_ ((a / 128:Nat):Int) with ⟨c,b,d⟩ | ⟨c,b⟩
 ·have e:a / 128<38:=by omega
  rw[d,eR,nAX e,ja (show ¬((a / 128:Nat):Int)<0 by omega),J,show r (Xi (a / 128)) 2=s (37 - ((a / 128:Nat):Int)) from rfl,fg (n:=37 - ((a / 128:Nat):Int)),fg (n:=(37 - ((a / 128:Nat):Int))*128),fg];cases f:(cond w (!(Dd (Xi (a / 128)) 3)) false)
  ·refine .inr ⟨by omega, ?_⟩;rw[J];unfold v8;omega
  ·cases w
   ·cases f
   ·exact .inl ⟨rfl,.inl rfl⟩
 ·rw[b];exact .inl ⟨rfl,.inr (by omega)⟩
theorem nsy{c:u}{write:Bool} :∀(q a n:Nat) (o:u),n<q→n≤4096→a+n≤1000000→(XI Z6 0 write c q (a:Int) (n:Int) o).2=true→∃rs,(XI Z6 0 write c q (a:Int) (n:Int) o).1=o++rs∧WN rs a n
 | 0,a,n,o,h1,_,_,_=>by omega
 | q+1,a,n,o,h1,h3,h4,h5=>by
  unfold XI at h5 ⊢;by_cases l:0<n
  ·rw[Hd (show 0<(n:Int) by omega),H] at h5 ⊢;have f:DB (n:Int) (s (128 - u3 (a:Int) 128))=((min n (128 - a % 128):Nat):Int):=by rw[lS,fg];unfold DB;split<;>omega
   rw[f] at h5 ⊢;generalize m:min n (128 - a % 128)=k at h5 ⊢;have g:s ((a:Int)+(k:Int))=((a+k:Nat):Int):=by rw[fg];omega
   have h:s ((n:Int) - (k:Int))=((n - k:Nat):Int):=by rw[fg];omega
   rw[g,h] at h5 ⊢;rw[ja (show ¬((a+k:Nat):Int)<0 by omega),J,J] at h5 ⊢;rcases nu3 (show a≤1000000 by omega) write with ⟨d,_⟩ | ⟨d,i⟩
   ·rw[d] at h5;cases h5
   ·rw[i] at h5 ⊢;rw[ja (show ¬((v8 a:Nat):Int)<0 by omega),J] at h5 ⊢;cases e:within (⟨c⟩:v) ((v8 a:Nat):Int) (k:Int)
    ·rw[e] at h5;cases h5
    ·rw[e] at h5;simp only[va,J] at h5 ⊢;obtain⟨rs,j,b⟩:=nsy q (a+k) (n - k) _ (by omega) (by omega) (by omega) h5;refine⟨[.int ((v8 a:Nat):Int),.int (k:Int)]::rs,by rw[j,vJ];rfl,k,rfl,by omega,by omega,by omega, ?_,b⟩;cases rs with
     | nil=>
      have b:n - k=0:=b;omega
     | cons r rs=>
      obtain⟨_,_,_,_,_,p,_⟩:=b;omega
  ·rw[ja (show ¬0<(n:Int) by omega),J] at h5 ⊢;exact⟨[],by simp,show n=0 by omega⟩
theorem nL1{c:u}(d:fP c)(e:c.length=38):∀(q a n:Nat) (o:u),n≤4096→a+n≤4864→(XI Z6 0 false c q (a:Int) (n:Int) o).2=true
 | 0,a,n,o,_,_=>rfl
 | q+1,a,n,o,h3,h4=>by
  unfold XI;by_cases i:0<n
  ·rw[Hd (show 0<(n:Int) by omega),H];have f:DB (n:Int) (s (128 - u3 (a:Int) 128))=((min n (128 - a % 128):Nat):Int):=by rw[lS,fg];unfold DB;split<;>omega
   rw[f];generalize j:min n (128 - a % 128)=k;have g:s ((a:Int)+(k:Int))=((a+k:Nat):Int):=by rw[fg];omega
   have h:s ((n:Int) - (k:Int))=((n - k:Nat):Int):=by rw[fg];omega
   rw[g,h];rw[ja (show ¬((a+k:Nat):Int)<0 by omega),J,J];rcases nu3 (show a≤1000000 by omega) false with ⟨_,b⟩ | ⟨l,b⟩
   ·rcases b with b | b
    ·cases b
    ·omega
   ·rw[b,ja (show ¬((v8 a:Nat):Int)<0 by omega),J,Xr d (by omega) (by unfold v8;omega)];exact nL1 d e q (a+k) (n - k) _ (by omega) (by omega)
  ·rw[ja (show ¬0<(n:Int) by omega),J]
theorem nBA{m:v}{a n:Nat}{w:Bool}(f:a≤500000)(h:(Av Z6 m 0 (a:Int) (n:Int) w).2=true):WN (Av Z6 m 0 (a:Int) (n:Int) w).1 a n:=by
 unfold Av at h ⊢;cases b:(cond (!(mC Z6)) true (cond (!(Km m)) true (!(D (n:Int) 0 4096))))
 case true=>rw[b] at h;cases h
 have g:=dx.1 (Vk (Uk (Uk b).2).2);rw[b,J] at h;rw[J];by_cases c:n=0
 ·subst c;exact rfl
 ·rw[show ((n:Int)==0)=false by simpa using c,J,ja (show ¬(a:Int)<0 by omega),J,eR] at h ⊢;obtain⟨rs,d,e⟩:=nsy (n+1) a n [] (by omega) (by omega) (by omega) h;rw[d];exact e
theorem nci{m:v}(c:UO m){a:Nat}{s:x}{w:Bool}(d:a≤500000):((put Z6 m 0 (a:Int) s w).2=false∧(put Z6 m 0 (a:Int) s w).1=m)∨((put Z6 m 0 (a:Int) s w).2=true∧∀b,b<4864→xl (put Z6 m 0 (a:Int) s w).1 b=if a≤b∧b<a+s.length then s[b - a]? else xl m b):=by
 unfold put;cases e:(Av Z6 m 0 (a:Int) (len s) w).2
 ·exact .inl ⟨rfl,rfl⟩
 ·exact .inr ⟨rfl,niz _ a s m.a (nBA d e) c.1 c.2⟩
theorem nAw{m:v}(d:UO m){a:Nat}{s:x}{w:Bool}(e:a≤500000){b:Nat}(f:b<4864)(h:b<a∨a+s.length≤b):xl (put Z6 m 0 (a:Int) s w).1 b=xl m b:=by
 rcases nci d (s:=s) (w:=w) e with ⟨_,c⟩ | ⟨_,c⟩
 ·rw[c]
 ·rw[c b f,if_neg (by omega)]
theorem njB{m:v}(b:UO m):∀(rs:u) (a n:Nat) (o:x),WN rs a n→(rs.foldl (λo Y=>o++(pD m (r Y 0) (r Y 1)).1) o).length=o.length+n∧(∀i,i<o.length→(rs.foldl (λo Y=>o++(pD m (r Y 0) (r Y 1)).1) o)[i]? =o[i]?)∧∀i,i<n→(rs.foldl (λo Y=>o++(pD m (r Y 0) (r Y 1)).1) o)[o.length+i]? =xl m (a+i)
 | [],a,n,o,h=>by have h:n=0:=h;subst h;exact⟨rfl,λ_ _=>rfl,λi c=>absurd c (vO i)⟩
 | Y::rs,a,n,o,h=>by
  obtain⟨k,rfl,l,w,W,y,q⟩:=h;have s:r [DC.int ((v8 a:Nat):Int),DC.int (k:Int)] 0=((v8 a:Nat):Int):=rfl;have t:r [DC.int ((v8 a:Nat):Int),DC.int (k:Int)] 1=(k:Int):=rfl;have z:v8 a / 128=37 - a / 128∧v8 a % 128=a % 128:=by unfold v8;omega
  have A:=b.2;obtain⟨d,e⟩:=ncv b.1 (Q1 b) (p:=v8 a) (k:=k) (by omega) (by omega) l;rw[List.foldl_cons,s,t];generalize g:(pD m ((v8 a:Nat):Int) (k:Int)).1=R;replace d:R.length=k:=by rw[←g];exact d
  replace e:∀i,i<k→R[i]? =aw m.a (v8 a+i):=by rw[←g];exact e
  obtain⟨Z,f,j⟩:=njB b rs (a+k) (n - k) (o++R) q;rw[fK,d] at Z f j;refine⟨by omega,λi c=>?_,λi c=>?_⟩
  ·rw[f i (by omega),xJ c]
  ·by_cases X:i<k
   ·rw[f (o.length+i) (by omega),List.getElem?_append_right (by omega),show o.length+i - o.length=i by omega,e i X];unfold xl
    congr 1
    unfold v8;omega
   ·have:=j (i - k) (by omega);rw[show o.length+k+(i - k)=o.length+i by omega,show a+k+(i - k)=a+i by omega] at this;exact this
theorem nEH{m:v}(b:UO m){a n:Nat}(g:n≤4096)(h:a+n≤4864):(Eo Z6 m 0 (a:Int) (n:Int)).2=true∧(Eo Z6 m 0 (a:Int) (n:Int)).1.length=n∧∀i,i<n→(Eo Z6 m 0 (a:Int) (n:Int)).1[i]? =xl m (a+i):=by
 have c:(Av Z6 m 0 (a:Int) (n:Int) false).2=true:=by
  unfold Av;rw[nAz,nfV b,show D (n:Int) 0 4096=true from dx.2 ⟨by omega,by omega⟩];simp only[va,J];by_cases d:n=0
  ·subst d;rfl
  ·rw[show ((n:Int)==0)=false by simpa using d,J,ja (show ¬(a:Int)<0 by omega),J,eR];exact nL1 b.1 b.2 (n+1) a n [] g h
 have j:=nBA (w:=false) (m:=m) (show a≤500000 by omega) c;unfold Eo;rw[c];obtain⟨e,k,f⟩:=njB b _ a n [] j;simp only[vF,vH] at e f;exact⟨rfl,e,f⟩
theorem nuR{m:v}(c:UO m){a n:Nat}(d:n≤4096)(h:a+n≤4864){s:x}(j:s.length=n)(e:∀i,i<n→xl m (a+i)=s[i]?):Eo Z6 m 0 (a:Int) (n:Int)=(s,true):=by
 obtain⟨f,k,g⟩:=nEH c d h;refine Prod.ext ?_ f;refine List.ext_getElem? (λi=>?_);by_cases b:i<n
 ·rw[g i b,e i b]
 ·rw[y3 (by omega),y3 (show s.length≤i by omega)]
theorem nav{m c:v}(e:UO m)(f:UO c){a n:Nat}(d:n≤4096)(h:a+n≤4864)(g:∀b,a≤b→b<a+n→xl c b=xl m b):Eo Z6 c 0 (a:Int) (n:Int)=Eo Z6 m 0 (a:Int) (n:Int):=by obtain⟨j,k,l⟩:=nEH e d h;have:=nuR f d h k (λi o=>by rw[g (a+i) (by omega) (by omega),l i o]);rw[this];exact Prod.ext rfl j.symm
def u_(k:Nat):Nat:=1280+1792*k
def Xl(a c:Nat)(m d:v):Prop:=∀b,b<4864→(b<a∨c≤b)→xl d b=xl m b
theorem Zp(a b:Nat)(m:v):Xl a b m m:=λ_ _ _=>rfl
theorem l5{a c:Nat}{m d e:v}(h:Xl a c m d)(k:Xl a c d e):Xl a c m e:=λb f g=>(k b f g).trans (h b f g)
theorem xU{m:v}(e:UO m){Z:Int}{s:x}{w:Bool}{d c:Nat}(g:(d:Int)≤Z)(i:Z+s.length≤(c:Int))(j:c≤4864):Xl d c m (put Z6 m 0 Z s w).1:=by obtain⟨a,rfl⟩:∃a:Nat,Z=(a:Int):=⟨Z.toNat,by omega⟩;exact λb f h=>nAw e (by omega) f (by omega)
theorem ZN{r:I}(h:Vd r=true){c:Int}(a:0≤c):lO r c=r.b+c % r.a*16∧0≤c % r.a∧c % r.a<r.a:=by obtain⟨e,f,g,i,j,k,l,m,o⟩:=Xz h;have p:=nBL h;have b:=vQ c (show r.a≠0 by omega);have d:=wv c (show 0<r.a by omega);refine⟨?_,b,d⟩;unfold lO;rw[h,ja (show ¬c<0 by omega)];simp only[va,J];rw[vR a,fg (n:=c % r.a*16),fg]
theorem hrP{m:v}(d:UO m){r:I}(h:Vd r=true){e:x}{b a:Nat}(k:(b:Int)≤r.b)(l:r.b+r.a*16≤(a:Int))(f:a≤4864):Xl b a m (RC Z6 m 0 r e).1:=by
 obtain⟨n,o,p,q,s,g,t,u,Z⟩:=Xz h;unfold RC;cases i:(cond ((Ry r)==0) true ((len e) != 16))
 case true=>exact Zp _ _ _
 have j:len e=16:=by simpa using (Uk i).2
 simp only[len] at j;cases (YI Z6 m 0 (lO r r.c) e).2
 case false=>exact Zp _ _ _
 obtain⟨c,w,Y⟩:=ZN h g;exact xU d (by rw[c];omega) (by rw[c];omega) f
theorem nEM{m:v}(g:UO m){r:I}(h:Vd r=true){e:u}{c b:Nat}(i:(c:Int)≤r.b)(j:r.b+r.a*16≤(b:Int))(k:b≤4864):Xl c b m (R6 Z6 m 0 r e).1:=by
 have key:∀(e:u) (s:v×I),UO s.1→aI r s.2→Xl c b m s.1→Xl c b m (Vy (Xp Z6 0) (VT Z6 0) (m,r,false) (λs=>(s.1,s.2,true)) e s).1:=by
  intro e
  induction e with
  | nil=>intro s _ _ d;exact d
  | cons x n l=>
   intro s f a d;simp only[Vy];cases Xp Z6 0 x s
   ·exact l _ (BU f) (yh a (jT a.1)) (l5 d (hrP f a.1 (by rw[a.2.1];exact i) (by rw[a.2.1,a.2.2];exact j) k))
   ·exact Zp _ _ _
 exact key e (m,r) g ⟨h,rfl,rfl⟩ (Zp _ _ _)
theorem nEK{p:G}(e:PM p=true){c:Int}(f:0≤c)(g:c<p.c):Q6 p c=p.b+c*p.a:=by obtain⟨⟨a,b,d⟩,_⟩:=yy.1 e;have a:=YF.1 a;have b:=YF.1 b;have d:=YF.1 d;have h:c*p.a≤15*512:=we (by omega) (by omega) (by omega) (by omega);have i:0≤c*p.a:=Int.mul_nonneg f (by omega);unfold Q6 Hn;rw[e,fg (n:=p.c - 1),show D c 0 (p.c - 1)=true from dx.2 ⟨f,by omega⟩];simp only[va,J,id];rw[fg (n:=c*p.a),fg]
def zN(k c:Nat):x:=UA ⟨3,0,384,((u_ k+128+384*c:Nat):Int),0,(c:Int)⟩
def nlz(m:v)(k s:Nat):Prop:=∃c,c<4∧∀i,i<16→xl m (u_ k+16*s+i)=(zN k c)[i]?
def UJ(m:v)(k:Nat):Prop:=∀s,s<4→nlz m k s
theorem fu{m b:v}{k d a:Nat}(h:UJ m k)(l:k<2)(f:Xl d a m b)(n:u_ k+64≤d∨a≤u_ k):UJ b k:=λs g=>by obtain⟨c,j,e⟩:=h s g;refine⟨c,j,λi a=>?_⟩;rw[f _ (by unfold u_;omega) (by omega)];exact e i a
theorem N_{k c:Nat}(a:k<2)(b:c<4):(zN k c).length=16∧UX (zN k c)=(⟨3,0,384,((u_ k+128+384*c:Nat):Int),0,(c:Int)⟩,true):=by rcases (show k=0∨k=1 by omega) with rfl | rfl<;>rcases (show c=0∨c=1∨c=2∨c=3 by omega) with rfl | rfl | rfl | rfl<;>exact⟨by kernel_rfl,by kernel_rfl⟩
theorem nru{m:v}(l:UO m){r:I}(h:Vd r=true){k c:Nat}(n:k<2)(f:c<4)(o:r.b=(u_ k:Int))(B:r.a=4)(b:UJ m k):UJ (RC Z6 m 0 r (zN k c)).1 k:=by
 obtain⟨C,D,E,F,G,p,H,Y,X⟩:=Xz h;unfold RC;cases (cond ((Ry r)==0) true ((len (zN k c)) != 16))
 case true=>exact b
 cases d:(YI Z6 m 0 (lO r r.c) (zN k c)).2
 case false=>exact b
 simp only[va,J];obtain⟨q,K,L⟩:=ZN h p;obtain⟨t,u⟩:∃t:Nat,r.c % r.a=(t:Int):=⟨(r.c % r.a).toNat,by omega⟩;have Z:lO r r.c=((u_ k+16*t:Nat):Int):=by rw[q,o,u];omega
 have M:=(N_ n f).1;have N:u_ k≤3072:=by unfold u_;omega
 rw[Z] at d ⊢;rcases nci l (w:=true) (s:=zN k c) (a:=u_ k+16*t) (by omega) with ⟨x,_⟩ | ⟨_,g⟩
 ·rw[show (YI Z6 m 0 ((u_ k+16*t:Nat):Int) (zN k c)).2=false from x] at d;cases d
 ·intro s y;by_cases O:s=t
  ·refine⟨c,f,λi j=>?_⟩;refine (g _ (by omega)).trans ?_;rw[if_pos (by omega)]
   congr 1
   omega
  ·obtain⟨z,A,e⟩:=b s y;refine⟨z,A,λi j=>?_⟩;refine (g _ (by omega)).trans ?_;rw[if_neg (by omega)];exact e i j
theorem nmq{p:G}(a:PM p=true){k:Nat}(b:p.b=((u_ k+128:Nat):Int))(d:p.a=384)(f:p.c=4){x:Int}(e:0≤x)(g:x<4):∃c,c<4∧UA ⟨3,0,p.a,Q6 p x,0,x⟩=zN k c:=by obtain⟨c,rfl⟩:∃c:Nat,x=(c:Int):=⟨x.toNat,by omega⟩;refine⟨c,by omega, ?_⟩;rw[nEK a e (by omega),b,d];unfold zN;rw[show ((u_ k+128:Nat):Int)+(c:Int)*384=((u_ k+128+384*c:Nat):Int) by omega]
theorem nkC{p:G}(f:PM p=true){k:Nat}(g:k<2)(i:p.b=((u_ k+128:Nat):Int))(j:p.a=384)(o:p.c=4):∀(b:u) (n:Int) (m:v) (Y:I),(∀x∈b,0≤r x 0∧r x 0<4)→UO m→Vd Y=true→Y.b=(u_ k:Int)→Y.a=4→UJ m k→UJ (VA Z6 0 p b n m Y).1 k∧Xl (u_ k) (u_ k+64) m (VA Z6 0 p b n m Y).1
 | [],_,_,_,_,_,_,_,_,h=>⟨h,Zp _ _ _⟩
 | x::b,n,m,Y,h0,hm,hr,h1,h2,h=>by
  simp only[VA];obtain⟨q,W⟩:=h0 x (by simp);obtain⟨c,t,e⟩:=nmq f i j o q W;rw[e];cases (RC Z6 m 0 Y (zN k c)).2.2
  ·exact⟨h,Zp _ _ _⟩
  ·have a:=jT (l:=Z6) (m:=m) (d:=0) (e:=zN k c) hr;have z:u_ k≤3072:=by unfold u_;omega
   obtain⟨Z,X⟩:=nkC f g i j o b (s (n+1)) _ _ (λy w=>h0 y (by simp[w])) (BU (l:=Z6) (d:=0) (r:=Y) (e:=zN k c) hm) a.1 (a.2.1.trans h1) (a.2.2.trans h2) (nru hm hr g t h1 h2 h);exact⟨Z,l5 (hrP hm hr (by omega) (by omega) (by omega)) X⟩
theorem ngh{p:G}(a:PM p=true){k:Nat}(c:k<2)(d:p.b=((u_ k+128:Nat):Int))(e:p.a=384)(b:p.c=4){m:v}{r:I}(f:UO m)(g:r.b=(u_ k:Int))(i:r.a=4)(h:UJ m k):UJ (HJ Z6 m 0 r p).1 k∧Xl (u_ k) (u_ k+64) m (HJ Z6 m 0 r p).1:=by
 unfold HJ;cases j:(cond (!(Vd r)) true (!(PM p)))
 ·have:=(yy.1 a).2.1;rw[b] at this;exact nkC a c d e b p.d 0 m r this f (Vk (Uk j).1) g i h
 ·exact⟨h,Zp _ _ _⟩
theorem nm3{m:v}(i:UO m){r:I}{k:Nat}(j:k<2)(l:r.b=(u_ k:Int))(Z:r.a=4)(o:UJ m k)(b:(D0 Z6 m 0 r).2.2=true):∃c,c<4∧(D0 Z6 m 0 r).1=zN k c:=by
 unfold D0 at b ⊢;cases f:(cond (!(Vd r)) true ((TG r)==0))
 case true=>rw[f] at b;cases b
 have g:=Vk (Uk f).1;obtain⟨w,x,y,p,z,A,B,C,D⟩:=Xz g;obtain⟨q,E,F⟩:=ZN g p;obtain⟨t,s⟩:∃t:Nat,r.d % r.a=(t:Int):=⟨(r.d % r.a).toNat,by omega⟩;have u:lO r r.d=((u_ k+16*t:Nat):Int):=by rw[q,l,s];omega
 have G:u_ k≤3072:=by unfold u_;omega
 obtain⟨c,h,e⟩:=o t (by omega);have d:=nuR i (a:=u_ k+16*t) (n:=16) (by omega) (by omega) (N_ j h).1 e;have d:Eo Z6 m 0 (lO r r.d) 16=(zN k c,true):=by rw[u];exact d
 rw[d];exact⟨c,h,rfl⟩
theorem nBh{q:CI}(h:dq q=true):WC q=q.b+q.c % q.a*16∧0≤q.c % q.a∧q.c % q.a<q.a:=by obtain⟨d,e,f,a,g,i,j⟩:=gZ h;have b:=vQ q.c (show q.a≠0 by omega);have c:=wv q.c (show 0<q.a by omega);refine⟨?_,b,c⟩;unfold WC;rw[vR a,fg (n:=q.c % q.a*16),fg]
theorem nul{m:v}(e:UO m){q:CI}{k:Nat}(h:k<2)(i:q.b=((u_ k+64:Nat):Int))(f:q.a=4){x:Ja}(a:(Yi Z6 m 0 q x).2.2=true):Xl (u_ k+64) (u_ k+1664) m (Yi Z6 m 0 q x).1∧(Yi Z6 m 0 q x).2.1.c=(q.c+1) % 8:=by
 have j:u_ k≤3072:=by unfold u_;omega
 unfold Yi at a ⊢;cases b:(cond (!(dq q)) true (!(tQ x)))
 case true=>rw[b] at a;cases a
 have c:=Vk (Uk b).1;obtain⟨l,o,p,r,Y,t,u⟩:=gZ c;obtain⟨d,Z,w⟩:=nBh c;have y:=nfo x (PW q);rw[b] at a;cases g:(YI Z6 m 0 (WC q) (eM x (PW q))).2
 case false=>rw[g] at a;cases a
 refine⟨xU e (by rw[d];omega) (by rw[d];omega) (by omega), ?_⟩;show u3 (s (q.c+1)) (s (2*q.a))=_;rw[f,fg (n:=q.c+1),vR (by omega)];rfl
theorem nnN{m:v}(d:UO m){q:S}{k c:Nat}(e:k<2)(g:c<4)(h:q.c.b=((u_ k+64:Nat):Int))(i:q.c.a=4){key:x}(a:(oy Z6 m 0 q (zN k c) key).2.2=true):Xl (u_ k+64) (u_ k+1664) m (oy Z6 m 0 q (zN k c) key).1∧(oy Z6 m 0 q (zN k c) key).2.1.c=(q.c.c+1) % 8:=by
 have r:u_ k≤3072:=by unfold u_;omega
 unfold oy at a ⊢;rw[(N_ e g).2] at a ⊢;dsimp only at a ⊢;cases b:(cond (!true) true (cond ((3:Int) != 3) true (decide ((384:Int)<len (O3 q.a.b).1))))
 case true=>rw[b] at a;cases a
 have j:=of_decide_eq_false (Uk (Uk b).2).2;simp only[len] at j;rw[b] at a;cases f:(YI Z6 m 0 ((u_ k+128+384*c:Nat):Int) (O3 q.a.b).1).2
 case false=>rw[f] at a;cases a
 rw[f] at a;simp only[va,J] at a ⊢;have l:Xl (u_ k+64) (u_ k+1664) m (YI Z6 m 0 ((u_ k+128+384*c:Nat):Int) (O3 q.a.b).1).1:=xU d (by omega) (by omega) (by omega);have n:UO (YI Z6 m 0 ((u_ k+128+384*c:Nat):Int) (O3 q.a.b).1).1:=Ew d;obtain⟨o,p⟩:=nul n e h i a;exact⟨l5 l o,p⟩
structure Za (m:v) (k:Nat) (q:S):Prop where
 ok:TH q=true
 rb:q.b.b=(u_ k:Int)
 rs:q.b.a=4
 db:q.d.b=((u_ k+64:Nat):Int)
 ds:q.d.a=4
 sl:UJ m k
theorem rl{m:v}(a:UO m){q:S}{k:Nat}(b:k<2)(h:Za m k q){key:x} :((Wd Z6 m 0 q key).1=m∧(Wd Z6 m 0 q key).2.c=q.c)∨(Xl (u_ k+64) (u_ k+1664) m (Wd Z6 m 0 q key).1∧(Wd Z6 m 0 q key).2.c.c=(q.c.c+1) % 8):=by
 obtain⟨n,o,p,f,g,r,s⟩:=D6.1 h.ok;unfold Wd;cases t:(cond (!(TH q)) true (cond (!q.f) true ((len key) != 16)))
 case true=>exact .inl ⟨rfl,rfl⟩
 cases i:(cond (D0 Z6 m 0 q.b).2.2 (oy Z6 m 0 q (D0 Z6 m 0 q.b).1 key).2.2 false)
 case false=>exact .inl ⟨rfl,rfl⟩
 obtain⟨j,d⟩:=(ur _ _).1 i;obtain⟨c,l,e⟩:=nm3 a b h.rb h.rs h.sl j;simp only[H,J];rw[e] at d ⊢;exact .inr (nnN a b l (f.trans h.db) (g.trans h.ds) d)
structure w where
 b:u
 i:Int
 h:Int
def w.enc(x:w):List DC:=[.sl x.b,.int x.i,.int x.h]
def w.nd(Z:List DC)(o:Nat):w:=⟨df Z (o+0),r Z (o+1),r Z (o+2)⟩
def w.ct:List CT:=[.sl [.int .u8],.i,.i]
theorem w.eta{r:List DC}(h:Q w.ct r):(w.nd r 0).enc=r:=(show (w.nd r 0).enc=Sy w.ct r 0 from by kernel_rfl).trans (Qz h)
theorem w.nX{r:List CT}{b:List DC}(h:Q (w.ct++r) b):∃(x:w) (c:List DC),b=x.enc++c∧Q w.ct x.enc∧Q r c:=by obtain⟨d,e,rfl,a,f⟩:=SU h;exact⟨w.nd d 0,e,by rw[w.eta a],by rw[w.eta a];exact a,f⟩
def VU(b:w→α)(a:u)(c:Int→Int→α)(h i:Int):α:=cond (cond (i<len a) (decide (i<4000)) false) (cond (t true (A i a)) (c (bits .and .i64 (s ((s ((s (h*131))+(s (r (q a (u1 i)) 0))))+7)) 1073741823) (s (i+1))) lf) (b (⟨a,0,h⟩:w))
def xi(b:w→α)(N:Nat)(a:u)(c:Nat):Int→Int→α:=bW (λ_ _=>lf) (VU lf b a) c
theorem njK(b:w→α)(N:Nat)(a:u)(c:Nat):xi lf b N a (c+1)=VU lf b a (xi lf b N a c):=rfl
def So(lf:α)(c:w→α)(b:Int→Int→α)(a:u):α:=b (s (33129+(len a))) 0
def naT(b:w→α)(N:Nat)(a:u):α:=So lf b (xi lf b N a N) a
def ncG(a:u)(i:Nat)(h:Int):Int:=bits .and .i64 (s ((s ((s (h*131))+(s (r (q a i) 0))))+7)) 1073741823
def Yn(a:u):w:=⟨a,0,kM (ncG a) (min a.length 4000) 0 (s (33129+(len a)))⟩
def OW(c:w):Bool:=decide (0≤c.i) && decide (c.b.length≤9223372036854775807)
def vl(c:w):Bool:=shut OW c
theorem ne1(c:w):vl c=OW c:=congrFun (L3 OW) c
theorem F3{c:w} :vl c=true↔0≤c.i∧c.b.length≤9223372036854775807:=by rw[ne1];simp only[OW,Bl,js]
theorem nt5{a:u}(h:a.length≤9223372036854775807):vl (Yn a)=true:=F3.2 ⟨by simp[Yn],h⟩
theorem ncg(b:w→α)(a:u)(e:IJ (.sl [.int .u8]) (.sl a)):∃N,naT lf b N a=b (Yn a):=by
 obtain⟨f,_⟩:=Nh e;refine⟨min a.length 4000+1, ?_⟩;unfold naT So Yn;refine je (min a.length 4000) (λn i h=>xi lf b (min a.length 4000+1) a n h i) (ncG a) (λh=>b (⟨a,0,h⟩:w)) (λ_ _=>True) (λ_ _ _ _=>trivial) ?_ ?_ (min a.length 4000+1) (s (33129+len a)) trivial (by omega)
 ·intro n i h l _;show xi lf b (min a.length 4000+1) a (n+1) h (i:Int)=_;rw[njK];have c:i<a.length:=by omega
  have g:(i:Int)<4000:=by omega
  simp only[VU,sg c,Hd g,mZ c,jy c f,eR,Oi,H];rfl
 ·intro n h _;show xi lf b (min a.length 4000+1) a (n+1) h ((min a.length 4000:Nat):Int)=_;rw[njK];have j:(cond (((min a.length 4000:Nat):Int)<len a) (decide (((min a.length 4000:Nat):Int)<4000)) false)=false:=by
   by_cases d:((min a.length 4000:Nat):Int)<len a
   ·have k:¬((min a.length 4000:Nat):Int)<4000:=by simp only[len] at d;omega
    simp[d,k]
   ·simp[d]
  simp only[VU,j,J]
def nrF(d:Int→w→α)(c:w):α:=let a:Int:=s ((s (c.h*6364136223846793005))+1442695040888963407);let e:Int:=bits .and .i64 (bits .xor .i64 (I4 .i64 a 33) (I4 .i64 a 45)) 255;cond (c.i<len c.b) (cond (t true (A c.i c.b)) (d (bits .and .i64 (s (e+(s (r (q c.b (u1 c.i)) 0)))) 255) (⟨c.b,s (c.i+1),a⟩:w)) lf) (d e (⟨c.b,c.i,a⟩:w))
theorem nuX(a:Int):0≤bits .and .i64 a 255∧bits .and .i64 a 255≤255:=by
 have h:(vS 64 a &&& vS 64 255).toNat≤255:=by rw[BitVec.toNat_and];exact xK Nat.and_le_right (by decide)
 have e:bits .and .i64 a 255=(((vS 64 a &&& vS 64 255).toNat:Nat):Int):=by exact XC (((vS 64 a &&& vS 64 255).toNat:Nat):Int) (Int.natCast_nonneg _) (by omega)
 rw[e];omega
def sD(c:w):Int:=s ((s (c.h*6364136223846793005))+1442695040888963407)
def nzB(c:w):Int:=bits .and .i64 (bits .xor .i64 (I4 .i64 (sD c) 33) (I4 .i64 (sD c) 45)) 255
def ix(c:w):Int×w:=cond (c.i<len c.b) (bits .and .i64 (s (nzB c+(s (r (q c.b (u1 c.i)) 0)))) 255,⟨c.b,s (c.i+1),sD c⟩) (nzB c,⟨c.b,c.i,sD c⟩)
def E4(c:w):Int×w:=shut ix c
theorem wT(c:w):E4 c=ix c:=congrFun (L3 ix) c
theorem zL(c:w):0≤(E4 c).1∧(E4 c).1≤255:=by rw[wT];unfold ix;cases decide (c.i<len c.b)<;>exact nuX _
theorem W2{c:w}(h:vl c=true):vl (E4 c).2=true:=by
 obtain⟨e,d⟩:=F3.1 h;rw[wT];unfold ix;by_cases a:c.i<len c.b
 ·simp only[Hd a,H];simp only[len] at a;exact F3.2 ⟨by rw[fg];show 0≤c.i+1;omega,d⟩
 ·simp only[ja a,J];exact F3.2 ⟨e,d⟩
theorem hbF(d:Int→w→α)(c:w)(e:vl c=true):nrF lf d c=d (E4 c).1 (E4 c).2:=by
 obtain⟨g,h⟩:=F3.1 e;rw[wT];unfold nrF ix;by_cases a:c.i<len c.b
 ·have f:A c.i c.b=true:=by simp only[len] at a;simp only[A,Bl,js];omega
  simp only[Hd a,f,Oi,H];rfl
 ·simp only[ja a,J];rfl
def nxu(a:Int→w→α)(c:w)(n:Int):α:=let b:Int×w:=E4 ((E4 ((E4 c).2)).2);let d:Int×w:=E4 b.2;cond (n≤0) (a 0 c) (cond (n≤256) (cond (t (t true (vl c)) (!(n==0))) (a (u3 ((E4 c).1) n) ((E4 c).2)) lf) (cond (t true (vl c)) (cond (t true (vl ((E4 c).2))) (cond (t true (vl ((E4 ((E4 c).2)).2))) (cond (t true (vl b.2)) (cond (t true (!(n==0))) (a (u3 (s ((s ((s ((s (((E4 c).1)*16777216))+(s (((E4 ((E4 c).2)).1)*65536))))+(s (b.1*256))))+d.1)) n) d.2) lf) lf) lf) lf) lf))
def pe(c:w)(_:Int):Bool:=vl c
def XA(c:w):Int×w:=(s ((s ((s ((s (((E4 c).1)*16777216))+(s (((E4 ((E4 c).2)).1)*65536))))+(s ((E4 (E4 (E4 c).2).2).1*256))))+(E4 (E4 (E4 (E4 c).2).2).2).1),(E4 (E4 (E4 (E4 c).2).2).2).2)
def BD(c:w)(n:Int):Int×w:=cond (n≤0) (0,c) (cond (n≤256) (u3 (E4 c).1 n,(E4 c).2) (u3 (XA c).1 n,(XA c).2))
def mz(c:w)(n:Int):Int×w:=shut BD c n
theorem uH(c:w)(n:Int):mz c n=BD c n:=congrFun (congrFun (L3 BD) c) n
theorem nhv(c:w):0≤(XA c).1:=by have a:=zL c;have b:=zL (E4 c).2;have d:=zL (E4 (E4 c).2).2;have e:=zL (E4 (E4 (E4 c).2).2).2;simp only[XA];rw[fg (n:=(E4 c).1*16777216),fg (n:=(E4 (E4 c).2).1*65536),fg (n:=(E4 (E4 (E4 c).2).2).1*256)];rw[fg (n:=(E4 c).1*16777216+(E4 (E4 c).2).1*65536)];rw[fg (n:=(E4 c).1*16777216+(E4 (E4 c).2).1*65536+(E4 (E4 (E4 c).2).2).1*256)];rw[fg];omega
theorem yP(c:w)(n:Int):0≤(mz c n).1∧(0<n→(mz c n).1<n):=by
 rw[uH];unfold BD;by_cases a:n≤0
 ·simp only[Hd a,H];omega
 ·by_cases b:n≤256
  ·simp only[ja a,Hd b,H,J];exact⟨Int.tmod_nonneg _ (zL c).1,λh=>wb _ h⟩
  ·simp only[ja a,ja b,J];exact⟨Int.tmod_nonneg _ (nhv c),λh=>wb _ h⟩
theorem QX{c:w}(h:vl c=true)(n:Int):vl (mz c n).2=true:=by
 rw[uH];unfold BD;cases decide (n≤0)
 ·cases decide (n≤256)
  ·exact W2 (W2 (W2 (W2 h)))
  ·exact W2 h
 ·exact h
theorem nix(e:Int→w→α)(c:w)(n:Int)(i:pe c n=true):nxu lf e c n=e (mz c n).1 (mz c n).2:=by
 have b:vl c=true:=i;have f:=W2 b;have g:=W2 f;have j:=W2 g;rw[uH];unfold nxu BD;by_cases d:n≤0
 ·simp only[Hd d,H]
 ·have h:(!(n==0))=true:=by
   have:n≠0:=by omega
   simpa using this
  by_cases a:n≤256
  ·simp only[ja d,Hd a,b,h,Oi,H,J]
  ·simp only[ja d,ja a,b,f,g,j,h,Oi,H,J];rfl
def njF(a:Bool→w→α)(c:w)(n:Int):α:=cond (t true (pe c n)) (a (((mz c n).1)==0) ((mz c n).2)) lf
def US(c:w)(n:Int):Bool×w:=((mz c n).1==0,(mz c n).2)
theorem iB{c:w}(h:vl c=true)(n:Int):vl (US c n).2=true:=QX h n
theorem nq8(a:Bool→w→α)(c:w)(n:Int)(b:pe c n=true):njF lf a c n=a (US c n).1 (US c n).2:=by have d:pe c n=true:=b;unfold njF US;simp only[d,Oi,H]
def nkP(a:Int→w→α)(c:w)(list_:u):α:=cond (t (t true (pe c (len list_))) (A ((mz c (len list_)).1) list_)) (a (r (q list_ (u1 ((mz c (len list_)).1))) 0) ((mz c (len list_)).2)) lf
def VE(c:w)(list_:u):Bool:=cond (vl c) (decide (0<list_.length)) false
def V7(c:w)(list_:u):Int×w:=(r (q list_ (u1 ((mz c (len list_)).1))) 0,(mz c (len list_)).2)
def Pv(c:w)(list_:u):Int×w:=shut V7 c list_
theorem Zo(c:w)(list_:u):Pv c list_=V7 c list_:=congrFun (congrFun (L3 V7) c) list_
theorem dt{c:w}(h:vl c=true)(l:u):vl (Pv c l).2=true:=by rw[Zo];exact QX h _
theorem ndb(c:w){l:u}(h:0<l.length):∃k:Nat,k<l.length∧(Pv c l).1=r (q l k) 0:=by obtain⟨d,a⟩:=yP c (len l);have b:=a (by simp only[len];omega);simp only[len] at b;rw[Zo];exact⟨(mz c (len l)).1.toNat,by simp only[len];omega,rfl⟩
theorem noZ(d:Int→w→α)(c:w)(list_:u)(a:VE c list_=true):nkP lf d c list_=d (Pv c list_).1 (Pv c list_).2:=by
 have e:vl c=true:=by
  cases h:vl c
  ·rw[show VE c list_=(cond (vl c) (decide (0<list_.length)) false) from rfl,h] at a;cases a
  ·rfl
 have j:0<list_.length:=by rw[show VE c list_=(cond (vl c) (decide (0<list_.length)) false) from rfl,e] at a;exact of_decide_eq_true a
 have g:pe c (len list_)=true:=e;obtain⟨f,b⟩:=yP c (len list_);have b:=b (by simp only[len];omega);have i:A (mz c (len list_)).1 list_=true:=by simp only[len] at f b ⊢;simp only[A,Bl,js];exact⟨f,b⟩
 rw[Zo];unfold nkP V7;simp only[g,i,Oi,H]
def W9(g:x→w→α)(e:Int)(j:d6 α)(i:Int)(a:u)(c d:Int)(f:u):α:=cond (i<e) (cond (t (t true (vl (⟨a,c,d⟩:w))) (Em 1 f ([[.int (IntKind.wrap .u8 ((E4 (⟨a,c,d⟩:w)).1))]]))) (j (s (i+1)) (((E4 (⟨a,c,d⟩:w)).2).b) (((E4 (⟨a,c,d⟩:w)).2).i) (((E4 (⟨a,c,d⟩:w)).2).h) (f++([[.int (IntKind.wrap .u8 ((E4 (⟨a,c,d⟩:w)).1))]]))) lf) (g (toStr f) (⟨a,c,d⟩:w))
def Gq(b:x→w→α)(N:Nat)(a:Int)(c:Nat):d6 α:=bW (λ_ _ _ _ _=>lf) (W9 lf b a) c
theorem ntJ(b:x→w→α)(N:Nat)(a:Int)(c:Nat):Gq lf b N a (c+1)=W9 lf b a (Gq lf b N a c):=rfl
def nwe(lf:α)(d:x→w→α)(a:Int→Int→u→Int→Int→u→α)(c:w)(n:Int):α:=a (cond (5000<n) 5000 n) 0 c.b c.i c.h []
def nao(b:x→w→α)(N:Nat)(c:w)(n:Int):α:=nwe lf b (λa=>Gq lf b N a N) c n
def Wc:Nat→w→x×w
 | 0,c=>([],c)
 | m+1,c=>(UInt8.ofNat (E4 c).1.toNat::(Wc m (E4 c).2).1,(Wc m (E4 c).2).2)
def yV(c:w)(n:Int):x×w:=Wc (cond (5000<n) 5000 n).toNat c
def GF(c:w)(n:Int):x×w:=shut yV c n
theorem XK(c:w)(n:Int):GF c n=yV c n:=congrFun (congrFun (L3 yV) c) n
theorem nb6:∀(m:Nat) (c:w),(Wc m c).1.length=m
 | 0,_=>rfl
 | m+1,c=>by simp only[Wc,I_,nb6 m]
theorem nkG:∀(m:Nat) {c:w},vl c=true→vl (Wc m c).2=true
 | 0,_,h=>h
 | m+1,c,h=>nkG m (W2 h)
theorem Va{c:w}(h:vl c=true)(n:Int):vl (GF c n).2=true:=by rw[XK];exact nkG _ h
theorem neQ(c:w){n:Int}(a:0≤n)(h:n≤5000):len (GF c n).1=n:=by rw[XK];unfold yV;rw[ja (by omega),J];simp only[len,nb6];omega
theorem nxQ(a:x→w→α)(c:w)(n:Int)(g:pe c n=true):∃N,nao lf a N c n=a (GF c n).1 (GF c n).2:=by
 have j:vl c=true:=g;have k:∀n:Int,(cond (5000<n) 5000 n)≤5000:=by
  intro n;by_cases h:5000<n
  ·simp[h]
  ·simp only[ja h,J];omega
 have l:=k n;refine⟨(cond (5000<n) 5000 n).toNat+1, ?_⟩;rw[XK];unfold nao nwe yV;generalize (cond (5000<n) (5000:Int) n)=M at l ⊢;have key:∀(m q i:Nat) (c:w) (o:u),i+m=M.toNat→m<q→o.length=i→vl c=true→
   Gq lf a (M.toNat+1) M q (i:Int) c.b c.i c.h o=a (toStr o++(Wc m c).1) (Wc m c).2:=by
  intro m
  induction m with
  | zero=>
   intro q i c o r s f d;obtain⟨q,rfl⟩:=DF q;rw[ntJ];simp only[W9,ja (show ¬(i:Int)<M by omega),J,Wc,xb]
  | succ m e=>
   intro q i c o r s f d;obtain⟨q,rfl⟩:=DF q;rw[ntJ];have t:∀Y:List DC,Em 1 o [Y]=true:=λY=>W6 (by simp only[I_,vF];omega) (by omega);have z:=zL c;have Z:IntKind.wrap .u8 (E4 c).1=(E4 c).1:=by rw[IntKind.wrap_u8];omega
   have:=e q (i+1) (E4 c).2 (o++[[.int (E4 c).1]]) (by omega) (by omega) (by simp[f]) (W2 d);have v:((i+1:Nat):Int)=(i:Int)+1:=by omega
   rw[v] at this;have X:(⟨c.b,c.i,c.h⟩:w)=c:=rfl;simp only[W9,Hd (show (i:Int)<M by omega),X,d,t,Z,Oi,H,fg (show -9223372036854775808≤(i:Int)+1 by omega) (show (i:Int)+1≤9223372036854775807 by omega)];rw[this];have y:toStr (o++[[DC.int (E4 c).1]])=toStr o++[UInt8.ofNat (E4 c).1.toNat]:=by simp only[toStr,List.map_append,v9,List.map_nil];rfl
   rw[y];simp only[Wc,vJ,w8,xI]
 have:=key M.toNat (M.toNat+1) 0 c [] (by omega) (by omega) rfl j;simpa [toStr] using this
def nt1(b:Bool→α)(a:u):α:=b (decide (1048576<len a))
def QZ(a:u):Bool:=nt1 id a
theorem nj7(b:Bool→α)(a:u):nt1 b a=b (QZ a):=by rfl
theorem nwL{c:w}{l:u}(h:vl c=true)(a:0<l.length):VE c l=true:=by unfold VE;rw[h];exact Hd a
theorem mQ{c:w}{x:List DC}{l:u}(h:vl c=true):VE c (x::l)=true:=nwL h (Nat.zero_lt_succ _)
theorem zH{c:w}(n:Int)(h:vl c=true):pe c n=true:=h
theorem cpF(c:w):(⟨c.b,c.i,c.h⟩:w)=c:=rfl
def MA(a:Int→w→α)(c:w):α:=cond (t true (pe c 3)) (a (s (167772161+((mz c 3).1))) ((mz c 3).2)) lf
def ZL(c:w):Bool:=MA false (λ_ _=>true) c
def rB(c:w):Int×w:=(MA none (λa b=>some (a,b)) c).getD (0,⟨[],0,0⟩)
theorem nwM(a:Int→w→α)(c:w)(b:ZL c=true):MA lf a c=a (rB c).1 (rB c).2:=by exact A0 (K:=λr:Int×w=>a r.1 r.2) (Ro (λ_=>⟨_,rfl,rfl⟩)) b
theorem N4{c:w}(h:vl c=true):ZL c=true∧vl (rB c).2=true:=by simp only[ZL,rB,MA,zH _ h,Oi,H,Option.getD_some,QX h,and_self]
def CG(d:Int→w→α)(c:w):α:=let a:u:=[[.int 16],[.int 16],[.int 16],[.int 24],[.int 17],[.int 2],[.int 4],[.int 31],[.int 0]];let b:Int×w:=Pv c a;cond (t true (VE c a)) (d b.1 b.2) lf
def KL(c:w):Bool:=CG false (λ_ _=>true) c
def B7(c:w):Int×w:=(CG none (λa b=>some (a,b)) c).getD (0,⟨[],0,0⟩)
theorem nzR(a:Int→w→α)(c:w)(b:KL c=true):CG lf a c=a (B7 c).1 (B7 c).2:=by exact A0 (K:=λr:Int×w=>a r.1 r.2) (Ro (λ_=>⟨_,rfl,rfl⟩)) b
theorem nw6{c:w}(h:vl c=true):KL c=true∧vl (B7 c).2=true:=by have a:VE c [[.int 16],[.int 16],[.int 16],[.int 24],[.int 17],[.int 2],[.int 4],[.int 31],[.int 0]]=true:=nwL h (by decide);simp only[KL,B7,CG,a,Oi,H,Option.getD_some,dt h,and_self]
def yv(g:EP→w→α)(c:w)(a:Int):α:=let h:Int×w:=Pv ((mz ((mz c 2).2) 65536).2) ([[.int 0],[.int 100],[.int 4294967290],[.int ((mz ((mz c 2).2) 65536).1)]]);let i:w:=h.2;let j:Int×w:=Pv i ([[.int 0],[.int 5],[.int 4294967295]]);let k:w:=j.2;let l:Int×w:=B7 k;let m:w:=l.2;let n:Int×w:=Pv m ([[.int 0],[.int 512],[.int 65535]]);let o:w:=n.2;let p:Int×w:=mz o (s (a+1));let q:w:=p.2;let r:Int:=p.1;let Z:x×w:=GF q r;let b:w:=Z.2;let d:Bool×w:=US b 4;let e:Int:=s (1000+((mz c 2).1));let f:x:=Z.1;let Y:w:=d.2;cond (t (t (t (t (t (t true (pe c 2)) (pe ((mz c 2).2) 65536)) (VE ((mz ((mz c 2).2) 65536).2) ([[.int 0],[.int 100],[.int 4294967290],[.int ((mz ((mz c 2).2) 65536).1)]]))) (VE i ([[.int 0],[.int 5],[.int 4294967295]]))) (KL k)) (VE m ([[.int 0],[.int 512],[.int 65535]]))) (cond (t (t true (pe o (s (a+1)))) (pe q r)) (cond (t true (pe b 4)) (cond d.1 (g (⟨17,e,53,0,0,0,0,f⟩:EP) Y) (g (⟨6,e,80,h.1,j.1,l.1,n.1,f⟩:EP) Y)) lf) lf) lf
def Bt(c:w)(a:Int):Bool:=yv false (λ_ _=>true) c a
def yM(c:w)(a:Int):EP×w:=(yv none (λb d=>some (b,d)) c a).getD (⟨0,0,0,0,0,0,0,[]⟩,⟨[],0,0⟩)
theorem nsK(b:EP→w→α)(c:w)(a:Int)(d:Bt c a=true):yv lf b c a=b (yM c a).1 (yM c a).2:=by exact A0 (K:=λr:EP×w=>b r.1 r.2) (Ro (Ro (Ro (nd3 (λ_=>⟨_,rfl,rfl⟩) (λ_=>⟨_,rfl,rfl⟩))))) d
theorem nxg{c:w}(h:vl c=true)(a:Int):Bt c a=true∧vl (yM c a).2=true:=by
 have d:=QX h 2;have e:=QX d 65536;have f:=dt e [[.int 0],[.int 100],[.int 4294967290],[.int ((mz ((mz c 2).2) 65536).1)]];have l:=dt f [[.int 0],[.int 5],[.int 4294967295]];have b:=nw6 l;have g:=dt b.2 [[.int 0],[.int 512],[.int 65535]];have i:=QX g (s (a+1));have j:=λn=>Va i n;have k:=λn=>iB (j n) 4;simp only[Bt,yM,yv,zH _ h,zH _ d,mQ e,mQ f,b.1,mQ b.2,zH _ g,zH _ i,zH _ (j _),Oi,cz,H];cases (US (GF (mz (Pv (B7 (Pv (Pv (mz (mz c 2).2 65536).2 [[.int 0],[.int 100],[.int 4294967290],[.int ((mz ((mz c 2).2) 65536).1)]]).2 [[.int 0],[.int 5],[.int 4294967295]]).2).2 [[.int 0],[.int 512],[.int 65535]]).2 (s (a+1))).2 (mz (Pv (B7 (Pv (Pv (mz (mz c 2).2 65536).2 [[.int 0],[.int 100],[.int 4294967290],[.int ((mz ((mz c 2).2) 65536).1)]]).2 [[.int 0],[.int 5],[.int 4294967295]]).2).2 [[.int 0],[.int 512],[.int 65535]]).2 (s (a+1))).1).2 4).1
 ·exact⟨rfl,k _⟩
 ·exact⟨rfl,k _⟩
def Ay(F:N→w→α)(c:w)(a:Int):α:=let G:u:=[[.int 2],[.int 2],[.int 2],[.int 4],[.int 281474976710655]];let E:Int×w:=Pv c G;let H:Int×w:=Pv E.2 ([[.int 6],[.int 8]]);let I:w:=H.2;let J:Int×w:=Pv I ([[.int (-1)],[.int (-1)],[.int 7]]);let K:w:=J.2;let L:Int×w:=Pv K ([[.int 0],[.int 0],[.int 255]]);let M:w:=L.2;let U:Int×w:=Pv M ([[.int 1],[.int 65535],[.int 65534]]);let O:w:=U.2;let P:Int×w:=Pv O ([[.int 64],[.int 64],[.int 255]]);let Q:w:=P.2;let o:Int×w:=rB Q;let p:w:=o.2;let q:EP×w:=yM p (DB a 128);let d:EP:=q.1;let R:Int:=d.c;let e:Bool:=R==6;let r:Int:=d.b;let f:Bool:=(bits .andNot .i64 r 9)==16;let g:w:=q.2;let X:Bool×w:=US g 2;let j:w:=X.2;let k:u:=g.b;let l:Int:=g.i;let m:Int:=g.h;let n:w:=(⟨cond e (cond f (cond (128<a) j.b k) k) k,cond e (cond f (cond (128<a) j.i l) l) l,cond e (cond f (cond (128<a) j.h m) m) m⟩:w);let W:Int:=s ((s (a - 128))+1);let Z:Int×w:=mz n W;let v:w:=Z.2;let V:Int:=s (128+Z.1);let Y:Int:=H.1;let y:Int:=J.1;let z:Int:=L.1;let A:Int:=U.1;let B:Int:=P.1;let C:Int:=o.1;let D:x×w:=GF v V;cond (t (t (t (t (t (t (t true (VE c G)) (VE E.2 ([[.int 6],[.int 8]]))) (VE I ([[.int (-1)],[.int (-1)],[.int 7]]))) (VE K ([[.int 0],[.int 0],[.int 255]]))) (VE M ([[.int 1],[.int 65535],[.int 65534]]))) (VE O ([[.int 64],[.int 64],[.int 255]]))) (ZL Q)) (cond (t true (Bt p (DB a 128))) (cond (pk e (pk f (pk (decide (128<a)) (t true (pe g 2)) true) true) true) (cond (cond e (cond f (cond (128<a) X.1 false) false) false) (cond (t (t true (pe n W)) (pe v V)) (F (⟨E.1,Y,y,z,A,B,C,167772161,(⟨R,d.f,d.e,d.d,d.g,r,d.h,D.1⟩:EP)⟩:N) D.2) lf) (F (⟨E.1,Y,y,z,A,B,C,167772161,d⟩:N) n)) lf) lf) lf
def Ef(c:w)(a:Int):Bool:=Ay false (λ_ _=>true) c a
def W8(c:w)(a:Int):N×w:=(Ay none (λb d=>some (b,d)) c a).getD (⟨0,0,0,0,0,0,0,0,⟨0,0,0,0,0,0,0,[]⟩⟩,⟨[],0,0⟩)
theorem nCE(b:N→w→α)(c:w)(a:Int)(d:Ef c a=true):Ay lf b c a=b (W8 c a).1 (W8 c a).2:=by exact A0 (K:=λr:N×w=>b r.1 r.2) (Ro (Ro (Ro (nd3 (Ro (λ_=>⟨_,rfl,rfl⟩)) (λ_=>⟨_,rfl,rfl⟩))))) d
theorem nuI{b:Bool}{x y:w}(a:vl x=true)(c:vl y=true):vl (⟨cond b x.b y.b,cond b x.i y.i,cond b x.h y.h⟩:w)=true:=by
 cases b
 ·exact c
 ·exact a
theorem zr{c:w}(h:vl c=true)(a:Int):Ef c a=true∧vl (W8 c a).2=true:=by
 have e:=dt h [[.int 2],[.int 2],[.int 2],[.int 4],[.int 281474976710655]];have f:=dt e [[.int 6],[.int 8]];have g:=dt f [[.int (-1)],[.int (-1)],[.int 7]];have i:=dt g [[.int 0],[.int 0],[.int 255]];have j:=dt i [[.int 1],[.int 65535],[.int 65534]];have m:=dt j [[.int 64],[.int 64],[.int 255]];have k:=N4 m;have b:=nxg k.2 (DB a 128);simp only[Ef,W8,Ay,mQ h,mQ e,mQ f,mQ g,mQ i,mQ j,k.1,b.1,zH 2 b.2,Oi,cz,H,vb];generalize yM (rB (Pv (Pv (Pv (Pv (Pv (Pv c [[.int 2],[.int 2],[.int 2],[.int 4],[.int 281474976710655]]).2 [[.int 6],[.int 8]]).2 [[.int (-1)],[.int (-1)],[.int 7]]).2 [[.int 0],[.int 0],[.int 255]]).2 [[.int 1],[.int 65535],[.int 65534]]).2 [[.int 64],[.int 64],[.int 255]]).2).2 (DB a 128)=G at b ⊢;have d:=iB b.2 2;have l:=QX d (s (s (a - 128)+1));have n:=Va l (s (128+(mz (US G.2 2).2 (s (s (a - 128)+1))).1));cases (G.1.c==6)
 ·exact⟨rfl,b.2⟩
 cases ((bits .andNot .i64 G.1.b 9)==16)
 ·exact⟨rfl,b.2⟩
 cases decide (128<a)
 ·exact⟨rfl,b.2⟩
 simp only[H,cpF,zH _ d,zH _ l,Oi];cases (US G.2 2).1
 ·exact⟨rfl,d⟩
 ·exact⟨rfl,n⟩
def R{Z:Type}(T:(α:Type)→α→(Z→α)→α)(P:Z→Prop):Prop:=∃r,P r∧∀(α:Type) (lf:α) (k:Z→α),T α lf k=k r
theorem lG{Z:Type}{g:Bool}{T:(α:Type)→α→(Z→α)→α}{P:Z→Prop}(a:g=true)(h:R T P):R (λα lf k=>cond g (T α lf k) lf) P:=by subst a;exact h
theorem xV{Z:Type}{c:Bool}{T U:(α:Type)→α→(Z→α)→α}{P:Z→Prop}(a:c=true→R T P)(b:c=false→R U P):R (λα lf k=>cond c (T α lf k) (U α lf k)) P:=by
 cases c
 ·exact b rfl
 ·exact a rfl
theorem Et{Z:Type}{r:Z}{P:Z→Prop}(h:P r):R (λ_ _ k=>k r) P:=⟨r,h,λ_ _ _=>rfl⟩
theorem gw{Z:Type}{T:(α:Type)→α→(Z→α)→α}{P Q:Z→Prop}(h:R T P)(i:∀r,P r→Q r):R T Q:=by obtain⟨r,a,b⟩:=h;exact⟨r,i r a,b⟩
open Classical in
def drawn{Z:Type}(d:Z)(T:(α:Type)→α→(Z→α)→α)(P:Z→Prop):Z:=if h:R T P then h.choose else d
theorem zb{Z:Type}{d:Z}{T:(α:Type)→α→(Z→α)→α}{P:Z→Prop}(h:R T P):P (drawn d T P)∧∀(α:Type) (lf:α) (k:Z→α),T α lf k=k (drawn d T P):=by unfold drawn;rw[dif_pos h];exact h.choose_spec
def U4(a:x→w→α)(c:w):α:=cond (t true (pe c 16)) (a ((GF c 16).1) ((GF c 16).2)) lf
def Y_(c:w):(α:Type)→α→((x×w)→α)→α:=λα lf k=>U4 lf (λa b=>k (a,b)) c
def GA(c:w)(r:(x×w)):Prop:=vl r.2=true
def kj(c:w):(x×w):=drawn ([],c) (Y_ c) (GA c)
theorem nwh{c:w}(b:vl c=true):R (Y_ c) (GA c):=by have a:vl c=true:=b;unfold Y_ GA U4;exact lG (ZY (zH _ a)) (Et (Va a _))
theorem nfq{c:w}(a:vl c=true):GA c (kj c):=(zb (nwh a)).1
theorem nbz(a:x→w→α)(c:w)(b:vl c=true):U4 lf a c=a (kj c).1 (kj c).2:=by exact (zb (nwh b)).2 α lf (λr=>a r.1 r.2)
def nrc(g:Ve→w→α)(c:w):α:=let a:Int×w:=Pv c ([[.int 6],[.int 6],[.int 17]]);let b:Int×w:=rB a.2;let d:Int×w:=mz b.2 4;let e:w:=d.2;let f:Int×w:=Pv e ([[.int 80],[.int 53]]);cond (t (t (t (t true (VE c ([[.int 6],[.int 6],[.int 17]]))) (ZL a.2)) (pe b.2 4)) (VE e ([[.int 80],[.int 53]]))) (g (⟨a.1,b.1,167772161,s (1000+d.1),f.1⟩:Ve) f.2) lf
def big(c:w):(α:Type)→α→((Ve×w)→α)→α:=λα lf k=>nrc lf (λa b=>k (a,b)) c
def wC(c:w)(r:(Ve×w)):Prop:=vl r.2=true
def VX(c:w):(Ve×w):=drawn (⟨0,0,0,0,0⟩,c) (big c) (wC c)
theorem nvn{c:w}(e:vl c=true):R (big c) (wC c):=by have b:vl c=true:=e;unfold big wC nrc;dsimp only;have f:∀l,vl (Pv c l).2=true:=λl=>dt b l;have a:=λl=>N4 (f l);have d:=λl=>QX (a l).2 4;refine lG ?_ (Et (dt (d _) _));simp only[mQ b,(a _).1,zH _ (a _).2,mQ (d _),Oi]
theorem nq3{c:w}(a:vl c=true):wC c (VX c):=(zb (nvn a)).1
theorem nEE(a:Ve→w→α)(c:w)(b:vl c=true):nrc lf a c=a (VX c).1 (VX c).2:=by exact (zb (nvn b)).2 α lf (λr=>a r.1 r.2)
def ca(b:QD→w→α)(c:w):α:=let a:Bool×w:=US ((US c 4).2) 2;cond (t true (pe c 4)) (cond (t true (pe ((US c 4).2) 2)) (cond a.1 (b (⟨2,(US c 4).1,[[.int 7]]⟩:QD) a.2) (b (⟨2,(US c 4).1,[]⟩:QD) a.2)) lf) lf
def U3(c:w):(α:Type)→α→((QD×w)→α)→α:=λα lf k=>ca lf (λa b=>k (a,b)) c
def fH(c:w)(r:(QD×w)):Prop:=vl r.2=true∧r.1.a.length≤1
def wM(c:w):(QD×w):=drawn (⟨0,false,[]⟩,c) (U3 c) (fH c)
theorem nj8{c:w}(e:vl c=true):R (U3 c) (fH c):=by have a:vl c=true:=e;unfold U3 fH ca;dsimp only;have b:=iB a 4;have d:=iB b 2;refine lG (ZY (zH _ a)) (lG (ZY (zH _ b)) ?_);exact xV (λ_=>Et ⟨d,vN _⟩) (λ_=>Et ⟨d,vI _⟩)
theorem ncA{c:w}(a:vl c=true):fH c (wM c):=(zb (nj8 a)).1
theorem njl(a:QD→w→α)(c:w)(b:vl c=true):ca lf a c=a (wM c).1 (wM c).2:=by exact (zb (nj8 b)).2 α lf (λr=>a r.1 r.2)
def ko(j:ao→w→α)(c:w):α:=let i:Int×w:=Pv ((mz c 3).2) ([[.int 0],[.int 6],[.int 17]]);let k:Int×w:=rB i.2;let l:w:=k.2;let m:Int×w:=Pv l ([[.int 0],[.int 8],[.int 31],[.int 32]]);let n:w:=m.2;let o:Int×w:=Pv n ([[.int 0],[.int 53],[.int 80]]);let p:w:=o.2;let q:Int×w:=Pv p ([[.int 80],[.int 100],[.int 65535]]);let r:w:=q.2;let s:Int×w:=Pv r ([[.int (-2)],[.int (-2)],[.int (-1)],[.int 7]]);let Z:w:=s.2;let u:Int×w:=Pv Z ([[.int 0],[.int 0],[.int 1]]);let a:Int:=u.1;let b:w:=u.2;let d:Int:=k.1;let e:Int:=m.1;let v:Int:=o.1;let f:Int:=q.1;let g:Int:=s.1;let h:Int×w:=mz b 4;cond (t (t (t (t (t (t (t (t true (pe c 3)) (VE ((mz c 3).2) ([[.int 0],[.int 6],[.int 17]]))) (ZL i.2)) (VE l ([[.int 0],[.int 8],[.int 31],[.int 32]]))) (VE n ([[.int 0],[.int 53],[.int 80]]))) (VE p ([[.int 80],[.int 100],[.int 65535]]))) (VE r ([[.int (-2)],[.int (-2)],[.int (-1)],[.int 7]]))) (VE Z ([[.int 0],[.int 0],[.int 1]]))) (cond (a==0) (cond (t true (pe b 4)) (j (⟨(mz c 3).1,i.1,d,e,v,f,g,a,h.1⟩:ao) h.2) lf) (j (⟨(mz c 3).1,i.1,d,e,v,f,g,a,0⟩:ao) b)) lf
def mL(c:w):(α:Type)→α→((ao×w)→α)→α:=λα lf k=>ko lf (λa b=>k (a,b)) c
def g0(c:w)(r:(ao×w)):Prop:=vl r.2=true
def Vh(c:w):(ao×w):=drawn (⟨0,0,0,0,0,0,0,0,0⟩,c) (mL c) (g0 c)
theorem nr0{c:w}(j:vl c=true):R (mL c) (g0 c):=by have d:vl c=true:=j;unfold mL g0 ko;dsimp only;have e:=QX d 3;have k:=dt e [[.int 0],[.int 6],[.int 17]];have a:=N4 k;have f:=dt a.2 [[.int 0],[.int 8],[.int 31],[.int 32]];have g:=dt f [[.int 0],[.int 53],[.int 80]];have h:=dt g [[.int 80],[.int 100],[.int 65535]];have i:=dt h [[.int (-2)],[.int (-2)],[.int (-1)],[.int 7]];have b:=dt i [[.int 0],[.int 0],[.int 1]];refine lG (by simp only[zH _ d,mQ e,a.1,mQ a.2,mQ f,mQ g,mQ h,mQ i,Oi]) ?_;exact xV (λ_=>lG (ZY (zH _ b)) (Et (QX b 4))) (λ_=>Et b)
theorem ncw{c:w}(a:vl c=true):g0 c (Vh c):=(zb (nr0 a)).1
theorem neV(a:ao→w→α)(c:w)(b:vl c=true):ko lf a c=a (Vh c).1 (Vh c).2:=by exact (zb (nr0 b)).2 α lf (λr=>a r.1 r.2)
def nc1(a:mB→α):α:=a (⟨(vU 8 ([.int 0,.int 0,.int 0,.int 0,.int 0,.int 0,.int 0]:List DC))⟩:mB)
def P4:mB:=nc1 id
theorem nlI(a:mB→α):nc1 a=a P4:=by rfl
def noD(a:Int→α)(b:Bool):α:=cond b (a 1) (a 0)
def gU(b:Bool):Int:=noD id b
theorem nbu(a:Int→α)(b:Bool):noD a b=a (gU b):=by exact Ha rfl rfl
def yw(a:Int→α)(v:Ue):α:=cond (cond (!(iv v)) true (cond v.a true (v.c==0))) (a (-1)) (cond v.f (a 0) (a (s (v.d - v.b))))
def iy(v:Ue):Int:=yw id v
theorem nyO(a:Int→α)(v:Ue):yw a v=a (iy v):=by exact Ha rfl (Ha rfl rfl)
def uw(b:Bool→α)(list_:u)(m:v)(a:Int)(q:S):α:=cond (!(TH q)) (b false) (b ((Sf list_ m a q.d).2.2))
def SV(list_:u)(m:v)(a:Int)(q:S):Bool:=uw id list_ m a q
theorem nAP(b:Bool→α)(list_:u)(m:v)(a:Int)(q:S):uw b list_ m a q=b (SV list_ m a q):=by exact Ha rfl rfl
def tO(f:u→w→α)(g:d6 α)(k:Int)(a:u)(c d:Int)(e:u):α:=cond (0<k) (cond (t (t true (vl (⟨a,c,d⟩:w))) (Em 72 e [ao.enc ((Vh (⟨a,c,d⟩:w)).1)])) (g (s (k - 1)) (((Vh (⟨a,c,d⟩:w)).2).b) (((Vh (⟨a,c,d⟩:w)).2).i) (((Vh (⟨a,c,d⟩:w)).2).h) (e++[ao.enc ((Vh (⟨a,c,d⟩:w)).1)])) lf) (f e (⟨a,c,d⟩:w))
def BB(a:u→w→α)(N b:Nat):d6 α:=bW (λ_ _ _ _ _=>lf) (tO lf a) b
def ndr(d:u→w→α)(a:d6 α)(c:w):α:=cond (t true (pe c 5)) (a ((mz c 5).1) (((mz c 5).2).b) (((mz c 5).2).i) (((mz c 5).2).h) []) lf
def nqa(a:u→w→α)(N:Nat)(c:w):α:=ndr lf a (BB lf a N N) c
def Fs(c:w):(α:Type)→α→((u×w)→α)→α:=λα lf k=>nqa lf (λa b=>k (a,b)) 6 c
def D9(c:w)(r:(u×w)):Prop:=vl r.2=true∧r.1.length≤4
def Dj(c:w):(u×w):=drawn ([],c) (Fs c) (D9 c)
theorem nh7{c:w}(l:vl c=true):R (Fs c) (D9 c):=by
 have g:vl c=true:=l;have j:=yP c 5;have n:=j.2 (by omega);unfold Fs D9 nqa ndr;have key:∀(m q:Nat) (d:w) (o:u),m<q→o.length+m≤100→vl d=true→R (λα lf k=>BB lf (λa e=>k (a,e)) 6 q (m:Int) d.b d.i d.h o) (λr=>vl r.2=true∧r.1.length=o.length+m):=by
  intro m
  induction m with
  | zero=>
   intro q d o Y t f;obtain⟨q,rfl⟩:=DF q;show R (λα lf k=>tO lf (λa e=>k (a,e)) (BB lf (λa e=>k (a,e)) 6 q) ((0:Nat):Int) d.b d.i d.h o) _;unfold tO;dsimp only;exact xV (λh=>absurd (of_decide_eq_true h) (by omega)) (λ_=>Et ⟨f,rfl⟩)
  | succ m Z=>
   intro q d o Y t f;obtain⟨q,rfl⟩:=DF q;show R (λα lf k=>tO lf (λa e=>k (a,e)) (BB lf (λa e=>k (a,e)) 6 q) ((m+1:Nat):Int) d.b d.i d.h o) _;unfold tO;dsimp only;have v:∀(z:Nat) (x:List DC),z≤1000→Em z o [x]=true:=λz x y=>W6 (by simp only[I_,vF];omega) (by omega);have X:s (((m+1:Nat):Int) - 1)=(m:Int):=by rw[fg];omega
   refine xV (λ_=>?_) (λh=>absurd (of_decide_eq_false h) (by omega));refine lG (by rw[v 72 _ (by omega)];simp only[Oi,cz];exact f) ?_;rw[X];refine gw (Z q (Vh d).2 (o++[ao.enc (Vh d).1]) (by omega) (by rw[fK];simp only[I_,vF];omega) (ncw f)) (λr h=>⟨h.1, ?_⟩);rw[h.2,fK];simp only[I_,vF];omega
 refine lG (ZY (zH _ g)) ?_;have:=key (mz c 5).1.toNat 6 (mz c 5).2 [] (by omega) (by simp only[vF];omega) (QX g 5);rw[xY j.1] at this;exact gw this (λr h=>⟨h.1,by rw[h.2];simp only[vF];omega⟩)
theorem nqi{c:w}(a:vl c=true):D9 c (Dj c):=(zb (nh7 a)).1
theorem nht(a:u→w→α)(c:w)(b:vl c=true):∃N,nqa lf a N c=a (Dj c).1 (Dj c).2:=by exact⟨6,(zb (nh7 b)).2 α lf (λr=>a r.1 r.2)⟩
def vV(g:iI→Int→w→α)(a:Int)(Z:x)(j:d6 α)(k:Int)(c:u)(d e:Int)(f:u):α:=cond (0<k) (cond (t (t true (pe (⟨c,d,e⟩:w) a)) (Em 8 f ([[.int ((mz (⟨c,d,e⟩:w) a).1)]]))) (j (s (k - 1)) (((mz (⟨c,d,e⟩:w) a).2).b) (((mz (⟨c,d,e⟩:w) a).2).i) (((mz (⟨c,d,e⟩:w) a).2).h) (f++([[.int ((mz (⟨c,d,e⟩:w) a).1)]]))) lf) (g (⟨Z,f⟩:iI) a (⟨c,d,e⟩:w))
def QY(a:iI→Int→w→α)(N:Nat)(b:Int)(s:x)(c:Nat):d6 α:=bW (λ_ _ _ _ _=>lf) (vV lf a b s) c
def f0(f:iI→Int→w→α)(e:Int→x→Int→u→Int→Int→u→α)(c:w):α:=let d:Int×w:=Pv ((kj ((mz c 4).2)).2) ([[.int 1],[.int 2],[.int 4],[.int 8]]);let a:w:=d.2;cond (t true (pe c 4)) (cond (t true (vl ((mz c 4).2))) (cond (t true (VE ((kj ((mz c 4).2)).2) ([[.int 1],[.int 2],[.int 4],[.int 8]]))) (e (s (1+((mz c 4).1))) ((kj ((mz c 4).2)).1) d.1 a.b a.i a.h []) lf) lf) lf
def nxj(a:iI→Int→w→α)(N:Nat)(c:w):α:=f0 lf a (λb s=>QY lf a N b s N) c
def KT(c:w):(α:Type)→α→((iI×Int×w)→α)→α:=λα lf k=>nxj lf (λa b d=>k (a,b,d)) 9 c
def A5(c:w)(r:(iI×Int×w)):Prop:=vl r.2.2=true∧r.1.a.length≤8∧1≤r.2.1∧r.2.1≤4
def yt(c:w):(iI×Int×w):=drawn (⟨[],[]⟩,0,c) (KT c) (A5 c)
theorem niG{c:w}(y:vl c=true):R (KT c) (A5 c):=by
 have X:vl c=true:=y;have A:=yP c 4;have B:=A.2 (by omega);have t:=QX X 4;have Z:vl (kj (mz c 4).2).2=true:=nfq t;have g:=dt Z [[.int 1],[.int 2],[.int 4],[.int 8]];unfold KT A5 nxj f0;dsimp only;generalize (kj (mz c 4).2).1=Y;have v:∃n:Nat,n≤8∧(Pv (kj (mz c 4).2).2 [[.int 1],[.int 2],[.int 4],[.int 8]]).1=(n:Int):=by
  obtain⟨j,C,D⟩:=ndb (kj (mz c 4).2).2 (l:=[[.int 1],[.int 2],[.int 4],[.int 8]]) (by decide);rw[D];simp only[I_,vF] at C;rcases j with _ | _ | _ | _ | j
  ·exact⟨1,by omega,rfl⟩
  ·exact⟨2,by omega,rfl⟩
  ·exact⟨4,by omega,rfl⟩
  ·exact⟨8,by omega,rfl⟩
  ·omega
 obtain⟨n,I,v⟩:=v;refine lG (ZY (zH _ X)) (lG (ZY t) (lG (ZY (mQ Z)) ?_));rw[v];generalize E:s (1+(mz c 4).1)=nk;rw[fg] at E;have key:∀(m q:Nat) (d:w) (o:u),m<q→o.length+m≤100→vl d=true→R (λα lf k=>QY lf (λa e f=>k (a,e,f)) 9 nk Y q (m:Int) d.b d.i d.h o) (λr=>vl r.2.2=true∧r.1.a.length=o.length+m∧r.2.1=nk):=by
  intro m
  induction m with
  | zero=>
   intro q d o t Z g;obtain⟨q,rfl⟩:=DF q;show R (λα lf k=>vV lf (λa e f=>k (a,e,f)) nk Y (QY lf (λa e f=>k (a,e,f)) 9 nk Y q) ((0:Nat):Int) d.b d.i d.h o) _;unfold vV;dsimp only;exact xV (λh=>absurd (of_decide_eq_true h) (by omega)) (λ_=>Et ⟨g,rfl,rfl⟩)
  | succ m F=>
   intro q d o t Z g;obtain⟨q,rfl⟩:=DF q;show R (λα lf k=>vV lf (λa e f=>k (a,e,f)) nk Y (QY lf (λa e f=>k (a,e,f)) 9 nk Y q) ((m+1:Nat):Int) d.b d.i d.h o) _;unfold vV;dsimp only;have G:∀(z:Nat) (x:List DC),z≤1000→Em z o [x]=true:=λz x J=>W6 (by simp only[I_,vF];omega) (by omega);have H:s (((m+1:Nat):Int) - 1)=(m:Int):=by rw[fg];omega
   refine xV (λ_=>?_) (λh=>absurd (of_decide_eq_false h) (by omega));refine lG (by rw[G 8 _ (by omega)];simp only[Oi,cz];exact g) ?_;rw[H];refine gw (F q (mz d nk).2 (o++[[.int (mz d nk).1]]) (by omega) (by rw[fK];simp only[I_,vF];omega) (QX g _)) (λr h=>⟨h.1, ?_,h.2.2⟩);rw[h.2.1,fK];simp only[I_,vF];omega
 refine gw (key n 9 _ [] (by omega) (by simp only[vF];omega) g) (λr h=>⟨h.1, ?_, ?_, ?_⟩)
 ·rw[h.2.1];simp only[vF];omega
 ·rw[h.2.2];omega
 ·rw[h.2.2];omega
theorem nub{c:w}(a:vl c=true):A5 c (yt c):=(zb (niG a)).1
theorem njU(a:iI→Int→w→α)(c:w)(b:vl c=true):∃N,nxj lf a N c=a (yt c).1 (yt c).2.1 (yt c).2.2:=by exact⟨9,(zb (niG b)).2 α lf (λr=>a r.1 r.2.1 r.2.2)⟩
def Ow(Z:u→w→α)(c:u)(Y:d6 α)(k:Int)(d:u)(e f:Int)(g:u):α:=let a:Ve:=Ng (N.nd (q c (u1 k)) 0);let j:Bool:=a.c==6;let l:Bool:=decide (Uf g a<0);let m:Bool×w:=US (⟨d,e,f⟩:w) 6;let X:u:=cond j (cond l m.2.b d) d;let W:Int:=cond j (cond l m.2.i e) e;let V:Int:=cond j (cond l m.2.h f) f;let n:w:=(⟨X,W,V⟩:w);let o:u:=[[.int 0],[.int 0],[.int 0],[.int 1],[.int 5],[.int (-3)]];let p:w:=(Pv n o).2;cond (k<len c) (cond (t true (A k c)) (cond (pk j (pk l (t true (pe (⟨d,e,f⟩:w) 6)) true) true) (cond (cond j (cond l (!m.1) false) false) (cond (t (t true (A k c)) (VE n o)) (cond (t true (Em 72 g ([[.int a.c,.int a.b,.int a.d,.int a.f,.int a.e,.int (bits .and .i64 (s ((r (q c (u1 k)) 11)+((Pv n o).1))) 4294967295),.str [],.bool false]]))) (Y (s (k+1)) p.b p.i p.h (g++([[.int a.c,.int a.b,.int a.d,.int a.f,.int a.e,.int (bits .and .i64 (s ((r (q c (u1 k)) 11)+((Pv n o).1))) 4294967295),.str [],.bool false]]))) lf) lf) (Y (s (k+1)) X W V g)) lf) lf) (Z g (⟨d,e,f⟩:w))
def Py(a:u→w→α)(N:Nat)(b:u)(c:Nat):d6 α:=bW (λ_ _ _ _ _=>lf) (Ow lf a b) c
def wW(lf:α)(d:u→w→α)(a:d6 α)(c:w)(e:u):α:=a 0 c.b c.i c.h []
def Qb(a:u→w→α)(N:Nat)(c:w)(b:u):α:=wW lf a (Py lf a N b N) c b
def qu(c:w)(a:u):Bool:=vl c && decide (a.length≤1000)
def ne6(c:w)(a:u):(α:Type)→α→((u×w)→α)→α:=λα lf k=>Qb lf (λb d=>k (b,d)) (a.length+1) c a
def tw(c:w)(a:u)(r:(u×w)):Prop:=vl r.2=true∧r.1.length≤a.length∧∀x∈r.1,Gi x 6=[]
def Yz(c:w)(a:u):(u×w):=drawn ([],c) (ne6 c a) (tw c a)
theorem njA{c:w}{a:u}(X:qu c a=true):R (ne6 c a) (tw c a):=by
 simp only[qu,Bl,js] at X;obtain⟨Z,C⟩:=X;unfold ne6 tw Qb wW;have key:∀(m Y i:Nat) (d:w) (o:u),m<Y→i+m=a.length→o.length≤i→(∀x∈o,Gi x 6=[])→vl d=true→R (λα lf k=>Py lf (λe f=>k (e,f)) (a.length+1) a Y (i:Int) d.b d.i d.h o) (λr=>vl r.2=true∧r.1.length≤a.length∧∀x∈r.1,Gi x 6=[]):=by
  intro m
  induction m with
  | zero=>
   intro Y i d o v W y l j;obtain⟨Y,rfl⟩:=DF Y;show R (λα lf k=>Ow lf (λe f=>k (e,f)) a (Py lf (λe f=>k (e,f)) (a.length+1) a Y) (i:Int) d.b d.i d.h o) _;unfold Ow;dsimp only;exact xV (λh=>absurd (of_decide_eq_true h) (by simp only[len];omega)) (λ_=>Et ⟨j,by show o.length≤_;omega,l⟩)
  | succ m t=>
   intro Y i d o v W y l j;obtain⟨Y,rfl⟩:=DF Y;show R (λα lf k=>Ow lf (λe f=>k (e,f)) a (Py lf (λe f=>k (e,f)) (a.length+1) a Y) (i:Int) d.b d.i d.h o) _;unfold Ow;dsimp only;have z:i<a.length:=by omega
   have A:∀(x:List DC),Em 72 o [x]=true:=λx=>W6 (by simp only[I_,vF];omega) (by omega);have B:s ((i:Int)+1)=((i+1:Nat):Int):=by rw[fg];omega
   refine xV (λ_=>?_) (λh=>absurd (of_decide_eq_false h) (by simp only[len];omega));rw[mZ z,B];refine lG rfl ?_;have h4':=iB j 6;refine lG (Wi (λ_=>Wi (λ_=>ZY (zH _ j)) (λ_=>rfl)) (λ_=>rfl)) ?_;have n:vl (⟨cond ((Ng (N.nd (q a (u1 (i:Int))) 0)).c==6) (cond (Uf o (Ng (N.nd (q a (u1 (i:Int))) 0))<0) (US d 6).2.b d.b) d.b,cond ((Ng (N.nd (q a (u1 (i:Int))) 0)).c==6) (cond (Uf o (Ng (N.nd (q a (u1 (i:Int))) 0))<0) (US d 6).2.i d.i) d.i,cond ((Ng (N.nd (q a (u1 (i:Int))) 0)).c==6) (cond (Uf o (Ng (N.nd (q a (u1 (i:Int))) 0))<0) (US d 6).2.h d.h) d.h⟩:w)=true:=by
    cases (Ng (N.nd (q a (u1 (i:Int))) 0)).c==6
    ·exact j
    ·cases decide (Uf o (Ng (N.nd (q a (u1 (i:Int))) 0))<0)
     ·exact j
     ·exact h4'
   refine xV (λ_=>?_) (λ_=>?_)
   ·refine lG (by rw[Oi];exact ZY (mQ n)) (lG (ZY (A _)) ?_);refine t Y (i+1) (Pv (⟨_,_,_⟩:w) _).2 (o++[_]) (by omega) (by omega) (by rw[fK];simp only[I_,vF];omega) ?_ (dt n _);intro x g;rcases v_.1 g with g | g
    ·exact l x g
    ·rw[wa.1 g];rfl
   ·exact t Y (i+1) (⟨_,_,_⟩:w) o (by omega) (by omega) (by omega) l n
 exact key a.length (a.length+1) 0 c [] (by omega) (by omega) (vN _) (λx g=>by cases g) Z
theorem ns7{c:w}{a:u}(b:qu c a=true):tw c a (Yz c a):=(zb (njA b)).1
theorem cpR(b:u→w→α)(c:w)(a:u)(d:qu c a=true):∃N,Qb lf b N c a=b (Yz c a).1 (Yz c a).2:=by exact⟨(a.length+1),(zb (njA d)).2 α lf (λr=>b r.1 r.2)⟩
def oE(d:mB→Bool→α)(a:Int)(e:u)(f g h j l:Int)(b:u)(m:Int→Int→α)(i k:Int):α:=let c:Int:=u3 (s ((Nb (⟨f,g,h,j,l⟩:Ve))+k)) 8;cond (cond (k<8) (decide (i<0)) false) (cond (t true (A c e)) (m (cond ((r (q e (u1 c)) 0) != 1) c i) (s (k+1))) lf) (cond (i<0) (d (⟨b⟩:mB) false) (cond (t (t true (A i b)) (inl (u1 i) b)) (d (⟨u2 b (u1 i) (Sk (q b (u1 i)) 0 [.int 1,.int f,.int g,.int h,.int j,.int l,.int a])⟩:mB) true) lf))
def WM(b:mB→Bool→α)(N:Nat)(a:Int)(c:u)(d e f g h:Int)(i:u)(j:Nat):Int→Int→α:=bW (λ_ _=>lf) (oE lf b a c d e f g h i) j
def nwW(b:mB→Bool→α)(c:u→Int→Int→Int→Int→Int→u→Int→Int→α)(Z:mB)(f:Ve)(a:Int):α:=cond (t true (tc Z)) (cond (cond (!(Fo Z)) true (!(D a 0 3))) (b (F Z) false) (cond (t true (xS Z f)) (c Z.a f.c f.b f.d f.f f.e ((F Z).a) (zz Z f) 0) lf)) lf
def fA(b:mB→Bool→α)(N:Nat)(t:mB)(f:Ve)(a:Int):α:=nwW lf b (λc d e g h i j=>WM lf b N a c d e g h i j N) t f a
def HO(t:mB)(f:Ve)(a:Int):Bool:=tc t
theorem ngK(t:u)(h:Int)(f:Ve):∀(m k:Nat),R_ t h f m k<8
 | 0,_=>by show (-1:Int)<8;omega
 | m+1,k=>by
  unfold R_;cases (r (q t (u1 ((h+(k:Int)) % 8))) 0)==0
  ·cases tP (q t (u1 ((h+(k:Int)) % 8))) f
   ·exact ngK t h f m (k+1)
   ·show (h+(k:Int)) % 8<8;omega
  ·show (-1:Int)<8;omega
theorem nuN(t:mB)(f:Ve):zz t f<8:=ngK _ _ _ _ _
def X9(t:mB)(f:Ve)(a:Int):(α:Type)→α→((mB×Bool)→α)→α:=λα lf k=>fA lf (λb c=>k (b,c)) 9 t f a
def oU(t:mB)(f:Ve)(a:Int)(r:(mB×Bool)):Prop:=r.1.a.length=t.a.length
def Zq(t:mB)(f:Ve)(a:Int):(mB×Bool):=drawn (⟨[]⟩,false) (X9 t f a) (oU t f a)
theorem nyw{t:mB}{f:Ve}{a:Int}(n:HO t f a=true):R (X9 t f a) (oU t f a):=by
 have o:tc t=true:=n;unfold X9 oU fA nwW;rw[show F t=t from rfl];refine lG (ZY o) (xV (λ_=>Et rfl) (λX=>?_));have e:=Vk (Uk X).1;have u:t.a.length=8:=by
  unfold Fo at e;cases d:(len t.a) != 8
  ·have:len t.a=8:=by simpa using d
   simp only[len] at this;omega
  ·rw[d] at e;cases e
 refine lG (ZY (Hd u)) ?_;have B:=tu f;have key:∀(m Z i:Nat) (x:Int),m<Z→i+m=8→x<8→R (λα lf k=>WM lf (λb c=>k (b,c)) 9 a t.a f.c f.b f.d f.f f.e t.a Z x (i:Int)) (λY=>Y.1.a.length=t.a.length):=by
  intro m
  induction m with
  | zero=>
   intro Z i x d v l;obtain⟨Z,rfl⟩:=DF Z;show R (λα lf k=>oE lf (λb c=>k (b,c)) a t.a f.c f.b f.d f.f f.e t.a (WM lf (λb c=>k (b,c)) 9 a t.a f.c f.b f.d f.f f.e t.a Z) x (i:Int)) _;unfold oE;dsimp only;rw[ja (show ¬(i:Int)<8 by omega)];refine xV (λh=>by cases h) (λ_=>?_);refine xV (λ_=>Et rfl) (λh=>?_);have h:=of_decide_eq_false h;refine lG ?_ (Et (vo ..));have g:A x t.a=true:=by simp only[A,Bl,js];omega
   have j:inl (u1 x) t.a=true:=by simp only[inl,js];omega
   rw[g,j];rfl
  | succ m w=>
   intro Z i x d v l;obtain⟨Z,rfl⟩:=DF Z;show R (λα lf k=>oE lf (λb c=>k (b,c)) a t.a f.c f.b f.d f.f f.e t.a (WM lf (λb c=>k (b,c)) 9 a t.a f.c f.b f.d f.f f.e t.a Z) x (i:Int)) _;unfold oE;dsimp only;have y:(⟨f.c,f.b,f.d,f.f,f.e⟩:Ve)=f:=rfl;have z:s ((i:Int)+1)=((i+1:Nat):Int):=by rw[fg];omega
   have W:0≤u3 (s (Nb f+(i:Int))) 8∧u3 (s (Nb f+(i:Int))) 8<8:=by rw[fg,vR (by omega)];omega
   rw[y,z];refine xV (λ_=>?_) (λ_=>?_)
   ·refine lG (by rw[show A (u3 (s (Nb f+(i:Int))) 8) t.a=true from by simp only[A,Bl,js];omega];rfl) ?_;refine w Z (i+1) _ (by omega) (by omega) ?_;cases (r (q t.a (u1 (u3 (s (Nb f+(i:Int))) 8))) 0) != 1
    ·exact l
    ·exact W.2
   ·refine xV (λ_=>Et rfl) (λh=>?_);have h:=of_decide_eq_false h;refine lG ?_ (Et (vo ..));have g:A x t.a=true:=by simp only[A,Bl,js];omega
    have j:inl (u1 x) t.a=true:=by simp only[inl,js];omega
    rw[g,j];rfl
 exact key 8 9 0 _ (by omega) (by omega) (nuN t f)
theorem nuf{t:mB}{f:Ve}{a:Int}(b:HO t f a=true):oU t f a (Zq t f a):=(zb (nyw b)).1
theorem nty(b:mB→Bool→α)(t:mB)(f:Ve)(a:Int)(c:HO t f a=true):∃N,fA lf b N t f a=b (Zq t f a).1 (Zq t f a).2:=by exact⟨9,(zb (nyw c)).2 α lf (λr=>b r.1 r.2)⟩
def zF(k_:u→w→α)(C:Oj α)(size k:Int)(nQ:u)(nC nD p o q r K aco acx aaZ c v acA z ab5 V y:Int)(U:x)(l:u):α:=let z0:Bool×w:=US (⟨nQ,nC,nD⟩:w) 5;let a:N×w:=W8 z0.2 40;let z2:Bool×w:=US a.2 6;let W:w:=z2.2;let D:Int:=a.1.a.c;let m:Bool:=D==6;let z6:Int×w:=mz W 40;let Z:w:=z6.2;let Y:u:=[[.int 16],[.int 16],[.int 16],[.int 16],[.int 16],[.int 24],[.int 17],[.int 2]];let z9:Int×w:=Pv Z Y;let V3:w:=z9.2;let TM:Int:=s (1+z6.1);let z12:x×w:=GF V3 TM;let L:w:=z12.2;let z14:Bool×w:=US L 8;let z15:w:=z14.2;let NY:u:=cond m z15.b L.b;let z17:Int:=cond m z15.i L.i;let z18:Int:=cond m z15.h L.h;let A:Int:=u3 (s (a.1.g+1)) 65536;let d:Int:=a.1.a.f;let e:Int:=a.1.a.e;let j:Int:=a.1.a.d;let F:x:=z12.1;let f:Int:=a.1.a.g;let M:Int:=z9.1;let g:Int:=a.1.a.h;let z27:Bool:=t true (Em 136 l [N.enc a.1]);let z28:Bool×w:=US Z 8;let z29:w:=z28.2;let z30:u:=cond m z29.b Z.b;let z31:Int:=cond m z29.i Z.i;let z32:Int:=cond m z29.h Z.h;let af5:x:=a.1.a.a;let z34:Int:=u3 (s (j+(len af5))) 4294967296;let X:Int:=a.1.a.b;let z36:Int×w:=Pv W Y;let z37:w:=z36.2;let z38:x×w:=GF z37 size;let O:w:=z38.2;let z40:Bool×w:=US O 8;let z41:w:=z40.2;let z42:u:=cond m z41.b O.b;let z43:Int:=cond m z41.i O.i;let z44:Int:=cond m z41.h O.h;let G:x:=z38.1;let P:Int:=z36.1;let z47:Bool×w:=US W 8;let z48:w:=z47.2;let z49:u:=cond m z48.b W.b;let z50:Int:=cond m z48.i W.i;let z51:Int:=cond m z48.h W.h;let n:Bool×w:=US z0.2 6;let z53:Int×w:=mz n.2 40;let E:w:=z53.2;let z55:Int×w:=Pv E Y;let z56:w:=z55.2;let H:Int:=s (1+z53.1);let z58:x×w:=GF z56 H;let Q:w:=z58.2;let z60:Bool×w:=US Q 8;let z61:w:=z60.2;let z62:u:=cond (c==6) z61.b Q.b;let z63:Int:=cond (c==6) z61.i Q.i;let z64:Int:=cond (c==6) z61.h Q.h;let B:Int:=u3 (s (K+1)) 65536;let I:x:=z58.1;let R:Int:=z55.1;let z68:Bool:=t true (Em 136 l ([[.int p,.int o,.int q,.int r,.int K,.int aco,.int acx,.int aaZ,.int c,.int v,.int acA,.int z,.int ab5,.int V,.int y,.str U]]));let z69:Bool×w:=US E 8;let z70:w:=z69.2;let z71:u:=cond (c==6) z70.b E.b;let z72:Int:=cond (c==6) z70.i E.i;let z73:Int:=cond (c==6) z70.h E.h;let z74:Int:=u3 (s (z+(len U))) 4294967296;let z75:Int×w:=Pv n.2 Y;let z76:w:=z75.2;let z77:x×w:=GF z76 size;let S:w:=z77.2;let z79:Bool×w:=US S 8;let z80:w:=z79.2;let z81:u:=cond (c==6) z80.b S.b;let z82:Int:=cond (c==6) z80.i S.i;let z83:Int:=cond (c==6) z80.h S.h;let J:x:=z77.1;let T:Int:=z75.1;let z86:Bool×w:=US n.2 8;let z87:w:=z86.2;let z88:u:=cond (c==6) z87.b n.2.b;let z89:Int:=cond (c==6) z87.i n.2.i;let z90:Int:=cond (c==6) z87.h n.2.h;cond (0<k) (cond (t true (pe (⟨nQ,nC,nD⟩:w) 5)) (cond z0.1 (cond (t true (Ef z0.2 40)) (cond (t true (pe a.2 6)) (cond z2.1 (cond (t true (pe W 40)) (cond m (cond (t true (VE Z Y)) (cond (t true (pe V3 TM)) (cond (t true (Em 136 l ([[.int a.1.h,.int a.1.i,.int a.1.e,.int a.1.f,.int a.1.g,.int a.1.c,.int a.1.b,.int a.1.d,.int D,.int d,.int e,.int j,.int f,.int M,.int g,.str F]]))) (cond (pk m (t true (pe L 8)) true) (cond (cond m (!z14.1) false) (C TM (s (k - 1)) NY z17 z18 a.1.h a.1.i a.1.e a.1.f A a.1.c a.1.b a.1.d D d e (u3 (s (j+(len F))) 4294967296) f M g F (l++([[.int a.1.h,.int a.1.i,.int a.1.e,.int a.1.f,.int a.1.g,.int a.1.c,.int a.1.b,.int a.1.d,.int D,.int d,.int e,.int j,.int f,.int M,.int g,.str F]]))) (C TM (s (k - 1)) NY z17 z18 a.1.h a.1.i a.1.e a.1.f A a.1.c a.1.b a.1.d D d e j f M g F (l++([[.int a.1.h,.int a.1.i,.int a.1.e,.int a.1.f,.int a.1.g,.int a.1.c,.int a.1.b,.int a.1.d,.int D,.int d,.int e,.int j,.int f,.int M,.int g,.str F]])))) lf) lf) lf) lf) (cond z27 (cond (pk m (t true (pe Z 8)) true) (cond (cond m (!z28.1) false) (C TM (s (k - 1)) z30 z31 z32 a.1.h a.1.i a.1.e a.1.f A a.1.c a.1.b a.1.d D d e z34 f X g af5 (l++[N.enc a.1])) (C TM (s (k - 1)) z30 z31 z32 a.1.h a.1.i a.1.e a.1.f A a.1.c a.1.b a.1.d D d e j f X g af5 (l++[N.enc a.1]))) lf) lf)) lf) (cond m (cond (t true (VE W Y)) (cond (t true (pe z37 size)) (cond (t true (Em 136 l ([[.int a.1.h,.int a.1.i,.int a.1.e,.int a.1.f,.int a.1.g,.int a.1.c,.int a.1.b,.int a.1.d,.int D,.int d,.int e,.int j,.int f,.int P,.int g,.str G]]))) (cond (pk m (t true (pe O 8)) true) (cond (cond m (!z40.1) false) (C size (s (k - 1)) z42 z43 z44 a.1.h a.1.i a.1.e a.1.f A a.1.c a.1.b a.1.d D d e (u3 (s (j+(len G))) 4294967296) f P g G (l++([[.int a.1.h,.int a.1.i,.int a.1.e,.int a.1.f,.int a.1.g,.int a.1.c,.int a.1.b,.int a.1.d,.int D,.int d,.int e,.int j,.int f,.int P,.int g,.str G]]))) (C size (s (k - 1)) z42 z43 z44 a.1.h a.1.i a.1.e a.1.f A a.1.c a.1.b a.1.d D d e j f P g G (l++([[.int a.1.h,.int a.1.i,.int a.1.e,.int a.1.f,.int a.1.g,.int a.1.c,.int a.1.b,.int a.1.d,.int D,.int d,.int e,.int j,.int f,.int P,.int g,.str G]])))) lf) lf) lf) lf) (cond z27 (cond (pk m (t true (pe W 8)) true) (cond (cond m (!z47.1) false) (C size (s (k - 1)) z49 z50 z51 a.1.h a.1.i a.1.e a.1.f A a.1.c a.1.b a.1.d D d e z34 f X g af5 (l++[N.enc a.1])) (C size (s (k - 1)) z49 z50 z51 a.1.h a.1.i a.1.e a.1.f A a.1.c a.1.b a.1.d D d e j f X g af5 (l++[N.enc a.1]))) lf) lf))) lf) lf) (cond (t true (pe z0.2 6)) (cond n.1 (cond (t true (pe n.2 40)) (cond (c==6) (cond (t true (VE E Y)) (cond (t true (pe z56 H)) (cond (t true (Em 136 l ([[.int p,.int o,.int q,.int r,.int K,.int aco,.int acx,.int aaZ,.int c,.int v,.int acA,.int z,.int ab5,.int R,.int y,.str I]]))) (cond (pk (c==6) (t true (pe Q 8)) true) (cond (cond (c==6) (!z60.1) false) (C H (s (k - 1)) z62 z63 z64 p o q r B aco acx aaZ c v acA (u3 (s (z+(len I))) 4294967296) ab5 R y I (l++([[.int p,.int o,.int q,.int r,.int K,.int aco,.int acx,.int aaZ,.int c,.int v,.int acA,.int z,.int ab5,.int R,.int y,.str I]]))) (C H (s (k - 1)) z62 z63 z64 p o q r B aco acx aaZ c v acA z ab5 R y I (l++([[.int p,.int o,.int q,.int r,.int K,.int aco,.int acx,.int aaZ,.int c,.int v,.int acA,.int z,.int ab5,.int R,.int y,.str I]])))) lf) lf) lf) lf) (cond z68 (cond (pk (c==6) (t true (pe E 8)) true) (cond (cond (c==6) (!z69.1) false) (C H (s (k - 1)) z71 z72 z73 p o q r B aco acx aaZ c v acA z74 ab5 V y U (l++([[.int p,.int o,.int q,.int r,.int K,.int aco,.int acx,.int aaZ,.int c,.int v,.int acA,.int z,.int ab5,.int V,.int y,.str U]]))) (C H (s (k - 1)) z71 z72 z73 p o q r B aco acx aaZ c v acA z ab5 V y U (l++([[.int p,.int o,.int q,.int r,.int K,.int aco,.int acx,.int aaZ,.int c,.int v,.int acA,.int z,.int ab5,.int V,.int y,.str U]])))) lf) lf)) lf) (cond (c==6) (cond (t true (VE n.2 Y)) (cond (t true (pe z76 size)) (cond (t true (Em 136 l ([[.int p,.int o,.int q,.int r,.int K,.int aco,.int acx,.int aaZ,.int c,.int v,.int acA,.int z,.int ab5,.int T,.int y,.str J]]))) (cond (pk (c==6) (t true (pe S 8)) true) (cond (cond (c==6) (!z79.1) false) (C size (s (k - 1)) z81 z82 z83 p o q r B aco acx aaZ c v acA (u3 (s (z+(len J))) 4294967296) ab5 T y J (l++([[.int p,.int o,.int q,.int r,.int K,.int aco,.int acx,.int aaZ,.int c,.int v,.int acA,.int z,.int ab5,.int T,.int y,.str J]]))) (C size (s (k - 1)) z81 z82 z83 p o q r B aco acx aaZ c v acA z ab5 T y J (l++([[.int p,.int o,.int q,.int r,.int K,.int aco,.int acx,.int aaZ,.int c,.int v,.int acA,.int z,.int ab5,.int T,.int y,.str J]])))) lf) lf) lf) lf) (cond z68 (cond (pk (c==6) (t true (pe n.2 8)) true) (cond (cond (c==6) (!z86.1) false) (C size (s (k - 1)) z88 z89 z90 p o q r B aco acx aaZ c v acA z74 ab5 V y U (l++([[.int p,.int o,.int q,.int r,.int K,.int aco,.int acx,.int aaZ,.int c,.int v,.int acA,.int z,.int ab5,.int V,.int y,.str U]]))) (C size (s (k - 1)) z88 z89 z90 p o q r B aco acx aaZ c v acA z ab5 V y U (l++([[.int p,.int o,.int q,.int r,.int K,.int aco,.int acx,.int aaZ,.int c,.int v,.int acA,.int z,.int ab5,.int V,.int y,.str U]])))) lf) lf))) lf)) lf) (k_ l (⟨nQ,nC,nD⟩:w))
def Vo(a:u→w→α)(N b:Nat):Oj α:=bW (λ_ _ _ _ _ _ _ _ _ _ _ _ _ _ _ _ _ _ _ _ _ _=>lf) (zF lf a) b
def np1(g:u→w→α)(f:Oj α)(c:w)(a:Int):α:=let e:Int×w:=mz ((W8 c 40).2) 3;let d:Int×w:=mz e.2 a;cond (t true (Ef c 40)) (cond (t true (pe ((W8 c 40).2) 3)) (cond (t true (pe e.2 a)) (f (s (8+(s (e.1*8)))) (s (1+d.1)) d.2.b d.2.i d.2.h (((W8 c 40).1).h) (((W8 c 40).1).i) (((W8 c 40).1).e) (((W8 c 40).1).f) (((W8 c 40).1).g) (((W8 c 40).1).c) (((W8 c 40).1).b) (((W8 c 40).1).d) ((((W8 c 40).1).a).c) ((((W8 c 40).1).a).f) ((((W8 c 40).1).a).e) ((((W8 c 40).1).a).d) ((((W8 c 40).1).a).g) ((((W8 c 40).1).a).b) ((((W8 c 40).1).a).h) ((((W8 c 40).1).a).a) []) lf) lf) lf
def yn(b:u→w→α)(N:Nat)(c:w)(a:Int):α:=np1 lf b (Vo lf b N N) c a
def bC(c:w)(a:Int):Bool:=vl c && (decide (1≤a) && decide (a≤10))
theorem nem{c:w}(h:vl c=true)(a:Int):Ef c a=true:=(zr h a).1
theorem nFB{c:w}(h:vl c=true)(a:Int):vl (W8 c a).2=true:=(zr h a).2
def l8(c:w)(a:Int):(α:Type)→α→((u×w)→α)→α:=λα lf k=>yn lf (λb d=>k (b,d)) 12 c a
def OA(c:w)(a:Int)(r:(u×w)):Prop:=vl r.2=true∧1≤r.1.length∧r.1.length≤10
def s_(c:w)(a:Int):(u×w):=drawn ([],c) (l8 c a) (OA c a)
theorem niY{c:w}{a:Int}(O:bC c a=true):R (l8 c a) (OA c a):=by
 simp only[bC,Bl,js] at O;obtain⟨Q,GW,Eb⟩:=O;have adP:=zr Q 40;have P:=QX adP.2 3;have agj:=QX P a;have S:=yP (mz (W8 c 40).2 3).2 a;have T:=S.2 (by omega);unfold l8 OA yn np1;dsimp only;have key:∀(m q:Nat) (size:Int) (b:u) (f g:Int) (p j l acp t aa0 v acB y z A B C D E:Int) (F:x) (o:u),m<q→o.length+m≤100→vl ⟨b,f,g⟩=true→R (λα lf k=>Vo lf (λd e=>k (d,e)) 12 q size (m:Int) b f g p j l acp t aa0 v acB y z A B C D E F o) (λr=>vl r.2=true∧r.1.length=o.length+m):=by
  intro m
  induction m with
  | zero=>
   intro q size b f g p j l acp t aa0 v acB y z A B C D E F o U V G;obtain⟨q,rfl⟩:=DF q;show R (λα lf k=>zF lf (λd e=>k (d,e)) (Vo lf (λd e=>k (d,e)) 12 q) size ((0:Nat):Int) b f g p j l acp t aa0 v acB y z A B C D E F o) _;unfold zF;dsimp only;exact xV (λh=>absurd (of_decide_eq_true h) (by omega)) (λ_=>Et ⟨G,rfl⟩)
  | succ m W=>
   intro q size b f g p j l acp t aa0 v acB y z A B C D E F o U V G;obtain⟨q,rfl⟩:=DF q;show R (λα lf k=>zF lf (λd e=>k (d,e)) (Vo lf (λd e=>k (d,e)) 12 q) size ((m+1:Nat):Int) b f g p j l acp t aa0 v acB y z A B C D E F o) _;unfold zF;dsimp only;have X:∀(ab6:List DC),Em 136 o [ab6]=true:=λab6=>W6 (by simp only[I_,vF];omega) (by omega);have Y:s (((m+1:Nat):Int) - 1)=(m:Int):=by rw[fg];omega
   refine xV (λ_=>?_) (λh=>absurd (of_decide_eq_false h) (by omega));rw[Y]
   repeat' (first
    | refine lG (by simp (config:= {maxDischargeDepth:=60}) only[Oi,cz,vb,H,pe,cpF,iB,QX,dt,Va,nuI,mQ,nem,nFB,X,G]) ?_
    | refine xV (λ_=>?_) (λ_=>?_))
   all_goals
    refine gw (W q _ _ _ _ _ _ _ _ _ _ _ _ _ _ _ _ _ _ _ _ _ (by omega) ?_ ?_) ?_
    ·rw[fK];simp only[I_,vF];omega
    ·simp (config:= {maxDischargeDepth:=60}) only[Oi,cz,vb,H,pe,cpF,iB,QX,dt,Va,nuI,nFB,G]
    ·intro r h;refine⟨h.1, ?_⟩;rw[h.2,fK];simp only[I_,vF];omega
 refine lG (ZY adP.1) (lG (ZY (zH _ adP.2)) (lG (ZY (zH _ P)) ?_));rw[fg (n:=1+(mz (mz (W8 c 40).2 3).2 a).1)];have:=λsize Z a1 a2 a3 a4 a5 a6 a7 a8 a9 I J K L M N=>key (1+(mz (mz (W8 c 40).2 3).2 a).1).toNat 12 size (mz (mz (W8 c 40).2 3).2 a).2.b (mz (mz (W8 c 40).2 3).2 a).2.i (mz (mz (W8 c 40).2 3).2 a).2.h Z a1 a2 a3 a4 a5 a6 a7 a8 a9 I J K L M N [] (by omega) (by simp only[vF];omega) agj;rw[xY (show 0≤1+(mz (mz (W8 c 40).2 3).2 a).1 by omega)] at this;exact gw (this _ _ _ _ _ _ _ _ _ _ _ _ _ _ _ _ _) (λr h=>⟨h.1,by rw[h.2];simp only[vF];omega,by rw[h.2];simp only[vF];omega⟩)
theorem nsV{c:w}{a:Int}(b:bC c a=true):OA c a (s_ c a):=(zb (niY b)).1
theorem nqk(b:u→w→α)(c:w)(a:Int)(d:bC c a=true):∃N,yn lf b N c a=b (s_ c a).1 (s_ c a).2:=by exact⟨12,(zb (niY d)).2 α lf (λr=>b r.1 r.2)⟩
def bQ(n:se→Int→w→α)(j:u→Int→u→Int→Int→u→α)(d:Int)(e:u)(f g:Int)(Z:x)(l o:u)(m:Int→u→α)(k:Int)(a:u):α:=let c:Int×w:=mz (⟨e,f,g⟩:w) 4;cond (k<len a) (cond (t (t (t (t (t true (A k a)) (inl (u1 k) a)) (!(d==0))) (A k a)) (inl (u1 k) a)) (m (s (k+1)) (u2 a (u1 k) (Sk (q a (u1 k)) 8 [.int (u3 (r (q a (u1 k)) 8) d)]))) lf) (cond (t true (pe (⟨e,f,g⟩:w) 4)) (j a c.1 c.2.b c.2.i c.2.h l) lf)
def eA(k:se→Int→w→α)(g:Int)(Z:x)(l m:u)(n:d6 α)(e:Int)(a:u)(c d:Int)(j:u):α:=let f:Int×w:=mz ((VX (⟨a,c,d⟩:w)).2) g;cond (0<e) (cond (t (t (t true (vl (⟨a,c,d⟩:w))) (pe ((VX (⟨a,c,d⟩:w)).2) g)) (HO (⟨j⟩:mB) ((VX (⟨a,c,d⟩:w)).1) f.1)) (n (s (e - 1)) f.2.b f.2.i f.2.h (((Zq (⟨j⟩:mB) ((VX (⟨a,c,d⟩:w)).1) f.1).1).a)) lf) (k (⟨l,(⟨j⟩:mB),(⟨Z,m⟩:iI)⟩:se) g (⟨a,c,d⟩:w))
def xQ(a:se→Int→w→α)(N:Nat)(b:Int)(s:x)(c d:u)(e:Nat):d6 α:=bW (λ_ _ _ _ _=>lf) (eA lf a b s c d) e
def gy(a:se→Int→w→α)(N:Nat)(b:Int)(d:u)(e f:Int)(s:x)(g c:u)(h:Nat):Int→u→α:=bW (λ_ _=>lf) (bQ lf a (λj=>xQ lf a N b s j c N) b d e f s g c) h
def tn(e:se→Int→w→α)(d:Int→u→Int→Int→x→u→u→Int→u→α)(c:w):α:=let a:u×w:=Dj ((US ((yt c).2.2) 2).2);cond (t true (vl c)) (cond (t true (pe ((yt c).2.2) 2)) (cond (US ((yt c).2.2) 2).1 (cond (t true (vl ((US ((yt c).2.2) 2).2))) (d ((yt c).2.1) a.2.b a.2.i a.2.h (((yt c).1).b) P4.a (((yt c).1).a) 0 a.1) lf) (d ((yt c).2.1) (((US ((yt c).2.2) 2).2).b) (((US ((yt c).2.2) 2).2).i) (((US ((yt c).2.2) 2).2).h) (((yt c).1).b) P4.a (((yt c).1).a) 0 [])) lf) lf
def DK(a:se→Int→w→α)(N:Nat)(c:w):α:=tn lf a (λb d e f s g h=>gy lf a N b d e f s g h N) c
def dK(c:w):(α:Type)→α→((se×Int×w)→α)→α:=λα lf k=>DK lf (λa b d=>k (a,b,d)) 6 c
def OG(c:w)(r:(se×Int×w)):Prop:=vl r.2.2=true∧r.1.c.length≤4∧r.1.a.a.length=8∧r.1.b.a.length≤8
def ng(c:w):(se×Int×w):=drawn (⟨[],⟨[]⟩,⟨[],[]⟩⟩,0,c) (dK c) (OG c)
theorem nuW{c:w}(K:vl c=true):R (dK c) (OG c):=by
 have C:vl c=true:=K;obtain⟨D,E,L,M⟩:=nub C;have v:=iB D 2;have X:=nqi v;unfold dK OG DK tn;dsimp only;have o:P4.a.length=8:=rfl;generalize P4.a=NT at o;generalize (yt c).1.b=Y;generalize (yt c).1.a=s3 at E;generalize (yt c).2.1=nk at L M;have x:∀(W:u) (m q:Nat) (d:w) (T:u),m<q→m≤3→T.length=8→vl d=true→R (λα lf k=>xQ lf (λa g j=>k (a,g,j)) 6 nk Y W s3 q (m:Int) d.b d.i d.h T) (λr=>vl r.2.2=true∧r.1.c=W∧r.1.a.a.length=8∧r.1.b.a=s3):=by
  intro W m
  induction m with
  | zero=>
   intro q d T y N t l;obtain⟨q,rfl⟩:=DF q;show R (λα lf k=>eA lf (λa g j=>k (a,g,j)) nk Y W s3 (xQ lf (λa g j=>k (a,g,j)) 6 nk Y W s3 q) ((0:Nat):Int) d.b d.i d.h T) _;unfold eA;dsimp only;exact xV (λh=>absurd (of_decide_eq_true h) (by omega)) (λ_=>Et ⟨l,rfl,t,rfl⟩)
  | succ m z=>
   intro q d T y N t l;obtain⟨q,rfl⟩:=DF q;show R (λα lf k=>eA lf (λa g j=>k (a,g,j)) nk Y W s3 (xQ lf (λa g j=>k (a,g,j)) 6 nk Y W s3 q) ((m+1:Nat):Int) d.b d.i d.h T) _;unfold eA;dsimp only;have A:s (((m+1:Nat):Int) - 1)=(m:Int):=by rw[fg];omega
   have F:vl (VX d).2=true:=nq3 l;have G:∀(f:Ve) (n:Int),HO (⟨T⟩:mB) f n=true:=λf n=>Hd (show T.length≤16777216 by omega);refine xV (λ_=>?_) (λh=>absurd (of_decide_eq_false h) (by omega));refine lG (by rw[G,show vl (⟨d.b,d.i,d.h⟩:w)=true from l,show pe (VX (⟨d.b,d.i,d.h⟩:w)).2 nk=true from F];rfl) ?_;rw[A];exact z q (mz (VX d).2 nk).2 _ (by omega) (by omega) ((nuf (G _ _)).trans t) (QX F _)
 have Z:∀(e:w),vl e=true→∀(m q i:Nat) (W:u),m<q→i+m=W.length→W.length≤4→R (λα lf k=>gy lf (λa g j=>k (a,g,j)) 6 nk e.b e.i e.h Y NT s3 q (i:Int) W) (λr=>vl r.2.2=true∧r.1.c.length≤4∧r.1.a.a.length=8∧r.1.b.a.length≤8):=by
  intro e H m;have I:=yP e 4;have O:=I.2 (by omega)
  induction m with
  | zero=>
   intro q i W y t l;obtain⟨q,rfl⟩:=DF q;show R (λα lf k=>bQ lf (λa g j=>k (a,g,j)) (λB=>xQ lf (λa g j=>k (a,g,j)) 6 nk Y B s3 6) nk e.b e.i e.h Y NT s3 (gy lf (λa g j=>k (a,g,j)) 6 nk e.b e.i e.h Y NT s3 q) (i:Int) W) _;unfold bQ;dsimp only;refine xV (λh=>absurd (of_decide_eq_true h) (by simp only[len];omega)) (λ_=>?_);refine lG (ZY (zH _ H)) ?_;have:=x W (mz e 4).1.toNat 6 (mz e 4).2 NT (by omega) (by omega) o (QX H 4);rw[xY I.1] at this;exact gw this (λr h=>⟨h.1,by rw[h.2.1];exact l,h.2.2.1,by rw[h.2.2.2];exact E⟩)
  | succ m z=>
   intro q i W y t l;obtain⟨q,rfl⟩:=DF q;show R (λα lf k=>bQ lf (λa g j=>k (a,g,j)) (λB=>xQ lf (λa g j=>k (a,g,j)) 6 nk Y B s3 6) nk e.b e.i e.h Y NT s3 (gy lf (λa g j=>k (a,g,j)) 6 nk e.b e.i e.h Y NT s3 q) (i:Int) W) _;unfold bQ;dsimp only;have J:i<W.length:=by omega
   have A:s ((i:Int)+1)=((i+1:Nat):Int):=by rw[fg];omega
   have P:(!(nk==0))=true:=by simp;omega
   refine xV (λ_=>?_) (λh=>absurd (of_decide_eq_false h) (by simp only[len];omega));refine lG (by rw[eR,mZ J,R7 J,P];rfl) ?_;rw[A];exact z q (i+1) _ (by omega) (by rw[vo];omega) (by rw[vo];omega)
 refine lG (ZY C) (lG (ZY (zH _ D)) (xV (λ_=>lG (ZY v) ?_) (λ_=>?_)))
 ·exact Z _ X.1 _ 6 0 _ (by have:=X.2;omega) (vH _) X.2
 ·exact Z _ v 0 6 0 [] (by omega) rfl (vI _)
theorem nd8{c:w}(a:vl c=true):OG c (ng c):=(zb (nuW a)).1
theorem nay(a:se→Int→w→α)(c:w)(b:vl c=true):∃N,DK lf a N c=a (ng c).1 (ng c).2.1 (ng c).2.2:=by exact⟨6,(zb (nuW b)).2 α lf (λr=>a r.1 r.2.1 r.2.2)⟩
def VZ(k:Int)(f:x)(b:Int):List DC:=[DC.int k,DC.int 0,DC.int 0,DC.int 0,DC.int 0,DC.int 0,DC.int 0,DC.int 0,DC.int 0,DC.int 0,DC.int 0,DC.int 0,DC.int 0,DC.int 0,DC.int 0,DC.int 0,DC.str [],DC.int 0,DC.int 0,DC.str f,DC.int b]
def lN(f:z→w→α)(g:Int→Int→u→Int→Int→x→u→u→Int→u→α)(j:Int→u→Int→Int→α)(k:Int)(a:u)(c d:Int):α:=let e:se:=(⟨[],P4,(⟨vZ 16 5,[[DC.int 0]]⟩:iI)⟩:se);cond (k<4) (cond (t true (vl (⟨a,c,d⟩:w))) (g k ((ng (⟨a,c,d⟩:w)).2.1) (((ng (⟨a,c,d⟩:w)).2.2).b) (((ng (⟨a,c,d⟩:w)).2.2).i) (((ng (⟨a,c,d⟩:w)).2.2).h) ((((ng (⟨a,c,d⟩:w)).1).b).b) ((((ng (⟨a,c,d⟩:w)).1).a).a) ((((ng (⟨a,c,d⟩:w)).1).b).a) 0 (((ng (⟨a,c,d⟩:w)).1).c)) lf) (cond (t (t true (WU 16 5)) (OT 1 (⟨2,false,[]⟩:QD) e true 1 0)) (f ((Aw 1 (⟨2,false,[]⟩:QD) e true 1 0).1) (⟨a,c,d⟩:w)) lf)
def Bx(Z:z→w→α)(v:Int→u→Int→Int→α)(k j:Int)(c:u)(d e:Int)(W:x)(U X:u)(y:Int→u→α)(i:Int)(a:u):α:=let g:Int×w:=mz ((wM (⟨c,d,e⟩:w)).2) 3;let l:Int×w:=mz g.2 3;let m:w:=l.2;let n:se:=(⟨a,(⟨U⟩:mB),(⟨W,X⟩:iI)⟩:se);let o:Bool:=decide (0<g.1);let p:Int:=s (1+l.1);let Y:Int×w:=mz m 4;let r:Int:=Y.1;let V:z×Bool:=Aw j ((wM (⟨c,d,e⟩:w)).1) n o p r;let f:w:=Y.2;cond (i<len a) (cond (t (t true (A i a)) (inl (u1 i) a)) (y (s (i+1)) (u2 a (u1 i) (Sk (q a (u1 i)) 6 [DC.int (-2)]))) lf) (cond (t (t (t (t (t true (vl (⟨c,d,e⟩:w))) (pe ((wM (⟨c,d,e⟩:w)).2) 3)) (pe g.2 3)) (pe m 4)) (OT j ((wM (⟨c,d,e⟩:w)).1) n o p r)) (cond V.2 (Z V.1 f) (v (s (k+1)) f.b f.i f.h)) lf)
def Wm(a:z→w→α)(N:Nat)(b:Int→u→Int→Int→α)(k c:Int)(d:u)(e f:Int)(s:x)(g h:u)(i:Nat):Int→u→α:=bW (λ_ _=>lf) (Bx lf a b k c d e f s g h) i
def yR(a:z→w→α)(N c:Nat):Int→u→Int→Int→α:=bW (λ_ _ _ _=>lf) (λb=>lN lf a (λk d e f g s h i=>Wm lf a N b k d e f g s h i N) b) c
def nls(lf:α)(d:z→w→α)(a:Int→u→Int→Int→α)(c:w):α:=a 0 c.b c.i c.h
def nJ(a:z→w→α)(N:Nat)(c:w):α:=nls lf a (yR lf a N N) c
def kP(h:z):Prop:=∃(q:Int) (f:QD) (s:se) (co:Bool) (n t:Int),PO f=true∧bu s=true∧(Aw q f s co n t).2=true∧h=(Aw q f s co n t).1
theorem opM:(Aw 1 (⟨2,false,[]⟩:QD) (⟨[],P4,(⟨vZ 16 5,[[DC.int 0]]⟩:iI)⟩:se) true 1 0).2=true:=by kernel_rfl
def W3(c:w):(α:Type)→α→((z×w)→α)→α:=λα lf k=>nJ lf (λa b=>k (a,b)) 6 c
def ba(c:w)(r:(z×w)):Prop:=vl r.2=true∧kP r.1
def Sh(c:w):(z×w):=drawn (SA,c) (W3 c) (ba c)
theorem nlo{c:w}(Q:vl c=true):R (W3 c) (ba c):=by
 have S:vl c=true:=Q;unfold W3 ba nJ nls;have y:∀(U:(α:Type)→α→(z×w→α)→Int→u→Int→Int→α) (l n:Int) (d:w) (acq:x) (T g:u),vl d=true→T.length=8→g.length≤8→(∀o:w,vl o=true→R (λα lf k=>U α lf k (s (l+1)) o.b o.i o.h) (λr=>vl r.2=true∧kP r.1))→
   ∀(m q i:Nat) (agk:u),m<q→i+m=agk.length→agk.length≤4→R (λα lf k=>Wm lf (λe f=>k (e,f)) 6 (U α lf k) l n d.b d.i d.h acq T g q (i:Int) agk) (λr=>vl r.2=true∧kP r.1):=by
  intro U l n d acq T g I Z V W m;obtain⟨J,f2⟩:=ncA I;have K:=QX J 3;have L:=QX K 3;have M:=QX L 4
  induction m with
  | zero=>
   intro q i agk acL A t;obtain⟨q,rfl⟩:=DF q;show R (λα lf k=>Bx lf (λe f=>k (e,f)) (U α lf k) l n d.b d.i d.h acq T g (Wm lf (λe f=>k (e,f)) 6 (U α lf k) l n d.b d.i d.h acq T g q) (i:Int) agk) _;unfold Bx;dsimp only;refine xV (λh=>absurd (of_decide_eq_true h) (by simp only[len];omega)) (λ_=>?_);have N:PO (wM d).1=true:=Hd (by omega);have O:bu (⟨agk,⟨T⟩,⟨acq,g⟩⟩:se)=true:=by simp only[bu,Bl];exact⟨Hd (show agk.length≤16777216 by omega),Hd (show T.length≤16777216 by omega),Hd (show g.length≤16777216 by omega)⟩
   have X:∀(co:Bool) (a b:Int),OT n (wM d).1 (⟨agk,⟨T⟩,⟨acq,g⟩⟩:se) co a b=true:=λco a b=>by simp only[OT,N,O,vM]
   refine lG ?_ (xV (λh=>Et ⟨M,_,_,_,_,_,_,N,O,h,rfl⟩) (λ_=>W _ M));rw[show (⟨d.b,d.i,d.h⟩:w)=d from rfl,X,I,show pe (wM d).2 3=true from J,show pe (mz (wM d).2 3).2 3=true from K,show pe (mz (mz (wM d).2 3).2 3).2 4=true from L];rfl
  | succ m B=>
   intro q i agk acL A t;obtain⟨q,rfl⟩:=DF q;show R (λα lf k=>Bx lf (λe f=>k (e,f)) (U α lf k) l n d.b d.i d.h acq T g (Wm lf (λe f=>k (e,f)) 6 (U α lf k) l n d.b d.i d.h acq T g q) (i:Int) agk) _;unfold Bx;dsimp only;have P:i<agk.length:=by omega
   have C:s ((i:Int)+1)=((i+1:Nat):Int):=by rw[fg];omega
   refine xV (λ_=>?_) (λh=>absurd (of_decide_eq_false h) (by simp only[len];omega));refine lG (by rw[eR,mZ P,R7 P];rfl) ?_;rw[C];exact B q (i+1) _ (by omega) (by rw[vo];omega) (by rw[vo];omega)
 have D:∀(m q j:Nat) (d:w),m<q→j+m=4→vl d=true→R (λα lf k=>yR lf (λe f=>k (e,f)) 6 q (j:Int) d.b d.i d.h) (λr=>vl r.2=true∧kP r.1):=by
  intro m
  induction m with
  | zero=>
   intro q j d acL A t;obtain⟨q,rfl⟩:=DF q;show R (λα lf k=>lN lf (λe f=>k (e,f)) (λE p v acC ab7 F G H=>Wm lf (λe f=>k (e,f)) 6 (yR lf (λe f=>k (e,f)) 6 q) E p v acC ab7 F G H 6) (yR lf (λe f=>k (e,f)) 6 q) (j:Int) d.b d.i d.h) _;unfold lN;dsimp only;refine xV (λh=>absurd (of_decide_eq_true h) (by omega)) (λ_=>?_);refine lG (by rfl) (Et ⟨t,_,_,_,_,_,_, ?_, ?_,opM,rfl⟩)
   ·rfl
   ·rfl
  | succ m B=>
   intro q j d acL A t;obtain⟨q,rfl⟩:=DF q;show R (λα lf k=>lN lf (λe f=>k (e,f)) (λE p v acC ab7 F G H=>Wm lf (λe f=>k (e,f)) 6 (yR lf (λe f=>k (e,f)) 6 q) E p v acC ab7 F G H 6) (yR lf (λe f=>k (e,f)) 6 q) (j:Int) d.b d.i d.h) _;unfold lN;dsimp only;have C:s ((j:Int)+1)=((j+1:Nat):Int):=by rw[fg];omega
   refine xV (λ_=>?_) (λh=>absurd (of_decide_eq_false h) (by omega));obtain⟨p,v,acC,ab7⟩:=nd8 t;refine lG (ZY t) ?_;exact y (λα lf k=>yR lf (λe f=>k (e,f)) 6 q) (j:Int) _ (ng d).2.2 _ _ _ p acC ab7 (λo Y=>by rw[C];exact B q (j+1) o (by omega) (by omega) Y) (ng d).1.c.length 6 0 _ (by omega) (vH _) v
 exact D 4 6 0 c (by omega) (by omega) S
theorem nBB{c:w}(a:vl c=true):ba c (Sh c):=(zb (nlo a)).1
theorem nCf(a:z→w→α)(c:w)(b:vl c=true):∃N,nJ lf a N c=a (Sh c).1 (Sh c).2:=by exact⟨6,(zb (nlo b)).2 α lf (λr=>a r.1 r.2)⟩
def Bn(F:u→w→α)(T:Bool)(list_:u)(g:d6 α)(k:Int)(X:u)(y z:Int)(d:u):α:=let U:Bool×w:=US (⟨X,y,z⟩:w) 12;let B:Int:=len ((YA (N.nd (q list_ (u1 k)) 0)).1);let e:Int×w:=mz U.2 B;let C:w:=e.2;let f:x×w:=GF C 1;let D:w:=f.2;let E:Int×w:=mz D 10;let j:Int:=E.1;let c:w:=E.2;let V:u:=c.b;let Z:Int:=c.i;let v:Int:=c.h;let p:w:=(mz c 3).2;let l:w:=(W8 c 320).2;let m:w:=(mz l 128).2;let Y:w:=(Pv m ([[DC.int 60],[DC.int 100],[DC.int 128]])).2;let a:Int×w:=mz U.2 10;let r:w:=(mz a.2 3).2;let n:w:=(W8 a.2 320).2;let o:w:=(mz n 128).2;let W:w:=(Pv o ([[DC.int 60],[DC.int 100],[DC.int 128]])).2;cond (k<len list_) (cond (t (t true (A k list_)) (inl (u1 k) list_)) (cond (t true (pe (⟨X,y,z⟩:w) 12)) (cond U.1 (cond (t (t (t true (pe U.2 B)) (pe C 1)) (eZ ((YA (N.nd (q list_ (u1 k)) 0)).1) e.1 f.1)) (cond (t true (Em 184 d ([VZ 2 ((B9 ((YA (N.nd (q list_ (u1 k)) 0)).1) e.1 f.1)) 0]))) (cond (t true (pe D 10)) (cond (j==0) (cond (t true (Em 184 (d++([VZ 2 ((B9 ((YA (N.nd (q list_ (u1 k)) 0)).1) e.1 f.1)) 0])) ([VZ 3 [] 0]))) (g (s (k+1)) V Z v ((d++([VZ 2 ((B9 ((YA (N.nd (q list_ (u1 k)) 0)).1) e.1 f.1)) 0]))++([VZ 3 [] 0]))) lf) (cond (cond (j==1) true (j==2)) (cond (t true (Em 184 (d++([VZ 2 ((B9 ((YA (N.nd (q list_ (u1 k)) 0)).1) e.1 f.1)) 0])) ([VZ 4 [] 0]))) (g (s (k+1)) V Z v ((d++([VZ 2 ((B9 ((YA (N.nd (q list_ (u1 k)) 0)).1) e.1 f.1)) 0]))++([VZ 4 [] 0]))) lf) (cond (cond (j==3) true (cond (j==4) true (j==5))) (cond (t (t true (pe c 3)) (Em 184 (d++([VZ 2 ((B9 ((YA (N.nd (q list_ (u1 k)) 0)).1) e.1 f.1)) 0])) ([VZ 5 [] ((s (1+((mz c 3).1))))]))) (g (s (k+1)) p.b p.i p.h ((d++([VZ 2 ((B9 ((YA (N.nd (q list_ (u1 k)) 0)).1) e.1 f.1)) 0]))++([VZ 5 [] ((s (1+((mz c 3).1))))]))) lf) (cond (j==6) (cond (t (t (t (t true (Ef c 320)) (pe l 128)) (VE m ([[DC.int 60],[DC.int 100],[DC.int 128]]))) (Em 184 (d++([VZ 2 ((B9 ((YA (N.nd (q list_ (u1 k)) 0)).1) e.1 f.1)) 0])) ([[DC.int 0,DC.int (((W8 c 320).1).h),DC.int (((W8 c 320).1).i),DC.int (((W8 c 320).1).e),DC.int (((W8 c 320).1).f),DC.int (((W8 c 320).1).g),DC.int (((W8 c 320).1).c),DC.int (((W8 c 320).1).b),DC.int (((W8 c 320).1).d),DC.int ((((W8 c 320).1).a).c),DC.int ((((W8 c 320).1).a).f),DC.int ((((W8 c 320).1).a).e),DC.int ((((W8 c 320).1).a).d),DC.int ((((W8 c 320).1).a).g),DC.int ((((W8 c 320).1).a).b),DC.int ((((W8 c 320).1).a).h),DC.str ((((W8 c 320).1).a).a),DC.int (s (1+((mz l 128).1))),DC.int ((Pv m ([[DC.int 60],[DC.int 100],[DC.int 128]])).1),DC.str [],DC.int 0]]))) (g (s (k+1)) Y.b Y.i Y.h ((d++([VZ 2 ((B9 ((YA (N.nd (q list_ (u1 k)) 0)).1) e.1 f.1)) 0]))++([[DC.int 0,DC.int (((W8 c 320).1).h),DC.int (((W8 c 320).1).i),DC.int (((W8 c 320).1).e),DC.int (((W8 c 320).1).f),DC.int (((W8 c 320).1).g),DC.int (((W8 c 320).1).c),DC.int (((W8 c 320).1).b),DC.int (((W8 c 320).1).d),DC.int ((((W8 c 320).1).a).c),DC.int ((((W8 c 320).1).a).f),DC.int ((((W8 c 320).1).a).e),DC.int ((((W8 c 320).1).a).d),DC.int ((((W8 c 320).1).a).g),DC.int ((((W8 c 320).1).a).b),DC.int ((((W8 c 320).1).a).h),DC.str ((((W8 c 320).1).a).a),DC.int (s (1+((mz l 128).1))),DC.int ((Pv m ([[DC.int 60],[DC.int 100],[DC.int 128]])).1),DC.str [],DC.int 0]]))) lf) (cond (j==7) (cond (t true (Em 184 (d++([VZ 2 ((B9 ((YA (N.nd (q list_ (u1 k)) 0)).1) e.1 f.1)) 0])) ([VZ 1 [] 0]))) (g (s (k+1)) V Z v ((d++([VZ 2 ((B9 ((YA (N.nd (q list_ (u1 k)) 0)).1) e.1 f.1)) 0]))++([VZ 1 [] 0]))) lf) (cond (j==8) (cond T (cond (t true (Em 184 (d++([VZ 2 ((B9 ((YA (N.nd (q list_ (u1 k)) 0)).1) e.1 f.1)) 0])) ([VZ 6 [] 0]))) (g (s (k+1)) V Z v ((d++([VZ 2 ((B9 ((YA (N.nd (q list_ (u1 k)) 0)).1) e.1 f.1)) 0]))++([VZ 6 [] 0]))) lf) (g (s (k+1)) V Z v (d++([VZ 2 ((B9 ((YA (N.nd (q list_ (u1 k)) 0)).1) e.1 f.1)) 0])))) (g (s (k+1)) V Z v (d++([VZ 2 ((B9 ((YA (N.nd (q list_ (u1 k)) 0)).1) e.1 f.1)) 0]))))))))) lf) lf) lf) (cond (t true (Em 184 d ([VZ 2 (((YA (N.nd (q list_ (u1 k)) 0)).1)) 0]))) (cond (t true (pe U.2 10)) (cond (a.1==0) (cond (t true (Em 184 (d++([VZ 2 (((YA (N.nd (q list_ (u1 k)) 0)).1)) 0])) ([VZ 3 [] 0]))) (g (s (k+1)) a.2.b a.2.i a.2.h ((d++([VZ 2 (((YA (N.nd (q list_ (u1 k)) 0)).1)) 0]))++([VZ 3 [] 0]))) lf) (cond (cond (a.1==1) true (a.1==2)) (cond (t true (Em 184 (d++([VZ 2 (((YA (N.nd (q list_ (u1 k)) 0)).1)) 0])) ([VZ 4 [] 0]))) (g (s (k+1)) a.2.b a.2.i a.2.h ((d++([VZ 2 (((YA (N.nd (q list_ (u1 k)) 0)).1)) 0]))++([VZ 4 [] 0]))) lf) (cond (cond (a.1==3) true (cond (a.1==4) true (a.1==5))) (cond (t (t true (pe a.2 3)) (Em 184 (d++([VZ 2 (((YA (N.nd (q list_ (u1 k)) 0)).1)) 0])) ([VZ 5 [] ((s (1+((mz a.2 3).1))))]))) (g (s (k+1)) r.b r.i r.h ((d++([VZ 2 (((YA (N.nd (q list_ (u1 k)) 0)).1)) 0]))++([VZ 5 [] ((s (1+((mz a.2 3).1))))]))) lf) (cond (a.1==6) (cond (t (t (t (t true (Ef a.2 320)) (pe n 128)) (VE o ([[DC.int 60],[DC.int 100],[DC.int 128]]))) (Em 184 (d++([VZ 2 (((YA (N.nd (q list_ (u1 k)) 0)).1)) 0])) ([[DC.int 0,DC.int (((W8 a.2 320).1).h),DC.int (((W8 a.2 320).1).i),DC.int (((W8 a.2 320).1).e),DC.int (((W8 a.2 320).1).f),DC.int (((W8 a.2 320).1).g),DC.int (((W8 a.2 320).1).c),DC.int (((W8 a.2 320).1).b),DC.int (((W8 a.2 320).1).d),DC.int ((((W8 a.2 320).1).a).c),DC.int ((((W8 a.2 320).1).a).f),DC.int ((((W8 a.2 320).1).a).e),DC.int ((((W8 a.2 320).1).a).d),DC.int ((((W8 a.2 320).1).a).g),DC.int ((((W8 a.2 320).1).a).b),DC.int ((((W8 a.2 320).1).a).h),DC.str ((((W8 a.2 320).1).a).a),DC.int (s (1+((mz n 128).1))),DC.int ((Pv o ([[DC.int 60],[DC.int 100],[DC.int 128]])).1),DC.str [],DC.int 0]]))) (g (s (k+1)) W.b W.i W.h ((d++([VZ 2 (((YA (N.nd (q list_ (u1 k)) 0)).1)) 0]))++([[DC.int 0,DC.int (((W8 a.2 320).1).h),DC.int (((W8 a.2 320).1).i),DC.int (((W8 a.2 320).1).e),DC.int (((W8 a.2 320).1).f),DC.int (((W8 a.2 320).1).g),DC.int (((W8 a.2 320).1).c),DC.int (((W8 a.2 320).1).b),DC.int (((W8 a.2 320).1).d),DC.int ((((W8 a.2 320).1).a).c),DC.int ((((W8 a.2 320).1).a).f),DC.int ((((W8 a.2 320).1).a).e),DC.int ((((W8 a.2 320).1).a).d),DC.int ((((W8 a.2 320).1).a).g),DC.int ((((W8 a.2 320).1).a).b),DC.int ((((W8 a.2 320).1).a).h),DC.str ((((W8 a.2 320).1).a).a),DC.int (s (1+((mz n 128).1))),DC.int ((Pv o ([[DC.int 60],[DC.int 100],[DC.int 128]])).1),DC.str [],DC.int 0]]))) lf) (cond (a.1==7) (cond (t true (Em 184 (d++([VZ 2 (((YA (N.nd (q list_ (u1 k)) 0)).1)) 0])) ([VZ 1 [] 0]))) (g (s (k+1)) a.2.b a.2.i a.2.h ((d++([VZ 2 (((YA (N.nd (q list_ (u1 k)) 0)).1)) 0]))++([VZ 1 [] 0]))) lf) (cond (a.1==8) (cond T (cond (t true (Em 184 (d++([VZ 2 (((YA (N.nd (q list_ (u1 k)) 0)).1)) 0])) ([VZ 6 [] 0]))) (g (s (k+1)) a.2.b a.2.i a.2.h ((d++([VZ 2 (((YA (N.nd (q list_ (u1 k)) 0)).1)) 0]))++([VZ 6 [] 0]))) lf) (g (s (k+1)) a.2.b a.2.i a.2.h (d++([VZ 2 (((YA (N.nd (q list_ (u1 k)) 0)).1)) 0])))) (g (s (k+1)) a.2.b a.2.i a.2.h (d++([VZ 2 (((YA (N.nd (q list_ (u1 k)) 0)).1)) 0]))))))))) lf) lf)) lf) lf) (F d (⟨X,y,z⟩:w))
def Bj(a:u→w→α)(N:Nat)(b:Bool)(list_:u)(c:Nat):d6 α:=bW (λ_ _ _ _ _=>lf) (Bn lf a b list_) c
def nry(d:u→w→α)(a:u→Int→u→Int→Int→u→α)(c:w)(e:Bool):α:=cond (t true (bC c 10)) (a ((s_ c 10).1) 0 (((s_ c 10).2).b) (((s_ c 10).2).i) (((s_ c 10).2).h) []) lf
def Ya(a:u→w→α)(N:Nat)(c:w)(b:Bool):α:=nry lf a (λlist_=>Bj lf a N b list_ N) c b
def oY(c:w)(a:Bool):Bool:=vl c && !a
theorem nBt(p:N):(YA p).1.length≤424:=by
 have a:=Pf p;unfold YA Yl;cases (!(Dc p))
 ·simp only[J,fK,Sq,I_,vF];omega
 ·exact vI _
def gn(x:List DC):Prop:=0≤r x 0∧r x 0≤5∧(Gi x 19).length≤1000
theorem nmN{s:x}(h:s.length≤1000):gn (VZ 2 s 0):=⟨by show (0:Int)≤2;omega,by show (2:Int)≤5;omega,h⟩
theorem Uj(n:Int)(a:0≤n)(b:n≤5):gn (VZ n [] 0):=⟨a,b,vI _⟩
theorem nqW(b:Int):gn (VZ 5 [] b):=⟨by show (0:Int)≤5;omega,by show (5:Int)≤5;omega,vI _⟩
theorem nqP(g h i j k l m n o p a b d e f:Int)(s:x)(z c:Int):gn [DC.int 0,DC.int g,DC.int h,DC.int i,DC.int j,DC.int k,DC.int l,DC.int m,DC.int n,DC.int o,DC.int p,DC.int a,DC.int b,DC.int d,DC.int e,DC.int f,DC.str s,DC.int z,DC.int c,DC.str [],DC.int 0]:=⟨by show (0:Int)≤0;omega,by show (0:Int)≤5;omega,vI _⟩
def V6(i:Nat)(o:u):Prop:=o.length≤2*i∧(∀x∈o,gn x)∧(0<i→∃x∈o,r x 0=2)
theorem nrs{i:Nat}{o:u}{a:List DC}(h:V6 i o)(c:gn a)(d:r a 0=2):V6 (i+1) (o++[a]):=by
 refine⟨by have:=h.1;simp only[fK,I_,vF];omega,λx b=>?_,λ_=>⟨a,by simp,d⟩⟩;rcases v_.1 b with b | b
 ·exact h.2.1 x b
 ·rw[wa.1 b];exact c
theorem nDm{i:Nat}{o:u}{a b:List DC}(h:V6 i o)(d:gn a)(e:r a 0=2)(f:gn b):V6 (i+1) ((o++[a])++[b]):=by
 refine⟨by have:=h.1;simp only[fK,I_,vF];omega,λx c=>?_,λ_=>⟨a,by simp,e⟩⟩;rcases v_.1 c with c | c
 ·rcases v_.1 c with c | c
  ·exact h.2.1 x c
  ·rw[wa.1 c];exact d
 ·rw[wa.1 c];exact f
def qO(c:w)(a:Bool):(α:Type)→α→((u×w)→α)→α:=λα lf k=>Ya lf (λb d=>k (b,d)) 12 c a
def ak(c:w)(a:Bool)(Z:(u×w)):Prop:=vl Z.2=true∧Z.1.length≤20∧(∀x∈Z.1,gn x)∧∃x∈Z.1,r x 0=2
def tg(c:w)(a:Bool):(u×w):=drawn ([],c) (qO c a) (ak c a)
theorem ntq{c:w}{G:Bool}(af6:oY c G=true):R (qO c G) (ak c G):=by
 simp only[oY,Bl,Bool.not_eq_true'] at af6;obtain⟨T,H⟩:=af6;have O:bC c 10=true:=by simp only[bC,T];rfl
 obtain⟨U,V,W⟩:=nsV O;unfold qO ak Ya nry;subst H;refine lG (ZY O) ?_;generalize (s_ c 10).1=list_ at V W;have key:∀(m q i:Nat) (d:w) (o:u),m<q→i+m=list_.length→V6 i o→vl d=true→R (λα lf k=>Bj lf (λf g=>k (f,g)) 12 false list_ q (i:Int) d.b d.i d.h o) (λr=>vl r.2=true∧V6 list_.length r.1):=by
  intro m
  induction m with
  | zero=>
   intro q i d o D I z E;obtain⟨q,rfl⟩:=DF q;show R (λα lf k=>Bn lf (λf g=>k (f,g)) false list_ (Bj lf (λf g=>k (f,g)) 12 false list_ q) (i:Int) d.b d.i d.h o) _;unfold Bn;dsimp only;have F:i=list_.length:=by omega
   subst F;exact xV (λh=>absurd (of_decide_eq_true h) (by simp only[len];omega)) (λ_=>Et ⟨E,z⟩)
  | succ m P=>
   intro q i d o D I z E;obtain⟨q,rfl⟩:=DF q;show R (λα lf k=>Bn lf (λf g=>k (f,g)) false list_ (Bj lf (λf g=>k (f,g)) 12 false list_ q) (i:Int) d.b d.i d.h o) _;unfold Bn;dsimp only;have F:i<list_.length:=by omega
   have X:s ((i:Int)+1)=((i+1:Nat):Int):=by rw[fg];omega
   have A:∀(ab8:List DC),Em 184 o [ab8]=true:=λab8=>W6 (by have:=z.1;simp only[I_,vF];omega) (by omega);have j:∀(y ab8:List DC),Em 184 (o++[y]) [ab8]=true:=λy ab8=>W6 (by have:=z.1;simp only[fK,I_,vF];omega) (by omega);have B:∀p:N,(YA p).1.length≤1000:=λp=>xK (nBt p) (by omega);have J:∀(p:N) (a:Int) (d:w),eZ (YA p).1 a (GF d 1).1=true:=λp a d=>by have D:=B p;have I:=neQ d (n:=1) (by omega) (by omega);simp only[len] at I;simp only[eZ,Bl,js];omega
   have Y:∀(p:N) (a:Int) (d:w),(B9 (YA p).1 a (GF d 1).1).length≤1000:=λp a d=>by have D:=B p;rw[aW (by omega)];exact D
   have C:∀(acr:x) (d:w),acr.length≤1000→vl d=true→R (λα lf k=>Bj lf (λf g=>k (f,g)) 12 false list_ q ((i+1:Nat):Int) d.b d.i d.h (o++[VZ 2 acr 0])) (λr=>vl r.2=true∧V6 list_.length r.1):=λacr d l K=>P q (i+1) d _ (by omega) (by omega) (nrs z (nmN l) rfl) K;have acy:∀(acr:x) (d:w) (b:List DC),acr.length≤1000→vl d=true→gn b→R (λα lf k=>Bj lf (λf g=>k (f,g)) 12 false list_ q ((i+1:Nat):Int) d.b d.i d.h ((o++[VZ 2 acr 0])++[b])) (λr=>vl r.2=true∧V6 list_.length r.1):=λacr d b l K B=>P q (i+1) d _ (by omega) (by omega) (nDm z (nmN l) rfl B) K;refine xV (λ_=>?_) (λh=>absurd (of_decide_eq_false h) (by simp only[len];omega));rw[X,eR,mZ F,R7 F];refine lG rfl ?_;have L:(⟨d.b,d.i,d.h⟩:w)=d:=rfl;rw[L];have c0:=iB E 12;have Q:∀n,vl (mz (US d 12).2 n).2=true:=λn=>QX c0 n;have agl:∀n,vl (GF (mz (US d 12).2 n).2 1).2=true:=λn=>Va (Q n) 1;have Z:∀n,vl (mz (GF (mz (US d 12).2 n).2 1).2 10).2=true:=λn=>QX (agl n) 10;have aa1:∀(e:w) (acr:x) (v:Int),vl e=true→acr.length≤1000→R (λα lf k=>bif v==0 then cond (t true (Em 184 (o++[VZ 2 acr 0]) [VZ 3 [] 0])) (Bj lf (λf g=>k (f,g)) 12 false list_ q ((i+1:Nat):Int) e.b e.i e.h ((o++[VZ 2 acr 0])++[VZ 3 [] 0])) lf
     else bif cond (v==1) true (v==2) then cond (t true (Em 184 (o++[VZ 2 acr 0]) [VZ 4 [] 0])) (Bj lf (λf g=>k (f,g)) 12 false list_ q ((i+1:Nat):Int) e.b e.i e.h ((o++[VZ 2 acr 0])++[VZ 4 [] 0])) lf
     else bif cond (v==3) true (cond (v==4) true (v==5)) then cond (t (t true (pe e 3)) (Em 184 (o++[VZ 2 acr 0]) [VZ 5 [] ((s (1+(mz e 3).1)))])) (Bj lf (λf g=>k (f,g)) 12 false list_ q ((i+1:Nat):Int) (mz e 3).2.b (mz e 3).2.i (mz e 3).2.h ((o++[VZ 2 acr 0])++[VZ 5 [] ((s (1+(mz e 3).1)))])) lf
     else bif v==6 then cond (t (t (t (t true (Ef e 320)) (pe (W8 e 320).2 128)) (VE (mz (W8 e 320).2 128).2 [[DC.int 60],[DC.int 100],[DC.int 128]])) (Em 184 (o++[VZ 2 acr 0]) [[DC.int 0,DC.int (W8 e 320).1.h,DC.int (W8 e 320).1.i,DC.int (W8 e 320).1.e,DC.int (W8 e 320).1.f,DC.int (W8 e 320).1.g,DC.int (W8 e 320).1.c,DC.int (W8 e 320).1.b,DC.int (W8 e 320).1.d,DC.int (W8 e 320).1.a.c,DC.int (W8 e 320).1.a.f,DC.int (W8 e 320).1.a.e,DC.int (W8 e 320).1.a.d,DC.int (W8 e 320).1.a.g,DC.int (W8 e 320).1.a.b,DC.int (W8 e 320).1.a.h,DC.str (W8 e 320).1.a.a,DC.int (s (1+(mz (W8 e 320).2 128).1)),DC.int (Pv (mz (W8 e 320).2 128).2 [[DC.int 60],[DC.int 100],[DC.int 128]]).1,DC.str [],DC.int 0]])) (Bj lf (λf g=>k (f,g)) 12 false list_ q ((i+1:Nat):Int) (Pv (mz (W8 e 320).2 128).2 [[DC.int 60],[DC.int 100],[DC.int 128]]).2.b (Pv (mz (W8 e 320).2 128).2 [[DC.int 60],[DC.int 100],[DC.int 128]]).2.i (Pv (mz (W8 e 320).2 128).2 [[DC.int 60],[DC.int 100],[DC.int 128]]).2.h ((o++[VZ 2 acr 0])++[[DC.int 0,DC.int (W8 e 320).1.h,DC.int (W8 e 320).1.i,DC.int (W8 e 320).1.e,DC.int (W8 e 320).1.f,DC.int (W8 e 320).1.g,DC.int (W8 e 320).1.c,DC.int (W8 e 320).1.b,DC.int (W8 e 320).1.d,DC.int (W8 e 320).1.a.c,DC.int (W8 e 320).1.a.f,DC.int (W8 e 320).1.a.e,DC.int (W8 e 320).1.a.d,DC.int (W8 e 320).1.a.g,DC.int (W8 e 320).1.a.b,DC.int (W8 e 320).1.a.h,DC.str (W8 e 320).1.a.a,DC.int (s (1+(mz (W8 e 320).2 128).1)),DC.int (Pv (mz (W8 e 320).2 128).2 [[DC.int 60],[DC.int 100],[DC.int 128]]).1,DC.str [],DC.int 0]])) lf
     else bif v==7 then cond (t true (Em 184 (o++[VZ 2 acr 0]) [VZ 1 [] 0])) (Bj lf (λf g=>k (f,g)) 12 false list_ q ((i+1:Nat):Int) e.b e.i e.h ((o++[VZ 2 acr 0])++[VZ 1 [] 0])) lf
     else bif v==8 then cond false (cond (t true (Em 184 (o++[VZ 2 acr 0]) [VZ 6 [] 0])) (Bj lf (λf g=>k (f,g)) 12 false list_ q ((i+1:Nat):Int) e.b e.i e.h ((o++[VZ 2 acr 0])++[VZ 6 [] 0])) lf) (Bj lf (λf g=>k (f,g)) 12 false list_ q ((i+1:Nat):Int) e.b e.i e.h (o++[VZ 2 acr 0]))
     else Bj lf (λf g=>k (f,g)) 12 false list_ q ((i+1:Nat):Int) e.b e.i e.h (o++[VZ 2 acr 0])) (λr=>vl r.2=true∧V6 list_.length r.1):=by
    intro e acr v acD l;have M:=zr acD 320;have S:=QX M.2 128;refine xV (λ_=>lG (ZY (j _ _)) (acy acr e _ l acD (Uj 3 (by omega) (by omega)))) (λ_=>?_);refine xV (λ_=>lG (ZY (j _ _)) (acy acr e _ l acD (Uj 4 (by omega) (by omega)))) (λ_=>?_);refine xV (λ_=>lG (by rw[j,show pe e 3=true from acD];rfl) (acy acr _ _ l (QX acD 3) (nqW _))) (λ_=>?_);refine xV (λ_=>lG (by rw[j,M.1,mQ S,show pe (W8 e 320).2 128=true from M.2];rfl) (acy acr _ _ l (dt S _) (nqP ..))) (λ_=>?_);refine xV (λ_=>lG (ZY (j _ _)) (acy acr e _ l acD (Uj 1 (by omega) (by omega)))) (λ_=>?_);exact xV (λ_=>xV (λh=>by cases h) (λ_=>C acr e l acD)) (λ_=>C acr e l acD)
   refine lG (ZY (zH _ E)) (xV (λ_=>?_) (λ_=>?_))
   ·refine lG (by rw[J,show ∀n,pe (US d 12).2 n=true from λn=>c0,show ∀n,pe (mz (US d 12).2 n).2 1=true from λn=>Q n];rfl) (lG (ZY (A _)) (lG (ZY (zH _ (agl _))) ?_));exact aa1 _ _ _ (Z _) (Y _ _ _)
   ·refine lG (ZY (A _)) (lG (ZY (zH _ c0)) ?_);exact aa1 _ _ _ (QX c0 10) (B _)
 refine gw (key list_.length 12 0 _ [] (by omega) (vH _) ⟨by simp,λab8 hx=>(by cases hx),λh=>by omega⟩ U) (λr h=>⟨h.1,by have:=h.2.1;omega,h.2.2.1,h.2.2.2 (by omega)⟩)
theorem nmf{c:w}{a:Bool}(b:oY c a=true):ak c a (tg c a):=(zb (ntq b)).1
theorem nc4(b:u→w→α)(c:w)(a:Bool)(d:oY c a=true):∃N,Ya lf b N c a=b (tg c a).1 (tg c a).2:=by exact⟨12,(zb (ntq d)).2 α lf (λr=>b r.1 r.2)⟩
structure hE where
 c:Int
 b:N
 a:Int
 e:Int
 d:x
 f:Int
def hE.enc(x:hE):List DC:=[.int x.c,.int x.b.h,.int x.b.i,.int x.b.e,.int x.b.f,.int x.b.g,.int x.b.c,.int x.b.b,.int x.b.d,.int x.b.a.c,.int x.b.a.f,.int x.b.a.e,.int x.b.a.d,.int x.b.a.g,.int x.b.a.b,.int x.b.a.h,.str x.b.a.a,.int x.a,.int x.e,.str x.d,.int x.f]
def hE.nd(Z:List DC)(o:Nat):hE:=⟨r Z (o+0),N.nd Z (o+1),r Z (o+17),r Z (o+18),Gi Z (o+19),r Z (o+20)⟩
def hE.ct:List CT:=Zu
theorem hE.eta{r:List DC}(h:Q hE.ct r):(hE.nd r 0).enc=r:=(show (hE.nd r 0).enc=Sy hE.ct r 0 from by kernel_rfl).trans (Qz h)
theorem hE.nX{r:List CT}{b:List DC}(h:Q (hE.ct++r) b):∃(x:hE) (c:List DC),b=x.enc++c∧Q hE.ct x.enc∧Q r c:=by obtain⟨d,e,rfl,a,f⟩:=SU h;exact⟨hE.nd d 0,e,by rw[hE.eta a],by rw[hE.eta a];exact a,f⟩
theorem hE.npj{x:hE}(h:Q hE.ct x.enc):IJ .i (.int x.c):=VM 0 h rfl rfl
theorem hE.nC8{x:hE}(h:Q hE.ct x.enc):Q N.ct x.b.enc:=gj 1 16 h
theorem hE.nkd{x:hE}(h:Q hE.ct x.enc):IJ .i (.int x.a):=VM 17 h rfl rfl
def BH(l:z→w→α)(a e:u)(f g h m c n o p Y r V:Int)(U:Bool)(Z:x)(X:Bool)(T W y S R:Int)(d B C D E F Q H P J K L M af7 O:u)(i:Int→u→α)(k:Int)(b:u):α:=let j:u×w:=Yz (⟨e,f,g⟩:w) b;cond (k<len a) (cond (t (t true (A k a)) (SQ (Gi (q a (u1 k)) 19))) (cond (((aA (Gi (q a (u1 k)) 19)).2)==0) (cond (t true (Em 136 b [N.enc ((aA (Gi (q a (u1 k)) 19)).1)])) (i (s (k+1)) (b++[N.enc ((aA (Gi (q a (u1 k)) 19)).1)])) lf) (i (s (k+1)) b)) lf) (cond (t true (qu (⟨e,f,g⟩:w) b)) (l (⟨(⟨d⟩:v),B,(⟨(⟨h,m,c,n⟩:I),(⟨o,p,Y,C⟩:G),D,r⟩:Co),E,F,Q,H,(⟨V,U,P⟩:QD),(⟨J,(⟨K⟩:mB),(⟨Z,L⟩:iI)⟩:se),j.1,X,M,af7,O,(⟨T,W,y,S,R⟩:Pa)⟩:z) j.2) lf)
def q_(c:z→w→α)(N:Nat)(d e:u)(f g h i a j k l m n o:Int)(p:Bool)(q:x)(r:Bool)(s t Z v X:Int)(b Y y W A B C D E F G H I J K:u)(L:Nat):Int→u→α:=bW (λ_ _=>lf) (BH lf c d e f g h i a j k l m n o p q r s t Z v X b Y y W A B C D E F G H I J K) L
def nlV(d:z→w→α)(a:u→Int→Int→Int→Int→Int→Int→Int→Int→Int→Int→Int→Bool→x→Bool→Int→Int→Int→Int→Int→u→u→u→u→u→u→u→u→u→u→u→u→u→u→u→Int→u→α)(c:w)(e:u):α:=cond (t true (vl c)) (a (((Sh c).2).b) (((Sh c).2).i) (((Sh c).2).h) (((((Sh c).1).a).b).b) (((((Sh c).1).a).b).a) (((((Sh c).1).a).b).d) (((((Sh c).1).a).b).c) (((((Sh c).1).a).a).b) (((((Sh c).1).a).a).a) (((((Sh c).1).a).a).c) ((((Sh c).1).a).d) ((((Sh c).1).f).b) ((((Sh c).1).f).c) (((((Sh c).1).d).b).b) (((Sh c).1).m) ((((Sh c).1).c).a) ((((Sh c).1).c).b) ((((Sh c).1).c).e) ((((Sh c).1).c).c) ((((Sh c).1).c).d) ((((Sh c).1).h).a) (((Sh c).1).j) (((((Sh c).1).a).a).d) ((((Sh c).1).a).c) (((Sh c).1).b) (((Sh c).1).e) (((Sh c).1).g) (((Sh c).1).i) ((((Sh c).1).f).a) ((((Sh c).1).d).c) (((((Sh c).1).d).a).a) (((((Sh c).1).d).b).a) (((Sh c).1).l) (((Sh c).1).n) (((Sh c).1).o) 0 []) lf
def Vq(d:z→w→α)(N:Nat)(c:w)(e:u):α:=nlV lf d (λf g i h j a k l m n o p q r s t Z v Y x b y X A B C D E F G H I J K L=>q_ lf d N e f g i h j a k l m n o p q r s t Z v Y x b y X A B C D E F G H I J K L N) c e
def mO(h:z):Prop:=∃(a:z) (s:u),kP a∧h= {a with k:=s} ∧s.length≤100∧∀x∈s,Gi x 6=[]
def oD(c:w)(a:u):Bool:=vl c && (decide (a.length≤20) && a.all (λx=>decide ((Gi x 19).length≤1000)))
def zm(c:w)(a:u):(α:Type)→α→((z×w)→α)→α:=λα lf k=>Vq lf (λb d=>k (b,d)) 22 c a
def e4(c:w)(a:u)(r:(z×w)):Prop:=vl r.2=true∧mO r.1
def Fc(c:w)(a:u):(z×w):=drawn (SA,c) (zm c a) (e4 c a)
theorem nDh{c:w}{a:u}(f:oD c a=true):R (zm c a) (e4 c a):=by
 simp only[oD,Bl,js,vG] at f;obtain⟨g,D,X⟩:=f;unfold zm e4 Vq nlV;refine lG (ZY g) ?_;obtain⟨n1,n2⟩:=nBB g;generalize Sh c=z at n1 n2;have key:∀(m Y i:Nat) (o:u),m<Y→i+m=a.length→o.length≤i→R (λα lf k=>q_ lf (λd e=>k (d,e)) 22 a z.2.b z.2.i z.2.h z.1.a.b.b z.1.a.b.a z.1.a.b.d z.1.a.b.c z.1.a.a.b z.1.a.a.a z.1.a.a.c z.1.a.d z.1.f.b z.1.f.c z.1.d.b.b z.1.m z.1.c.a z.1.c.b z.1.c.e z.1.c.c z.1.c.d z.1.h.a z.1.j z.1.a.a.d z.1.a.c z.1.b z.1.e z.1.g z.1.i z.1.f.a z.1.d.c z.1.d.a.a z.1.d.b.a z.1.l z.1.n z.1.o Y (i:Int) o) (λr=>vl r.2=true∧mO r.1):=by
  intro m
  induction m with
  | zero=>
   intro Y i o t Z v;obtain⟨Y,rfl⟩:=DF Y;show R (λα lf k=>BH lf (λd e=>k (d,e)) a z.2.b z.2.i z.2.h z.1.a.b.b z.1.a.b.a z.1.a.b.d z.1.a.b.c z.1.a.a.b z.1.a.a.a z.1.a.a.c z.1.a.d z.1.f.b z.1.f.c z.1.d.b.b z.1.m z.1.c.a z.1.c.b z.1.c.e z.1.c.c z.1.c.d z.1.h.a z.1.j z.1.a.a.d z.1.a.c z.1.b z.1.e z.1.g z.1.i z.1.f.a z.1.d.c z.1.d.a.a z.1.d.b.a z.1.l z.1.n z.1.o (q_ lf (λd e=>k (d,e)) 22 a z.2.b z.2.i z.2.h z.1.a.b.b z.1.a.b.a z.1.a.b.d z.1.a.b.c z.1.a.a.b z.1.a.a.a z.1.a.a.c z.1.a.d z.1.f.b z.1.f.c z.1.d.b.b z.1.m z.1.c.a z.1.c.b z.1.c.e z.1.c.c z.1.c.d z.1.h.a z.1.j z.1.a.a.d z.1.a.c z.1.b z.1.e z.1.g z.1.i z.1.f.a z.1.d.c z.1.d.a.a z.1.d.b.a z.1.l z.1.n z.1.o Y) (i:Int) o) _;unfold BH;dsimp only;refine xV (λh=>absurd (of_decide_eq_true h) (by simp only[len];omega)) (λ_=>?_);have j:qu (⟨z.2.b,z.2.i,z.2.h⟩:w) o=true:=by simp only[qu,Bl,js];exact⟨n1,by omega⟩
   obtain⟨W,E,y⟩:=ns7 j;exact lG (ZY j) (Et ⟨W,z.1,_,n2,rfl,by omega,y⟩)
  | succ m l=>
   intro Y i o t Z v;obtain⟨Y,rfl⟩:=DF Y;show R (λα lf k=>BH lf (λd e=>k (d,e)) a z.2.b z.2.i z.2.h z.1.a.b.b z.1.a.b.a z.1.a.b.d z.1.a.b.c z.1.a.a.b z.1.a.a.a z.1.a.a.c z.1.a.d z.1.f.b z.1.f.c z.1.d.b.b z.1.m z.1.c.a z.1.c.b z.1.c.e z.1.c.c z.1.c.d z.1.h.a z.1.j z.1.a.a.d z.1.a.c z.1.b z.1.e z.1.g z.1.i z.1.f.a z.1.d.c z.1.d.a.a z.1.d.b.a z.1.l z.1.n z.1.o (q_ lf (λd e=>k (d,e)) 22 a z.2.b z.2.i z.2.h z.1.a.b.b z.1.a.b.a z.1.a.b.d z.1.a.b.c z.1.a.a.b z.1.a.a.a z.1.a.a.c z.1.a.d z.1.f.b z.1.f.c z.1.d.b.b z.1.m z.1.c.a z.1.c.b z.1.c.e z.1.c.c z.1.c.d z.1.h.a z.1.j z.1.a.a.d z.1.a.c z.1.b z.1.e z.1.g z.1.i z.1.f.a z.1.d.c z.1.d.a.a z.1.d.b.a z.1.l z.1.n z.1.o Y) (i:Int) o) _;unfold BH;dsimp only;have n:i<a.length:=by omega
   have A:s ((i:Int)+1)=((i+1:Nat):Int):=by rw[fg];omega
   have B:∀(x:List DC),Em 136 o [x]=true:=λx=>W6 (by simp only[I_,vF];omega) (by omega);have C:SQ (Gi (q a i) 19)=true:=Hd (xK (X _ (nU n)) (by omega));refine xV (λ_=>?_) (λh=>absurd (of_decide_eq_false h) (by simp only[len];omega));rw[eR,mZ n,A];refine lG (by rw[C];rfl) (xV (λ_=>lG (ZY (B _)) ?_) (λ_=>?_))
   ·exact l Y (i+1) _ (by omega) (by omega) (by rw[fK];simp only[I_,vF];omega)
   ·exact l Y (i+1) _ (by omega) (by omega) (by omega)
 exact key a.length 22 0 [] (by omega) (vH _) (vI _)
theorem nBl{c:w}{a:u}(b:oD c a=true):e4 c a (Fc c a):=(zb (nDh b)).1
theorem ngl(b:z→w→α)(c:w)(a:u)(d:oD c a=true):∃N,Vq lf b N c a=b (Fc c a).1 (Fc c a).2:=by exact⟨22,(zb (nDh d)).2 α lf (λr=>b r.1 r.2)⟩
def nfY(b:z→u→α)(a:u):α:=cond (t true (oY (Yn a) false)) (cond (t true (oD ((tg (Yn a) false).2) ((tg (Yn a) false).1))) (b ((Fc ((tg (Yn a) false).2) ((tg (Yn a) false).1)).1) ((tg (Yn a) false).1)) lf) lf
def th(a:u):u×w:=tg (Yn a) false
def Vf(a:u):z×u:=((Fc (th a).2 (th a).1).1,(th a).1)
theorem Z2{a:u}(b:a.length≤9223372036854775807):oY (Yn a) false=true:=by simp only[oY,nt5 b,vT,vM]
theorem nwE{a:u}(b:a.length≤9223372036854775807):oD (th a).2 (th a).1=true:=by obtain⟨c,d,e,g⟩:=nmf (Z2 b);simp only[oD,Bl,js,vG];exact⟨c,d,λx f=>(e x f).2.2⟩
theorem txt{a:u}(b:a.length≤9223372036854775807):mO (Vf a).1∧(Vf a).2.length≤20∧(∀x∈(Vf a).2,gn x)∧∃x∈(Vf a).2,r x 0=2:=
 ⟨(nBl (nwE b)).2,(nmf (Z2 b)).2⟩
theorem nig(b:z→u→α)(a:u)(d:IJ (.sl [.int .u8]) (.sl a)):nfY lf b a=b (Vf a).1 (Vf a).2:=by have c:=(Nh d).1;unfold nfY Vf;exact rR (ZY (Z2 c)) (rR (ZY (nwE c)) rfl)
def nFd(b:z→Int→α)(h:z)(a:hE):α:=let c:z×Bool:=PK h a.b a.a a.e;cond (a.c==0) (cond (t true (tR h a.b a.a a.e)) (b c.1 (gU c.2)) lf) (cond (a.c==1) (cond (t true (Yu h)) (b (ZC h) 0) lf) (cond (a.c==2) (cond (t true (Xf h a.d)) (b (rC h a.d) 0) lf) (cond (a.c==3) (cond (t true (KQ h)) (b (Ys h) 0) lf) (cond (a.c==4) (cond (t true (fY h)) (b (Xa h) 0) lf) (cond (a.c==5) (cond (t true (wN h a.f)) (b ((uf h a.f).1) ((uf h a.f).2)) lf) (b h 0))))))
def cq(h:z)(a:hE):Bool:=mD h && (Aa h && (fo h && SQ a.d))
def WW(h:z)(a:hE):z×Int:=cond (a.c==0) ((PK h a.b a.a a.e).1,gU (PK h a.b a.a a.e).2) (cond (a.c==1) (ZC h,0) (cond (a.c==2) (rC h a.d,0) (cond (a.c==3) (Ys h,0) (cond (a.c==4) (Xa h,0) (cond (a.c==5) (uf h a.f) (h,0))))))
theorem nn9(d:z→Int→α)(h:z)(a:hE)(g:cq h a=true):nFd lf d h a=d (WW h a).1 (WW h a).2:=by
 simp only[cq,Bl] at g;obtain⟨e,f,i,j⟩:=g;have k:∀p Z c,tR h p Z c=true:=λ_ _ _=>by simp only[tR,e,f,vM]
 have l:Yu h=true:=by simp only[Yu,e,f,vM]
 have m:Xf h a.d=true:=by simp only[Xf,e,f,j,vM]
 have n:KQ h=true:=by simp only[KQ,e,f,vM]
 have o:fY h=true:=by simp only[fY,e,f,vM]
 have q:∀b,wN h b=true:=λ_=>by simp only[wN,e,f,i,vM]
 unfold nFd WW;dsimp only;refine U6 (K:=λZ:z×Int=>d Z.1 Z.2) (λ_=>rR (ZY (k _ _ _)) rfl) (λ_=>?_);refine U6 (K:=λZ:z×Int=>d Z.1 Z.2) (λ_=>rR (ZY l) rfl) (λ_=>?_);refine U6 (K:=λZ:z×Int=>d Z.1 Z.2) (λ_=>rR (ZY m) rfl) (λ_=>?_);refine U6 (K:=λZ:z×Int=>d Z.1 Z.2) (λ_=>rR (ZY n) rfl) (λ_=>?_);refine U6 (K:=λZ:z×Int=>d Z.1 Z.2) (λ_=>rR (ZY o) rfl) (λ_=>?_);exact U6 (K:=λZ:z×Int=>d Z.1 Z.2) (λ_=>rR (ZY (q _)) rfl) (λ_=>rfl)
theorem ZU{P:List DC→Prop}{l:u}{x:List DC}(h:∀k,k<l.length→P (q l k))(a:P x):∀k,k<(l++[x]).length→P (q (l++[x]) k):=by
 intro k b;rw[fK,List.length_singleton] at b;by_cases e:k<l.length
 ·rw[show q (l++[x]) k=q l k by simp only[q,vL,xJ e]];exact h k e
 ·rw[show k=l.length by omega,show q (l++[x]) l.length=x by simp[q]];exact a
theorem nmH(x:List DC):∀(m i:Nat) (o:u),kM (λ_ o=>o++[x]) m i o=o++vU m x
 | 0,_,_=>by simp[kM]
 | m+1,i,o=>by rw[kM,nmH x m,vJ];rfl
theorem nn0:(Rz 38).a=vU 38 aG:=by show (cond ((38:Int)≤64) (kM (λ_ o=>o++[aG]) 38 0 []) [])=_;rw[show decide ((38:Int)≤64)=true by decide,H,nmH,xI]
theorem nok:UO (Rz 38):=by unfold UO;rw[nn0];refine⟨λi a=>?_,w3 ..⟩;rw[w3] at a;refine⟨vZ 128 0, ?_,by simp[vZ]⟩;simp only[q,vL];rw[List.getElem?_replicate_of_lt a];rfl
theorem nib:∀i,UO (tG i)
 | 0=>nok
 | i+1=>nrw (nib i)
theorem nEq{i:Nat}(a:i<2):Vd (PH (i:Int))=true∧dq (T7 (i:Int))=true∧PM (oN (i:Int))=true:=by
 rcases (show i=0∨i=1 by omega) with rfl | rfl
 ·exact⟨by kernel_rfl,by kernel_rfl,by kernel_rfl⟩
 ·exact⟨by kernel_rfl,by kernel_rfl,by kernel_rfl⟩
theorem nrH:Q7 TW=true:=by kernel_rfl
structure Y6 (f:QD) (s:se) (co:Bool) (i:Nat) (o:z):Prop where
 eq:o= {cE f s co with h:=o.h,b:=o.b,e:=o.e,g:=o.g,i:=o.i}
 mem:o.h=tG i
 nr:o.b.length=i
 np:o.e.length=i
 nv:o.g.length=i
 nb:o.i.length=i
 rx:∀k,k<o.b.length→TH (S.nd (q o.b k) 0)=true∧(S.nd (q o.b k) 0).e=0
 po:∀k,k<o.e.length→PM (G.nd (q o.e k) 0)=true
 ve:∀k,k<o.g.length→iv (Ue.nd (q o.g k) 0)=true
theorem nDy{f:QD}{s:se}{co:Bool}{v:Ue}(c:iv v=true){i:Nat}{o:z}(e:i<2)(a:Y6 f s co i o):Y6 f s co (i+1) (A_ v i o):=by
 obtain⟨g,b,h⟩:=nEq e;have j:=neZ (l:=Z6) (m:=o.h) (d:=0) (p:=oN (i:Int)) g;have k:=ns4 (l:=Z6) (m:=o.h) (d:=0) (r:=PH (i:Int)) h;exact {
  eq:=by have this:=congrArg (λx:z=>({x with h:=(A_ v i o).h,b:=(A_ v i o).b,e:=(A_ v i o).e,g:=(A_ v i o).g,i:=(A_ v i o).i} :z)) a.eq;exact this
  mem:=by show (Hc o.h (i:Int)).1=(Hc (tG i) (i:Int)).1;rw[a.mem]
  nr:=by show (o.b++[_]).length=_;rw[fK,a.nr];rfl
  np:=by show (o.e++[_]).length=_;rw[fK,a.np];rfl
  nv:=by show (o.g++[_]).length=_;rw[fK,a.nv];rfl
  nb:=by show (o.i++[_]).length=_;rw[fK,a.nb];rfl
  rx:=ZU (P:=λr=>TH (S.nd r 0)=true∧(S.nd r 0).e=0) a.rx ⟨D6.2 ⟨j.1,b,b,rfl,rfl,by show (0:Int)≤0∧(0:Int)≤1000000000000;omega,.inr ⟨rfl,rfl⟩⟩,rfl⟩
  po:=ZU (P:=λr=>PM (G.nd r 0)=true) a.po k.1
  ve:=ZU (P:=λr=>iv (Ue.nd r 0)=true) a.ve c}
theorem ns0{f:QD}{s:se}{co:Bool}{v:Ue}(a:iv v=true):∀(m i:Nat) (o:z),i+m≤2→Y6 f s co i o→Y6 f s co (i+m) (kM (A_ v) m i o)
 | 0,_,_,_,h=>h
 | m+1,i,o,hm,h=>by have:=ns0 a m (i+1) (A_ v i o) (by omega) (nDy a (by omega) h);rw[show i+(m+1)=i+1+m by omega];exact this
theorem nAZ{a b:Int}(h:(mW a b).2=true):iv (mW a b).1=true:=by
 revert h;unfold mW sN;dsimp only;cases c:iv (⟨a,b,0,0,false,false⟩:Ue)
 ·intro h;cases h
 ·intro _;exact c
theorem nBW{q:Int}{f:QD}{s:se}{co:Bool}{n t:Int}(h:(Aw q f s co n t).2=true):(1≤q∧q≤2)∧pY f=true∧DA s q=true∧iv (mW n t).1=true∧(Aw q f s co n t).1=kM (A_ (mW n t).1) q.toNat 0 (cE f s co):=by
 unfold Aw at h ⊢;cases c:(cond (!(D q 1 2)) true (cond (!(pY f)) true (cond (!(DA s q)) true (!((mW n t).2)))))
 ·obtain⟨d,a⟩:=Uk c;obtain⟨a,b⟩:=Uk a;obtain⟨b,e⟩:=Uk b;exact⟨YF.1 (Vk d),Vk a,Vk b,nAZ (Vk e),rfl⟩
 ·rw[c] at h;cases h
theorem nsw{h:z}(j:mO h):kq 0 h∧h.c.a=0:=by
 obtain⟨H,X,⟨Z,f,s,co,n,t,l,m,p,rfl⟩,rfl,u,v⟩:=j;obtain⟨⟨I,J⟩,x,y,Y,d⟩:=nBW p;obtain⟨c,rfl⟩:∃c:Nat,Z=(c:Int):=⟨Z.toNat,by omega⟩;rw[eR] at d;have w:=ns0 Y c 0 (cE f s co) (by omega) {eq:=rfl,mem:=rfl,nr:=rfl,np:=rfl,nv:=rfl,nb:=rfl,rx:=(λk a=>absurd a (vO k)),po:=(λk a=>absurd a (vO k)),ve:=(λk a=>absurd a (vO k))};rw[vH,←d] at w;generalize (Aw (c:Int) f s co n t).1=o at*;have e:=w.eq;have nr:=w.nr;have np:=w.np;have nv:=w.nv;have nb:=w.nb;have b:o.c=⟨0,0,0,0,0⟩:=congrArg z.c e;have A:o.j=Z6:=congrArg z.j e;have B:o.a=TW:=congrArg z.a e;have g:o.f=f:=congrArg z.f e;have i:o.d=s:=congrArg z.d e;have C:o.l=[]:=congrArg z.l e;have D:o.n=[]:=congrArg z.n e;have E:o.o=[]:=congrArg z.o e;have F:kq 0 ({o with k:=X} :z):=by
  constructor
  ·show UO o.h;rw[w.mem];exact nib c
  ·exact A
  ·show Q7 o.a=true;rw[B];exact nrH
  ·show pY o.f=true;rw[g];exact x
  ·show DA o.d (len o.b)=true;rw[i];simp only[len,nr];exact y
  ·show PO o.f=true;rw[g];exact l
  ·show bu o.d=true;rw[i];exact m
  ·show 1≤o.b.length;omega
  ·show o.b.length≤2;omega
  ·exact np.trans nr.symm
  ·exact nv.trans nr.symm
  ·exact nb.trans nr.symm
  ·exact λk a=>⟨(w.rx k a).1,by have:=(w.rx k a).2;show (S.nd (q o.b k) 0).e≤_;omega⟩
  ·exact λk a=>w.po k (by rw[np,←nr];exact a)
  ·exact λk a=>w.ve k (by rw[nv,←nr];exact a)
  ·show 0≤o.c.b∧0≤o.c.e∧0≤o.c.c∧0≤o.c.d;rw[b];exact⟨vP _,vP _,vP _,vP _⟩
  ·show o.c.a≤_;rw[b];exact vP _
  ·show o.c.a=o.c.b+o.c.e+o.c.c+o.c.d;rw[b];rfl
  ·exact u
  ·exact λr G=>by rw[v r G];exact vI _
  ·show o.l.length≤_;rw[C];exact vI _
  ·show o.n.length≤_;rw[D];exact vI _
  ·show o.o.length=0;rw[E];rfl
 refine⟨F, ?_⟩;show o.c.a=0;rw[b]
theorem nlv{h:z}{p:N}{size a:Int} :(PK h p size a).1.c=h.c:=by unfold PK;cases zp h<;>rfl
theorem nhR{h:z} :(ZC h).c=h.c:=by unfold ZC;cases zp h<;>rfl
theorem nlG{h:z} :(Xa h).c=h.c:=by unfold Xa;cases zp h<;>rfl
theorem nfx{h:z} :(Ys h).c=h.c:=by obtain⟨i,e,_⟩:=nvP (h:=h);have e:=congrArg z.c e;exact e
theorem neP{h:z}{ew:Int}(a:fo h=true):(uf h ew).1.c=h.c:=by obtain⟨i,_,e,_⟩:=nlK (h:=h) (ew:=ew) a;have e:=congrArg z.c e;exact e
theorem nFT{j:Nat}{h:z}(i:kq j h)(f:j≤20)(a:hE):kq (j+1) (WW h a).1∧(WW h a).1.c.a=h.c.a+gU (a.c==2):=by
 have m:=(Tk i f).2.2;have n:∀k:Int,k≠2→gU (k==2)=0:=λk o=>by rw[show (k==2)=false by simpa using o];rfl
 have e:∀(x:z) (c:Int) (b:Int),a.c=c→c≠2→kq (j+1) x→x.c=h.c→kq (j+1) x∧x.c.a=h.c.a+gU (a.c==2):=λx c b p q g l=>⟨g,by rw[l,p,n c q];omega⟩;unfold WW;cases c0:a.c==0
 case true=>exact e _ 0 0 (by simpa using c0) (by omega) (ngZ i) nlv
 cases r:a.c==1
 case true=>exact e _ 1 0 (by simpa using r) (by omega) (noa i) nhR
 cases s:a.c==2
 case true=>exact nne i f
 have d:∀x:z,kq (j+1) x→x.c=h.c→kq (j+1) x∧x.c.a=h.c.a+gU false:=λx g l=>⟨g,by rw[l];show _=h.c.a+(0:Int);omega⟩;cases t:a.c==3
 case true=>exact d _ (nB0 i f) nfx
 cases u:a.c==4
 case true=>exact d _ (ny7 i) nlG
 cases v:a.c==5
 case true=>exact d _ (npw i) (neP m)
 exact d _ (ll i) rfl
theorem ngG{j:Nat}{h:z}(i:kq j h)(a:j≤20){x:List DC}(b:gn x):cq h (hE.nd x 0)=true:=by obtain⟨c,d,e⟩:=Tk i a;simp only[cq,c,d,e,Bool.true_and];exact Hd (by show (Gi x 19).length≤_;have:=b.2.2;omega)
theorem ncX{l:u}{m:v}{d:Int}{q:S}{key:x}{p:N}(h:TH q=true)(b:Dc p=true)(c:q.e≤1000000000):TH (E_ (Wd l m d q key) p)=true:=by
 obtain⟨o,r,e,f,g,s,t⟩:=D6.1 h;obtain⟨Z,a,i,j,k,n,Y,w⟩:=Rc (l:=l) (m:=m) (d:=d) (key:=key) h c;have X:=pO (fS b);refine D6.2 ⟨i.1,j, ?_, ?_, ?_,⟨?_, ?_⟩,.inl ⟨rfl,fS b,⟨?_, ?_⟩, ?_, ?_⟩⟩
 ·show dq (Wd l m d q key).2.d=true;rw[a];exact e
 ·show (Wd l m d q key).2.c.b=(Wd l m d q key).2.d.b;rw[a,k];exact f
 ·show (Wd l m d q key).2.c.a=(Wd l m d q key).2.d.a;rw[a,n];exact g
 ·show 0≤(Wd l m d q key).2.e;omega
 ·show (Wd l m d q key).2.e≤_;omega
 ·show (0:Int)≤len p.a.a;simp only[len];omega
 ·show len p.a.a≤320;simp only[len];omega
 ·show (1:Int)≤1;omega
 ·show (1:Int)≤320;omega
theorem ndP{m:v}(o:UO m){q:S}{k:Nat}(i:k<2)(h:Za m k q)(z:q.e≤999999000){key:x}{p:N}{c:Bool} :((mY Z6 m 0 q key p c).1=m∧(mY Z6 m 0 q key p c).2.c=q.c)∨(Xl (u_ k+64) (u_ k+1664) m (mY Z6 m 0 q key p c).1∧((mY Z6 m 0 q key p c).2.c.c=(q.c.c+1) % 8∨(mY Z6 m 0 q key p c).2.c.c=(q.c.c+2) % 8)):=by
 unfold mY;cases u:(cond (!(TH q)) true (cond (!(Dc p)) true ((len key) != 16)))
 case true=>exact .inl ⟨rfl,rfl⟩
 have Z:=Vk (Uk (Uk u).2).1;cases (cond c (cond q.f (U5 q.a p) false) false)
 case true=>exact .inl ⟨rfl,rfl⟩
 have j:=rl o i h (key:=key);obtain⟨A,r,s,B,C,D,E,F⟩:=Rc (l:=Z6) (m:=m) (d:=0) (key:=key) h.ok (by omega);have w:UO (Wd Z6 m 0 q key).1:=cD o;have Y:=ncX (l:=Z6) (m:=m) (d:=0) (key:=key) h.ok Z (by omega);have n:UJ (Wd Z6 m 0 q key).1 k:=by
  rcases j with ⟨e,_⟩ | ⟨e,_⟩
  ·rw[e];exact h.sl
  ·exact fu h.sl i e (.inl (vN _))
 have y:Za (Wd Z6 m 0 q key).1 k (E_ (Wd Z6 m 0 q key) p):=by
  refine⟨Y,s.2.1.trans h.rb,s.2.2.trans h.rs, ?_, ?_,n⟩
  ·show (Wd Z6 m 0 q key).2.d.b=_;rw[r];exact h.db
  ·show (Wd Z6 m 0 q key).2.d.a=_;rw[r];exact h.ds
 cases c
 ·have t:=rl w i y (key:=key);simp only[vT,H,J];rcases j with ⟨a,b⟩ | ⟨a,b⟩
  ·rcases t with ⟨f,g⟩ | ⟨f,g⟩
   ·exact .inl ⟨f.trans a,g.trans b⟩
   ·rw[a] at f;refine .inr ⟨?_,.inl (g.trans ?_)⟩
    ·rw[a];exact f
    ·show ((Wd Z6 m 0 q key).2.c.c+1) % 8=_;rw[b]
  ·rcases t with ⟨f,g⟩ | ⟨f,g⟩
   ·refine .inr ⟨?_,.inl ?_⟩
    ·rw[f];exact a
    ·rw[g];exact b
   ·refine .inr ⟨l5 a f,.inr (g.trans ?_)⟩;show ((Wd Z6 m 0 q key).2.c.c+1) % 8=_;rw[b];omega
 ·rcases j with ⟨a,b⟩ | ⟨a,b⟩
  ·exact .inl ⟨a,b⟩
  ·exact .inr ⟨a,.inl b⟩
theorem nvA(c:Nat):∀(m i:Nat) (V:u),c<V.length→iv (Ue.nd (q V c) 0)=true→
  (Ue.nd (q (kM (λ_ v=>u2 v c (Zj (q v c))) m i V) c) 0).a=(Ue.nd (q V c) 0).a∧(m=0∨1≤(Ue.nd (q (kM (λ_ v=>u2 v c (Zj (q v c))) m i V) c) 0).c)∧∀j,j≠c→q (kM (λ_ v=>u2 v c (Zj (q v c))) m i V) j=q V j
 | 0,_,_,_,_=>⟨rfl,.inl rfl,λ_ _=>rfl⟩
 | m+1,i,V,hc,h=>by
  obtain⟨f,g,k⟩:=nD5 h;have l:q (u2 V c (Zj (q V c))) c=Zj (q V c):=O6 hc _;have a:Ue.nd (q (u2 V c (Zj (q V c))) c) 0=Uw (Ue.nd (q V c) 0):=by rw[l];rfl
  obtain⟨d,b,n⟩:=nvA c m (i+1) (u2 V c (Zj (q V c))) (by rw[vo];exact hc) (by rw[a];exact f);rw[a] at d;refine⟨d.trans k,.inr ?_,λj e=>(n j e).trans (fU (λh=>e h.symm) _)⟩;rcases b with rfl | b
  ·show 1≤(Ue.nd (q (u2 V c (Zj (q V c))) c) 0).c;rw[a];exact g
  ·exact b
theorem nlx{m a:v}(f:UO m)(g:UO a){q:CI}{k c d:Nat}(r:k<2)(h:dq q=true)(i:q.b=((u_ k+64:Nat):Int))(s:q.a=4)(j:Xl c d m a)(u:u_ k+128≤c∨d≤u_ k+64):Sf Z6 a 0 q=Sf Z6 m 0 q:=by
 obtain⟨l,Z,w⟩:=nBh h;obtain⟨t,o⟩:∃t:Nat,q.c % q.a=(t:Int):=⟨(q.c % q.a).toNat,by omega⟩;have p:WC q=((u_ k+64+16*t:Nat):Int):=by rw[l,i,o];omega
 have x:u_ k≤3072:=by unfold u_;omega
 have e:Eo Z6 a 0 (WC q) 16=Eo Z6 m 0 (WC q) 16:=by rw[p];exact nav f g (n:=16) (by omega) (by omega) (λb y z=>j b (by omega) (by omega))
 unfold Sf Oq pg;rw[e]
structure B2 (m:v) (k:Nat) (q:S) (p:G):Prop where
 rb:q.b.b=(u_ k:Int)
 rs:q.b.a=4
 db:q.d.b=((u_ k+64:Nat):Int)
 ds:q.d.a=4
 sl:UJ m k
 pb:p.b=((u_ k+128:Nat):Int)
 ps:p.a=384
 pc:p.c=4
theorem B2.rx{m:v}{k:Nat}{q:S}{p:G}(h:B2 m k q p)(ok:TH q=true):Za m k q:=⟨ok,h.rb,h.rs,h.db,h.ds,h.sl⟩
theorem g_{m a:v}{k b c:Nat}{q:S}{p:G}(h:B2 m k q p)(d:k<2)(e:Xl b c m a)(f:u_ k+64≤b∨c≤u_ k):B2 a k q p:= {h with sl:=fu h.sl d e f}
def wK(m:v)(q:S)(Z:Ue)(b:Bool):Prop:=b=true∨(Z.a=false∧((Sf Z6 m 0 q.d).2.2=true→1≤Z.c))
theorem QL{m a:v}(e:UO m)(f:UO a){k c d:Nat}{q:S}{p:G}{Z:Ue}{b:Bool}(w:wK m q Z b)(h:B2 m k q p)(ok:TH q=true)(g:k<2)(i:Xl c d m a)(j:u_ k+128≤c∨d≤u_ k+64):wK a q Z b:=by
 rcases w with w | ⟨l,n⟩
 ·exact .inl w
 ·refine .inr ⟨l, ?_⟩;rw[nlx e f g (D6.1 ok).2.2.1 h.db h.ds i j];exact n
abbrev bb(R:u)(k:Nat):S:=S.nd (q R k) 0
abbrev SM(P:u)(k:Nat):G:=G.nd (q P k) 0
abbrev CR(V:u)(k:Nat):Ue:=Ue.nd (q V k) 0
abbrev wQ(L:u)(k:Nat):Bool:=Dd (q L k) 0
def fD(n:Nat)(m:v)(R P V L:u):Prop:=∀k,k<n→B2 m k (bb R k) (SM P k)∧wK m (bb R k) (CR V k) (wQ L k)
theorem Po{j k:Nat}(h:j<k):u_ j+1792≤u_ k:=by unfold u_;omega
theorem nyF{m f:v}(p:UO m)(Y:UO f){R P V L:u}{n:Nat}(z:R.length=n)(A:n≤2)(B:V.length=n)(ok:∀k,k<n→TH (bb R k)=true)(ve:∀k,k<n→iv (CR V k)=true)(h:fD n m R P V L){c:Nat}(t:c<n){q':S}(i:q'.d=(bb R c).d)(r:aI (bb R c).b q'.b){N:Nat}(e:f=m∨(Xl (u_ c+64) (u_ c+1664) m f∧1≤N)):fD n f (u2 R c (S.enc q')) P (kM (λ_ X=>u2 X c (Zj (q X c))) N 0 V) L:=by
 intro k j;obtain⟨v1,l,Z⟩:=nvA c N 0 V (by omega) (ve c t);obtain⟨b,d⟩:=h k j;by_cases g:k=c
 ·subst g;have w:bb (u2 R k (S.enc q')) k=q':=by show S.nd (q (u2 R k (S.enc q')) k) 0=q';rw[O6 (by omega)];rfl
  rw[w];constructor
  ·refine {rb:=r.2.1.trans b.rb,rs:=r.2.2.trans b.rs,db:=by rw[i];exact b.db,ds:=by rw[i];exact b.ds,sl:= ?_,pb:=b.pb,ps:=b.ps,pc:=b.pc};rcases e with rfl | ⟨a,_⟩
   ·exact b.sl
   ·exact fu b.sl (by omega) a (.inl (vN _))
  ·rcases d with d | ⟨d,x⟩
   ·exact .inl d
   ·refine .inr ⟨v1.trans d,λs=>?_⟩;rcases l with rfl | l
    ·rcases e with rfl | ⟨_,a⟩
     ·rw[i] at s;exact x s
     ·omega
    ·exact l
 ·have y:bb (u2 R c (S.enc q')) k=bb R k:=by show S.nd (q (u2 R c (S.enc q')) k) 0=_;rw[fU (λh=>g h.symm)]
  have ev:CR (kM (λ_ X=>u2 X c (Zj (q X c))) N 0 V) k=CR V k:=by show Ue.nd (q (kM (λ_ X=>u2 X c (Zj (q X c))) N 0 V) k) 0=_;rw[Z k g]
  rw[y,ev];rcases e with rfl | ⟨a,_⟩
  ·exact⟨b,d⟩
  ·rcases y4 g with o | o
   ·have:=Po o;exact⟨g_ b (by omega) a (.inl (by omega)),QL p Y d b (ok k j) (by omega) a (.inl (by omega))⟩
   ·have:=Po o;exact⟨g_ b (by omega) a (.inr (by omega)),QL p Y d b (ok k j) (by omega) a (.inr (by omega))⟩
theorem ndS{h:z}{k a:Int}(c:(dD h k).a=4)(b:(dD h k).c=(a+1) % 8∨(dD h k).c=(a+2) % 8):1≤Xk h k a:=by unfold Xk;rw[c];rcases b with b | b<;>rw[b]<;>omega
theorem nin{l:u}{m:v}{d:Int} :∀(f:Nat) (q:CI) (p:G) (a:u) (n:Int),0≤n→n+f≤100000→(xa l m d f q p a n).2.2.2<n+f→(Sf l m d (xa l m d f q p a n).1).2.2=false
 | 0,q,p,a,n,_,_,h=>by have h:n<n+((0:Nat):Int):=h;omega
 | f+1,q,p,a,n,h0,h1,h=>by
  simp only[xa] at h ⊢;cases b:(Sf l m d q).2.2
  ·simp only[vT,H];exact b
  ·rw[b] at h;simp only[va,J] at h ⊢;rw[fg] at h ⊢;exact nin f _ _ _ _ (by omega) (by omega) (by omega)
structure Cg (h:z):Prop where
 tb:h.a.b.b=0
 ts:h.a.b.a=16
 pb:h.a.a.b=256
 ps:h.a.a.a=128
 pc:h.a.a.c=8
 wk:fD h.b.length h.h h.b h.e h.g h.i
theorem nrx{m a:v}(f:UO m)(g:UO a){R P V L:u}{n i b:Nat}(l:n≤2)(ok:∀k,k<n→TH (bb R k)=true)(h:fD n m R P V L)(c:Xl i b m a)(o:b≤1280):fD n a R P V L:=λk d=>by
 obtain⟨e,j⟩:=h k d;have p:1280≤u_ k:=by unfold u_;omega
 exact⟨g_ e (by omega) c (.inr (by omega)),QL f g j e (ok k d) (by omega) c (.inr (by omega))⟩
theorem nle{p:G}(d:PM p=true)(e:p.b=256)(f:p.a=128)(g:p.c=8){a:Int}(i:a≤128):∀(c:u) (t:x) (m:v) (o:u),(∀b∈c,0≤r b 0∧r b 0<8)→UO m→Xl 0 1280 m (DS Z6 0 p a c t m o).1
 | [],_,_,_,_,_=>Zp _ _ _
 | b::c,t,m,o,h,hm=>by
  simp only[DS];obtain⟨j,n⟩:=h b (by simp);cases (zJ Z6 m 0 (Q6 p (r b 0)) (t.take a.toNat)).2
  ·exact Zp _ _ _
  ·have q:(t.take a.toNat).length≤128:=by rw[xd];omega
   have k:Xl 0 1280 m (zJ Z6 m 0 (Q6 p (r b 0)) (t.take a.toNat)).1:=by rw[nEK d j (by omega),e,f];exact xU hm (by omega) (by omega) (by omega)
   exact l5 k (nle d e f g i c _ _ _ (λZ l=>h Z (by simp[l])) (Ew hm))
theorem ny2{m:v}(f:UO m){q:Co}{p:N}{size cut:Int}(h:Q7 q=true)(u:q.b.b=0)(Z:q.b.a=16)(c:q.a.b=256)(d:q.a.a=128)(e:q.a.c=8):Xl 0 1280 m (tY Z6 m 0 q p size cut).1∧(tY Z6 m 0 q p size cut).2.1.a.b=256∧(tY Z6 m 0 q p size cut).2.1.a.a=128∧(tY Z6 m 0 q p size cut).2.1.a.c=8:=by
 obtain⟨⟨l,g,w⟩,t4,x,y⟩:=PE.1 h;have same:Xl 0 1280 m m∧q.a.b=256∧q.a.a=128∧q.a.c=8:=⟨Zp _ _ _,c,d,e⟩;unfold tY;cases i:zi q p size cut
 case true=>exact same
 cases z:SP q (sw (e7 p).1 cut)
 case true=>exact same
 cases n:(pN q.a (sw (e7 p).1 cut)).2.2
 case false=>exact same
 cases A:(mi Z6 m 0 q.a (pN q.a (sw (e7 p).1 cut)).2.1 (e7 p).1 cut).2.2
 case false=>exact same
 have o:cut≤128:=by unfold zi at i;have:=YF.1 (Vk (Uk (Uk (Uk i).2).2).1);omega
 obtain⟨a,r⟩:=nr6 n;have j:Xl 0 1280 m (mi Z6 m 0 q.a (pN q.a (sw (e7 p).1 cut)).2.1 (e7 p).1 cut).1:=by refine nle g c d e o _ _ _ _ (λb s=>?_) f;have:=(yy.1 g).2.1 b (by rw[←r];exact Ss _ s);omega
 have k:UO (mi Z6 m 0 q.a (pN q.a (sw (e7 p).1 cut)).2.1 (e7 p).1 cut).1:=A9 _ _ _ _ _ _ _ _ f;simp only[va,J];unfold eC;generalize (VJ (mi Z6 m 0 q.a (pN q.a (sw (e7 p).1 cut)).2.1 (e7 p).1 cut).2.1 size q.d)=D;generalize (mi Z6 m 0 q.a (pN q.a (sw (e7 p).1 cut)).2.1 (e7 p).1 cut).1=M at j k ⊢;generalize (pN q.a (sw (e7 p).1 cut)).1=F at a ⊢;cases (R6 Z6 M 0 q.b (D.map tz)).2.2
 case false=>exact same
 have t:Xl 0 1280 M (R6 Z6 M 0 q.b (D.map tz)).1:=nEM k l (by omega) (by omega) (by omega);exact⟨l5 j t,by show F.b=256;rw[a];exact c,by show F.a=128;rw[a];exact d,by show F.c=8;rw[a];exact e⟩
theorem nbm(Z:Co):∀(m i:Nat) (s:G×u),(kM (P5 Z) m i s).1.b=s.1.b∧(kM (P5 Z) m i s).1.a=s.1.a∧(kM (P5 Z) m i s).1.c=s.1.c
 | 0,_,_=>⟨rfl,rfl,rfl⟩
 | m+1,i,s=>by
  have d:(Un s.1 (df (q Z.c i) 2)).1.b=s.1.b∧(Un s.1 (df (q Z.c i) 2)).1.a=s.1.a∧(Un s.1 (df (q Z.c i) 2)).1.c=s.1.c:=by
   unfold Un;cases PM s.1
   ·exact⟨rfl,rfl,rfl⟩
   ·cases PM (⟨s.1.b,s.1.a,s.1.c,s.1.d++df (q Z.c i) 2⟩:G)<;>exact⟨rfl,rfl,rfl⟩
  obtain⟨a,b,c⟩:=nbm Z m (i+1) (P5 Z i s);exact⟨a.trans d.1,b.trans d.2.1,c.trans d.2.2⟩
theorem nkj(q:Co)(n:Int):(sC q n).1.a.b=q.a.b∧(sC q n).1.a.a=q.a.a∧(sC q n).1.a.c=q.a.c:=by
 unfold sC;cases (cond (!(Q7 q)) true (!(D n 0 (len q.c))))
 ·exact nbm q n.toNat 0 (q.a,[])
 ·exact⟨rfl,rfl,rfl⟩
theorem nDO{j:Nat}{h:z}{p:N}{size cut:Int}(i:kq j h)(w:Cg h):Cg (PK h p size cut).1:=by
 have t:=nAp (l:=h.j) (m:=h.h) (d:=0) (p:=p) (size:=size) (cut:=cut) i.tx;have s:=ny2 i.mem (p:=p) (size:=size) (cut:=cut) i.tx w.tb w.ts w.pb w.ps w.pc;have g:=nmO (l:=Z6) (d:=0) (q:=h.a) (p:=p) (size:=size) (cut:=cut) i.mem;rw[←i.maps] at s g;unfold PK;cases zp h
 ·exact w
 ·exact {tb:=t.2.2.1.trans w.tb,ts:=t.2.2.2.trans w.ts,pb:=s.2.1,ps:=s.2.2.1,pc:=s.2.2.2,wk:=nrx i.mem g i.n2 (λk a=>(i.rx k a).1) w.wk s.1 (vN _)}
theorem nr2{j:Nat}{h:z}(i:kq j h)(w:Cg h):Cg (ZC h):=by
 have a:aI h.a.b (sZ h).1:=ngz (PE.1 i.tx).1.1;have c:=(ndw (n:=DB (s ((sZ h).2.2.1+(sZ h).2.2.2)) (len h.a.c)) (nrL i.tx a)).2;have b:=nkj (⟨(sZ h).1,h.a.a,h.a.c,h.a.d⟩:Co) (DB (s ((sZ h).2.2.1+(sZ h).2.2.2)) (len h.a.c));unfold ZC;cases zp h
 ·exact w
 ·refine {tb:= ?_,ts:= ?_,pb:=b.1.trans w.pb,ps:=b.2.1.trans w.ps,pc:=b.2.2.trans w.pc,wk:=w.wk}
  ·exact (congrArg I.b c).trans (a.2.1.trans w.tb)
  ·exact (congrArg I.a c).trans (a.2.2.trans w.ts)
theorem nw5{j:Nat}{h:z}(i:kq j h)(w:Cg h):Cg (Xa h):=by
 unfold Xa;cases zp h
 ·exact w
 ·refine {tb:=w.tb,ts:=w.ts,pb:=w.pb,ps:=w.ps,pc:=w.pc,wk:=λk a=>?_};have a:k<h.b.length:=a;obtain⟨c,b⟩:=w.wk k a;obtain⟨l,d,e⟩:=nor (i.ve k a);have ev:CR (h.g.map wH) k=Rb (CR h.g k):=by show Ue.nd (q (h.g.map wH) k) 0=_;rw[zx wH (show k<h.g.length by rw[i.nv];exact a)];rfl
  refine⟨c, ?_⟩;show wK h.h (bb h.b k) (CR (h.g.map wH) k) (wQ h.i k);rw[ev];rcases b with b | ⟨b,f⟩
  ·exact .inl b
  ·exact .inr ⟨e.trans b,λg=>by rw[d];exact f g⟩
theorem nzU{j:Nat}{h:z}(i:kq j h)(w:Cg h){c:Nat}(a:c<h.b.length):(bb h.b c).c.a=4∧0≤(bb h.b c).c.c:=by obtain⟨f,b,g,k,d,l⟩:=D6.1 (i.rx c a).1;obtain⟨m,n,o,e,p,q,r⟩:=gZ b;exact⟨d.trans (w.wk c a).1.ds,e⟩
theorem nvC{j:Nat}{h:z}{f:x}(i:kq j h)(u:j≤20)(w:Cg h):Cg (rC h f):=by
 unfold rC;rw[I3 i u];simp only[va,J];cases (aA f).2 != 0
 case true=>exact⟨w.tb,w.ts,w.pb,w.ps,w.pc,w.wk⟩
 cases !(lj h.f (aA f).1)
 case true=>exact⟨w.tb,w.ts,w.pb,w.ps,w.pc,w.wk⟩
 cases a:decide (Ff h f<0)
 case true=>exact⟨w.tb,w.ts,w.pb,w.ps,w.pc,w.wk⟩
 have a:=of_decide_eq_false a;have b:0≤Ff h f∧Ff h f<len h.b:=by
  rcases ya h.d (len h.b) (aA f).1 with b | b
  ·exact absurd (show Ff h f<0 by unfold Ff;omega) a
  ·exact b
 obtain⟨c,e⟩:∃c:Nat,Ff h f=(c:Int):=⟨(Ff h f).toNat,by omega⟩;have g:c<h.b.length:=by rw[e] at b;simp only[len] at b;omega
 obtain⟨s,E⟩:=i.rx c g;have n2:=i.n2;have nv:=i.nv;obtain⟨X,F⟩:=nzU i w g;obtain⟨G,y,H,W,A,I⟩:=nnj (l:=Z6) (m:=h.h) (d:=0) (key:=h.d.b.b) (p:=(aA f).1) (c:=h.m) s (by omega);have t:=ndP i.mem (show c<2 by omega) ((w.wk c g).1.rx s) (by show (S.nd (q h.b c) 0).e≤_;omega) (key:=h.d.b.b) (p:=(aA f).1) (c:=h.m);have n:ia h f=mY Z6 h.h 0 (bb h.b c) h.d.b.b (aA f).1 h.m:=by unfold ia;rw[e,i.maps,eR]
 have B:UO (ia h f).1:=by rw[n];exact nl6 i.mem
 have o:dD (DV h f) (c:Int)=(ia h f).2.c:=by unfold dD DV;rw[e,eR];show (S.nd (q (u2 h.b c (S.enc (ia h f).2)) c) 0).c=_;rw[O6 g];rfl
 have C:=nyF i.mem B (R:=h.b) (P:=h.e) (V:=h.g) (L:=h.i) rfl n2 nv (λk Z=>(i.rx k Z).1) (λk Z=>i.ve k Z) w.wk g (q':=(ia h f).2) (by rw[n];exact y) (by rw[n];exact A) (N:=Xk (DV h f) (c:Int) (bb h.b c).c.c) (by
  rw[←n] at t;rcases t with ⟨Y,_⟩ | ⟨Y,D⟩
  ·exact .inl Y
  ·refine .inr ⟨Y,ndS ?_ (by rw[o];exact D)⟩;rw[o,n];exact W.trans X)
 simp only[J];unfold Nc;rw[e,eR];refine {tb:=w.tb,ts:=w.ts,pb:=w.pb,ps:=w.ps,pc:=w.pc,wk:= ?_};show fD (u2 h.b (Ff h f).toNat (S.enc (ia h f).2)).length (ia h f).1 (u2 h.b (Ff h f).toNat (S.enc (ia h f).2)) h.e (kM (λ_ v=>u2 v c (Zj (q v c))) (Xk (DV h f) (c:Int) (r (q h.b c) 6)) 0 h.g) h.i;rw[e,eR,vo];exact C
def npR(j:Nat)(h:z)(q:Nat)(o:z):Prop:=vi j h q o∧fD h.b.length o.h o.b h.e o.g h.i
theorem nBK{j:Nat}{h:z}(i:kq j h)(s:j≤20)(w:Cg h):∀(m Z:Nat) (o:z),Z+m=h.b.length→npR j h Z o→npR j h (Z+m) (kM (qK h) m Z o)
 | 0,_,_,_,ho=>ho
 | m+1,Z,o,hm,ho=>by
  obtain⟨⟨c,g,t,u⟩,x⟩:=ho;have st:=B4 i s 1 Z;have e:Z<h.b.length:=by omega
  obtain⟨y,K⟩:=i.rx Z e;have n2:=i.n2;have nv:=i.nv;have M:o.g.length=h.g.length:=c.2.2.2.1;have B:o.b.length=h.b.length:=c.2.2.1;have C:q o.b Z=q h.b Z:=c.2.2.2.2 Z (vN _);have f:bb o.b Z=bb h.b Z:=congrArg (λY=>S.nd Y 0) C;obtain⟨D,O⟩:=nzU i w e;obtain⟨E,F,G,Q,W,H,T,U⟩:=Rc (l:=h.j) (m:=o.h) (d:=0) (key:=h.d.b.b) y (by omega);have X:=rl g (show Z<2 by omega) ((x Z e).1.rx (by rw[f];exact y)) (key:=h.d.b.b);rw[f,←i.maps] at X;have A:UO (aj h o Z).1:=cD g;have b:dD (m0 h o Z) (Z:Int)=(aj h o Z).2.c:=by show (S.nd (q (u2 o.b Z (S.enc (aj h o Z).2)) (u1 (Z:Int))) 0).c=_;rw[eR,O6 (by omega)];rfl
  have I:=nyF g A (R:=o.b) (P:=h.e) (V:=o.g) (L:=h.i) (n:=h.b.length) B n2 (by omega) (λk a=>(t k (by omega)).1) (λk a=>u k (by omega)) x e (q':=(aj h o Z).2) (by rw[f];exact F) (by rw[f];exact G) (N:=Xk (m0 h o Z) (Z:Int) (r (q h.b Z) 6)) (by
   rcases X with ⟨p,_⟩ | ⟨p,J⟩
   ·exact .inl p
   ·refine .inr ⟨p,ndS ?_ (.inl (by rw[b];exact J))⟩;rw[b];exact H.trans D)
  have this:=nBK i s w m (Z+1) (qK h Z o) (by omega) ⟨?_, ?_⟩
  ·rw[show Z+(m+1)=Z+1+m by omega];exact this
  ·refine⟨XE c,A,zd (P:=λY=>TH (S.nd Y 0)=true∧(S.nd Y 0).e≤640*((j+1:Nat):Int)) t ⟨E,by rw[oP];show (Wd h.j o.h 0 (S.nd (q h.b Z) 0) h.d.b.b).2.e≤_;omega⟩,λk a=>?_⟩
   have a:k<(u2 o.b Z (S.enc (aj h o Z).2)).length:=a;rw[vo] at a;exact Vt Z _ 0 o.g (by omega) (λk a=>u k (by omega)) k (by omega)
  ·show fD h.b.length (aj h o Z).1 (u2 o.b Z (S.enc (aj h o Z).2)) h.e (kM (λ_ v=>u2 v Z (Zj (q v Z))) (Xk (m0 h o Z) (Z:Int) (r (q h.b Z) 6)) 0 o.g) h.i;exact I
theorem nC_{j:Nat}{h:z}(i:kq j h)(e:j≤20)(w:Cg h):Cg (Ys h):=by have f:=ll i;obtain⟨⟨⟨b,l,g,m,n⟩,p,q,r⟩,k⟩:=nBK i e w h.b.length 0 h (by omega) ⟨⟨⟨rfl,rfl,rfl,rfl,λ_ _=>rfl⟩,i.mem,f.rx,i.ve⟩,w.wk⟩;unfold Ys;rw[I3 i e,H];generalize kM (qK h) h.b.length 0 h=o at*;have a:=congrArg z.a b;have c:=congrArg z.e b;have d:=congrArg z.i b;have a:o.a=h.a:=a;have c:o.e=h.e:=c;have d:o.i=h.i:=d;refine {tb:=by rw[a];exact w.tb,ts:=by rw[a];exact w.ts,pb:=by rw[a];exact w.pb,ps:=by rw[a];exact w.ps,pc:=by rw[a];exact w.pc,wk:= ?_};rw[c,d,g];exact k
theorem nta{m:v}(e:UO m){q:S}{p:G}{k:Nat}(n:k<2)(ok:TH q=true)(f:PM p=true)(h:B2 m k q p){a:u}{b:Int}(Z:0≤b∧b≤1000):B2 (sO Z6 m 0 q p a b).1 k (sO Z6 m 0 q p a b).2.1 (sO Z6 m 0 q p a b).2.2.1∧Xl (u_ k) (u_ k+64) m (sO Z6 m 0 q p a b).1∧((sO Z6 m 0 q p a b).2.2.2.2<b→(Sf Z6 (sO Z6 m 0 q p a b).1 0 (sO Z6 m 0 q p a b).2.1.d).2.2=false):=by
 obtain⟨C,X,Y,E,F,W,H⟩:=D6.1 ok;obtain⟨w,I,g,o,J,r,s⟩:=ndL (l:=Z6) (m:=m) (d:=0) (a:=a) (b:=b) ok f;have x:=Pq (l:=Z6) (d:=0) (q:=q) (p:=p) (a:=a) (b:=b) e;have y:=(D6.1 w).2.2.1;have i:(cond (!(TH q)) true (cond (!(PM p)) true (!(D b 0 1000))))=false:=by rw[ok,f,show D b 0 1000=true from dx.2 Z];rfl
 have z:(sO Z6 m 0 q p a b).1=(HJ Z6 m 0 q.b (xa Z6 m 0 b.toNat q.d p a 0).2.1).1:=by unfold sO;rw[i];rfl
 have ev:(sO Z6 m 0 q p a b).2.1.d=(xa Z6 m 0 b.toNat q.d p a 0).1:=by unfold sO;rw[i];rfl
 have A:(sO Z6 m 0 q p a b).2.2.2.2=(xa Z6 m 0 b.toNat q.d p a 0).2.2.2:=by unfold sO;rw[i];rfl
 obtain⟨⟨K,L,M⟩,c⟩:=ni2 Z6 m 0 b.toNat q.d p a 0 Y f;obtain⟨t,j⟩:=ngh c.1 n (c.2.1.trans h.pb) (c.2.2.1.trans h.ps) (c.2.2.2.trans h.pc) e h.rb h.rs h.sl;rw[←z] at t j;refine⟨{rb:=o.2.1.trans h.rb,rs:=o.2.2.trans h.rs,db:=r.trans h.db,ds:=s.trans h.ds,sl:=t,pb:=g.2.1.trans h.pb,ps:=g.2.2.1.trans h.ps,pc:=g.2.2.2.trans h.pc},j,λB=>?_⟩;have:=nlx e x n y (r.trans h.db) (s.trans h.ds) j (.inr (by omega));rw[this,ev];rw[A] at B;exact nin b.toNat q.d p a 0 (vP 0) (by omega) (by omega)
theorem Y3{m a:v}(p:UO m)(Y:UO a){R P V L b d f L':u}{n:Nat}(D:n≤2)(ok:∀k,k<n→TH (bb R k)=true)(h:fD n m R P V L){c:Nat}(E:c<n)(e:∀k,k≠c→q b k=q R k∧q d k=q P k∧q f k=q V k∧q L' k=q L k)(g:Xl (u_ c) (u_ c+64) m a)(t:B2 a c (bb b c) (SM d c))(Z:wK a (bb b c) (CR f c) (wQ L' c)):fD n a b d f L':=by
 intro k j;by_cases l:k=c
 ·subst l;exact⟨t,Z⟩
 ·obtain⟨X,w,x,y⟩:=e k l;obtain⟨i,s⟩:=h k j;have z:bb b k=bb R k:=congrArg (λr=>S.nd r 0) X;have A:SM d k=SM P k:=congrArg (λr=>G.nd r 0) w;have B:CR f k=CR V k:=congrArg (λr=>Ue.nd r 0) x;have C:wQ L' k=wQ L k:=congrArg (λr=>Dd r 0) y;rw[z,A,B,C];rcases y4 l with o | o
  ·have:=Po o;exact⟨g_ i (by omega) g (.inl (by omega)),QL p Y s i (ok k j) (by omega) g (.inl (by omega))⟩
  ·have:=Po o;exact⟨g_ i (by omega) g (.inr (by omega)),QL p Y s i (ok k j) (by omega) g (.inr (by omega))⟩
theorem ox{l:u}{c:Nat}(x:List DC){k:Nat}(h:k≠c):q (u2 l c x) k=q l k:=fU (λe=>h e.symm) _
theorem ntQ{j:Nat}{h:z}(i:kq j h){ew:Int}(r:1≤ew∧ew≤1000):∀(m Z:Nat) (o:z×Int),Z+m=h.b.length→hI j h Z o.1→fD h.b.length o.1.h o.1.b o.1.e o.1.g o.1.i→fD h.b.length (kM (dj ew) m Z o).1.h (kM (dj ew) m Z o).1.b (kM (dj ew) m Z o).1.e (kM (dj ew) m Z o).1.g (kM (dj ew) m Z o).1.i
 | 0,_,_,_,_,w=>w
 | m+1,Z,(o,t),hm,c,w=>by
  have st:hI j h (Z+1) (dj ew Z (o,t)).1:=yj (ew:=ew) 1 Z (o,t) (by omega) c;have c:hI j h Z o:=c;have w:fD h.b.length o.h o.b o.e o.g o.i:=w;have f:Z<h.b.length:=by omega
  have n2:=i.n2;have nr:=c.nr;have np:=c.np;have nv:=c.nv;have nb:=c.nb;have D:TH (bb o.b Z)=true:=(c.rx Z (by omega)).1;have E:PM (SM o.e Z)=true:=c.po Z (by omega);have v1:iv (CR o.g Z)=true:=c.ve Z (by omega);have F:o.j=Z6:=(congrArg z.j c.eq).trans i.maps;obtain⟨X,H,N⟩:=njo v1;obtain⟨s,I⟩:=w Z f;obtain⟨l,n,u⟩:=nta c.mem (show Z<2 by omega) D E s (a:=o.k) (b:=ew) ⟨by omega,r.2⟩;have v:VC o Z ew=sO Z6 o.h 0 (bb o.b Z) (SM o.e Z) o.k ew:=by unfold VC;rw[F]
  rw[←v] at l n u;have y:UO (VC o Z ew).1:=by rw[v];exact Pq c.mem
  have ok:∀k,k<h.b.length→TH (bb o.b k)=true:=λk d=>(c.rx k (by omega)).1;have p:∀x:S,bb (u2 o.b Z (S.enc x)) Z=x:=λx=>by show S.nd (q (u2 o.b Z (S.enc x)) Z) 0=x;rw[O6 (by omega)];rfl
  have Y:∀x:G,SM (u2 o.e Z (G.enc x)) Z=x:=λx=>by show G.nd (q (u2 o.e Z (G.enc x)) Z) 0=x;rw[O6 (by omega)];rfl
  have A:∀x:Ue,CR (u2 o.g Z (Ue.enc x)) Z=x:=λx=>by show Ue.nd (q (u2 o.g Z (Ue.enc x)) Z) 0=x;rw[O6 (by omega)];rfl
  have J:∀b:Bool,wQ (u2 o.i Z [.bool b]) Z=b:=λb=>by show Dd (q (u2 o.i Z [.bool b]) Z) 0=b;rw[O6 (by omega)];rfl
  have B:∀(b:Bool) (x:List DC) (k:Nat),k≠Z→q (cond b (u2 o.i Z x) o.i) k=q o.i k:=λb x k d=>by
   cases b
   ·rfl
   ·exact ox x d
  have step:fD h.b.length (dj ew Z (o,t)).1.h (dj ew Z (o,t)).1.b (dj ew Z (o,t)).1.e (dj ew Z (o,t)).1.g (dj ew Z (o,t)).1.i:=by
   unfold dj;dsimp only;cases e:(!(cond (bx o Z).2 true (Dd (q o.i Z) 0)))
   ·cases K:decide ((VC o Z ew).2.2.2.2<ew)
    ·refine Y3 c.mem y n2 ok w f (λk d=>⟨ox _ d,ox _ d,ox _ d,B _ _ k d⟩) n ?_ (.inl ?_)
     ·show B2 (VC o Z ew).1 Z (bb (u2 o.b Z _) Z) (SM (u2 o.e Z _) Z);rw[p,Y];exact l
     ·show wQ (cond (bx o Z).2 (u2 o.i Z [.bool true]) o.i) Z=true;revert e;cases (bx o Z).2
      ·intro e;exact Vk e
      ·intro _;exact J true
    ·obtain⟨O,P,L⟩:=nsd X;refine Y3 c.mem y n2 ok w f (λk d=>⟨ox _ d,ox _ d,ox _ d,ox _ d⟩) n ?_ (.inr ⟨?_,λg=>?_⟩)
     ·show B2 (VC o Z ew).1 Z (bb (u2 o.b Z _) Z) (SM (u2 o.e Z _) Z);rw[p,Y];exact l
     ·show (CR (u2 o.g Z (Ue.enc (eY (bx o Z).1))) Z).a=false;rw[A];exact L
     ·have g:(Sf Z6 (VC o Z ew).1 0 (bb (u2 o.b Z (S.enc (VC o Z ew).2.1)) Z).d).2.2=true:=g;rw[p,u (of_decide_eq_true K)] at g;cases g
   ·have C:(bx o Z).2=false:=by
     revert e;cases (bx o Z).2
     ·intro _;rfl
     ·intro e;cases e
    have M:(bx o Z).1=CR o.g Z:=H C;refine Y3 c.mem c.mem n2 ok w f (λk d=>⟨rfl,rfl,ox _ d,B _ _ k d⟩) (Zp _ _ _) s ?_;show wK o.h (bb o.b Z) (CR (u2 o.g Z (Ue.enc (bx o Z).1)) Z) (wQ (cond (bx o Z).2 (u2 o.i Z [.bool true]) o.i) Z);rw[A,M,C];exact I
  exact ntQ i r m (Z+1) (dj ew Z (o,t)) (by omega) st step
theorem ni4{j:Nat}{h:z}{ew:Int}(i:kq j h)(w:Cg h):Cg (uf h ew).1:=by
 have d:=ll i;have c:hI j h 0 h:=
  {eq:=rfl,mem:=i.mem,nr:=rfl,np:=i.np,nv:=i.nv,nb:=i.nb,rx:=d.rx,po:=λk b=>i.po k (by rw[←i.np];exact b),ve:=λk b=>i.ve k (by rw[←i.nv];exact b)
   s1:=by have:=i.s1;omega
   s2:=λr e=>by have:=i.s2 r e;omega}
 unfold uf;cases f:(cond (!(zp h)) true (!(D ew 1 1000)))
 case true=>exact w
 have g:=YF.1 (Vk (Uk f).2);have s1:=yj (ew:=ew) h.b.length 0 (h,0) (by omega) c;have s2:=ntQ i g h.b.length 0 (h,0) (by omega) c w.wk;simp only[J];generalize (kM (dj ew) h.b.length 0 (h,0)).1=o at*;have a:=congrArg z.a s1.eq;have a:o.a=h.a:=a;refine {tb:=by rw[a];exact w.tb,ts:=by rw[a];exact w.ts,pb:=by rw[a];exact w.pb,ps:=by rw[a];exact w.ps,pc:=by rw[a];exact w.pc,wk:= ?_};rw[s1.nr];exact s2
theorem gL{m:v}{k:Nat}(h:(List.range 4).all (λs=>(List.range 16).all (λi=>decide (xl m (u_ k+16*s+i)=(zN k s)[i]?)))=true):UJ m k:=λs a=>by refine⟨s,a,λi b=>?_⟩;have:=vG.1 (vG.1 h s (List.mem_range.2 a)) i (List.mem_range.2 b);exact of_decide_eq_true this
theorem ngR:UJ (tG 1) 0:=gL (by kernel_rfl)
theorem nDt:UJ (tG 2) 0:=gL (by kernel_rfl)
theorem nBm:UJ (tG 2) 1:=gL (by kernel_rfl)
theorem naS:(Sf Z6 (tG 1) 0 (T7 ((0:Nat):Int))).2.2=false:=by kernel_rfl
theorem nvo:(Sf Z6 (tG 2) 0 (T7 ((0:Nat):Int))).2.2=false:=by kernel_rfl
theorem naC:(Sf Z6 (tG 2) 0 (T7 ((1:Nat):Int))).2.2=false:=by kernel_rfl
theorem ngQ{M m:v}{k:Nat}(e:k<2)(f:UJ M k):B2 M k (WB (k:Int) (Hc m (k:Int)).2.1 0) (Hc m (k:Int)).2.2.1:=by
 obtain⟨g,i,h⟩:=nEq e;have b:=neZ (l:=Z6) (m:=m) (d:=0) (p:=oN (k:Int)) g;have a:=ns4 (l:=Z6) (m:=m) (d:=0) (r:=PH (k:Int)) h;have c:(PH (k:Int)).b=(u_ k:Int)∧(T7 (k:Int)).b=((u_ k+64:Nat):Int)∧(oN (k:Int)).b=((u_ k+128:Nat):Int)∧(oN (k:Int)).a=384∧(oN (k:Int)).c=4:=by rcases (show k=0∨k=1 by omega) with rfl | rfl<;>exact⟨by kernel_rfl,by kernel_rfl,by kernel_rfl,by kernel_rfl,by kernel_rfl⟩
 exact {rb:=b.2.1.trans c.1,rs:=b.2.2,db:=c.2.1,ds:=rfl,sl:=f,pb:=a.2.1.trans c.2.2.1,ps:=a.2.2.1.trans c.2.2.2.1,pc:=a.2.2.2.trans c.2.2.2.2}
theorem Su{M:v}{r:I}{k:Nat}{Z:Ue}{b:Bool}(c:Z.a=false)(d:(Sf Z6 M 0 (T7 (k:Int))).2.2=false):wK M (WB (k:Int) r 0) Z b:=by refine .inr ⟨c,λa=>?_⟩;have a:(Sf Z6 M 0 (T7 (k:Int))).2.2=true:=a;rw[d] at a;cases a
theorem jk{l:u}{k:Nat}(h:l.length=k)(x:List DC):q (l++[x]) k=x:=by subst h;simp[q]
theorem nFO{l:u}{k:Nat}(h:k<l.length)(x:List DC):q (l++[x]) k=q l k:=by simp only[q,vL,xJ h]
theorem YG{l:u}{k:Nat}(h:l.length=k)(Z:S):bb (l++[S.enc Z]) k=Z:=by show S.nd (q (l++[S.enc Z]) k) 0=Z;rw[jk h];rfl
theorem F8{l:u}{k:Nat}(h:l.length=k)(Z:G):SM (l++[G.enc Z]) k=Z:=by show G.nd (q (l++[G.enc Z]) k) 0=Z;rw[jk h];rfl
theorem rj{l:u}{k:Nat}(h:l.length=k)(Z:Ue):CR (l++[Ue.enc Z]) k=Z:=by show Ue.nd (q (l++[Ue.enc Z]) k) 0=Z;rw[jk h];rfl
theorem nwp{l:u}{k:Nat}(h:k<l.length)(x:List DC):bb (l++[x]) k=bb l k:=by show S.nd (q (l++[x]) k) 0=_;rw[nFO h]
theorem nnm{l:u}{k:Nat}(h:k<l.length)(x:List DC):SM (l++[x]) k=SM l k:=by show G.nd (q (l++[x]) k) 0=_;rw[nFO h]
theorem nk7{l:u}{k:Nat}(h:k<l.length)(x:List DC):CR (l++[x]) k=CR l k:=by show Ue.nd (q (l++[x]) k) 0=_;rw[nFO h]
theorem nc9:tG 1=(Hc (Rz 38) ((0:Nat):Int)).1:=by rw[tG,tG]
theorem nk8:tG 2=(Hc (tG 1) ((1:Nat):Int)).1:=by rw[tG]
theorem nyg{σ:Type}(f:Nat→σ→σ)(x:σ):kM f 1 0 x=f 0 x:=rfl
theorem nc3{σ:Type}(f:Nat→σ→σ)(x:σ):kM f 2 0 x=f 1 (f 0 x):=rfl
theorem nsv{f:QD}{s:se}{co:Bool}{v:Ue}{c:Nat}(b:c=1∨c=2)(a:v.a=false):fD c (kM (A_ v) c 0 (cE f s co)).h (kM (A_ v) c 0 (cE f s co)).b (kM (A_ v) c 0 (cE f s co)).e (kM (A_ v) c 0 (cE f s co)).g (kM (A_ v) c 0 (cE f s co)).i:=by
 rcases b with rfl | rfl
 ·rw[nyg];unfold A_ cE;dsimp only;rw[←nc9];intro k d;obtain rfl:k=0:=by omega
  rw[YG (k:=0) (by rfl),F8 (k:=0) (by rfl),rj (k:=0) (by rfl)];exact⟨ngQ (by omega) ngR,Su a naS⟩
 ·rw[nc3];unfold A_ cE;dsimp only;rw[←nc9,←nk8];intro k d;rcases (show k=0∨k=1 by omega) with rfl | rfl
  ·rw[nwp (x1),nnm (x1),nk7 (x1),YG (k:=0) (by rfl),F8 (k:=0) (by rfl),rj (k:=0) (by rfl)];exact⟨ngQ (by omega) nDt,Su a nvo⟩
  ·rw[YG (k:=1) (by rfl),F8 (k:=1) (by rfl),rj (k:=1) (by rfl)];exact⟨ngQ (by omega) nBm,Su a naC⟩
theorem nAx{a b:Int} :(mW a b).1.a=false:=by unfold mW sN;dsimp only;cases iv (⟨a,b,0,0,false,false⟩:Ue)<;>rfl
theorem nm8:TW.a.b=256∧TW.a.a=128∧TW.a.c=8:=⟨by kernel_rfl,by kernel_rfl,by kernel_rfl⟩
theorem nhc{h:z}(e:mO h):Cg h:=by
 obtain⟨p,S,⟨q,f,s,co,n,t,r,u,g,rfl⟩,rfl,x,y⟩:=e;obtain⟨⟨Z,A⟩,B,C,i,d⟩:=nBW g;obtain⟨c,rfl⟩:∃c:Nat,q=(c:Int):=⟨q.toNat,by omega⟩;rw[eR] at d;have w:=ns0 (f:=f) (s:=s) (co:=co) i c 0 (cE f s co) (by omega) {eq:=rfl,mem:=rfl,nr:=rfl,np:=rfl,nv:=rfl,nb:=rfl,rx:=(λk a=>absurd a (vO k)),po:=(λk a=>absurd a (vO k)),ve:=(λk a=>absurd a (vO k))};have k:=nsv (f:=f) (s:=s) (co:=co) (v:=(mW n t).1) (c:=c) (by omega) nAx;rw[vH,←d] at w;rw[←d] at k;generalize (Aw (c:Int) f s co n t).1=o at*;have b:o.a=TW:=congrArg z.a w.eq;obtain⟨j,l,m⟩:=nm8;refine {tb:= ?_,ts:= ?_,pb:= ?_,ps:= ?_,pc:= ?_,wk:= ?_}
 ·show o.a.b.b=0;rw[b];rfl
 ·show o.a.b.a=16;rw[b];rfl
 ·show o.a.a.b=256;rw[b];exact j
 ·show o.a.a.a=128;rw[b];exact l
 ·show o.a.a.c=8;rw[b];exact m
 ·show fD o.b.length o.h o.b o.e o.g o.i;rw[w.nr];exact k
theorem nD2{j:Nat}{h:z}(i:kq j h)(b:j≤20)(w:Cg h)(a:hE):Cg (WW h a).1:=by
 unfold WW;cases a.c==0
 case true=>exact nDO i w
 cases a.c==1
 case true=>exact nr2 i w
 cases a.c==2
 case true=>exact nvC i b w
 cases a.c==3
 case true=>exact nC_ i b w
 cases a.c==4
 case true=>exact nw5 i w
 cases a.c==5
 case true=>exact ni4 i w
 exact w
theorem nBz{j:Nat}{h:z}(i:kq j h)(c:j≤20)(a:hE):(WW h a).1.b.length=h.b.length:=by
 have d:=(Tk i c).2.2;unfold WW;cases a.c==0
 case true=>
  show (PK h a.b a.a a.e).1.b.length=_;unfold PK;cases zp h<;>rfl
 cases a.c==1
 case true=>
  show (ZC h).b.length=_;unfold ZC;cases zp h<;>rfl
 cases a.c==2
 case true=>
  show (rC h a.d).b.length=_;unfold rC;cases zp h
  ·rfl
  cases (aA a.d).2 != 0
  case true=>rfl
  cases !(lj h.f (aA a.d).1)
  case true=>rfl
  cases decide (Ff h a.d<0)
  case true=>rfl
  exact vo ..
 cases a.c==3
 case true=>
  obtain⟨_,_,_,b,_⟩:=nvP (h:=h);exact b
 cases a.c==4
 case true=>
  show (Xa h).b.length=_;unfold Xa;cases zp h<;>rfl
 cases a.c==5
 case true=>
  obtain⟨_,_,_,_,b,_⟩:=nlK (h:=h) (ew:=a.f) d;exact b
 rfl
theorem nkh{v:Ue}(h:iv v=true)(a:v.a=false)(d:1≤v.c):0≤iy v:=by
 obtain⟨i,j,k,l,m,b⟩:=Nl.1 h;have f:(v.c==0)=false:=by rw[beq_eq_false_iff_ne];omega
 unfold iy yw;simp only[id,h,a,f,va,J];cases g:v.f
 ·have c:due v=false:=by rw[g,a] at b;simpa using b.symm
  have:¬(v.e≤v.c∨v.d≤v.b):=λe=>by rw[zj.2 ⟨d,e⟩] at c;cases c
  rw[J,fg];omega
 ·exact vP 0
theorem hrK{m:v}{q:S}{Z:Ue}{b:Bool}(w:wK m q Z b)(ok:TH q=true)(c:iv Z=true):(cond (SV Z6 m 0 q) (cond (!b) (decide (iy Z<0)) false) false)=false:=by
 rcases w with rfl | ⟨d,e⟩
 ·cases SV Z6 m 0 q<;>rfl
 ·cases a:SV Z6 m 0 q
  ·rfl
  ·unfold SV uw at a;simp only[id,ok,va,J] at a;have:=nkh c d (e a);rw[ja (show ¬iy Z<0 by omega)];cases b<;>rfl
def Hq(n:Bool→α)(acz:Int→u→u→Int→Int→Int→Int→Int→Int→Int→u→u→Int→u→u→u→u→Int→Bool→u→u→u→x→u→u→Bool→u→u→u→Int→Int→Int→Int→Int→Int→α)(c:u)(Y:qb α)(i:Int)(h Z:u)(j abA w ab9 y acM ac6:Int)(B C:u)(D:Int)(o E F aep:u)(H:Int)(aez:Bool)(J K L:u)(M:x)(N O:u)(P:Bool)(Q R S:u)(T U V W X:Int):α:=let d:z:=(⟨(⟨h⟩:v),Z,(⟨(⟨j,abA,w,ab9⟩:I),(⟨y,acM,ac6,B⟩:G),C,D⟩:Co),o,E,F,aep,(⟨H,aez,J⟩:QD),(⟨K,(⟨L⟩:mB),(⟨M,N⟩:iI)⟩:se),O,P,Q,R,S,(⟨T,U,V,W,X⟩:Pa)⟩:z);let a:z:=(WW d (hE.nd (q c (u1 i)) 0)).1;let p:u:=a.b;let k:Int:=len p;let aa9:u:=a.g;let r:u:=a.i;let e:Co:=a.a;let f:I:=e.b;let g:G:=e.a;let l:QD:=a.f;let m:se:=a.d;let s:iI:=m.b;let b:Pa:=a.c;cond (i<len c) (cond (t (t true (A i c)) (cq d (hE.nd (q c (u1 i)) 0))) (cond (cond (k != (len o)) true (cond ((len aa9) != k) true ((len r) != k))) (n false) (acz i a.h.a a.j f.b f.a f.d f.c g.b g.a g.c g.d e.c e.d p a.e aa9 r l.b l.c l.a m.c m.a.a s.b s.a a.k a.m a.l a.n a.o b.a b.b b.e b.c b.d 0)) lf) (cond (t true (Aa d)) (n (zp d)) lf)
def jv(j:Bool→α)(l:qb α)(i:Int)(W e:u)(m n o p Y r V:Int)(b U:u)(Z:Int)(a X c d:u)(w:Int)(y:Bool)(z T B:u)(C:x)(D E:u)(F:Bool)(G H I:u)(J K L M N:Int)(O:Int→α)(k:Int):α:=let f:Bool:=SV e (⟨W⟩:v) 0 (S.nd (q a (u1 k)) 0);let g:Bool:= !(Dd (q d (u1 k)) 0);let h:Bool:=t (t true (A k a)) (A k d);cond (k<len a) (cond (pk f (pk g (t h (A k c)) h) (t true (A k a))) (cond (cond f (cond g (decide (iy (Ue.nd (q c (u1 k)) 0)<0)) false) false) (j false) (O (s (k+1)))) lf) (l (s (i+1)) W e m n o p Y r V b U Z a X c d w y z T B C D E F G H I J K L M N)
def mw(b:Bool→α)(N:Nat)(c:qb α)(i:Int)(Y d:u)(e f g h j k l:Int)(a m:u)(n:Int)(o p q r:u)(s:Int)(t:Bool)(Z v w:u)(y:x)(z A:u)(B:Bool)(C D E:u)(F G H I J:Int)(K:Nat):Int→α:=bW (λ_=>lf) (jv lf b c i Y d e f g h j k l a m n o p q r s t Z v w y z A B C D E F G H I J) K
theorem nga(b:Bool→α)(N:Nat)(c:qb α)(i:Int)(Y d:u)(e f g h j l m:Int)(a n:u)(o:Int)(p q r s:u)(t:Int)(Z:Bool)(v w y:u)(z:x)(A B:u)(C:Bool)(D E F:u)(G H I J K:Int)(L:Nat)(k:Int):mw lf b N c i Y d e f g h j l m a n o p q r s t Z v w y z A B C D E F G H I J K (L+1) k=jv lf b c i Y d e f g h j l m a n o p q r s t Z v w y z A B C D E F G H I J K (mw lf b N c i Y d e f g h j l m a n o p q r s t Z v w y z A B C D E F G H I J K L) k:=rfl
def Sc(b:Bool→α)(N:Nat)(d:u)(e:Nat):qb α:=bW (λ_ _ _ _ _ _ _ _ _ _ _ _ _ _ _ _ _ _ _ _ _ _ _ _ _ _ _ _ _ _ _ _ _ _=>lf) (λc=>Hq lf b (λi x f g h j k l m n a o p q r s t Z v w y z A B C D E F G H I J K L=>mw lf b N c i x f g h j k l m n a o p q r s t Z v w y z A B C D E F G H I J K L N) d c) e
theorem nbc(a:Bool→α)(N:Nat)(c:u)(d:Nat)(i:Int)(h f:u)(b g j k l m n:Int)(o p:u)(q:Int)(r s t aa2:u)(v:Int)(w:Bool)(y z A:u)(B:x)(C D:u)(E:Bool)(F G H:u)(I J K L M:Int):Sc lf a N c (d+1) i h f b g j k l m n o p q r s t aa2 v w y z A B C D E F G H I J K L M=Hq lf a (λi ab_ O P Q R S T U V e W X Y Z V0 V1 XO XP XQ XR XS XT XU XV XW XX XY XZ X0 X1 X2 X3 X4=>mw lf a N (Sc lf a N c d) i ab_ O P Q R S T U V e W X Y Z V0 V1 XO XP XQ XR XS XT XU XV XW XX XY XZ X0 X1 X2 X3 X4 N) c (Sc lf a N c d) i h f b g j k l m n o p q r s t aa2 v w y z A B C D E F G H I J K L M:=rfl
def XD(lf:α)(b:Bool→α)(c:u→Int→u→u→Int→Int→Int→Int→Int→Int→Int→u→u→Int→u→u→u→u→Int→Bool→u→u→u→x→u→u→Bool→u→u→u→Int→Int→Int→Int→Int→α)(a:u):α:=cond (QZ a) (b true) (c ((Vf a).2) 0 ((((Vf a).1).h).a) (((Vf a).1).j) (((((Vf a).1).a).b).b) (((((Vf a).1).a).b).a) (((((Vf a).1).a).b).d) (((((Vf a).1).a).b).c) (((((Vf a).1).a).a).b) (((((Vf a).1).a).a).a) (((((Vf a).1).a).a).c) (((((Vf a).1).a).a).d) ((((Vf a).1).a).c) ((((Vf a).1).a).d) (((Vf a).1).b) (((Vf a).1).e) (((Vf a).1).g) (((Vf a).1).i) ((((Vf a).1).f).b) ((((Vf a).1).f).c) ((((Vf a).1).f).a) ((((Vf a).1).d).c) (((((Vf a).1).d).a).a) (((((Vf a).1).d).b).b) (((((Vf a).1).d).b).a) (((Vf a).1).k) (((Vf a).1).m) (((Vf a).1).l) (((Vf a).1).n) (((Vf a).1).o) ((((Vf a).1).c).a) ((((Vf a).1).c).b) ((((Vf a).1).c).e) ((((Vf a).1).c).c) ((((Vf a).1).c).d))
def bG(b:Bool→α)(N:Nat)(a:u):α:=XD lf b (λc=>Sc lf b N c N) a
theorem njT(l:Bool→α)(c:u)(V:IJ (.sl [.int .u8]) (.sl c))(M:cK ((.sl [.int .u8])::([])) (.sl c::([]))=true):∃N,bG lf l N c=l true:=by
 have H:=(Nh V).1;obtain⟨p,B,r,C⟩:=txt H;refine⟨23, ?_⟩;unfold bG XD;generalize Vf c=D at p B r C ⊢;obtain⟨h,e⟩:=D;dsimp only at p B r C ⊢;cases QZ c
 case true=>rfl
 rw[J];have T:=(nsw p).1;have w0:=nhc p;have X:∀(U:qb α) (t:Int) (j:Nat) (y:z),kq j y→Cg y→∀(m N k:Nat),m<N→k+m=y.b.length→mw lf l 23 U t y.h.a y.j y.a.b.b y.a.b.a y.a.b.d y.a.b.c y.a.a.b y.a.a.a y.a.a.c y.a.a.d y.a.c y.a.d y.b y.e y.g y.i y.f.b y.f.c y.f.a y.d.c y.d.a.a y.d.b.b y.d.b.a y.k y.m y.l y.n y.o y.c.a y.c.b y.c.e y.c.c y.c.d N (k:Int)=U (s (t+1)) y.h.a y.j y.a.b.b y.a.b.a y.a.b.d y.a.b.c y.a.a.b y.a.a.a y.a.a.c y.a.a.d y.a.c y.a.d y.b y.e y.g y.i y.f.b y.f.c y.f.a y.d.c y.d.a.a y.d.b.b y.d.b.a y.k y.m y.l y.n y.o y.c.a y.c.b y.c.e y.c.c y.c.d:=by
  intro U t j y d P m
  induction m with
  | zero=>
   intro N k Z Y;obtain⟨N,rfl⟩:=DF N;rw[nga];unfold jv;dsimp only;exact KP (ja (by simp only[len];omega))
  | succ m w=>
   intro N k Z Y;obtain⟨N,rfl⟩:=DF N;have n2:=d.n2;have nv:=d.nv;have nb:=d.nb;have o:k<y.b.length:=by omega
   have K:=hrK (P.wk k o).2 (d.rx k o).1 (d.ve k o);rw[nga];unfold jv;dsimp only;refine (Qo (sg o)).trans ?_;rw[eR,mZ o,mZ (show k<y.g.length by omega),mZ (show k<y.i.length by omega)];refine rR ?_ ((KP ?_).trans ?_)
   ·generalize SV y.j (⟨y.h.a⟩:v) 0 (S.nd (q y.b k) 0)=a;generalize (!(Dd (q y.i k) 0))=b;cases a<;>cases b<;>rfl
   ·rw[d.maps];exact K
   ·rw[fg (n:=(k:Int)+1)];exact w N (k+1) (by omega) (by omega)
 have key:∀(m N i:Nat) (x:z),m<N→i+m=e.length→kq i x→Cg x→Sc lf l 23 e N (i:Int) x.h.a x.j x.a.b.b x.a.b.a x.a.b.d x.a.b.c x.a.a.b x.a.a.a x.a.a.c x.a.a.d x.a.c x.a.d x.b x.e x.g x.i x.f.b x.f.c x.f.a x.d.c x.d.a.a x.d.b.b x.d.b.a x.k x.m x.l x.n x.o x.c.a x.c.b x.c.e x.c.c x.c.d=l true:=by
  intro m
  induction m with
  | zero=>
   intro N i x Z Y f E;obtain⟨N,rfl⟩:=DF N;have W:(⟨(⟨x.h.a⟩:v),x.j,(⟨(⟨x.a.b.b,x.a.b.a,x.a.b.d,x.a.b.c⟩:I),(⟨x.a.a.b,x.a.a.a,x.a.a.c,x.a.a.d⟩:G),x.a.c,x.a.d⟩:Co),x.b,x.e,x.g,x.i,(⟨x.f.b,x.f.c,x.f.a⟩:QD),(⟨x.d.c,(⟨x.d.a.a⟩:mB),(⟨x.d.b.b,x.d.b.a⟩:iI)⟩:se),x.k,x.m,x.l,x.n,x.o,(⟨x.c.a,x.c.b,x.c.e,x.c.c,x.c.d⟩:Pa)⟩:z)=x:=rfl;have d:i≤20:=by omega
   rw[nbc];unfold Hq;dsimp only;refine (KP (ja (by simp only[len];omega))).trans ?_;rw[W,(Tk f d).2.1,I3 f d];rfl
  | succ m w=>
   intro N i x Z Y f E;obtain⟨N,rfl⟩:=DF N;have W:(⟨(⟨x.h.a⟩:v),x.j,(⟨(⟨x.a.b.b,x.a.b.a,x.a.b.d,x.a.b.c⟩:I),(⟨x.a.a.b,x.a.a.a,x.a.a.c,x.a.a.d⟩:G),x.a.c,x.a.d⟩:Co),x.b,x.e,x.g,x.i,(⟨x.f.b,x.f.c,x.f.a⟩:QD),(⟨x.d.c,(⟨x.d.a.a⟩:mB),(⟨x.d.b.b,x.d.b.a⟩:iI)⟩:se),x.k,x.m,x.l,x.n,x.o,(⟨x.c.a,x.c.b,x.c.e,x.c.c,x.c.d⟩:Pa)⟩:z)=x:=rfl;have d:i<e.length:=by omega
   have g:=(nFT f (by omega) (hE.nd (q e i) 0)).1;have A:=nD2 f (by omega) E (hE.nd (q e i) 0);have L:=ngG f (by omega) (r _ (nU d));have F:=nBz f (by omega) (hE.nd (q e i) 0);rw[nbc];unfold Hq;dsimp only;rw[W,eR];refine (Qo (sg d)).trans ?_;refine rR (by rw[mZ d,L];rfl) ?_;generalize (WW x (hE.nd (q e i) 0)).1=y at g A F ⊢;have n2:=g.n2;refine (KP ?_).trans ?_
   ·rw[show (len y.b != len x.b)=false by simp[len,F],show (len y.g != len y.b)=false by simp[len,g.nv],show (len y.i != len y.b)=false by simp[len,g.nb]];rfl
   ·refine (X _ (i:Int) (i+1) y g A y.b.length 23 0 (by omega) (vH _)).trans ?_;rw[fg (n:=(i:Int)+1)];exact w N (i+1) y (by omega) (by omega) g A
 exact key e.length 23 0 h (by omega) (vH _) T w0
end
end Go.Proofs.YteffpikahopfoaaGreat.Pl
