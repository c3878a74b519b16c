/- Plain forms. Conditions: as each says. -/
import Derived.Test.YteffpikahopfoaaGreatP1
import Derived.Test.YteffpikahopfoaaGreatP0
import Derived.Test.YteffpikahopfoaaGreatBit
set_option linter.unusedVariables false
set_option linter.unusedSimpArgs false
set_option maxRecDepth 100000
open Int renaming toNat→vt,tmod→vu,le_refl→vM,tdiv→v3,emod_nonneg→wL,tmod_lt_of_pos→w8,tmod_eq_emod_of_nonneg→w9,toNat_of_nonneg→y1
open List renaming set→vv,length_set→vw,length_nil→vx,all_eq_true→vz,append_assoc→wb,getD_eq_getElem?_getD→wk,replicate→wJ,Sublist→wK,map_cons→wM,mem_append→wN,mem_singleton→w2,mem_cons→xd,nodup_cons→xe,mem_map→xf,length_replicate→xH,cons_append→x3,all_cons→x4,sublist_append_left→x5,drop_eq_getElem_cons→zc,mem_of_mem_drop→zn,take_append_drop→AI
open Bool renaming not_true→vy,and_self→wa,not_false→w3,eq_false_iff→y8
open Nat renaming zero_le→vA,zero_add→vJ,le_refl→x1,le_trans→x6,not_lt_zero→y5
open BitVec renaming ofInt→wv
namespace Go.Proofs.YteffpikahopfoaaGreat.Pl
open Vm
noncomputable section
variable {α:Type} (kW:α)
def nxE(a:oY→Int→α)(s:Y):α:=let b:oY:=(⟨0,0,0,0,0,0,0,0,(⟨0,0,0,0,0,0,0,[]⟩:ch)⟩:oY);bif Bk true (E_ s) then bif !((bE s).2) then a b 1 else bif ((uN ((bE s).1)).2) != 0 then a b ((uN ((bE s).1)).2) else bif !(yc ((uN ((bE s).1)).1)) then a b 5 else a ((uN ((bE s).1)).1) 0 else kW
def gD:oY:=⟨0,0,0,0,0,0,0,0,⟨0,0,0,0,0,0,0,[]⟩⟩
def dZ(s:Y):oY×Int:=bif !(bE s).2 then (gD,1) else bif (uN (bE s).1).2 != 0 then (gD,(uN (bE s).1).2) else bif !(yc (uN (bE s).1).1) then (gD,5) else ((uN (bE s).1).1,0)
theorem ncM(a:oY→Int→α)(s:Y)(b:E_ s=true):nxE kW a s=a (dZ s).1 (dZ s).2:=by have c:E_ s=true:=b;unfold nxE dZ;refine Bw (zL c) ?_;refine oN (K:=λr:oY×Int=>a r.1 r.2) (λ_=>rfl) (λ_=>?_);refine oN (K:=λr:oY×Int=>a r.1 r.2) (λ_=>rfl) (λ_=>?_);exact oN (K:=λr:oY×Int=>a r.1 r.2) (λ_=>rfl) (λ_=>rfl)
def nvo(a:Bool→α)(r:sY)(p:oY):α:=let c:Bool:=Gh r.py p.py r.S7;let d:Bool:=nn p.pk.oz r.UF r.X0;let b:Bool:=Bk true (mv r.py p.py r.S7);let e:Bool:=lV c (lV d (lV (r.rX==(-2)) b b) b) b;let f:Bool:=r.eh==p.pk.eh;let g:Bool:=bif c then bif d then bif r.rX==(-2) then true else r.rX==p.rX else false else false;bif lV (WN r) (lV (rZ p) (lV (r.eh==0) e (lV f e true)) true) true then a (bif WN r then bif rZ p then bif r.eh==0 then g else bif f then g else false else false else false) else kW
theorem nu7{r:sY}(h:WN r=true)(d:(r.fr==1)=false):0≤r.fl:=by
 cases c:nn r.fl 0 3
 ·unfold WN yX at h;simp only[id,d,c,rl] at h;revert h;generalize (bif !(nn r.fu 0 1000) then true else bif r.eh != 0 then bif r.eh != 6 then bif r.eh != 17 then true else bif !(nn r.py 0 4294967295) then true else !(nn r.S7 0 32) else bif !(nn r.py 0 4294967295) then true else !(nn r.S7 0 32) else bif !(nn r.py 0 4294967295) then true else !(nn r.S7 0 32))=a;generalize (bif decide (r.UF<0) then true else bif decide (r.X0<r.UF) then true else bif decide (65535<r.X0) then true else !(nn r.rX (-2) 4095))=b;cases a<;>cases b<;>cases (r.fr==0)<;>simp
 ·exact (Wx.1 c).1
def lD(r:sY)(p:oY):Bool:=bif WN r then bif rZ p then ncm r p else false else false
theorem nrV{r:sY}(h:WN r=true):0≤ZK (32 - r.S7):=by
 cases a:nn r.S7 0 32
 ·unfold WN yX at h;simp only[id,a,w3] at h;revert h;cases nn r.fu 0 1000<;>cases (r.eh != 0)<;>cases (r.eh != 6)<;>cases (r.eh != 17)<;>cases nn r.py 0 4294967295<;>simp
 ·have:=Wx.1 a;rw[Ou];omega
theorem neJ(a:Bool→α)(r:sY)(p:oY):nvo kW a r p=a (lD r p):=by
 unfold nvo lD ncm;dsimp only;cases b:WN r
 ·exact Bw (eE (λh=>by cases h) (λ_=>rfl)) rfl
 cases rZ p
 ·exact Bw (eE (λ_=>eE (λh=>by cases h) (λ_=>rfl)) (λ_=>rfl)) rfl
 have c:mv r.py p.py r.S7=true:=Tl (nrV b);simp only[c,cd,CC,HI];cases r.eh==0<;>cases r.eh==p.pk.eh<;>rfl
def Rr(a:Int→α)(Z x:rM)(f g h i j k l m n o p q r s t u:Int)(d:Y)(v:Int→Int→α)(b c:Int):α:=let e:Bool:=lD (sY.nd (V x (vt c)) 0) (⟨g,h,i,j,k,l,m,n,(⟨o,p,q,r,s,t,u,d⟩:ch)⟩:oY);bif decide (c<f) then bif Bk true (idx c x) then bif lV e (lV (decide (b<0)) true (Bk true (idx b Z))) true then v (bif bif e then bif decide (b<0) then true else decide (J (V x (vt c)) 0<J (V Z (vt b)) 0) else false then c else b) (ZK (c+1)) else kW else kW else a b
def b8(a:Int→α)(N:Nat)(Z x:rM)(c d e f g h i j k l m n o p q r:Int)(b:Y)(s:Nat):Int→Int→α:=WS (λ_ _=>kW) (Rr kW a Z x c d e f g h i j k l m n o p q r b) s
theorem ndk(a:Int→α)(N:Nat)(Z x:rM)(c d e f g h i j k l m n o p q r:Int)(b:Y)(s:Nat):b8 kW a N Z x c d e f g h i j k l m n o p q r b (s+1)=Rr kW a Z x c d e f g h i j k l m n o p q r b (b8 kW a N Z x c d e f g h i j k l m n o p q r b s):=rfl
def cD(kW:α)(a:Int→α)(b:rM→Int→Int→Int→Int→Int→Int→Int→Int→Int→Int→Int→Int→Int→Int→Int→Int→Y→Int→Int→α)(Z:rM)(p:oY):α:=bif !(HK Z) then a (-1) else b Z (len Z) p.rA p.rN p.rX p.S9 p.Id p.Ta p.py p.pN p.pk.eh p.pk.oC p.pk.oz p.pk.e4 p.pk.XY p.pk.ez p.pk.su p.pk.ed (-1) 0
def nuN(a:Int→α)(N:Nat)(Z:rM)(p:oY):α:=cD kW a (λx c d e f g h i j k l m n o q r s b=>b8 kW a N Z x c d e f g h i j k l m n o q r s b N) Z p
def wC(Z:rM)(p:oY)(i:Nat)(b:Int):Int:=bif bif lD (sY.nd (V Z i) 0) p then bif decide (b<0) then true else decide (J (V Z i) 0<J (V Z (vt b)) 0) else false then (i:Int) else b
def SV(i:Nat)(b:Int):Prop:=b= -1∨(0≤b∧b<(i:Int))
theorem njf{Z:rM}{p:oY}{i:Nat}{b:Int}(h:SV i b):SV (i+1) (wC Z p i b):=by
 unfold wC;cases (bif lD (sY.nd (V Z i) 0) p then bif decide (b<0) then true else decide (J (V Z i) 0<J (V Z (vt b)) 0) else false)
 ·rcases h with h | ⟨a,c⟩
  ·exact .inl h
  ·exact .inr ⟨a,by simp only[rl];omega⟩
 ·exact .inr ⟨by simp only[HI];omega,by simp only[HI];omega⟩
def rz(Z:rM)(p:oY):Int:=bif !(HK Z) then -1 else Wc (wC Z p) Z.length 0 (-1)
theorem nfL(Z:rM)(p:oY):SV Z.length (rz Z p):=by
 unfold rz;cases (!(HK Z))
 ·have:∀(m i:Nat) (b:Int),SV i b→SV (i+m) (Wc (wC Z p) m i b):=by
   intro m
   induction m with
   | zero=>intro i b h;exact h
   | succ m a=>intro i b h;have:=a (i+1) _ (njf (Z:=Z) (p:=p) h);rw[show i+(m+1)=i+1+m by omega];exact this
  have:=this Z.length 0 (-1) (.inl rfl);rw[vJ] at this;exact this
 ·exact .inl rfl
theorem nby(a:Int→α)(Z:rM)(p:oY)(f:Oj (.sl nS) (.sl Z)):∃N,nuN kW a N Z p=a (rz Z p):=by
 obtain⟨g,_⟩:=jD f;refine⟨Z.length+1, ?_⟩;unfold nuN cD rz;dsimp only;refine oN (λ_=>rfl) (λ_=>?_);refine Xb Z.length (λn i b=>b8 kW a (Z.length+1) Z Z (len Z) p.rA p.rN p.rX p.S9 p.Id p.Ta p.py p.pN p.pk.eh p.pk.oC p.pk.oz p.pk.e4 p.pk.XY p.pk.ez p.pk.su p.pk.ed n b i) (wC Z p) a SV ?_ ?_ ?_ (Z.length+1) (-1) (.inl rfl) (by omega)
 ·intro i b c d;exact njf d
 ·intro n i b c d;show b8 kW a (Z.length+1) Z Z (len Z) p.rA p.rN p.rX p.S9 p.Id p.Ta p.py p.pN p.pk.eh p.pk.oC p.pk.oz p.pk.e4 p.pk.XY p.pk.ez p.pk.su p.pk.ed (n+1) b (i:Int)=_;rw[ndk];have j:(⟨p.rA,p.rN,p.rX,p.S9,p.Id,p.Ta,p.py,p.pN,⟨p.pk.eh,p.pk.oC,p.pk.oz,p.pk.e4,p.pk.XY,p.pk.ez,p.pk.su,p.pk.ed⟩⟩:oY)=p:=rfl;have e:lV (decide (b<0)) true (idx b Z)=true:=eE (λ_=>rfl) (λh=>by
   have h:=of_decide_eq_false h;rcases d with rfl | ⟨l,m⟩
   ·omega
   ·simp only[idx,gF,kQ];omega)
  have k:∀z:Bool,lV z (lV (decide (b<0)) true (idx b Z)) true=true:=λz=>eE (λ_=>e) (λ_=>rfl);simp only[Rr,j,T9 c,uH c,k,e,CC,Q8 c g,lN,cd,TK,HI];rfl
 ·intro n b d;show b8 kW a (Z.length+1) Z Z (len Z) p.rA p.rN p.rX p.S9 p.Id p.Ta p.py p.pN p.pk.eh p.pk.oC p.pk.oz p.pk.e4 p.pk.XY p.pk.ez p.pk.su p.pk.ed (n+1) b (Z.length:Int)=_;rw[ndk];simp only[Rr,hO,rl]
def ny2(a:Int→α)(t:W4)(f:SA):α:=bif !(xG t) then a (-1) else a (Uu t f)
def Ac(t:W4)(f:SA):Int:=bif !(xG t) then -1 else Uu t f
theorem nt0(t:W4)(f:SA):Ac t f= -1∨∃i:Nat,i<t.nO.length∧Ac t f=(i:Int):=by
 unfold Ac;cases (!(xG t))
 ·rcases yC (λ_ r=>iW r f) t.nO 0 with ⟨e,_⟩ | ⟨i,a,e,_⟩
  ·exact .inl e
  ·rw[vJ] at e;exact .inr ⟨i,a,e⟩
 ·exact .inl rfl
theorem nj6(a:Int→α)(t:W4)(f:SA):ny2 a t f=a (Ac t f):=by unfold ny2 Ac;exact oN (λ_=>rfl) (λ_=>rfl)
def nyw(a:Int→α)(s:aV)(b:Int)(f:SA):α:=bif bif !(xx s b) then true else decide (yN s f<0) then a (-1) else bif Bk true (idx (yN s f) s.eb) then a (J (V s.eb (vt (yN s f))) 0) else kW
theorem nBS{s:aV}{f:SA}(h:¬yN s f<0):yN s f<len s.eb:=by
 unfold yN at h ⊢;cases b:(bif (len s.eb)==0 then true else decide (XE s.eJ f<0))
 ·obtain⟨a,c⟩:=Uk b;have a:len s.eb≠0:=by simpa using a
  have c:=of_decide_eq_false c;simp only[rl];exact w8 _ (by simp only[len] at a ⊢;omega)
 ·rw[b] at h;exact absurd (show (-1:Int)<0 by decide) h
def Ye(s:aV)(a:Int)(f:SA):Int:=bif bif !(xx s a) then true else decide (yN s f<0) then -1 else J (V s.eb (vt (yN s f))) 0
theorem nfi(a:Int→α)(s:aV)(b:Int)(f:SA):nyw kW a s b f=a (Ye s b f):=by unfold nyw Ye;refine oN (λ_=>rfl) (λc=>?_);refine Bw (zL ?_) rfl;have d:=of_decide_eq_false (Uk c).2;have e:=nBS d;simp only[idx,gF,kQ];simp only[len] at e;omega
def nog(a:Int→α)(s:nJ)(b:Int)(p:oY):α:=let c:Bool:=Bk true (idx (rz s.oQ p) s.oQ);let d:List DC:=V s.oQ (vt (rz s.oQ p));bif bif !(F_ s b) then true else !(rZ p) then a (-1) else bif decide (0≤rz s.oQ p) then bif c then bif (J d 7)==1 then a (-1) else bif c then a (J d 8) else kW else kW else bif decide (0≤Ac s.eb (sM p)) then bif Bk true (idx (Ac s.eb (sM p)) s.eb.nO) then a (J (V s.eb.nO (vt (Ac s.eb (sM p)))) 6) else kW else a (Ye s.nV b (sM p))
def YI(s:nJ)(a:Int)(p:oY):Int:=bif bif !(F_ s a) then true else !(rZ p) then -1 else bif decide (0≤rz s.oQ p) then bif (J (V s.oQ (vt (rz s.oQ p))) 7)==1 then -1 else J (V s.oQ (vt (rz s.oQ p))) 8 else bif decide (0≤Ac s.eb (sM p)) then J (V s.eb.nO (vt (Ac s.eb (sM p)))) 6 else Ye s.nV a (sM p)
theorem nf2(s:nJ)(c:Int)(p:oY):YI s c p= -1∨(0≤YI s c p∧YI s c p<c):=by
 unfold YI;cases v:(bif !(F_ s c) then true else !(rZ p))
 case true=>exact .inl rfl
 have d:=ux (Uk v).1;unfold F_ at d;cases n:(bif !(HK s.oQ) then true else bif !(xG s.eb) then true else !(xx s.nV c))
 case true=>rw[n] at d;cases d
 rw[n,rl] at d;obtain⟨w,f,D⟩:=niW n;cases h:s.oQ.all (λr=> !(decide (c≤J r 8)))
 case false=>rw[h] at d;cases d
 rw[h,HI] at d;have h:=vz.1 h;have x:=vz.1 d;simp only[rl];by_cases l:0≤rz s.oQ p
 ·rw[Tl l,HI];rcases nfL s.oQ p with g | ⟨_,g⟩
  ·omega
  generalize rz s.oQ p=b at l g;obtain⟨i,rfl⟩:=Int.eq_ofNat_of_zero_le l;rw[lN];have j:i<s.oQ.length:=by omega
  have y:=w _ (oA j);have k:=h _ (oA j);have k:¬c≤J (V s.oQ i) 8:=by simpa using k
  cases z:(J (V s.oQ i) 7)==1
  ·refine .inr ⟨?_,by simp only[rl];omega⟩;simp only[rl];exact nu7 y z
  ·exact .inl rfl
 ·rw[yF l,rl];rcases nt0 s.eb (sM p) with g | ⟨i,j,g⟩
  ·rw[g,show decide ((0:Int)≤ -1)=false from rfl,rl];unfold Ye;cases A:(bif !(xx s.nV c) then true else decide (yN s.nV (sM p)<0))
   case true=>exact .inl rfl
   obtain⟨e,o⟩:=Uk A;have o:=of_decide_eq_false o;have B:=nBS o;have e:=ux e;unfold xx at e;cases q:(bif !(nn c 1 4) then true else bif (len s.nV.eJ) != 16 then true else !(Yi (len s.nV.eb)))
   case true=>rw[q] at e;cases e
   rw[q,rl] at e;have C:=Wx.1 (ux (Uk q).1);simp only[len] at B;have m:=vz.1 e _ (oA (a:=s.nV.eb) (i:=vt (yN s.nV (sM p))) (by omega));have m:=Wx.1 m;rw[Ou] at m;exact .inr ⟨m.1,by simp only[rl];omega⟩
  ·rw[g];rw[Tl (show (0:Int)≤(i:Int) by omega),HI,lN];have k:=x _ (oA j);have k:¬c≤J (V s.eb.nO i) 6:=by simpa using k
   refine .inr ⟨?_,by omega⟩;unfold xG at f;cases t:(len s.eb.nO) != 8
   case true=>rw[t] at f;cases f
   rw[t,rl] at f;cases u:Pt (eR s.eb.nO) s.eb.nO 0
   case true=>rw[u] at f;cases f
   have:=OR u i j;rw[vJ] at this;unfold eR at this;have:=(Uk this).1;unfold NV at this;exact (Wx.1 (ux (Uk this).2)).1
theorem ndM(a:Int→α)(s:nJ)(d:Int)(p:oY):nog kW a s d p=a (YI s d p):=by
 unfold nog YI;dsimp only;refine oN (λ_=>rfl) (λg=>?_);have c:=nfL s.oQ p;have b:=nt0 s.eb (sM p);refine oN (λh=>?_) (λ_=>?_)
 ·have h:=of_decide_eq_true h;have e:idx (rz s.oQ p) s.oQ=true:=by
   rcases c with c | ⟨c,b⟩
   ·omega
   ·simp only[idx,gF,kQ];omega
  refine Bw (zL e) ?_;exact oN (λ_=>rfl) (λ_=>Bw (zL e) rfl)
 ·refine oN (λh=>?_) (λ_=>rfl);have h:=of_decide_eq_true h;rcases b with b | ⟨i,f,b⟩
  ·omega
  ·refine Bw (zL ?_) rfl;rw[b];exact uH f
def nrI(a:Bool→α)(s:jf)(p:oY):α:=let b:Bool:= !(nn s.d9 1 320);let c:Bool:=(vu (len s.nP.pk.ed) s.d9) != 0;let d:Bool:=Bk true (!(s.d9==0));bif bif !(rZ s.nP) then true else bif !(yc p) then true else bif !(q_ s.nP p) then true else bif p.pk.eh != 6 then true else bif s.nP.pk.ez != 16 then true else !(EY p.pk.ez) then a false else bif lV (decide (s.nA<1)) true (lV b true (lV c d (Bk d (!(s.d9==0))))) then bif bif decide (s.nA<1) then true else bif b then true else bif c then true else (ZK (v3 (len s.nP.pk.ed) s.d9)) != s.nA then a false else a (bif nn (len p.pk.ed) 1 s.nA then bif decide (ZK ((len s.nP.pk.ed)+(len p.pk.ed))≤320) then bif p.pk.e4==(vu (ZK (s.nP.pk.e4+(len s.nP.pk.ed))) 4294967296) then p.Id==(vu (ZK (s.nP.Id+s.d9)) 65536) else false else false else false) else kW
theorem DP{p:oY}(h:rZ p=true):p.pk.ed.length≤320:=by
 have a:Xi p.pk=true:=by unfold rZ HG at h;revert h;cases nn p.rA 0 281474976710655<;>cases nn p.rN 0 281474976710655<;>cases nn p.rX (-1) 4095<;>cases nn p.S9 0 255<;>cases nn p.Ta 0 255<;>cases nn p.Id 0 65535<;>cases nn p.py 0 4294967295<;>cases nn p.pN 0 4294967295<;>cases Xi p.pk<;>simp
 exact tM a
def VT(s:jf)(p:oY):Bool:=bif !(rZ s.nP) then true else bif !(yc p) then true else bif !(q_ s.nP p) then true else bif p.pk.eh != 6 then true else bif s.nP.pk.ez != 16 then true else !(EY p.pk.ez)
def nla(s:jf)(p:oY):Bool:=bif p.pk.e4==(vu (ZK (s.nP.pk.e4+(len s.nP.pk.ed))) 4294967296) then p.Id==(vu (ZK (s.nP.Id+s.d9)) 65536) else false
def bm(n c z m:Int):Bool:=bif !(nn z 1 320) then true else bif !(nn c 1 320) then true else bif n != ZK (z*c) then true else bif !(nn m 1 z) then true else decide (320<ZK (n+m))
def Z7(s:jf)(p:oY):Bool:=bif VT s p then false else bif bm (len s.nP.pk.ed) s.d9 s.nA (len p.pk.ed) then false else nla s p
theorem nDU{n c z:Int}(a:0≤n)(n1:n≤320)(c0:1≤c)(b:1≤z)(h:n=z*c):z≤320∧vu n c=0∧v3 n c=z:=by
 have d:z≤n:=by have:=Int.mul_le_mul_of_nonneg_left c0 (show 0≤z by omega);rw[Int.mul_one] at this;omega
 refine⟨by omega, ?_, ?_⟩
 ·rw[h];exact Int.mul_tmod_left z c
 ·rw[h];exact Int.mul_tdiv_cancel z (by omega)
theorem nsJ{n c z m:Int}{X:Bool}(d:0≤n)(n1:n≤320):(bif bif decide (z<1) then true else bif !(nn c 1 320) then true else bif (vu n c) != 0 then true else (ZK (v3 n c)) != z then false else bif nn m 1 z then bif decide (ZK (n+m)≤320) then X else false else false)=(bif bm n c z m then false else X):=by
 have j:decide (320<ZK (n+m))= !(decide (ZK (n+m)≤320)):=by
  by_cases h:320<ZK (n+m)
  ·rw[Tl h,yF (by omega)];rfl
  ·rw[yF h,Tl (by omega)];rfl
 unfold bm;rw[j];by_cases g:z<1
 ·rw[Tl g,show nn z 1 320=false from y8.2 (λh=>by have:=Wx.1 h;omega)];rfl
 rw[yF g,rl];cases e:nn c 1 320
 ·cases nn z 1 320<;>rfl
 have e:=Wx.1 e;by_cases h:n=z*c
 ·obtain⟨a,b,f⟩:=nDU d n1 e.1 (by omega) h;rw[show nn z 1 320=true from Wx.2 ⟨by omega,a⟩,b,f,←h,Ou (n:=n),Ou (n:=z)];simp only[bne_self_eq_false,vy,rl];cases nn m 1 z<;>cases decide (ZK (n+m)≤320)<;>rfl
 ·have k:(bif (vu n c) != 0 then true else (ZK (v3 n c)) != z)=true:=by
   cases a:(vu n c) != 0
   ·have a:vu n c=0:=by simpa using a
    cases b:(ZK (v3 n c)) != z
    ·have b:ZK (v3 n c)=z:=by simpa using b
     have f:0≤v3 n c:=Int.tdiv_nonneg d (by omega);have o:v3 n c≤n:=by rw[Int.tdiv_eq_ediv_of_nonneg d];exact Int.ediv_le_self c d
     rw[Ou] at b;have i:=Int.mul_tdiv_add_tmod n c;rw[a,b,Int.add_zero,Int.mul_comm] at i;exact absurd i.symm h
    ·rfl
   ·rfl
  have l:nn z 1 320=true→(n != ZK (z*c))=true:=λa=>by have a:=Wx.1 a;have b:z*c≤320*320:=Int.mul_le_mul a.2 e.2 (by omega) (by omega);have f:0≤z*c:=Int.mul_nonneg (by omega) (by omega);rw[Ou];simpa using h
  simp only[vy,rl,k,HI];cases a:nn z 1 320
  ·rfl
  ·rw[l a];rfl
theorem nDF{p:oY}(h:rZ p=true):0≤len p.pk.ed∧len p.pk.ed≤320:=by have:=DP h;simp only[len];omega
theorem ne6(a:Bool→α)(s:jf)(p:oY):nrI kW a s p=a (Z7 s p):=by
 unfold nrI Z7
 try dsimp only
 rw[show (bif !(rZ s.nP) then true else bif !(yc p) then true else bif !(q_ s.nP p) then true else bif p.pk.eh != 6 then true else bif s.nP.pk.ez != 16 then true else !(EY p.pk.ez))=VT s p from rfl];refine oN (λ_=>rfl) (λd=>?_);have b:=nDF (ux (Uk d).1);have e:lV (!(nn s.d9 1 320)) true (lV ((vu (len s.nP.pk.ed) s.d9) != 0) (Bk true (!(s.d9==0))) (Bk (Bk true (!(s.d9==0))) (!(s.d9==0))))=true:=by
  refine eE (λ_=>rfl) (λh=>?_);have h:=Wx.1 (ux h);have f:(!(s.d9==0))=true:=by simp;omega
  rw[f];exact eE (λ_=>rfl) (λ_=>rfl)
 refine Bw (eE (λ_=>rfl) (λ_=>e)) ?_;rw[←nsJ (n:=len s.nP.pk.ed) (c:=s.d9) (z:=s.nA) (m:=len p.pk.ed) (X:=nla s p) b.1 b.2];exact oN (λ_=>rfl) (λ_=>rfl)
def nxH(a:jf→α)(s:jf)(p:oY):α:=bif !(Z7 s p) then a s else bif Bk true (S_ s.nP.pk.ed p.pk.ed) then a (⟨(⟨s.nP.rA,s.nP.rN,s.nP.rX,s.nP.S9,s.nP.Id,s.nP.Ta,s.nP.py,s.nP.pN,(⟨s.nP.pk.eh,s.nP.pk.oC,s.nP.pk.oz,s.nP.pk.e4,s.nP.pk.XY,p.pk.ez,s.nP.pk.su,s.nP.pk.ed++p.pk.ed⟩:ch)⟩:oY),s.nA,ZK (s.d9+1)⟩:jf) else kW
def dX(s:jf)(p:oY):jf:=bif !(Z7 s p) then s else {s with nP:= {s.nP with pk:= {s.nP.pk with ez:=p.pk.ez,ed:=s.nP.pk.ed++p.pk.ed} },d9:=ZK (s.d9+1)}
theorem nkC(a:jf→α)(s:jf)(p:oY):nxH kW a s p=a (dX s p):=by
 unfold nxH dX;refine oN (λ_=>rfl) (λf=>?_);have c:=ux f;unfold Z7 at c;cases b:VT s p
 case true=>rw[b] at c;cases c
 unfold VT at b;obtain⟨e,b⟩:=Uk b;have e:=DP (ux e);have h:p.pk.ed.length≤320:=DP (by
  have d:=ux (Uk b).1;unfold yc Ak at d;cases g:rZ p
  ·rw[g] at d;cases d
  ·rfl)
 exact Bw (zL (Tl (by omega))) rfl
def ny1(a:TV→pE→α)(Z:rM)(m:TV)(b:Int)(q:pE)(key:Y)(p:oY)(e:Bool):α:=let c:TV×pE:=OW Z m b q key;let d:pE:=(⟨c.2.d5,c.2.eo,c.2.eU,Q7 p,true,c.2.qj⟩:pE);let f:TV×pE:=OW Z c.1 b d key;bif bif !(iy q) then true else bif !(yc p) then true else (len key) != 16 then bif Bk true (zH m) then a (cp m) q else kW else bif bif e then bif q.uc then Z7 q.qo p else false else false then bif Bk true (zH m) then a (cp m) (⟨q.d5,q.eo,q.eU,dX q.qo p,q.uc,q.qj⟩:pE) else kW else bif Bk true (Xm Z m b q key) then bif !e then bif Bk true (Xm Z c.1 b d key) then a f.1 f.2 else kW else a c.1 d else kW
def OQ(z:TV×pE)(p:oY):pE:=⟨z.2.d5,z.2.eo,z.2.eU,Q7 p,true,z.2.qj⟩
def Rn{α β b c:Type}(Z:rM)(m:TV)(a:Int)(q:α)(key:β)(p:b)(d:c):Bool:=zH m
def R2(Z:rM)(m:TV)(a:Int)(q:pE)(key:Y)(p:oY)(b:Bool):TV×pE:=bif bif !(iy q) then true else bif !(yc p) then true else (len key) != 16 then (m,q) else bif bif b then bif q.uc then Z7 q.qo p else false else false then (m,⟨q.d5,q.eo,q.eU,dX q.qo p,q.uc,q.qj⟩) else bif !b then OW Z (OW Z m a q key).1 a (OQ (OW Z m a q key) p) key else ((OW Z m a q key).1,OQ (OW Z m a q key) p)
theorem nsP{l:rM}{m:TV}{d:Int}{q:pE}{key:Y}{p:oY}{c:Bool}(h:xn q.eo=true):xn (R2 l m d q key p c).2.eo=true:=by
 unfold R2;cases (bif !(iy q) then true else bif !(yc p) then true else (len key) != 16)
 ·cases (bif c then bif q.uc then Z7 q.qo p else false else false)
  ·cases c
   ·exact ZL (ZL h)
   ·exact ZL h
  ·exact h
 ·exact h
theorem nqa(a:TV→pE→α)(Z:rM)(m:TV)(b:Int)(q:pE)(key:Y)(p:oY)(c:Bool)(f:Rn Z m b q key p c=true):ny1 kW a Z m b q key p c=a (R2 Z m b q key p c).1 (R2 Z m b q key p c).2:=by have d:zH m=true:=f;have g:∀(q:pE),Xm Z m b q key=true:=λ_=>d;have e:∀(h:pE),Xm Z (OW Z m b q key).1 b h key=true:=λ_=>Tl (by rw[nkj];exact RG d);unfold ny1 R2;dsimp only;refine oN (K:=λr:TV×pE=>a r.1 r.2) (λ_=>Bw (zL d) rfl) (λ_=>?_);refine oN (K:=λr:TV×pE=>a r.1 r.2) (λ_=>Bw (zL d) rfl) (λ_=>?_);refine Bw (zL (g _)) ?_;exact oN (K:=λr:TV×pE=>a r.1 r.2) (λ_=>Bw (zL (e _)) rfl) (λ_=>rfl)
def nAs(a:QP→α)(h:QP)(b:Y):α:=let g:Int:=ZK ((((cp h).d4).ek)+1);let c:Int:=YI h.ni (len h.Rx) ((dZ b).1);let k:Bool:=Bk true (idx c h.Rx);let i:Nat:=vt c;let l:List DC:=V h.Rx i;let m:pE:=pE.nd l 0;let n:TV×pE:=R2 h.ei h.oa 0 m h.ni.nV.eJ ((dZ b).1) h.oU;let d:pE:=n.2;let q:jW:=d.d5;let r:QR:=d.eo;let s:QR:=d.eU;let o:jf:=d.qo;let j:oY:=o.nP;let p:ch:=j.pk;let e:QP:=(⟨n.1,(cp h).ei,(cp h).Tx,vv ((cp h).Rx) i (CI (V ((cp h).Rx) i) 0 (pE.enc d)),(cp h).oh,(cp h).nL,(cp h).n8,(cp h).ec,(cp h).ni,(cp h).oI,(cp h).oU,(cp h).tB,(cp h).ox,(cp h).oV,(⟨g,((cp h).d4).zN,((cp h).d4).oB,((cp h).d4).oZ,ZK ((((cp h).d4).qE)+1)⟩:SI)⟩:QP);let f:Int:=J l 6;bif Bk true (eW h) then bif Bk true (jV h) then bif !(sN h) then a (cp h) else bif Bk true (E_ b) then bif ((dZ b).2) != 0 then a (⟨(cp h).oa,(cp h).ei,(cp h).Tx,(cp h).Rx,(cp h).oh,(cp h).nL,(cp h).n8,(cp h).ec,(cp h).ni,(cp h).oI,(cp h).oU,(cp h).tB,(cp h).ox,(cp h).oV,(⟨g,ZK ((((cp h).d4).zN)+1),((cp h).d4).oB,((cp h).d4).oZ,((cp h).d4).qE⟩:SI)⟩:QP) else bif !(yf h.ec ((dZ b).1)) then a (⟨(cp h).oa,(cp h).ei,(cp h).Tx,(cp h).Rx,(cp h).oh,(cp h).nL,(cp h).n8,(cp h).ec,(cp h).ni,(cp h).oI,(cp h).oU,(cp h).tB,(cp h).ox,(cp h).oV,(⟨g,((cp h).d4).zN,ZK ((((cp h).d4).oB)+1),((cp h).d4).oZ,((cp h).d4).qE⟩:SI)⟩:QP) else bif c==(-1) then a (⟨(cp h).oa,(cp h).ei,(cp h).Tx,(cp h).Rx,(cp h).oh,(cp h).nL,(cp h).n8,(cp h).ec,(cp h).ni,(cp h).oI,(cp h).oU,(cp h).tB,(cp h).ox,(cp h).oV,(⟨g,((cp h).d4).zN,((cp h).d4).oB,ZK ((((cp h).d4).oZ)+1),((cp h).d4).qE⟩:SI)⟩:QP) else bif Bk (Bk (Bk k (Rn h.ei h.oa 0 m h.ni.nV.eJ ((dZ b).1) h.oU)) (idx c ((cp h).Rx))) (inl i ((cp h).Rx)) then bif Bk k (lJ e c f) then a (mL e c f) else kW else kW else kW else kW else kW
def nN(h:QP)(a:Y):Int:=YI h.ni (len h.Rx) (dZ a).1
def AV(h:QP)(a:Y):TV×pE:=R2 h.ei h.oa 0 (pE.nd (V h.Rx (nN h a).toNat) 0) h.ni.nV.eJ (dZ a).1 h.oU
def VE(h:QP)(a:Y):QP:= {h with oa:=(AV h a).1,Rx:=vv h.Rx (nN h a).toNat (pE.enc (AV h a).2),d4:=⟨ZK (h.d4.ek+1),h.d4.zN,h.d4.oB,h.d4.oZ,ZK (h.d4.qE+1)⟩}
def OG(h:QP)(a:Y):Bool:=eW h && (jV h && E_ a)
def fE(h:QP)(a:Y):QP:=bif !(sN h) then h else bif (dZ a).2 != 0 then {h with d4:=⟨ZK (h.d4.ek+1),ZK (h.d4.zN+1),h.d4.oB,h.d4.oZ,h.d4.qE⟩} else bif !(yf h.ec (dZ a).1) then {h with d4:=⟨ZK (h.d4.ek+1),h.d4.zN,ZK (h.d4.oB+1),h.d4.oZ,h.d4.qE⟩} else bif decide (nN h a<0) then {h with d4:=⟨ZK (h.d4.ek+1),h.d4.zN,h.d4.oB,ZK (h.d4.oZ+1),h.d4.qE⟩} else mL (VE h a) (nN h a) (J (V h.Rx (nN h a).toNat) 6)
theorem nbZ{h:QP}{frame:Y}(f:sN h=true)(a:0≤nN h frame∧nN h frame<len h.Rx):lJ (VE h frame) (nN h frame) (J (V h.Rx (nN h frame).toNat) 6)=true:=by
 obtain⟨_,n2,k,l,m,g⟩:=Zd f;obtain⟨c,b⟩:∃c:Nat,nN h frame=(c:Int):=⟨(nN h frame).toNat,by omega⟩;have d:c<h.Rx.length:=by rw[b] at a;simp only[len] at a;omega
 have e:=(fh (g c d).1).1;obtain⟨n,o,p,i,q,r,s⟩:=WY e;have j:cq (VE h frame) (nN h frame)=(AV h frame).2.eo:=by show (pE.nd (V (vv h.Rx (nN h frame).toNat (pE.enc (AV h frame).2)) (nN h frame).toNat) 0).eo=_;rw[Y4 (by rw[b,lN];exact d)];rfl
 simp only[lJ,gF,kQ];refine⟨a.1, ?_, ?_, ?_, ?_⟩
 ·show nN h frame<len (vv h.Rx _ _);simp only[len,vw];exact a.2
 ·show nN h frame<len h.nL;have:=a.2;simp only[len] at this ⊢;omega
 ·rw[j];refine nsP ?_;rw[b,lN];exact e
 ·rw[b,lN];exact Wx.2 ⟨i,by show (pE.nd (V h.Rx c) 0).eo.d9≤31;omega⟩
theorem nA7(c:Nat):∀(m i:Nat) (v:rM),(Wc (λ_ v=>vv v c (HC (V v c))) m i v).length=v.length
 | 0,_,_=>rfl
 | m+1,i,v=>(nA7 c m (i+1) _).trans (vw ..)
theorem nx3(a:QP→α)(h:QP)(frame:Y)(j:i_ QP.ct h.enc)(n:OG h frame=true):nAs kW a h frame=a (fE h frame):=by
 obtain⟨x,o⟩:=jD (QP.nzL j);have m:=n;simp only[OG,gF] at m;obtain⟨s,b,p⟩:=m;have s':=s;simp only[eW,gF] at s';have r:=RG s'.1;unfold nAs fE;rw[show cp h=h from rfl];dsimp only;refine Bw (zL s) (Bw (zL b) ?_);refine oN (λ_=>rfl) (λt=>?_);have u:=ux t;refine Bw (zL p) ?_;refine oN (λ_=>rfl) (λ_=>?_);refine oN (λ_=>rfl) (λ_=>?_);have d:=nf2 h.ni (len h.Rx) (dZ frame).1;rw[show (YI h.ni (len h.Rx) (dZ frame).1==(-1))=decide (nN h frame<0) from by
  unfold nN;rcases d with d | d
  ·rw[d];rfl
  ·rw[yF (by omega)];exact y8.2 (λh=>by have:=eq_of_beq h;omega)]
 refine oN (λ_=>rfl) (λf=>?_);have f:=of_decide_eq_false f;have d:0≤nN h frame∧nN h frame<len h.Rx:=by
  rcases d with d | d
  ·exact absurd (show nN h frame<0 by unfold nN;omega) f
  ·exact d
 obtain⟨c,g⟩:∃c:Nat,nN h frame=(c:Int):=⟨(nN h frame).toNat,by omega⟩;have k:=nbZ (frame:=frame) u d;have v:YI h.ni (len h.Rx) (dZ frame).1=(c:Int):=g;have i:c<h.Rx.length:=by rw[g] at d;simp only[len] at d;omega
 have e:=congrArg List.length (pE.eta (o _ (oA i)));have w:∀q:pE,CI (V h.Rx c) 0 (pE.enc q)=pE.enc q:=λq=>YS (e.symm.trans rfl);unfold VE AV at k ⊢;rw[g,lN] at k;rw[g,v,lN,w];have l:∀(q:pE),Rn h.ei h.oa 0 q h.ni.nV.eJ (dZ frame).1 h.oU=true:=λ_=>Tl r;refine Bw (by rw[uH i,SG i,l];rfl) ?_;exact Bw (by rw[uH i,cd];exact zL k) rfl
def kc(m:TV):Prop:=Tn m.nQ∧m.nQ.length=38
theorem nxt{m:TV}(h:kc m):m.nQ.length≤64:=by have:=h.2;omega
theorem nn_{m:TV}(h:kc m):pw m=true:=nmb h.1 (nxt h)
theorem no2:∀(R:rM) (s:Y) (l:rM),Tn l→l.length≤64→Tn (nD R s l)∧(nD R s l).length=l.length
 | [],_,_,h,_=>⟨h,rfl⟩
 | r::rs,s,l,h,hl=>by have w:=Ua (a:=J r 0) (s:=s.take (vt (J r 1))) h hl;have:=no2 rs (s.drop (vt (J r 1))) _ w.1 (by rw[w.2];exact hl);exact⟨this.1,this.2.trans w.2⟩
theorem HL{l:rM}{m:TV}{d a:Int}{s:Y}{w:Bool}(h:kc m):kc (put l m d a s w).1:=by
 unfold put;cases (Zi l m d a (len s) w).2
 ·exact h
 ·have:=no2 (Zi l m d a (len s) w).1 s m.nQ h.1 (nxt h);exact⟨this.1,this.2.trans h.2⟩
theorem nlF{l:rM}{m:TV}{d:Int}{r:jW}{e:Y}(h:kc m):kc (Xz l m d r e).1:=by
 unfold Xz;cases (bif (P7 r)==0 then true else (len e) != 16)
 ·cases !(Y2 l m d (bn r r.pj) e).2
  ·exact HL h
  ·exact h
 ·exact h
theorem nls(l:rM)(d:Int)(p:Cf):∀(a:rM) (n:Int) (m:TV) (r:jW),kc m→kc (pK l d p a n m r).1
 | [],_,_,_,h=>h
 | k::a,n,m,r,h=>by
  simp only[pK];cases (Xz l m d r (St ⟨3,0,p.nA,zj p (J k 0),0,J k 0⟩)).2.2
  ·exact h
  ·exact nls l d p a _ _ _ (nlF h)
theorem nlA{l:rM}{m:TV}{d:Int}{r:jW}{p:Cf}(h:kc m):kc (zw l m d r p).1:=by
 unfold zw;cases (bif !(Wi r) then true else !(mK p))
 ·exact nls _ _ _ _ _ _ _ h
 ·exact h
theorem naA{l:rM}{m:TV}{d:Int}{r:jW}{e:rM}(h:kc m):kc (Bs l m d r e).1:=by
 have key:∀(e:rM) (s:TV×jW),kc s.1→kc (nY (qs l d) (LQ l d) (m,r,false) (λs=>(s.1,s.2,true)) e s).1:=by
  intro e
  induction e with
  | nil=>intro s a;exact a
  | cons x c b=>
   intro s a;simp only[nY];cases qs l d x s
   ·exact b _ (nlF a)
   ·exact h
 exact key e (m,r) h
theorem nfG(l:rM)(d:Int)(p:Cf)(a:Int):∀(c:rM) (t:Y) (m:TV) (o:rM),kc m→kc (ot l d p a c t m o).1
 | [],_,_,_,h=>h
 | b::c,t,m,o,h=>by
  simp only[ot];cases (wD l m d (zj p (J b 0)) (t.take a.toNat)).2
  ·exact h
  ·exact nfG l d p a c _ _ _ (HL h)
theorem ncW{l:rM}{m:TV}{d:Int}{q:Sx}{p:oY}{size a:Int}(h:kc m):kc (vC l m d q p size a).1:=by
 unfold vC;cases hJ q p size a
 case true=>exact h
 cases l8 q (OD (B0 p).1 a)
 case true=>exact h
 cases (xy q.nM (OD (B0 p).1 a)).2.2
 case false=>exact h
 have b:kc (y9 l m d q.nM (xy q.nM (OD (B0 p).1 a)).2.1 (B0 p).1 a).1:=nfG _ _ _ _ _ _ _ _ h;cases (y9 l m d q.nM (xy q.nM (OD (B0 p).1 a)).2.1 (B0 p).1 a).2.2
 case false=>exact h
 simp only[vy,rl];unfold Nt;generalize (aj (y9 l m d q.nM (xy q.nM (OD (B0 p).1 a)).2.1 (B0 p).1 a).2.1 size q.en)=D;cases (Bs l (y9 l m d q.nM (xy q.nM (OD (B0 p).1 a)).2.1 (B0 p).1 a).1 d q.d5 (D.map Z8)).2.2
 ·exact h
 ·exact naA b
theorem nEQ{l:rM}{m:TV}{d:Int}{q:QR}{x:F1}(h:kc m):kc (c_ l m d q x).1:=by
 unfold c_;cases (bif !(xn q) then true else !(YW x))
 ·cases (Y2 l m d (Ek q) (Po x (LX q))).2
  ·exact h
  ·exact HL h
 ·exact h
theorem naL{l:rM}{m:TV}{d:Int}{q:pE}{e key:Y}(h:kc m):kc (pG l m d q e key).1:=by
 unfold pG;cases (bif !(lS e).2 then true else bif (lS e).1.Op != 3 then true else decide ((lS e).1.e8<len (dQ q.qo.nP).1))
 ·cases (Y2 l m d (lS e).1.At (dQ q.qo.nP).1).2
  ·exact h
  ·exact nEQ (HL h)
 ·exact h
theorem tc{l:rM}{m:TV}{d:Int}{q:pE}{key:Y}(h:kc m):kc (OW l m d q key).1:=by
 unfold OW;cases (bif !(iy q) then true else bif !q.uc then true else (len key) != 16)
 ·cases (bif (TZ l m d q.d5).2.2 then (pG l m d q (TZ l m d q.d5).1 key).2.2 else false)
  ·exact h
  ·exact naL h
 ·exact h
theorem nbM{l:rM}{m:TV}{d:Int}{q:pE}{key:Y}{p:oY}{c:Bool}(h:kc m):kc (R2 l m d q key p c).1:=by
 unfold R2;cases (bif !(iy q) then true else bif !(yc p) then true else (len key) != 16)
 ·cases (bif c then bif q.uc then Z7 q.qo p else false else false)
  ·cases c
   ·exact tc (tc h)
   ·exact tc h
  ·exact h
 ·exact h
theorem nw4{l:rM}{m:TV}{d:Int}{q:pE}{p:Cf}{a:rM}{b:Int}(h:kc m):kc (nz l m d q p a b).1:=by
 unfold nz;cases (bif !(iy q) then true else bif !(mK p) then true else !(nn b 0 1000))
 ·exact nlA h
 ·exact h
theorem ncl{r:jW}(h:Wi r=true):0≤r.nW∧r.nW≤130944:=by
 unfold Wi rQ at h;cases a:nn r.nW 0 130944
 ·rw[a] at h;cases h
 ·exact Wx.1 a
theorem noV{r:jW}(h:Wi r=true){a b:Int}(d:0≤a)(j:a<2*r.nA)(e:0≤b)(k:b<2*r.nA)(f:(b - a) % (2*r.nA)≤r.nA):Wi ⟨r.nW,r.nA,a,b⟩=true:=by
 obtain⟨c,l,m,o,p,q,s,t,u⟩:=cB h;have g:UU ⟨r.nW,r.nA,a,b⟩=(b - a) % (2*r.nA):=by unfold UU;rw[c];rfl
 have i:nn r.nW 0 130944=true:=Wx.2 (ncl h);unfold Wi rQ;simp only[id];rw[g];rw[Ou (n:=2*r.nA),Ou (n:=2*r.nA - 1)];rw[i,c,show nn a 0 (2*r.nA - 1)=true from Wx.2 ⟨d,by omega⟩,show nn b 0 (2*r.nA - 1)=true from Wx.2 ⟨e,by omega⟩];exact Tl f
def wE(r q:jW):Prop:=Wi q=true∧q.nW=r.nW∧q.nA=r.nA
theorem za{a b c:jW}(h:wE a b)(k:wE b c):wE a c:=⟨k.1,k.2.1.trans h.2.1,k.2.2.trans h.2.2⟩
theorem nsg{r:jW}(h:Wi r=true):P7 r=r.nA - UU r:=by obtain⟨a,b,c,d,e,f,g,i,j⟩:=cB h;have k:=wL (r.pj - r.ej) (show 2*r.nA≠0 by omega);unfold P7 y_;rw[h];simp only[vy,rl,id];exact Ou
theorem nvi{l:rM}{m:TV}{d:Int}{r:jW}{e:Y}(h:Wi r=true):wE r (Xz l m d r e).2.1:=by
 unfold Xz;cases a:(bif (P7 r)==0 then true else (len e) != 16)
 case true=>exact⟨h,rfl,rfl⟩
 cases (Y2 l m d (bn r r.pj) e).2
 case false=>exact⟨h,rfl,rfl⟩
 obtain⟨k,b,o,c,f,p,q,s,t⟩:=cB h;have u:=nsg h;have v:P7 r≠0:=by intro g;rw[g] at a;cases a
 have i:vu (ZK (r.pj+1)) (ZK (2*r.nA))=(r.pj+1) % (2*r.nA):=by rw[Ou (n:=r.pj+1),Ou (n:=2*r.nA)];exact w9 (by omega)
 refine⟨?_,rfl,rfl⟩;show Wi ⟨r.nW,r.nA,r.ej,vu (ZK (r.pj+1)) (ZK (2*r.nA))⟩=true;rw[i];refine noV h c f (wL _ (by omega)) (Int.emod_lt_of_pos _ (by omega)) ?_;rw[Int.sub_emod,Int.emod_emod_of_dvd _ (Int.dvd_refl _),←Int.sub_emod,show r.pj+1 - r.ej=(r.pj - r.ej)+1 by omega,Int.add_emod];rw[←b];have j:(1:Int) % (2*r.nA)=1:=Int.emod_eq_of_lt (by omega) (by omega);have w:=wL (r.pj - r.ej) (show 2*r.nA≠0 by omega);rw[j,Int.emod_eq_of_lt (by omega) (by omega)];omega
theorem nfn(l:rM)(d:Int)(p:Cf):∀(a:rM) (n:Int) (m:TV) (r:jW),Wi r=true→wE r (pK l d p a n m r).2.1
 | [],_,_,_,h=>⟨h,rfl,rfl⟩
 | k::a,n,m,r,h=>by
  simp only[pK];have b:=nvi (l:=l) (m:=m) (d:=d) (e:=St ⟨3,0,p.nA,zj p (J k 0),0,J k 0⟩) h;cases (Xz l m d r (St ⟨3,0,p.nA,zj p (J k 0),0,J k 0⟩)).2.2
  ·exact⟨h,rfl,rfl⟩
  ·exact za b (nfn l d p a _ _ _ b.1)
theorem ngR{l:rM}{m:TV}{d:Int}{r:jW}{p:Cf}(h:Wi r=true):wE r (zw l m d r p).2.1:=by
 unfold zw;cases (bif !(Wi r) then true else !(mK p))
 ·exact nfn _ _ _ _ _ _ _ h
 ·exact⟨h,rfl,rfl⟩
theorem nhU{l:rM}{m:TV}{d:Int}{r:jW}{e:rM}(h:Wi r=true):wE r (Bs l m d r e).2.1:=by
 have key:∀(e:rM) (s:TV×jW),wE r s.2→wE r (nY (qs l d) (LQ l d) (m,r,false) (λs=>(s.1,s.2,true)) e s).2.1:=by
  intro e
  induction e with
  | nil=>intro s a;exact a
  | cons x c b=>
   intro s a;simp only[nY];cases qs l d x s
   ·exact b _ (za a (nvi a.1))
   ·exact⟨h,rfl,rfl⟩
 exact key e (m,r) ⟨h,rfl,rfl⟩
theorem naZ{l:rM}{m:TV}{d:Int}{r:jW}(h:Wi r=true):wE r (TZ l m d r).2.1:=by
 cases a:(TZ l m d r).2.2
 ·have:(TZ l m d r).2.1=r:=by
   revert a;unfold TZ;cases (bif !(Wi r) then true else (UU r)==0)
   ·cases (vV l m d (bn r r.ej) 16).2
    ·intro _;rfl
    ·intro h;cases h
   ·intro _;rfl
  rw[this];exact⟨h,rfl,rfl⟩
 ·have c:0<UU r:=by
   obtain⟨g,i,j,k,n,o,p,q,s⟩:=cB h;have t:=wL (r.pj - r.ej) (show 2*r.nA≠0 by omega);have:UU r≠0:=by intro e;unfold TZ at a;rw[e,h] at a;cases a
   omega
  obtain⟨b,f,u⟩:=yQ h c a;refine⟨f, ?_, ?_⟩
  ·rw[b]
  ·rw[b]
theorem nyA(l:rM)(m:TV)(d:Int):∀(n:Nat) (r:jW) (o:rM),Wi r=true→(Bl l m d n r o).2.1.nW=r.nW∧(Bl l m d n r o).2.1.nA=r.nA
 | 0,_,_,_=>⟨rfl,rfl⟩
 | n+1,r,o,h=>by
  unfold Bl;have a:=naZ (l:=l) (m:=m) (d:=d) h;cases decide (0<UU r)
  ·exact⟨rfl,rfl⟩
  ·simp only[HI];cases (bif !(TZ l m d r).2.2 then true else !(lS (TZ l m d r).1).2)
   ·simp only[rl];cases (bif (lS (TZ l m d r).1).1.Op==1 then (bits .and .i64 (lS (TZ l m d r).1).1.ez 1) != 0 else false)
    ·have:=nyA l m d n _ (o++[UJ.enc (lS (TZ l m d r).1).1]) a.1;exact⟨this.1.trans a.2.1,this.2.trans a.2.2⟩
    ·exact a.2
   ·exact⟨rfl,rfl⟩
theorem nas{l:rM}{m:TV}{d:Int}{r:jW}(h:Wi r=true):wE r (l7 l m d r).1:=by
 obtain⟨e,b,c⟩:=S0 (l:=l) (m:=m) (d:=d) r;by_cases a:(l7 l m d r).2.2=0
 ·rw[b a];exact⟨h,rfl,rfl⟩
 ·refine⟨(c a).2.1, ?_⟩;unfold l7;cases (bif !(Wi r) then true else (UU r)==0)
  ·simp only[rl];rw[(nq_ (V7 l m d r) (DF (V7 l m d r).1) (Wz l m d (DF (V7 l m d r).1).1) (ij (Wz l m d (DF (V7 l m d r).1).1).1) (uN (ij (Wz l m d (DF (V7 l m d r).1).1).1).1)).1];unfold V7;cases (bif !(Wi r) then true else (UU r)==0)
   ·exact nyA l m d 16 r [] h
   ·exact⟨rfl,rfl⟩
  ·exact⟨rfl,rfl⟩
theorem nBs(l:rM)(m:TV)(d:Int):∀(n:Nat) (r:jW) (o:rM) (a b:Int),Wi r=true→wE r (Gf l m d n r o a b).1
 | 0,_,_,_,_,h=>⟨h,rfl,rfl⟩
 | n+1,r,o,a,b,h=>by
  unfold Gf;have c:=nas (l:=l) (m:=m) (d:=d) h;cases (l7 l m d r).2.2==0
  ·exact za c (nBs l m d n _ _ _ _ c.1)
  ·exact⟨h,rfl,rfl⟩
theorem nxi{l:rM}{m:TV}{d:Int}{r:jW}(h:Wi r=true):wE r (xI l m d r).1:=nBs l m d 40 r [] 0 0 h
def OS(n:Int)(l:rM):Prop:=(∀r∈l,0≤J r 0∧J r 0<n)∧(l.map (λr=>J r 0)).Nodup
theorem nto{n:Int} :∀(l s:rM),(∀i:Nat,(i:Int)<n→i<s.length∧∃b,V s i=[.bool b])→
  (nY (XN n) UT false (λ_=>true) l s=true↔OS n l∧∀r∈l,yz (V s (vt (J r 0))) 0=false)
 | [],s,_=>⟨λ_=>⟨⟨λr a=>(by cases a),List.nodup_nil⟩,λr a=>(by cases a)⟩,λ_=>rfl⟩
 | x::l,s,hs=>by
  simp only[nY];cases g:nn (J x 0) 0 (n - 1)
  ·have e:XN n x s=true:=by unfold XN;rw[g];rfl
   rw[e];refine⟨λh=>(by cases h),λh=>?_⟩;have:=h.1.1 x (by simp);rw[show nn (J x 0) 0 (n - 1)=true from Wx.2 ⟨this.1,by omega⟩] at g;cases g
  ·have E:=Wx.1 g;have e:XN n x s=yz (V s (vt (J x 0))) 0:=by unfold XN;rw[g];rfl
   obtain⟨i,o⟩:∃i:Nat,J x 0=(i:Int):=⟨(J x 0).toNat,by omega⟩;obtain⟨z,b,v⟩:=hs i (by omega);have w:∀j,V (UT x s) j=if j=i then [.bool true] else V s j:=by
    intro j;unfold UT;rw[o,lN,v,wc];by_cases d:j=i
    ·rw[if_pos d,d];exact Y4 z _
    ·rw[if_neg d];exact mH (λh=>d h.symm) _
   have y:=nto l (UT x s) (λj d=>by
    obtain⟨A,c,B⟩:=hs j d;refine⟨by rw[mO];exact A, ?_⟩;rw[w];by_cases h:j=i
    ·rw[if_pos h];exact⟨true,rfl⟩
    ·rw[if_neg h];exact⟨c,B⟩)
   rw[e];have p:yz (V s (vt (J x 0))) 0=b:=by rw[o,lN,v];rfl
   rw[p];have t:∀r∈l,yz (V (UT x s) (vt (J r 0))) 0=(if vt (J r 0)=i then true else yz (V s (vt (J r 0))) 0):=by intro r _;rw[w];split<;>rfl
   constructor
   ·intro h;cases b
    ·obtain⟨⟨m,f⟩,k⟩:=y.1 h;refine⟨⟨λr a=>?_, ?_⟩,λr a=>?_⟩
     ·rcases xd.1 a with rfl | a
      ·omega
      ·exact m r a
     ·rw[wM,xe];refine⟨λC=>?_,f⟩;obtain⟨r,a,u⟩:=xf.1 C;have:=k r a;rw[t r a,if_pos (by rw[u,o];rfl)] at this;cases this
     ·rcases xd.1 a with rfl | a
      ·exact p
      ·have:=k r a;rw[t r a] at this;split at this
       ·cases this
       ·exact this
    ·cases h
   ·rintro ⟨⟨m,f⟩,k⟩
    have D:b=false:=by rw[←p];exact k x (by simp)
    subst D;refine y.2 ⟨⟨λr a=>m r (by simp[a]), ?_⟩,λr a=>?_⟩
    ·rw[wM,xe] at f;exact f.2
    ·rw[t r a];split
     ·rename_i h;rw[wM,xe] at f;have q:=m r (by simp[a]);exact absurd (xf.2 ⟨r,a,show J r 0=J x 0 by omega⟩) f.1
     ·exact k r (by simp[a])
theorem npU(x:List DC)(n i:Nat)(h:i<n):V (wJ n x) i=x:=by simp[V,wk,List.getElem?_replicate,h]
theorem zK{p:Cf} :mK p=true↔(nn p.nW 0 130944=true∧nn p.nA 1 512=true∧nn p.d9 0 16=true)∧OS p.d9 p.oq:=by
 have key:=nto (n:=p.d9) p.oq (wJ (vt p.d9) [.bool false]) (λi b=>⟨by rw[xH];omega,false,npU _ _ _ (by omega)⟩);unfold mK;cases nn p.nW 0 130944
 ·simp
 cases nn p.nA 1 512
 ·simp
 cases nn p.d9 0 16
 ·simp
 simp only[vy,rl];rw[key];simp only[true_and,and_true];refine⟨λh=>h.1,λh=>⟨h,λr a=>?_⟩⟩;have:=h.1 r a;rw[npU _ _ _ (by omega)];rfl
theorem Rt:∀(n:Nat) (l:List Int),l.Nodup→(∀x∈l,0≤x∧x<(n:Int))→l.length≤n
 | 0,[],_,_=>x1 _
 | 0,x::l,_,h=>by have:=h x (by simp);omega
 | n+1,l,hd,h=>by
  by_cases c:(n:Int)∈l
  ·have e:=List.length_erase_of_mem c;have:=Rt n (l.erase (n:Int)) (hd.erase _) (λx a=>by
    have d:=h x (List.mem_of_mem_erase a);have f:x≠(n:Int):=λb=>by subst b;exact absurd a (λh=>by have:=(List.Nodup.mem_erase_iff hd).1 h;exact this.1 rfl)
    omega)
   omega
  ·have:=Rt n l hd (λx a=>by
    have d:=h x a;have f:x≠(n:Int):=λb=>by subst b;exact c a
    omega)
   omega
theorem na5{p:Cf}(h:mK p=true):p.oq.length≤16:=by
 obtain⟨⟨_,_,a⟩,b,c⟩:=zK.1 h;have a:=Wx.1 a;have:=Rt 16 _ c (λx d=>by obtain⟨r,e,rfl⟩:=xf.1 d;have:=b r e;omega)
 rw[List.length_map] at this;exact this
theorem naj{n:Int}{l k:rM}(h:OS n l)(s:wK k l):OS n k:=
 ⟨λr a=>h.1 r (s.subset a),List.Pairwise.sublist (s.map _) h.2⟩
theorem nk5{n:Int}{l k:rM}(h:OS n l)(s:List.Perm k l):OS n k:=
 ⟨λr a=>h.1 r (s.mem_iff.1 a),(s.map _).nodup_iff.2 h.2⟩
def na(p q:Cf):Prop:=mK q=true∧q.nW=p.nW∧q.nA=p.nA∧q.d9=p.d9
theorem ngd{a b c:Cf}(h:na a b)(k:na b c):na a c:=⟨k.1,k.2.1.trans h.2.1,k.2.2.1.trans h.2.2.1,k.2.2.2.trans h.2.2.2⟩
theorem SZ{p:Cf}{l:rM}(h:mK p=true)(s:wK l p.oq):mK ⟨p.nW,p.nA,p.d9,l⟩=true:=by obtain⟨a,b⟩:=zK.1 h;exact zK.2 ⟨a,naj b s⟩
theorem nsh{p:Cf}{l:rM}(h:mK p=true):na p (Ni p l).1:=by
 unfold Ni;rw[h];cases a:mK (⟨p.nW,p.nA,p.d9,p.oq++l⟩:Cf)
 ·exact⟨h,rfl,rfl,rfl⟩
 ·exact⟨a,rfl,rfl,rfl⟩
theorem nxe{p:Cf}{l:rM} :(Ni p l).2=true↔mK p=true∧mK (⟨p.nW,p.nA,p.d9,p.oq++l⟩:Cf)=true:=by unfold Ni;cases mK p<;>cases mK (⟨p.nW,p.nA,p.d9,p.oq++l⟩:Cf)<;>simp
theorem nn1(l:rM)(d:Int)(p:Cf):∀(a:rM) (n:Int) (m:TV) (r:jW),∃b,(pK l d p a n m r).2.2.1=⟨p.nW,p.nA,p.d9,b⟩∧wK b a
 | [],_,_,_=>⟨[],rfl,List.Sublist.refl _⟩
 | k::a,n,m,r=>by
  simp only[pK];cases (Xz l m d r (St ⟨3,0,p.nA,zj p (J k 0),0,J k 0⟩)).2.2
  ·exact⟨k::a,rfl,List.Sublist.refl _⟩
  ·obtain⟨b,e,s⟩:=nn1 l d p a (ZK (n+1)) (Xz l m d r (St ⟨3,0,p.nA,zj p (J k 0),0,J k 0⟩)).1 (Xz l m d r (St ⟨3,0,p.nA,zj p (J k 0),0,J k 0⟩)).2.1;exact⟨b,e,s.trans (List.sublist_cons_self k a)⟩
theorem nxj{l:rM}{m:TV}{d:Int}{r:jW}{p:Cf}(h:mK p=true):na p (zw l m d r p).2.2.1:=by
 unfold zw;cases (bif !(Wi r) then true else !(mK p))
 ·obtain⟨a,e,s⟩:=nn1 l d p p.oq 0 m r;simp only[rl];rw[e];exact⟨SZ h s,rfl,rfl,rfl⟩
 ·exact⟨h,rfl,rfl,rfl⟩
theorem ntd:∀(a b:rM),oP (a++b)=oP a++oP b
 | [],b=>rfl
 | r::a,b=>by simp only[x3,oP,ntd a b,wb]
theorem Y7:∀(a b:rM),bq (a++b)=bq a+bq b
 | [],b=>by simp[bq]
 | r::a,b=>by simp only[x3,bq,Y7 a b,Int.add_assoc]
theorem fhC:∀(l:rM),ke l=(oP l).length
 | []=>rfl
 | r::l=>by simp only[ke,oP,Qe,fhC l]
theorem t8{q:Sx} :Yo q=true↔(Wi q.d5=true∧mK q.nM=true∧nn q.en 0 65535=true)∧q.nx.all (gB q.d5.nA)=true∧mK (⟨q.nM.nW,q.nM.nA,q.nM.d9,q.nM.oq++oP q.nx⟩:Cf)=true∧bq q.nx≤q.d5.nA:=by
 have a:=nxe (p:=q.nM) (l:=oP q.nx);unfold Yo;cases Wi q.d5
 ·simp
 cases b:mK q.nM
 ·simp
 cases nn q.en 0 65535
 ·simp
 rw[b] at a;simp only[vy,rl,true_and];cases q.nx.all (gB q.d5.nA)
 ·simp
 ·simp only[eq_self,true_and] at a ⊢;rw[←a];cases (Ni q.nM (oP q.nx)).2
  ·simp
  ·simp
theorem nq7{n:Int} :∀ {l:rM},l.all (gB n)=true→(l.length:Int)≤bq l
 | [],_=>by simp[bq]
 | r::rs,h=>by simp only[x4,gF] at h;have:=nq7 h.2;have:=(YO.1 h.1).1;simp only[bq,di];omega
theorem nn3{l:rM}{r:List DC}(h:r∈l):(Zc r 2).length≤ke l:=by
 induction l with
 | nil=>cases h
 | cons x l a=>
  simp only[ke];rcases xd.1 h with rfl | h
  ·omega
  ·have:=a h;omega
theorem ndF{q:Sx}(h:Yo q=true):q.nM.oq.length≤16∧q.nx.length≤16∧ke q.nx≤16:=by obtain⟨⟨d,g,i⟩,e,f,j⟩:=t8.1 h;have a:=na5 f;have b:=nq7 e;have c:=(FZ d).2;rw[Qe,←fhC] at a;exact⟨by omega,by omega,by omega⟩
theorem nAW{q:Sx}(h:Yo q=true):nG q=true∧TC q=true:=by obtain⟨a,b,c⟩:=ndF h;simp only[nG,TC,wB,gF,vz,kQ];exact⟨⟨Tl (by omega),Tl (by omega),λr d=>Tl (by have:=nn3 d;omega)⟩,by omega,Tl (by omega),by omega⟩
theorem ndA{n:Int}{l:rM}(h:l.all (gB n)=true)(b:bq l≤16):∀(m i:Nat) (o:Int),i+m=l.length→0≤o→o+bq (l.drop i)≤16→Wc (λi o=>ZK (o+J (V l i) 1)) m i o=o+bq (l.drop i)
 | 0,i,o,h1,h2,h3=>by rw[List.drop_eq_nil_of_le (by omega)];simp[Wc,bq]
 | m+1,i,o,h1,h2,h3=>by
  have a:i<l.length:=by omega
  have c:l.drop i=V l i::l.drop (i+1):=by rw[zc a];simp[V,wk,a]
  rw[c] at h3 ⊢;simp only[bq] at h3 ⊢;have e:=(YO.1 (vz.1 h _ (oA a))).1;have f:0≤bq (l.drop (i+1)):=Fi (n:=n) (vz.2 (λr d=>vz.1 h r (zn d)));simp only[Wc];rw[Ou,ndA h b m (i+1) _ (by omega) (by omega) (by omega)];omega
theorem ng1{q:Sx}(h:Yo q=true):ZI q=bq q.nx:=by obtain⟨⟨a,d,e⟩,b,f,g⟩:=t8.1 h;have c:=(FZ a).2;have:=ndA b (by omega) q.nx.length 0 0 (by omega) (by omega) (by simp;omega);unfold ZI;rw[this];simp
theorem nuG{p:Cf}{n:Int}(h:(xy p n).2.2=true):(xy p n).1=⟨p.nW,p.nA,p.d9,(xy p n).1.oq⟩∧(xy p n).2.1++(xy p n).1.oq=p.oq:=by
 unfold xy at h ⊢;cases a:(bif !(mK p) then true else !(nn n 0 (len p.oq)))
 ·have b:=Wx.1 (ux (Uk a).2);refine⟨rfl, ?_⟩;show Xg p.oq n++qg p.oq n=p.oq;unfold qg Xg;simp only[List.take_length,List.drop_zero];exact AI _ _
 ·rw[a] at h;cases h
theorem nfz{l:rM}{m:TV}{d:Int}{q:Sx}{p:oY}{size a:Int}(h:Yo q=true):Yo (vC l m d q p size a).2.1=true∧wE q.d5 (vC l m d q p size a).2.1.d5:=by
 obtain⟨⟨f,t,j⟩,t4,u,G⟩:=t8.1 h;have same:Yo q=true∧wE q.d5 q.d5:=⟨h,f,rfl,rfl⟩;unfold vC;cases v:hJ q p size a
 case true=>exact same
 cases b:l8 q (OD (B0 p).1 a)
 case true=>exact same
 cases k:(xy q.nM (OD (B0 p).1 a)).2.2
 case false=>exact same
 obtain⟨c,n,H,I,K,w,L,M,N,O,g⟩:=ntY (Z:=l) (m:=m) (gp:=d) v b k;cases x:(y9 l m d q.nM (xy q.nM (OD (B0 p).1 a)).2.1 (B0 p).1 a).2.2
 case false=>exact same
 have g:=(g x).2;simp only[vy,rl];unfold Nt;generalize (aj (y9 l m d q.nM (xy q.nM (OD (B0 p).1 a)).2.1 (B0 p).1 a).2.1 size q.en)=D at g ⊢;have i:=nhU (l:=l) (m:=(y9 l m d q.nM (xy q.nM (OD (B0 p).1 a)).2.1 (B0 p).1 a).1) (d:=d) (e:=D.map Z8) f;cases (Bs l (y9 l m d q.nM (xy q.nM (OD (B0 p).1 a)).2.1 (B0 p).1 a).1 d q.d5 (D.map Z8)).2.2
 case false=>exact same
 refine⟨t8.2 ?_,i⟩;obtain⟨o,r⟩:=nuG k;have P:=(FZ f).2;have y:=Fi t4;have z:bq q.nx+(n:Int)+1≤q.d5.nA:=by unfold l8 at b;rw[w,ng1 h] at b;have:=of_decide_eq_false (Uk (Uk b).2).2;rw[Ou (n:=bq q.nx+(n:Int)),Ou] at this;omega
 generalize (xy q.nM (OD (B0 p).1 a)).2.1=B at*;generalize Q:(xy q.nM (OD (B0 p).1 a)).1=F at*;have A:=Wx.1 j;simp only[vy,rl];rw[i.2.2];have s:len D=(n:Int)+1:=by simp only[len];omega
 refine⟨⟨i.1, ?_, ?_⟩, ?_, ?_, ?_⟩
 ·rw[o];exact SZ t (by rw[←r];exact List.sublist_append_right _ _)
 ·show nn (vu (ZK (q.en+1)) 65536) 0 65535=true;rw[Ou,w9 (by omega)];exact Wx.2 ⟨by omega,by omega⟩
 ·show (q.nx++[[DC.int q.en,DC.int (len D),DC.sl B]]).all (gB q.d5.nA)=true;rw[List.all_append,t4];simp only[x4,List.all_nil,Bool.and_true,Bool.true_and];exact YO.2 ⟨⟨show 1≤len D by omega,show len D≤_ by omega⟩,j⟩
 ·rw[o];show mK (⟨q.nM.nW,q.nM.nA,q.nM.d9,F.oq++oP (q.nx++[[DC.int q.en,DC.int (len D),DC.sl B]])⟩:Cf)=true;obtain⟨C,E⟩:=zK.1 u;refine zK.2 ⟨C,nk5 E ?_⟩;show List.Perm (F.oq++oP (q.nx++[[DC.int q.en,DC.int (len D),DC.sl B]])) (q.nM.oq++oP q.nx);rw[ntd,←r];show List.Perm (F.oq++(oP q.nx++(B++[]))) (B++F.oq++oP q.nx);rw[List.append_nil,wb,←wb F.oq];exact List.perm_append_comm
 ·show bq (q.nx++[[DC.int q.en,DC.int (len D),DC.sl B]])≤q.d5.nA;rw[Y7];show bq q.nx+(len D+0)≤_;omega
theorem ntB{q:Sx}(b:mK (⟨q.nM.nW,q.nM.nA,q.nM.d9,q.nM.oq++oP q.nx⟩:Cf)=true):∀(m i:Nat) (s:Cf×rM),i+m≤q.nx.length→
  s.1=⟨q.nM.nW,q.nM.nA,q.nM.d9,s.1.oq⟩→s.1.oq++oP (q.nx.drop i)=q.nM.oq++oP q.nx→
  (Wc (N_ q) m i s).1=⟨q.nM.nW,q.nM.nA,q.nM.d9,(Wc (N_ q) m i s).1.oq⟩∧(Wc (N_ q) m i s).1.oq++oP (q.nx.drop (i+m))=q.nM.oq++oP q.nx
 | 0,i,s,h1,h2,h3=>⟨h2,h3⟩
 | m+1,i,s,h1,h2,h3=>by
  have c:i<q.nx.length:=by omega
  have f:q.nx.drop i=V q.nx i::q.nx.drop (i+1):=by rw[zc c];simp[V,wk,c]
  rw[f] at h3;simp only[oP] at h3;have d:wK (s.1.oq++Zc (V q.nx i) 2) (q.nM.oq++oP q.nx):=by rw[←h3,←wb];exact x5 _ _
  have g:mK (⟨s.1.nW,s.1.nA,s.1.d9,s.1.oq++Zc (V q.nx i) 2⟩:Cf)=true:=by rw[h2];have a:=SZ b d;exact a
  have h:mK s.1=true:=by rw[h2];have a:=SZ b ((x5 _ _).trans d);exact a
  have e:(Ni s.1 (Zc (V q.nx i) 2)).1=⟨s.1.nW,s.1.nA,s.1.d9,s.1.oq++Zc (V q.nx i) 2⟩:=by unfold Ni;rw[h,g];rfl
  have:=ntB b m (i+1) (N_ q i s) (by omega) (by
   show (Ni s.1 (Zc (V q.nx i) 2)).1=⟨q.nM.nW,q.nM.nA,q.nM.d9,(Ni s.1 (Zc (V q.nx i) 2)).1.oq⟩;rw[e,h2]) (by
   show (Ni s.1 (Zc (V q.nx i) 2)).1.oq++_=_;rw[e,wb];exact h3)
  rw[show i+(m+1)=i+1+m by omega];exact this
theorem nAq{q:Sx}{n:Int}(h:Yo q=true):Yo (Vr q n).1=true∧(Vr q n).1.d5=q.d5:=by
 obtain⟨⟨g,o,i⟩,t4,b,p⟩:=t8.1 h;unfold Vr;cases j:(bif !(Yo q) then true else !(nn n 0 (len q.nx)))
 ·have k:=Wx.1 (ux (Uk j).2);simp only[len] at k;obtain⟨c,a⟩:=ntB b n.toNat 0 (q.nM,[]) (by omega) rfl (by simp);rw[vJ] at a;simp only[rl,and_true];generalize (Wc (N_ q) n.toNat 0 (q.nM,[])).1=P at c a ⊢;have m:(q.nx.drop n.toNat).all (gB q.d5.nA)=true:=vz.2 (λr d=>vz.1 t4 r (zn d));refine t8.2 ⟨⟨g, ?_,i⟩,m, ?_, ?_⟩
  ·show mK P=true;rw[c];have f:=SZ b (l:=P.oq) (by show wK P.oq (q.nM.oq++oP q.nx);rw[←a];exact x5 _ _);exact f
  ·show mK (⟨P.nW,P.nA,P.d9,P.oq++oP (q.nx.drop n.toNat)⟩:Cf)=true;rw[a,c];exact b
  ·show bq (q.nx.drop n.toNat)≤q.d5.nA;have e:=Y7 (q.nx.take n.toNat) (q.nx.drop n.toNat);rw[AI] at e;have:=Fi (n:=q.d5.nA) (l:=q.nx.take n.toNat) (vz.2 (λr d=>vz.1 t4 r (List.mem_of_mem_take d)));omega
 ·exact⟨h,rfl⟩
theorem hI(a b:Bool):(bif a then b else false)=true↔a=true∧b=true:=by cases a<;>cases b<;>simp
theorem nqj(a b:Bool):(bif a then true else b)=false↔a=false∧b=false:=by cases a<;>cases b<;>simp
theorem nrA(a b:Bool):(bif a then false else b)=true↔a=false∧b=true:=by cases a<;>cases b<;>simp
theorem nvL(a b:Bool):(bif a then true else b)=true↔a=true∨b=true:=by cases a<;>cases b<;>simp
def Nj(q:pE):Prop:=rZ q.qo.nP=true∧(0≤q.qo.nA∧q.qo.nA≤320)∧(1≤q.qo.d9∧q.qo.d9≤320)
def nay(q:pE):Prop:=Wi q.d5=true∧xn q.eo=true∧xn q.eU=true∧q.eo.nW=q.eU.nW∧q.eo.nA=q.eU.nA∧(0≤q.qj∧q.qj≤1000000000000)∧((q.uc=true∧Nj q)∨(q.uc=false∧q.qo=tZ))
theorem lY{q:pE} :iy q=true↔nay q:=by
 have o:∀x:Bool,(x != true)= !x:=λx=>by cases x<;>rfl
 obtain⟨r,d,v,⟨⟨p,s,t,u,w,y,z,A,⟨B,C,D,E,F,G,H,I⟩⟩,i,j⟩,k,n⟩:=q;unfold iy Q5 nay Nj tZ;simp only[id];cases Wi r
 ·simp
 cases xn d
 ·simp
 cases xn v
 ·simp
 simp only[vy,rl];by_cases c:d.nW=v.nW
 case neg=>simp[c]
 by_cases e:d.nA=v.nA
 case neg=>simp[c,e]
 rw[show (d.nW != v.nW)=false by simp[c],show (d.nA != v.nA)=false by simp[e]];simp only[rl];cases f:nn n 0 1000000000000
 ·refine⟨λh=>(by cases h),λh=>?_⟩;rw[show nn n 0 1000000000000=true from Wx.2 h.2.2.2.2.2.1] at f;cases f
 have g:=Wx.1 f;cases k
 ·simp only[w3,vy,HI,rl,hI,beq_iff_eq,true_and,c,e,g,Bool.false_eq_true,false_and,false_or,jf.mk.injEq,oY.mk.injEq,ch.mk.injEq,and_assoc,and_self,and_true]
 ·have l:=Wx (n:=i) (a:=0) (b:=320);have m:=Wx (n:=j) (a:=1) (b:=320);simp only[vy,rl,hI,true_and,c,e,g,and_self,Bool.true_eq_false,false_and,or_false];exact and_congr Iff.rfl (and_congr l m)
theorem wU(q:pE):pE.nd (pE.enc q) 0=q:=rfl
def ncg(q a:pE):Prop:=a.eU=q.eU∧wE q.d5 a.d5∧xn a.eo=true∧a.eo.nW=q.eo.nW∧a.eo.nA=q.eo.nA∧q.qj≤a.qj∧a.qj≤q.qj+320
theorem nnl{q:pE}(h:iy q=true):ncg q q:=by obtain⟨a,b,c,_⟩:=lY.1 h;exact⟨rfl,⟨a,rfl,rfl⟩,b,rfl,rfl,by omega,by omega⟩
theorem ntV(l:rM)(m:TV)(d:Int)(q:QR)(x:F1):(c_ l m d q x).2.1.nW=q.nW∧(c_ l m d q x).2.1.nA=q.nA:=by
 unfold c_;cases (bif !(xn q) then true else !(YW x))
 ·cases (Y2 l m d (Ek q) (Po x (LX q))).2<;>exact⟨rfl,rfl⟩
 ·exact⟨rfl,rfl⟩
theorem nho(l:rM)(m:TV)(d:Int)(q:pE)(e key:Y):(pG l m d q e key).2.1.nW=q.eo.nW∧(pG l m d q e key).2.1.nA=q.eo.nA:=by
 unfold pG;cases (bif !(lS e).2 then true else bif (lS e).1.Op != 3 then true else decide ((lS e).1.e8<len (dQ q.qo.nP).1))
 ·cases (Y2 l m d (lS e).1.At (dQ q.qo.nP).1).2
  ·exact⟨rfl,rfl⟩
  ·exact ntV _ _ _ _ _
 ·exact⟨rfl,rfl⟩
theorem mD{l:rM}{m:TV}{d:Int}{q:pE}{key:Y}(h:iy q=true)(t:q.qj≤1000000000):iy (OW l m d q key).2=true∧ncg q (OW l m d q key).2:=by
 obtain⟨p,f,i,j,k,r,a⟩:=lY.1 h;unfold OW;cases g:(bif !(iy q) then true else bif !q.uc then true else (len key) != 16)
 case true=>exact⟨h,nnl h⟩
 obtain⟨_,g⟩:=Uk g;have n:=ux (Uk g).1;have b:=naZ (l:=l) (m:=m) (d:=d) p;have o:=nvd (l:=l) (m:=m) (d:=d) (e:=(TZ l m d q.d5).1) (key:=key) f;have c:=nho l m d q (TZ l m d q.d5).1 key;cases (bif (TZ l m d q.d5).2.2 then (pG l m d q (TZ l m d q.d5).1 key).2.2 else false)
 ·have s:Nj q:=by
   rcases a with a | a
   ·exact a.2
   ·rw[a.1] at n;cases n
  obtain⟨_,_,u,v⟩:=s;have e:ZK (q.qj+q.qo.d9)=q.qj+q.qo.d9:=Ou;simp only[rl];rw[e];refine⟨lY.2 ⟨b.1,f,i,j,k,⟨?_, ?_⟩,.inr ⟨rfl,rfl⟩⟩,rfl,b,f,rfl,rfl, ?_, ?_⟩
  ·show 0≤q.qj+q.qo.d9;omega
  ·show q.qj+q.qo.d9≤_;omega
  ·show q.qj≤q.qj+q.qo.d9;omega
  ·show q.qj+q.qo.d9≤_;omega
 ·simp only[HI,rl];exact⟨lY.2 ⟨b.1,o,i,c.1.trans j,c.2.trans k,r,.inr ⟨rfl,rfl⟩⟩,rfl,b,o,c.1,c.2,by show q.qj≤q.qj;omega,by show q.qj≤q.qj+320;omega⟩
theorem V5{p:oY}(h:yc p=true):rZ p=true:=by unfold yc Ak at h;simp only[id,hI] at h;exact h.1
theorem nem{s:jf}{p:oY}(a:rZ s.nP=true)(h:0≤s.nA∧s.nA≤320)(u:1≤s.d9∧s.d9≤320):rZ (dX s p).nP=true∧(0≤(dX s p).nA∧(dX s p).nA≤320)∧(1≤(dX s p).d9∧(dX s p).d9≤320):=by
 unfold dX;cases i:Z7 s p
 case false=>exact⟨a,h,u⟩
 unfold Z7 at i;simp only[nrA] at i;obtain⟨j,k,F⟩:=i;unfold VT at j;simp only[nqj] at j;obtain⟨_,e,G,v,l,m⟩:=j;have m:=ux m;have e:=ux e;have l:s.nP.pk.ez=16:=by simpa using l
 unfold bm at k;simp only[nqj] at k;obtain⟨o,H,f,q,g⟩:=k;have o:=Wx.1 (ux o);have q:=Wx.1 (ux q);have g:=of_decide_eq_false g;have f:len s.nP.pk.ed=ZK (s.nA*s.d9):=by simpa using f
 have I:=DP a;have K:=DP (V5 e);simp only[len] at f q g;have L:s.d9≤s.nA*s.d9:=by have:=Int.mul_le_mul_of_nonneg_right o.1 (show 0≤s.d9 by omega);omega
 have M:s.nA*s.d9≤320*320:=Int.mul_le_mul h.2 u.2 (by omega) (by omega);rw[Ou] at f;rw[Ou] at g;simp only[vy,rl];rw[Ou (n:=s.d9+1)];refine⟨?_,h,by omega,by omega⟩;have r:=V5 e;unfold rZ HG at a r ⊢;simp only[id,hI] at a r ⊢;obtain⟨w,x,y,z,A,B,C,D,b,N⟩:=a;obtain⟨_,_,_,_,_,_,_,_,t,_⟩:=r;have c:Xi (⟨s.nP.pk.eh,s.nP.pk.oC,s.nP.pk.oz,s.nP.pk.e4,s.nP.pk.XY,p.pk.ez,s.nP.pk.su,s.nP.pk.ed++p.pk.ed⟩:ch)=true∧(s.nP.pk.eh==6)=true:=by
  have E:p.pk.eh=6:=by simpa using v
  unfold Xi dq at b t ⊢;simp only[id,E,l] at b t ⊢;by_cases d:s.nP.pk.eh=6
  ·rw[d] at b ⊢;revert b t;rw[show decide (320<len (s.nP.pk.ed++p.pk.ed))=false from yF (by simp only[len,Qe];omega),show decide (320<len s.nP.pk.ed)=false from yF (by simp only[len];omega),show decide (320<len p.pk.ed)=false from yF (by simp only[len];omega)];cases nn s.nP.pk.oC 0 65535<;>cases nn s.nP.pk.oz 0 65535<;>cases nn s.nP.pk.e4 0 4294967295<;>cases nn s.nP.pk.XY 0 4294967295<;>cases nn s.nP.pk.su 0 65535<;>cases nn p.pk.oC 0 65535<;>cases nn p.pk.oz 0 65535<;>cases nn p.pk.e4 0 4294967295<;>cases nn p.pk.XY 0 4294967295<;>cases nn p.pk.ez 0 31<;>simp
  ·exfalso;revert b;rw[show (s.nP.pk.eh==6)=false by simpa using d];cases nn s.nP.pk.oC 0 65535<;>cases nn s.nP.pk.oz 0 65535<;>cases decide (320<len s.nP.pk.ed)<;>cases (s.nP.pk.eh==17)<;>cases (s.nP.pk.e4==0)<;>cases (s.nP.pk.XY==0)<;>simp
 refine⟨w,x,y,z,A,B,C,D,c.1, ?_⟩;rw[c.2,m];cases decide (len (s.nP.pk.ed++p.pk.ed)≤128)<;>rfl
theorem nlb{l:rM}{m:TV}{d:Int}{q:pE}{key:Y}{p:oY}{c:Bool}(h:iy q=true)(G:q.qj≤999999000):iy (R2 l m d q key p c).2=true∧(R2 l m d q key p c).2.eU=q.eU∧(R2 l m d q key p c).2.eo.nW=q.eo.nW∧(R2 l m d q key p c).2.eo.nA=q.eo.nA∧wE q.d5 (R2 l m d q key p c).2.d5∧(R2 l m d q key p c).2.qj≤q.qj+640:=by
 obtain⟨f,v,o,r,s,w,b⟩:=lY.1 h;unfold R2;cases x:(bif !(iy q) then true else bif !(yc p) then true else (len key) != 16)
 case true=>exact⟨h,rfl,rfl,rfl,⟨f,rfl,rfl⟩,by show q.qj≤_;omega⟩
 have t:=ux (Uk (Uk x).2).1;cases y:(bif c then bif q.uc then Z7 q.qo p else false else false)
 case true=>
  have a:q.uc=true:=by revert y;cases c<;>cases q.uc<;>simp
  have g:Nj q:=by
   rcases b with b | b
   ·exact b.2
   ·rw[b.1] at a;cases a
  exact⟨lY.2 ⟨f,v,o,r,s,w,.inl ⟨a,nem g.1 g.2.1 g.2.2⟩⟩,rfl,rfl,rfl,⟨f,rfl,rfl⟩,by show q.qj≤_;omega⟩
 obtain⟨H,e,i,z,j,k,I,K⟩:=mD (l:=l) (m:=m) (d:=d) (key:=key) h (by omega);have L:=DP (V5 t);have A:Nj (OQ (OW l m d q key) p):=by
  refine⟨V5 t,⟨?_, ?_⟩, ?_, ?_⟩
  ·show (0:Int)≤len p.pk.ed;simp only[len];omega
  ·show len p.pk.ed≤320;simp only[len];omega
  ·show (1:Int)≤1;omega
  ·show (1:Int)≤320;omega
 have u:iy (OQ (OW l m d q key) p)=true:=by
  refine lY.2 ⟨i.1,z,by show xn (OW l m d q key).2.eU=true;rw[e];exact o, ?_, ?_,⟨?_, ?_⟩,.inl ⟨rfl,A⟩⟩
  ·show (OW l m d q key).2.eo.nW=(OW l m d q key).2.eU.nW;rw[e,j];exact r
  ·show (OW l m d q key).2.eo.nA=(OW l m d q key).2.eU.nA;rw[e,k];exact s
  ·show 0≤(OW l m d q key).2.qj;omega
  ·show (OW l m d q key).2.qj≤_;omega
 cases c
 ·obtain⟨B,C,D,M,E,F,N,n⟩:=mD (l:=l) (m:=(OW l m d q key).1) (d:=d) (key:=key) u (by show (OW l m d q key).2.qj≤_;omega);refine⟨B,C.trans e,E.trans j,F.trans k,za i D, ?_⟩;have n:_≤(OW l m d q key).2.qj+320:=n;exact Int.le_trans n (by omega)
 ·exact⟨u,e,j,k,i,by show (OW l m d q key).2.qj≤_;omega⟩
theorem nCN(l:rM)(m:TV)(d:Int):∀(f:Nat) (q:QR) (p:Cf) (a:rM) (n:Int),xn q=true→mK p=true→
  (xn (UA l m d f q p a n).1=true∧(UA l m d f q p a n).1.nW=q.nW∧(UA l m d f q p a n).1.nA=q.nA)∧na p (UA l m d f q p a n).2.1
 | 0,_,_,_,_,h,hp=>⟨⟨h,rfl,rfl⟩,hp,rfl,rfl,rfl⟩
 | f+1,q,p,a,n,h,hp=>by
  simp only[UA];cases (Tt l m d q).2.2
  ·exact⟨⟨h,rfl,rfl⟩,hp,rfl,rfl,rfl⟩
  ·have b:=nCW l m d q;have g:=nsh (l:=[[.int (Tt l m d q).1.sr]]) hp;obtain⟨⟨c,e,i⟩,j⟩:=nCN l m d f (Tt l m d q).2.1 (Ni p [[.int (Tt l m d q).1.sr]]).1 (YC l m d p (Tt l m d q).1 a) (ZK (n+1)) (ntW h) g.1;exact⟨⟨c,e.trans b.1,i.trans b.2⟩,ngd g j⟩
theorem nr_{l:rM}{m:TV}{d:Int}{q:pE}{p:Cf}{a:rM}{b:Int}(h:iy q=true)(c:mK p=true):iy (nz l m d q p a b).2.1=true∧(nz l m d q p a b).2.1.qj=q.qj∧na p (nz l m d q p a b).2.2.1∧wE q.d5 (nz l m d q p a b).2.1.d5∧(nz l m d q p a b).2.1.eo=q.eo∧(nz l m d q p a b).2.1.eU.nW=q.eU.nW∧(nz l m d q p a b).2.1.eU.nA=q.eU.nA:=by
 obtain⟨e,k,n,o,s,t,u⟩:=lY.1 h;unfold nz;cases (bif !(iy q) then true else bif !(mK p) then true else !(nn b 0 1000))
 case true=>exact⟨h,rfl,⟨c,rfl,rfl,rfl⟩,⟨e,rfl,rfl⟩,rfl,rfl,rfl⟩
 obtain⟨⟨v,f,g⟩,i⟩:=nCN l m d b.toNat q.eU p a 0 n c;have j:=ngR (l:=l) (m:=m) (d:=d) (p:=(UA l m d b.toNat q.eU p a 0).2.1) e;have w:=nxj (l:=l) (m:=m) (d:=d) (r:=q.d5) i.1;exact⟨lY.2 ⟨j.1,k,v,o.trans f.symm,s.trans g.symm,t,u⟩,rfl,ngd i w,j,rfl,f,g⟩
def lK(v:Tj):Prop:=(1≤v.rp∧v.rp≤64)∧(0≤v.sF∧v.sF≤64)∧(0≤v.d9∧v.d9≤1000000)∧(0≤v.e6∧v.e6≤1000000)∧(0<v.d9∨v.e6=0)∧v.u5=(due v && !v.tv)
theorem ur{v:Tj} :fm v=true↔lK v:=by
 obtain⟨a,b,c,t,e,f⟩:=v;have h:nn a 1 64=true↔1≤a∧a≤64:=Wx;have i:nn b 0 64=true↔0≤b∧b≤64:=Wx;have j:nn c 0 1000000=true↔0≤c∧c≤1000000:=Wx;have k:nn t 0 1000000=true↔0≤t∧t≤1000000:=Wx;unfold fm fG lK;simp only[id];generalize due (⟨a,b,c,t,e,f⟩:Tj)=D;rw[←h,←i,←j,←k];cases nn a 1 64
 ·simp
 cases nn b 0 64
 ·simp
 cases nn c 0 1000000
 ·simp
 cases nn t 0 1000000
 ·simp
 by_cases d:0<c
 ·rw[Tl d];cases D<;>cases e<;>cases f<;>simp[d]
 ·rw[yF d];by_cases g:t=0
  ·subst g;cases D<;>cases e<;>cases f<;>simp[d]
  ·simp[d,g]
theorem vE{v:Tj} :due v=true↔1≤v.d9∧(v.rp≤v.d9∨v.sF≤v.e6):=by unfold due HO;simp only[id,hI,nvL,kQ]
theorem WA{v:Tj}(a:1≤v.rp∧v.rp≤64)(b:0≤v.sF∧v.sF≤64)(c:0≤v.d9∧v.d9≤1000000)(d:0≤v.e6∧v.e6≤1000000)(e:0<v.d9∨v.e6=0)(g:v.u5=true→due v=true∧v.tv=false):fm (Ok v)=true∧(Ok v).rp=v.rp∧(Ok v).sF=v.sF∧(Ok v).d9=v.d9∧(Ok v).e6=v.e6∧(Ok v).tv=v.tv:=by
 unfold Ok ng;simp only[id];cases f:(bif due v then !v.tv else false)
 ·refine⟨ur.2 ⟨a,b,c,d,e, ?_⟩,rfl,rfl,rfl,rfl,rfl⟩;show v.u5=(due v && !v.tv);revert g f;cases due v<;>cases v.tv<;>cases v.u5<;>simp
 ·refine⟨ur.2 ⟨a,b,c,d,e, ?_⟩,rfl,rfl,rfl,rfl,rfl⟩;show true=(due v && !v.tv);revert f;cases due v<;>cases v.tv<;>simp
theorem o_{v:Tj}(h:lK v):v.u5=true→due v=true∧v.tv=false:=by obtain⟨_,_,_,_,_,a⟩:=h;rw[a];cases due v<;>cases v.tv<;>simp
theorem nBg{v:Tj}(h:fm v=true):fm (Tv v)=true∧1≤(Tv v).d9∧(Tv v).tv=v.tv:=by
 have b:=ur.1 h;have d:=o_ b;obtain⟨f,g,p,i,q,_⟩:=b;have e:Tv v=Ok ⟨v.rp,v.sF,kh (ZK (v.d9+1)) 1000000,v.e6,v.tv,v.u5⟩:=by unfold Tv uv;simp only[id,h,vy,rl]
 have w:ZK (v.d9+1)=v.d9+1:=Ou;rw[w] at e;have a:1≤kh (v.d9+1) 1000000∧kh (v.d9+1) 1000000≤1000000∧(kh (v.d9+1) 1000000=v.d9+1∨kh (v.d9+1) 1000000=1000000):=by unfold kh;split<;>omega
 generalize kh (v.d9+1) 1000000=M at e a;obtain⟨j,r,s,k,t,l⟩:=WA (v:=⟨v.rp,v.sF,M,v.e6,v.tv,v.u5⟩) f g (show 0≤M∧M≤1000000 by omega) i (.inl (show 0<M by omega)) (λm=>by obtain⟨n,o⟩:=d m;refine⟨vE.2 ?_,o⟩;obtain⟨u,c⟩:=vE.1 n;refine⟨a.1,c.imp (λc=>?_) id⟩;show v.rp≤M;omega)
 rw[e];exact⟨j,by rw[k];exact a.1,l⟩
theorem nr1{v:Tj}(h:fm v=true):fm (Tv v)=true:=(nBg h).1
theorem nv5{v:Tj}(h:fm v=true):fm (We v)=true∧(We v).d9=v.d9∧(We v).tv=v.tv:=by
 have f:=ur.1 h;have g:=o_ f;obtain⟨i,j,k,m,n,_⟩:=f;by_cases a:0<v.d9
 ·have e:We v=Ok ⟨v.rp,v.sF,v.d9,kh (ZK (v.e6+1)) 1000000,v.tv,v.u5⟩:=by unfold We wZ;simp only[id,h,vy,rl,Tl a,HI]
  have w:ZK (v.e6+1)=v.e6+1:=Ou;rw[w] at e;have o:1≤kh (v.e6+1) 1000000∧kh (v.e6+1) 1000000≤1000000∧(kh (v.e6+1) 1000000=v.e6+1∨kh (v.e6+1) 1000000=1000000):=by unfold kh;split<;>omega
  generalize kh (v.e6+1) 1000000=M at e o;obtain⟨b,p,q,c,r,d⟩:=WA (v:=⟨v.rp,v.sF,v.d9,M,v.tv,v.u5⟩) i j k (show 0≤M∧M≤1000000 by omega) (.inl a) (λs=>by obtain⟨t,u⟩:=g s;refine⟨vE.2 ?_,u⟩;obtain⟨x,l⟩:=vE.1 t;refine⟨x,l.imp id (λl=>?_)⟩;show v.sF≤M;omega)
  rw[e];exact⟨b,c,d⟩
 ·have e:We v=Ok v:=by unfold We wZ;simp only[id,h,vy,rl,yF a]
  obtain⟨b,p,q,c,r,d⟩:=WA i j k m n g;rw[e];exact⟨b,c,d⟩
theorem nsE{v:Tj}(h:fm v=true):fm (We v)=true:=(nv5 h).1
theorem nBk{v:Tj}(h:fm v=true):fm (Uj v).1=true∧((Uj v).2=false→(Uj v).1=v)∧((Uj v).2=true→(Uj v).1.tv=true):=by
 have a:=ur.1 h;obtain⟨b,c,d,e,f,g⟩:=a;unfold Uj Yh;simp only[id,h,vy,rl];cases v.u5
 ·exact⟨h,λ_=>rfl,λh=>(by cases h)⟩
 ·refine⟨ur.2 ⟨b,c,by show (0:Int)≤0∧(0:Int)≤1000000;omega,by show (0:Int)≤0∧(0:Int)≤1000000;omega,.inr rfl, ?_⟩,λh=>(by cases h),λ_=>rfl⟩;show false=(due _ && !true);rw[vy,Bool.and_false]
theorem nsn{v:Tj}(h:fm v=true):fm (Uj v).1=true:=(nBk h).1
theorem ne8{v:Tj}(h:fm v=true):fm (Gi v)=true∧(Gi v).d9=v.d9∧(Gi v).tv=false:=by
 have a:=ur.1 h;have b:=o_ a;obtain⟨c,d,f,g,i,_⟩:=a;have e:Gi v=Ok ⟨v.rp,v.sF,v.d9,v.e6,false,v.u5⟩:=by unfold Gi WX;simp only[id,h,vy,rl]
 obtain⟨j,n,o,k,p,l⟩:=WA (v:=⟨v.rp,v.sF,v.d9,v.e6,false,v.u5⟩) c d f g i (λm=>⟨(b m).1,rfl⟩);rw[e];exact⟨j,k,l⟩
theorem nun{v:Tj}(h:fm v=true):fm (Gi v)=true:=(ne8 h).1
structure DS (j:Nat) (h:QP):Prop where
 mem:kc h.oa
 maps:h.ei=n7
 tx:Yo h.Tx=true
 fil:mG h.ec=true
 ste:F_ h.ni (len h.Rx)=true
 fsm:C5 h.ec=true
 ssm:ai h.ni=true
 n1:1≤h.Rx.length
 n2:h.Rx.length≤2
 np:h.oh.length=h.Rx.length
 nv:h.nL.length=h.Rx.length
 nb:h.n8.length=h.Rx.length
 rx:∀k,k<h.Rx.length→iy (pE.nd (V h.Rx k) 0)=true∧(pE.nd (V h.Rx k) 0).qj≤640*(j:Int)
 po:∀k,k<h.Rx.length→mK (Cf.nd (V h.oh k) 0)=true
 ve:∀k,k<h.Rx.length→fm (Tj.nd (V h.nL k) 0)=true
 c0:0≤h.d4.zN∧0≤h.d4.oB∧0≤h.d4.oZ∧0≤h.d4.qE
 c1:h.d4.ek≤(j:Int)
 c2:h.d4.ek=h.d4.zN+h.d4.oB+h.d4.oZ+h.d4.qE
 s1:h.oI.length≤100+2000*j
 s2:∀r∈h.oI,(fJ r 6).length≤800000*j
 wi:h.tB.length≤13200*j
 co:h.ox.length≤16*j
 re:h.oV.length=0
theorem na0:cz n7=true:=by kernel_rfl
theorem nk9{l:rM}{r:List DC}(h:r∈l):∃i,i<l.length∧V l i=r:=by obtain⟨i,a,e⟩:=List.getElem_of_mem h;exact⟨i,a,by rw[←e];simp[V,wk,a]⟩
theorem iD{j:Nat}{h:QP}(i:DS j h)(o:j≤20):sN h=true:=by
 obtain⟨c,d,e,f⟩:=i.c0;have p:=i.c1;have q:=i.c2;have n1:=i.n1;have n2:=i.n2;have g:X5 h=false:=by
  unfold X5;rw[nn_ i.mem,show cz h.ei=true from by rw[i.maps];exact na0,i.tx,i.fil,show nn (len h.Rx) 1 2=true from Wx.2 ⟨by simp only[len];omega,by simp only[len];omega⟩,
   show (len h.oh != len h.Rx)=false from by simp[len,i.np],show (len h.nL != len h.Rx)=false from by simp[len,i.nv],show (len h.n8 != len h.Rx)=false from by simp[len,i.nb]]
  rfl
 have l:ZO (λi=>bif !(iy (pE.nd (V h.Rx i) 0)) then true else bif !(mK (Cf.nd (V h.oh i) 0)) then true else !(fm (Tj.nd (V h.nL i) 0))) h.Rx.length 0=false:=by
  refine Ud.2 (λk _ b=>?_);have b:k<h.Rx.length:=by omega
  rw[(i.rx k b).1,i.po k b,i.ve k b];rfl
 have a:∀x:Int,0≤x→x≤1000000000000→nn x 0 1000000000000=true:=λx m n=>Wx.2 ⟨m,n⟩;unfold sN;rw[g,rl,i.ste,HI,l,rl];simp only[OP,x4,List.all_nil,Bool.and_true,gF];exact⟨a _ (show 0≤h.d4.ek by omega) (show h.d4.ek≤_ by omega),a _ c (show h.d4.zN≤_ by omega),a _ d (show h.d4.oB≤_ by omega),a _ e (show h.d4.oZ≤_ by omega),a _ f (show h.d4.qE≤_ by omega)⟩
theorem y7{j:Nat}{h:QP}(i:DS j h)(f:j≤20):eW h=true∧jV h=true∧Z5 h=true:=by
 obtain⟨b,e⟩:=nAW i.tx;have n1:=i.n1;have n2:=i.n2;have np:=i.np;have nv:=i.nv;have nb:=i.nb;have g:=i.s1;have wi:=i.wi;have co:=i.co;have c:∀r∈h.oh,(Zc r 3).length≤16:=λr a=>by obtain⟨k,l,rfl⟩:=nk9 a;exact na5 (i.po k (by omega))
 simp only[nG,gF] at b;have d:=i.fsm;simp only[C5] at d;have AK:=i.ssm;simp only[ai,gF] at AK;refine⟨?_,e, ?_⟩
 ·simp only[eW,uL,gF,vz];refine⟨Tl (by rw[i.mem.2];omega),Tl (by rw[i.maps,nae];omega),b.1,b.2,Tl (by omega),⟨Tl (by omega),λr a=>Tl (by have:=c r a;omega)⟩,Tl (by omega),Tl (by omega),d,AK.1,AK.2.1,AK.2.2,Tl (by omega),Tl (by omega),Tl (by omega),Tl (by rw[i.re];omega)⟩
 ·simp only[Z5,gF,vz,kQ];exact⟨λr a=>by have:=c r a;omega,by omega,λr a=>by have:=i.s2 r a;omega⟩
theorem D_{j:Nat}{h:QP}(i:DS j h):DS (j+1) h:=
 {i with
  rx:=λk a=>⟨(i.rx k a).1,by have:=(i.rx k a).2;omega⟩
  c1:=by have:=i.c1;omega
  s1:=by have:=i.s1;omega
  s2:=λr b=>by have:=i.s2 r b;omega
  wi:=by have:=i.wi;omega
  co:=by have:=i.co;omega}
theorem nza{j:Nat}{h:QP}{p:oY}{size a:Int}(i:DS j h):DS (j+1) (AR h p size a).1:=by
 unfold AR;cases sN h
 ·exact D_ i
 ·exact {D_ i with mem:=ncW i.mem,tx:=(nfz i.tx).1}
theorem nu_{q:Sx}(h:Yo q=true){r:jW}(a:wE q.d5 r):Yo (⟨r,q.nM,q.nx,q.en⟩:Sx)=true:=by obtain⟨⟨f,b,c⟩,t4,d,e⟩:=t8.1 h;exact t8.2 ⟨⟨a.1,b,c⟩,by show q.nx.all (gB r.nA)=true;rw[a.2.2];exact t4,d,by show bq q.nx≤r.nA;rw[a.2.2];exact e⟩
theorem nL1{j:Nat}{h:QP}(i:DS j h):DS (j+1) (N3 h):=by
 unfold N3;cases sN h
 ·exact D_ i
 ·have a:wE h.Tx.d5 (Vb h).1:=nxi (t8.1 i.tx).1.1;have b:(Vb h).2.1.length≤13200:=np6 h.ei h.oa 0 h.Tx.d5;have c:(vh h).2.length≤h.Tx.nx.length:=nBN _ _;have d:=(ndF i.tx).2.1;have wi:=i.wi;have co:=i.co;exact {D_ i with
   tx:=(nAq (nu_ i.tx a)).1
   wi:=by show (h.tB++(Vb h).2.1).length≤_;rw[Qe];omega
   co:=by show (h.ox++(vh h).2).length≤_;rw[Qe];omega}
theorem nz6{j:Nat}{h:QP}(i:DS j h):DS (j+1) (A0 h):=by
 unfold A0;cases sN h
 ·exact D_ i
 ·exact {D_ i with
   nv:=by show (h.nL.map kl).length=_;rw[List.length_map];exact i.nv
   ve:=λk a=>by show fm (Tj.nd (V (h.nL.map kl) k) 0)=true;rw[yD kl (show k<h.nL.length by rw[i.nv];exact a)];exact nsE (i.ve k a)}
theorem T5(c:Nat):∀(m i:Nat) (v:rM),c<v.length→(∀k,k<v.length→fm (Tj.nd (V v k) 0)=true)→∀k,k<v.length→fm (Tj.nd (V (Wc (λ_ v=>vv v c (HC (V v c))) m i v) k) 0)=true
 | 0,_,_,_,h=>h
 | m+1,i,v,hc,h=>by
  intro k a;refine T5 c m (i+1) (vv v c (HC (V v c))) (by rw[vw];exact hc) (λk a=>?_) k (by rw[vw];exact a);rw[vw] at a;by_cases e:c=k
  ·subst e;rw[Y4 hc];exact nr1 (h c hc)
  ·rw[mH e];exact h k a
theorem DR{P:List DC→Prop}{l:rM}{c:Nat}{x:List DC}(h:∀k,k<l.length→P (V l k))(b:P x):∀k,k<(vv l c x).length→P (V (vv l c x) k):=by
 intro k a;rw[vw] at a;by_cases e:c=k
 ·subst e;rw[Y4 a];exact b
 ·rw[mH e];exact h k a
theorem nbw{j:Nat}{h:QP}(i:DS j h)(a:j≤20):ZK (h.d4.ek+1)=h.d4.ek+1∧ZK (h.d4.zN+1)=h.d4.zN+1∧ZK (h.d4.oB+1)=h.d4.oB+1∧ZK (h.d4.oZ+1)=h.d4.oZ+1∧ZK (h.d4.qE+1)=h.d4.qE+1:=by obtain⟨b,c,d,e⟩:=i.c0;have f:=i.c1;have g:=i.c2;exact⟨Ou,Ou,Ou,Ou,Ou⟩
theorem nc6{j:Nat}{h:QP}{f:Y}(i:DS j h)(s:j≤20):DS (j+1) (fE h f)∧(fE h f).d4.ek=h.d4.ek+1:=by
 obtain⟨n,u,v,w,x⟩:=nbw i s;obtain⟨c1,c2,o,q⟩:=i.c0;have B:=i.c1;have C:=i.c2;unfold fE;rw[iD i s];simp only[vy,rl];have b:=D_ i;cases (dZ f).2 != 0
 case true=>
  rw[n,u];exact⟨{b with c0:=⟨by show 0≤h.d4.zN+1;omega,c2,o,q⟩,c1:=by show h.d4.ek+1≤_;omega,c2:=by show h.d4.ek+1=h.d4.zN+1+h.d4.oB+h.d4.oZ+h.d4.qE;omega},rfl⟩
 cases !(yf h.ec (dZ f).1)
 case true=>
  rw[n,v];exact⟨{b with c0:=⟨c1,by show 0≤h.d4.oB+1;omega,o,q⟩,c1:=by show h.d4.ek+1≤_;omega,c2:=by show h.d4.ek+1=h.d4.zN+(h.d4.oB+1)+h.d4.oZ+h.d4.qE;omega},rfl⟩
 cases a:decide (nN h f<0)
 case true=>
  rw[n,w];exact⟨{b with c0:=⟨c1,c2,by show 0≤h.d4.oZ+1;omega,q⟩,c1:=by show h.d4.ek+1≤_;omega,c2:=by show h.d4.ek+1=h.d4.zN+h.d4.oB+(h.d4.oZ+1)+h.d4.qE;omega},rfl⟩
 have a:=of_decide_eq_false a;have e:0≤nN h f∧nN h f<len h.Rx:=by
  rcases nf2 h.ni (len h.Rx) (dZ f).1 with e | e
  ·exact absurd (show nN h f<0 by unfold nN;omega) a
  ·exact e
 obtain⟨c,t⟩:∃c:Nat,nN h f=(c:Int):=⟨(nN h f).toNat,by omega⟩;have y:c<h.Rx.length:=by rw[t] at e;simp only[len] at e;omega
 obtain⟨z,D⟩:=i.rx c y;have nv:=i.nv;simp only[rl];unfold mL VE AV;rw[n,x,t,lN];obtain⟨A,E,F,G,H,I⟩:=nlb (l:=h.ei) (m:=h.oa) (d:=0) (key:=h.ni.nV.eJ) (p:=(dZ f).1) (c:=h.oU) z (by omega);refine⟨{b with
  mem:=nbM i.mem
  ste:=by show F_ h.ni (len (vv h.Rx c _))=true;simp only[len,vw];exact i.ste
  n1:=by show 1≤(vv h.Rx c _).length;rw[vw];exact i.n1
  n2:=by show (vv h.Rx c _).length≤2;rw[vw];exact i.n2
  np:=by show _=(vv h.Rx c _).length;rw[vw];exact i.np
  nv:=by show (Wc _ _ 0 h.nL).length=(vv h.Rx c _).length;rw[vw,nA7];exact i.nv
  nb:=by show _=(vv h.Rx c _).length;rw[vw];exact i.nb
  rx:=DR (P:=λr=>iy (pE.nd r 0)=true∧(pE.nd r 0).qj≤640*((j+1:Nat):Int)) b.rx ⟨A,by rw[wU];omega⟩
  po:=λk g=>b.po k (by rw[vw] at g;exact g)
  ve:=λk g=>by rw[vw] at g;exact T5 c _ 0 h.nL (by omega) (λk g=>i.ve k (by omega)) k (by omega)
  c0:=⟨c1,c2,o,by show 0≤h.d4.qE+1;omega⟩
  c1:=by show h.d4.ek+1≤_;omega
  c2:=by show h.d4.ek+1=h.d4.zN+h.d4.oB+h.d4.oZ+(h.d4.qE+1);omega},rfl⟩
def nrO(j:Nat)(h:QP)(i:Nat)(o:QP):Prop:=Up h i o∧kc o.oa∧(∀k,k<o.Rx.length→iy (pE.nd (V o.Rx k) 0)=true∧(pE.nd (V o.Rx k) 0).qj≤640*((j+1:Nat):Int))∧∀k,k<o.Rx.length→fm (Tj.nd (V o.nL k) 0)=true
theorem niV{j:Nat}{h:QP}(i:DS j h)(c:j≤20):∀(m q:Nat) (o:QP),q+m=h.Rx.length→nrO j h q o→nrO j h (q+m) (Wc (eG h) m q o)
 | 0,_,_,_,ho=>ho
 | m+1,q,o,hm,ho=>by
  obtain⟨b,e,f,g⟩:=ho;have n:q<h.Rx.length:=by omega
  obtain⟨p,t⟩:=i.rx q n;obtain⟨s,u,v,w,x,y,z,A⟩:=mD (l:=h.ei) (m:=o.oa) (d:=0) (key:=h.ni.nV.eJ) p (by omega);have nv:=i.nv;have B:o.nL.length=h.nL.length:=b.2.2.2.1;have C:o.Rx.length=h.Rx.length:=b.2.2.1;have this:=niV i c m (q+1) (eG h q o) (by omega) ⟨tY b,tc e,DR (P:=λr=>iy (pE.nd r 0)=true∧(pE.nd r 0).qj≤640*((j+1:Nat):Int)) f ⟨s,by
   rw[wU];show (OW h.ei o.oa 0 (pE.nd (V h.Rx q) 0) h.ni.nV.eJ).2.qj≤_;omega⟩,λk a=>by
   have a:k<(vv o.Rx q _).length:=a;rw[vw] at a;exact T5 q _ 0 o.nL (by omega) (λk a=>g k (by omega)) k (by omega)⟩
  rw[show q+(m+1)=q+1+m by omega];exact this
theorem nxM{j:Nat}{h:QP}(i:DS j h)(b:j≤20):DS (j+1) (NL h):=by
 unfold NL;rw[iD i b,HI];have c:=D_ i;obtain⟨⟨d,n,a,e,p⟩,f,g,l⟩:=niV i b h.Rx.length 0 h (by omega) ⟨⟨rfl,rfl,rfl,rfl,λ_ _=>rfl⟩,i.mem,c.rx,i.ve⟩;generalize Wc (eG h) h.Rx.length 0 h=o at*;have nv:=i.nv;rw[d];exact {c with
  mem:=f
  ste:=by show F_ h.ni (len o.Rx)=true;simp only[len,a];exact i.ste
  n1:=by show 1≤o.Rx.length;rw[a];exact i.n1
  n2:=by show o.Rx.length≤2;rw[a];exact i.n2
  np:=by show _=o.Rx.length;rw[a];exact i.np
  nv:=by show o.nL.length=o.Rx.length;rw[a,e];exact i.nv
  nb:=by show _=o.Rx.length;rw[a];exact i.nb
  rx:=g
  po:=λk m=>i.po k (by rw[←a];exact m)
  ve:=l}
structure rO (j:Nat) (h:QP) (i:Nat) (o:QP):Prop where
 eq:o= {h with oa:=o.oa,Rx:=o.Rx,oh:=o.oh,nL:=o.nL,n8:=o.n8,oI:=o.oI}
 mem:kc o.oa
 nr:o.Rx.length=h.Rx.length
 np:o.oh.length=h.Rx.length
 nv:o.nL.length=h.Rx.length
 nb:o.n8.length=h.Rx.length
 rx:∀k,k<o.Rx.length→iy (pE.nd (V o.Rx k) 0)=true∧(pE.nd (V o.Rx k) 0).qj≤640*((j+1:Nat):Int)
 po:∀k,k<o.oh.length→mK (Cf.nd (V o.oh k) 0)=true
 ve:∀k,k<o.nL.length→fm (Tj.nd (V o.nL k) 0)=true
 s1:o.oI.length≤100+2000*j+1000*i
 s2:∀r∈o.oI,(fJ r 6).length≤800000*j+400000*i
theorem nv6{A B j q n:Nat}(h:n≤(A*j+B*q)+B):n≤A*j+B*(q+1):=by rw[Nat.mul_add,Nat.mul_one,←Nat.add_assoc];exact h
theorem nuQ{j:Nat}{h:QP}{gq:Int} :∀(m q:Nat) (o:QP×Int),q+m=h.Rx.length→rO j h q o.1→rO j h (q+m) (Wc (Ru gq) m q o).1
 | 0,_,_,_,f=>f
 | m+1,q,(o,t),hm,f=>by
  have f:rO j h q o:=f;have u:q<o.Rx.length:=by have:=f.nr;omega
  obtain⟨w,y⟩:=f.rx q u;have np:=f.np;have nv:=f.nv;have nb:=f.nb;have nr:=f.nr;have z:=f.po q (by omega);have v1:=f.ve q (by omega);obtain⟨Q,R,S,A⟩:=nwW o.ei o.oa 0 (pE.nd (V o.Rx q) 0) (Cf.nd (V o.oh q) 0) o.oI gq _ f.s2;obtain⟨B,C,D,T,U,W,X⟩:=nr_ (l:=o.ei) (m:=o.oa) (d:=0) (a:=o.oI) (b:=gq) w z;have E:∀r∈(US o q gq).2.2.2.1,(fJ r 6).length≤(800000*j+400000*q)+400000:=A;have F:=nw4 (l:=o.ei) (d:=0) (q:=pE.nd (V o.Rx q) 0) (p:=Cf.nd (V o.oh q) 0) (a:=o.oI) (b:=gq) f.mem;have g:fm (sO o q).1=true:=nsn v1;have G:fm (Gi (sO o q).1)=true:=nun g;have i:∀v:Tj,fm v=true→∀k,k<(vv o.nL q (Tj.enc v)).length→fm (Tj.nd (V (vv o.nL q (Tj.enc v)) k) 0)=true:=λv H=>DR (P:=λr=>fm (Tj.nd r 0)=true) f.ve H;have I:=DR (P:=λr=>iy (pE.nd r 0)=true∧(pE.nd r 0).qj≤640*((j+1:Nat):Int)) (c:=q) (x:=pE.enc (US o q gq).2.1) f.rx ⟨B,by rw[wU];show (nz o.ei o.oa 0 (pE.nd (V o.Rx q) 0) (Cf.nd (V o.oh q) 0) o.oI gq).2.1.qj≤_;rw[C];exact y⟩;have K:=DR (P:=λr=>mK (Cf.nd r 0)=true) (c:=q) (x:=Cf.enc (US o q gq).2.2.1) f.po D.1;have s:∀(b:Bool) (x:List DC),(bif b then vv o.n8 q x else o.n8).length=h.Rx.length:=λb x=>by
   cases b
   ·exact nb
   ·exact (vw ..).trans nb
  have fin:∀(e L:rM),e.length=o.nL.length→L.length=h.Rx.length→(∀k,k<e.length→fm (Tj.nd (V e k) 0)=true)→
    rO j h (q+1) {o with oa:=(US o q gq).1,Rx:=vv o.Rx q (pE.enc (US o q gq).2.1),oh:=vv o.oh q (Cf.enc (US o q gq).2.2.1),oI:=(US o q gq).2.2.2.1,nL:=e,n8:=L} :=λe L M N O=>
   {eq:=by have this:=congrArg (λx:QP=>({x with oa:=(US o q gq).1,Rx:=vv o.Rx q (pE.enc (US o q gq).2.1),oh:=vv o.oh q (Cf.enc (US o q gq).2.2.1),oI:=(US o q gq).2.2.2.1,nL:=e,n8:=L} :QP)) f.eq;exact this
    mem:=F
    nr:=(vw ..).trans nr
    np:=(vw ..).trans np
    nv:=M.trans nv
    nb:=N
    rx:=I
    po:=K
    ve:=O
    s1:=by show (US o q gq).2.2.2.1.length≤_;have:=f.s1;unfold US;omega
    s2:=λr n=>nv6 (E r n)}
  have this:=nuQ (j:=j) (h:=h) (gq:=gq) m (q+1) (Ru gq q (o,t)) (by omega) (by
   unfold Ru;simp only[];cases (!(bif (sO o q).2 then true else yz (V o.n8 q) 0))
   ·cases decide ((US o q gq).2.2.2.2<gq)
    ·exact fin _ _ (vw ..) (s _ _) (i _ g)
    ·exact fin _ _ (vw ..) ((vw ..).trans nb) (i _ G)
   ·have this:=congrArg (λx:QP=>({x with nL:=vv o.nL q (Tj.enc (sO o q).1),n8:=bif (sO o q).2 then vv o.n8 q [.bool true] else o.n8} :QP)) f.eq;exact⟨this,f.mem,nr,np,(vw ..).trans nv,s _ _,f.rx,f.po,i _ g,by have:=f.s1;show o.oI.length≤_;omega,λr n=>by have:=f.s2 r n;omega⟩)
  rw[show q+(m+1)=q+1+m by omega];exact this
theorem nbu{j:Nat}{h:QP}{gq:Int}(i:DS j h):DS (j+1) (ua h gq).1:=by
 unfold ua;have b:=D_ i;cases (bif !(sN h) then true else !(nn gq 1 1000))
 case true=>exact b
 have nr:=i.n2;have this:=nuQ (gq:=gq) h.Rx.length 0 (h,0) (by omega) (show rO j h 0 h from
  {eq:=rfl,mem:=i.mem,nr:=rfl,np:=i.np,nv:=i.nv,nb:=i.nb,rx:=b.rx,po:=λk a=>i.po k (by rw[←i.np];exact a),ve:=λk a=>i.ve k (by rw[←i.nv];exact a)
   s1:=by have:=i.s1;omega
   s2:=λr c=>by have:=i.s2 r c;omega})
 simp only[rl];generalize (Wc (Ru gq) h.Rx.length 0 (h,0)).1=o at*;rw[this.eq];exact {b with
  mem:=this.mem
  ste:=by show F_ h.ni (len o.Rx)=true;simp only[len,this.nr];exact i.ste
  n1:=by show 1≤o.Rx.length;rw[this.nr];exact i.n1
  n2:=by show o.Rx.length≤2;rw[this.nr];exact i.n2
  np:=this.np.trans this.nr.symm
  nv:=this.nv.trans this.nr.symm
  nb:=this.nb.trans this.nr.symm
  rx:=this.rx
  po:=λk a=>this.po k (by show k<o.oh.length;rw[this.np,←this.nr];exact a)
  ve:=λk a=>this.ve k (by show k<o.nL.length;rw[this.nv,←this.nr];exact a)
  s1:=by have:=this.s1;show o.oI.length≤_;omega
  s2:=λr c=>by have:=this.s2 r c;omega}
structure kJ where
 b:rM
 i:Int
 h:Int
def kJ.enc(x:kJ):List DC:=[.sl x.b,.int x.i,.int x.h]
def kJ.nd(r:List DC)(o:Nat):kJ:=⟨Zc r (o+0),J r (o+1),J r (o+2)⟩
def kJ.ct:List CT:=[.sl [.int .u8],.i,.i]
theorem kJ.eta{r:List DC}(h:i_ kJ.ct r):(kJ.nd r 0).enc=r:=(show (kJ.nd r 0).enc=nK kJ.ct r 0 from by kernel_rfl).trans (DG h)
theorem kJ.nX{r:List CT}{b:List DC}(h:i_ (kJ.ct++r) b):∃(x:kJ) (c:List DC),b=x.enc++c∧i_ kJ.ct x.enc∧i_ r c:=by obtain⟨d,e,rfl,a,f⟩:=Vi h;exact⟨kJ.nd d 0,e,by rw[kJ.eta a],by rw[kJ.eta a];exact a,f⟩
def Xy(a:kJ→α)(b:rM)(c:Int→Int→α)(h i:Int):α:=bif bif decide (i<len b) then decide (i<4000) else false then bif Bk true (idx i b) then c (bits .and .i64 (ZK ((ZK ((ZK (h*131))+(ZK (J (V b (vt i)) 0))))+7)) 1073741823) (ZK (i+1)) else kW else a (⟨b,0,h⟩:kJ)
def PO(a:kJ→α)(N:Nat)(b:rM)(c:Nat):Int→Int→α:=WS (λ_ _=>kW) (Xy kW a b) c
theorem nlm(a:kJ→α)(N:Nat)(b:rM)(c:Nat):PO kW a N b (c+1)=Xy kW a b (PO kW a N b c):=rfl
def NR(kW:α)(a:kJ→α)(c:Int→Int→α)(b:rM):α:=c (ZK (33129+(len b))) 0
def nfR(a:kJ→α)(N:Nat)(b:rM):α:=NR kW a (PO kW a N b N) b
def nc8(a:rM)(i:Nat)(h:Int):Int:=bits .and .i64 (ZK ((ZK ((ZK (h*131))+(ZK (J (V a i) 0))))+7)) 1073741823
def VD(a:rM):kJ:=⟨a,0,Wc (nc8 a) (min a.length 4000) 0 (ZK (33129+(len a)))⟩
def KD(c:kJ):Bool:=decide (0≤c.i) && decide (c.b.length≤9223372036854775807)
def DX(c:kJ):Bool:=shut KD c
theorem nnz(c:kJ):DX c=KD c:=congrFun (pH KD) c
theorem I2{c:kJ} :DX c=true↔0≤c.i∧c.b.length≤9223372036854775807:=by rw[nnz];simp only[KD,gF,kQ]
theorem nej{a:rM}(h:a.length≤9223372036854775807):DX (VD a)=true:=I2.2 ⟨by simp[VD],h⟩
theorem nl_(a:kJ→α)(b:rM)(e:Oj (.sl [.int .u8]) (.sl b)):∃N,nfR kW a N b=a (VD b):=by
 obtain⟨f,_⟩:=jD e;refine⟨min b.length 4000+1, ?_⟩;unfold nfR NR VD;refine Xb (min b.length 4000) (λn i h=>PO kW a (min b.length 4000+1) b n h i) (nc8 b) (λh=>a (⟨b,0,h⟩:kJ)) (λ_ _=>True) (λ_ _ _ _=>trivial) ?_ ?_ (min b.length 4000+1) (ZK (33129+len b)) trivial (by omega)
 ·intro n i h l _;show PO kW a (min b.length 4000+1) b (n+1) h (i:Int)=_;rw[nlm];have c:i<b.length:=by omega
  have g:(i:Int)<4000:=by omega
  simp only[Xy,T9 c,Tl g,uH c,Q8 c f,lN,cd,HI];rfl
 ·intro n h _;show PO kW a (min b.length 4000+1) b (n+1) h ((min b.length 4000:Nat):Int)=_;rw[nlm];have j:(bif decide (((min b.length 4000:Nat):Int)<len b) then decide (((min b.length 4000:Nat):Int)<4000) else false)=false:=by
   by_cases d:((min b.length 4000:Nat):Int)<len b
   ·have k:¬((min b.length 4000:Nat):Int)<4000:=by simp only[len] at d;omega
    simp[d,k]
   ·simp[d]
  simp only[Xy,j,rl]
def nyc(a:Int→kJ→α)(c:kJ):α:=let d:Int:=ZK ((ZK (c.h*6364136223846793005))+1442695040888963407);let e:Int:=bits .and .i64 (bits .xor .i64 (xu .i64 d 33) (xu .i64 d 45)) 255;bif decide (c.i<len c.b) then bif Bk true (idx c.i c.b) then a (bits .and .i64 (ZK (e+(ZK (J (V c.b (vt c.i)) 0)))) 255) (⟨c.b,ZK (c.i+1),d⟩:kJ) else kW else a e (⟨c.b,c.i,d⟩:kJ)
theorem nsb(a:Int):0≤bits .and .i64 a 255∧bits .and .i64 a 255≤255:=by
 have h:(wv 64 a &&& wv 64 255).toNat≤255:=by rw[BitVec.toNat_and];exact x6 Nat.and_le_right (by decide)
 have e:bits .and .i64 a 255=(((wv 64 a &&& wv 64 255).toNat:Nat):Int):=by exact vB (((wv 64 a &&& wv 64 255).toNat:Nat):Int) (Int.natCast_nonneg _) (by omega)
 rw[e];omega
def zV(c:kJ):Int:=ZK ((ZK (c.h*6364136223846793005))+1442695040888963407)
def nsC(c:kJ):Int:=bits .and .i64 (bits .xor .i64 (xu .i64 (zV c) 33) (xu .i64 (zV c) 45)) 255
def fa(c:kJ):Int×kJ:=bif decide (c.i<len c.b) then (bits .and .i64 (ZK (nsC c+(ZK (J (V c.b (vt c.i)) 0)))) 255,⟨c.b,ZK (c.i+1),zV c⟩) else (nsC c,⟨c.b,c.i,zV c⟩)
def AW(c:kJ):Int×kJ:=shut fa c
theorem Y6(c:kJ):AW c=fa c:=congrFun (pH fa) c
theorem fY(c:kJ):0≤(AW c).1∧(AW c).1≤255:=by rw[Y6];unfold fa;cases decide (c.i<len c.b)<;>exact nsb _
theorem yT{c:kJ}(h:DX c=true):DX (AW c).2=true:=by
 obtain⟨e,d⟩:=I2.1 h;rw[Y6];unfold fa;by_cases a:c.i<len c.b
 ·simp only[Tl a,HI];simp only[len] at a;exact I2.2 ⟨by rw[Ou];show 0≤c.i+1;omega,d⟩
 ·simp only[yF a,rl];exact I2.2 ⟨e,d⟩
theorem ndq(a:Int→kJ→α)(c:kJ)(e:DX c=true):nyc kW a c=a (AW c).1 (AW c).2:=by
 obtain⟨g,h⟩:=I2.1 e;rw[Y6];unfold nyc fa;by_cases d:c.i<len c.b
 ·have f:idx c.i c.b=true:=by simp only[len] at d;simp only[idx,gF,kQ];omega
  simp only[Tl d,f,cd,HI];rfl
 ·simp only[yF d,rl];rfl
def nB8(a:Int→kJ→α)(c:kJ)(n:Int):α:=let b:Int×kJ:=AW ((AW ((AW c).2)).2);let d:Int×kJ:=AW b.2;bif decide (n≤0) then a 0 c else bif decide (n≤256) then bif Bk (Bk true (DX c)) (!(n==0)) then a (vu ((AW c).1) n) ((AW c).2) else kW else bif Bk true (DX c) then bif Bk true (DX ((AW c).2)) then bif Bk true (DX ((AW ((AW c).2)).2)) then bif Bk true (DX b.2) then bif Bk true (!(n==0)) then a (vu (ZK ((ZK ((ZK ((ZK (((AW c).1)*16777216))+(ZK (((AW ((AW c).2)).1)*65536))))+(ZK (b.1*256))))+d.1)) n) d.2 else kW else kW else kW else kW else kW
def qK(c:kJ)(_:Int):Bool:=DX c
def zl(c:kJ):Int×kJ:=(ZK ((ZK ((ZK ((ZK (((AW c).1)*16777216))+(ZK (((AW ((AW c).2)).1)*65536))))+(ZK ((AW (AW (AW c).2).2).1*256))))+(AW (AW (AW (AW c).2).2).2).1),(AW (AW (AW (AW c).2).2).2).2)
def DN(c:kJ)(n:Int):Int×kJ:=bif decide (n≤0) then (0,c) else bif decide (n≤256) then (vu (AW c).1 n,(AW c).2) else (vu (zl c).1 n,(zl c).2)
def Ra(c:kJ)(n:Int):Int×kJ:=shut DN c n
theorem iS(c:kJ)(n:Int):Ra c n=DN c n:=congrFun (congrFun (pH DN) c) n
theorem nin(c:kJ):0≤(zl c).1:=by have a:=fY c;have b:=fY (AW c).2;have d:=fY (AW (AW c).2).2;have e:=fY (AW (AW (AW c).2).2).2;simp only[zl];rw[Ou (n:=(AW c).1*16777216),Ou (n:=(AW (AW c).2).1*65536),Ou (n:=(AW (AW (AW c).2).2).1*256)];rw[Ou (n:=(AW c).1*16777216+(AW (AW c).2).1*65536)];rw[Ou (n:=(AW c).1*16777216+(AW (AW c).2).1*65536+(AW (AW (AW c).2).2).1*256)];rw[Ou];omega
theorem sa(c:kJ)(n:Int):0≤(Ra c n).1∧(0<n→(Ra c n).1<n):=by
 rw[iS];unfold DN;by_cases a:n≤0
 ·simp only[Tl a,HI];omega
 ·by_cases b:n≤256
  ·simp only[yF a,Tl b,HI,rl];exact⟨Int.tmod_nonneg _ (fY c).1,λh=>w8 _ h⟩
  ·simp only[yF a,yF b,rl];exact⟨Int.tmod_nonneg _ (nin c),λh=>w8 _ h⟩
theorem bA{c:kJ}(h:DX c=true)(n:Int):DX (Ra c n).2=true:=by
 rw[iS];unfold DN;cases decide (n≤0)
 ·cases decide (n≤256)
  ·exact yT (yT (yT (yT h)))
  ·exact yT h
 ·exact h
theorem neS(a:Int→kJ→α)(c:kJ)(n:Int)(i:qK c n=true):nB8 kW a c n=a (Ra c n).1 (Ra c n).2:=by
 have d:DX c=true:=i;have f:=yT d;have g:=yT f;have j:=yT g;rw[iS];unfold nB8 DN;by_cases e:n≤0
 ·simp only[Tl e,HI]
 ·have h:(!(n==0))=true:=by
   have:n≠0:=by omega
   simpa using this
  by_cases b:n≤256
  ·simp only[yF e,Tl b,d,h,cd,HI,rl]
  ·simp only[yF e,yF b,d,f,g,j,h,cd,HI,rl];rfl
def nw6(a:Bool→kJ→α)(c:kJ)(n:Int):α:=bif Bk true (qK c n) then a (((Ra c n).1)==0) ((Ra c n).2) else kW
def qQ(c:kJ)(n:Int):Bool×kJ:=((Ra c n).1==0,(Ra c n).2)
theorem uP{c:kJ}(h:DX c=true)(n:Int):DX (qQ c n).2=true:=bA h n
theorem nbO(a:Bool→kJ→α)(c:kJ)(n:Int)(b:qK c n=true):nw6 kW a c n=a (qQ c n).1 (qQ c n).2:=by have d:qK c n=true:=b;unfold nw6 qQ;simp only[d,cd,HI]
def neI(a:Int→kJ→α)(c:kJ)(Z:rM):α:=bif Bk (Bk true (qK c (len Z))) (idx ((Ra c (len Z)).1) Z) then a (J (V Z (vt ((Ra c (len Z)).1))) 0) ((Ra c (len Z)).2) else kW
def DI(c:kJ)(Z:rM):Bool:=bif DX c then decide (0<Z.length) else false
def fP(c:kJ)(Z:rM):Int×kJ:=(J (V Z (vt ((Ra c (len Z)).1))) 0,(Ra c (len Z)).2)
def kM(c:kJ)(Z:rM):Int×kJ:=shut fP c Z
theorem xJ(c:kJ)(Z:rM):kM c Z=fP c Z:=congrFun (congrFun (pH fP) c) Z
theorem fH{c:kJ}(h:DX c=true)(l:rM):DX (kM c l).2=true:=by rw[xJ];exact bA h _
theorem nrf(c:kJ){l:rM}(h:0<l.length):∃k:Nat,k<l.length∧(kM c l).1=J (V l k) 0:=by obtain⟨d,a⟩:=sa c (len l);have b:=a (by simp only[len];omega);simp only[len] at b;rw[xJ];exact⟨(Ra c (len l)).1.toNat,by simp only[len];omega,rfl⟩
theorem ndz(a:Int→kJ→α)(c:kJ)(Z:rM)(b:DI c Z=true):neI kW a c Z=a (kM c Z).1 (kM c Z).2:=by
 have e:DX c=true:=by
  cases h:DX c
  ·rw[show DI c Z=(bif DX c then decide (0<Z.length) else false) from rfl,h] at b;cases b
  ·rfl
 have j:0<Z.length:=by rw[show DI c Z=(bif DX c then decide (0<Z.length) else false) from rfl,e] at b;exact of_decide_eq_true b
 have g:qK c (len Z)=true:=e;obtain⟨f,d⟩:=sa c (len Z);have d:=d (by simp only[len];omega);have i:idx (Ra c (len Z)).1 Z=true:=by simp only[len] at f d ⊢;simp only[idx,gF,kQ];exact⟨f,d⟩
 rw[xJ];unfold neI fP;simp only[g,i,cd,HI]
def uJ(a:Y→kJ→α)(f:Int)(j:oM α)(i:Int)(c:rM)(d e:Int)(g:rM):α:=bif decide (i<f) then bif Bk (Bk true (DX (⟨c,d,e⟩:kJ))) (Pf 1 g ([[.int (IntKind.wrap .u8 ((AW (⟨c,d,e⟩:kJ)).1))]])) then j (ZK (i+1)) (((AW (⟨c,d,e⟩:kJ)).2).b) (((AW (⟨c,d,e⟩:kJ)).2).i) (((AW (⟨c,d,e⟩:kJ)).2).h) (g++([[.int (IntKind.wrap .u8 ((AW (⟨c,d,e⟩:kJ)).1))]])) else kW else a (toStr g) (⟨c,d,e⟩:kJ)
def pJ(a:Y→kJ→α)(N:Nat)(b:Int)(c:Nat):oM α:=WS (λ_ _ _ _ _=>kW) (uJ kW a b) c
theorem faF(a:Y→kJ→α)(N:Nat)(b:Int)(c:Nat):pJ kW a N b (c+1)=uJ kW a b (pJ kW a N b c):=rfl
def XB(kW:α)(a:Y→kJ→α)(d:Int→Int→rM→Int→Int→rM→α)(c:kJ)(n:Int):α:=d (bif decide (5000<n) then 5000 else n) 0 c.b c.i c.h []
def nbN(a:Y→kJ→α)(N:Nat)(c:kJ)(n:Int):α:=XB kW a (λb=>pJ kW a N b N) c n
def pU:Nat→kJ→Y×kJ
 | 0,c=>([],c)
 | m+1,c=>(UInt8.ofNat (AW c).1.toNat::(pU m (AW c).2).1,(pU m (AW c).2).2)
def eL(c:kJ)(n:Int):Y×kJ:=pU (bif decide (5000<n) then 5000 else n).toNat c
def zg(c:kJ)(n:Int):Y×kJ:=shut eL c n
theorem pn(c:kJ)(n:Int):zg c n=eL c n:=congrFun (congrFun (pH eL) c) n
theorem ngg:∀(m:Nat) (c:kJ),(pU m c).1.length=m
 | 0,_=>rfl
 | m+1,c=>by simp only[pU,di,ngg m]
theorem nvy:∀(m:Nat) {c:kJ},DX c=true→DX (pU m c).2=true
 | 0,_,h=>h
 | m+1,c,h=>nvy m (yT h)
theorem Xx{c:kJ}(h:DX c=true)(n:Int):DX (zg c n).2=true:=by rw[pn];exact nvy _ h
theorem neo(c:kJ){n:Int}(a:0≤n)(h:n≤5000):len (zg c n).1=n:=by rw[pn];unfold eL;rw[yF (by omega),rl];simp only[len,ngg];omega
theorem nyt(a:Y→kJ→α)(c:kJ)(n:Int)(g:qK c n=true):∃N,nbN kW a N c n=a (zg c n).1 (zg c n).2:=by
 have j:DX c=true:=g;have k:∀n:Int,(bif decide (5000<n) then 5000 else n)≤5000:=by
  intro n;by_cases h:5000<n
  ·simp[h]
  ·simp only[yF h,rl];omega
 have l:=k n;refine⟨(bif decide (5000<n) then 5000 else n).toNat+1, ?_⟩;rw[pn];unfold nbN XB eL;generalize (bif decide (5000<n) then (5000:Int) else n)=M at l ⊢;have key:∀(m q i:Nat) (c:kJ) (o:rM),i+m=M.toNat→m<q→o.length=i→DX c=true→
   pJ kW a (M.toNat+1) M q (i:Int) c.b c.i c.h o=a (toStr o++(pU m c).1) (pU m c).2:=by
  intro m
  induction m with
  | zero=>
   intro q i c o r s f d;obtain⟨q,rfl⟩:=O4 q;rw[faF];simp only[uJ,yF (show ¬(i:Int)<M by omega),rl,pU,List.append_nil]
  | succ m e=>
   intro q i c o r s f d;obtain⟨q,rfl⟩:=O4 q;rw[faF];have t:∀x:List DC,Pf 1 o [x]=true:=λx=>Q0 (by simp only[di,vx];omega) (by omega);have z:=fY c;have u:IntKind.wrap .u8 (AW c).1=(AW c).1:=by rw[IntKind.wrap_u8];omega
   have:=e q (i+1) (AW c).2 (o++[[.int (AW c).1]]) (by omega) (by omega) (by simp[f]) (yT d);have v:((i+1:Nat):Int)=(i:Int)+1:=by omega
   rw[v] at this;have w:(⟨c.b,c.i,c.h⟩:kJ)=c:=rfl;simp only[uJ,Tl (show (i:Int)<M by omega),w,d,t,u,cd,HI,Ou (show -9223372036854775808≤(i:Int)+1 by omega) (show (i:Int)+1≤9223372036854775807 by omega)];rw[this];have y:toStr (o++[[DC.int (AW c).1]])=toStr o++[UInt8.ofNat (AW c).1.toNat]:=by simp only[toStr,List.map_append,wM,List.map_nil];rfl
   rw[y];simp only[pU,wb,x3,List.nil_append]
 have:=key M.toNat (M.toNat+1) 0 c [] (by omega) (by omega) rfl j;simpa [toStr] using this
def nA0(a:Bool→α)(b:rM):α:=a (decide (1048576<len b))
def Gv(a:rM):Bool:=nA0 id a
theorem nkF(a:Bool→α)(b:rM):nA0 a b=a (Gv b):=by rfl
theorem nAk{c:kJ}{l:rM}(h:DX c=true)(a:0<l.length):DI c l=true:=by unfold DI;rw[h];exact Tl a
theorem mQ{c:kJ}{x:List DC}{l:rM}(h:DX c=true):DI c (x::l)=true:=nAk h (Nat.zero_lt_succ _)
theorem UP{c:kJ}(n:Int)(h:DX c=true):qK c n=true:=h
theorem eC(c:kJ):(⟨c.b,c.i,c.h⟩:kJ)=c:=rfl
def jr(a:Int→kJ→α)(c:kJ):α:=bif Bk true (qK c 3) then a (ZK (167772161+((Ra c 3).1))) ((Ra c 3).2) else kW
def Bj(c:kJ):Bool:=jr false (λ_ _=>true) c
def Z1(c:kJ):Int×kJ:=(jr none (λa b=>some (a,b)) c).getD (0,⟨[],0,0⟩)
theorem nrS(a:Int→kJ→α)(c:kJ)(b:Bj c=true):jr kW a c=a (Z1 c).1 (Z1 c).2:=by exact Zm (K:=λr:Int×kJ=>a r.1 r.2) (xl (λ_=>⟨_,rfl,rfl⟩)) b
theorem KH{c:kJ}(h:DX c=true):Bj c=true∧DX (Z1 c).2=true:=by simp only[Bj,Z1,jr,UP _ h,cd,HI,Option.getD_some,bA h,and_self]
def y6(a:Int→kJ→α)(c:kJ):α:=let b:rM:=[[.int 16],[.int 16],[.int 16],[.int 24],[.int 17],[.int 2],[.int 4],[.int 31],[.int 0]];let d:Int×kJ:=kM c b;bif Bk true (DI c b) then a d.1 d.2 else kW
def tV(c:kJ):Bool:=y6 false (λ_ _=>true) c
def dr(c:kJ):Int×kJ:=(y6 none (λa b=>some (a,b)) c).getD (0,⟨[],0,0⟩)
theorem nk0(a:Int→kJ→α)(c:kJ)(b:tV c=true):y6 kW a c=a (dr c).1 (dr c).2:=by exact Zm (K:=λr:Int×kJ=>a r.1 r.2) (xl (λ_=>⟨_,rfl,rfl⟩)) b
theorem nyI{c:kJ}(h:DX c=true):tV c=true∧DX (dr c).2=true:=by have a:DI c [[.int 16],[.int 16],[.int 16],[.int 24],[.int 17],[.int 2],[.int 4],[.int 31],[.int 0]]=true:=nAk h (by decide);simp only[tV,dr,y6,a,cd,HI,Option.getD_some,fH h,and_self]
def Eg(a:ch→kJ→α)(c:kJ)(b:Int):α:=let h:Int×kJ:=kM ((Ra ((Ra c 2).2) 65536).2) ([[.int 0],[.int 100],[.int 4294967290],[.int ((Ra ((Ra c 2).2) 65536).1)]]);let i:kJ:=h.2;let j:Int×kJ:=kM i ([[.int 0],[.int 5],[.int 4294967295]]);let k:kJ:=j.2;let l:Int×kJ:=dr k;let m:kJ:=l.2;let n:Int×kJ:=kM m ([[.int 0],[.int 512],[.int 65535]]);let o:kJ:=n.2;let p:Int×kJ:=Ra o (ZK (b+1));let q:kJ:=p.2;let r:Int:=p.1;let s:Y×kJ:=zg q r;let d:kJ:=s.2;let e:Bool×kJ:=qQ d 4;let f:Int:=ZK (1000+((Ra c 2).1));let g:Y:=s.1;let t:kJ:=e.2;bif Bk (Bk (Bk (Bk (Bk (Bk true (qK c 2)) (qK ((Ra c 2).2) 65536)) (DI ((Ra ((Ra c 2).2) 65536).2) ([[.int 0],[.int 100],[.int 4294967290],[.int ((Ra ((Ra c 2).2) 65536).1)]]))) (DI i ([[.int 0],[.int 5],[.int 4294967295]]))) (tV k)) (DI m ([[.int 0],[.int 512],[.int 65535]])) then bif Bk (Bk true (qK o (ZK (b+1)))) (qK q r) then bif Bk true (qK d 4) then bif e.1 then a (⟨17,f,53,0,0,0,0,g⟩:ch) t else a (⟨6,f,80,h.1,j.1,l.1,n.1,g⟩:ch) t else kW else kW else kW
def w6(c:kJ)(a:Int):Bool:=Eg false (λ_ _=>true) c a
def Zu(c:kJ)(a:Int):ch×kJ:=(Eg none (λb d=>some (b,d)) c a).getD (⟨0,0,0,0,0,0,0,[]⟩,⟨[],0,0⟩)
theorem nDM(a:ch→kJ→α)(c:kJ)(b:Int)(d:w6 c b=true):Eg kW a c b=a (Zu c b).1 (Zu c b).2:=by exact Zm (K:=λr:ch×kJ=>a r.1 r.2) (xl (xl (xl (niS (λ_=>⟨_,rfl,rfl⟩) (λ_=>⟨_,rfl,rfl⟩))))) d
theorem nD9{c:kJ}(h:DX c=true)(a:Int):w6 c a=true∧DX (Zu c a).2=true:=by
 have d:=bA h 2;have e:=bA d 65536;have f:=fH e [[.int 0],[.int 100],[.int 4294967290],[.int ((Ra ((Ra c 2).2) 65536).1)]];have l:=fH f [[.int 0],[.int 5],[.int 4294967295]];have b:=nyI l;have g:=fH b.2 [[.int 0],[.int 512],[.int 65535]];have i:=bA g (ZK (a+1));have j:=λn=>Xx i n;have k:=λn=>uP (j n) 4;simp only[w6,Zu,Eg,UP _ h,UP _ d,mQ e,mQ f,b.1,mQ b.2,UP _ g,UP _ i,UP _ (j _),cd,TK,HI];cases (qQ (zg (Ra (kM (dr (kM (kM (Ra (Ra c 2).2 65536).2 [[.int 0],[.int 100],[.int 4294967290],[.int ((Ra ((Ra c 2).2) 65536).1)]]).2 [[.int 0],[.int 5],[.int 4294967295]]).2).2 [[.int 0],[.int 512],[.int 65535]]).2 (ZK (a+1))).2 (Ra (kM (dr (kM (kM (Ra (Ra c 2).2 65536).2 [[.int 0],[.int 100],[.int 4294967290],[.int ((Ra ((Ra c 2).2) 65536).1)]]).2 [[.int 0],[.int 5],[.int 4294967295]]).2).2 [[.int 0],[.int 512],[.int 65535]]).2 (ZK (a+1))).1).2 4).1
 ·exact⟨rfl,k _⟩
 ·exact⟨rfl,k _⟩
def Z_(a:oY→kJ→α)(c:kJ)(d:Int):α:=let G:rM:=[[.int 2],[.int 2],[.int 2],[.int 4],[.int 281474976710655]];let F:Int×kJ:=kM c G;let H:Int×kJ:=kM F.2 ([[.int 6],[.int 8]]);let I:kJ:=H.2;let K:Int×kJ:=kM I ([[.int (-1)],[.int (-1)],[.int 7]]);let L:kJ:=K.2;let M:Int×kJ:=kM L ([[.int 0],[.int 0],[.int 255]]);let N:kJ:=M.2;let O:Int×kJ:=kM N ([[.int 1],[.int 65535],[.int 65534]]);let P:kJ:=O.2;let Q:Int×kJ:=kM P ([[.int 64],[.int 64],[.int 255]]);let R:kJ:=Q.2;let p:Int×kJ:=Z1 R;let q:kJ:=p.2;let r:ch×kJ:=Zu q (kh d 128);let e:ch:=r.1;let S:Int:=e.eh;let f:Bool:=S==6;let s:Int:=e.ez;let g:Bool:=(bits .andNot .i64 s 9)==16;let j:kJ:=r.2;let t:Bool×kJ:=qQ j 2;let k:kJ:=t.2;let l:rM:=j.b;let m:Int:=j.i;let n:Int:=j.h;let o:kJ:=(⟨bif f then bif g then bif decide (128<d) then k.b else l else l else l,bif f then bif g then bif decide (128<d) then k.i else m else m else m,bif f then bif g then bif decide (128<d) then k.h else n else n else n⟩:kJ);let u:Int:=ZK ((ZK (d - 128))+1);let v:Int×kJ:=Ra o u;let w:kJ:=v.2;let x:Int:=ZK (128+v.1);let y:Int:=H.1;let z:Int:=K.1;let A:Int:=M.1;let B:Int:=O.1;let C:Int:=Q.1;let D:Int:=p.1;let E:Y×kJ:=zg w x;bif Bk (Bk (Bk (Bk (Bk (Bk (Bk true (DI c G)) (DI F.2 ([[.int 6],[.int 8]]))) (DI I ([[.int (-1)],[.int (-1)],[.int 7]]))) (DI L ([[.int 0],[.int 0],[.int 255]]))) (DI N ([[.int 1],[.int 65535],[.int 65534]]))) (DI P ([[.int 64],[.int 64],[.int 255]]))) (Bj R) then bif Bk true (w6 q (kh d 128)) then bif lV f (lV g (lV (decide (128<d)) (Bk true (qK j 2)) true) true) true then bif bif f then bif g then bif decide (128<d) then t.1 else false else false else false then bif Bk (Bk true (qK o u)) (qK w x) then a (⟨F.1,y,z,A,B,C,D,167772161,(⟨S,e.oC,e.oz,e.e4,e.XY,s,e.su,E.1⟩:ch)⟩:oY) E.2 else kW else a (⟨F.1,y,z,A,B,C,D,167772161,e⟩:oY) o else kW else kW else kW
def E7(c:kJ)(a:Int):Bool:=Z_ false (λ_ _=>true) c a
def Q4(c:kJ)(a:Int):oY×kJ:=(Z_ none (λb d=>some (b,d)) c a).getD (⟨0,0,0,0,0,0,0,0,⟨0,0,0,0,0,0,0,[]⟩⟩,⟨[],0,0⟩)
theorem nBL(a:oY→kJ→α)(c:kJ)(b:Int)(d:E7 c b=true):Z_ kW a c b=a (Q4 c b).1 (Q4 c b).2:=by exact Zm (K:=λr:oY×kJ=>a r.1 r.2) (xl (xl (xl (niS (xl (λ_=>⟨_,rfl,rfl⟩)) (λ_=>⟨_,rfl,rfl⟩))))) d
theorem nx9{b:Bool}{x y:kJ}(a:DX x=true)(c:DX y=true):DX (⟨bif b then x.b else y.b,bif b then x.i else y.i,bif b then x.h else y.h⟩:kJ)=true:=by
 cases b
 ·exact c
 ·exact a
theorem Rq{c:kJ}(h:DX c=true)(a:Int):E7 c a=true∧DX (Q4 c a).2=true:=by
 have e:=fH h [[.int 2],[.int 2],[.int 2],[.int 4],[.int 281474976710655]];have f:=fH e [[.int 6],[.int 8]];have g:=fH f [[.int (-1)],[.int (-1)],[.int 7]];have i:=fH g [[.int 0],[.int 0],[.int 255]];have j:=fH i [[.int 1],[.int 65535],[.int 65534]];have m:=fH j [[.int 64],[.int 64],[.int 255]];have k:=KH m;have b:=nD9 k.2 (kh a 128);simp only[E7,Q4,Z_,mQ h,mQ e,mQ f,mQ g,mQ i,mQ j,k.1,b.1,UP 2 b.2,cd,TK,HI,CC];generalize Zu (Z1 (kM (kM (kM (kM (kM (kM c [[.int 2],[.int 2],[.int 2],[.int 4],[.int 281474976710655]]).2 [[.int 6],[.int 8]]).2 [[.int (-1)],[.int (-1)],[.int 7]]).2 [[.int 0],[.int 0],[.int 255]]).2 [[.int 1],[.int 65535],[.int 65534]]).2 [[.int 64],[.int 64],[.int 255]]).2).2 (kh a 128)=G at b ⊢;have d:=uP b.2 2;have l:=bA d (ZK (ZK (a - 128)+1));have n:=Xx l (ZK (128+(Ra (qQ G.2 2).2 (ZK (ZK (a - 128)+1))).1));cases (G.1.eh==6)
 ·exact⟨rfl,b.2⟩
 cases ((bits .andNot .i64 G.1.ez 9)==16)
 ·exact⟨rfl,b.2⟩
 cases decide (128<a)
 ·exact⟨rfl,b.2⟩
 simp only[HI,eC,UP _ d,UP _ l,cd];cases (qQ G.2 2).1
 ·exact⟨rfl,d⟩
 ·exact⟨rfl,n⟩
def Good{R:Type}(T:(α:Type)→α→(R→α)→α)(P:R→Prop):Prop:=∃r,P r∧∀(α:Type) (kW:α) (k:R→α),T α kW k=k r
theorem N0{R:Type}{g:Bool}{T:(α:Type)→α→(R→α)→α}{P:R→Prop}(a:g=true)(h:Good T P):Good (λα kW k=>bif g then T α kW k else kW) P:=by subst a;exact h
theorem Wa{R:Type}{c:Bool}{T U:(α:Type)→α→(R→α)→α}{P:R→Prop}(a:c=true→Good T P)(b:c=false→Good U P):Good (λα kW k=>bif c then T α kW k else U α kW k) P:=by
 cases c
 ·exact b rfl
 ·exact a rfl
theorem x7{R:Type}{r:R}{P:R→Prop}(h:P r):Good (λ_ _ k=>k r) P:=⟨r,h,λ_ _ _=>rfl⟩
theorem L0{R:Type}{T:(α:Type)→α→(R→α)→α}{P Q:R→Prop}(h:Good T P)(i:∀r,P r→Q r):Good T Q:=by obtain⟨r,a,b⟩:=h;exact⟨r,i r a,b⟩
open Classical in
def drawn{R:Type}(d:R)(T:(α:Type)→α→(R→α)→α)(P:R→Prop):R:=if h:Good T P then h.choose else d
theorem Wu{R:Type}{d:R}{T:(α:Type)→α→(R→α)→α}{P:R→Prop}(h:Good T P):P (drawn d T P)∧∀(α:Type) (kW:α) (k:R→α),T α kW k=k (drawn d T P):=by unfold drawn;rw[dif_pos h];exact h.choose_spec
def oy(a:Y→kJ→α)(c:kJ):α:=bif Bk true (qK c 16) then a ((zg c 16).1) ((zg c 16).2) else kW
def yS(c:kJ):(α:Type)→α→((Y×kJ)→α)→α:=λα kW k=>oy kW (λa b=>k (a,b)) c
def P8(c:kJ)(r:(Y×kJ)):Prop:=DX r.2=true
def Rh(c:kJ):(Y×kJ):=drawn ([],c) (yS c) (P8 c)
theorem nqv{c:kJ}(b:DX c=true):Good (yS c) (P8 c):=by have a:DX c=true:=b;unfold yS P8 oy;exact N0 (zL (UP _ a)) (x7 (Xx a _))
theorem nk_{c:kJ}(a:DX c=true):P8 c (Rh c):=(Wu (nqv a)).1
theorem nxz(a:Y→kJ→α)(c:kJ)(b:DX c=true):oy kW a c=a (Rh c).1 (Rh c).2:=by exact (Wu (nqv b)).2 α kW (λr=>a r.1 r.2)
def zO(a:SA→kJ→α)(c:kJ):α:=let b:Int×kJ:=kM c ([[.int 6],[.int 6],[.int 17]]);let d:Int×kJ:=Z1 b.2;let e:Int×kJ:=Ra d.2 4;let f:kJ:=e.2;let g:Int×kJ:=kM f ([[.int 80],[.int 53]]);bif Bk (Bk (Bk (Bk true (DI c ([[.int 6],[.int 6],[.int 17]]))) (Bj b.2)) (qK d.2 4)) (DI f ([[.int 80],[.int 53]])) then a (⟨b.1,d.1,167772161,ZK (1000+e.1),g.1⟩:SA) g.2 else kW
def Rj(c:kJ):(α:Type)→α→((SA×kJ)→α)→α:=λα kW k=>zO kW (λa b=>k (a,b)) c
def sg(c:kJ)(r:(SA×kJ)):Prop:=DX r.2=true
def zy(c:kJ):(SA×kJ):=drawn (⟨0,0,0,0,0⟩,c) (Rj c) (sg c)
theorem nhD{c:kJ}(e:DX c=true):Good (Rj c) (sg c):=by have b:DX c=true:=e;unfold Rj sg zO;dsimp only;have f:∀l,DX (kM c l).2=true:=λl=>fH b l;have a:=λl=>KH (f l);have d:=λl=>bA (a l).2 4;refine N0 ?_ (x7 (fH (d _) _));simp only[mQ b,(a _).1,UP _ (a _).2,mQ (d _),cd]
theorem nC_{c:kJ}(a:DX c=true):sg c (zy c):=(Wu (nhD a)).1
theorem noH(a:SA→kJ→α)(c:kJ)(b:DX c=true):zO kW a c=a (zy c).1 (zy c).2:=by exact (Wu (nhD b)).2 α kW (λr=>a r.1 r.2)
def wQ(a:AP→kJ→α)(c:kJ):α:=let b:Bool×kJ:=qQ ((qQ c 4).2) 2;bif Bk true (qK c 4) then bif Bk true (qK ((qQ c 4).2) 2) then bif b.1 then a (⟨2,(qQ c 4).1,[[.int 7]]⟩:AP) b.2 else a (⟨2,(qQ c 4).1,[]⟩:AP) b.2 else kW else kW
def Wj(c:kJ):(α:Type)→α→((AP×kJ)→α)→α:=λα kW k=>wQ kW (λa b=>k (a,b)) c
def T_(c:kJ)(r:(AP×kJ)):Prop:=DX r.2=true∧r.1.pO.length≤1
def NP(c:kJ):(AP×kJ):=drawn (⟨0,false,[]⟩,c) (Wj c) (T_ c)
theorem ndN{c:kJ}(e:DX c=true):Good (Wj c) (T_ c):=by have a:DX c=true:=e;unfold Wj T_ wQ;dsimp only;have b:=uP a 4;have d:=uP b 2;refine N0 (zL (UP _ a)) (N0 (zL (UP _ b)) ?_);exact Wa (λ_=>x7 ⟨d,x1 _⟩) (λ_=>x7 ⟨d,vA _⟩)
theorem nxy{c:kJ}(a:DX c=true):T_ c (NP c):=(Wu (ndN a)).1
theorem nfw(a:AP→kJ→α)(c:kJ)(b:DX c=true):wQ kW a c=a (NP c).1 (NP c).2:=by exact (Wu (ndN b)).2 α kW (λr=>a r.1 r.2)
def Un(a:sY→kJ→α)(c:kJ):α:=let j:Int×kJ:=kM ((Ra c 3).2) ([[.int 0],[.int 6],[.int 17]]);let k:Int×kJ:=Z1 j.2;let l:kJ:=k.2;let m:Int×kJ:=kM l ([[.int 0],[.int 8],[.int 31],[.int 32]]);let n:kJ:=m.2;let o:Int×kJ:=kM n ([[.int 0],[.int 53],[.int 80]]);let p:kJ:=o.2;let q:Int×kJ:=kM p ([[.int 80],[.int 100],[.int 65535]]);let r:kJ:=q.2;let s:Int×kJ:=kM r ([[.int (-2)],[.int (-2)],[.int (-1)],[.int 7]]);let t:kJ:=s.2;let u:Int×kJ:=kM t ([[.int 0],[.int 0],[.int 1]]);let b:Int:=u.1;let d:kJ:=u.2;let e:Int:=k.1;let f:Int:=m.1;let v:Int:=o.1;let g:Int:=q.1;let h:Int:=s.1;let i:Int×kJ:=Ra d 4;bif Bk (Bk (Bk (Bk (Bk (Bk (Bk (Bk true (qK c 3)) (DI ((Ra c 3).2) ([[.int 0],[.int 6],[.int 17]]))) (Bj j.2)) (DI l ([[.int 0],[.int 8],[.int 31],[.int 32]]))) (DI n ([[.int 0],[.int 53],[.int 80]]))) (DI p ([[.int 80],[.int 100],[.int 65535]]))) (DI r ([[.int (-2)],[.int (-2)],[.int (-1)],[.int 7]]))) (DI t ([[.int 0],[.int 0],[.int 1]])) then bif b==0 then bif Bk true (qK d 4) then a (⟨(Ra c 3).1,j.1,e,f,v,g,h,b,i.1⟩:sY) i.2 else kW else a (⟨(Ra c 3).1,j.1,e,f,v,g,h,b,0⟩:sY) d else kW
def qW(c:kJ):(α:Type)→α→((sY×kJ)→α)→α:=λα kW k=>Un kW (λa b=>k (a,b)) c
def g0(c:kJ)(r:(sY×kJ)):Prop:=DX r.2=true
def Fg(c:kJ):(sY×kJ):=drawn (⟨0,0,0,0,0,0,0,0,0⟩,c) (qW c) (g0 c)
theorem ngt{c:kJ}(j:DX c=true):Good (qW c) (g0 c):=by have d:DX c=true:=j;unfold qW g0 Un;dsimp only;have e:=bA d 3;have k:=fH e [[.int 0],[.int 6],[.int 17]];have a:=KH k;have f:=fH a.2 [[.int 0],[.int 8],[.int 31],[.int 32]];have g:=fH f [[.int 0],[.int 53],[.int 80]];have h:=fH g [[.int 80],[.int 100],[.int 65535]];have i:=fH h [[.int (-2)],[.int (-2)],[.int (-1)],[.int 7]];have b:=fH i [[.int 0],[.int 0],[.int 1]];refine N0 (by simp only[UP _ d,mQ e,a.1,mQ a.2,mQ f,mQ g,mQ h,mQ i,cd]) ?_;exact Wa (λ_=>N0 (zL (UP _ b)) (x7 (bA b 4))) (λ_=>x7 b)
theorem nCw{c:kJ}(a:DX c=true):g0 c (Fg c):=(Wu (ngt a)).1
theorem nB3(a:sY→kJ→α)(c:kJ)(b:DX c=true):Un kW a c=a (Fg c).1 (Fg c).2:=by exact (Wu (ngt b)).2 α kW (λr=>a r.1 r.2)
def nrj(a:W4→α):α:=a (⟨(wJ 8 ([.int 0,.int 0,.int 0,.int 0,.int 0,.int 0,.int 0]:List DC))⟩:W4)
def SY:W4:=nrj id
theorem npY(a:W4→α):nrj a=a SY:=by rfl
def nyu(a:Int→α)(b:Bool):α:=bif b then a 1 else a 0
def Sy(b:Bool):Int:=nyu id b
theorem naa(a:Int→α)(b:Bool):nyu a b=a (Sy b):=by exact cU rfl rfl
def Xh(a:rM→kJ→α)(g:oM α)(k:Int)(c:rM)(d e:Int)(f:rM):α:=bif decide (0<k) then bif Bk (Bk true (DX (⟨c,d,e⟩:kJ))) (Pf 72 f [sY.enc ((Fg (⟨c,d,e⟩:kJ)).1)]) then g (ZK (k - 1)) (((Fg (⟨c,d,e⟩:kJ)).2).b) (((Fg (⟨c,d,e⟩:kJ)).2).i) (((Fg (⟨c,d,e⟩:kJ)).2).h) (f++[sY.enc ((Fg (⟨c,d,e⟩:kJ)).1)]) else kW else a f (⟨c,d,e⟩:kJ)
def sH(a:rM→kJ→α)(N b:Nat):oM α:=WS (λ_ _ _ _ _=>kW) (Xh kW a) b
def O0(a:rM→kJ→α)(d:oM α)(c:kJ):α:=bif Bk true (qK c 5) then d ((Ra c 5).1) (((Ra c 5).2).b) (((Ra c 5).2).i) (((Ra c 5).2).h) [] else kW
def tD(a:rM→kJ→α)(N:Nat)(c:kJ):α:=O0 kW a (sH kW a N N) c
def Za(c:kJ):(α:Type)→α→((rM×kJ)→α)→α:=λα kW k=>tD kW (λa b=>k (a,b)) 6 c
def aL(c:kJ)(r:(rM×kJ)):Prop:=DX r.2=true∧r.1.length≤4
def Vy(c:kJ):(rM×kJ):=drawn ([],c) (Za c) (aL c)
theorem ngB{c:kJ}(l:DX c=true):Good (Za c) (aL c):=by
 have g:DX c=true:=l;have j:=sa c 5;have n:=j.2 (by omega);unfold Za aL tD O0;have key:∀(m q:Nat) (d:kJ) (o:rM),m<q→o.length+m≤100→DX d=true→Good (λα kW k=>sH kW (λa e=>k (a,e)) 6 q (m:Int) d.b d.i d.h o) (λr=>DX r.2=true∧r.1.length=o.length+m):=by
  intro m
  induction m with
  | zero=>
   intro q d o s t f;obtain⟨q,rfl⟩:=O4 q;show Good (λα kW k=>Xh kW (λa e=>k (a,e)) (sH kW (λa e=>k (a,e)) 6 q) ((0:Nat):Int) d.b d.i d.h o) _;unfold Xh;dsimp only;exact Wa (λh=>absurd (of_decide_eq_true h) (by omega)) (λ_=>x7 ⟨f,rfl⟩)
  | succ m u=>
   intro q d o s t f;obtain⟨q,rfl⟩:=O4 q;show Good (λα kW k=>Xh kW (λa e=>k (a,e)) (sH kW (λa e=>k (a,e)) 6 q) ((m+1:Nat):Int) d.b d.i d.h o) _;unfold Xh;dsimp only;have v:∀(z:Nat) (x:List DC),z≤1000→Pf z o [x]=true:=λz x y=>Q0 (by simp only[di,vx];omega) (by omega);have w:ZK (((m+1:Nat):Int) - 1)=(m:Int):=by rw[Ou];omega
   refine Wa (λ_=>?_) (λh=>absurd (of_decide_eq_false h) (by omega));refine N0 (by rw[v 72 _ (by omega)];simp only[cd,TK];exact f) ?_;rw[w];refine L0 (u q (Fg d).2 (o++[sY.enc (Fg d).1]) (by omega) (by rw[Qe];simp only[di,vx];omega) (nCw f)) (λr h=>⟨h.1, ?_⟩);rw[h.2,Qe];simp only[di,vx];omega
 refine N0 (zL (UP _ g)) ?_;have:=key (Ra c 5).1.toNat 6 (Ra c 5).2 [] (by omega) (by simp only[vx];omega) (bA g 5);rw[y1 j.1] at this;exact L0 this (λr h=>⟨h.1,by rw[h.2];simp only[vx];omega⟩)
theorem nxc{c:kJ}(a:DX c=true):aL c (Vy c):=(Wu (ngB a)).1
theorem ndy(a:rM→kJ→α)(c:kJ)(b:DX c=true):∃N,tD kW a N c=a (Vy c).1 (Vy c).2:=by exact⟨6,(Wu (ngB b)).2 α kW (λr=>a r.1 r.2)⟩
def cN(a:aV→Int→kJ→α)(c:Int)(s:Y)(j:oM α)(k:Int)(d:rM)(e f:Int)(g:rM):α:=bif decide (0<k) then bif Bk (Bk true (qK (⟨d,e,f⟩:kJ) c)) (Pf 8 g ([[.int ((Ra (⟨d,e,f⟩:kJ) c).1)]])) then j (ZK (k - 1)) (((Ra (⟨d,e,f⟩:kJ) c).2).b) (((Ra (⟨d,e,f⟩:kJ) c).2).i) (((Ra (⟨d,e,f⟩:kJ) c).2).h) (g++([[.int ((Ra (⟨d,e,f⟩:kJ) c).1)]])) else kW else a (⟨s,g⟩:aV) c (⟨d,e,f⟩:kJ)
def yH(a:aV→Int→kJ→α)(N:Nat)(b:Int)(s:Y)(c:Nat):oM α:=WS (λ_ _ _ _ _=>kW) (cN kW a b s) c
def uu(a:aV→Int→kJ→α)(f:Int→Y→Int→rM→Int→Int→rM→α)(c:kJ):α:=let e:Int×kJ:=kM ((Rh ((Ra c 4).2)).2) ([[.int 1],[.int 2],[.int 4],[.int 8]]);let d:kJ:=e.2;bif Bk true (qK c 4) then bif Bk true (DX ((Ra c 4).2)) then bif Bk true (DI ((Rh ((Ra c 4).2)).2) ([[.int 1],[.int 2],[.int 4],[.int 8]])) then f (ZK (1+((Ra c 4).1))) ((Rh ((Ra c 4).2)).1) e.1 d.b d.i d.h [] else kW else kW else kW
def XO(a:aV→Int→kJ→α)(N:Nat)(c:kJ):α:=uu kW a (λb s=>yH kW a N b s N) c
def C6(c:kJ):(α:Type)→α→((aV×Int×kJ)→α)→α:=λα kW k=>XO kW (λa b d=>k (a,b,d)) 9 c
def FX(c:kJ)(r:(aV×Int×kJ)):Prop:=DX r.2.2=true∧r.1.eb.length≤8∧1≤r.2.1∧r.2.1≤4
def bl(c:kJ):(aV×Int×kJ):=drawn (⟨[],[]⟩,0,c) (C6 c) (FX c)
theorem nsr{c:kJ}(y:DX c=true):Good (C6 c) (FX c):=by
 have w:DX c=true:=y;have A:=sa c 4;have B:=A.2 (by omega);have t:=bA w 4;have u:DX (Rh (Ra c 4).2).2=true:=nk_ t;have g:=fH u [[.int 1],[.int 2],[.int 4],[.int 8]];unfold C6 FX XO uu;dsimp only;generalize (Rh (Ra c 4).2).1=s;have v:∃n:Nat,n≤8∧(kM (Rh (Ra c 4).2).2 [[.int 1],[.int 2],[.int 4],[.int 8]]).1=(n:Int):=by
  obtain⟨j,C,D⟩:=nrf (Rh (Ra c 4).2).2 (l:=[[.int 1],[.int 2],[.int 4],[.int 8]]) (by decide);rw[D];simp only[di,vx] at C;rcases j with _ | _ | _ | _ | j
  ·exact⟨1,by omega,rfl⟩
  ·exact⟨2,by omega,rfl⟩
  ·exact⟨4,by omega,rfl⟩
  ·exact⟨8,by omega,rfl⟩
  ·omega
 obtain⟨n,I,v⟩:=v;refine N0 (zL (UP _ w)) (N0 (zL t) (N0 (zL (mQ u)) ?_));rw[v];generalize E:ZK (1+(Ra c 4).1)=nj;rw[Ou] at E;have key:∀(m q:Nat) (d:kJ) (o:rM),m<q→o.length+m≤100→DX d=true→Good (λα kW k=>yH kW (λa e f=>k (a,e,f)) 9 nj s q (m:Int) d.b d.i d.h o) (λr=>DX r.2.2=true∧r.1.eb.length=o.length+m∧r.2.1=nj):=by
  intro m
  induction m with
  | zero=>
   intro q d o t u g;obtain⟨q,rfl⟩:=O4 q;show Good (λα kW k=>cN kW (λa e f=>k (a,e,f)) nj s (yH kW (λa e f=>k (a,e,f)) 9 nj s q) ((0:Nat):Int) d.b d.i d.h o) _;unfold cN;dsimp only;exact Wa (λh=>absurd (of_decide_eq_true h) (by omega)) (λ_=>x7 ⟨g,rfl,rfl⟩)
  | succ m F=>
   intro q d o t u g;obtain⟨q,rfl⟩:=O4 q;show Good (λα kW k=>cN kW (λa e f=>k (a,e,f)) nj s (yH kW (λa e f=>k (a,e,f)) 9 nj s q) ((m+1:Nat):Int) d.b d.i d.h o) _;unfold cN;dsimp only;have G:∀(z:Nat) (x:List DC),z≤1000→Pf z o [x]=true:=λz x K=>Q0 (by simp only[di,vx];omega) (by omega);have H:ZK (((m+1:Nat):Int) - 1)=(m:Int):=by rw[Ou];omega
   refine Wa (λ_=>?_) (λh=>absurd (of_decide_eq_false h) (by omega));refine N0 (by rw[G 8 _ (by omega)];simp only[cd,TK];exact g) ?_;rw[H];refine L0 (F q (Ra d nj).2 (o++[[.int (Ra d nj).1]]) (by omega) (by rw[Qe];simp only[di,vx];omega) (bA g _)) (λr h=>⟨h.1, ?_,h.2.2⟩);rw[h.2.1,Qe];simp only[di,vx];omega
 refine L0 (key n 9 _ [] (by omega) (by simp only[vx];omega) g) (λr h=>⟨h.1, ?_, ?_, ?_⟩)
 ·rw[h.2.1];simp only[vx];omega
 ·rw[h.2.2];omega
 ·rw[h.2.2];omega
theorem nnE{c:kJ}(a:DX c=true):FX c (bl c):=(Wu (nsr a)).1
theorem nfu(a:aV→Int→kJ→α)(c:kJ)(b:DX c=true):∃N,XO kW a N c=a (bl c).1 (bl c).2.1 (bl c).2.2:=by exact⟨9,(Wu (nsr b)).2 α kW (λr=>a r.1 r.2.1 r.2.2)⟩
def aW(a:rM→kJ→α)(d:rM)(r:oM α)(k:Int)(e:rM)(f g:Int)(j:rM):α:=let c:SA:=sM (oY.nd (V d (vt k)) 0);let l:Bool:=c.eh==6;let m:Bool:=decide (El j c<0);let n:Bool×kJ:=qQ (⟨e,f,g⟩:kJ) 6;let s:rM:=bif l then bif m then n.2.b else e else e;let t:Int:=bif l then bif m then n.2.i else f else f;let u:Int:=bif l then bif m then n.2.h else g else g;let o:kJ:=(⟨s,t,u⟩:kJ);let p:rM:=[[.int 0],[.int 0],[.int 0],[.int 1],[.int 5],[.int (-3)]];let q:kJ:=(kM o p).2;bif decide (k<len d) then bif Bk true (idx k d) then bif lV l (lV m (Bk true (qK (⟨e,f,g⟩:kJ) 6)) true) true then bif bif l then bif m then !n.1 else false else false then bif Bk (Bk true (idx k d)) (DI o p) then bif Bk true (Pf 72 j ([[.int c.eh,.int c.py,.int c.pN,.int c.oC,.int c.oz,.int (bits .and .i64 (ZK ((J (V d (vt k)) 11)+((kM o p).1))) 4294967295),.str [],.bool false]])) then r (ZK (k+1)) q.b q.i q.h (j++([[.int c.eh,.int c.py,.int c.pN,.int c.oC,.int c.oz,.int (bits .and .i64 (ZK ((J (V d (vt k)) 11)+((kM o p).1))) 4294967295),.str [],.bool false]])) else kW else kW else r (ZK (k+1)) s t u j else kW else kW else a j (⟨e,f,g⟩:kJ)
def sm(a:rM→kJ→α)(N:Nat)(b:rM)(c:Nat):oM α:=WS (λ_ _ _ _ _=>kW) (aW kW a b) c
def Vo(kW:α)(a:rM→kJ→α)(d:oM α)(c:kJ)(e:rM):α:=d 0 c.b c.i c.h []
def wP(a:rM→kJ→α)(N:Nat)(c:kJ)(b:rM):α:=Vo kW a (sm kW a N b N) c b
def rL(c:kJ)(a:rM):Bool:=DX c && decide (a.length≤1000)
def F0(c:kJ)(a:rM):(α:Type)→α→((rM×kJ)→α)→α:=λα kW k=>wP kW (λb d=>k (b,d)) (a.length+1) c a
def Sv(c:kJ)(a:rM)(r:(rM×kJ)):Prop:=DX r.2=true∧r.1.length≤a.length∧∀x∈r.1,fJ x 6=[]
def jb(c:kJ)(a:rM):(rM×kJ):=drawn ([],c) (F0 c a) (Sv c a)
theorem nfC{c:kJ}{a:rM}(s:rL c a=true):Good (F0 c a) (Sv c a):=by
 simp only[rL,gF,kQ] at s;obtain⟨u,C⟩:=s;unfold F0 Sv wP Vo;have key:∀(m q i:Nat) (d:kJ) (o:rM),m<q→i+m=a.length→o.length≤i→(∀x∈o,fJ x 6=[])→DX d=true→Good (λα kW k=>sm kW (λe f=>k (e,f)) (a.length+1) a q (i:Int) d.b d.i d.h o) (λr=>DX r.2=true∧r.1.length≤a.length∧∀x∈r.1,fJ x 6=[]):=by
  intro m
  induction m with
  | zero=>
   intro q i d o v w y l j;obtain⟨q,rfl⟩:=O4 q;show Good (λα kW k=>aW kW (λe f=>k (e,f)) a (sm kW (λe f=>k (e,f)) (a.length+1) a q) (i:Int) d.b d.i d.h o) _;unfold aW;dsimp only;exact Wa (λh=>absurd (of_decide_eq_true h) (by simp only[len];omega)) (λ_=>x7 ⟨j,by show o.length≤_;omega,l⟩)
  | succ m t=>
   intro q i d o v w y l j;obtain⟨q,rfl⟩:=O4 q;show Good (λα kW k=>aW kW (λe f=>k (e,f)) a (sm kW (λe f=>k (e,f)) (a.length+1) a q) (i:Int) d.b d.i d.h o) _;unfold aW;dsimp only;have z:i<a.length:=by omega
   have A:∀(x:List DC),Pf 72 o [x]=true:=λx=>Q0 (by simp only[di,vx];omega) (by omega);have B:ZK ((i:Int)+1)=((i+1:Nat):Int):=by rw[Ou];omega
   refine Wa (λ_=>?_) (λh=>absurd (of_decide_eq_false h) (by simp only[len];omega));rw[uH z,B];refine N0 rfl ?_;have h4':=uP j 6;refine N0 (eE (λ_=>eE (λ_=>zL (UP _ j)) (λ_=>rfl)) (λ_=>rfl)) ?_;have n:DX (⟨bif (sM (oY.nd (V a (vt (i:Int))) 0)).eh==6 then bif decide (El o (sM (oY.nd (V a (vt (i:Int))) 0))<0) then (qQ d 6).2.b else d.b else d.b,bif (sM (oY.nd (V a (vt (i:Int))) 0)).eh==6 then bif decide (El o (sM (oY.nd (V a (vt (i:Int))) 0))<0) then (qQ d 6).2.i else d.i else d.i,bif (sM (oY.nd (V a (vt (i:Int))) 0)).eh==6 then bif decide (El o (sM (oY.nd (V a (vt (i:Int))) 0))<0) then (qQ d 6).2.h else d.h else d.h⟩:kJ)=true:=by
    cases (sM (oY.nd (V a (vt (i:Int))) 0)).eh==6
    ·exact j
    ·cases decide (El o (sM (oY.nd (V a (vt (i:Int))) 0))<0)
     ·exact j
     ·exact h4'
   refine Wa (λ_=>?_) (λ_=>?_)
   ·refine N0 (by rw[cd];exact zL (mQ n)) (N0 (zL (A _)) ?_);refine t q (i+1) (kM (⟨_,_,_⟩:kJ) _).2 (o++[_]) (by omega) (by omega) (by rw[Qe];simp only[di,vx];omega) ?_ (fH n _);intro x g;rcases wN.1 g with g | g
    ·exact l x g
    ·rw[w2.1 g];rfl
   ·exact t q (i+1) (⟨_,_,_⟩:kJ) o (by omega) (by omega) (by omega) l n
 exact key a.length (a.length+1) 0 c [] (by omega) (by omega) (x1 _) (λx g=>by cases g) u
theorem nb1{c:kJ}{a:rM}(b:rL c a=true):Sv c a (jb c a):=(Wu (nfC b)).1
theorem nqc(a:rM→kJ→α)(c:kJ)(b:rM)(d:rL c b=true):∃N,wP kW a N c b=a (jb c b).1 (jb c b).2:=by exact⟨(b.length+1),(Wu (nfC d)).2 α kW (λr=>a r.1 r.2)⟩
def Kc(a:W4→Bool→α)(b:Int)(e:rM)(f g h j l:Int)(c:rM)(m:Int→Int→α)(i k:Int):α:=let d:Int:=vu (ZK ((Rp (⟨f,g,h,j,l⟩:SA))+k)) 8;bif bif decide (k<8) then decide (i<0) else false then bif Bk true (idx d e) then m (bif (J (V e (vt d)) 0) != 1 then d else i) (ZK (k+1)) else kW else bif decide (i<0) then a (⟨c⟩:W4) false else bif Bk (Bk true (idx i c)) (inl (vt i) c) then a (⟨vv c (vt i) (CI (V c (vt i)) 0 [.int 1,.int f,.int g,.int h,.int j,.int l,.int b])⟩:W4) true else kW
def WH(a:W4→Bool→α)(N:Nat)(b:Int)(c:rM)(d e f g h:Int)(i:rM)(j:Nat):Int→Int→α:=WS (λ_ _=>kW) (Kc kW a b c d e f g h i) j
def bO(a:W4→Bool→α)(c:rM→Int→Int→Int→Int→Int→rM→Int→Int→α)(t:W4)(f:SA)(b:Int):α:=bif Bk true (ca t) then bif bif !(xG t) then true else !(nn b 0 3) then a (cp t) false else bif Bk true (Qu t f) then c t.nO f.eh f.py f.pN f.oC f.oz ((cp t).nO) (TN t f) 0 else kW else kW
def iB(a:W4→Bool→α)(N:Nat)(t:W4)(f:SA)(b:Int):α:=bO kW a (λc d e g h i j=>WH kW a N b c d e g h i j N) t f b
def ya(t:W4)(f:SA)(a:Int):Bool:=ca t
theorem nuH(t:rM)(h:Int)(f:SA):∀(m k:Nat),wA t h f m k<8
 | 0,_=>by show (-1:Int)<8;omega
 | m+1,k=>by
  unfold wA;cases (J (V t (vt ((h+(k:Int)) % 8))) 0)==0
  ·cases iW (V t (vt ((h+(k:Int)) % 8))) f
   ·exact nuH t h f m (k+1)
   ·show (h+(k:Int)) % 8<8;omega
  ·show (-1:Int)<8;omega
theorem nsy(t:W4)(f:SA):TN t f<8:=nuH _ _ _ _ _
def kD(t:W4)(f:SA)(a:Int):(α:Type)→α→((W4×Bool)→α)→α:=λα kW k=>iB kW (λb c=>k (b,c)) 9 t f a
def B_(t:W4)(f:SA)(a:Int)(r:(W4×Bool)):Prop:=r.1.nO.length=t.nO.length
def SR(t:W4)(f:SA)(a:Int):(W4×Bool):=drawn (⟨[]⟩,false) (kD t f a) (B_ t f a)
theorem nj_{t:W4}{f:SA}{a:Int}(n:ya t f a=true):Good (kD t f a) (B_ t f a):=by
 have o:ca t=true:=n;unfold kD B_ iB bO;rw[show cp t=t from rfl];refine N0 (zL o) (Wa (λ_=>x7 rfl) (λs=>?_));have e:=ux (Uk s).1;have u:t.nO.length=8:=by
  unfold xG at e;cases d:(len t.nO) != 8
  ·have:len t.nO=8:=by simpa using d
   simp only[len] at this;omega
  ·rw[d] at e;cases e
 refine N0 (zL (Tl u)) ?_;have B:=xc f;have key:∀(m q i:Nat) (x:Int),m<q→i+m=8→x<8→Good (λα kW k=>WH kW (λb c=>k (b,c)) 9 a t.nO f.eh f.py f.pN f.oC f.oz t.nO q x (i:Int)) (λr=>r.1.nO.length=t.nO.length):=by
  intro m
  induction m with
  | zero=>
   intro q i x d v l;obtain⟨q,rfl⟩:=O4 q;show Good (λα kW k=>Kc kW (λb c=>k (b,c)) a t.nO f.eh f.py f.pN f.oC f.oz t.nO (WH kW (λb c=>k (b,c)) 9 a t.nO f.eh f.py f.pN f.oC f.oz t.nO q) x (i:Int)) _;unfold Kc;dsimp only;rw[yF (show ¬(i:Int)<8 by omega)];refine Wa (λh=>by cases h) (λ_=>?_);refine Wa (λ_=>x7 rfl) (λh=>?_);have h:=of_decide_eq_false h;refine N0 ?_ (x7 (vw ..));have g:idx x t.nO=true:=by simp only[idx,gF,kQ];omega
   have j:inl (vt x) t.nO=true:=by simp only[inl,kQ];omega
   rw[g,j];rfl
  | succ m w=>
   intro q i x d v l;obtain⟨q,rfl⟩:=O4 q;show Good (λα kW k=>Kc kW (λb c=>k (b,c)) a t.nO f.eh f.py f.pN f.oC f.oz t.nO (WH kW (λb c=>k (b,c)) 9 a t.nO f.eh f.py f.pN f.oC f.oz t.nO q) x (i:Int)) _;unfold Kc;dsimp only;have y:(⟨f.eh,f.py,f.pN,f.oC,f.oz⟩:SA)=f:=rfl;have z:ZK ((i:Int)+1)=((i+1:Nat):Int):=by rw[Ou];omega
   have A:0≤vu (ZK (Rp f+(i:Int))) 8∧vu (ZK (Rp f+(i:Int))) 8<8:=by rw[Ou,w9 (by omega)];omega
   rw[y,z];refine Wa (λ_=>?_) (λ_=>?_)
   ·refine N0 (by rw[show idx (vu (ZK (Rp f+(i:Int))) 8) t.nO=true from by simp only[idx,gF,kQ];omega];rfl) ?_;refine w q (i+1) _ (by omega) (by omega) ?_;cases (J (V t.nO (vt (vu (ZK (Rp f+(i:Int))) 8))) 0) != 1
    ·exact l
    ·exact A.2
   ·refine Wa (λ_=>x7 rfl) (λh=>?_);have h:=of_decide_eq_false h;refine N0 ?_ (x7 (vw ..));have g:idx x t.nO=true:=by simp only[idx,gF,kQ];omega
    have j:inl (vt x) t.nO=true:=by simp only[inl,kQ];omega
    rw[g,j];rfl
 exact key 8 9 0 _ (by omega) (by omega) (nsy t f)
theorem nsm{t:W4}{f:SA}{a:Int}(b:ya t f a=true):B_ t f a (SR t f a):=(Wu (nj_ b)).1
theorem ntR(a:W4→Bool→α)(t:W4)(f:SA)(b:Int)(c:ya t f b=true):∃N,iB kW a N t f b=a (SR t f b).1 (SR t f b).2:=by exact⟨9,(Wu (nj_ c)).2 α kW (λr=>a r.1 r.2)⟩
def g_(a:rM→kJ→α)(D:Int→Int→rM→Int→Int→Int→Int→Int→Int→Int→Int→Int→Int→Int→Int→Int→Int→Int→Int→Int→Y→rM→α)(size k:Int)(nR:rM)(nB nC p q r s M t u v d w x A y Z z:Int)(X:Y)(m:rM):α:=let z0:Bool×kJ:=qQ (⟨nR,nB,nC⟩:kJ) 5;let c:oY×kJ:=Q4 z0.2 40;let z2:Bool×kJ:=qQ c.2 6;let z3:kJ:=z2.2;let E:Int:=c.1.pk.eh;let n:Bool:=E==6;let z6:Int×kJ:=Ra z3 40;let z7:kJ:=z6.2;let z8:rM:=[[.int 16],[.int 16],[.int 16],[.int 16],[.int 16],[.int 24],[.int 17],[.int 2]];let z9:Int×kJ:=kM z7 z8;let UE:kJ:=z9.2;let Uq:Int:=ZK (1+z6.1);let z12:Y×kJ:=zg UE Uq;let N:kJ:=z12.2;let z14:Bool×kJ:=qQ N 8;let z15:kJ:=z14.2;let Nd:rM:=bif n then z15.b else N.b;let z17:Int:=bif n then z15.i else N.i;let z18:Int:=bif n then z15.h else N.h;let B:Int:=vu (ZK (c.1.Id+1)) 65536;let e:Int:=c.1.pk.oC;let f:Int:=c.1.pk.oz;let l:Int:=c.1.pk.e4;let G:Y:=z12.1;let g:Int:=c.1.pk.XY;let O:Int:=z9.1;let j:Int:=c.1.pk.su;let z27:Bool:=Bk true (Pf 136 m [oY.enc c.1]);let z28:Bool×kJ:=qQ z7 8;let z29:kJ:=z28.2;let z30:rM:=bif n then z29.b else z7.b;let z31:Int:=bif n then z29.i else z7.i;let z32:Int:=bif n then z29.h else z7.h;let P:Y:=c.1.pk.ed;let z34:Int:=vu (ZK (l+(len P))) 4294967296;let z35:Int:=c.1.pk.ez;let z36:Int×kJ:=kM z3 z8;let z37:kJ:=z36.2;let z38:Y×kJ:=zg z37 size;let Q:kJ:=z38.2;let z40:Bool×kJ:=qQ Q 8;let z41:kJ:=z40.2;let z42:rM:=bif n then z41.b else Q.b;let z43:Int:=bif n then z41.i else Q.i;let z44:Int:=bif n then z41.h else Q.h;let H:Y:=z38.1;let R:Int:=z36.1;let z47:Bool×kJ:=qQ z3 8;let z48:kJ:=z47.2;let z49:rM:=bif n then z48.b else z3.b;let z50:Int:=bif n then z48.i else z3.i;let z51:Int:=bif n then z48.h else z3.h;let o:Bool×kJ:=qQ z0.2 6;let z53:Int×kJ:=Ra o.2 40;let F:kJ:=z53.2;let z55:Int×kJ:=kM F z8;let z56:kJ:=z55.2;let I:Int:=ZK (1+z53.1);let z58:Y×kJ:=zg z56 I;let S:kJ:=z58.2;let z60:Bool×kJ:=qQ S 8;let z61:kJ:=z60.2;let z62:rM:=bif d==6 then z61.b else S.b;let z63:Int:=bif d==6 then z61.i else S.i;let z64:Int:=bif d==6 then z61.h else S.h;let C:Int:=vu (ZK (M+1)) 65536;let K:Y:=z58.1;let T:Int:=z55.1;let z68:Bool:=Bk true (Pf 136 m ([[.int p,.int q,.int r,.int s,.int M,.int t,.int u,.int v,.int d,.int w,.int x,.int A,.int y,.int Z,.int z,.str X]]));let z69:Bool×kJ:=qQ F 8;let z70:kJ:=z69.2;let z71:rM:=bif d==6 then z70.b else F.b;let z72:Int:=bif d==6 then z70.i else F.i;let z73:Int:=bif d==6 then z70.h else F.h;let z74:Int:=vu (ZK (A+(len X))) 4294967296;let z75:Int×kJ:=kM o.2 z8;let z76:kJ:=z75.2;let z77:Y×kJ:=zg z76 size;let U:kJ:=z77.2;let z79:Bool×kJ:=qQ U 8;let z80:kJ:=z79.2;let z81:rM:=bif d==6 then z80.b else U.b;let z82:Int:=bif d==6 then z80.i else U.i;let z83:Int:=bif d==6 then z80.h else U.h;let L:Y:=z77.1;let W:Int:=z75.1;let z86:Bool×kJ:=qQ o.2 8;let z87:kJ:=z86.2;let z88:rM:=bif d==6 then z87.b else o.2.b;let z89:Int:=bif d==6 then z87.i else o.2.i;let z90:Int:=bif d==6 then z87.h else o.2.h;bif decide (0<k) then bif Bk true (qK (⟨nR,nB,nC⟩:kJ) 5) then bif z0.1 then bif Bk true (E7 z0.2 40) then bif Bk true (qK c.2 6) then bif z2.1 then bif Bk true (qK z3 40) then bif n then bif Bk true (DI z7 z8) then bif Bk true (qK UE Uq) then bif Bk true (Pf 136 m ([[.int c.1.rA,.int c.1.rN,.int c.1.rX,.int c.1.S9,.int c.1.Id,.int c.1.Ta,.int c.1.py,.int c.1.pN,.int E,.int e,.int f,.int l,.int g,.int O,.int j,.str G]])) then bif lV n (Bk true (qK N 8)) true then bif bif n then !z14.1 else false then D Uq (ZK (k - 1)) Nd z17 z18 c.1.rA c.1.rN c.1.rX c.1.S9 B c.1.Ta c.1.py c.1.pN E e f (vu (ZK (l+(len G))) 4294967296) g O j G (m++([[.int c.1.rA,.int c.1.rN,.int c.1.rX,.int c.1.S9,.int c.1.Id,.int c.1.Ta,.int c.1.py,.int c.1.pN,.int E,.int e,.int f,.int l,.int g,.int O,.int j,.str G]])) else D Uq (ZK (k - 1)) Nd z17 z18 c.1.rA c.1.rN c.1.rX c.1.S9 B c.1.Ta c.1.py c.1.pN E e f l g O j G (m++([[.int c.1.rA,.int c.1.rN,.int c.1.rX,.int c.1.S9,.int c.1.Id,.int c.1.Ta,.int c.1.py,.int c.1.pN,.int E,.int e,.int f,.int l,.int g,.int O,.int j,.str G]])) else kW else kW else kW else kW else bif z27 then bif lV n (Bk true (qK z7 8)) true then bif bif n then !z28.1 else false then D Uq (ZK (k - 1)) z30 z31 z32 c.1.rA c.1.rN c.1.rX c.1.S9 B c.1.Ta c.1.py c.1.pN E e f z34 g z35 j P (m++[oY.enc c.1]) else D Uq (ZK (k - 1)) z30 z31 z32 c.1.rA c.1.rN c.1.rX c.1.S9 B c.1.Ta c.1.py c.1.pN E e f l g z35 j P (m++[oY.enc c.1]) else kW else kW else kW else bif n then bif Bk true (DI z3 z8) then bif Bk true (qK z37 size) then bif Bk true (Pf 136 m ([[.int c.1.rA,.int c.1.rN,.int c.1.rX,.int c.1.S9,.int c.1.Id,.int c.1.Ta,.int c.1.py,.int c.1.pN,.int E,.int e,.int f,.int l,.int g,.int R,.int j,.str H]])) then bif lV n (Bk true (qK Q 8)) true then bif bif n then !z40.1 else false then D size (ZK (k - 1)) z42 z43 z44 c.1.rA c.1.rN c.1.rX c.1.S9 B c.1.Ta c.1.py c.1.pN E e f (vu (ZK (l+(len H))) 4294967296) g R j H (m++([[.int c.1.rA,.int c.1.rN,.int c.1.rX,.int c.1.S9,.int c.1.Id,.int c.1.Ta,.int c.1.py,.int c.1.pN,.int E,.int e,.int f,.int l,.int g,.int R,.int j,.str H]])) else D size (ZK (k - 1)) z42 z43 z44 c.1.rA c.1.rN c.1.rX c.1.S9 B c.1.Ta c.1.py c.1.pN E e f l g R j H (m++([[.int c.1.rA,.int c.1.rN,.int c.1.rX,.int c.1.S9,.int c.1.Id,.int c.1.Ta,.int c.1.py,.int c.1.pN,.int E,.int e,.int f,.int l,.int g,.int R,.int j,.str H]])) else kW else kW else kW else kW else bif z27 then bif lV n (Bk true (qK z3 8)) true then bif bif n then !z47.1 else false then D size (ZK (k - 1)) z49 z50 z51 c.1.rA c.1.rN c.1.rX c.1.S9 B c.1.Ta c.1.py c.1.pN E e f z34 g z35 j P (m++[oY.enc c.1]) else D size (ZK (k - 1)) z49 z50 z51 c.1.rA c.1.rN c.1.rX c.1.S9 B c.1.Ta c.1.py c.1.pN E e f l g z35 j P (m++[oY.enc c.1]) else kW else kW else kW else kW else bif Bk true (qK z0.2 6) then bif o.1 then bif Bk true (qK o.2 40) then bif d==6 then bif Bk true (DI F z8) then bif Bk true (qK z56 I) then bif Bk true (Pf 136 m ([[.int p,.int q,.int r,.int s,.int M,.int t,.int u,.int v,.int d,.int w,.int x,.int A,.int y,.int T,.int z,.str K]])) then bif lV (d==6) (Bk true (qK S 8)) true then bif bif d==6 then !z60.1 else false then D I (ZK (k - 1)) z62 z63 z64 p q r s C t u v d w x (vu (ZK (A+(len K))) 4294967296) y T z K (m++([[.int p,.int q,.int r,.int s,.int M,.int t,.int u,.int v,.int d,.int w,.int x,.int A,.int y,.int T,.int z,.str K]])) else D I (ZK (k - 1)) z62 z63 z64 p q r s C t u v d w x A y T z K (m++([[.int p,.int q,.int r,.int s,.int M,.int t,.int u,.int v,.int d,.int w,.int x,.int A,.int y,.int T,.int z,.str K]])) else kW else kW else kW else kW else bif z68 then bif lV (d==6) (Bk true (qK F 8)) true then bif bif d==6 then !z69.1 else false then D I (ZK (k - 1)) z71 z72 z73 p q r s C t u v d w x z74 y Z z X (m++([[.int p,.int q,.int r,.int s,.int M,.int t,.int u,.int v,.int d,.int w,.int x,.int A,.int y,.int Z,.int z,.str X]])) else D I (ZK (k - 1)) z71 z72 z73 p q r s C t u v d w x A y Z z X (m++([[.int p,.int q,.int r,.int s,.int M,.int t,.int u,.int v,.int d,.int w,.int x,.int A,.int y,.int Z,.int z,.str X]])) else kW else kW else kW else bif d==6 then bif Bk true (DI o.2 z8) then bif Bk true (qK z76 size) then bif Bk true (Pf 136 m ([[.int p,.int q,.int r,.int s,.int M,.int t,.int u,.int v,.int d,.int w,.int x,.int A,.int y,.int W,.int z,.str L]])) then bif lV (d==6) (Bk true (qK U 8)) true then bif bif d==6 then !z79.1 else false then D size (ZK (k - 1)) z81 z82 z83 p q r s C t u v d w x (vu (ZK (A+(len L))) 4294967296) y W z L (m++([[.int p,.int q,.int r,.int s,.int M,.int t,.int u,.int v,.int d,.int w,.int x,.int A,.int y,.int W,.int z,.str L]])) else D size (ZK (k - 1)) z81 z82 z83 p q r s C t u v d w x A y W z L (m++([[.int p,.int q,.int r,.int s,.int M,.int t,.int u,.int v,.int d,.int w,.int x,.int A,.int y,.int W,.int z,.str L]])) else kW else kW else kW else kW else bif z68 then bif lV (d==6) (Bk true (qK o.2 8)) true then bif bif d==6 then !z86.1 else false then D size (ZK (k - 1)) z88 z89 z90 p q r s C t u v d w x z74 y Z z X (m++([[.int p,.int q,.int r,.int s,.int M,.int t,.int u,.int v,.int d,.int w,.int x,.int A,.int y,.int Z,.int z,.str X]])) else D size (ZK (k - 1)) z88 z89 z90 p q r s C t u v d w x A y Z z X (m++([[.int p,.int q,.int r,.int s,.int M,.int t,.int u,.int v,.int d,.int w,.int x,.int A,.int y,.int Z,.int z,.str X]])) else kW else kW else kW else kW else a m (⟨nR,nB,nC⟩:kJ)
def UW(a:rM→kJ→α)(N b:Nat):Int→Int→rM→Int→Int→Int→Int→Int→Int→Int→Int→Int→Int→Int→Int→Int→Int→Int→Int→Int→Y→rM→α:=WS (λ_ _ _ _ _ _ _ _ _ _ _ _ _ _ _ _ _ _ _ _ _ _=>kW) (g_ kW a) b
def nwF(a:rM→kJ→α)(g:Int→Int→rM→Int→Int→Int→Int→Int→Int→Int→Int→Int→Int→Int→Int→Int→Int→Int→Int→Int→Y→rM→α)(c:kJ)(d:Int):α:=let f:Int×kJ:=Ra ((Q4 c 40).2) 3;let e:Int×kJ:=Ra f.2 d;bif Bk true (E7 c 40) then bif Bk true (qK ((Q4 c 40).2) 3) then bif Bk true (qK f.2 d) then g (ZK (8+(ZK (f.1*8)))) (ZK (1+e.1)) e.2.b e.2.i e.2.h (((Q4 c 40).1).rA) (((Q4 c 40).1).rN) (((Q4 c 40).1).rX) (((Q4 c 40).1).S9) (((Q4 c 40).1).Id) (((Q4 c 40).1).Ta) (((Q4 c 40).1).py) (((Q4 c 40).1).pN) ((((Q4 c 40).1).pk).eh) ((((Q4 c 40).1).pk).oC) ((((Q4 c 40).1).pk).oz) ((((Q4 c 40).1).pk).e4) ((((Q4 c 40).1).pk).XY) ((((Q4 c 40).1).pk).ez) ((((Q4 c 40).1).pk).su) ((((Q4 c 40).1).pk).ed) [] else kW else kW else kW
def F6(a:rM→kJ→α)(N:Nat)(c:kJ)(b:Int):α:=nwF kW a (UW kW a N N) c b
def gE(c:kJ)(a:Int):Bool:=DX c && (decide (1≤a) && decide (a≤10))
theorem nnL{c:kJ}(h:DX c=true)(a:Int):E7 c a=true:=(Rq h a).1
theorem neB{c:kJ}(h:DX c=true)(a:Int):DX (Q4 c a).2=true:=(Rq h a).2
def P3(c:kJ)(a:Int):(α:Type)→α→((rM×kJ)→α)→α:=λα kW k=>F6 kW (λb d=>k (b,d)) 12 c a
def aP(c:kJ)(a:Int)(r:(rM×kJ)):Prop:=DX r.2=true∧1≤r.1.length∧r.1.length≤10
def VY(c:kJ)(a:Int):(rM×kJ):=drawn ([],c) (P3 c a) (aP c a)
theorem nlu{c:kJ}{a:Int}(P:gE c a=true):Good (P3 c a) (aP c a):=by
 simp only[gE,gF,kQ] at P;obtain⟨R,GN,D4⟩:=P;have H:=Rq R 40;have Q:=bA H.2 3;have S:=bA Q a;have T:=sa (Ra (Q4 c 40).2 3).2 a;have U:=T.2 (by omega);unfold P3 aP F6 nwF;dsimp only;have key:∀(m q:Nat) (size:Int) (b:rM) (f g:Int) (p j l s t u v w y z A B C D E:Int) (F:Y) (o:rM),m<q→o.length+m≤100→DX ⟨b,f,g⟩=true→Good (λα kW k=>UW kW (λd e=>k (d,e)) 12 q size (m:Int) b f g p j l s t u v w y z A B C D E F o) (λr=>DX r.2=true∧r.1.length=o.length+m):=by
  intro m
  induction m with
  | zero=>
   intro q size b f g p j l s t u v w y z A B C D E F o W X G;obtain⟨q,rfl⟩:=O4 q;show Good (λα kW k=>g_ kW (λd e=>k (d,e)) (UW kW (λd e=>k (d,e)) 12 q) size ((0:Nat):Int) b f g p j l s t u v w y z A B C D E F o) _;unfold g_;dsimp only;exact Wa (λh=>absurd (of_decide_eq_true h) (by omega)) (λ_=>x7 ⟨G,rfl⟩)
  | succ m Z=>
   intro q size b f g p j l s t u v w y z A B C D E F o W X G;obtain⟨q,rfl⟩:=O4 q;show Good (λα kW k=>g_ kW (λd e=>k (d,e)) (UW kW (λd e=>k (d,e)) 12 q) size ((m+1:Nat):Int) b f g p j l s t u v w y z A B C D E F o) _;unfold g_;dsimp only;have hr:∀(x:List DC),Pf 136 o [x]=true:=λx=>Q0 (by simp only[di,vx];omega) (by omega);have ew:ZK (((m+1:Nat):Int) - 1)=(m:Int):=by rw[Ou];omega
   refine Wa (λ_=>?_) (λh=>absurd (of_decide_eq_false h) (by omega));rw[ew]
   repeat' (first
    | refine N0 (by simp (config:= {maxDischargeDepth:=60}) only[cd,TK,CC,HI,qK,eC,uP,bA,fH,Xx,nx9,mQ,nnL,neB,hr,G]) ?_
    | refine Wa (λ_=>?_) (λ_=>?_))
   all_goals
    refine L0 (Z q _ _ _ _ _ _ _ _ _ _ _ _ _ _ _ _ _ _ _ _ _ (by omega) ?_ ?_) ?_
    ·rw[Qe];simp only[di,vx];omega
    ·simp (config:= {maxDischargeDepth:=60}) only[cd,TK,CC,HI,qK,eC,uP,bA,fH,Xx,nx9,neB,G]
    ·intro r h;refine⟨h.1, ?_⟩;rw[h.2,Qe];simp only[di,vx];omega
 refine N0 (zL H.1) (N0 (zL (UP _ H.2)) (N0 (zL (UP _ Q)) ?_));rw[Ou (n:=1+(Ra (Ra (Q4 c 40).2 3).2 a).1)];have:=λsize a0 a1 a2 a3 a4 a5 a6 a7 a8 a9 I K L M N O=>key (1+(Ra (Ra (Q4 c 40).2 3).2 a).1).toNat 12 size (Ra (Ra (Q4 c 40).2 3).2 a).2.b (Ra (Ra (Q4 c 40).2 3).2 a).2.i (Ra (Ra (Q4 c 40).2 3).2 a).2.h a0 a1 a2 a3 a4 a5 a6 a7 a8 a9 I K L M N O [] (by omega) (by simp only[vx];omega) S;rw[y1 (show 0≤1+(Ra (Ra (Q4 c 40).2 3).2 a).1 by omega)] at this;exact L0 (this _ _ _ _ _ _ _ _ _ _ _ _ _ _ _ _ _) (λr h=>⟨h.1,by rw[h.2];simp only[vx];omega,by rw[h.2];simp only[vx];omega⟩)
theorem nz1{c:kJ}{a:Int}(b:gE c a=true):aP c a (VY c a):=(Wu (nlu b)).1
theorem nsF(a:rM→kJ→α)(c:kJ)(b:Int)(d:gE c b=true):∃N,F6 kW a N c b=a (VY c b).1 (VY c b).2:=by exact⟨12,(Wu (nlu d)).2 α kW (λr=>a r.1 r.2)⟩
def aD(a:nJ→Int→kJ→α)(l:rM→Int→rM→Int→Int→rM→α)(e:Int)(f:rM)(g j:Int)(s:Y)(m o:rM)(n:Int→rM→α)(k:Int)(c:rM):α:=let d:Int×kJ:=Ra (⟨f,g,j⟩:kJ) 4;bif decide (k<len c) then bif Bk (Bk (Bk (Bk (Bk true (idx k c)) (inl (vt k) c)) (!(e==0))) (idx k c)) (inl (vt k) c) then n (ZK (k+1)) (vv c (vt k) (CI (V c (vt k)) 8 [.int (vu (J (V c (vt k)) 8) e)])) else kW else bif Bk true (qK (⟨f,g,j⟩:kJ) 4) then l c d.1 d.2.b d.2.i d.2.h m else kW
def qt(a:nJ→Int→kJ→α)(j:Int)(s:Y)(l m:rM)(n:oM α)(f:Int)(c:rM)(d e:Int)(k:rM):α:=let g:Int×kJ:=Ra ((zy (⟨c,d,e⟩:kJ)).2) j;bif decide (0<f) then bif Bk (Bk (Bk true (DX (⟨c,d,e⟩:kJ))) (qK ((zy (⟨c,d,e⟩:kJ)).2) j)) (ya (⟨k⟩:W4) ((zy (⟨c,d,e⟩:kJ)).1) g.1) then n (ZK (f - 1)) g.2.b g.2.i g.2.h (((SR (⟨k⟩:W4) ((zy (⟨c,d,e⟩:kJ)).1) g.1).1).nO) else kW else a (⟨l,(⟨k⟩:W4),(⟨s,m⟩:aV)⟩:nJ) j (⟨c,d,e⟩:kJ)
def iY(a:nJ→Int→kJ→α)(N:Nat)(b:Int)(s:Y)(c d:rM)(e:Nat):oM α:=WS (λ_ _ _ _ _=>kW) (qt kW a b s c d) e
def da(a:nJ→Int→kJ→α)(N:Nat)(b:Int)(d:rM)(e f:Int)(s:Y)(g c:rM)(h:Nat):Int→rM→α:=WS (λ_ _=>kW) (aD kW a (λj=>iY kW a N b s j c N) b d e f s g c) h
def CF(a:nJ→Int→kJ→α)(e:Int→rM→Int→Int→Y→rM→rM→Int→rM→α)(c:kJ):α:=let d:rM×kJ:=Vy ((qQ ((bl c).2.2) 2).2);bif Bk true (DX c) then bif Bk true (qK ((bl c).2.2) 2) then bif (qQ ((bl c).2.2) 2).1 then bif Bk true (DX ((qQ ((bl c).2.2) 2).2)) then e ((bl c).2.1) d.2.b d.2.i d.2.h (((bl c).1).eJ) SY.nO (((bl c).1).eb) 0 d.1 else kW else e ((bl c).2.1) (((qQ ((bl c).2.2) 2).2).b) (((qQ ((bl c).2.2) 2).2).i) (((qQ ((bl c).2.2) 2).2).h) (((bl c).1).eJ) SY.nO (((bl c).1).eb) 0 [] else kW else kW
def dW(a:nJ→Int→kJ→α)(N:Nat)(c:kJ):α:=CF kW a (λb d e f s g h=>da kW a N b d e f s g h N) c
def Vz(c:kJ):(α:Type)→α→((nJ×Int×kJ)→α)→α:=λα kW k=>dW kW (λa b d=>k (a,b,d)) 6 c
def Bi(c:kJ)(r:(nJ×Int×kJ)):Prop:=DX r.2.2=true∧r.1.oQ.length≤4∧r.1.eb.nO.length=8∧r.1.nV.eb.length≤8
def yW(c:kJ):(nJ×Int×kJ):=drawn (⟨[],⟨[]⟩,⟨[],[]⟩⟩,0,c) (Vz c) (Bi c)
theorem nhF{c:kJ}(L:DX c=true):Good (Vz c) (Bi c):=by
 have C:DX c=true:=L;obtain⟨D,E,M,N⟩:=nnE C;have v:=uP D 2;have w:=nxc v;unfold Vz Bi dW CF;dsimp only;have o:SY.nO.length=8:=rfl;generalize SY.nO=NT at o;generalize (bl c).1.eJ=s;generalize (bl c).1.eb=s3 at E;generalize (bl c).2.1=nj at M N;have x:∀(R:rM) (m q:Nat) (d:kJ) (T:rM),m<q→m≤3→T.length=8→DX d=true→Good (λα kW k=>iY kW (λa g j=>k (a,g,j)) 6 nj s R s3 q (m:Int) d.b d.i d.h T) (λr=>DX r.2.2=true∧r.1.oQ=R∧r.1.eb.nO.length=8∧r.1.nV.eb=s3):=by
  intro R m
  induction m with
  | zero=>
   intro q d T y O t l;obtain⟨q,rfl⟩:=O4 q;show Good (λα kW k=>qt kW (λa g j=>k (a,g,j)) nj s R s3 (iY kW (λa g j=>k (a,g,j)) 6 nj s R s3 q) ((0:Nat):Int) d.b d.i d.h T) _;unfold qt;dsimp only;exact Wa (λh=>absurd (of_decide_eq_true h) (by omega)) (λ_=>x7 ⟨l,rfl,t,rfl⟩)
  | succ m z=>
   intro q d T y O t l;obtain⟨q,rfl⟩:=O4 q;show Good (λα kW k=>qt kW (λa g j=>k (a,g,j)) nj s R s3 (iY kW (λa g j=>k (a,g,j)) 6 nj s R s3 q) ((m+1:Nat):Int) d.b d.i d.h T) _;unfold qt;dsimp only;have A:ZK (((m+1:Nat):Int) - 1)=(m:Int):=by rw[Ou];omega
   have F:DX (zy d).2=true:=nC_ l;have G:∀(f:SA) (n:Int),ya (⟨T⟩:W4) f n=true:=λf n=>Tl (show T.length≤16777216 by omega);refine Wa (λ_=>?_) (λh=>absurd (of_decide_eq_false h) (by omega));refine N0 (by rw[G,show DX (⟨d.b,d.i,d.h⟩:kJ)=true from l,show qK (zy (⟨d.b,d.i,d.h⟩:kJ)).2 nj=true from F];rfl) ?_;rw[A];exact z q (Ra (zy d).2 nj).2 _ (by omega) (by omega) ((nsm (G _ _)).trans t) (bA F _)
 have u:∀(e:kJ),DX e=true→∀(m q i:Nat) (R:rM),m<q→i+m=R.length→R.length≤4→Good (λα kW k=>da kW (λa g j=>k (a,g,j)) 6 nj e.b e.i e.h s NT s3 q (i:Int) R) (λr=>DX r.2.2=true∧r.1.oQ.length≤4∧r.1.eb.nO.length=8∧r.1.nV.eb.length≤8):=by
  intro e H m;have I:=sa e 4;have P:=I.2 (by omega)
  induction m with
  | zero=>
   intro q i R y t l;obtain⟨q,rfl⟩:=O4 q;show Good (λα kW k=>aD kW (λa g j=>k (a,g,j)) (λB=>iY kW (λa g j=>k (a,g,j)) 6 nj s B s3 6) nj e.b e.i e.h s NT s3 (da kW (λa g j=>k (a,g,j)) 6 nj e.b e.i e.h s NT s3 q) (i:Int) R) _;unfold aD;dsimp only;refine Wa (λh=>absurd (of_decide_eq_true h) (by simp only[len];omega)) (λ_=>?_);refine N0 (zL (UP _ H)) ?_;have:=x R (Ra e 4).1.toNat 6 (Ra e 4).2 NT (by omega) (by omega) o (bA H 4);rw[y1 I.1] at this;exact L0 this (λr h=>⟨h.1,by rw[h.2.1];exact l,h.2.2.1,by rw[h.2.2.2];exact E⟩)
  | succ m z=>
   intro q i R y t l;obtain⟨q,rfl⟩:=O4 q;show Good (λα kW k=>aD kW (λa g j=>k (a,g,j)) (λB=>iY kW (λa g j=>k (a,g,j)) 6 nj s B s3 6) nj e.b e.i e.h s NT s3 (da kW (λa g j=>k (a,g,j)) 6 nj e.b e.i e.h s NT s3 q) (i:Int) R) _;unfold aD;dsimp only;have K:i<R.length:=by omega
   have A:ZK ((i:Int)+1)=((i+1:Nat):Int):=by rw[Ou];omega
   have Q:(!(nj==0))=true:=by simp;omega
   refine Wa (λ_=>?_) (λh=>absurd (of_decide_eq_false h) (by simp only[len];omega));refine N0 (by rw[lN,uH K,SG K,Q];rfl) ?_;rw[A];exact z q (i+1) _ (by omega) (by rw[vw];omega) (by rw[vw];omega)
 refine N0 (zL C) (N0 (zL (UP _ D)) (Wa (λ_=>N0 (zL v) ?_) (λ_=>?_)))
 ·exact u _ w.1 _ 6 0 _ (by have:=w.2;omega) (vJ _) w.2
 ·exact u _ v 0 6 0 [] (by omega) rfl (vA _)
theorem nuY{c:kJ}(a:DX c=true):Bi c (yW c):=(Wu (nhF a)).1
theorem nit(a:nJ→Int→kJ→α)(c:kJ)(b:DX c=true):∃N,dW kW a N c=a (yW c).1 (yW c).2.1 (yW c).2.2:=by exact⟨6,(Wu (nhF b)).2 α kW (λr=>a r.1 r.2.1 r.2.2)⟩
def yb(k:Int)(f:Y)(b:Int):List DC:=[DC.int k,DC.int 0,DC.int 0,DC.int 0,DC.int 0,DC.int 0,DC.int 0,DC.int 0,DC.int 0,DC.int 0,DC.int 0,DC.int 0,DC.int 0,DC.int 0,DC.int 0,DC.int 0,DC.str [],DC.int 0,DC.int 0,DC.str f,DC.int b]
def LR(a:QP→kJ→α)(g:Int→Int→rM→Int→Int→Y→rM→rM→Int→rM→α)(j:Int→rM→Int→Int→α)(k:Int)(c:rM)(d e:Int):α:=let f:nJ:=(⟨[],SY,(⟨Vu 16 5,[[DC.int 0]]⟩:aV)⟩:nJ);bif decide (k<4) then bif Bk true (DX (⟨c,d,e⟩:kJ)) then g k ((yW (⟨c,d,e⟩:kJ)).2.1) (((yW (⟨c,d,e⟩:kJ)).2.2).b) (((yW (⟨c,d,e⟩:kJ)).2.2).i) (((yW (⟨c,d,e⟩:kJ)).2.2).h) ((((yW (⟨c,d,e⟩:kJ)).1).nV).eJ) ((((yW (⟨c,d,e⟩:kJ)).1).eb).nO) ((((yW (⟨c,d,e⟩:kJ)).1).nV).eb) 0 (((yW (⟨c,d,e⟩:kJ)).1).oQ) else kW else bif Bk (Bk true (ie 16 5)) (ib 1 (⟨2,false,[]⟩:AP) f true 1 0) then a ((mJ 1 (⟨2,false,[]⟩:AP) f true 1 0).1) (⟨c,d,e⟩:kJ) else kW
def QZ(a:QP→kJ→α)(v:Int→rM→Int→Int→α)(k l:Int)(d:rM)(e f:Int)(s:Y)(w x:rM)(y:Int→rM→α)(i:Int)(c:rM):α:=let j:Int×kJ:=Ra ((NP (⟨d,e,f⟩:kJ)).2) 3;let m:Int×kJ:=Ra j.2 3;let n:kJ:=m.2;let o:nJ:=(⟨c,(⟨w⟩:W4),(⟨s,x⟩:aV)⟩:nJ);let p:Bool:=decide (0<j.1);let q:Int:=ZK (1+m.1);let r:Int×kJ:=Ra n 4;let t:Int:=r.1;let u:QP×Bool:=mJ l ((NP (⟨d,e,f⟩:kJ)).1) o p q t;let g:kJ:=r.2;bif decide (i<len c) then bif Bk (Bk true (idx i c)) (inl (vt i) c) then y (ZK (i+1)) (vv c (vt i) (CI (V c (vt i)) 6 [DC.int (-2)])) else kW else bif Bk (Bk (Bk (Bk (Bk true (DX (⟨d,e,f⟩:kJ))) (qK ((NP (⟨d,e,f⟩:kJ)).2) 3)) (qK j.2 3)) (qK n 4)) (ib l ((NP (⟨d,e,f⟩:kJ)).1) o p q t) then bif u.2 then a u.1 g else v (ZK (k+1)) g.b g.i g.h else kW
def Z3(a:QP→kJ→α)(N:Nat)(b:Int→rM→Int→Int→α)(k c:Int)(d:rM)(e f:Int)(s:Y)(g h:rM)(i:Nat):Int→rM→α:=WS (λ_ _=>kW) (QZ kW a b k c d e f s g h) i
def df(a:QP→kJ→α)(N c:Nat):Int→rM→Int→Int→α:=WS (λ_ _ _ _=>kW) (λb=>LR kW a (λk d e f g s h i=>Z3 kW a N b k d e f g s h i N) b) c
def ncG(kW:α)(a:QP→kJ→α)(d:Int→rM→Int→Int→α)(c:kJ):α:=d 0 c.b c.i c.h
def dY(a:QP→kJ→α)(N:Nat)(c:kJ):α:=ncG kW a (df kW a N N) c
def ry(h:QP):Prop:=∃(q:Int) (f:AP) (s:nJ) (co:Bool) (n t:Int),C5 f=true∧ai s=true∧(mJ q f s co n t).2=true∧h=(mJ q f s co n t).1
theorem nmr:(mJ 1 (⟨2,false,[]⟩:AP) (⟨[],SY,(⟨Vu 16 5,[[DC.int 0]]⟩:aV)⟩:nJ) true 1 0).2=true:=by kernel_rfl
def Yt(c:kJ):(α:Type)→α→((QP×kJ)→α)→α:=λα kW k=>dY kW (λa b=>k (a,b)) 6 c
def vX(c:kJ)(r:(QP×kJ)):Prop:=DX r.2=true∧ry r.1
def fB(c:kJ):(QP×kJ):=drawn (R0,c) (Yt c) (vX c)
theorem nDS{c:kJ}(S:DX c=true):Good (Yt c) (vX c):=by
 have W:DX c=true:=S;unfold Yt vX dY ncG;have y:∀(U:(α:Type)→α→(QP×kJ→α)→Int→rM→Int→Int→α) (l n:Int) (d:kJ) (s:Y) (T g:rM),DX d=true→T.length=8→g.length≤8→(∀o:kJ,DX o=true→Good (λα kW k=>U α kW k (ZK (l+1)) o.b o.i o.h) (λr=>DX r.2=true∧ry r.1))→
   ∀(m q i:Nat) (R:rM),m<q→i+m=R.length→R.length≤4→Good (λα kW k=>Z3 kW (λe f=>k (e,f)) 6 (U α kW k) l n d.b d.i d.h s T g q (i:Int) R) (λr=>DX r.2=true∧ry r.1):=by
  intro U l n d s T g I hT X Z m;obtain⟨K,f2⟩:=nxy I;have L:=bA K 3;have M:=bA L 3;have N:=bA M 4
  induction m with
  | zero=>
   intro q i R z A t;obtain⟨q,rfl⟩:=O4 q;show Good (λα kW k=>QZ kW (λe f=>k (e,f)) (U α kW k) l n d.b d.i d.h s T g (Z3 kW (λe f=>k (e,f)) 6 (U α kW k) l n d.b d.i d.h s T g q) (i:Int) R) _;unfold QZ;dsimp only;refine Wa (λh=>absurd (of_decide_eq_true h) (by simp only[len];omega)) (λ_=>?_);have O:C5 (NP d).1=true:=Tl (by omega);have P:ai (⟨R,⟨T⟩,⟨s,g⟩⟩:nJ)=true:=by simp only[ai,gF];exact⟨Tl (show R.length≤16777216 by omega),Tl (show T.length≤16777216 by omega),Tl (show g.length≤16777216 by omega)⟩
   have hn:∀(co:Bool) (a b:Int),ib n (NP d).1 (⟨R,⟨T⟩,⟨s,g⟩⟩:nJ) co a b=true:=λco a b=>by simp only[ib,O,P,wa]
   refine N0 ?_ (Wa (λh=>x7 ⟨N,_,_,_,_,_,_,O,P,h,rfl⟩) (λ_=>Z _ N));rw[show (⟨d.b,d.i,d.h⟩:kJ)=d from rfl,hn,I,show qK (NP d).2 3=true from K,show qK (Ra (NP d).2 3).2 3=true from L,show qK (Ra (Ra (NP d).2 3).2 3).2 4=true from M];rfl
  | succ m B=>
   intro q i R z A t;obtain⟨q,rfl⟩:=O4 q;show Good (λα kW k=>QZ kW (λe f=>k (e,f)) (U α kW k) l n d.b d.i d.h s T g (Z3 kW (λe f=>k (e,f)) 6 (U α kW k) l n d.b d.i d.h s T g q) (i:Int) R) _;unfold QZ;dsimp only;have Q:i<R.length:=by omega
   have C:ZK ((i:Int)+1)=((i+1:Nat):Int):=by rw[Ou];omega
   refine Wa (λ_=>?_) (λh=>absurd (of_decide_eq_false h) (by simp only[len];omega));refine N0 (by rw[lN,uH Q,SG Q];rfl) ?_;rw[C];exact B q (i+1) _ (by omega) (by rw[vw];omega) (by rw[vw];omega)
 have D:∀(m q j:Nat) (d:kJ),m<q→j+m=4→DX d=true→Good (λα kW k=>df kW (λe f=>k (e,f)) 6 q (j:Int) d.b d.i d.h) (λr=>DX r.2=true∧ry r.1):=by
  intro m
  induction m with
  | zero=>
   intro q j d z A t;obtain⟨q,rfl⟩:=O4 q;show Good (λα kW k=>LR kW (λe f=>k (e,f)) (λE u v w x F G H=>Z3 kW (λe f=>k (e,f)) 6 (df kW (λe f=>k (e,f)) 6 q) E u v w x F G H 6) (df kW (λe f=>k (e,f)) 6 q) (j:Int) d.b d.i d.h) _;unfold LR;dsimp only;refine Wa (λh=>absurd (of_decide_eq_true h) (by omega)) (λ_=>?_);refine N0 (by rfl) (x7 ⟨t,_,_,_,_,_,_, ?_, ?_,nmr,rfl⟩)
   ·rfl
   ·rfl
  | succ m B=>
   intro q j d z A t;obtain⟨q,rfl⟩:=O4 q;show Good (λα kW k=>LR kW (λe f=>k (e,f)) (λE u v w x F G H=>Z3 kW (λe f=>k (e,f)) 6 (df kW (λe f=>k (e,f)) 6 q) E u v w x F G H 6) (df kW (λe f=>k (e,f)) 6 q) (j:Int) d.b d.i d.h) _;unfold LR;dsimp only;have C:ZK ((j:Int)+1)=((j+1:Nat):Int):=by rw[Ou];omega
   refine Wa (λ_=>?_) (λh=>absurd (of_decide_eq_false h) (by omega));obtain⟨u,v,w,x⟩:=nuY t;refine N0 (zL t) ?_;exact y (λα kW k=>df kW (λe f=>k (e,f)) 6 q) (j:Int) _ (yW d).2.2 _ _ _ u w x (λo Jg=>by rw[C];exact B q (j+1) o (by omega) (by omega) Jg) (yW d).1.oQ.length 6 0 _ (by omega) (vJ _) v
 exact D 4 6 0 c (by omega) (by omega) W
theorem nf1{c:kJ}(a:DX c=true):vX c (fB c):=(Wu (nDS a)).1
theorem nry(a:QP→kJ→α)(c:kJ)(b:DX c=true):∃N,dY kW a N c=a (fB c).1 (fB c).2:=by exact⟨6,(Wu (nDS b)).2 α kW (λr=>a r.1 r.2)⟩
def va(a:rM→kJ→α)(B:Bool)(Z:rM)(j:oM α)(k:Int)(y:rM)(z A:Int)(e:rM):α:=let x:Bool×kJ:=qQ (⟨y,z,A⟩:kJ) 12;let C:Int:=len ((qL (oY.nd (V Z (vt k)) 0)).1);let f:Int×kJ:=Ra x.2 C;let D:kJ:=f.2;let g:Y×kJ:=zg D 1;let E:kJ:=g.2;let F:Int×kJ:=Ra E 10;let l:Int:=F.1;let d:kJ:=F.2;let u:rM:=d.b;let v:Int:=d.i;let w:Int:=d.h;let q:kJ:=(Ra d 3).2;let m:kJ:=(Q4 d 320).2;let n:kJ:=(Ra m 128).2;let r:kJ:=(kM n ([[DC.int 60],[DC.int 100],[DC.int 128]])).2;let c:Int×kJ:=Ra x.2 10;let s:kJ:=(Ra c.2 3).2;let o:kJ:=(Q4 c.2 320).2;let p:kJ:=(Ra o 128).2;let t:kJ:=(kM p ([[DC.int 60],[DC.int 100],[DC.int 128]])).2;bif decide (k<len Z) then bif Bk (Bk true (idx k Z)) (inl (vt k) Z) then bif Bk true (qK (⟨y,z,A⟩:kJ) 12) then bif x.1 then bif Bk (Bk (Bk true (qK x.2 C)) (qK D 1)) (Ei ((qL (oY.nd (V Z (vt k)) 0)).1) f.1 g.1) then bif Bk true (Pf 184 e ([yb 2 ((iU ((qL (oY.nd (V Z (vt k)) 0)).1) f.1 g.1)) 0])) then bif Bk true (qK E 10) then bif l==0 then bif Bk true (Pf 184 (e++([yb 2 ((iU ((qL (oY.nd (V Z (vt k)) 0)).1) f.1 g.1)) 0])) ([yb 3 [] 0])) then j (ZK (k+1)) u v w ((e++([yb 2 ((iU ((qL (oY.nd (V Z (vt k)) 0)).1) f.1 g.1)) 0]))++([yb 3 [] 0])) else kW else bif bif l==1 then true else l==2 then bif Bk true (Pf 184 (e++([yb 2 ((iU ((qL (oY.nd (V Z (vt k)) 0)).1) f.1 g.1)) 0])) ([yb 4 [] 0])) then j (ZK (k+1)) u v w ((e++([yb 2 ((iU ((qL (oY.nd (V Z (vt k)) 0)).1) f.1 g.1)) 0]))++([yb 4 [] 0])) else kW else bif bif l==3 then true else bif l==4 then true else l==5 then bif Bk (Bk true (qK d 3)) (Pf 184 (e++([yb 2 ((iU ((qL (oY.nd (V Z (vt k)) 0)).1) f.1 g.1)) 0])) ([yb 5 [] ((ZK (1+((Ra d 3).1))))])) then j (ZK (k+1)) q.b q.i q.h ((e++([yb 2 ((iU ((qL (oY.nd (V Z (vt k)) 0)).1) f.1 g.1)) 0]))++([yb 5 [] ((ZK (1+((Ra d 3).1))))])) else kW else bif l==6 then bif Bk (Bk (Bk (Bk true (E7 d 320)) (qK m 128)) (DI n ([[DC.int 60],[DC.int 100],[DC.int 128]]))) (Pf 184 (e++([yb 2 ((iU ((qL (oY.nd (V Z (vt k)) 0)).1) f.1 g.1)) 0])) ([[DC.int 0,DC.int (((Q4 d 320).1).rA),DC.int (((Q4 d 320).1).rN),DC.int (((Q4 d 320).1).rX),DC.int (((Q4 d 320).1).S9),DC.int (((Q4 d 320).1).Id),DC.int (((Q4 d 320).1).Ta),DC.int (((Q4 d 320).1).py),DC.int (((Q4 d 320).1).pN),DC.int ((((Q4 d 320).1).pk).eh),DC.int ((((Q4 d 320).1).pk).oC),DC.int ((((Q4 d 320).1).pk).oz),DC.int ((((Q4 d 320).1).pk).e4),DC.int ((((Q4 d 320).1).pk).XY),DC.int ((((Q4 d 320).1).pk).ez),DC.int ((((Q4 d 320).1).pk).su),DC.str ((((Q4 d 320).1).pk).ed),DC.int (ZK (1+((Ra m 128).1))),DC.int ((kM n ([[DC.int 60],[DC.int 100],[DC.int 128]])).1),DC.str [],DC.int 0]])) then j (ZK (k+1)) r.b r.i r.h ((e++([yb 2 ((iU ((qL (oY.nd (V Z (vt k)) 0)).1) f.1 g.1)) 0]))++([[DC.int 0,DC.int (((Q4 d 320).1).rA),DC.int (((Q4 d 320).1).rN),DC.int (((Q4 d 320).1).rX),DC.int (((Q4 d 320).1).S9),DC.int (((Q4 d 320).1).Id),DC.int (((Q4 d 320).1).Ta),DC.int (((Q4 d 320).1).py),DC.int (((Q4 d 320).1).pN),DC.int ((((Q4 d 320).1).pk).eh),DC.int ((((Q4 d 320).1).pk).oC),DC.int ((((Q4 d 320).1).pk).oz),DC.int ((((Q4 d 320).1).pk).e4),DC.int ((((Q4 d 320).1).pk).XY),DC.int ((((Q4 d 320).1).pk).ez),DC.int ((((Q4 d 320).1).pk).su),DC.str ((((Q4 d 320).1).pk).ed),DC.int (ZK (1+((Ra m 128).1))),DC.int ((kM n ([[DC.int 60],[DC.int 100],[DC.int 128]])).1),DC.str [],DC.int 0]])) else kW else bif l==7 then bif Bk true (Pf 184 (e++([yb 2 ((iU ((qL (oY.nd (V Z (vt k)) 0)).1) f.1 g.1)) 0])) ([yb 1 [] 0])) then j (ZK (k+1)) u v w ((e++([yb 2 ((iU ((qL (oY.nd (V Z (vt k)) 0)).1) f.1 g.1)) 0]))++([yb 1 [] 0])) else kW else bif l==8 then bif B then bif Bk true (Pf 184 (e++([yb 2 ((iU ((qL (oY.nd (V Z (vt k)) 0)).1) f.1 g.1)) 0])) ([yb 6 [] 0])) then j (ZK (k+1)) u v w ((e++([yb 2 ((iU ((qL (oY.nd (V Z (vt k)) 0)).1) f.1 g.1)) 0]))++([yb 6 [] 0])) else kW else j (ZK (k+1)) u v w (e++([yb 2 ((iU ((qL (oY.nd (V Z (vt k)) 0)).1) f.1 g.1)) 0])) else j (ZK (k+1)) u v w (e++([yb 2 ((iU ((qL (oY.nd (V Z (vt k)) 0)).1) f.1 g.1)) 0])) else kW else kW else kW else bif Bk true (Pf 184 e ([yb 2 (((qL (oY.nd (V Z (vt k)) 0)).1)) 0])) then bif Bk true (qK x.2 10) then bif c.1==0 then bif Bk true (Pf 184 (e++([yb 2 (((qL (oY.nd (V Z (vt k)) 0)).1)) 0])) ([yb 3 [] 0])) then j (ZK (k+1)) c.2.b c.2.i c.2.h ((e++([yb 2 (((qL (oY.nd (V Z (vt k)) 0)).1)) 0]))++([yb 3 [] 0])) else kW else bif bif c.1==1 then true else c.1==2 then bif Bk true (Pf 184 (e++([yb 2 (((qL (oY.nd (V Z (vt k)) 0)).1)) 0])) ([yb 4 [] 0])) then j (ZK (k+1)) c.2.b c.2.i c.2.h ((e++([yb 2 (((qL (oY.nd (V Z (vt k)) 0)).1)) 0]))++([yb 4 [] 0])) else kW else bif bif c.1==3 then true else bif c.1==4 then true else c.1==5 then bif Bk (Bk true (qK c.2 3)) (Pf 184 (e++([yb 2 (((qL (oY.nd (V Z (vt k)) 0)).1)) 0])) ([yb 5 [] ((ZK (1+((Ra c.2 3).1))))])) then j (ZK (k+1)) s.b s.i s.h ((e++([yb 2 (((qL (oY.nd (V Z (vt k)) 0)).1)) 0]))++([yb 5 [] ((ZK (1+((Ra c.2 3).1))))])) else kW else bif c.1==6 then bif Bk (Bk (Bk (Bk true (E7 c.2 320)) (qK o 128)) (DI p ([[DC.int 60],[DC.int 100],[DC.int 128]]))) (Pf 184 (e++([yb 2 (((qL (oY.nd (V Z (vt k)) 0)).1)) 0])) ([[DC.int 0,DC.int (((Q4 c.2 320).1).rA),DC.int (((Q4 c.2 320).1).rN),DC.int (((Q4 c.2 320).1).rX),DC.int (((Q4 c.2 320).1).S9),DC.int (((Q4 c.2 320).1).Id),DC.int (((Q4 c.2 320).1).Ta),DC.int (((Q4 c.2 320).1).py),DC.int (((Q4 c.2 320).1).pN),DC.int ((((Q4 c.2 320).1).pk).eh),DC.int ((((Q4 c.2 320).1).pk).oC),DC.int ((((Q4 c.2 320).1).pk).oz),DC.int ((((Q4 c.2 320).1).pk).e4),DC.int ((((Q4 c.2 320).1).pk).XY),DC.int ((((Q4 c.2 320).1).pk).ez),DC.int ((((Q4 c.2 320).1).pk).su),DC.str ((((Q4 c.2 320).1).pk).ed),DC.int (ZK (1+((Ra o 128).1))),DC.int ((kM p ([[DC.int 60],[DC.int 100],[DC.int 128]])).1),DC.str [],DC.int 0]])) then j (ZK (k+1)) t.b t.i t.h ((e++([yb 2 (((qL (oY.nd (V Z (vt k)) 0)).1)) 0]))++([[DC.int 0,DC.int (((Q4 c.2 320).1).rA),DC.int (((Q4 c.2 320).1).rN),DC.int (((Q4 c.2 320).1).rX),DC.int (((Q4 c.2 320).1).S9),DC.int (((Q4 c.2 320).1).Id),DC.int (((Q4 c.2 320).1).Ta),DC.int (((Q4 c.2 320).1).py),DC.int (((Q4 c.2 320).1).pN),DC.int ((((Q4 c.2 320).1).pk).eh),DC.int ((((Q4 c.2 320).1).pk).oC),DC.int ((((Q4 c.2 320).1).pk).oz),DC.int ((((Q4 c.2 320).1).pk).e4),DC.int ((((Q4 c.2 320).1).pk).XY),DC.int ((((Q4 c.2 320).1).pk).ez),DC.int ((((Q4 c.2 320).1).pk).su),DC.str ((((Q4 c.2 320).1).pk).ed),DC.int (ZK (1+((Ra o 128).1))),DC.int ((kM p ([[DC.int 60],[DC.int 100],[DC.int 128]])).1),DC.str [],DC.int 0]])) else kW else bif c.1==7 then bif Bk true (Pf 184 (e++([yb 2 (((qL (oY.nd (V Z (vt k)) 0)).1)) 0])) ([yb 1 [] 0])) then j (ZK (k+1)) c.2.b c.2.i c.2.h ((e++([yb 2 (((qL (oY.nd (V Z (vt k)) 0)).1)) 0]))++([yb 1 [] 0])) else kW else bif c.1==8 then bif B then bif Bk true (Pf 184 (e++([yb 2 (((qL (oY.nd (V Z (vt k)) 0)).1)) 0])) ([yb 6 [] 0])) then j (ZK (k+1)) c.2.b c.2.i c.2.h ((e++([yb 2 (((qL (oY.nd (V Z (vt k)) 0)).1)) 0]))++([yb 6 [] 0])) else kW else j (ZK (k+1)) c.2.b c.2.i c.2.h (e++([yb 2 (((qL (oY.nd (V Z (vt k)) 0)).1)) 0])) else j (ZK (k+1)) c.2.b c.2.i c.2.h (e++([yb 2 (((qL (oY.nd (V Z (vt k)) 0)).1)) 0])) else kW else kW else kW else kW else a e (⟨y,z,A⟩:kJ)
def dk(a:rM→kJ→α)(N:Nat)(b:Bool)(Z:rM)(c:Nat):oM α:=WS (λ_ _ _ _ _=>kW) (va kW a b Z) c
def uO(a:rM→kJ→α)(d:rM→Int→rM→Int→Int→rM→α)(c:kJ)(e:Bool):α:=bif Bk true (gE c 10) then d ((VY c 10).1) 0 (((VY c 10).2).b) (((VY c 10).2).i) (((VY c 10).2).h) [] else kW
def ZD(a:rM→kJ→α)(N:Nat)(c:kJ)(b:Bool):α:=uO kW a (λZ=>dk kW a N b Z N) c b
def Uv(c:kJ)(a:Bool):Bool:=DX c && !a
theorem nv4(p:oY):(qL p).1.length≤424:=by
 have a:=Cg p;unfold qL iR;cases (!(yc p))
 ·simp only[rl,Qe,kN,di,vx];omega
 ·exact vA _
def X3(x:List DC):Prop:=0≤J x 0∧J x 0≤5∧(fJ x 19).length≤1000
theorem nyG{s:Y}(h:s.length≤1000):X3 (yb 2 s 0):=⟨by show (0:Int)≤2;omega,by show (2:Int)≤5;omega,h⟩
theorem pQ(n:Int)(a:0≤n)(b:n≤5):X3 (yb n [] 0):=⟨a,b,vA _⟩
theorem nCc(b:Int):X3 (yb 5 [] b):=⟨by show (0:Int)≤5;omega,by show (5:Int)≤5;omega,vA _⟩
theorem nCu(g h i j k l m n o p a b d e f:Int)(s:Y)(z c:Int):X3 [DC.int 0,DC.int g,DC.int h,DC.int i,DC.int j,DC.int k,DC.int l,DC.int m,DC.int n,DC.int o,DC.int p,DC.int a,DC.int b,DC.int d,DC.int e,DC.int f,DC.str s,DC.int z,DC.int c,DC.str [],DC.int 0]:=⟨by show (0:Int)≤0;omega,by show (0:Int)≤5;omega,vA _⟩
def QO(i:Nat)(o:rM):Prop:=o.length≤2*i∧(∀x∈o,X3 x)∧(0<i→∃x∈o,J x 0=2)
theorem ndp{i:Nat}{o:rM}{a:List DC}(h:QO i o)(c:X3 a)(d:J a 0=2):QO (i+1) (o++[a]):=by
 refine⟨by have:=h.1;simp only[Qe,di,vx];omega,λx b=>?_,λ_=>⟨a,by simp,d⟩⟩;rcases wN.1 b with b | b
 ·exact h.2.1 x b
 ·rw[w2.1 b];exact c
theorem ndP{i:Nat}{o:rM}{a b:List DC}(h:QO i o)(d:X3 a)(e:J a 0=2)(f:X3 b):QO (i+1) ((o++[a])++[b]):=by
 refine⟨by have:=h.1;simp only[Qe,di,vx];omega,λx c=>?_,λ_=>⟨a,by simp,e⟩⟩;rcases wN.1 c with c | c
 ·rcases wN.1 c with c | c
  ·exact h.2.1 x c
  ·rw[w2.1 c];exact d
 ·rw[w2.1 c];exact f
def ZR(c:kJ)(a:Bool):(α:Type)→α→((rM×kJ)→α)→α:=λα kW k=>ZD kW (λb d=>k (b,d)) 12 c a
def yg(c:kJ)(a:Bool)(r:(rM×kJ)):Prop:=DX r.2=true∧r.1.length≤20∧(∀x∈r.1,X3 x)∧∃x∈r.1,J x 0=2
def du(c:kJ)(a:Bool):(rM×kJ):=drawn ([],c) (ZR c a) (yg c a)
theorem ndC{c:kJ}{G:Bool}(O:Uv c G=true):Good (ZR c G) (yg c G):=by
 simp only[Uv,gF,Bool.not_eq_true'] at O;obtain⟨U,H⟩:=O;have P:gE c 10=true:=by simp only[gE,U];rfl
 obtain⟨W,X,a3⟩:=nz1 P;unfold ZR yg ZD uO;subst H;refine N0 (zL P) ?_;generalize (VY c 10).1=Z at X a3;have key:∀(m q i:Nat) (d:kJ) (o:rM),m<q→i+m=Z.length→QO i o→DX d=true→Good (λα kW k=>dk kW (λf g=>k (f,g)) 12 false Z q (i:Int) d.b d.i d.h o) (λr=>DX r.2=true∧QO Z.length r.1):=by
  intro m
  induction m with
  | zero=>
   intro q i d o D I z E;obtain⟨q,rfl⟩:=O4 q;show Good (λα kW k=>va kW (λf g=>k (f,g)) false Z (dk kW (λf g=>k (f,g)) 12 false Z q) (i:Int) d.b d.i d.h o) _;unfold va;dsimp only;have F:i=Z.length:=by omega
   subst F;exact Wa (λh=>absurd (of_decide_eq_true h) (by simp only[len];omega)) (λ_=>x7 ⟨E,z⟩)
  | succ m Q=>
   intro q i d o D I z E;obtain⟨q,rfl⟩:=O4 q;show Good (λα kW k=>va kW (λf g=>k (f,g)) false Z (dk kW (λf g=>k (f,g)) 12 false Z q) (i:Int) d.b d.i d.h o) _;unfold va;dsimp only;have F:i<Z.length:=by omega
   have ew:ZK ((i:Int)+1)=((i+1:Nat):Int):=by rw[Ou];omega
   have A:∀(x:List DC),Pf 184 o [x]=true:=λx=>Q0 (by have:=z.1;simp only[di,vx];omega) (by omega);have j:∀(y x:List DC),Pf 184 (o++[y]) [x]=true:=λy x=>Q0 (by have:=z.1;simp only[Qe,di,vx];omega) (by omega);have B:∀p:oY,(qL p).1.length≤1000:=λp=>x6 (nv4 p) (by omega);have K:∀(p:oY) (a:Int) (d:kJ),Ei (qL p).1 a (zg d 1).1=true:=λp a d=>by have D:=B p;have I:=neo d (n:=1) (by omega) (by omega);simp only[len] at I;simp only[Ei,gF,kQ];omega
   have LA:∀(p:oY) (a:Int) (d:kJ),(iU (qL p).1 a (zg d 1).1).length≤1000:=λp a d=>by have D:=B p;rw[TA (by omega)];exact D
   have C:∀(s:Y) (d:kJ),s.length≤1000→DX d=true→Good (λα kW k=>dk kW (λf g=>k (f,g)) 12 false Z q ((i+1:Nat):Int) d.b d.i d.h (o++[yb 2 s 0])) (λr=>DX r.2=true∧QO Z.length r.1):=λs d l L=>Q q (i+1) d _ (by omega) (by omega) (ndp z (nyG l) rfl) L;have t:∀(s:Y) (d:kJ) (b:List DC),s.length≤1000→DX d=true→X3 b→Good (λα kW k=>dk kW (λf g=>k (f,g)) 12 false Z q ((i+1:Nat):Int) d.b d.i d.h ((o++[yb 2 s 0])++[b])) (λr=>DX r.2=true∧QO Z.length r.1):=λs d b l L B=>Q q (i+1) d _ (by omega) (by omega) (ndP z (nyG l) rfl B) L;refine Wa (λ_=>?_) (λh=>absurd (of_decide_eq_false h) (by simp only[len];omega));rw[ew,lN,uH F,SG F];refine N0 rfl ?_;have M:(⟨d.b,d.i,d.h⟩:kJ)=d:=rfl;rw[M];have c0:=uP E 12;have R:∀n,DX (Ra (qQ d 12).2 n).2=true:=λn=>bA c0 n;have S:∀n,DX (zg (Ra (qQ d 12).2 n).2 1).2=true:=λn=>Xx (R n) 1;have c3:∀n,DX (Ra (zg (Ra (qQ d 12).2 n).2 1).2 10).2=true:=λn=>bA (S n) 10;have u:∀(e:kJ) (s:Y) (v:Int),DX e=true→s.length≤1000→Good (λα kW k=>bif v==0 then bif Bk true (Pf 184 (o++[yb 2 s 0]) [yb 3 [] 0]) then dk kW (λf g=>k (f,g)) 12 false Z q ((i+1:Nat):Int) e.b e.i e.h ((o++[yb 2 s 0])++[yb 3 [] 0]) else kW
     else bif bif v==1 then true else v==2 then bif Bk true (Pf 184 (o++[yb 2 s 0]) [yb 4 [] 0]) then dk kW (λf g=>k (f,g)) 12 false Z q ((i+1:Nat):Int) e.b e.i e.h ((o++[yb 2 s 0])++[yb 4 [] 0]) else kW
     else bif bif v==3 then true else bif v==4 then true else v==5 then bif Bk (Bk true (qK e 3)) (Pf 184 (o++[yb 2 s 0]) [yb 5 [] ((ZK (1+(Ra e 3).1)))]) then dk kW (λf g=>k (f,g)) 12 false Z q ((i+1:Nat):Int) (Ra e 3).2.b (Ra e 3).2.i (Ra e 3).2.h ((o++[yb 2 s 0])++[yb 5 [] ((ZK (1+(Ra e 3).1)))]) else kW
     else bif v==6 then bif Bk (Bk (Bk (Bk true (E7 e 320)) (qK (Q4 e 320).2 128)) (DI (Ra (Q4 e 320).2 128).2 [[DC.int 60],[DC.int 100],[DC.int 128]])) (Pf 184 (o++[yb 2 s 0]) [[DC.int 0,DC.int (Q4 e 320).1.rA,DC.int (Q4 e 320).1.rN,DC.int (Q4 e 320).1.rX,DC.int (Q4 e 320).1.S9,DC.int (Q4 e 320).1.Id,DC.int (Q4 e 320).1.Ta,DC.int (Q4 e 320).1.py,DC.int (Q4 e 320).1.pN,DC.int (Q4 e 320).1.pk.eh,DC.int (Q4 e 320).1.pk.oC,DC.int (Q4 e 320).1.pk.oz,DC.int (Q4 e 320).1.pk.e4,DC.int (Q4 e 320).1.pk.XY,DC.int (Q4 e 320).1.pk.ez,DC.int (Q4 e 320).1.pk.su,DC.str (Q4 e 320).1.pk.ed,DC.int (ZK (1+(Ra (Q4 e 320).2 128).1)),DC.int (kM (Ra (Q4 e 320).2 128).2 [[DC.int 60],[DC.int 100],[DC.int 128]]).1,DC.str [],DC.int 0]]) then dk kW (λf g=>k (f,g)) 12 false Z q ((i+1:Nat):Int) (kM (Ra (Q4 e 320).2 128).2 [[DC.int 60],[DC.int 100],[DC.int 128]]).2.b (kM (Ra (Q4 e 320).2 128).2 [[DC.int 60],[DC.int 100],[DC.int 128]]).2.i (kM (Ra (Q4 e 320).2 128).2 [[DC.int 60],[DC.int 100],[DC.int 128]]).2.h ((o++[yb 2 s 0])++[[DC.int 0,DC.int (Q4 e 320).1.rA,DC.int (Q4 e 320).1.rN,DC.int (Q4 e 320).1.rX,DC.int (Q4 e 320).1.S9,DC.int (Q4 e 320).1.Id,DC.int (Q4 e 320).1.Ta,DC.int (Q4 e 320).1.py,DC.int (Q4 e 320).1.pN,DC.int (Q4 e 320).1.pk.eh,DC.int (Q4 e 320).1.pk.oC,DC.int (Q4 e 320).1.pk.oz,DC.int (Q4 e 320).1.pk.e4,DC.int (Q4 e 320).1.pk.XY,DC.int (Q4 e 320).1.pk.ez,DC.int (Q4 e 320).1.pk.su,DC.str (Q4 e 320).1.pk.ed,DC.int (ZK (1+(Ra (Q4 e 320).2 128).1)),DC.int (kM (Ra (Q4 e 320).2 128).2 [[DC.int 60],[DC.int 100],[DC.int 128]]).1,DC.str [],DC.int 0]]) else kW
     else bif v==7 then bif Bk true (Pf 184 (o++[yb 2 s 0]) [yb 1 [] 0]) then dk kW (λf g=>k (f,g)) 12 false Z q ((i+1:Nat):Int) e.b e.i e.h ((o++[yb 2 s 0])++[yb 1 [] 0]) else kW
     else bif v==8 then bif false then bif Bk true (Pf 184 (o++[yb 2 s 0]) [yb 6 [] 0]) then dk kW (λf g=>k (f,g)) 12 false Z q ((i+1:Nat):Int) e.b e.i e.h ((o++[yb 2 s 0])++[yb 6 [] 0]) else kW else dk kW (λf g=>k (f,g)) 12 false Z q ((i+1:Nat):Int) e.b e.i e.h (o++[yb 2 s 0])
     else dk kW (λf g=>k (f,g)) 12 false Z q ((i+1:Nat):Int) e.b e.i e.h (o++[yb 2 s 0])) (λr=>DX r.2=true∧QO Z.length r.1):=by
    intro e s v w l;have N:=Rq w 320;have T:=bA N.2 128;refine Wa (λ_=>N0 (zL (j _ _)) (t s e _ l w (pQ 3 (by omega) (by omega)))) (λ_=>?_);refine Wa (λ_=>N0 (zL (j _ _)) (t s e _ l w (pQ 4 (by omega) (by omega)))) (λ_=>?_);refine Wa (λ_=>N0 (by rw[j,show qK e 3=true from w];rfl) (t s _ _ l (bA w 3) (nCc _))) (λ_=>?_);refine Wa (λ_=>N0 (by rw[j,N.1,mQ T,show qK (Q4 e 320).2 128=true from N.2];rfl) (t s _ _ l (fH T _) (nCu ..))) (λ_=>?_);refine Wa (λ_=>N0 (zL (j _ _)) (t s e _ l w (pQ 1 (by omega) (by omega)))) (λ_=>?_);exact Wa (λ_=>Wa (λh=>by cases h) (λ_=>C s e l w)) (λ_=>C s e l w)
   refine N0 (zL (UP _ E)) (Wa (λ_=>?_) (λ_=>?_))
   ·refine N0 (by rw[K,show ∀n,qK (qQ d 12).2 n=true from λn=>c0,show ∀n,qK (Ra (qQ d 12).2 n).2 1=true from λn=>R n];rfl) (N0 (zL (A _)) (N0 (zL (UP _ (S _))) ?_));exact u _ _ _ (c3 _) (LA _ _ _)
   ·refine N0 (zL (A _)) (N0 (zL (UP _ c0)) ?_);exact u _ _ _ (bA c0 10) (B _)
 refine L0 (key Z.length 12 0 _ [] (by omega) (vJ _) ⟨by simp,λx hx=>(by cases hx),λh=>by omega⟩ W) (λr h=>⟨h.1,by have:=h.2.1;omega,h.2.2.1,h.2.2.2 (by omega)⟩)
theorem nz9{c:kJ}{a:Bool}(b:Uv c a=true):yg c a (du c a):=(Wu (ndC b)).1
theorem ndR(a:rM→kJ→α)(c:kJ)(b:Bool)(d:Uv c b=true):∃N,ZD kW a N c b=a (du c b).1 (du c b).2:=by exact⟨12,(Wu (ndC d)).2 α kW (λr=>a r.1 r.2)⟩
structure Uy where
 eh:Int
 nP:oY
 nA:Int
 Cut:Int
 fw:Y
 ns9:Int
def Uy.enc(x:Uy):List DC:=[.int x.eh,.int x.nP.rA,.int x.nP.rN,.int x.nP.rX,.int x.nP.S9,.int x.nP.Id,.int x.nP.Ta,.int x.nP.py,.int x.nP.pN,.int x.nP.pk.eh,.int x.nP.pk.oC,.int x.nP.pk.oz,.int x.nP.pk.e4,.int x.nP.pk.XY,.int x.nP.pk.ez,.int x.nP.pk.su,.str x.nP.pk.ed,.int x.nA,.int x.Cut,.str x.fw,.int x.ns9]
def Uy.nd(r:List DC)(o:Nat):Uy:=⟨J r (o+0),oY.nd r (o+1),J r (o+17),J r (o+18),fJ r (o+19),J r (o+20)⟩
def Uy.ct:List CT:=Gb
theorem Uy.eta{r:List DC}(h:i_ Uy.ct r):(Uy.nd r 0).enc=r:=(show (Uy.nd r 0).enc=nK Uy.ct r 0 from by kernel_rfl).trans (DG h)
theorem Uy.nX{r:List CT}{b:List DC}(h:i_ (Uy.ct++r) b):∃(x:Uy) (c:List DC),b=x.enc++c∧i_ Uy.ct x.enc∧i_ r c:=by obtain⟨d,e,rfl,a,f⟩:=Vi h;exact⟨Uy.nd d 0,e,by rw[Uy.eta a],by rw[Uy.eta a];exact a,f⟩
theorem Uy.nob{x:Uy}(h:i_ Uy.ct x.enc):Oj .i (.int x.eh):=Fh 0 h rfl rfl
theorem Uy.nBv{x:Uy}(h:i_ Uy.ct x.enc):i_ oY.ct x.nP.enc:=cW 1 16 h
theorem Uy.niT{x:Uy}(h:i_ Uy.ct x.enc):Oj .i (.int x.nA):=Fh 17 h rfl rfl
def oW(a:QP→kJ→α)(b f:rM)(g i h m d n o p q r s:Int)(t:Bool)(u:Y)(v:Bool)(w x y z A:Int)(e B C D E F G H I K L M N O P:rM)(j:Int→rM→α)(k:Int)(c:rM):α:=let l:rM×kJ:=jb (⟨f,g,i⟩:kJ) c;bif decide (k<len b) then bif Bk (Bk true (idx k b)) (E_ (fJ (V b (vt k)) 19)) then bif ((dZ (fJ (V b (vt k)) 19)).2)==0 then bif Bk true (Pf 136 c [oY.enc ((dZ (fJ (V b (vt k)) 19)).1)]) then j (ZK (k+1)) (c++[oY.enc ((dZ (fJ (V b (vt k)) 19)).1)]) else kW else j (ZK (k+1)) c else kW else bif Bk true (rL (⟨f,g,i⟩:kJ) c) then a (⟨(⟨e⟩:TV),B,(⟨(⟨h,m,d,n⟩:jW),(⟨o,p,q,C⟩:Cf),D,r⟩:Sx),E,F,G,H,(⟨s,t,I⟩:AP),(⟨K,(⟨L⟩:W4),(⟨u,M⟩:aV)⟩:nJ),l.1,v,N,O,P,(⟨w,x,y,z,A⟩:SI)⟩:QP) l.2 else kW
def C7(a:QP→kJ→α)(N:Nat)(d e:rM)(f g h i b j k l m n o:Int)(p:Bool)(q:Y)(r:Bool)(s t u v w:Int)(c x y z A B C D E F G H I K L:rM)(M:Nat):Int→rM→α:=WS (λ_ _=>kW) (oW kW a d e f g h i b j k l m n o p q r s t u v w c x y z A B C D E F G H I K L) M
def uU(a:QP→kJ→α)(d:rM→Int→Int→Int→Int→Int→Int→Int→Int→Int→Int→Int→Bool→Y→Bool→Int→Int→Int→Int→Int→rM→rM→rM→rM→rM→rM→rM→rM→rM→rM→rM→rM→rM→rM→rM→Int→rM→α)(c:kJ)(e:rM):α:=bif Bk true (DX c) then d (((fB c).2).b) (((fB c).2).i) (((fB c).2).h) (((((fB c).1).Tx).d5).nW) (((((fB c).1).Tx).d5).nA) (((((fB c).1).Tx).d5).ej) (((((fB c).1).Tx).d5).pj) (((((fB c).1).Tx).nM).nW) (((((fB c).1).Tx).nM).nA) (((((fB c).1).Tx).nM).d9) ((((fB c).1).Tx).en) ((((fB c).1).ec).N8) ((((fB c).1).ec).n9) (((((fB c).1).ni).nV).eJ) (((fB c).1).oU) ((((fB c).1).d4).ek) ((((fB c).1).d4).zN) ((((fB c).1).d4).oB) ((((fB c).1).d4).oZ) ((((fB c).1).d4).qE) ((((fB c).1).oa).nQ) (((fB c).1).ei) (((((fB c).1).Tx).nM).oq) ((((fB c).1).Tx).nx) (((fB c).1).Rx) (((fB c).1).oh) (((fB c).1).nL) (((fB c).1).n8) ((((fB c).1).ec).pO) ((((fB c).1).ni).oQ) (((((fB c).1).ni).eb).nO) (((((fB c).1).ni).nV).eb) (((fB c).1).tB) (((fB c).1).ox) (((fB c).1).oV) 0 [] else kW
def UQ(a:QP→kJ→α)(N:Nat)(c:kJ)(e:rM):α:=uU kW a (λf g i h j b k l m n o p q r s t u v w x d y z A B C D E F G H I K L M=>C7 kW a N e f g i h j b k l m n o p q r s t u v w x d y z A B C D E F G H I K L M N) c e
def Ox(h:QP):Prop:=∃(a:QP) (s:rM),ry a∧h= {a with oI:=s} ∧s.length≤100∧∀x∈s,fJ x 6=[]
def S3(c:kJ)(a:rM):Bool:=DX c && (decide (a.length≤20) && a.all (λx=>decide ((fJ x 19).length≤1000)))
def XU(c:kJ)(a:rM):(α:Type)→α→((QP×kJ)→α)→α:=λα kW k=>UQ kW (λb d=>k (b,d)) 22 c a
def Su(c:kJ)(a:rM)(r:(QP×kJ)):Prop:=DX r.2=true∧Ox r.1
def te(c:kJ)(a:rM):(QP×kJ):=drawn (R0,c) (XU c a) (Su c a)
theorem nhB{c:kJ}{a:rM}(f:S3 c a=true):Good (XU c a) (Su c a):=by
 simp only[S3,gF,kQ,vz] at f;obtain⟨g,D,s⟩:=f;unfold XU Su UQ uU;refine N0 (zL g) ?_;obtain⟨n1,n2⟩:=nf1 g;generalize fB c=z at n1 n2;have key:∀(m q i:Nat) (o:rM),m<q→i+m=a.length→o.length≤i→Good (λα kW k=>C7 kW (λd e=>k (d,e)) 22 a z.2.b z.2.i z.2.h z.1.Tx.d5.nW z.1.Tx.d5.nA z.1.Tx.d5.ej z.1.Tx.d5.pj z.1.Tx.nM.nW z.1.Tx.nM.nA z.1.Tx.nM.d9 z.1.Tx.en z.1.ec.N8 z.1.ec.n9 z.1.ni.nV.eJ z.1.oU z.1.d4.ek z.1.d4.zN z.1.d4.oB z.1.d4.oZ z.1.d4.qE z.1.oa.nQ z.1.ei z.1.Tx.nM.oq z.1.Tx.nx z.1.Rx z.1.oh z.1.nL z.1.n8 z.1.ec.pO z.1.ni.oQ z.1.ni.eb.nO z.1.ni.nV.eb z.1.tB z.1.ox z.1.oV q (i:Int) o) (λr=>DX r.2=true∧Ox r.1):=by
  intro m
  induction m with
  | zero=>
   intro q i o t u v;obtain⟨q,rfl⟩:=O4 q;show Good (λα kW k=>oW kW (λd e=>k (d,e)) a z.2.b z.2.i z.2.h z.1.Tx.d5.nW z.1.Tx.d5.nA z.1.Tx.d5.ej z.1.Tx.d5.pj z.1.Tx.nM.nW z.1.Tx.nM.nA z.1.Tx.nM.d9 z.1.Tx.en z.1.ec.N8 z.1.ec.n9 z.1.ni.nV.eJ z.1.oU z.1.d4.ek z.1.d4.zN z.1.d4.oB z.1.d4.oZ z.1.d4.qE z.1.oa.nQ z.1.ei z.1.Tx.nM.oq z.1.Tx.nx z.1.Rx z.1.oh z.1.nL z.1.n8 z.1.ec.pO z.1.ni.oQ z.1.ni.eb.nO z.1.ni.nV.eb z.1.tB z.1.ox z.1.oV (C7 kW (λd e=>k (d,e)) 22 a z.2.b z.2.i z.2.h z.1.Tx.d5.nW z.1.Tx.d5.nA z.1.Tx.d5.ej z.1.Tx.d5.pj z.1.Tx.nM.nW z.1.Tx.nM.nA z.1.Tx.nM.d9 z.1.Tx.en z.1.ec.N8 z.1.ec.n9 z.1.ni.nV.eJ z.1.oU z.1.d4.ek z.1.d4.zN z.1.d4.oB z.1.d4.oZ z.1.d4.qE z.1.oa.nQ z.1.ei z.1.Tx.nM.oq z.1.Tx.nx z.1.Rx z.1.oh z.1.nL z.1.n8 z.1.ec.pO z.1.ni.oQ z.1.ni.eb.nO z.1.ni.nV.eb z.1.tB z.1.ox z.1.oV q) (i:Int) o) _;unfold oW;dsimp only;refine Wa (λh=>absurd (of_decide_eq_true h) (by simp only[len];omega)) (λ_=>?_);have j:rL (⟨z.2.b,z.2.i,z.2.h⟩:kJ) o=true:=by simp only[rL,gF,kQ];exact⟨n1,by omega⟩
   obtain⟨w,E,y⟩:=nb1 j;exact N0 (zL j) (x7 ⟨w,z.1,_,n2,rfl,by omega,y⟩)
  | succ m l=>
   intro q i o t u v;obtain⟨q,rfl⟩:=O4 q;show Good (λα kW k=>oW kW (λd e=>k (d,e)) a z.2.b z.2.i z.2.h z.1.Tx.d5.nW z.1.Tx.d5.nA z.1.Tx.d5.ej z.1.Tx.d5.pj z.1.Tx.nM.nW z.1.Tx.nM.nA z.1.Tx.nM.d9 z.1.Tx.en z.1.ec.N8 z.1.ec.n9 z.1.ni.nV.eJ z.1.oU z.1.d4.ek z.1.d4.zN z.1.d4.oB z.1.d4.oZ z.1.d4.qE z.1.oa.nQ z.1.ei z.1.Tx.nM.oq z.1.Tx.nx z.1.Rx z.1.oh z.1.nL z.1.n8 z.1.ec.pO z.1.ni.oQ z.1.ni.eb.nO z.1.ni.nV.eb z.1.tB z.1.ox z.1.oV (C7 kW (λd e=>k (d,e)) 22 a z.2.b z.2.i z.2.h z.1.Tx.d5.nW z.1.Tx.d5.nA z.1.Tx.d5.ej z.1.Tx.d5.pj z.1.Tx.nM.nW z.1.Tx.nM.nA z.1.Tx.nM.d9 z.1.Tx.en z.1.ec.N8 z.1.ec.n9 z.1.ni.nV.eJ z.1.oU z.1.d4.ek z.1.d4.zN z.1.d4.oB z.1.d4.oZ z.1.d4.qE z.1.oa.nQ z.1.ei z.1.Tx.nM.oq z.1.Tx.nx z.1.Rx z.1.oh z.1.nL z.1.n8 z.1.ec.pO z.1.ni.oQ z.1.ni.eb.nO z.1.ni.nV.eb z.1.tB z.1.ox z.1.oV q) (i:Int) o) _;unfold oW;dsimp only;have n:i<a.length:=by omega
   have A:ZK ((i:Int)+1)=((i+1:Nat):Int):=by rw[Ou];omega
   have B:∀(x:List DC),Pf 136 o [x]=true:=λx=>Q0 (by simp only[di,vx];omega) (by omega);have C:E_ (fJ (V a i) 19)=true:=Tl (x6 (s _ (oA n)) (by omega));refine Wa (λ_=>?_) (λh=>absurd (of_decide_eq_false h) (by simp only[len];omega));rw[lN,uH n,A];refine N0 (by rw[C];rfl) (Wa (λ_=>N0 (zL (B _)) ?_) (λ_=>?_))
   ·exact l q (i+1) _ (by omega) (by omega) (by rw[Qe];simp only[di,vx];omega)
   ·exact l q (i+1) _ (by omega) (by omega) (by omega)
 exact key a.length 22 0 [] (by omega) (vJ _) (vA _)
theorem nnS{c:kJ}{a:rM}(b:S3 c a=true):Su c a (te c a):=(Wu (nhB b)).1
theorem ncw(a:QP→kJ→α)(c:kJ)(b:rM)(d:S3 c b=true):∃N,UQ kW a N c b=a (te c b).1 (te c b).2:=by exact⟨22,(Wu (nhB d)).2 α kW (λr=>a r.1 r.2)⟩
def nhg(a:QP→rM→α)(b:rM):α:=bif Bk true (Uv (VD b) false) then bif Bk true (S3 ((du (VD b) false).2) ((du (VD b) false).1)) then a ((te ((du (VD b) false).2) ((du (VD b) false).1)).1) ((du (VD b) false).1) else kW else kW
def G6(a:rM):rM×kJ:=du (VD a) false
def aH(a:rM):QP×rM:=((te (G6 a).2 (G6 a).1).1,(G6 a).1)
theorem QS{a:rM}(b:a.length≤9223372036854775807):Uv (VD a) false=true:=by simp only[Uv,nej b,w3,wa]
theorem ndH{a:rM}(b:a.length≤9223372036854775807):S3 (G6 a).2 (G6 a).1=true:=by obtain⟨c,d,e,g⟩:=nz9 (QS b);simp only[S3,gF,kQ,vz];exact⟨c,d,λx f=>(e x f).2.2⟩
theorem nB2{a:rM}(b:a.length≤9223372036854775807):Ox (aH a).1∧(aH a).2.length≤20∧(∀x∈(aH a).2,X3 x)∧∃x∈(aH a).2,J x 0=2:=
 ⟨(nnS (ndH b)).2,(nz9 (QS b)).2⟩
theorem nmL(a:QP→rM→α)(b:rM)(d:Oj (.sl [.int .u8]) (.sl b)):nhg kW a b=a (aH b).1 (aH b).2:=by have c:=(jD d).1;unfold nhg aH;exact Bw (zL (QS c)) (Bw (zL (ndH c)) rfl)
def nql(b:QP→Int→α)(h:QP)(a:Uy):α:=let c:QP×Bool:=AR h a.nP a.nA a.Cut;bif a.eh==0 then bif Bk true (D1 h a.nP a.nA a.Cut) then b c.1 (Sy c.2) else kW else bif a.eh==1 then bif Bk true (zD h) then b (N3 h) 0 else kW else bif a.eh==2 then bif Bk true (OG h a.fw) then b (fE h a.fw) 0 else kW else bif a.eh==3 then bif Bk true (gA h) then b (NL h) 0 else kW else bif a.eh==4 then bif Bk true (S4 h) then b (A0 h) 0 else kW else bif a.eh==5 then bif Bk true (fe h a.ns9) then b ((ua h a.ns9).1) ((ua h a.ns9).2) else kW else b h 0
def XJ(h:QP)(a:Uy):Bool:=eW h && (jV h && (Z5 h && E_ a.fw))
def YQ(h:QP)(a:Uy):QP×Int:=bif a.eh==0 then ((AR h a.nP a.nA a.Cut).1,Sy (AR h a.nP a.nA a.Cut).2) else bif a.eh==1 then (N3 h,0) else bif a.eh==2 then (fE h a.fw,0) else bif a.eh==3 then (NL h,0) else bif a.eh==4 then (A0 h,0) else bif a.eh==5 then ua h a.ns9 else (h,0)
theorem nux(d:QP→Int→α)(h:QP)(a:Uy)(g:XJ h a=true):nql kW d h a=d (YQ h a).1 (YQ h a).2:=by
 simp only[XJ,gF] at g;obtain⟨e,f,i,j⟩:=g;have k:∀p z c,D1 h p z c=true:=λ_ _ _=>by simp only[D1,e,f,wa]
 have l:zD h=true:=by simp only[zD,e,f,wa]
 have m:OG h a.fw=true:=by simp only[OG,e,f,j,wa]
 have n:gA h=true:=by simp only[gA,e,f,wa]
 have o:S4 h=true:=by simp only[S4,e,f,wa]
 have q:∀b,fe h b=true:=λ_=>by simp only[fe,e,f,i,wa]
 unfold nql YQ;dsimp only;refine oN (K:=λz:QP×Int=>d z.1 z.2) (λ_=>Bw (zL (k _ _ _)) rfl) (λ_=>?_);refine oN (K:=λz:QP×Int=>d z.1 z.2) (λ_=>Bw (zL l) rfl) (λ_=>?_);refine oN (K:=λz:QP×Int=>d z.1 z.2) (λ_=>Bw (zL m) rfl) (λ_=>?_);refine oN (K:=λz:QP×Int=>d z.1 z.2) (λ_=>Bw (zL n) rfl) (λ_=>?_);refine oN (K:=λz:QP×Int=>d z.1 z.2) (λ_=>Bw (zL o) rfl) (λ_=>?_);exact oN (K:=λz:QP×Int=>d z.1 z.2) (λ_=>Bw (zL (q _)) rfl) (λ_=>rfl)
theorem GA{P:List DC→Prop}{l:rM}{x:List DC}(h:∀k,k<l.length→P (V l k))(a:P x):∀k,k<(l++[x]).length→P (V (l++[x]) k):=by
 intro k b;rw[Qe,List.length_singleton] at b;by_cases e:k<l.length
 ·rw[show V (l++[x]) k=V l k by simp only[V,wk,List.getElem?_append_left e]];exact h k e
 ·rw[show k=l.length by omega,show V (l++[x]) l.length=x by simp[V]];exact a
theorem nzy(x:List DC):∀(m i:Nat) (o:rM),Wc (λ_ o=>o++[x]) m i o=o++wJ m x
 | 0,_,_=>by simp[Wc]
 | m+1,i,o=>by rw[Wc,nzy x m,wb];rfl
theorem ny6:(C_ 38).nQ=wJ 38 CM:=by show (bif decide ((38:Int)≤64) then Wc (λ_ o=>o++[CM]) 38 0 [] else [])=_;rw[show decide ((38:Int)≤64)=true by decide,HI,nzy,List.nil_append]
theorem nix:kc (C_ 38):=by unfold kc;rw[ny6];refine⟨λi a=>?_,xH ..⟩;rw[xH] at a;refine⟨Vu 128 0, ?_,by simp[Vu]⟩;simp only[V,wk];rw[List.getElem?_replicate_of_lt a];rfl
theorem nzN:∀i,kc (mq i)
 | 0=>nix
 | i+1=>nlA (nzN i)
theorem nBK{i:Nat}(a:i<2):Wi (d_ (i:Int))=true∧xn (O9 (i:Int))=true∧mK (hP (i:Int))=true:=by
 rcases (show i=0∨i=1 by omega) with rfl | rfl
 ·exact⟨by kernel_rfl,by kernel_rfl,by kernel_rfl⟩
 ·exact⟨by kernel_rfl,by kernel_rfl,by kernel_rfl⟩
theorem nB6:Yo Y9=true:=by kernel_rfl
structure GZ (f:AP) (s:nJ) (co:Bool) (i:Nat) (o:QP):Prop where
 eq:o= {uE f s co with oa:=o.oa,Rx:=o.Rx,oh:=o.oh,nL:=o.nL,n8:=o.n8}
 mem:o.oa=mq i
 nr:o.Rx.length=i
 np:o.oh.length=i
 nv:o.nL.length=i
 nb:o.n8.length=i
 rx:∀k,k<o.Rx.length→iy (pE.nd (V o.Rx k) 0)=true∧(pE.nd (V o.Rx k) 0).qj=0
 po:∀k,k<o.oh.length→mK (Cf.nd (V o.oh k) 0)=true
 ve:∀k,k<o.nL.length→fm (Tj.nd (V o.nL k) 0)=true
theorem nnP{f:AP}{s:nJ}{co:Bool}{v:Tj}(c:fm v=true){i:Nat}{o:QP}(e:i<2)(a:GZ f s co i o):GZ f s co (i+1) (Yc v i o):=by
 obtain⟨g,b,h⟩:=nBK e;have j:=ngR (l:=n7) (m:=o.oa) (d:=0) (p:=hP (i:Int)) g;have k:=nxj (l:=n7) (m:=o.oa) (d:=0) (r:=d_ (i:Int)) h;exact {
  eq:=by have this:=congrArg (λx:QP=>({x with oa:=(Yc v i o).oa,Rx:=(Yc v i o).Rx,oh:=(Yc v i o).oh,nL:=(Yc v i o).nL,n8:=(Yc v i o).n8} :QP)) a.eq;exact this
  mem:=by show (Ex o.oa (i:Int)).1=(Ex (mq i) (i:Int)).1;rw[a.mem]
  nr:=by show (o.Rx++[_]).length=_;rw[Qe,a.nr];rfl
  np:=by show (o.oh++[_]).length=_;rw[Qe,a.np];rfl
  nv:=by show (o.nL++[_]).length=_;rw[Qe,a.nv];rfl
  nb:=by show (o.n8++[_]).length=_;rw[Qe,a.nb];rfl
  rx:=GA (P:=λr=>iy (pE.nd r 0)=true∧(pE.nd r 0).qj=0) a.rx ⟨lY.2 ⟨j.1,b,b,rfl,rfl,by show (0:Int)≤0∧(0:Int)≤1000000000000;omega,.inr ⟨rfl,rfl⟩⟩,rfl⟩
  po:=GA (P:=λr=>mK (Cf.nd r 0)=true) a.po k.1
  ve:=GA (P:=λr=>fm (Tj.nd r 0)=true) a.ve c}
theorem nek{f:AP}{s:nJ}{co:Bool}{v:Tj}(a:fm v=true):∀(m i:Nat) (o:QP),i+m≤2→GZ f s co i o→GZ f s co (i+m) (Wc (Yc v) m i o)
 | 0,_,_,_,h=>h
 | m+1,i,o,hm,h=>by have:=nek a m (i+1) (Yc v i o) (by omega) (nnP a (by omega) h);rw[show i+(m+1)=i+1+m by omega];exact this
theorem ndj{a b:Int}(h:(Xj a b).2=true):fm (Xj a b).1=true:=by
 revert h;unfold Xj kj;dsimp only;cases c:fm (⟨a,b,0,0,false,false⟩:Tj)
 ·intro h;cases h
 ·intro _;exact c
theorem nlq{q:Int}{f:AP}{s:nJ}{co:Bool}{n t:Int}(h:(mJ q f s co n t).2=true):(1≤q∧q≤2)∧mG f=true∧F_ s q=true∧fm (Xj n t).1=true∧(mJ q f s co n t).1=Wc (Yc (Xj n t).1) q.toNat 0 (uE f s co):=by
 unfold mJ at h ⊢;cases c:(bif !(nn q 1 2) then true else bif !(mG f) then true else bif !(F_ s q) then true else !((Xj n t).2))
 ·obtain⟨d,a⟩:=Uk c;obtain⟨a,b⟩:=Uk a;obtain⟨b,e⟩:=Uk b;exact⟨Wx.1 (ux d),ux a,ux b,ndj (ux e),rfl⟩
 ·rw[c] at h;cases h
theorem ngu{h:QP}(j:Ox h):DS 0 h∧h.d4.ek=0:=by
 obtain⟨H,S,⟨q,f,s,co,n,t,l,m,p,rfl⟩,rfl,u,v⟩:=j;obtain⟨⟨I,K⟩,x,y,z,d⟩:=nlq p;obtain⟨c,rfl⟩:∃c:Nat,q=(c:Int):=⟨q.toNat,by omega⟩;rw[lN] at d;have w:=nek z c 0 (uE f s co) (by omega) {eq:=rfl,mem:=rfl,nr:=rfl,np:=rfl,nv:=rfl,nb:=rfl,rx:=(λk a=>absurd a (y5 k)),po:=(λk a=>absurd a (y5 k)),ve:=(λk a=>absurd a (y5 k))};rw[vJ,←d] at w;generalize (mJ (c:Int) f s co n t).1=o at*;have e:=w.eq;have nr:=w.nr;have np:=w.np;have nv:=w.nv;have nb:=w.nb;have b:o.d4=⟨0,0,0,0,0⟩:=congrArg QP.d4 e;have A:o.ei=n7:=congrArg QP.ei e;have B:o.Tx=Y9:=congrArg QP.Tx e;have g:o.ec=f:=congrArg QP.ec e;have i:o.ni=s:=congrArg QP.ni e;have C:o.tB=[]:=congrArg QP.tB e;have D:o.ox=[]:=congrArg QP.ox e;have E:o.oV=[]:=congrArg QP.oV e;have F:DS 0 ({o with oI:=S} :QP):=by
  constructor
  ·show kc o.oa;rw[w.mem];exact nzN c
  ·exact A
  ·show Yo o.Tx=true;rw[B];exact nB6
  ·show mG o.ec=true;rw[g];exact x
  ·show F_ o.ni (len o.Rx)=true;rw[i];simp only[len,nr];exact y
  ·show C5 o.ec=true;rw[g];exact l
  ·show ai o.ni=true;rw[i];exact m
  ·show 1≤o.Rx.length;omega
  ·show o.Rx.length≤2;omega
  ·exact np.trans nr.symm
  ·exact nv.trans nr.symm
  ·exact nb.trans nr.symm
  ·exact λk a=>⟨(w.rx k a).1,by have:=(w.rx k a).2;show (pE.nd (V o.Rx k) 0).qj≤_;omega⟩
  ·exact λk a=>w.po k (by rw[np,←nr];exact a)
  ·exact λk a=>w.ve k (by rw[nv,←nr];exact a)
  ·show 0≤o.d4.zN∧0≤o.d4.oB∧0≤o.d4.oZ∧0≤o.d4.qE;rw[b];exact⟨vM _,vM _,vM _,vM _⟩
  ·show o.d4.ek≤_;rw[b];exact vM _
  ·show o.d4.ek=o.d4.zN+o.d4.oB+o.d4.oZ+o.d4.qE;rw[b];rfl
  ·exact u
  ·exact λr G=>by rw[v r G];exact vA _
  ·show o.tB.length≤_;rw[C];exact vA _
  ·show o.ox.length≤_;rw[D];exact vA _
  ·show o.oV.length=0;rw[E];rfl
 refine⟨F, ?_⟩;show o.d4.ek=0;rw[b]
theorem npW{h:QP}{p:oY}{size a:Int} :(AR h p size a).1.d4=h.d4:=by unfold AR;cases sN h<;>rfl
theorem ne0{h:QP} :(N3 h).d4=h.d4:=by unfold N3;cases sN h<;>rfl
theorem ns3{h:QP} :(A0 h).d4=h.d4:=by unfold A0;cases sN h<;>rfl
theorem naq{h:QP} :(NL h).d4=h.d4:=by obtain⟨i,e,_⟩:=nrT (h:=h);have e:=congrArg QP.d4 e;exact e
theorem nxQ{h:QP}{gq:Int}(a:Z5 h=true):(ua h gq).1.d4=h.d4:=by obtain⟨i,_,e,_⟩:=njO (h:=h) (gq:=gq) a;have e:=congrArg QP.d4 e;exact e
theorem nfQ{j:Nat}{h:QP}(i:DS j h)(f:j≤20)(a:Uy):DS (j+1) (YQ h a).1∧(YQ h a).1.d4.ek=h.d4.ek+Sy (a.eh==2):=by
 have m:=(y7 i f).2.2;have n:∀k:Int,k≠2→Sy (k==2)=0:=λk o=>by rw[show (k==2)=false by simpa using o];rfl
 have e:∀(x:QP) (c:Int) (b:Int),a.eh=c→c≠2→DS (j+1) x→x.d4=h.d4→DS (j+1) x∧x.d4.ek=h.d4.ek+Sy (a.eh==2):=λx c b p q g l=>⟨g,by rw[l,p,n c q];omega⟩;unfold YQ;cases c0:a.eh==0
 case true=>exact e _ 0 0 (by simpa using c0) (by omega) (nza i) npW
 cases r:a.eh==1
 case true=>exact e _ 1 0 (by simpa using r) (by omega) (nL1 i) ne0
 cases s:a.eh==2
 case true=>exact nc6 i f
 have d:∀x:QP,DS (j+1) x→x.d4=h.d4→DS (j+1) x∧x.d4.ek=h.d4.ek+Sy false:=λx g l=>⟨g,by rw[l];show _=h.d4.ek+(0:Int);omega⟩;cases t:a.eh==3
 case true=>exact d _ (nxM i f) naq
 cases u:a.eh==4
 case true=>exact d _ (nz6 i) ns3
 cases v:a.eh==5
 case true=>exact d _ (nbu i) (nxQ m)
 exact d _ (D_ i) rfl
theorem ng6{j:Nat}{h:QP}(i:DS j h)(a:j≤20){x:List DC}(b:X3 x):XJ h (Uy.nd x 0)=true:=by obtain⟨c,d,e⟩:=y7 i a;simp only[XJ,c,d,e,Bool.true_and];exact Tl (by show (fJ x 19).length≤_;have:=b.2.2;omega)
def Zn(a:Bool→α)(d:rM)(R:Int)(S:Int→Int→rM→rM→Int→Int→Int→Int→Int→Int→Int→rM→rM→Int→rM→rM→rM→rM→Int→Bool→rM→rM→rM→Y→rM→rM→Bool→rM→rM→rM→Int→Int→Int→Int→Int→α)(n k:Int)(x T:rM)(U W X Z p q Z0:Int)(r s:rM)(t:Int)(u v w y:rM)(z:Int)(A:Bool)(B C D:rM)(E:Y)(F G:rM)(H:Bool)(I K L:rM)(c e f g h:Int):α:=let j:QP:=(⟨(⟨x⟩:TV),T,(⟨(⟨U,W,X,Z⟩:jW),(⟨p,q,Z0,r⟩:Cf),s,t⟩:Sx),u,v,w,y,(⟨z,A,B⟩:AP),(⟨C,(⟨D⟩:W4),(⟨E,F⟩:aV)⟩:nJ),G,H,I,K,L,(⟨c,e,f,g,h⟩:SI)⟩:QP);let b:QP:=(YQ j (Uy.nd (V d (vt k)) 0)).1;let l:Sx:=b.Tx;let m:jW:=l.d5;let o:Cf:=l.nM;let M:AP:=b.ec;let N:nJ:=b.ni;let O:aV:=N.nV;let i:SI:=b.d4;let P:Bool:=c==(ZK (R+n));let Q:Bool:=c==(ZK ((ZK ((ZK (e+f))+g))+h));bif decide (k<len d) then bif Bk (Bk true (idx k d)) (XJ j (Uy.nd (V d (vt k)) 0)) then bif Bk true (idx k d) then S (ZK (n+(Sy ((J (V d (vt k)) 0)==2)))) (ZK (k+1)) b.oa.nQ b.ei m.nW m.nA m.ej m.pj o.nW o.nA o.d9 o.oq l.nx l.en b.Rx b.oh b.nL b.n8 M.N8 M.n9 M.pO N.oQ N.eb.nO O.eJ O.eb b.oI b.oU b.tB b.ox b.oV i.ek i.zN i.oB i.oZ i.qE else kW else kW else bif lV P (lV Q (lV (decide (0<n)) (Bk true (jV j)) true) true) true then a (bif P then bif Q then bif decide (0<n) then sN j else false else false else false) else kW
def gy(a:Bool→α)(N:Nat)(b:rM)(c:Int)(d:Nat):Int→Int→rM→rM→Int→Int→Int→Int→Int→Int→Int→rM→rM→Int→rM→rM→rM→rM→Int→Bool→rM→rM→rM→Y→rM→rM→Bool→rM→rM→rM→Int→Int→Int→Int→Int→α:=WS (λ_ _ _ _ _ _ _ _ _ _ _ _ _ _ _ _ _ _ _ _ _ _ _ _ _ _ _ _ _ _ _ _ _ _ _=>kW) (Zn kW a b c) d
theorem ndZ(a:Bool→α)(N:Nat)(b:rM)(c:Int)(d:Nat):gy kW a N b c (d+1)=Zn kW a b c (gy kW a N b c d):=rfl
def Ug(kW:α)(a:Bool→α)(c:rM→Int→Int→Int→rM→rM→Int→Int→Int→Int→Int→Int→Int→rM→rM→Int→rM→rM→rM→rM→Int→Bool→rM→rM→rM→Y→rM→rM→Bool→rM→rM→rM→Int→Int→Int→Int→Int→α)(b:rM):α:=bif Gv b then a true else c ((aH b).2) ((((aH b).1).d4).ek) 0 0 ((((aH b).1).oa).nQ) (((aH b).1).ei) (((((aH b).1).Tx).d5).nW) (((((aH b).1).Tx).d5).nA) (((((aH b).1).Tx).d5).ej) (((((aH b).1).Tx).d5).pj) (((((aH b).1).Tx).nM).nW) (((((aH b).1).Tx).nM).nA) (((((aH b).1).Tx).nM).d9) (((((aH b).1).Tx).nM).oq) ((((aH b).1).Tx).nx) ((((aH b).1).Tx).en) (((aH b).1).Rx) (((aH b).1).oh) (((aH b).1).nL) (((aH b).1).n8) ((((aH b).1).ec).N8) ((((aH b).1).ec).n9) ((((aH b).1).ec).pO) ((((aH b).1).ni).oQ) (((((aH b).1).ni).eb).nO) (((((aH b).1).ni).nV).eJ) (((((aH b).1).ni).nV).eb) (((aH b).1).oI) (((aH b).1).oU) (((aH b).1).tB) (((aH b).1).ox) (((aH b).1).oV) ((((aH b).1).d4).ek) ((((aH b).1).d4).zN) ((((aH b).1).d4).oB) ((((aH b).1).d4).oZ) ((((aH b).1).d4).qE)
def bh(a:Bool→α)(N:Nat)(b:rM):α:=Ug kW a (λc d=>gy kW a N c d N) b
theorem njU(a:Bool→α)(b:rM)(z:Oj (.sl [.int .u8]) (.sl b))(U:kP ((.sl [.int .u8])::([])) (.sl b::([]))=true):∃N,bh kW a N b=a true:=by
 have A:=(jD z).1;obtain⟨k,t,l,o⟩:=nB2 A;refine⟨23, ?_⟩;unfold bh Ug;generalize aH b=D at k t l o ⊢;obtain⟨h,c⟩:=D;dsimp only at k t l o ⊢;cases Gv b
 case true=>rfl
 rw[rl];obtain⟨B,u⟩:=ngu k;have key:∀(m N i:Nat) (n:Int) (x:QP),m<N→i+m=c.length→DS i x→x.d4.ek=n→0≤n→n≤(i:Int)→(0<n∨∃j,i≤j∧j<c.length∧J (V c j) 0=2)→gy kW a 23 c h.d4.ek N n (i:Int) x.oa.nQ x.ei x.Tx.d5.nW x.Tx.d5.nA x.Tx.d5.ej x.Tx.d5.pj x.Tx.nM.nW x.Tx.nM.nA x.Tx.nM.d9 x.Tx.nM.oq x.Tx.nx x.Tx.en x.Rx x.oh x.nL x.n8 x.ec.N8 x.ec.n9 x.ec.pO x.ni.oQ x.ni.eb.nO x.ni.nV.eJ x.ni.nV.eb x.oI x.oU x.tB x.ox x.oV x.d4.ek x.d4.zN x.d4.oB x.d4.oZ x.d4.qE=a true:=by
  intro m
  induction m with
  | zero=>
   intro N i n x C E d p F G e;obtain⟨N,rfl⟩:=O4 N;have r:(⟨(⟨x.oa.nQ⟩:TV),x.ei,(⟨(⟨x.Tx.d5.nW,x.Tx.d5.nA,x.Tx.d5.ej,x.Tx.d5.pj⟩:jW),(⟨x.Tx.nM.nW,x.Tx.nM.nA,x.Tx.nM.d9,x.Tx.nM.oq⟩:Cf),x.Tx.nx,x.Tx.en⟩:Sx),x.Rx,x.oh,x.nL,x.n8,(⟨x.ec.N8,x.ec.n9,x.ec.pO⟩:AP),(⟨x.ni.oQ,(⟨x.ni.eb.nO⟩:W4),(⟨x.ni.nV.eJ,x.ni.nV.eb⟩:aV)⟩:nJ),x.oI,x.oU,x.tB,x.ox,x.oV,(⟨x.d4.ek,x.d4.zN,x.d4.oB,x.d4.oZ,x.d4.qE⟩:SI)⟩:QP)=x:=rfl;have f:i≤20:=by omega
   have H:0<n:=by
    rcases e with e | ⟨j,s,g,_⟩
    ·exact e
    ·omega
   obtain⟨W,X,Z,c4⟩:=d.c0;have c5:=d.c1;have I:=d.c2;have K:(x.d4.ek==ZK (h.d4.ek+n))=true:=by rw[u,p,Ou,Int.zero_add];exact beq_self_eq_true n
   have L:(x.d4.ek==ZK (ZK (ZK (x.d4.zN+x.d4.oB)+x.d4.oZ)+x.d4.qE))=true:=by rw[Ou (n:=x.d4.zN+x.d4.oB),Ou (n:=x.d4.zN+x.d4.oB+x.d4.oZ),Ou,←I];exact beq_self_eq_true _
   rw[ndZ];unfold Zn;dsimp only;refine (Ym (yF (by simp only[len];omega))).trans ?_;rw[r,K,L,Tl H,(y7 d f).2.1,iD d f];rfl
  | succ m M=>
   intro N i n x C E d p F G e;obtain⟨N,rfl⟩:=O4 N;have r:(⟨(⟨x.oa.nQ⟩:TV),x.ei,(⟨(⟨x.Tx.d5.nW,x.Tx.d5.nA,x.Tx.d5.ej,x.Tx.d5.pj⟩:jW),(⟨x.Tx.nM.nW,x.Tx.nM.nA,x.Tx.nM.d9,x.Tx.nM.oq⟩:Cf),x.Tx.nx,x.Tx.en⟩:Sx),x.Rx,x.oh,x.nL,x.n8,(⟨x.ec.N8,x.ec.n9,x.ec.pO⟩:AP),(⟨x.ni.oQ,(⟨x.ni.eb.nO⟩:W4),(⟨x.ni.nV.eJ,x.ni.nV.eb⟩:aV)⟩:nJ),x.oI,x.oU,x.tB,x.ox,x.oV,(⟨x.d4.ek,x.d4.zN,x.d4.oB,x.d4.oZ,x.d4.qE⟩:SI)⟩:QP)=x:=rfl;have f:i<c.length:=by omega
   obtain⟨O,v⟩:=nfQ d (by omega) (Uy.nd (V c i) 0);have P:=ng6 d (by omega) (l _ (oA f));have Q:(Uy.nd (V c i) 0).eh=J (V c i) 0:=rfl;have hb:0≤Sy (J (V c i) 0==2)∧Sy (J (V c i) 0==2)≤1:=by
    cases J (V c i) 0==2
    ·exact⟨vM 0,by decide⟩
    ·exact⟨by decide,vM 1⟩
   rw[Q] at v;rw[ndZ];unfold Zn;dsimp only;rw[r,lN];refine (O3 (Tl (by simp only[len];omega))).trans ?_;refine Bw (by rw[uH f,P];rfl) (Bw (zL (uH f)) ?_);rw[Ou (n:=n+Sy (J (V c i) 0==2)),Ou (n:=(i:Int)+1)];refine M N (i+1) (n+Sy (J (V c i) 0==2)) (YQ x (Uy.nd (V c i) 0)).1 (by omega) (by omega) O (v.trans (by rw[p])) (by omega) (by omega) ?_;rcases e with e | ⟨j,s,g,w⟩
   ·exact .inl (by omega)
   ·by_cases R:j=i
    ·subst R;refine .inl ?_;rw[w];show 0<n+(1:Int);omega
    ·exact .inr ⟨j,by omega,g,w⟩
 obtain⟨y,S,T⟩:=o;obtain⟨j,s,g⟩:=nk9 S;exact key c.length 23 0 0 h (by omega) (by omega) B u (vM 0) (vM 0) (.inr ⟨j,by omega,s,by rw[g];exact T⟩)
end
end Go.Proofs.YteffpikahopfoaaGreat.Pl
