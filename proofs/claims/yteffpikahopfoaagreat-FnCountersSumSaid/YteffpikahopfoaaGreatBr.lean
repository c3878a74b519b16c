/- From a law's contract in the value machine to the law's statement: the arguments are opened, their sizes are told. Conditions: the contract holds. -/
import Derived.Test.YteffpikahopfoaaGreatPre
import Derived.Test.YteffpikahopfoaaGreatLaw
import Derived.Test.YteffpikahopfoaaGreatRows
import Derived.JoinedCond
import Derived.Deep.CondSized
open Bool renaming and_eq_true→iq,and_true→j6
open Nat renaming eq_of_beq_eq_true→ix,beq→iK,zero_le→j3
open List renaming length_cons→i0,getElem?_drop→i4,all_append→i5,cons_append→j1,headD_cons→j2,getElem?_cons_zero→j4,all_cons→j5,getElem?_eq_getElem→j7,getElem?_eq_some_iff→kZ,length_eq_zero_iff→k0,getElem?_take_of_lt→k6,getElem?_of_mem→k7,mem_of_getElem?→k_,getElem?_append_left→lb,getElem?_append_right→lj
open Go.Value renaming oneCell'→i3,okWide→j0
open Go renaming TypeId→aaw,Value→aax
namespace Go.Proofs.YteffpikahopfoaaGreat.Br
open Go.ChangeShapes Go.WideShapes Go.ChangeAt Go.RowKit Vm Pl
def bx(P:Program)(n:Nat)(ok:aaw→Bool):List Field→Nat→Bool
 | [],o=>iK o n
 | f::l,o=>iK f.offset o && ok f.type && bx P n ok l (o+P.cellsOf f.type)
def Tm(P:Program):Nat→aaw→Bool
 | 0,_=>false
 | n+1,t=>
  match P.underlying t with
  | some .bool=>iK (P.cellsOf t) 1
  | some (.int _)=>iK (P.cellsOf t) 1
  | some .string=>iK (P.cellsOf t) 1
  | some (.slice e)=>iK (P.cellsOf t) 1 && Tm P n e && Nat.blt 0 (P.cellsOf e) && (match Ol P n e with | some l=>decide (Am l≤P.bytesOf e) | none=>false)
  | some (.struct fs)=>bx P (P.cellsOf t) (Tm P n) fs.toList 0
  | _=>false
theorem bj.append{w:World} :∀ {b e:List CT} {d a:List DC} {f g:Nat→Option aax} {p q:List Nat},bj w b d f p→bj w e a g q→(∀j,g j=f (b.length+j))→bj w (b++e) (d++a) f (p++q)
 | [],e,d,a,f,g,p,q,h,h',hj=>by
  simp only[bj] at h;obtain⟨rfl,rfl⟩:=h;have:g=f:=by funext j;rw[hj];simp
  subst this;simpa using h'
 | c::b,e,_,a,f,g,_,q,h,h',hj=>by
  simp only[bj] at h;obtain⟨d,i,v,k,l,rfl,m,n,o,rfl⟩:=h;simp only[j1,bj];refine⟨d,i++a,v,k,l++q,rfl,m,n,bj.append o h' (λj=>?_),by simp⟩;rw[hj];simp only[i0]
  congr 1
  omega
theorem bj.congr{w:World}{a:List CT}{d:List DC}{f g:Nat→Option aax}{p:List Nat}(h:bj w a d f p)(b:∀j,j<a.length→g j=f j):bj w a d g p:=by
 induction a generalizing d f g p with
 | nil=>simpa only[bj] using h
 | cons c a e=>
  simp only[bj] at h ⊢;obtain⟨x,i,v,k,l,rfl,m,n,o,rfl⟩:=h;refine⟨x,i,v,k,l,rfl, ?_,n,e o (λj q=>b (j+1) (by simp only[i0];omega)),rfl⟩;rw[b 0 (by simp)];exact m
theorem nc4(a b:List DC):PT (a++b)=PT a+PT b:=by
 induction a with
 | nil=>simp[PT]
 | cons d l c=>simp only[j1,PT,c];omega
theorem NH:∀ {d e:List CT} {a b:List DC},a.length=d.length→kP (d++e) (a++b)=(kP d a && kP e b)
 | [],e,a,b,h=>by have:a=[]:=k0.1 h;subst this;simp[kP]
 | c::d,e,a,b,h=>by
  cases a with
  | nil=>simp at h
  | cons x a=>
   simp only[j1,kP,j2,List.tail_cons];rw[NH (by simpa using h),Bool.and_assoc]
section
variable {H:Type} {enc:aaw×aax→H} {P:Program} {w:World}
def lG(P:Program)(w:World)(t:aaw)(bF:List CT)(a:List aax)(d:DataW H):Prop:=∃b c,bj w bF b (λj=>a[j]?) c∧a.length=bF.length∧bF.length=P.cellsOf t∧(∀v∈a,v.oneCell'=true)∧PT b+1≤Rows.uptoBulk d∧ ((DataW.weights P t d).all (· ≤reachBytes)=true→kP bF b=true)
theorem nkO{a:Addr}{n:Nat}{b:List aax}(h:w.cells? 0 a n=some b):b.length=n∧∀j,j<n→w.cell? (a.add j)=b[j]? :=by unfold World.cells? at h;rw[if_pos (j3 _)] at h;refine⟨by simpa using mapM_some_length h,λj c=>?_⟩;exact mapM_some_get h j j (by simp[c])
theorem nf6{a:Addr}{v:aax}(h:w.cell? a=some v):a.spot=none∧a.block<w.heap.size:=by
 unfold World.cell? at h;split at h
 ·rename_i c _ _ b;refine⟨?_, ?_⟩
  ·cases d:a.spot with
   | none=>rfl
   | some s=>simp[d] at h
  ·exact (Array.getElem?_eq_some_iff.1 b).1
 ·simp at h
theorem neh{n m c:Nat}{a:Nat→Bool}{d:List aax}
  (z:∀t bF (d:List aax) (x:DataW H×List MemPlace),Ol P n t=some bF→Tm P n t=true→DataW.trod enc P w 0 a true c t d=some x→lG P w t bF d x.1):
  ∀(e:List Field) (b:List (DataW H×List MemPlace)) (bF:List CT) (o:Nat),bx P m (Tm P n) e o=true→d.length=m→o≤m→
   e.foldr (λf r=>match Ol P n f.type,r with | some l,some m=>some (l++m) | _,_=>none) (some [])=some bF→b.length=e.length→
   (∀(i:Nat) (f:Field),e[i]? =some f→DataW.trod enc P w 0 a true c f.type ((d.drop f.offset).take (P.cellsOf f.type))=b[i]?)→
   ∃g s,bj w bF g (λj=>(d.drop o)[j]?) s∧o+bF.length=m∧(∀v∈d.drop o,v.oneCell'=true)∧PT g+b.length≤Rows.uptoBulkAll (b.map (·.1))∧
    ((DataW.weightsEach P (e.map (·.type)) (b.map (·.1))).all (· ≤reachBytes)=true→kP bF g=true)
 | [],b,bF,o,h,hm,hom,hc,hx,ht=>by simp only[List.foldr_nil,Option.some.injEq] at hc;subst hc;have:=k0.1 hx;subst this;have k:o=m:=ix (by simpa only[bx] using h);subst k;refine⟨[],[],by simp[bj],by simp, ?_,by simp[PT,Rows.uptoBulkAll],λ_=>by simp[kP]⟩;rw[List.drop_eq_nil_of_le (by omega)];simp
 | f::e,b,bF,o,h,hm,hom,hc,hx,ht=>by
  simp only[bx,iq] at h;obtain⟨⟨k,u⟩,h⟩:=h;have k:=ix k;simp only[List.foldr_cons] at hc;cases b with
  | nil=>simp at hx
  | cons x b=>
   split at hc
   case h_2=>cases hc
   rename_i l r C D;simp only[Option.some.injEq] at hc;subst hc;have A:=ht 0 f rfl;simp only[j4] at A;obtain⟨g,s,B,E,T,F,U,G⟩:=z _ _ _ _ C u A;have W:P.cellsOf f.type≤m - o:=by simp only[List.length_take,List.length_drop] at E;omega
   obtain⟨I,K,L,X,M,Z,N⟩:=neh z e b r (o+P.cellsOf f.type) h hm (by omega) D (by simpa using hx) (λi O Q=>by have:=ht (i+1) O (by simpa using Q);simpa using this);have p:g.length=l.length:=bj.length _ _ _ _ B;refine⟨g++I,s++K,bj.append (bj.congr B (λj q=>?_)) L (λj=>?_),by simp;omega, ?_, ?_, ?_⟩
   ·rw[k6 (by omega),k]
   ·simp only[i4]
    congr 1
    omega
   ·intro v R;obtain⟨j,q⟩:=k7 R;simp only[i4] at q;by_cases S:j<P.cellsOf f.type
    ·exact F v (k_ (i:=j) (by rw[k6 S,i4,k];exact q))
    ·refine M v (k_ (i:=j - P.cellsOf f.type) ?_);rw[i4,←q]
     congr 1
     omega
   ·rw[nc4];simp only[List.map_cons,Rows.uptoBulkAll,i0];omega
   ·intro y;simp only[List.map_cons,DataW.weightsEach,i5,iq] at y;rw[NH p,iq];exact⟨G y.1,N y.2⟩
theorem nqu:∀(l:List (DataW H)) (f:List (List DC)),l.length=f.length→(∀(i:Nat) d r,l[i]? =some d→f[i]? =some r→PT r+1≤Rows.uptoBulk d)→f.length+Nk f≤Rows.uptoBulkAll l
 | [],[],_,_=>by simp[Nk,Rows.uptoBulkAll]
 | [],_::_,h,_=>by simp at h
 | _::_,[],h,_=>by simp at h
 | d::l,r::f,h,hi=>by have c:=hi 0 d r rfl rfl;have e:=nqu l f (by simpa using h) (λi d r a b=>hi (i+1) d r (by simpa using a) (by simpa using b));simp only[i0,Nk,Rows.uptoBulkAll];omega
theorem nBm:∀(l:List (DataW H)) (e:aaw) (i:Nat) (d:DataW H),(DataW.weightsAll P e l).all (· ≤reachBytes)=true→l[i]? =some d→(DataW.weights P e d).all (· ≤reachBytes)=true
 | [],_,i,d,_,h=>by simp at h
 | x::l,e,i,d,hw,h=>by
  simp only[DataW.weightsAll,i5,iq] at hw;cases i with
  | zero=>
   simp only[j4,Option.some.injEq] at h;subst h;exact hw.1
  | succ i=>exact nBm l e i d hw.2 (by simpa using h)
theorem ug{C:Nat→Bool} :∀(n:Nat) (A:Nat) (t:aaw) (bF:List CT) (I:List aax) (x:DataW H×List MemPlace),Ol P n t=some bF→Tm P n t=true→DataW.trod enc P w 0 C true A t I=some x→lG P w t bF I x.1
 | 0,_,_,_,_,_,h,_,_=>by simp[Ol] at h
 | n+1,A,t,bF,I,x,hc,hty,ht=>by
  unfold Ol at hc;unfold Tm at hty;cases v:P.underlying t with
  | none=>simp[v] at hc
  | some u=>
   rw[v] at hc hty;cases u with
   | bool=>
    simp only[Option.some.injEq] at hc hty;subst hc;obtain⟨b,rfl,rfl⟩:=DataW.trod_bool v ht;refine⟨[.bool b],[], ?_,rfl,(ix hty).symm,by simp[i3],by simp[PT,U0,Rows.uptoBulk],λ_=>by simp[kP,P2]⟩;simp only[bj,kL];exact⟨_,_,_,_,_,rfl,rfl,⟨b,rfl,rfl,rfl⟩,⟨rfl,rfl⟩,rfl⟩
   | int k=>
    simp only[Option.some.injEq] at hc hty;subst hc;obtain⟨b,rfl,rfl,hwf⟩:=DataW.trod_int v ht;refine⟨[.int b],[], ?_,rfl,(ix hty).symm,by simp[i3],by simp[PT,U0,Rows.uptoBulk],λ_=>by simp[kP,P2]⟩;simp only[bj,kL];exact⟨_,_,_,_,_,rfl,rfl,⟨b,rfl,rfl,hwf,rfl⟩,⟨rfl,rfl⟩,rfl⟩
   | string=>
    simp only[Option.some.injEq] at hc hty;subst hc;obtain⟨s,rfl,rfl,dO⟩:=DataW.trod_string v ht;have aab:s.data.toList.length≤maxLen:=by simpa using dO
    refine⟨[.str s.data.toList],[], ?_,rfl,(ix hty).symm,by simp[i3],by simp[PT,U0,Rows.uptoBulk],λz=>?_⟩
    ·simp only[bj,kL];exact⟨_,_,_,_,_,rfl,rfl,⟨s.data.toList,rfl,by simp,aab,rfl⟩,⟨rfl,rfl⟩,rfl⟩
    ·simp only[DataW.weights,j5,List.all_nil,j6] at z;have:=of_decide_eq_true z;simp only[kP,P2,j2,DC.He,j6];exact decide_eq_true this
   | slice e=>
    simp only at hc hty;cases he:Ol P n e with
    | none=>simp[he] at hc
    | some l=>
     rw[he] at hc hty;simp only[Option.some.injEq,iq,decide_eq_true_eq] at hc hty;subst hc;obtain⟨⟨⟨T,hte⟩,kx⟩,B4⟩:=hty;rcases DataW.trod_slice v ht with ⟨rfl,rfl⟩ | ⟨a,len,cap,c,K,n',rfl,rfl,rfl,_,L,EK,M,U,mz,nEK⟩
     ·refine⟨[.sl []],[], ?_,rfl,(ix T).symm,by simp[i3],by simp[PT,U0,Nk,Rows.uptoBulk],λ_=>by simp[kP,P2,DC.cG]⟩;simp only[bj,kL];exact⟨_,_,_,_,_,rfl,rfl,⟨[],none,0,0,rfl,rfl,rfl,Nat.le_refl _,j3 _,.inl ⟨rfl,rfl⟩⟩,⟨rfl,rfl⟩,rfl⟩
     ·have N:∀i,i<len→∃y p,c[i]? =some y∧w.cells? 0 (a.add (i*P.cellsOf e)) (P.cellsOf e)=some p∧lG P w e l p y.1:=by
       intro i B;have h:=U i B;have W:i<c.length:=by omega
       rw[j7 W] at h;simp only[Option.bind_eq_some_iff] at h;obtain⟨p,D,htr⟩:=h;exact⟨c[i],p,j7 W,D,ug n n' e l p _ he hte htr⟩
      have nEf:∃(g:List (List DC)) (q:List (List Nat)),g.length=len∧q.length=len∧∀i r f,g[i]? =some r→q[i]? =some f→
        ∃y p,c[i]? =some y∧w.cells? 0 (a.add (i*P.cellsOf e)) (P.cellsOf e)=some p∧l.length=P.cellsOf e∧bj w l r (λj=>p[j]?) f∧PT r+1≤Rows.uptoBulk y.1∧
         ((DataW.weights P e y.1).all (· ≤reachBytes)=true→kP l r=true):=by
       clear U mz nEK ht M L EK
       induction len with
       | zero=>exact⟨[],[],rfl,rfl,λi r f h=>by simp at h⟩
       | succ m ihm=>
        obtain⟨g,q,O,E,F⟩:=ihm (λi B=>N i (by omega));obtain⟨y,p,Q,D,X,fp,o1,o2,o3,o4,o5,o6⟩:=N m (by omega);refine⟨g++[X],q++[fp],by simp[O],by simp[E],λi r f o G=>?_⟩;by_cases B:i<m
        ·exact F i r f (by rwa[lb (by omega)] at o) (by rwa[lb (by omega)] at G)
        ·have cA:i<(g++[X]).length:=(kZ.1 o).1;simp only[List.length_append,i0,List.length_nil] at cA;have j9:i=m:=by omega
         subst j9;rw[lj (by omega),O] at o;rw[lj (by omega),E] at G;simp only[Nat.sub_self,j4,Option.some.injEq] at o G;subst o;subst G;exact⟨y,p,Q,D,o3,o1,o5,o6⟩
      obtain⟨g,q,O,E,F⟩:=nEf;have hl0:0<len→0<l.length∧l.length=P.cellsOf e∧a.spot=none∧a.block<w.heap.size:=by intro Z;obtain⟨y,p,_,D,R,jC,_⟩:=F 0 g[0] q[0] (by simp) (by simp);have hp:0<P.cellsOf e:=Nat.le_of_ble_eq_true kx;have hg:=nkO D;have CZ:=hg.2 0 hp;rw[j7 (by omega)] at CZ;have:=nf6 CZ;simp only[Addr.add,Nat.zero_mul,if_true] at this;exact⟨by omega,R,this.1,this.2⟩
      refine⟨[.sl g],if len=0 then [] else a.block::q.flatten, ?_,rfl,(ix T).symm,by simp[i3], ?_, ?_⟩
      ·simp only[bj,kL];refine⟨_,_,_,if len=0 then [] else a.block::q.flatten,[],rfl,rfl,⟨g,some a,len,cap,rfl,rfl,O,L,EK, ?_⟩,⟨rfl,rfl⟩,by simp⟩;by_cases Z:len=0
       ·exact .inl ⟨Z,by simp[Z]⟩
       ·obtain⟨p1,p2,p3,p4⟩:=hl0 (by omega);refine .inr ⟨by omega,a.block,a.off,q, ?_,p4,E,by simp[Z],λi r f o G=>?_⟩
        ·cases a;simp only at p3;subst p3;rfl
        ·obtain⟨y,p,_,D,R,jC,_⟩:=F i r f o G;have hg:=nkO D;refine bj.congr jC (λj hj=>?_);rw[←hg.2 j (by omega)]
         congr 1
         cases a;simp only at p3;subst p3;simp only[Addr.add];rw[p2];split<;>split<;>simp_all<;>omega
      ·have:=nqu (c.map (·.1)) g (by simp[O,M]) (λi d r hd FK=>by
        have B:i<q.length:=by have:=(kZ.1 FK).1;omega
        obtain⟨y,p,Q,_,_,_,hb,_⟩:=F i r q[i] FK (by simp[B]);simp only[List.getElem?_map,Q,Option.map_some,Option.some.injEq] at hd;subst hd;exact hb)
       simp only[PT,U0,Rows.uptoBulk];omega
      ·intro z;simp only[DataW.weights,v,j5,i5,iq] at z;simp only[kP,P2,j2,DC.cG,j6,iq,List.all_eq_true];refine⟨decide_eq_true ?_,λr FK=>?_⟩
       ·have:g.length*Am l≤(c.map (·.1)).length*P.bytesOf e:=Nat.mul_le_mul (by simp;omega) B4;have h2:(c.map (·.1)).length*P.bytesOf e≤((c.map (·.1)).length+(K.map (·.1)).length)*P.bytesOf e:=Nat.mul_le_mul (by omega) (Nat.le_refl _);have h3:=of_decide_eq_true z.1;have h4:reachBytes=140737488351232:=rfl;omega
       ·obtain⟨i,B⟩:=k7 FK;have W:i<q.length:=by have:=(kZ.1 B).1;omega
        obtain⟨y,p,Q,_,_,_,_,eu⟩:=F i r q[i] B (by simp[W]);exact eu (nBm (c.map (·.1)) e i y.1 z.2.1 (by simp[Q]))
   | struct fs=>
    simp only at hc hty;obtain⟨xs,n',rfl,rfl,S,hxs,U⟩:=DataW.trod_struct v ht;obtain⟨X,fp,g1,g2,g3,g4,g5⟩:=neh (λt bF I x T h2 h3=>ug n n' t bF I x T h2 h3) fs.toList xs bF 0 hty S (j3 _) hc (by simpa using hxs) (λi f E=>U i f (by simpa using E));refine⟨X,fp,by simpa using g1,by omega,by omega,by simpa using g3, ?_, ?_⟩
    ·simp only[Rows.uptoBulk];omega
    ·intro z;simp only[DataW.weights,v] at z;exact g5 z
   | _=>simp at hc
def rR(P:Program):List aaw→Option (List de)
 | []=>some []
 | t::ts=>match Ol P 16 t,rR P ts with
  | some c,some l=>some (⟨c,Oz P t⟩::l)
  | _,_=>none
def wx(P:Program)(t:aaw):Bool:=match P.underlying t with | some (.array _ _)=>false | some _=>true | none=>false
theorem ngW{t:aaw}{v:aax}{r:Reach}{base:Nat}(h:j0 P w r base t v)(d:wx P t=true):bif Oz P t then ∃f,v= .agg f else ∀c,v≠ .agg c:=by
 unfold j0 at h;unfold Oz;unfold wx at d;cases e:P.underlying t with
 | none=>simp[e] at d
 | some u=>
  rw[e] at h d;cases u with
  | struct fs=>
   obtain⟨f,rfl,_⟩:=h;exact⟨f,rfl⟩
  | array a b=>simp at d
  | _=>
   simp only[cond_false]
   rintro c rfl
   unfold Cell.okWide at h;rw[e] at h;simp[Cell.ok,e] at h
theorem nvK{base:Nat}{r:Reach} :∀(e:List aaw) (f:List de) (g:List aax) (h:List (DataW H)) (ps:List MemPlace),rR P e=some f→e.all (λt=>Tm P 16 t && wx P t)=true→
  DataW.TrodAll enc P w 0 (λ_=>true) true e g h ps→(∀(j:Nat) t v,e[j]? =some t→g[j]? =some v→j0 P w r base t v)→
  ∃a n,CN w f a g n∧PT a≤Rows.uptoBulkAll h∧((DataW.weightsEach P e h).all (· ≤reachBytes)=true→kP (Uc f) a=true)
 | [],f,g,h,ps,hk,_,i,_=>by simp only[rR,Option.some.injEq] at hk;subst hk;obtain⟨rfl,rfl,_⟩:=trodAll_nil i;exact⟨[],[],⟨rfl,rfl,rfl⟩,by simp[PT],λ_=>by simp[Uc,kP]⟩
 | t::e,f,g,h,ps,hk,o,i,hv=>by
  simp only[rR] at hk;split at hk
  case h_2=>cases hk
  rename_i c l F G;simp only[Option.some.injEq] at hk;subst hk;simp only[j5,iq] at o;obtain⟨⟨u,x⟩,o⟩:=o;obtain⟨v,B,d,I,p,q,rfl,rfl,rfl,y,K⟩:=trodAll_cons i;obtain⟨a,n,L,R,M⟩:=nvK e l B I q G (by simpa using o) K (λj t v i hv'=>hv (j+1) t v (by simpa using i) (by simpa using hv'));obtain⟨k,y⟩:=y;obtain⟨b,C,D,N,S,z,O,Q⟩:=ug 16 k t c _ _ F u y;have s:=ngW (hv 0 t v rfl rfl) x;have m:b.length=c.length:=bj.length _ _ _ _ D;refine⟨b++a,C++n,⟨b,a,v,B,C,n,rfl,rfl,⟨v.cells.toList, ?_,z,D,N⟩,L,rfl⟩, ?_, ?_⟩
  ·cases E:Oz P t with
   | true=>
    rw[E] at s;obtain⟨T,rfl⟩:=s;simp[Value.cells]
   | false=>
    rw[E] at s;have:v.cells= #[v]:=by
     cases v<;>first | rfl | exact absurd rfl (s _)
    simp only[cond_false];rw[this] at z ⊢;exact⟨rfl,z v (by simp)⟩
  ·rw[nc4];simp only[Rows.uptoBulkAll];simp only at O;omega
  ·intro A;simp only[DataW.weightsEach,i5,iq] at A;show kP (c++Uc l) (b++a)=true;rw[NH m,iq];exact⟨Q A.1,M A.2⟩
theorem nBf{f:Nat}{fn:Func}{s:Sum}{sp:ChangeSpec}{W:World}{base:Nat}{a:Array aax}{i gs:List (DataW H)}{g:List MemPlace}{t4:aaw}{r:Reach}{n:List de}
  (G:laidOutB P=true) (I:gk P f s) (o:rR P fn.params.toList=some n) (u:s.ps=n) (K:s.rs=[⟨[.eN .bool],false⟩]) (L:fn.params.toList.all (λt=>Tm P 16 t && wx P t)=true)
  (M:sp.vars=[]) (w:∀t∈fn.params.toList,P.readableRec t=true∧t<P.types.size) (x:fn.resultTypes= #[t4]) (N:P.underlying t4=some .bool)
  (l:∀(j:Nat) t v,fn.params[j]? =some t→a[j]? =some v→j0 P W r base t v)
  (A:DataW.Whole enc P fn.params.toList sp.vars false W a.toList i gs g)
  (O:(sp.fn H i).results=[.lit (.bool true)]) (Q:(sp.fn H i).args=i) (y:(sp.fn H i).vars=[])
  (R:∀c,PT c≤Rows.uptoBulkAll i→((DataW.weightsEach P fn.params.toList i).all (· ≤reachBytes)=true→kP (Uc s.ps) c=true)→s.fn c=(true,[.bool true])):
  Calls P f a W λe B=>∃v,e= .returned v∧sp.post enc P fn false true false false W a v B:=by
 have hW':=A;obtain⟨p,q,S,_,_,_,_⟩:=A;obtain⟨c,T,U,X,Z⟩:=nvK (r:=r) (base:=base) fn.params.toList n a.toList i p o L S (λj t v ht hv'=>l j t v (by simpa using ht) (by simpa using hv'));subst u;have C:=R c X Z;have D:=I.2 W c a.toList T U (by rw[C]);rw[show a.toList.toArray=a by simp] at D;refine D.mono λe B hx=>?_;obtain⟨vs,φ,im,tp,rfl,m,z,_⟩:=hx;rw[C,K] at z;simp only[f_,je,kL] at z;obtain⟨d1,d2,v,c9,us,EH,B3,i1,i2,t1,t2,E,rfl,F,_,⟨d,bf,v',vs2,f1,FT,rfl,rfl,⟨b,rfl,rfl,_⟩,⟨rfl,rfl,_⟩,_⟩,⟨rfl,rfl,_⟩,_⟩:=z;simp only[cond_false,List.cons.injEq,and_true] at F;subst F;simp only[List.append_nil,List.cons.injEq,DC.bool.injEq,and_true] at E;subst E;refine⟨_,rfl,Law.nB4 G M w x N hW' O Q y ⟨m.os,m.tape,m.output,m.size,λk Co=>m.block k Co (λh=>h.elim)⟩⟩
end
end Go.Proofs.YteffpikahopfoaaGreat.Br
