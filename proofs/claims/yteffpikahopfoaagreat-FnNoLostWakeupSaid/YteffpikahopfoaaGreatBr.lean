/- Conditions: as each says. -/
import Derived.Test.YteffpikahopfoaaGreatPre
import Derived.Test.YteffpikahopfoaaGreatLaw
import Derived.Test.YteffpikahopfoaaGreatRows
import Derived.JoinedCond
import Derived.Deep.CondSized
open Bool renaming and_eq_true→h_,and_true→j3
open Nat renaming eq_of_beq_eq_true→ie,beq→iz,zero_le→j0
open List renaming length_cons→iA,getElem?_drop→iS,all_append→i0,cons_append→i4,headD_cons→i5,getElem?_cons_zero→j1,all_cons→j2,getElem?_eq_getElem→j4,getElem?_eq_some_iff→j5,length_eq_zero_iff→j6,getElem?_take_of_lt→j7,getElem?_of_mem→kI,mem_of_getElem?→k0,getElem?_append_left→k6,getElem?_append_right→k7
open Go.Value renaming oneCell'→iF,okWide→i3
open Go renaming TypeId→Zf,Value→Zg
namespace Go.Proofs.YteffpikahopfoaaGreat.Br
open Go.ChangeShapes Go.WideShapes Go.ChangeAt Go.RowKit Vm Pl
def QH(P:Program)(n:Nat)(ok:Zf→Bool):List Field→Nat→Bool
 | [],o=>iz o n
 | f::l,o=>iz f.offset o && ok f.type && QH P n ok l (o+P.cellsOf f.type)
def Xt(P:Program):Nat→Zf→Bool
 | 0,_=>false
 | n+1,t=>
  match P.underlying t with
  | some .bool=>iz (P.cellsOf t) 1
  | some (.int _)=>iz (P.cellsOf t) 1
  | some .string=>iz (P.cellsOf t) 1
  | some (.slice e)=>iz (P.cellsOf t) 1 && Xt P n e && Nat.blt 0 (P.cellsOf e) && (match W4 P n e with | some l=>decide (nsP l≤P.bytesOf e) | none=>false)
  | some (.struct fs)=>QH P (P.cellsOf t) (Xt P n) fs.toList 0
  | _=>false
theorem bj.append{w:World} :∀ {b e:List CT} {d a:List DC} {f g:Nat→Option Zg} {p q:List Nat},bj w b d f p→bj w e a g q→(∀j,g j=f (b.length+j))→bj w (b++e) (d++a) f (p++q)
 | [],e,d,a,f,g,p,q,h,h',hj=>by
  simp only[bj] at h;obtain⟨rfl,rfl⟩:=h;have:g=f:=by funext j;rw[hj];simp
  subst this;simpa using h'
 | c::b,e,_,a,f,g,_,q,h,h',hj=>by
  simp only[bj] at h;obtain⟨d,i,v,k,l,rfl,m,n,o,rfl⟩:=h;simp only[i4,bj];refine⟨d,i++a,v,k,l++q,rfl,m,n,bj.append o h' (λj=>?_),by simp⟩;rw[hj];simp only[iA]
  congr 1
  omega
theorem bj.congr{w:World}{a:List CT}{d:List DC}{f g:Nat→Option Zg}{p:List Nat}(h:bj w a d f p)(b:∀j,j<a.length→g j=f j):bj w a d g p:=by
 induction a generalizing d f g p with
 | nil=>simpa only[bj] using h
 | cons c a e=>
  simp only[bj] at h ⊢;obtain⟨x,i,v,k,l,rfl,m,n,o,rfl⟩:=h;refine⟨x,i,v,k,l,rfl, ?_,n,e o (λj q=>b (j+1) (by simp only[iA];omega)),rfl⟩;rw[b 0 (by simp)];exact m
theorem nlW(a b:List DC):vy (a++b)=vy a+vy b:=by
 induction a with
 | nil=>simp[vy]
 | cons d l c=>simp only[i4,vy,c];omega
theorem ZM:∀ {d e:List CT} {a b:List DC},a.length=d.length→cK (d++e) (a++b)=(cK d a && cK e b)
 | [],e,a,b,h=>by have:a=[]:=j6.1 h;subst this;simp[cK]
 | c::d,e,a,b,h=>by
  cases a with
  | nil=>simp at h
  | cons x a=>
   simp only[i4,cK,i5,List.tail_cons];rw[ZM (by simpa using h),Bool.and_assoc]
section
variable {H:Type} {enc:Zf×Zg→H} {P:Program} {w:World}
def jR(P:Program)(w:World)(t:Zf)(bF:List CT)(a:List Zg)(d:DataW H):Prop:=∃b c,bj w bF b (λj=>a[j]?) c∧a.length=bF.length∧bF.length=P.cellsOf t∧(∀v∈a,v.oneCell'=true)∧vy b+1≤Rows.uptoBulk d∧ ((DataW.weights P t d).all (· ≤reachBytes)=true→cK bF b=true)
theorem nyf{a:Addr}{n:Nat}{b:List Zg}(h:w.cells? 0 a n=some b):b.length=n∧∀j,j<n→w.cell? (a.add j)=b[j]? :=by unfold World.cells? at h;rw[if_pos (j0 _)] at h;refine⟨by simpa using mapM_some_length h,λj c=>?_⟩;exact mapM_some_get h j j (by simp[c])
theorem nch{a:Addr}{v:Zg}(h:w.cell? a=some v):a.spot=none∧a.block<w.heap.size:=by
 unfold World.cell? at h;split at h
 ·rename_i c _ _ b;refine⟨?_, ?_⟩
  ·cases d:a.spot with
   | none=>rfl
   | some s=>simp[d] at h
  ·exact (Array.getElem?_eq_some_iff.1 b).1
 ·simp at h
theorem nBe{n m c:Nat}{a:Nat→Bool}{d:List Zg}
  (z:∀t bF (d:List Zg) (x:DataW H×List MemPlace),W4 P n t=some bF→Xt P n t=true→DataW.trod enc P w 0 a true c t d=some x→jR P w t bF d x.1):
  ∀(e:List Field) (b:List (DataW H×List MemPlace)) (bF:List CT) (o:Nat),QH P m (Xt P n) e o=true→d.length=m→o≤m→
   e.foldr (λf r=>match W4 P n f.type,r with | some l,some m=>some (l++m) | _,_=>none) (some [])=some bF→b.length=e.length→
   (∀(i:Nat) (f:Field),e[i]? =some f→DataW.trod enc P w 0 a true c f.type ((d.drop f.offset).take (P.cellsOf f.type))=b[i]?)→
   ∃g s,bj w bF g (λj=>(d.drop o)[j]?) s∧o+bF.length=m∧(∀v∈d.drop o,v.oneCell'=true)∧vy g+b.length≤Rows.uptoBulkAll (b.map (·.1))∧
    ((DataW.weightsEach P (e.map (·.type)) (b.map (·.1))).all (· ≤reachBytes)=true→cK bF g=true)
 | [],b,bF,o,h,hm,hom,hc,hx,ht=>by simp only[List.foldr_nil,Option.some.injEq] at hc;subst hc;have:=j6.1 hx;subst this;have k:o=m:=ie (by simpa only[QH] using h);subst k;refine⟨[],[],by simp[bj],by simp, ?_,by simp[vy,Rows.uptoBulkAll],λ_=>by simp[cK]⟩;rw[List.drop_eq_nil_of_le (by omega)];simp
 | f::e,b,bF,o,h,hm,hom,hc,hx,ht=>by
  simp only[QH,h_] at h;obtain⟨⟨k,u⟩,h⟩:=h;have k:=ie k;simp only[List.foldr_cons] at hc;cases b with
  | nil=>simp at hx
  | cons x b=>
   split at hc
   case h_2=>cases hc
   rename_i l r C D;simp only[Option.some.injEq] at hc;subst hc;have A:=ht 0 f rfl;simp only[j1] at A;obtain⟨g,s,B,E,S,F,T,G⟩:=z _ _ _ _ C u A;have U:P.cellsOf f.type≤m - o:=by simp only[List.length_take,List.length_drop] at E;omega
   obtain⟨I,J,K,V,L,W,M⟩:=nBe z e b r (o+P.cellsOf f.type) h hm (by omega) D (by simpa using hx) (λi N O=>by have:=ht (i+1) N (by simpa using O);simpa using this);have p:g.length=l.length:=bj.length _ _ _ _ B;refine⟨g++I,s++J,bj.append (bj.congr B (λj q=>?_)) K (λj=>?_),by simp;omega, ?_, ?_, ?_⟩
   ·rw[j7 (by omega),k]
   ·simp only[iS]
    congr 1
    omega
   ·intro v Q;obtain⟨j,q⟩:=kI Q;simp only[iS] at q;by_cases R:j<P.cellsOf f.type
    ·exact F v (k0 (i:=j) (by rw[j7 R,iS,k];exact q))
    ·refine L v (k0 (i:=j - P.cellsOf f.type) ?_);rw[iS,←q]
     congr 1
     omega
   ·rw[nlW];simp only[List.map_cons,Rows.uptoBulkAll,iA];omega
   ·intro y;simp only[List.map_cons,DataW.weightsEach,i0,h_] at y;rw[ZM p,h_];exact⟨G y.1,M y.2⟩
theorem nL5:∀(l:List (DataW H)) (f:List (List DC)),l.length=f.length→(∀(i:Nat) d r,l[i]? =some d→f[i]? =some r→vy r+1≤Rows.uptoBulk d)→f.length+zZ f≤Rows.uptoBulkAll l
 | [],[],_,_=>by simp[zZ,Rows.uptoBulkAll]
 | [],_::_,h,_=>by simp at h
 | _::_,[],h,_=>by simp at h
 | d::l,r::f,h,hi=>by have c:=hi 0 d r rfl rfl;have e:=nL5 l f (by simpa using h) (λi d r a b=>hi (i+1) d r (by simpa using a) (by simpa using b));simp only[iA,zZ,Rows.uptoBulkAll];omega
theorem nhE:∀(l:List (DataW H)) (e:Zf) (i:Nat) (d:DataW H),(DataW.weightsAll P e l).all (· ≤reachBytes)=true→l[i]? =some d→(DataW.weights P e d).all (· ≤reachBytes)=true
 | [],_,i,d,_,h=>by simp at h
 | x::l,e,i,d,hw,h=>by
  simp only[DataW.weightsAll,i0,h_] at hw;cases i with
  | zero=>
   simp only[j1,Option.some.injEq] at h;subst h;exact hw.1
  | succ i=>exact nhE l e i d hw.2 (by simpa using h)
theorem IH{C:Nat→Bool} :∀(n:Nat) (A:Nat) (t:Zf) (bF:List CT) (I:List Zg) (x:DataW H×List MemPlace),W4 P n t=some bF→Xt P n t=true→DataW.trod enc P w 0 C true A t I=some x→jR P w t bF I x.1
 | 0,_,_,_,_,_,h,_,_=>by simp[W4] at h
 | n+1,A,t,bF,I,x,hc,hty,ht=>by
  unfold W4 at hc;unfold Xt at hty;cases v:P.underlying t with
  | none=>simp[v] at hc
  | some u=>
   rw[v] at hc hty;cases u with
   | bool=>
    simp only[Option.some.injEq] at hc hty;subst hc;obtain⟨b,rfl,rfl⟩:=DataW.trod_bool v ht;refine⟨[.bool b],[], ?_,rfl,(ie hty).symm,by simp[iF],by simp[vy,c3,Rows.uptoBulk],λ_=>by simp[cK,nn]⟩;simp only[bj,Z8];exact⟨_,_,_,_,_,rfl,rfl,⟨b,rfl,rfl,rfl⟩,⟨rfl,rfl⟩,rfl⟩
   | int k=>
    simp only[Option.some.injEq] at hc hty;subst hc;obtain⟨b,rfl,rfl,Z⟩:=DataW.trod_int v ht;refine⟨[.int b],[], ?_,rfl,(ie hty).symm,by simp[iF],by simp[vy,c3,Rows.uptoBulk],λ_=>by simp[cK,nn]⟩;simp only[bj,Z8];exact⟨_,_,_,_,_,rfl,rfl,⟨b,rfl,rfl,Z,rfl⟩,⟨rfl,rfl⟩,rfl⟩
   | string=>
    simp only[Option.some.injEq] at hc hty;subst hc;obtain⟨s,rfl,rfl,dT⟩:=DataW.trod_string v ht;have aac:s.data.toList.length≤maxLen:=by simpa using dT
    refine⟨[.str s.data.toList],[], ?_,rfl,(ie hty).symm,by simp[iF],by simp[vy,c3,Rows.uptoBulk],λz=>?_⟩
    ·simp only[bj,Z8];exact⟨_,_,_,_,_,rfl,rfl,⟨s.data.toList,rfl,by simp,aac,rfl⟩,⟨rfl,rfl⟩,rfl⟩
    ·simp only[DataW.weights,j2,List.all_nil,j3] at z;have:=of_decide_eq_true z;simp only[cK,nn,i5,DC.Hm,j3];exact decide_eq_true this
   | slice e=>
    simp only at hc hty;cases he:W4 P n e with
    | none=>simp[he] at hc
    | some l=>
     rw[he] at hc hty;simp only[Option.some.injEq,h_,decide_eq_true_eq] at hc hty;subst hc;obtain⟨⟨⟨S,hte⟩,kF⟩,Cb⟩:=hty;rcases DataW.trod_slice v ht with ⟨rfl,rfl⟩ | ⟨a,len,cap,c,J,n',rfl,rfl,rfl,_,K,EU,L,T,mH,nGM⟩
     ·refine⟨[.sl []],[], ?_,rfl,(ie S).symm,by simp[iF],by simp[vy,c3,zZ,Rows.uptoBulk],λ_=>by simp[cK,nn,DC.cG]⟩;simp only[bj,Z8];exact⟨_,_,_,_,_,rfl,rfl,⟨[],none,0,0,rfl,rfl,rfl,Nat.le_refl _,j0 _,.inl ⟨rfl,rfl⟩⟩,⟨rfl,rfl⟩,rfl⟩
     ·have M:∀i,i<len→∃y p,c[i]? =some y∧w.cells? 0 (a.add (i*P.cellsOf e)) (P.cellsOf e)=some p∧jR P w e l p y.1:=by
       intro i B;have h:=T i B;have U:i<c.length:=by omega
       rw[j4 U] at h;simp only[Option.bind_eq_some_iff] at h;obtain⟨p,D,htr⟩:=h;exact⟨c[i],p,j4 U,D,IH n n' e l p _ he hte htr⟩
      have nGf:∃(g:List (List DC)) (q:List (List Nat)),g.length=len∧q.length=len∧∀i r f,g[i]? =some r→q[i]? =some f→
        ∃y p,c[i]? =some y∧w.cells? 0 (a.add (i*P.cellsOf e)) (P.cellsOf e)=some p∧l.length=P.cellsOf e∧bj w l r (λj=>p[j]?) f∧vy r+1≤Rows.uptoBulk y.1∧
         ((DataW.weights P e y.1).all (· ≤reachBytes)=true→cK l r=true):=by
       clear T mH nGM ht L K EU
       induction len with
       | zero=>exact⟨[],[],rfl,rfl,λi r f h=>by simp at h⟩
       | succ m ihm=>
        obtain⟨g,q,N,E,F⟩:=ihm (λi B=>M i (by omega));obtain⟨y,p,O,D,V,fp,o1,o2,o3,o4,o5,o6⟩:=M m (by omega);refine⟨g++[V],q++[fp],by simp[N],by simp[E],λi r f o G=>?_⟩;by_cases B:i<m
        ·exact F i r f (by rwa[k6 (by omega)] at o) (by rwa[k6 (by omega)] at G)
        ·have cA:i<(g++[V]).length:=(j5.1 o).1;simp only[List.length_append,iA,List.length_nil] at cA;have kh:i=m:=by omega
         subst kh;rw[k7 (by omega),N] at o;rw[k7 (by omega),E] at G;simp only[Nat.sub_self,j1,Option.some.injEq] at o G;subst o;subst G;exact⟨y,p,O,D,o3,o1,o5,o6⟩
      obtain⟨g,q,N,E,F⟩:=nGf;have hl0:0<len→0<l.length∧l.length=P.cellsOf e∧a.spot=none∧a.block<w.heap.size:=by intro W;obtain⟨y,p,_,D,Q,jK,_⟩:=F 0 g[0] q[0] (by simp) (by simp);have hp:0<P.cellsOf e:=Nat.le_of_ble_eq_true kF;have hg:=nyf D;have C7:=hg.2 0 hp;rw[j4 (by omega)] at C7;have:=nch C7;simp only[Addr.add,Nat.zero_mul,if_true] at this;exact⟨by omega,Q,this.1,this.2⟩
      refine⟨[.sl g],if len=0 then [] else a.block::q.flatten, ?_,rfl,(ie S).symm,by simp[iF], ?_, ?_⟩
      ·simp only[bj,Z8];refine⟨_,_,_,if len=0 then [] else a.block::q.flatten,[],rfl,rfl,⟨g,some a,len,cap,rfl,rfl,N,K,EU, ?_⟩,⟨rfl,rfl⟩,by simp⟩;by_cases W:len=0
       ·exact .inl ⟨W,by simp[W]⟩
       ·obtain⟨p1,p2,X,p4⟩:=hl0 (by omega);refine .inr ⟨by omega,a.block,a.off,q, ?_,p4,E,by simp[W],λi r f o G=>?_⟩
        ·cases a;simp only at X;subst X;rfl
        ·obtain⟨y,p,_,D,Q,jK,_⟩:=F i r f o G;have hg:=nyf D;refine bj.congr jK (λj hj=>?_);rw[←hg.2 j (by omega)]
         congr 1
         cases a;simp only at X;subst X;simp only[Addr.add];rw[p2];split<;>split<;>simp_all<;>omega
      ·have:=nL5 (c.map (·.1)) g (by simp[N,L]) (λi d r hd Y=>by
        have B:i<q.length:=by have:=(j5.1 Y).1;omega
        obtain⟨y,p,O,_,_,_,hb,_⟩:=F i r q[i] Y (by simp[B]);simp only[List.getElem?_map,O,Option.map_some,Option.some.injEq] at hd;subst hd;exact hb)
       simp only[vy,c3,Rows.uptoBulk];omega
      ·intro z;simp only[DataW.weights,v,j2,i0,h_] at z;simp only[cK,nn,i5,DC.cG,j3,h_,List.all_eq_true];refine⟨decide_eq_true ?_,λr Y=>?_⟩
       ·have:g.length*nsP l≤(c.map (·.1)).length*P.bytesOf e:=Nat.mul_le_mul (by simp;omega) Cb;have h2:(c.map (·.1)).length*P.bytesOf e≤((c.map (·.1)).length+(J.map (·.1)).length)*P.bytesOf e:=Nat.mul_le_mul (by omega) (Nat.le_refl _);have h3:=of_decide_eq_true z.1;have h4:reachBytes=140737488351232:=rfl;omega
       ·obtain⟨i,B⟩:=kI Y;have U:i<q.length:=by have:=(j5.1 B).1;omega
        obtain⟨y,p,O,_,_,_,_,eE⟩:=F i r q[i] B (by simp[U]);exact eE (nhE (c.map (·.1)) e i y.1 z.2.1 (by simp[O]))
   | struct fs=>
    simp only at hc hty;obtain⟨xs,n',rfl,rfl,R,hxs,T⟩:=DataW.trod_struct v ht;obtain⟨V,fp,g1,g2,g3,g4,g5⟩:=nBe (λt bF I x S h2 h3=>IH n n' t bF I x S h2 h3) fs.toList xs bF 0 hty R (j0 _) hc (by simpa using hxs) (λi f E=>T i f (by simpa using E));refine⟨V,fp,by simpa using g1,by omega,by omega,by simpa using g3, ?_, ?_⟩
    ·simp only[Rows.uptoBulk];omega
    ·intro z;simp only[DataW.weights,v] at z;exact g5 z
   | _=>simp at hc
def OI(P:Program):List Zf→Option (List fG)
 | []=>some []
 | t::ts=>match W4 P 16 t,OI P ts with
  | some c,some l=>some (⟨c,fC P t⟩::l)
  | _,_=>none
def Bm(P:Program)(t:Zf):Bool:=match P.underlying t with | some (.array _ _)=>false | some _=>true | none=>false
theorem nkT{t:Zf}{v:Zg}{r:Reach}{base:Nat}(h:i3 P w r base t v)(d:Bm P t=true):bif fC P t then ∃f,v= .agg f else ∀c,v≠ .agg c:=by
 unfold i3 at h;unfold fC;unfold Bm at d;cases e:P.underlying t with
 | none=>simp[e] at d
 | some u=>
  rw[e] at h d;cases u with
  | struct fs=>
   obtain⟨f,rfl,_⟩:=h;exact⟨f,rfl⟩
  | array a b=>simp at d
  | _=>
   simp only[cond_false]
   rintro c rfl
   unfold Cell.okWide at h;rw[e] at h;simp[Cell.ok,e] at h
theorem nxI{base:Nat}{r:Reach} :∀(e:List Zf) (f:List fG) (g:List Zg) (h:List (DataW H)) (ps:List MemPlace),OI P e=some f→e.all (λt=>Xt P 16 t && Bm P t)=true→
  DataW.TrodAll enc P w 0 (λ_=>true) true e g h ps→(∀(j:Nat) t v,e[j]? =some t→g[j]? =some v→i3 P w r base t v)→
  ∃a n,Gs w f a g n∧vy a≤Rows.uptoBulkAll h∧((DataW.weightsEach P e h).all (· ≤reachBytes)=true→cK (SC f) a=true)
 | [],f,g,h,ps,hk,_,i,_=>by simp only[OI,Option.some.injEq] at hk;subst hk;obtain⟨rfl,rfl,_⟩:=trodAll_nil i;exact⟨[],[],⟨rfl,rfl,rfl⟩,by simp[vy],λ_=>by simp[SC,cK]⟩
 | t::e,f,g,h,ps,hk,o,i,hv=>by
  simp only[OI] at hk;split at hk
  case h_2=>cases hk
  rename_i c l F G;simp only[Option.some.injEq] at hk;subst hk;simp only[j2,h_] at o;obtain⟨⟨u,x⟩,o⟩:=o;obtain⟨v,B,d,I,p,q,rfl,rfl,rfl,y,J⟩:=trodAll_cons i;obtain⟨a,n,K,Q,L⟩:=nxI e l B I q G (by simpa using o) J (λj t v i hv'=>hv (j+1) t v (by simpa using i) (by simpa using hv'));obtain⟨k,y⟩:=y;obtain⟨b,C,D,M,R,z,N,O⟩:=IH 16 k t c _ _ F u y;have s:=nkT (hv 0 t v rfl rfl) x;have m:b.length=c.length:=bj.length _ _ _ _ D;refine⟨b++a,C++n,⟨b,a,v,B,C,n,rfl,rfl,⟨v.cells.toList, ?_,z,D,M⟩,K,rfl⟩, ?_, ?_⟩
  ·cases E:fC P t with
   | true=>
    rw[E] at s;obtain⟨S,rfl⟩:=s;simp[Value.cells]
   | false=>
    rw[E] at s;have:v.cells= #[v]:=by
     cases v<;>first | rfl | exact absurd rfl (s _)
    simp only[cond_false];rw[this] at z ⊢;exact⟨rfl,z v (by simp)⟩
  ·rw[nlW];simp only[Rows.uptoBulkAll];simp only at N;omega
  ·intro A;simp only[DataW.weightsEach,i0,h_] at A;show cK (c++SC l) (b++a)=true;rw[ZM m,h_];exact⟨O A.1,L A.2⟩
theorem nCR{f:Nat}{fn:Func}{s:C}{sp:ChangeSpec}{W:World}{base:Nat}{a:Array Zg}{i gs:List (DataW H)}{g:List MemPlace}{t4:Zf}{r:Reach}{n:List fG}
  (G:laidOutB P=true) (I:Np P f s) (o:OI P fn.params.toList=some n) (u:s.ps=n) (J:s.rs=[⟨[.eV .bool],false⟩]) (K:fn.params.toList.all (λt=>Xt P 16 t && Bm P t)=true)
  (L:sp.vars=[]) (w:∀t∈fn.params.toList,P.readableRec t=true∧t<P.types.size) (x:fn.resultTypes= #[t4]) (M:P.underlying t4=some .bool)
  (l:∀(j:Nat) t v,fn.params[j]? =some t→a[j]? =some v→i3 P W r base t v)
  (A:DataW.Whole enc P fn.params.toList sp.vars false W a.toList i gs g)
  (N:(sp.fn H i).results=[.lit (.bool true)]) (O:(sp.fn H i).args=i) (y:(sp.fn H i).vars=[])
  (Q:∀c,vy c≤Rows.uptoBulkAll i→((DataW.weightsEach P fn.params.toList i).all (· ≤reachBytes)=true→cK (SC s.ps) c=true)→s.fn c=(true,[.bool true])):
  Calls P f a W λe B=>∃v,e= .returned v∧sp.post enc P fn false true false false W a v B:=by
 have hW':=A;obtain⟨p,q,R,_,_,_,_⟩:=A;obtain⟨c,S,T,U,V⟩:=nxI (r:=r) (base:=base) fn.params.toList n a.toList i p o K R (λj t v X hv'=>l j t v (by simpa using X) (by simpa using hv'));subst u;have acU:=Q c U V;have D:=I.2 W c a.toList S T (by rw[acU]);rw[show a.toList.toArray=a by simp] at D;refine D.mono λe B Y=>?_;obtain⟨vs,φ,im,tp,rfl,m,z,_⟩:=Y;rw[acU,J] at z;simp only[tU,eX,Z8] at z;obtain⟨d1,d2,v,c9,us,ER,Ca,i1,i2,t1,t2,E,rfl,F,_,⟨d,bf,v',Z,f1,F1,rfl,rfl,⟨b,rfl,rfl,_⟩,⟨rfl,rfl,_⟩,_⟩,⟨rfl,rfl,_⟩,_⟩:=z;simp only[cond_false,List.cons.injEq,and_true] at F;subst F;simp only[List.append_nil,List.cons.injEq,DC.bool.injEq,and_true] at E;subst E;refine⟨_,rfl,Law.nDK G L w x M hW' N O y ⟨m.os,m.tape,m.output,m.size,λk Cw=>m.block k Cw (λh=>h.elim)⟩⟩
end
end Go.Proofs.YteffpikahopfoaaGreat.Br
