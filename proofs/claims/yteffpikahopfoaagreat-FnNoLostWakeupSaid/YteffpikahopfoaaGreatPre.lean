/- Conditions: as each says. -/
import Derived.Test.YteffpikahopfoaaGreatVd
set_option linter.unusedVariables false
namespace Go.Proofs.YteffpikahopfoaaGreat.Pl
open Vm
abbrev _root_.Go.Proofs.YteffpikahopfoaaGreat.Vm.CT.i:CT:= .int .i64
theorem a0{P:Program}{Γ:Ctx}{A:List (Nat×YJ)}(c:qk P Γ){g:Nat}{fn:Func}{s:C}(d:P.funcs[g]? =some fn)
  (h:∀b,Q (SC s.ps) b→(s.fn b).1=true→∃N,dM P Γ A N fn s b=(true,(s.fn b).2))
  (a:(fn.body.isSome && (!(fn.name== "runtime.NumGoroutine") && (decide (s.ps.length≤fn.ntmps) && decide (fn.ntmps<1099511627776))))=true:=by kernel_rfl) (e:s.pt=none:=by rfl):Np P g s:=by
 simp only[Bl,Bool.not_eq_true',js] at a;exact nif (A:=A) c d a.1 a.2.1 a.2.2.1 a.2.2.2 h e
theorem R3{P:Program}{Γ:Ctx}(b:qk P Γ){g:Nat}{fn:Func}{s:C}(c:P.funcs[g]? =some fn)
  (h:∀a,Q (SC s.ps) a→(s.fn a).1=true→∃N,dM P Γ [] N fn s a=(true,(s.fn a).2))
  (d:(fn.body.isSome && (!(fn.name== "runtime.NumGoroutine") && (decide (s.ps.length≤fn.ntmps) && decide (fn.ntmps<1099511627776))))=true:=by kernel_rfl) (e:s.pt=none:=by rfl):Np P g s:=a0 (A:=[]) b c h d e
theorem aq{P:Program}{Γ:Ctx}{A:List (Nat×YJ)}(c:qk P Γ){g:Nat}{fn:Func}{s:C}(d:P.funcs[g]? =some fn)
  (h:∀a,Q (SC s.ps) a→(s.fn a).1=true→∃N,P7 P Γ A N fn s a=(true,(s.fn a).2))
  (b:(fn.body.isSome && (!(fn.name== "runtime.NumGoroutine") && (decide (s.ps.length≤fn.ntmps) && (decide (fn.ntmps<1099511627776) && !(shares s)))))=true:=by kernel_rfl)
  (e:∀a,C2 ((yI 0 s.ps s.ms a).2.map (·.1))=true:=by intro a;kernel_rfl):fh P g s:=by
 simp only[Bl,Bool.not_eq_true',js] at b;exact nxx (A:=A) c d b.1 b.2.1 b.2.2.1 b.2.2.2.1 b.2.2.2.2 e h
theorem nz8{P:Program}{g:Nat}{s c d:C}(e:Np P g c)(j:Np P g d)(k:c.ps=s.ps)(l:c.rs=s.rs)(m:d.ps=s.ps)(n:d.rs=s.rs)
  (o:∀a,(c.fn a).2=(s.fn a).2) (p:∀a,(d.fn a).2=(s.fn a).2) (q:∀a,(s.fn a).1=true→(c.fn a).1=true∨(d.fn a).1=true):Np P g s:=by
 refine⟨e.1,λw a b f i r=>?_⟩;rcases q a r with h | h
 ·have:=e.2 w a b f (by rw[k];exact i) h;rwa[o,l] at this
 ·have:=j.2 w a b f (by rw[m];exact i) h;rwa[p,n] at this
theorem nmz{a c:Bool}(h:a=true):(a && c)=true∨(a && !c)=true:=by subst h;cases c<;>simp
theorem Xy{α:Type}{x b y z:α}(h:b=y)(a:x=b:=by kernel_rfl)(c:y=z:=by kernel_rfl):x=z:=a.trans (h.trans c)
theorem BV{α σ:Type}{x y z:α}{l a:σ}(f:σ→α)(b:l=a)(h:f a=y)(c:x=f l:=by kernel_rfl)(d:y=z:=by kernel_rfl):x=z:=c.trans ((congrArg f b).trans (h.trans d))
theorem Cj{a:Type}(Z:(E→B)→E→B)(m:a→E)(l:(a→B)→a→B)(k:Nat)(h:∀c b,Z c (m b)=l (λb=>c (m b)) b:=by intros;kernel_rfl):(λb=>VB Z k (m b))=Nat.rec (motive:=λ_=>a→B) (λ_=>Vm.lf) (λ_ c=>l c) k:=by
 induction k with
 | zero=>rfl
 | succ k c=>exact funext λb=>(h _ b).trans (congrArg (λf=>l f b) c)
theorem rm{a b:Type}(Z:(E→B)→E→B)(m:a→b→E)(l:(a→b→B)→a→b→B)(k:Nat)(h:∀e c d,Z e (m c d)=l (λc d=>e (m c d)) c d:=by intros;kernel_rfl):(λc d=>VB Z k (m c d))=Nat.rec (motive:=λ_=>a→b→B) (λ_ _=>Vm.lf) (λ_ e=>l e) k:=by
 induction k with
 | zero=>rfl
 | succ k e=>exact funext λc=>funext λd=>(h _ c d).trans (congrArg (λf=>l f c d) e)
theorem QS{a b c:Type}(Z:(E→B)→E→B)(m:a→b→c→E)(l:(a→b→c→B)→a→b→c→B)(k:Nat)(h:∀i d e g,Z i (m d e g)=l (λd e g=>i (m d e g)) d e g:=by intros;kernel_rfl):(λd e g=>VB Z k (m d e g))=Nat.rec (motive:=λ_=>a→b→c→B) (λ_ _ _=>Vm.lf) (λ_ i=>l i) k:=by
 induction k with
 | zero=>rfl
 | succ k i=>exact funext λd=>funext λe=>funext λg=>(h _ d e g).trans (congrArg (λf=>l f d e g) i)
theorem nl3{a b c d:Type}(Z:(E→B)→E→B)(m:a→b→c→d→E)(l:(a→b→c→d→B)→a→b→c→d→B)(k:Nat)(h:∀n e g i j,Z n (m e g i j)=l (λe g i j=>n (m e g i j)) e g i j:=by intros;kernel_rfl):(λe g i j=>VB Z k (m e g i j))=Nat.rec (motive:=λ_=>a→b→c→d→B) (λ_ _ _ _=>Vm.lf) (λ_ n=>l n) k:=by
 induction k with
 | zero=>rfl
 | succ k n=>exact funext λe=>funext λg=>funext λi=>funext λj=>(h _ e g i j).trans (congrArg (λf=>l f e g i j) n)
theorem WK{a b c d e:Type}(Z:(E→B)→E→B)(m:a→b→c→d→e→E)(l:(a→b→c→d→e→B)→a→b→c→d→e→B)(k:Nat)(h:∀p g i j n o,Z p (m g i j n o)=l (λg i j n o=>p (m g i j n o)) g i j n o:=by intros;kernel_rfl):(λg i j n o=>VB Z k (m g i j n o))=Nat.rec (motive:=λ_=>a→b→c→d→e→B) (λ_ _ _ _ _=>Vm.lf) (λ_ p=>l p) k:=by
 induction k with
 | zero=>rfl
 | succ k p=>exact funext λg=>funext λi=>funext λj=>funext λn=>funext λo=>(h _ g i j n o).trans (congrArg (λf=>l f g i j n o) p)
theorem nf6{a b c d e g:Type}(Z:(E→B)→E→B)(m:a→b→c→d→e→g→E)(l:(a→b→c→d→e→g→B)→a→b→c→d→e→g→B)(k:Nat)(h:∀r i j n o p q,Z r (m i j n o p q)=l (λi j n o p q=>r (m i j n o p q)) i j n o p q:=by intros;kernel_rfl):(λi j n o p q=>VB Z k (m i j n o p q))=Nat.rec (motive:=λ_=>a→b→c→d→e→g→B) (λ_ _ _ _ _ _=>Vm.lf) (λ_ r=>l r) k:=by
 induction k with
 | zero=>rfl
 | succ k r=>exact funext λi=>funext λj=>funext λn=>funext λo=>funext λp=>funext λq=>(h _ i j n o p q).trans (congrArg (λf=>l f i j n o p q) r)
theorem dW{a b c d e g i:Type}(Z:(E→B)→E→B)(m:a→b→c→d→e→g→i→E)(l:(a→b→c→d→e→g→i→B)→a→b→c→d→e→g→i→B)(k:Nat)(h:∀t j n o p q r s,Z t (m j n o p q r s)=l (λj n o p q r s=>t (m j n o p q r s)) j n o p q r s:=by intros;kernel_rfl):(λj n o p q r s=>VB Z k (m j n o p q r s))=Nat.rec (motive:=λ_=>a→b→c→d→e→g→i→B) (λ_ _ _ _ _ _ _=>Vm.lf) (λ_ t=>l t) k:=by
 induction k with
 | zero=>rfl
 | succ k t=>exact funext λj=>funext λn=>funext λo=>funext λp=>funext λq=>funext λr=>funext λs=>(h _ j n o p q r s).trans (congrArg (λf=>l f j n o p q r s) t)
theorem ntn{a b c d e g i j n:Type}(Z:(E→B)→E→B)(m:a→b→c→d→e→g→i→j→n→E)(l:(a→b→c→d→e→g→i→j→n→B)→a→b→c→d→e→g→i→j→n→B)(k:Nat)(h:∀x o p q r s t u v w,Z x (m o p q r s t u v w)=l (λo p q r s t u v w=>x (m o p q r s t u v w)) o p q r s t u v w:=by intros;kernel_rfl):(λo p q r s t u v w=>VB Z k (m o p q r s t u v w))=Nat.rec (motive:=λ_=>a→b→c→d→e→g→i→j→n→B) (λ_ _ _ _ _ _ _ _ _=>Vm.lf) (λ_ x=>l x) k:=by
 induction k with
 | zero=>rfl
 | succ k x=>exact funext λo=>funext λp=>funext λq=>funext λr=>funext λs=>funext λt=>funext λu=>funext λv=>funext λw=>(h _ o p q r s t u v w).trans (congrArg (λf=>l f o p q r s t u v w) x)
noncomputable def shut{α:Type}(a:α):α:=Classical.choose (⟨a,rfl⟩:∃x,x=a)
theorem L3{α:Type}(a:α):shut a=a:=Classical.choose_spec (⟨a,rfl⟩:∃x,x=a)
abbrev x:=List UInt8
abbrev u:=List (List DC)
def s(x:Int):Int:=IntKind.wrap .i64 x
def r(Z:List DC)(k:Nat):Int:=(Z.getD k default).asInt
def Dd(r:List DC)(k:Nat):Bool:=(r.getD k default).asBool
def Gi(r:List DC)(k:Nat):x:=(r.getD k default).Hm
def df(r:List DC)(k:Nat):u:=(r.getD k default).cG
def q(r:u)(n:Nat):List DC:=r.getD n []
def len{α:Type}(l:List α):Int:=(l.length:Int)
def A{α:Type}(n:Int)(l:List α):Bool:=decide (0≤n) && decide (n<l.length)
def inl{α:Type}(n:Nat)(l:List α):Bool:=decide (n<l.length)
def bZ{α:Type}(l:List α)(a:Int):List α:=(l.take l.length).drop a.toNat
def C1{α:Type}(l:List α)(b:Int):List α:=(l.take b.toNat).drop 0
def Q3{α:Type}(l:List α)(a b:Int):List α:=(l.take b.toNat).drop a.toNat
def nz{α:Type}(l:List α)(a:Int):Bool:=decide (0≤a) && decide (a≤l.length)
def az{α:Type}(l:List α)(b:Int):Bool:=decide (0≤b) && decide (b≤l.length)
def GK{α:Type}(l:List α)(a b:Int):Bool:=decide (0≤a) && decide (a≤b) && decide (b≤l.length)
def Em(z:Nat)(r q:u):Bool:=decide ((r.length+q.length)*z≤140737488355328) && decide (r.length+q.length≤9223372036854775807)
def kZ(z:Nat)(n m:Int):Bool:=decide (0≤n) && decide (n≤m) && decide (m.toNat*z≤140737488355328) && decide (m≤9223372036854775807)
def EI(a b:x):Bool:=decide (a.length+b.length≤9223372036854775807)
def A2(s:x)(n:Int):Int:=((s.getD n.toNat 0).toNat:Int)
def toStr(r:u):x:=r.map Vm.byteOf
def ofStr(s:x):u:=s.map Vm.dc
def nlB(s:x)(r:u)(a:Nat):Int:=((min s.length (r.length - a):Nat):Int)
def MU(s:x)(r:u)(a:Nat):u:=r.take a++(ofStr (s.take (r.length - a))++r.drop (a+min s.length (r.length - a)))
def DB(a b:Int):Int:=if b<a then b else a
def PJ(k:IntKind)(a b:Int):Int:=k.wrap (a*2 ^ (min b.toNat k.bits))
def I4(k:IntKind)(a b:Int):Int:=a.fdiv (2 ^ (min b.toNat k.bits))
mutual
def c3:DC→Nat
 | .int _=>0
 | .bool _=>0
 | .str s=>s.length
 | .sl rows=>rows.length+zZ rows
def vy:List DC→Nat
 | []=>0
 | d::l=>c3 d+vy l
def zZ:List (List DC)→Nat
 | []=>0
 | r::l=>vy r+zZ l
end
def nlk:CT→Nat
 | .int k=>match k with | .i64=>8 | .u64=>8 | .i32=>4 | .u32=>4 | .i16=>2 | .u16=>2 | .i8=>1 | .u8=>1
 | .bool=>1
 | .str=>16
 | .sl _=>24
def PB:List CT→Nat
 | []=>0
 | c::l=>nlk c+PB l
def nsP(l:List CT):Nat:=cond (l.any (λc=>Nat.ble 8 (nlk c))) ((PB l+7) / 8*8) (PB l)
mutual
def nn:CT→DC→Bool
 | .int _,_=>true
 | .bool,_=>true
 | .str,d=>decide (d.Hm.length≤140737488351232)
 | .sl e,d=>decide (d.cG.length*nsP e≤140737488351232) && d.cG.all (λr=>cK e r)
def cK:List CT→List DC→Bool
 | [],_=>true
 | c::cs,l=>nn c (l.headD default) && cK cs l.tail
end
theorem Q_{k:IntKind}{r:List CT}{a:List DC}(h:Q (.int k::r) a):∃(n:Int) (b:List DC),a= .int n::b∧IJ (.int k) (.int n)∧Q r b:=by simp only[Q] at h;obtain⟨d,e,rfl,c,f⟩:=h;have h1':=c;simp only[IJ] at h1';obtain⟨n,rfl,_⟩:=h1';exact⟨n,e,rfl,c,f⟩
theorem tW{r:List CT}{a:List DC}(h:Q (.bool::r) a):∃(n:Bool) (b:List DC),a= .bool n::b∧IJ .bool (.bool n)∧Q r b:=by simp only[Q] at h;obtain⟨d,e,rfl,c,f⟩:=h;have h1':=c;simp only[IJ] at h1';obtain⟨n,rfl⟩:=h1';exact⟨n,e,rfl,c,f⟩
theorem cO{r:List CT}{a:List DC}(h:Q (.str::r) a):∃(n:x) (b:List DC),a= .str n::b∧IJ .str (.str n)∧Q r b:=by simp only[Q] at h;obtain⟨d,e,rfl,c,f⟩:=h;have h1':=c;simp only[IJ] at h1';obtain⟨n,rfl,_⟩:=h1';exact⟨n,e,rfl,c,f⟩
theorem Tf{e:List CT}{r:List CT}{a:List DC}(h:Q (.sl e::r) a):∃(n:u) (b:List DC),a= .sl n::b∧IJ (.sl e) (.sl n)∧Q r b:=by simp only[Q] at h;obtain⟨d,f,rfl,c,g⟩:=h;have h1':=c;simp only[IJ] at h1';obtain⟨n,rfl,_⟩:=h1';exact⟨n,f,rfl,c,g⟩
def Part{α β:Type}(lf:α)(K:β→α)(x:α)(o:Bool)(v:Option β):Prop:=(o=true→∃b,v=some b∧x=K b)
theorem nlp{α β:Type}{lf:α}{K:β→α}{b:β} :Part lf K (K b) true (some b):=λ_=>⟨b,rfl,rfl⟩
theorem Ro{α β:Type}{lf:α}{K:β→α}{c o:Bool}{x:α}{v:Option β}(h:Part lf K x o v):Part lf K (cond c x lf) (cond c o false) (cond c v none):=by
 cases c
 ·intro h;cases h
 ·exact h
theorem nd3{α β:Type}{lf:α}{K:β→α}{c a b:Bool}{x y:α}{v1 d:Option β}(e:Part lf K x a v1)(f:Part lf K y b d):
  Part lf K (cond c x y) (cond c a b) (cond c v1 d):=by
 cases c
 ·exact f
 ·exact e
theorem A0{α β:Type}{lf:α}{K:β→α}{x:α}{o:Bool}{v:Option β}{d:β}(h:Part lf K x o v)(a:o=true):x=K (v.getD d):=by obtain⟨b,rfl,c⟩:=h a;exact c
theorem SK{c:CT}{a:List CT}{d:DC}{r:List DC}(b:IJ c d)(e:Q a r):Q (c::a) (d::r):=by simp only[Q];exact⟨d,r,rfl,b,e⟩
theorem npT:Q [] []:=by simp only[Q]
theorem fi{a:List DC}(h:Q [] a):a=[]:=by simpa only[Q] using h
theorem Ap{k:IntKind}{a:List DC}(h:Q [.int k] a):∃n:Int,a=[.int n]∧IJ (.int k) (.int n):=by obtain⟨n,d,rfl,b,c⟩:=Q_ h;obtain rfl:=fi c;exact⟨n,rfl,b⟩
theorem Vv{a:List DC}(h:Q [.bool] a):∃n:Bool,a=[.bool n]∧IJ .bool (.bool n):=by obtain⟨n,d,rfl,b,c⟩:=tW h;obtain rfl:=fi c;exact⟨n,rfl,b⟩
theorem Sd{a:List DC}(h:Q [.str] a):∃n:x,a=[.str n]∧IJ .str (.str n):=by obtain⟨n,d,rfl,b,c⟩:=cO h;obtain rfl:=fi c;exact⟨n,rfl,b⟩
theorem nh{e:List CT}{a:List DC}(h:Q [.sl e] a):∃n:u,a=[.sl n]∧IJ (.sl e) (.sl n):=by obtain⟨n,d,rfl,b,c⟩:=Tf h;obtain rfl:=fi c;exact⟨n,rfl,b⟩
theorem SU:∀ {f g:List CT} {a:List DC},Q (f++g) a→∃b e,a=b++e∧Q f b∧Q g e
 | [],_,a,h=>⟨[],a,rfl,npT,h⟩
 | c::f,g,a,h=>by simp only[List.cons_append,Q] at h;obtain⟨d,r,rfl,i,j⟩:=h;obtain⟨b,e,rfl,k,l⟩:=SU j;exact⟨d::b,e,rfl,SK i k,l⟩
theorem VM:∀ {a:List CT} {b:List DC} (i:Nat) {c:CT} {d:DC},Q a b→a[i]? =some c→b[i]? =some d→IJ c d
 | [],_,i,_,_,_,hc,_=>by simp at hc
 | c::a,b,0,x,d,h,hc,hd=>by simp only[Q] at h;obtain⟨e,r,rfl,f,g⟩:=h;simp only[List.getElem?_cons_zero,Y] at hc hd;subst hc hd;exact f
 | c::a,b,i+1,x,d,h,hc,hd=>by simp only[Q] at h;obtain⟨e,r,rfl,f,g⟩:=h;exact VM i g (by simpa using hc) (by simpa using hd)
theorem ngU:∀ {b:List CT} {a:List DC} (i:Nat),Q b a→Q (b.drop i) (a.drop i)
 | b,a,0,h=>h
 | [],a,i+1,h=>by have:=fi h;subst this;exact h
 | c::b,a,i+1,h=>by simp only[Q] at h;obtain⟨e,r,rfl,f,d⟩:=h;exact ngU i d
theorem nfp:∀ {b:List CT} {a:List DC} (i:Nat),Q b a→Q (b.take i) (a.take i)
 | b,a,0,h=>npT
 | [],a,i+1,h=>by have:=fi h;subst this;exact h
 | c::b,a,i+1,h=>by simp only[Q] at h;obtain⟨e,r,rfl,d,f⟩:=h;exact SK d (nfp i f)
theorem gj{a:List CT}{b:List DC}(i m:Nat)(h:Q a b):Q ((a.drop i).take m) ((b.drop i).take m):=nfp m (ngU i h)
def nxT:CT→DC→DC
 | .int _,d=> .int d.asInt
 | .bool,d=> .bool d.asBool
 | .str,d=> .str d.Hm
 | .sl _,d=> .sl d.cG
def Sy:List CT→List DC→Nat→List DC
 | [],_,_=>[]
 | c::cs,r,k=>nxT c (r.getD k default)::Sy cs r (k+1)
theorem nwZ{c:CT}{d:DC}(h:IJ c d):nxT c d=d:=by
 cases c<;>simp only[IJ] at h
 ·obtain⟨x,rfl,_⟩:=h;rfl
 ·obtain⟨x,rfl⟩:=h;rfl
 ·obtain⟨x,rfl,_⟩:=h;rfl
 ·obtain⟨x,rfl,_⟩:=h;rfl
theorem nmG:∀ {a:List CT} {r p:List DC},Q a r→Sy a (p++r) p.length=r
 | [],r,p,h=>(fi h).symm ▸ rfl
 | c::a,r,p,h=>by
  simp only[Q] at h;obtain⟨e,r,rfl,d,f⟩:=h;have g:(p++e::r).getD p.length default=e:=by simp
  have b:=nmG (p:=p++[e]) f;simp only[List.append_assoc,List.cons_append,List.nil_append,fK,I_,List.length_nil] at b;simp only[Sy,g,nwZ d];exact congrArg (e:: ·) b
theorem Qz{a:List CT}{r:List DC}(h:Q a r):Sy a r 0=r:=nmG (p:=[]) h
end Go.Proofs.YteffpikahopfoaaGreat.Pl
