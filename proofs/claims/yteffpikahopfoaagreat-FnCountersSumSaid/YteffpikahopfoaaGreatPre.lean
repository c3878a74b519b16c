/- Plain words for what the machine computes. Conditions: none; these are definitions. -/
import Derived.Test.YteffpikahopfoaaGreatVd
set_option linter.unusedVariables false
namespace Go.Proofs.YteffpikahopfoaaGreat.Pl
open Vm
abbrev _root_.Go.Proofs.YteffpikahopfoaaGreat.Vm.CT.i:CT:= .int .i64
theorem lH{P:Program}{Γ:Ctx}{A:List (Nat×iT)}(c:Wq P Γ){g:Nat}{fn:Func}{s:Sum}(d:P.funcs[g]? =some fn)
  (h:∀b,i_ (Uc s.ps) b→(s.fn b).1=true→∃N,Xe P Γ A N fn s b=(true,(s.fn b).2))
  (a:(fn.body.isSome && (!(fn.name== "runtime.NumGoroutine") && (decide (s.ps.length≤fn.ntmps) && decide (fn.ntmps<1099511627776))))=true:=by kernel_rfl) (e:s.pt=none:=by rfl):gk P g s:=by
 simp only[gF,Bool.not_eq_true',kQ] at a;exact nkm (A:=A) c d a.1 a.2.1 a.2.2.1 a.2.2.2 h e
theorem ly{P:Program}{Γ:Ctx}(b:Wq P Γ){g:Nat}{fn:Func}{s:Sum}(c:P.funcs[g]? =some fn)
  (h:∀a,i_ (Uc s.ps) a→(s.fn a).1=true→∃N,Xe P Γ [] N fn s a=(true,(s.fn a).2))
  (d:(fn.body.isSome && (!(fn.name== "runtime.NumGoroutine") && (decide (s.ps.length≤fn.ntmps) && decide (fn.ntmps<1099511627776))))=true:=by kernel_rfl) (e:s.pt=none:=by rfl):gk P g s:=lH (A:=[]) b c h d e
theorem RE{P:Program}{Γ:Ctx}{A:List (Nat×iT)}(c:Wq P Γ){g:Nat}{fn:Func}{s:Sum}(d:P.funcs[g]? =some fn)
  (h:∀a,i_ (Uc s.ps) a→(s.fn a).1=true→∃N,Nu P Γ A N fn s a=(true,(s.fn a).2))
  (b:(fn.body.isSome && (!(fn.name== "runtime.NumGoroutine") && (decide (s.ps.length≤fn.ntmps) && (decide (fn.ntmps<1099511627776) && !(shares s)))))=true:=by kernel_rfl)
  (e:∀a,zS ((QM 0 s.ps s.ms a).2.map (·.1))=true:=by intro a;kernel_rfl):UY P g s:=by
 simp only[gF,Bool.not_eq_true',kQ] at b;exact nwI (A:=A) c d b.1 b.2.1 b.2.2.1 b.2.2.2.1 b.2.2.2.2 e h
theorem nhR{P:Program}{g:Nat}{s c d:Sum}(e:gk P g c)(j:gk P g d)(k:c.ps=s.ps)(l:c.rs=s.rs)(m:d.ps=s.ps)(n:d.rs=s.rs)
  (o:∀a,(c.fn a).2=(s.fn a).2) (p:∀a,(d.fn a).2=(s.fn a).2) (q:∀a,(s.fn a).1=true→(c.fn a).1=true∨(d.fn a).1=true):gk P g s:=by
 refine⟨e.1,λw a b f i r=>?_⟩;rcases q a r with h | h
 ·have:=e.2 w a b f (by rw[k];exact i) h;rwa[o,l] at this
 ·have:=j.2 w a b f (by rw[m];exact i) h;rwa[p,n] at this
theorem nbK{a c:Bool}(h:a=true):(a && c)=true∨(a && !c)=true:=by subst h;cases c<;>simp
theorem BL{α:Type}{x b y z:α}(h:b=y)(a:x=b:=by kernel_rfl)(c:y=z:=by kernel_rfl):x=z:=a.trans (h.trans c)
theorem TX{α σ:Type}{x y z:α}{l a:σ}(f:σ→α)(b:l=a)(h:f a=y)(c:x=f l:=by kernel_rfl)(d:y=z:=by kernel_rfl):x=z:=c.trans ((congrArg f b).trans (h.trans d))
theorem z_{a:Type}(B:(CO→zW)→CO→zW)(m:a→CO)(l:(a→zW)→a→zW)(k:Nat)(h:∀c b,B c (m b)=l (λb=>c (m b)) b:=by intros;kernel_rfl):(λb=>Vd B k (m b))=Nat.rec (motive:=λ_=>a→zW) (λ_=>Vm.kW) (λ_ c=>l c) k:=by
 induction k with
 | zero=>rfl
 | succ k c=>exact funext λb=>(h _ b).trans (congrArg (λf=>l f b) c)
theorem vI{a b:Type}(B:(CO→zW)→CO→zW)(m:a→b→CO)(l:(a→b→zW)→a→b→zW)(k:Nat)(h:∀e c d,B e (m c d)=l (λc d=>e (m c d)) c d:=by intros;kernel_rfl):(λc d=>Vd B k (m c d))=Nat.rec (motive:=λ_=>a→b→zW) (λ_ _=>Vm.kW) (λ_ e=>l e) k:=by
 induction k with
 | zero=>rfl
 | succ k e=>exact funext λc=>funext λd=>(h _ c d).trans (congrArg (λf=>l f c d) e)
theorem W7{a b c:Type}(B:(CO→zW)→CO→zW)(m:a→b→c→CO)(l:(a→b→c→zW)→a→b→c→zW)(k:Nat)(h:∀i d e g,B i (m d e g)=l (λd e g=>i (m d e g)) d e g:=by intros;kernel_rfl):(λd e g=>Vd B k (m d e g))=Nat.rec (motive:=λ_=>a→b→c→zW) (λ_ _ _=>Vm.kW) (λ_ i=>l i) k:=by
 induction k with
 | zero=>rfl
 | succ k i=>exact funext λd=>funext λe=>funext λg=>(h _ d e g).trans (congrArg (λf=>l f d e g) i)
theorem ntI{a b c d:Type}(B:(CO→zW)→CO→zW)(m:a→b→c→d→CO)(l:(a→b→c→d→zW)→a→b→c→d→zW)(k:Nat)(h:∀n e g i j,B n (m e g i j)=l (λe g i j=>n (m e g i j)) e g i j:=by intros;kernel_rfl):(λe g i j=>Vd B k (m e g i j))=Nat.rec (motive:=λ_=>a→b→c→d→zW) (λ_ _ _ _=>Vm.kW) (λ_ n=>l n) k:=by
 induction k with
 | zero=>rfl
 | succ k n=>exact funext λe=>funext λg=>funext λi=>funext λj=>(h _ e g i j).trans (congrArg (λf=>l f e g i j) n)
theorem wF{a b c d e:Type}(B:(CO→zW)→CO→zW)(m:a→b→c→d→e→CO)(l:(a→b→c→d→e→zW)→a→b→c→d→e→zW)(k:Nat)(h:∀p g i j n o,B p (m g i j n o)=l (λg i j n o=>p (m g i j n o)) g i j n o:=by intros;kernel_rfl):(λg i j n o=>Vd B k (m g i j n o))=Nat.rec (motive:=λ_=>a→b→c→d→e→zW) (λ_ _ _ _ _=>Vm.kW) (λ_ p=>l p) k:=by
 induction k with
 | zero=>rfl
 | succ k p=>exact funext λg=>funext λi=>funext λj=>funext λn=>funext λo=>(h _ g i j n o).trans (congrArg (λf=>l f g i j n o) p)
theorem nb6{a b c d e g:Type}(B:(CO→zW)→CO→zW)(m:a→b→c→d→e→g→CO)(l:(a→b→c→d→e→g→zW)→a→b→c→d→e→g→zW)(k:Nat)(h:∀r i j n o p q,B r (m i j n o p q)=l (λi j n o p q=>r (m i j n o p q)) i j n o p q:=by intros;kernel_rfl):(λi j n o p q=>Vd B k (m i j n o p q))=Nat.rec (motive:=λ_=>a→b→c→d→e→g→zW) (λ_ _ _ _ _ _=>Vm.kW) (λ_ r=>l r) k:=by
 induction k with
 | zero=>rfl
 | succ k r=>exact funext λi=>funext λj=>funext λn=>funext λo=>funext λp=>funext λq=>(h _ i j n o p q).trans (congrArg (λf=>l f i j n o p q) r)
theorem Ao{a b c d e g i:Type}(B:(CO→zW)→CO→zW)(m:a→b→c→d→e→g→i→CO)(l:(a→b→c→d→e→g→i→zW)→a→b→c→d→e→g→i→zW)(k:Nat)(h:∀t j n o p q r s,B t (m j n o p q r s)=l (λj n o p q r s=>t (m j n o p q r s)) j n o p q r s:=by intros;kernel_rfl):(λj n o p q r s=>Vd B k (m j n o p q r s))=Nat.rec (motive:=λ_=>a→b→c→d→e→g→i→zW) (λ_ _ _ _ _ _ _=>Vm.kW) (λ_ t=>l t) k:=by
 induction k with
 | zero=>rfl
 | succ k t=>exact funext λj=>funext λn=>funext λo=>funext λp=>funext λq=>funext λr=>funext λs=>(h _ j n o p q r s).trans (congrArg (λf=>l f j n o p q r s) t)
theorem nCL{a b c d e g i j n:Type}(B:(CO→zW)→CO→zW)(m:a→b→c→d→e→g→i→j→n→CO)(l:(a→b→c→d→e→g→i→j→n→zW)→a→b→c→d→e→g→i→j→n→zW)(k:Nat)(h:∀x o p q r s t u v w,B x (m o p q r s t u v w)=l (λo p q r s t u v w=>x (m o p q r s t u v w)) o p q r s t u v w:=by intros;kernel_rfl):(λo p q r s t u v w=>Vd B k (m o p q r s t u v w))=Nat.rec (motive:=λ_=>a→b→c→d→e→g→i→j→n→zW) (λ_ _ _ _ _ _ _ _ _=>Vm.kW) (λ_ x=>l x) k:=by
 induction k with
 | zero=>rfl
 | succ k x=>exact funext λo=>funext λp=>funext λq=>funext λr=>funext λs=>funext λt=>funext λu=>funext λv=>funext λw=>(h _ o p q r s t u v w).trans (congrArg (λf=>l f o p q r s t u v w) x)
noncomputable def shut{α:Type}(a:α):α:=Classical.choose (⟨a,rfl⟩:∃x,x=a)
theorem pH{α:Type}(a:α):shut a=a:=Classical.choose_spec (⟨a,rfl⟩:∃x,x=a)
abbrev Y:=List UInt8
abbrev rM:=List (List DC)
def ZK(x:Int):Int:=IntKind.wrap .i64 x
def J(r:List DC)(k:Nat):Int:=(r.getD k default).asInt
def yz(r:List DC)(k:Nat):Bool:=(r.getD k default).asBool
def fJ(r:List DC)(k:Nat):Y:=(r.getD k default).He
def Zc(r:List DC)(k:Nat):rM:=(r.getD k default).cG
def V(r:rM)(n:Nat):List DC:=r.getD n []
def len{α:Type}(l:List α):Int:=(l.length:Int)
def idx{α:Type}(n:Int)(l:List α):Bool:=decide (0≤n) && decide (n<l.length)
def inl{α:Type}(n:Nat)(l:List α):Bool:=decide (n<l.length)
def qg{α:Type}(l:List α)(a:Int):List α:=(l.take l.length).drop a.toNat
def Xg{α:Type}(l:List α)(b:Int):List α:=(l.take b.toNat).drop 0
def Fl{α:Type}(l:List α)(a b:Int):List α:=(l.take b.toNat).drop a.toNat
def fD{α:Type}(l:List α)(a:Int):Bool:=decide (0≤a) && decide (a≤l.length)
def Oo{α:Type}(l:List α)(b:Int):Bool:=decide (0≤b) && decide (b≤l.length)
def XA{α:Type}(l:List α)(a b:Int):Bool:=decide (0≤a) && decide (a≤b) && decide (b≤l.length)
def Pf(z:Nat)(r q:rM):Bool:=decide ((r.length+q.length)*z≤140737488355328) && decide (r.length+q.length≤9223372036854775807)
def Fj(z:Nat)(n m:Int):Bool:=decide (0≤n) && decide (n≤m) && decide (m.toNat*z≤140737488355328) && decide (m≤9223372036854775807)
def S_(a b:Y):Bool:=decide (a.length+b.length≤9223372036854775807)
def nf(s:Y)(n:Int):Int:=((s.getD n.toNat 0).toNat:Int)
def toStr(r:rM):Y:=r.map Vm.byteOf
def ofStr(s:Y):rM:=s.map Vm.db
def MK(s:Y)(r:rM)(a:Nat):Int:=((min s.length (r.length - a):Nat):Int)
def vR(s:Y)(r:rM)(a:Nat):rM:=r.take a++(ofStr (s.take (r.length - a))++r.drop (a+min s.length (r.length - a)))
def kh(a b:Int):Int:=if b<a then b else a
def Zl(k:IntKind)(a b:Int):Int:=k.wrap (a*2 ^ (min b.toNat k.bits))
def xu(k:IntKind)(a b:Int):Int:=a.fdiv (2 ^ (min b.toNat k.bits))
mutual
def U0:DC→Nat
 | .int _=>0
 | .bool _=>0
 | .str s=>s.length
 | .sl rows=>rows.length+Nk rows
def PT:List DC→Nat
 | []=>0
 | d::l=>U0 d+PT l
def Nk:List (List DC)→Nat
 | []=>0
 | r::l=>PT r+Nk l
end
def nzD:CT→Nat
 | .int k=>match k with | .i64=>8 | .u64=>8 | .i32=>4 | .u32=>4 | .i16=>2 | .u16=>2 | .i8=>1 | .u8=>1
 | .bool=>1
 | .str=>16
 | .sl _=>24
def OV:List CT→Nat
 | []=>0
 | c::l=>nzD c+OV l
def Am(l:List CT):Nat:=bif l.any (λc=>Nat.ble 8 (nzD c)) then (OV l+7) / 8*8 else OV l
mutual
def P2:CT→DC→Bool
 | .int _,_=>true
 | .bool,_=>true
 | .str,d=>decide (d.He.length≤140737488351232)
 | .sl e,d=>decide (d.cG.length*Am e≤140737488351232) && d.cG.all (λr=>kP e r)
def kP:List CT→List DC→Bool
 | [],_=>true
 | c::cs,l=>P2 c (l.headD default) && kP cs l.tail
end
theorem O_{k:IntKind}{r:List CT}{a:List DC}(h:i_ (.int k::r) a):∃(n:Int) (b:List DC),a= .int n::b∧Oj (.int k) (.int n)∧i_ r b:=by simp only[i_] at h;obtain⟨d,e,rfl,c,f⟩:=h;have h1':=c;simp only[Oj] at h1';obtain⟨n,rfl,_⟩:=h1';exact⟨n,e,rfl,c,f⟩
theorem C4{r:List CT}{a:List DC}(h:i_ (.bool::r) a):∃(n:Bool) (b:List DC),a= .bool n::b∧Oj .bool (.bool n)∧i_ r b:=by simp only[i_] at h;obtain⟨d,e,rfl,c,f⟩:=h;have h1':=c;simp only[Oj] at h1';obtain⟨n,rfl⟩:=h1';exact⟨n,e,rfl,c,f⟩
theorem WW{r:List CT}{a:List DC}(h:i_ (.str::r) a):∃(n:Y) (b:List DC),a= .str n::b∧Oj .str (.str n)∧i_ r b:=by simp only[i_] at h;obtain⟨d,e,rfl,c,f⟩:=h;have h1':=c;simp only[Oj] at h1';obtain⟨n,rfl,_⟩:=h1';exact⟨n,e,rfl,c,f⟩
theorem dh{e:List CT}{r:List CT}{a:List DC}(h:i_ (.sl e::r) a):∃(n:rM) (b:List DC),a= .sl n::b∧Oj (.sl e) (.sl n)∧i_ r b:=by simp only[i_] at h;obtain⟨d,f,rfl,c,g⟩:=h;have h1':=c;simp only[Oj] at h1';obtain⟨n,rfl,_⟩:=h1';exact⟨n,f,rfl,c,g⟩
def Part{α β:Type}(kW:α)(K:β→α)(x:α)(o:Bool)(v:Option β):Prop:=(o=true→∃b,v=some b∧x=K b)
theorem nA6{α β:Type}{kW:α}{K:β→α}{b:β} :Part kW K (K b) true (some b):=λ_=>⟨b,rfl,rfl⟩
theorem xl{α β:Type}{kW:α}{K:β→α}{c o:Bool}{x:α}{v:Option β}(h:Part kW K x o v):Part kW K (bif c then x else kW) (bif c then o else false) (bif c then v else none):=by
 cases c
 ·intro h;cases h
 ·exact h
theorem niS{α β:Type}{kW:α}{K:β→α}{c a b:Bool}{x y:α}{v1 d:Option β}(e:Part kW K x a v1)(f:Part kW K y b d):
  Part kW K (bif c then x else y) (bif c then a else b) (bif c then v1 else d):=by
 cases c
 ·exact f
 ·exact e
theorem Zm{α β:Type}{kW:α}{K:β→α}{x:α}{o:Bool}{v:Option β}{d:β}(h:Part kW K x o v)(a:o=true):x=K (v.getD d):=by obtain⟨b,rfl,c⟩:=h a;exact c
theorem Qk{c:CT}{a:List CT}{d:DC}{r:List DC}(b:Oj c d)(e:i_ a r):i_ (c::a) (d::r):=by simp only[i_];exact⟨d,r,rfl,b,e⟩
theorem YF:i_ [] []:=by simp only[i_]
theorem R5{a:List DC}(h:i_ [] a):a=[]:=by simpa only[i_] using h
theorem sX{k:IntKind}{a:List DC}(h:i_ [.int k] a):∃n:Int,a=[.int n]∧Oj (.int k) (.int n):=by obtain⟨n,d,rfl,b,c⟩:=O_ h;obtain rfl:=R5 c;exact⟨n,rfl,b⟩
theorem ZM{a:List DC}(h:i_ [.bool] a):∃n:Bool,a=[.bool n]∧Oj .bool (.bool n):=by obtain⟨n,d,rfl,b,c⟩:=C4 h;obtain rfl:=R5 c;exact⟨n,rfl,b⟩
theorem T8{a:List DC}(h:i_ [.str] a):∃n:Y,a=[.str n]∧Oj .str (.str n):=by obtain⟨n,d,rfl,b,c⟩:=WW h;obtain rfl:=R5 c;exact⟨n,rfl,b⟩
theorem ga{e:List CT}{a:List DC}(h:i_ [.sl e] a):∃n:rM,a=[.sl n]∧Oj (.sl e) (.sl n):=by obtain⟨n,d,rfl,b,c⟩:=dh h;obtain rfl:=R5 c;exact⟨n,rfl,b⟩
theorem Vi:∀ {f g:List CT} {a:List DC},i_ (f++g) a→∃b e,a=b++e∧i_ f b∧i_ g e
 | [],_,a,h=>⟨[],a,rfl,YF,h⟩
 | c::f,g,a,h=>by simp only[List.cons_append,i_] at h;obtain⟨d,r,rfl,i,j⟩:=h;obtain⟨b,e,rfl,k,l⟩:=Vi j;exact⟨d::b,e,rfl,Qk i k,l⟩
theorem Fh:∀ {a:List CT} {b:List DC} (i:Nat) {c:CT} {d:DC},i_ a b→a[i]? =some c→b[i]? =some d→Oj c d
 | [],_,i,_,_,_,hc,_=>by simp at hc
 | c::a,b,0,x,d,h,hc,hd=>by simp only[i_] at h;obtain⟨e,r,rfl,f,g⟩:=h;simp only[List.getElem?_cons_zero,VR] at hc hd;subst hc hd;exact f
 | c::a,b,i+1,x,d,h,hc,hd=>by simp only[i_] at h;obtain⟨e,r,rfl,f,g⟩:=h;exact Fh i g (by simpa using hc) (by simpa using hd)
theorem nlz:∀ {b:List CT} {a:List DC} (i:Nat),i_ b a→i_ (b.drop i) (a.drop i)
 | b,a,0,h=>h
 | [],a,i+1,h=>by have:=R5 h;subst this;exact h
 | c::b,a,i+1,h=>by simp only[i_] at h;obtain⟨e,r,rfl,f,d⟩:=h;exact nlz i d
theorem nkX:∀ {b:List CT} {a:List DC} (i:Nat),i_ b a→i_ (b.take i) (a.take i)
 | b,a,0,h=>YF
 | [],a,i+1,h=>by have:=R5 h;subst this;exact h
 | c::b,a,i+1,h=>by simp only[i_] at h;obtain⟨e,r,rfl,d,f⟩:=h;exact Qk d (nkX i f)
theorem cW{a:List CT}{b:List DC}(i m:Nat)(h:i_ a b):i_ ((a.drop i).take m) ((b.drop i).take m):=nkX m (nlz i h)
def nzW:CT→DC→DC
 | .int _,d=> .int d.asInt
 | .bool,d=> .bool d.asBool
 | .str,d=> .str d.He
 | .sl _,d=> .sl d.cG
def nK:List CT→List DC→Nat→List DC
 | [],_,_=>[]
 | c::cs,r,k=>nzW c (r.getD k default)::nK cs r (k+1)
theorem noI{c:CT}{d:DC}(h:Oj c d):nzW c d=d:=by
 cases c<;>simp only[Oj] at h
 ·obtain⟨x,rfl,_⟩:=h;rfl
 ·obtain⟨x,rfl⟩:=h;rfl
 ·obtain⟨x,rfl,_⟩:=h;rfl
 ·obtain⟨x,rfl,_⟩:=h;rfl
theorem nu4:∀ {a:List CT} {r p:List DC},i_ a r→nK a (p++r) p.length=r
 | [],r,p,h=>(R5 h).symm ▸ rfl
 | c::a,r,p,h=>by
  simp only[i_] at h;obtain⟨e,r,rfl,d,f⟩:=h;have g:(p++e::r).getD p.length default=e:=by simp
  have b:=nu4 (p:=p++[e]) f;simp only[List.append_assoc,List.cons_append,List.nil_append,Qe,di,List.length_nil] at b;simp only[nK,g,noI d];exact congrArg (e:: ·) b
theorem DG{a:List CT}{r:List DC}(h:i_ a r):nK a r 0=r:=nu4 (p:=[]) h
end Go.Proofs.YteffpikahopfoaaGreat.Pl
