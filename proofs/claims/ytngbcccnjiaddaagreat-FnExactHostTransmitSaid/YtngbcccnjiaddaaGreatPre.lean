/- Plain words for what the machine computes. Conditions: none; these are definitions. -/
import Derived.Test.YtngbcccnjiaddaaGreatVd
set_option linter.unusedVariables false
namespace Go.Proofs.YtngbcccnjiaddaaGreat.Pl
open Vm
abbrev _root_.Go.Proofs.YtngbcccnjiaddaaGreat.Vm.CT.i:CT:= .int .i64
theorem qh {P:Program} {Γ:Ctx} {A:List (Nat×kW)} (d_:bt P Γ) {g:Nat} {fn:Func} {s:Sum} (hf:P.funcs[g]? =some fn)
  (h:∀ds,jI (gC s.ps) ds→(s.fn ds).1=true→∃N,Hc P Γ A N fn s ds=(true,(s.fn ds).2))
  (hc:(fn.body.isSome && (!(fn.name== "runtime.NumGoroutine") && (decide (s.ps.length≤fn.ntmps) && decide (fn.ntmps<1099511627776))))=true:=by kernel_rfl) (F6:s.pt=none:=by rfl):DA P g s:=by
 simp only[Bool.and_eq_true,Bool.not_eq_true',decide_eq_true_eq] at hc
 exact Fo (A:=A) d_ hf hc.1 hc.2.1 hc.2.2.1 hc.2.2.2 h F6
theorem nM {P:Program} {Γ:Ctx} (d_:bt P Γ) {g:Nat} {fn:Func} {s:Sum} (hf:P.funcs[g]? =some fn)
  (h:∀ds,jI (gC s.ps) ds→(s.fn ds).1=true→∃N,Hc P Γ [] N fn s ds=(true,(s.fn ds).2))
  (hc:(fn.body.isSome && (!(fn.name== "runtime.NumGoroutine") && (decide (s.ps.length≤fn.ntmps) && decide (fn.ntmps<1099511627776))))=true:=by kernel_rfl) (F6:s.pt=none:=by rfl):DA P g s:=qh (A:=[]) d_ hf h hc F6
theorem Qd {P:Program} {Γ:Ctx} {A:List (Nat×kW)} (d_:bt P Γ) {g:Nat} {fn:Func} {s:Sum} (hf:P.funcs[g]? =some fn)
  (h:∀ds,jI (gC s.ps) ds→(s.fn ds).1=true→∃N,Gg P Γ A N fn s ds=(true,(s.fn ds).2))
  (hc:(fn.body.isSome && (!(fn.name== "runtime.NumGoroutine") && (decide (s.ps.length≤fn.ntmps) && (decide (fn.ntmps<1099511627776) && !(shares s)))))=true:=by kernel_rfl)
  (db:∀ds,ea ((cM 0 s.ps s.ms ds).2.map (·.1))=true:=by intro ds;kernel_rfl):BO P g s:=by
 simp only[Bool.and_eq_true,Bool.not_eq_true',decide_eq_true_eq] at hc
 exact EY (A:=A) d_ hf hc.1 hc.2.1 hc.2.2.1 hc.2.2.2.1 hc.2.2.2.2 db h
theorem eT {α:Type} {x b y z:α} (h:b=y) (h1:x=b:=by kernel_rfl) (h2:y=z:=by kernel_rfl):x=z:=h1.trans (h.trans h2)
theorem eL {α σ:Type} {x y z:α} {l l':σ} (f:σ→α) (hl:l=l') (h:f l'=y) (h1:x=f l:=by kernel_rfl) (h2:y=z:=by kernel_rfl):x=z:=h1.trans ((congrArg f hl).trans (h.trans h2))
theorem nL1 {σ0:Type} (B:(St→ke)→St→ke) (m:σ0→St) (l:(σ0→ke)→σ0→ke) (k:Nat) (h:∀ih a0,B ih (m a0)=l (fun a0=>ih (m a0)) a0:=by intros;kernel_rfl):(fun a0=>KS B k (m a0))=Nat.rec (motive:=fun _=>σ0→ke) (fun _=>Vm.jK) (fun _ ih=>l ih) k:=by
 induction k with
 | zero=>rfl
 | succ k ih=>exact funext fun a0=>(h _ a0).trans (congrArg (fun f=>l f a0) ih)
theorem Tm {σ0 σ1:Type} (B:(St→ke)→St→ke) (m:σ0→σ1→St) (l:(σ0→σ1→ke)→σ0→σ1→ke) (k:Nat) (h:∀ih a0 a1,B ih (m a0 a1)=l (fun a0 a1=>ih (m a0 a1)) a0 a1:=by intros;kernel_rfl):(fun a0 a1=>KS B k (m a0 a1))=Nat.rec (motive:=fun _=>σ0→σ1→ke) (fun _ _=>Vm.jK) (fun _ ih=>l ih) k:=by
 induction k with
 | zero=>rfl
 | succ k ih=>exact funext fun a0=>funext fun a1=>(h _ a0 a1).trans (congrArg (fun f=>l f a0 a1) ih)
theorem nL3 {σ0 σ1 σ2:Type} (B:(St→ke)→St→ke) (m:σ0→σ1→σ2→St) (l:(σ0→σ1→σ2→ke)→σ0→σ1→σ2→ke) (k:Nat) (h:∀ih a0 a1 a2,B ih (m a0 a1 a2)=l (fun a0 a1 a2=>ih (m a0 a1 a2)) a0 a1 a2:=by intros;kernel_rfl):(fun a0 a1 a2=>KS B k (m a0 a1 a2))=Nat.rec (motive:=fun _=>σ0→σ1→σ2→ke) (fun _ _ _=>Vm.jK) (fun _ ih=>l ih) k:=by
 induction k with
 | zero=>rfl
 | succ k ih=>exact funext fun a0=>funext fun a1=>funext fun a2=>(h _ a0 a1 a2).trans (congrArg (fun f=>l f a0 a1 a2) ih)
theorem nL4 {σ0 σ1 σ2 σ3:Type} (B:(St→ke)→St→ke) (m:σ0→σ1→σ2→σ3→St) (l:(σ0→σ1→σ2→σ3→ke)→σ0→σ1→σ2→σ3→ke) (k:Nat) (h:∀ih a0 a1 a2 a3,B ih (m a0 a1 a2 a3)=l (fun a0 a1 a2 a3=>ih (m a0 a1 a2 a3)) a0 a1 a2 a3:=by intros;kernel_rfl):(fun a0 a1 a2 a3=>KS B k (m a0 a1 a2 a3))=Nat.rec (motive:=fun _=>σ0→σ1→σ2→σ3→ke) (fun _ _ _ _=>Vm.jK) (fun _ ih=>l ih) k:=by
 induction k with
 | zero=>rfl
 | succ k ih=>exact funext fun a0=>funext fun a1=>funext fun a2=>funext fun a3=>(h _ a0 a1 a2 a3).trans (congrArg (fun f=>l f a0 a1 a2 a3) ih)
theorem nL5 {σ0 σ1 σ2 σ3 σ4:Type} (B:(St→ke)→St→ke) (m:σ0→σ1→σ2→σ3→σ4→St) (l:(σ0→σ1→σ2→σ3→σ4→ke)→σ0→σ1→σ2→σ3→σ4→ke) (k:Nat) (h:∀ih a0 a1 a2 a3 a4,B ih (m a0 a1 a2 a3 a4)=l (fun a0 a1 a2 a3 a4=>ih (m a0 a1 a2 a3 a4)) a0 a1 a2 a3 a4:=by intros;kernel_rfl):(fun a0 a1 a2 a3 a4=>KS B k (m a0 a1 a2 a3 a4))=Nat.rec (motive:=fun _=>σ0→σ1→σ2→σ3→σ4→ke) (fun _ _ _ _ _=>Vm.jK) (fun _ ih=>l ih) k:=by
 induction k with
 | zero=>rfl
 | succ k ih=>exact funext fun a0=>funext fun a1=>funext fun a2=>funext fun a3=>funext fun a4=>(h _ a0 a1 a2 a3 a4).trans (congrArg (fun f=>l f a0 a1 a2 a3 a4) ih)
theorem nL6 {σ0 σ1 σ2 σ3 σ4 σ5:Type} (B:(St→ke)→St→ke) (m:σ0→σ1→σ2→σ3→σ4→σ5→St) (l:(σ0→σ1→σ2→σ3→σ4→σ5→ke)→σ0→σ1→σ2→σ3→σ4→σ5→ke) (k:Nat) (h:∀ih a0 a1 a2 a3 a4 a5,B ih (m a0 a1 a2 a3 a4 a5)=l (fun a0 a1 a2 a3 a4 a5=>ih (m a0 a1 a2 a3 a4 a5)) a0 a1 a2 a3 a4 a5:=by intros;kernel_rfl):(fun a0 a1 a2 a3 a4 a5=>KS B k (m a0 a1 a2 a3 a4 a5))=Nat.rec (motive:=fun _=>σ0→σ1→σ2→σ3→σ4→σ5→ke) (fun _ _ _ _ _ _=>Vm.jK) (fun _ ih=>l ih) k:=by
 induction k with
 | zero=>rfl
 | succ k ih=>exact funext fun a0=>funext fun a1=>funext fun a2=>funext fun a3=>funext fun a4=>funext fun a5=>(h _ a0 a1 a2 a3 a4 a5).trans (congrArg (fun f=>l f a0 a1 a2 a3 a4 a5) ih)
theorem nL7 {σ0 σ1 σ2 σ3 σ4 σ5 σ6:Type} (B:(St→ke)→St→ke) (m:σ0→σ1→σ2→σ3→σ4→σ5→σ6→St) (l:(σ0→σ1→σ2→σ3→σ4→σ5→σ6→ke)→σ0→σ1→σ2→σ3→σ4→σ5→σ6→ke) (k:Nat) (h:∀ih a0 a1 a2 a3 a4 a5 a6,B ih (m a0 a1 a2 a3 a4 a5 a6)=l (fun a0 a1 a2 a3 a4 a5 a6=>ih (m a0 a1 a2 a3 a4 a5 a6)) a0 a1 a2 a3 a4 a5 a6:=by intros;kernel_rfl):(fun a0 a1 a2 a3 a4 a5 a6=>KS B k (m a0 a1 a2 a3 a4 a5 a6))=Nat.rec (motive:=fun _=>σ0→σ1→σ2→σ3→σ4→σ5→σ6→ke) (fun _ _ _ _ _ _ _=>Vm.jK) (fun _ ih=>l ih) k:=by
 induction k with
 | zero=>rfl
 | succ k ih=>exact funext fun a0=>funext fun a1=>funext fun a2=>funext fun a3=>funext fun a4=>funext fun a5=>funext fun a6=>(h _ a0 a1 a2 a3 a4 a5 a6).trans (congrArg (fun f=>l f a0 a1 a2 a3 a4 a5 a6) ih)
noncomputable def shut {α:Type} (a:α):α:=Classical.choose (⟨a,rfl⟩:∃x,x=a)
theorem nzc {α:Type} (a:α):shut a=a:=Classical.choose_spec (⟨a,rfl⟩:∃x,x=a)
abbrev Bytes:=List UInt8
abbrev Rows:=List (List DC)
def nK (x:Int):Int:=IntKind.wrap .i64 x
def rI (r:List DC) (k:Nat):Int:=(r.getD k default).asInt
def rB (r:List DC) (k:Nat):Bool:=(r.getD k default).asBool
def rS (r:List DC) (k:Nat):Bytes:=(r.getD k default).FO
def rR (r:List DC) (k:Nat):Rows:=(r.getD k default).cX
def nth (r:Rows) (n:Nat):List DC:=r.getD n []
def len {α:Type} (l:List α):Int:=(l.length:Int)
def idx {α:Type} (n:Int) (l:List α):Bool:=decide (0≤n) && decide (n<l.length)
def inl {α:Type} (n:Nat) (l:List α):Bool:=decide (n<l.length)
def zE {α:Type} (l:List α) (a:Int):List α:=(l.take l.length).drop a.toNat
def Rv {α:Type} (l:List α) (b:Int):List α:=(l.take b.toNat).drop 0
def uP {α:Type} (l:List α) (a b:Int):List α:=(l.take b.toNat).drop a.toNat
def okL {α:Type} (l:List α) (a:Int):Bool:=decide (0≤a) && decide (a≤l.length)
def okH {α:Type} (l:List α) (b:Int):Bool:=decide (0≤b) && decide (b≤l.length)
def QY {α:Type} (l:List α) (a b:Int):Bool:=decide (0≤a) && decide (a≤b) && decide (b≤l.length)
def oT (z:Nat) (r q:Rows):Bool:=decide ((r.length+q.length)*z≤140737488355328) && decide (r.length+q.length≤9223372036854775807)
def xo (z:Nat) (n m:Int):Bool:=decide (0≤n) && decide (n≤m) && decide (m.toNat*z≤140737488355328) && decide (m≤9223372036854775807)
def oK (a b:Bytes):Bool:=decide (a.length+b.length≤9223372036854775807)
def tK (s:Bytes) (n:Int):Int:=((s.getD n.toNat 0).toNat:Int)
def toStr (r:Rows):Bytes:=r.map Vm.byteOf
def ofStr (s:Bytes):Rows:=s.map Vm.eP
def ue (a b:Int):Int:=if b<a then b else a
def nei (k:IntKind) (a b:Int):Int:=k.wrap (a*2 ^ (min b.toNat k.bits))
def So (k:IntKind) (a b:Int):Int:=a.fdiv (2 ^ (min b.toNat k.bits))
mutual
def nvy:DC→Nat
 | .int _=>0
 | .bool _=>0
 | .str s=>s.length
 | .sl rows=>rows.length+nvz rows
def PH:List DC→Nat
 | []=>0
 | d::l=>nvy d+PH l
def nvz:List (List DC)→Nat
 | []=>0
 | r::l=>PH r+nvz l
end
def nxG:CT→Nat
 | .int k=>match k with | .i64=>8 | .u64=>8 | .i32=>4 | .u32=>4 | .i16=>2 | .u16=>2 | .i8=>1 | .u8=>1
 | .bool=>1
 | .str=>16
 | .sl _=>24
def nyA:List CT→Nat
 | []=>0
 | c::l=>nxG c+nyA l
def nr5 (l:List CT):Nat:=bif l.any (fun c=>Nat.ble 8 (nxG c)) then (nyA l+7) / 8*8 else nyA l
mutual
def nx4:CT→DC→Bool
 | .int _,_=>true
 | .bool,_=>true
 | .str,d=>decide (d.FO.length≤140737488351232)
 | .sl e,d=>decide (d.cX.length*nr5 e≤140737488351232) && d.cX.all (fun r=>Xl e r)
def Xl:List CT→List DC→Bool
 | [],_=>true
 | c::cs,l=>nx4 c (l.headD default) && Xl cs l.tail
end
theorem nX {k:IntKind} {r:List CT} {ds:List DC} (h:jI (.int k::r) ds):∃(n:Int) (aW:List DC),ds= .int n::aW∧Gk (.int k) (.int n)∧jI r aW:=by
 simp only[jI] at h
 obtain⟨d,r',rfl,h1,h2⟩:=h
 have h1':=h1
 simp only[Gk] at h1'
 obtain⟨n,rfl,_⟩:=h1'
 exact⟨n,r',rfl,h1,h2⟩
theorem ntn {r:List CT} {ds:List DC} (h:jI (.bool::r) ds):∃(n:Bool) (aW:List DC),ds= .bool n::aW∧Gk .bool (.bool n)∧jI r aW:=by
 simp only[jI] at h
 obtain⟨d,r',rfl,h1,h2⟩:=h
 have h1':=h1
 simp only[Gk] at h1'
 obtain⟨n,rfl⟩:=h1'
 exact⟨n,r',rfl,h1,h2⟩
theorem Np {r:List CT} {ds:List DC} (h:jI (.str::r) ds):∃(n:Bytes) (aW:List DC),ds= .str n::aW∧Gk .str (.str n)∧jI r aW:=by
 simp only[jI] at h
 obtain⟨d,r',rfl,h1,h2⟩:=h
 have h1':=h1
 simp only[Gk] at h1'
 obtain⟨n,rfl,_⟩:=h1'
 exact⟨n,r',rfl,h1,h2⟩
theorem oh {e:List CT} {r:List CT} {ds:List DC} (h:jI (.sl e::r) ds):∃(n:Rows) (aW:List DC),ds= .sl n::aW∧Gk (.sl e) (.sl n)∧jI r aW:=by
 simp only[jI] at h
 obtain⟨d,r',rfl,h1,h2⟩:=h
 have h1':=h1
 simp only[Gk] at h1'
 obtain⟨n,rfl,_⟩:=h1'
 exact⟨n,r',rfl,h1,h2⟩
def Part {α β:Type} (jK:α) (K:β→α) (x:α) (o:Bool) (v:Option β):Prop:=(o=true→∃b,v=some b∧x=K b)
theorem pO {α β:Type} {jK:α} {K:β→α} {b:β} :Part jK K (K b) true (some b):=fun _=>⟨b,rfl,rfl⟩
theorem ox {α β:Type} {jK:α} {K:β→α} {c o:Bool} {x:α} {v:Option β} (h:Part jK K x o v):Part jK K (bif c then x else jK) (bif c then o else false) (bif c then v else none):=by
 cases c
 ·intro h;cases h
 ·exact h
theorem qX {α β:Type} {jK:α} {K:β→α} {c o1 o2:Bool} {x y:α} {v1 v2:Option β} (h1:Part jK K x o1 v1) (h2:Part jK K y o2 v2):
  Part jK K (bif c then x else y) (bif c then o1 else o2) (bif c then v1 else v2):=by
 cases c
 ·exact h2
 ·exact h1
theorem uw {α β:Type} {jK:α} {K:β→α} {x:α} {o:Bool} {v:Option β} {d:β} (h:Part jK K x o v) (ho:o=true):x=K (v.getD d):=by
 obtain⟨b,rfl,hx⟩:=h ho
 exact hx
theorem nxD {c:CT} {cs:List CT} {d:DC} {r:List DC} (h:jI (c::cs) (d::r)):Gk c d∧jI cs r:=by
 simp only[jI,List.cons.injEq] at h
 obtain⟨_,_,⟨rfl,rfl⟩,h1,h2⟩:=h
 exact⟨h1,h2⟩
theorem nxC {c:CT} {cs:List CT} {d:DC} {r:List DC} (h1:Gk c d) (h2:jI cs r):jI (c::cs) (d::r):=by
 simp only[jI]
 exact⟨d,r,rfl,h1,h2⟩
theorem nwC:jI [] []:=by simp only[jI]
theorem nm {ds:List DC} (h:jI [] ds):ds=[]:=by
 simpa only[jI] using h
theorem nt {k:IntKind} {ds:List DC} (h:jI [.int k] ds):∃n:Int,ds=[.int n]∧Gk (.int k) (.int n):=by
 obtain⟨n,aW,rfl,h1,h2⟩:=nX h
 obtain rfl:=nm h2
 exact⟨n,rfl,h1⟩
theorem Yq {ds:List DC} (h:jI [.bool] ds):∃n:Bool,ds=[.bool n]∧Gk .bool (.bool n):=by
 obtain⟨n,aW,rfl,h1,h2⟩:=ntn h
 obtain rfl:=nm h2
 exact⟨n,rfl,h1⟩
theorem p9 {ds:List DC} (h:jI [.str] ds):∃n:Bytes,ds=[.str n]∧Gk .str (.str n):=by
 obtain⟨n,aW,rfl,h1,h2⟩:=Np h
 obtain rfl:=nm h2
 exact⟨n,rfl,h1⟩
theorem oU {e:List CT} {ds:List DC} (h:jI [.sl e] ds):∃n:Rows,ds=[.sl n]∧Gk (.sl e) (.sl n):=by
 obtain⟨n,aW,rfl,h1,h2⟩:=oh h
 obtain rfl:=nm h2
 exact⟨n,rfl,h1⟩
theorem qt:∀ {cs AR:List CT} {ds:List DC},jI (cs++AR) ds→∃d1 d2,ds=d1++d2∧jI cs d1∧jI AR d2
 | [],_,ds,h=>⟨[],ds,rfl,nwC,h⟩
 | c::cs,AR,ds,h=>by
  simp only[List.cons_append,jI] at h
  obtain⟨d,r,rfl,h1,h2⟩:=h
  obtain⟨d1,d2,rfl,h3,h4⟩:=qt h2
  exact⟨d::d1,d2,rfl,nxC h1 h3,h4⟩
theorem oD:∀ {cs:List CT} {ds:List DC} (i:Nat) {c:CT} {d:DC},jI cs ds→cs[i]? =some c→ds[i]? =some d→Gk c d
 | [],_,i,_,_,_,hc,_=>by simp at hc
 | c::cs,ds,0,x,d,h,hc,hd=>by
  simp only[jI] at h
  obtain⟨e,r,rfl,h1,h2⟩:=h
  simp only[List.getElem?_cons_zero,Option.some.injEq] at hc hd
  subst hc hd
  exact h1
 | c::cs,ds,i+1,x,d,h,hc,hd=>by
  simp only[jI] at h
  obtain⟨e,r,rfl,h1,h2⟩:=h
  exact oD i h2 (by simpa using hc) (by simpa using hd)
theorem nxg:∀ {cs:List CT} {ds:List DC} (i:Nat),jI cs ds→jI (cs.drop i) (ds.drop i)
 | cs,ds,0,h=>h
 | [],ds,i+1,h=>by
  have:=nm h
  subst this
  exact h
 | c::cs,ds,i+1,h=>by
  simp only[jI] at h
  obtain⟨e,r,rfl,h1,h2⟩:=h
  exact nxg i h2
theorem nxh:∀ {cs:List CT} {ds:List DC} (i:Nat),jI cs ds→jI (cs.take i) (ds.take i)
 | cs,ds,0,h=>nwC
 | [],ds,i+1,h=>by
  have:=nm h
  subst this
  exact h
 | c::cs,ds,i+1,h=>by
  simp only[jI] at h
  obtain⟨e,r,rfl,h1,h2⟩:=h
  exact nxC h1 (nxh i h2)
theorem zd {cs:List CT} {ds:List DC} (i m:Nat) (h:jI cs ds):jI ((cs.drop i).take m) ((ds.drop i).take m):=nxh m (nxg i h)
def nyy:CT→DC→DC
 | .int _,d=> .int d.asInt
 | .bool,d=> .bool d.asBool
 | .str,d=> .str d.FO
 | .sl _,d=> .sl d.cX
def sV:List CT→List DC→Nat→List DC
 | [],_,_=>[]
 | c::cs,r,k=>nyy c (r.getD k default)::sV cs r (k+1)
theorem nx2 {c:CT} {d:DC} (h:Gk c d):nyy c d=d:=by
 cases c<;>simp only[Gk] at h
 ·obtain⟨x,rfl,_⟩:=h;rfl
 ·obtain⟨x,rfl⟩:=h;rfl
 ·obtain⟨x,rfl,_⟩:=h;rfl
 ·obtain⟨x,rfl,_⟩:=h;rfl
theorem nvA:∀ {cs:List CT} {r p:List DC},jI cs r→sV cs (p++r) p.length=r
 | [],r,p,h=>(nm h).symm ▸ rfl
 | c::cs,r,p,h=>by
  simp only[jI] at h
  obtain⟨e,r,rfl,h1,h2⟩:=h
  have e1:(p++e::r).getD p.length default=e:=by simp
  have e2:=nvA (p:=p++[e]) h2
  simp only[List.append_assoc,List.cons_append,List.nil_append,List.length_append,List.length_cons,List.length_nil] at e2
  simp only[sV,e1,nx2 h1]
  exact congrArg (e:: ·) e2
theorem rp {cs:List CT} {r:List DC} (h:jI cs r):sV cs r 0=r:=nvA (p:=[]) h
end Go.Proofs.YtngbcccnjiaddaaGreat.Pl
