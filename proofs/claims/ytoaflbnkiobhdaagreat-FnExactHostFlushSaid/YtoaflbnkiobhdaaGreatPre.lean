/- Plain words for what the machine computes. Conditions: none; these are definitions. -/
import Derived.Test.YtoaflbnkiobhdaaGreatVd
set_option linter.unusedVariables false
namespace Go.Proofs.YtoaflbnkiobhdaaGreat.Pl
open Vm
abbrev _root_.Go.Proofs.YtoaflbnkiobhdaaGreat.Vm.CT.i:CT:= .int .i64
theorem ra {P:Program} {Γ:Ctx} {A:List (Nat×lB)} (eV:bE P Γ) {g:Nat} {fn:Func} {s:Sum} (hf:P.funcs[g]? =some fn)
  (h:∀ds,ka (gV s.ps) ds→(s.fn ds).1=true→∃N,HU P Γ A N fn s ds=(true,(s.fn ds).2))
  (hc:(fn.body.isSome && (!(fn.name== "runtime.NumGoroutine") && (decide (s.ps.length≤fn.ntmps) && decide (fn.ntmps<1099511627776))))=true:=by kernel_rfl) (GM:s.pt=none:=by rfl):D9 P g s:=by
 simp only[Bool.and_eq_true,Bool.not_eq_true',decide_eq_true_eq] at hc
 exact F4 (A:=A) eV hf hc.1 hc.2.1 hc.2.2.1 hc.2.2.2 h GM
theorem nN {P:Program} {Γ:Ctx} (eV:bE P Γ) {g:Nat} {fn:Func} {s:Sum} (hf:P.funcs[g]? =some fn)
  (h:∀ds,ka (gV s.ps) ds→(s.fn ds).1=true→∃N,HU P Γ [] N fn s ds=(true,(s.fn ds).2))
  (hc:(fn.body.isSome && (!(fn.name== "runtime.NumGoroutine") && (decide (s.ps.length≤fn.ntmps) && decide (fn.ntmps<1099511627776))))=true:=by kernel_rfl) (GM:s.pt=none:=by rfl):D9 P g s:=ra (A:=[]) eV hf h hc GM
theorem Nq {P:Program} {Γ:Ctx} {A:List (Nat×lB)} (eV:bE P Γ) {g:Nat} {fn:Func} {s:Sum} (hf:P.funcs[g]? =some fn)
  (h:∀ds,ka (gV s.ps) ds→(s.fn ds).1=true→∃N,GY P Γ A N fn s ds=(true,(s.fn ds).2))
  (hc:(fn.body.isSome && (!(fn.name== "runtime.NumGoroutine") && (decide (s.ps.length≤fn.ntmps) && (decide (fn.ntmps<1099511627776) && !(shares s)))))=true:=by kernel_rfl)
  (dR:∀ds,eW ((cy 0 s.ps s.ms ds).2.map (·.1))=true:=by intro ds;kernel_rfl):Cl P g s:=by
 simp only[Bool.and_eq_true,Bool.not_eq_true',decide_eq_true_eq] at hc
 exact FI (A:=A) eV hf hc.1 hc.2.1 hc.2.2.1 hc.2.2.2.1 hc.2.2.2.2 dR h
theorem nwb {P:Program} {g:Nat} {s s1 s2:Sum} (h1:D9 P g s1) (h2:D9 P g s2) (p1:s1.ps=s.ps) (r1:s1.rs=s.rs) (p2:s2.ps=s.ps) (r2:s2.rs=s.rs)
  (f1:∀ds,(s1.fn ds).2=(s.fn ds).2) (f2:∀ds,(s2.fn ds).2=(s.fn ds).2) (ho:∀ds,(s.fn ds).1=true→(s1.fn ds).1=true∨(s2.fn ds).1=true):D9 P g s:=by
 refine⟨h1.1,fun w ds vals fp ha hs=> ?_⟩
 rcases ho ds hs with h | h
 ·have:=h1.2 w ds vals fp (by rw[p1];exact ha) h
  rwa [f1,r1] at this
 ·have:=h2.2 w ds vals fp (by rw[p2];exact ha) h
  rwa [f2,r2] at this
theorem nwh {a c:Bool} (h:a=true):(a && c)=true∨(a && !c)=true:=by
 subst h
 cases c<;>simp
theorem eT {α:Type} {x b y z:α} (h:b=y) (h1:x=b:=by kernel_rfl) (h2:y=z:=by kernel_rfl):x=z:=h1.trans (h.trans h2)
theorem eL {α σ:Type} {x y z:α} {l l':σ} (f:σ→α) (hl:l=l') (h:f l'=y) (h1:x=f l:=by kernel_rfl) (h2:y=z:=by kernel_rfl):x=z:=h1.trans ((congrArg f hl).trans (h.trans h2))
theorem nL1 {σ0:Type} (B:(St→kK)→St→kK) (m:σ0→St) (l:(σ0→kK)→σ0→kK) (k:Nat) (h:∀ih a0,B ih (m a0)=l (fun a0=>ih (m a0)) a0:=by intros;kernel_rfl):(fun a0=>LR B k (m a0))=Nat.rec (motive:=fun _=>σ0→kK) (fun _=>Vm.kd) (fun _ ih=>l ih) k:=by
 induction k with
 | zero=>rfl
 | succ k ih=>exact funext fun a0=>(h _ a0).trans (congrArg (fun f=>l f a0) ih)
theorem To {σ0 σ1:Type} (B:(St→kK)→St→kK) (m:σ0→σ1→St) (l:(σ0→σ1→kK)→σ0→σ1→kK) (k:Nat) (h:∀ih a0 a1,B ih (m a0 a1)=l (fun a0 a1=>ih (m a0 a1)) a0 a1:=by intros;kernel_rfl):(fun a0 a1=>LR B k (m a0 a1))=Nat.rec (motive:=fun _=>σ0→σ1→kK) (fun _ _=>Vm.kd) (fun _ ih=>l ih) k:=by
 induction k with
 | zero=>rfl
 | succ k ih=>exact funext fun a0=>funext fun a1=>(h _ a0 a1).trans (congrArg (fun f=>l f a0 a1) ih)
theorem nL3 {σ0 σ1 σ2:Type} (B:(St→kK)→St→kK) (m:σ0→σ1→σ2→St) (l:(σ0→σ1→σ2→kK)→σ0→σ1→σ2→kK) (k:Nat) (h:∀ih a0 a1 a2,B ih (m a0 a1 a2)=l (fun a0 a1 a2=>ih (m a0 a1 a2)) a0 a1 a2:=by intros;kernel_rfl):(fun a0 a1 a2=>LR B k (m a0 a1 a2))=Nat.rec (motive:=fun _=>σ0→σ1→σ2→kK) (fun _ _ _=>Vm.kd) (fun _ ih=>l ih) k:=by
 induction k with
 | zero=>rfl
 | succ k ih=>exact funext fun a0=>funext fun a1=>funext fun a2=>(h _ a0 a1 a2).trans (congrArg (fun f=>l f a0 a1 a2) ih)
theorem nL4 {σ0 σ1 σ2 σ3:Type} (B:(St→kK)→St→kK) (m:σ0→σ1→σ2→σ3→St) (l:(σ0→σ1→σ2→σ3→kK)→σ0→σ1→σ2→σ3→kK) (k:Nat) (h:∀ih a0 a1 a2 a3,B ih (m a0 a1 a2 a3)=l (fun a0 a1 a2 a3=>ih (m a0 a1 a2 a3)) a0 a1 a2 a3:=by intros;kernel_rfl):(fun a0 a1 a2 a3=>LR B k (m a0 a1 a2 a3))=Nat.rec (motive:=fun _=>σ0→σ1→σ2→σ3→kK) (fun _ _ _ _=>Vm.kd) (fun _ ih=>l ih) k:=by
 induction k with
 | zero=>rfl
 | succ k ih=>exact funext fun a0=>funext fun a1=>funext fun a2=>funext fun a3=>(h _ a0 a1 a2 a3).trans (congrArg (fun f=>l f a0 a1 a2 a3) ih)
noncomputable def shut {α:Type} (a:α):α:=Classical.choose (⟨a,rfl⟩:∃x,x=a)
theorem nwG {α:Type} (a:α):shut a=a:=Classical.choose_spec (⟨a,rfl⟩:∃x,x=a)
abbrev Bytes:=List UInt8
abbrev Rows:=List (List DC)
def nS (x:Int):Int:=IntKind.wrap .i64 x
def rI (r:List DC) (k:Nat):Int:=(r.getD k default).asInt
def rB (r:List DC) (k:Nat):Bool:=(r.getD k default).asBool
def rS (r:List DC) (k:Nat):Bytes:=(r.getD k default).Gr
def rR (r:List DC) (k:Nat):Rows:=(r.getD k default).cl
def nth (r:Rows) (n:Nat):List DC:=r.getD n []
def len {α:Type} (l:List α):Int:=(l.length:Int)
def idx {α:Type} (n:Int) (l:List α):Bool:=decide (0≤n) && decide (n<l.length)
def inl {α:Type} (n:Nat) (l:List α):Bool:=decide (n<l.length)
def ncD {α:Type} (l:List α) (a:Int):List α:=(l.take l.length).drop a.toNat
def nap {α:Type} (l:List α) (b:Int):List α:=(l.take b.toNat).drop 0
def nty {α:Type} (l:List α) (a b:Int):List α:=(l.take b.toNat).drop a.toNat
def okL {α:Type} (l:List α) (a:Int):Bool:=decide (0≤a) && decide (a≤l.length)
def okH {α:Type} (l:List α) (b:Int):Bool:=decide (0≤b) && decide (b≤l.length)
def nvS {α:Type} (l:List α) (a b:Int):Bool:=decide (0≤a) && decide (a≤b) && decide (b≤l.length)
def qS (z:Nat) (r q:Rows):Bool:=decide ((r.length+q.length)*z≤140737488355328) && decide (r.length+q.length≤9223372036854775807)
def wW (z:Nat) (n m:Int):Bool:=decide (0≤n) && decide (n≤m) && decide (m.toNat*z≤140737488355328) && decide (m≤9223372036854775807)
def oC (a b:Bytes):Bool:=decide (a.length+b.length≤9223372036854775807)
def y9 (s:Bytes) (n:Int):Int:=((s.getD n.toNat 0).toNat:Int)
def toStr (r:Rows):Bytes:=r.map Vm.byteOf
def ofStr (s:Bytes):Rows:=s.map Vm.cP
def cpN (s:Bytes) (r:Rows) (lo:Nat):Int:=((min s.length (r.length - lo):Nat):Int)
def cpR (s:Bytes) (r:Rows) (lo:Nat):Rows:=r.take lo++(ofStr (s.take (r.length - lo))++r.drop (lo+min s.length (r.length - lo)))
def v9 (a b:Int):Int:=if b<a then b else a
def nfz (k:IntKind) (a b:Int):Int:=k.wrap (a*2 ^ (min b.toNat k.bits))
def VS (k:IntKind) (a b:Int):Int:=a.fdiv (2 ^ (min b.toNat k.bits))
mutual
def nto:DC→Nat
 | .int _=>0
 | .bool _=>0
 | .str s=>s.length
 | .sl rows=>rows.length+ntp rows
def OQ:List DC→Nat
 | []=>0
 | d::l=>nto d+OQ l
def ntp:List (List DC)→Nat
 | []=>0
 | r::l=>OQ r+ntp l
end
def nvp:CT→Nat
 | .int k=>match k with | .i64=>8 | .u64=>8 | .i32=>4 | .u32=>4 | .i16=>2 | .u16=>2 | .i8=>1 | .u8=>1
 | .bool=>1
 | .str=>16
 | .sl _=>24
def nv8:List CT→Nat
 | []=>0
 | c::l=>nvp c+nv8 l
def npX (l:List CT):Nat:=bif l.any (fun c=>Nat.ble 8 (nvp c)) then (nv8 l+7) / 8*8 else nv8 l
mutual
def nvK:CT→DC→Bool
 | .int _,_=>true
 | .bool,_=>true
 | .str,d=>decide (d.Gr.length≤140737488351232)
 | .sl e,d=>decide (d.cl.length*npX e≤140737488351232) && d.cl.all (fun r=>VR e r)
def VR:List CT→List DC→Bool
 | [],_=>true
 | c::cs,l=>nvK c (l.headD default) && VR cs l.tail
end
theorem n8 {k:IntKind} {r:List CT} {ds:List DC} (h:ka (.int k::r) ds):∃(n:Int) (aX:List DC),ds= .int n::aX∧G3 (.int k) (.int n)∧ka r aX:=by
 simp only[ka] at h
 obtain⟨d,r',rfl,h1,h2⟩:=h
 have h1':=h1
 simp only[G3] at h1'
 obtain⟨n,rfl,_⟩:=h1'
 exact⟨n,r',rfl,h1,h2⟩
theorem nrl {r:List CT} {ds:List DC} (h:ka (.bool::r) ds):∃(n:Bool) (aX:List DC),ds= .bool n::aX∧G3 .bool (.bool n)∧ka r aX:=by
 simp only[ka] at h
 obtain⟨d,r',rfl,h1,h2⟩:=h
 have h1':=h1
 simp only[G3] at h1'
 obtain⟨n,rfl⟩:=h1'
 exact⟨n,r',rfl,h1,h2⟩
theorem rU {r:List CT} {ds:List DC} (h:ka (.str::r) ds):∃(n:Bytes) (aX:List DC),ds= .str n::aX∧G3 .str (.str n)∧ka r aX:=by
 simp only[ka] at h
 obtain⟨d,r',rfl,h1,h2⟩:=h
 have h1':=h1
 simp only[G3] at h1'
 obtain⟨n,rfl,_⟩:=h1'
 exact⟨n,r',rfl,h1,h2⟩
theorem og {e:List CT} {r:List CT} {ds:List DC} (h:ka (.sl e::r) ds):∃(n:Rows) (aX:List DC),ds= .sl n::aX∧G3 (.sl e) (.sl n)∧ka r aX:=by
 simp only[ka] at h
 obtain⟨d,r',rfl,h1,h2⟩:=h
 have h1':=h1
 simp only[G3] at h1'
 obtain⟨n,rfl,_⟩:=h1'
 exact⟨n,r',rfl,h1,h2⟩
def Part {α β:Type} (kd:α) (K:β→α) (x:α) (o:Bool) (v:Option β):Prop:=(o=true→∃b,v=some b∧x=K b)
theorem qt {α β:Type} {kd:α} {K:β→α} {b:β} :Part kd K (K b) true (some b):=fun _=>⟨b,rfl,rfl⟩
theorem ov {α β:Type} {kd:α} {K:β→α} {c o:Bool} {x:α} {v:Option β} (h:Part kd K x o v):Part kd K (bif c then x else kd) (bif c then o else false) (bif c then v else none):=by
 cases c
 ·intro h;cases h
 ·exact h
theorem rv {α β:Type} {kd:α} {K:β→α} {c o1 o2:Bool} {x y:α} {v1 v2:Option β} (h1:Part kd K x o1 v1) (h2:Part kd K y o2 v2):
  Part kd K (bif c then x else y) (bif c then o1 else o2) (bif c then v1 else v2):=by
 cases c
 ·exact h2
 ·exact h1
theorem uj {α β:Type} {kd:α} {K:β→α} {x:α} {o:Bool} {v:Option β} {d:β} (h:Part kd K x o v) (ho:o=true):x=K (v.getD d):=by
 obtain⟨b,rfl,hx⟩:=h ho
 exact hx
theorem nvn {c:CT} {cs:List CT} {d:DC} {r:List DC} (h:ka (c::cs) (d::r)):G3 c d∧ka cs r:=by
 simp only[ka,List.cons.injEq] at h
 obtain⟨_,_,⟨rfl,rfl⟩,h1,h2⟩:=h
 exact⟨h1,h2⟩
theorem nvm {c:CT} {cs:List CT} {d:DC} {r:List DC} (h1:G3 c d) (h2:ka cs r):ka (c::cs) (d::r):=by
 simp only[ka]
 exact⟨d,r,rfl,h1,h2⟩
theorem nup:ka [] []:=by simp only[ka]
theorem nr {ds:List DC} (h:ka [] ds):ds=[]:=by
 simpa only[ka] using h
theorem nw {k:IntKind} {ds:List DC} (h:ka [.int k] ds):∃n:Int,ds=[.int n]∧G3 (.int k) (.int n):=by
 obtain⟨n,aX,rfl,h1,h2⟩:=n8 h
 obtain rfl:=nr h2
 exact⟨n,rfl,h1⟩
theorem R3 {ds:List DC} (h:ka [.bool] ds):∃n:Bool,ds=[.bool n]∧G3 .bool (.bool n):=by
 obtain⟨n,aX,rfl,h1,h2⟩:=nrl h
 obtain rfl:=nr h2
 exact⟨n,rfl,h1⟩
theorem rb {ds:List DC} (h:ka [.str] ds):∃n:Bytes,ds=[.str n]∧G3 .str (.str n):=by
 obtain⟨n,aX,rfl,h1,h2⟩:=rU h
 obtain rfl:=nr h2
 exact⟨n,rfl,h1⟩
theorem qm {e:List CT} {ds:List DC} (h:ka [.sl e] ds):∃n:Rows,ds=[.sl n]∧G3 (.sl e) (.sl n):=by
 obtain⟨n,aX,rfl,h1,h2⟩:=og h
 obtain rfl:=nr h2
 exact⟨n,rfl,h1⟩
theorem qW:∀ {cs Bu:List CT} {ds:List DC},ka (cs++Bu) ds→∃d1 d2,ds=d1++d2∧ka cs d1∧ka Bu d2
 | [],_,ds,h=>⟨[],ds,rfl,nup,h⟩
 | c::cs,Bu,ds,h=>by
  simp only[List.cons_append,ka] at h
  obtain⟨d,r,rfl,h1,h2⟩:=h
  obtain⟨d1,d2,rfl,h3,h4⟩:=qW h2
  exact⟨d::d1,d2,rfl,nvm h1 h3,h4⟩
theorem oh:∀ {cs:List CT} {ds:List DC} (i:Nat) {c:CT} {d:DC},ka cs ds→cs[i]? =some c→ds[i]? =some d→G3 c d
 | [],_,i,_,_,_,hc,_=>by simp at hc
 | c::cs,ds,0,x,d,h,hc,hd=>by
  simp only[ka] at h
  obtain⟨e,r,rfl,h1,h2⟩:=h
  simp only[List.getElem?_cons_zero,Option.some.injEq] at hc hd
  subst hc hd
  exact h1
 | c::cs,ds,i+1,x,d,h,hc,hd=>by
  simp only[ka] at h
  obtain⟨e,r,rfl,h1,h2⟩:=h
  exact oh i h2 (by simpa using hc) (by simpa using hd)
theorem nu2:∀ {cs:List CT} {ds:List DC} (i:Nat),ka cs ds→ka (cs.drop i) (ds.drop i)
 | cs,ds,0,h=>h
 | [],ds,i+1,h=>by
  have:=nr h
  subst this
  exact h
 | c::cs,ds,i+1,h=>by
  simp only[ka] at h
  obtain⟨e,r,rfl,h1,h2⟩:=h
  exact nu2 i h2
theorem nu3:∀ {cs:List CT} {ds:List DC} (i:Nat),ka cs ds→ka (cs.take i) (ds.take i)
 | cs,ds,0,h=>nup
 | [],ds,i+1,h=>by
  have:=nr h
  subst this
  exact h
 | c::cs,ds,i+1,h=>by
  simp only[ka] at h
  obtain⟨e,r,rfl,h1,h2⟩:=h
  exact nvm h1 (nu3 i h2)
theorem yL {cs:List CT} {ds:List DC} (i m:Nat) (h:ka cs ds):ka ((cs.drop i).take m) ((ds.drop i).take m):=nu3 m (nu2 i h)
def nv5:CT→DC→DC
 | .int _,d=> .int d.asInt
 | .bool,d=> .bool d.asBool
 | .str,d=> .str d.Gr
 | .sl _,d=> .sl d.cl
def tq:List CT→List DC→Nat→List DC
 | [],_,_=>[]
 | c::cs,r,k=>nv5 c (r.getD k default)::tq cs r (k+1)
theorem nvI {c:CT} {d:DC} (h:G3 c d):nv5 c d=d:=by
 cases c<;>simp only[G3] at h
 ·obtain⟨x,rfl,_⟩:=h;rfl
 ·obtain⟨x,rfl⟩:=h;rfl
 ·obtain⟨x,rfl,_⟩:=h;rfl
 ·obtain⟨x,rfl,_⟩:=h;rfl
theorem ntq:∀ {cs:List CT} {r p:List DC},ka cs r→tq cs (p++r) p.length=r
 | [],r,p,h=>(nr h).symm ▸ rfl
 | c::cs,r,p,h=>by
  simp only[ka] at h
  obtain⟨e,r,rfl,h1,h2⟩:=h
  have e1:(p++e::r).getD p.length default=e:=by simp
  have e2:=ntq (p:=p++[e]) h2
  simp only[List.append_assoc,List.cons_append,List.nil_append,List.length_append,List.length_cons,List.length_nil] at e2
  simp only[tq,e1,nvI h1]
  exact congrArg (e:: ·) e2
theorem rC {cs:List CT} {r:List DC} (h:ka cs r):tq cs r 0=r:=ntq (p:=[]) h
end Go.Proofs.YtoaflbnkiobhdaaGreat.Pl
