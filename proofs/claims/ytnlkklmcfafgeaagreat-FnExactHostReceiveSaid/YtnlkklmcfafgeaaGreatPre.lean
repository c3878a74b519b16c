/- Plain words for what the machine computes. Conditions: none; these are definitions. -/
import Derived.Test.YtnlkklmcfafgeaaGreatVd
set_option linter.unusedVariables false
namespace Go.Proofs.YtnlkklmcfafgeaaGreat.Pl
open Vm
abbrev _root_.Go.Proofs.YtnlkklmcfafgeaaGreat.Vm.CT.i:CT:= .int .i64
theorem qC {P:Program} {Γ:Ctx} {A:List (Nat×lE)} (fa:bN P Γ) {g:Nat} {fn:Func} {s:Sum} (hf:P.funcs[g]? =some fn)
  (h:∀ds,kd (hD s.ps) ds→(s.fn ds).1=true→∃N,HW P Γ A N fn s ds=(true,(s.fn ds).2))
  (hc:(fn.body.isSome && (!(fn.name== "runtime.NumGoroutine") && (decide (s.ps.length≤fn.ntmps) && decide (fn.ntmps<1099511627776))))=true:=by kernel_rfl) (GP:s.pt=none:=by rfl):D_ P g s:=by
 simp only[aw,Bool.not_eq_true',eX] at hc
 exact F6 (A:=A) fa hf hc.1 hc.2.1 hc.2.2.1 hc.2.2.2 h GP
theorem nD {P:Program} {Γ:Ctx} (fa:bN P Γ) {g:Nat} {fn:Func} {s:Sum} (hf:P.funcs[g]? =some fn)
  (h:∀ds,kd (hD s.ps) ds→(s.fn ds).1=true→∃N,HW P Γ [] N fn s ds=(true,(s.fn ds).2))
  (hc:(fn.body.isSome && (!(fn.name== "runtime.NumGoroutine") && (decide (s.ps.length≤fn.ntmps) && decide (fn.ntmps<1099511627776))))=true:=by kernel_rfl) (GP:s.pt=none:=by rfl):D_ P g s:=qC (A:=[]) fa hf h hc GP
theorem NR {P:Program} {Γ:Ctx} {A:List (Nat×lE)} (fa:bN P Γ) {g:Nat} {fn:Func} {s:Sum} (hf:P.funcs[g]? =some fn)
  (h:∀ds,kd (hD s.ps) ds→(s.fn ds).1=true→∃N,G1 P Γ A N fn s ds=(true,(s.fn ds).2))
  (hc:(fn.body.isSome && (!(fn.name== "runtime.NumGoroutine") && (decide (s.ps.length≤fn.ntmps) && (decide (fn.ntmps<1099511627776) && !(shares s)))))=true:=by kernel_rfl)
  (dZ:∀ds,fb ((cG 0 s.ps s.ms ds).2.map (·.1))=true:=by intro ds;kernel_rfl):Cm P g s:=by
 simp only[aw,Bool.not_eq_true',eX] at hc
 exact FL (A:=A) fa hf hc.1 hc.2.1 hc.2.2.1 hc.2.2.2.1 hc.2.2.2.2 dZ h
theorem nzR {P:Program} {g:Nat} {s s1 s2:Sum} (h1:D_ P g s1) (h2:D_ P g s2) (p1:s1.ps=s.ps) (r1:s1.rs=s.rs) (p2:s2.ps=s.ps) (r2:s2.rs=s.rs)
  (f1:∀ds,(s1.fn ds).2=(s.fn ds).2) (f2:∀ds,(s2.fn ds).2=(s.fn ds).2) (ho:∀ds,(s.fn ds).1=true→(s1.fn ds).1=true∨(s2.fn ds).1=true):D_ P g s:=by
 refine⟨h1.1,fun w ds vals fp ha hs=> ?_⟩
 rcases ho ds hs with h | h
 ·have:=h1.2 w ds vals fp (by rw[p1];exact ha) h
  rwa [f1,r1] at this
 ·have:=h2.2 w ds vals fp (by rw[p2];exact ha) h
  rwa [f2,r2] at this
theorem nzX {a c:Bool} (h:a=true):(a && c)=true∨(a && !c)=true:=by
 subst h
 cases c<;>simp
theorem eT {α:Type} {x b y z:α} (h:b=y) (h1:x=b:=by kernel_rfl) (h2:y=z:=by kernel_rfl):x=z:=h1.trans (h.trans h2)
theorem eL {α σ:Type} {x y z:α} {l l':σ} (f:σ→α) (hl:l=l') (h:f l'=y) (h1:x=f l:=by kernel_rfl) (h2:y=z:=by kernel_rfl):x=z:=h1.trans ((congrArg f hl).trans (h.trans h2))
theorem nL1 {σ0:Type} (B:(St→kM)→St→kM) (m:σ0→St) (l:(σ0→kM)→σ0→kM) (k:Nat) (h:∀ih a0,B ih (m a0)=l (fun a0=>ih (m a0)) a0:=by intros;kernel_rfl):(fun a0=>LX B k (m a0))=Nat.rec (motive:=fun _=>σ0→kM) (fun _=>Vm.kf) (fun _ ih=>l ih) k:=by
 induction k with
 | zero=>rfl
 | succ k ih=>exact funext fun a0=>(h _ a0).trans (congrArg (fun f=>l f a0) ih)
theorem Te {σ0 σ1:Type} (B:(St→kM)→St→kM) (m:σ0→σ1→St) (l:(σ0→σ1→kM)→σ0→σ1→kM) (k:Nat) (h:∀ih a0 a1,B ih (m a0 a1)=l (fun a0 a1=>ih (m a0 a1)) a0 a1:=by intros;kernel_rfl):(fun a0 a1=>LX B k (m a0 a1))=Nat.rec (motive:=fun _=>σ0→σ1→kM) (fun _ _=>Vm.kf) (fun _ ih=>l ih) k:=by
 induction k with
 | zero=>rfl
 | succ k ih=>exact funext fun a0=>funext fun a1=>(h _ a0 a1).trans (congrArg (fun f=>l f a0 a1) ih)
theorem nL3 {σ0 σ1 σ2:Type} (B:(St→kM)→St→kM) (m:σ0→σ1→σ2→St) (l:(σ0→σ1→σ2→kM)→σ0→σ1→σ2→kM) (k:Nat) (h:∀ih a0 a1 a2,B ih (m a0 a1 a2)=l (fun a0 a1 a2=>ih (m a0 a1 a2)) a0 a1 a2:=by intros;kernel_rfl):(fun a0 a1 a2=>LX B k (m a0 a1 a2))=Nat.rec (motive:=fun _=>σ0→σ1→σ2→kM) (fun _ _ _=>Vm.kf) (fun _ ih=>l ih) k:=by
 induction k with
 | zero=>rfl
 | succ k ih=>exact funext fun a0=>funext fun a1=>funext fun a2=>(h _ a0 a1 a2).trans (congrArg (fun f=>l f a0 a1 a2) ih)
theorem nL4 {σ0 σ1 σ2 σ3:Type} (B:(St→kM)→St→kM) (m:σ0→σ1→σ2→σ3→St) (l:(σ0→σ1→σ2→σ3→kM)→σ0→σ1→σ2→σ3→kM) (k:Nat) (h:∀ih a0 a1 a2 a3,B ih (m a0 a1 a2 a3)=l (fun a0 a1 a2 a3=>ih (m a0 a1 a2 a3)) a0 a1 a2 a3:=by intros;kernel_rfl):(fun a0 a1 a2 a3=>LX B k (m a0 a1 a2 a3))=Nat.rec (motive:=fun _=>σ0→σ1→σ2→σ3→kM) (fun _ _ _ _=>Vm.kf) (fun _ ih=>l ih) k:=by
 induction k with
 | zero=>rfl
 | succ k ih=>exact funext fun a0=>funext fun a1=>funext fun a2=>funext fun a3=>(h _ a0 a1 a2 a3).trans (congrArg (fun f=>l f a0 a1 a2 a3) ih)
noncomputable def shut {α:Type} (a:α):α:=Classical.choose (⟨a,rfl⟩:∃x,x=a)
theorem nAr {α:Type} (a:α):shut a=a:=Classical.choose_spec (⟨a,rfl⟩:∃x,x=a)
abbrev Bytes:=List UInt8
abbrev Rows:=List (List DC)
def nL (x:Int):Int:=IntKind.wrap .i64 x
def rI (r:List DC) (k:Nat):Int:=(r.getD k default).asInt
def rB (r:List DC) (k:Nat):Bool:=(r.getD k default).asBool
def rS (r:List DC) (k:Nat):Bytes:=(r.getD k default).Gt
def rR (r:List DC) (k:Nat):Rows:=(r.getD k default).cV
def nth (r:Rows) (n:Nat):List DC:=r.getD n []
def len {α:Type} (l:List α):Int:=(l.length:Int)
def idx {α:Type} (n:Int) (l:List α):Bool:=decide (0≤n) && decide (n<l.length)
def inl {α:Type} (n:Nat) (l:List α):Bool:=decide (n<l.length)
def zi {α:Type} (l:List α) (a:Int):List α:=(l.take l.length).drop a.toNat
def Pr {α:Type} (l:List α) (b:Int):List α:=(l.take b.toNat).drop 0
def npQ {α:Type} (l:List α) (a b:Int):List α:=(l.take b.toNat).drop a.toNat
def okL {α:Type} (l:List α) (a:Int):Bool:=decide (0≤a) && decide (a≤l.length)
def okH {α:Type} (l:List α) (b:Int):Bool:=decide (0≤b) && decide (b≤l.length)
def nxg {α:Type} (l:List α) (a b:Int):Bool:=decide (0≤a) && decide (a≤b) && decide (b≤l.length)
def qx (z:Nat) (r q:Rows):Bool:=decide ((r.length+q.length)*z≤140737488355328) && decide (r.length+q.length≤9223372036854775807)
def xq (z:Nat) (n m:Int):Bool:=decide (0≤n) && decide (n≤m) && decide (m.toNat*z≤140737488355328) && decide (m≤9223372036854775807)
def oz (a b:Bytes):Bool:=decide (a.length+b.length≤9223372036854775807)
def wV (s:Bytes) (n:Int):Int:=((s.getD n.toNat 0).toNat:Int)
def toStr (r:Rows):Bytes:=r.map Vm.byteOf
def ofStr (s:Bytes):Rows:=s.map Vm.cY
def cpN (s:Bytes) (r:Rows) (lo:Nat):Int:=((min s.length (r.length - lo):Nat):Int)
def cpR (s:Bytes) (r:Rows) (lo:Nat):Rows:=r.take lo++(ofStr (s.take (r.length - lo))++r.drop (lo+min s.length (r.length - lo)))
def wD (a b:Int):Int:=if b<a then b else a
def Zb (k:IntKind) (a b:Int):Int:=k.wrap (a*2 ^ (min b.toNat k.bits))
def wE (k:IntKind) (a b:Int):Int:=a.fdiv (2 ^ (min b.toNat k.bits))
mutual
def nwz:DC→Nat
 | .int _=>0
 | .bool _=>0
 | .str s=>s.length
 | .sl rows=>rows.length+nwA rows
def Pu:List DC→Nat
 | []=>0
 | d::l=>nwz d+Pu l
def nwA:List (List DC)→Nat
 | []=>0
 | r::l=>Pu r+nwA l
end
def nyN:CT→Nat
 | .int k=>match k with | .i64=>8 | .u64=>8 | .i32=>4 | .u32=>4 | .i16=>2 | .u16=>2 | .i8=>1 | .u8=>1
 | .bool=>1
 | .str=>16
 | .sl _=>24
def nzM:List CT→Nat
 | []=>0
 | c::l=>nyN c+nzM l
def nsQ (l:List CT):Nat:=bif l.any (fun c=>Nat.ble 8 (nyN c)) then (nzM l+7) / 8*8 else nzM l
mutual
def nzb:CT→DC→Bool
 | .int _,_=>true
 | .bool,_=>true
 | .str,d=>decide (d.Gt.length≤140737488351232)
 | .sl e,d=>decide (d.cV.length*nsQ e≤140737488351232) && d.cV.all (fun r=>W9 e r)
def W9:List CT→List DC→Bool
 | [],_=>true
 | c::cs,l=>nzb c (l.headD default) && W9 cs l.tail
end
theorem nN {k:IntKind} {r:List CT} {ds:List DC} (h:kd (.int k::r) ds):∃(n:Int) (bc:List DC),ds= .int n::bc∧G5 (.int k) (.int n)∧kd r bc:=by
 simp only[kd] at h
 obtain⟨d,r',rfl,h1,h2⟩:=h
 have h1':=h1
 simp only[G5] at h1'
 obtain⟨n,rfl,_⟩:=h1'
 exact⟨n,r',rfl,h1,h2⟩
theorem nui {r:List CT} {ds:List DC} (h:kd (.bool::r) ds):∃(n:Bool) (bc:List DC),ds= .bool n::bc∧G5 .bool (.bool n)∧kd r bc:=by
 simp only[kd] at h
 obtain⟨d,r',rfl,h1,h2⟩:=h
 have h1':=h1
 simp only[G5] at h1'
 obtain⟨n,rfl⟩:=h1'
 exact⟨n,r',rfl,h1,h2⟩
theorem rA {r:List CT} {ds:List DC} (h:kd (.str::r) ds):∃(n:Bytes) (bc:List DC),ds= .str n::bc∧G5 .str (.str n)∧kd r bc:=by
 simp only[kd] at h
 obtain⟨d,r',rfl,h1,h2⟩:=h
 have h1':=h1
 simp only[G5] at h1'
 obtain⟨n,rfl,_⟩:=h1'
 exact⟨n,r',rfl,h1,h2⟩
theorem nW {e:List CT} {r:List CT} {ds:List DC} (h:kd (.sl e::r) ds):∃(n:Rows) (bc:List DC),ds= .sl n::bc∧G5 (.sl e) (.sl n)∧kd r bc:=by
 simp only[kd] at h
 obtain⟨d,r',rfl,h1,h2⟩:=h
 have h1':=h1
 simp only[G5] at h1'
 obtain⟨n,rfl,_⟩:=h1'
 exact⟨n,r',rfl,h1,h2⟩
def Part {α β:Type} (kf:α) (K:β→α) (x:α) (o:Bool) (v:Option β):Prop:=(o=true→∃b,v=some b∧x=K b)
theorem pP {α β:Type} {kf:α} {K:β→α} {b:β} :Part kf K (K b) true (some b):=fun _=>⟨b,rfl,rfl⟩
theorem oe {α β:Type} {kf:α} {K:β→α} {c o:Bool} {x:α} {v:Option β} (h:Part kf K x o v):Part kf K (bif c then x else kf) (bif c then o else false) (bif c then v else none):=by
 cases c
 ·intro h;cases h
 ·exact h
theorem rC {α β:Type} {kf:α} {K:β→α} {c o1 o2:Bool} {x y:α} {v1 v2:Option β} (h1:Part kf K x o1 v1) (h2:Part kf K y o2 v2):
  Part kf K (bif c then x else y) (bif c then o1 else o2) (bif c then v1 else v2):=by
 cases c
 ·exact h2
 ·exact h1
theorem uo {α β:Type} {kf:α} {K:β→α} {x:α} {o:Bool} {v:Option β} {d:β} (h:Part kf K x o v) (ho:o=true):x=K (v.getD d):=by
 obtain⟨b,rfl,hx⟩:=h ho
 exact hx
theorem nyL {c:CT} {cs:List CT} {d:DC} {r:List DC} (h:kd (c::cs) (d::r)):G5 c d∧kd cs r:=by
 simp only[kd,List.cons.injEq] at h
 obtain⟨_,_,⟨rfl,rfl⟩,h1,h2⟩:=h
 exact⟨h1,h2⟩
theorem nyK {c:CT} {cs:List CT} {d:DC} {r:List DC} (h1:G5 c d) (h2:kd cs r):kd (c::cs) (d::r):=by
 simp only[kd]
 exact⟨d,r,rfl,h1,h2⟩
theorem nxz:kd [] []:=by simp only[kd]
theorem nk {ds:List DC} (h:kd [] ds):ds=[]:=by
 simpa only[kd] using h
theorem nx {k:IntKind} {ds:List DC} (h:kd [.int k] ds):∃n:Int,ds=[.int n]∧G5 (.int k) (.int n):=by
 obtain⟨n,bc,rfl,h1,h2⟩:=nN h
 obtain rfl:=nk h2
 exact⟨n,rfl,h1⟩
theorem zB {ds:List DC} (h:kd [.bool] ds):∃n:Bool,ds=[.bool n]∧G5 .bool (.bool n):=by
 obtain⟨n,bc,rfl,h1,h2⟩:=nui h
 obtain rfl:=nk h2
 exact⟨n,rfl,h1⟩
theorem oC {ds:List DC} (h:kd [.str] ds):∃n:Bytes,ds=[.str n]∧G5 .str (.str n):=by
 obtain⟨n,bc,rfl,h1,h2⟩:=rA h
 obtain rfl:=nk h2
 exact⟨n,rfl,h1⟩
theorem pL {e:List CT} {ds:List DC} (h:kd [.sl e] ds):∃n:Rows,ds=[.sl n]∧G5 (.sl e) (.sl n):=by
 obtain⟨n,bc,rfl,h1,h2⟩:=nW h
 obtain rfl:=nk h2
 exact⟨n,rfl,h1⟩
theorem qB:∀ {cs Bx:List CT} {ds:List DC},kd (cs++Bx) ds→∃d1 d2,ds=d1++d2∧kd cs d1∧kd Bx d2
 | [],_,ds,h=>⟨[],ds,rfl,nxz,h⟩
 | c::cs,Bx,ds,h=>by
  simp only[List.cons_append,kd] at h
  obtain⟨d,r,rfl,h1,h2⟩:=h
  obtain⟨d1,d2,rfl,h3,h4⟩:=qB h2
  exact⟨d::d1,d2,rfl,nyK h1 h3,h4⟩
theorem n_:∀ {cs:List CT} {ds:List DC} (i:Nat) {c:CT} {d:DC},kd cs ds→cs[i]? =some c→ds[i]? =some d→G5 c d
 | [],_,i,_,_,_,hc,_=>by simp at hc
 | c::cs,ds,0,x,d,h,hc,hd=>by
  simp only[kd] at h
  obtain⟨e,r,rfl,h1,h2⟩:=h
  simp only[List.getElem?_cons_zero,aa] at hc hd
  subst hc hd
  exact h1
 | c::cs,ds,i+1,x,d,h,hc,hd=>by
  simp only[kd] at h
  obtain⟨e,r,rfl,h1,h2⟩:=h
  exact n_ i h2 (by simpa using hc) (by simpa using hd)
theorem nyg:∀ {cs:List CT} {ds:List DC} (i:Nat),kd cs ds→kd (cs.drop i) (ds.drop i)
 | cs,ds,0,h=>h
 | [],ds,i+1,h=>by
  have:=nk h
  subst this
  exact h
 | c::cs,ds,i+1,h=>by
  simp only[kd] at h
  obtain⟨e,r,rfl,h1,h2⟩:=h
  exact nyg i h2
theorem nyh:∀ {cs:List CT} {ds:List DC} (i:Nat),kd cs ds→kd (cs.take i) (ds.take i)
 | cs,ds,0,h=>nxz
 | [],ds,i+1,h=>by
  have:=nk h
  subst this
  exact h
 | c::cs,ds,i+1,h=>by
  simp only[kd] at h
  obtain⟨e,r,rfl,h1,h2⟩:=h
  exact nyK h1 (nyh i h2)
theorem zg {cs:List CT} {ds:List DC} (i m:Nat) (h:kd cs ds):kd ((cs.drop i).take m) ((ds.drop i).take m):=nyh m (nyg i h)
def nzJ:CT→DC→DC
 | .int _,d=> .int d.asInt
 | .bool,d=> .bool d.asBool
 | .str,d=> .str d.Gt
 | .sl _,d=> .sl d.cV
def tf:List CT→List DC→Nat→List DC
 | [],_,_=>[]
 | c::cs,r,k=>nzJ c (r.getD k default)::tf cs r (k+1)
theorem ny8 {c:CT} {d:DC} (h:G5 c d):nzJ c d=d:=by
 cases c<;>simp only[G5] at h
 ·obtain⟨x,rfl,_⟩:=h;rfl
 ·obtain⟨x,rfl⟩:=h;rfl
 ·obtain⟨x,rfl,_⟩:=h;rfl
 ·obtain⟨x,rfl,_⟩:=h;rfl
theorem nwB:∀ {cs:List CT} {r p:List DC},kd cs r→tf cs (p++r) p.length=r
 | [],r,p,h=>(nk h).symm ▸ rfl
 | c::cs,r,p,h=>by
  simp only[kd] at h
  obtain⟨e,r,rfl,h1,h2⟩:=h
  have e1:(p++e::r).getD p.length default=e:=by simp
  have e2:=nwB (p:=p++[e]) h2
  simp only[List.append_assoc,List.cons_append,List.nil_append,fv,dx,List.length_nil] at e2
  simp only[tf,e1,ny8 h1]
  exact congrArg (e:: ·) e2
theorem rL {cs:List CT} {r:List DC} (h:kd cs r):tf cs r 0=r:=nwB (p:=[]) h
end Go.Proofs.YtnlkklmcfafgeaaGreat.Pl
