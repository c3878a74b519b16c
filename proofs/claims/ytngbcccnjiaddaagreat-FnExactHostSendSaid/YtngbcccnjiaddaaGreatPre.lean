/- Plain words for what the machine computes. Conditions: none; these are definitions. -/
import Derived.Test.YtngbcccnjiaddaaGreatVd
set_option linter.unusedVariables false
namespace Go.Proofs.YtngbcccnjiaddaaGreat.Pl
open Vm
abbrev _root_.Go.Proofs.YtngbcccnjiaddaaGreat.Vm.CT.i:CT:= .int .i64
theorem nO {P:Program} {Γ:Ctx} {A:List (Nat×lE)} (eR:bF P Γ) {g:Nat} {fn:Func} {s:Sum} (hf:P.funcs[g]? =some fn)
  (h:∀ds,kc (gV s.ps) ds→(s.fn ds).1=true→∃N,HT P Γ A N fn s ds=(true,(s.fn ds).2))
  (hc:(fn.body.isSome && (!(fn.name== "runtime.NumGoroutine") && (decide (s.ps.length≤fn.ntmps) && decide (fn.ntmps<1099511627776))))=true:=by kernel_rfl) (GM:s.pt=none:=by rfl):D8 P g s:=by
 simp only[Bool.and_eq_true,Bool.not_eq_true',decide_eq_true_eq] at hc
 exact F3 (A:=A) eR hf hc.1 hc.2.1 hc.2.2.1 hc.2.2.2 h GM
theorem OH {P:Program} {Γ:Ctx} {A:List (Nat×lE)} (eR:bF P Γ) {g:Nat} {fn:Func} {s:Sum} (hf:P.funcs[g]? =some fn)
  (h:∀ds,kc (gV s.ps) ds→(s.fn ds).1=true→∃N,GX P Γ A N fn s ds=(true,(s.fn ds).2))
  (hc:(fn.body.isSome && (!(fn.name== "runtime.NumGoroutine") && (decide (s.ps.length≤fn.ntmps) && (decide (fn.ntmps<1099511627776) && !(shares s)))))=true:=by kernel_rfl)
  (dR:∀ds,eS ((cz 0 s.ps s.ms ds).2.map (·.1))=true:=by intro ds;kernel_rfl):Cm P g s:=by
 simp only[Bool.and_eq_true,Bool.not_eq_true',decide_eq_true_eq] at hc
 exact FH (A:=A) eR hf hc.1 hc.2.1 hc.2.2.1 hc.2.2.2.1 hc.2.2.2.2 dR h
theorem eT {α:Type} {x b y z:α} (h:b=y) (h1:x=b:=by kernel_rfl) (h2:y=z:=by kernel_rfl):x=z:=h1.trans (h.trans h2)
theorem eL {α σ:Type} {x y z:α} {l l':σ} (f:σ→α) (hl:l=l') (h:f l'=y) (h1:x=f l:=by kernel_rfl) (h2:y=z:=by kernel_rfl):x=z:=h1.trans ((congrArg f hl).trans (h.trans h2))
theorem nL1 {σ0:Type} (B:(St→kM)→St→kM) (m:σ0→St) (l:(σ0→kM)→σ0→kM) (k:Nat) (h:∀ih a0,B ih (m a0)=l (fun a0=>ih (m a0)) a0:=by intros;kernel_rfl):(fun a0=>LR B k (m a0))=Nat.rec (motive:=fun _=>σ0→kM) (fun _=>Vm.ke) (fun _ ih=>l ih) k:=by
 induction k with
 | zero=>rfl
 | succ k ih=>exact funext fun a0=>(h _ a0).trans (congrArg (fun f=>l f a0) ih)
theorem Wq {σ0 σ1:Type} (B:(St→kM)→St→kM) (m:σ0→σ1→St) (l:(σ0→σ1→kM)→σ0→σ1→kM) (k:Nat) (h:∀ih a0 a1,B ih (m a0 a1)=l (fun a0 a1=>ih (m a0 a1)) a0 a1:=by intros;kernel_rfl):(fun a0 a1=>LR B k (m a0 a1))=Nat.rec (motive:=fun _=>σ0→σ1→kM) (fun _ _=>Vm.ke) (fun _ ih=>l ih) k:=by
 induction k with
 | zero=>rfl
 | succ k ih=>exact funext fun a0=>funext fun a1=>(h _ a0 a1).trans (congrArg (fun f=>l f a0 a1) ih)
theorem nL3 {σ0 σ1 σ2:Type} (B:(St→kM)→St→kM) (m:σ0→σ1→σ2→St) (l:(σ0→σ1→σ2→kM)→σ0→σ1→σ2→kM) (k:Nat) (h:∀ih a0 a1 a2,B ih (m a0 a1 a2)=l (fun a0 a1 a2=>ih (m a0 a1 a2)) a0 a1 a2:=by intros;kernel_rfl):(fun a0 a1 a2=>LR B k (m a0 a1 a2))=Nat.rec (motive:=fun _=>σ0→σ1→σ2→kM) (fun _ _ _=>Vm.ke) (fun _ ih=>l ih) k:=by
 induction k with
 | zero=>rfl
 | succ k ih=>exact funext fun a0=>funext fun a1=>funext fun a2=>(h _ a0 a1 a2).trans (congrArg (fun f=>l f a0 a1 a2) ih)
theorem nL4 {σ0 σ1 σ2 σ3:Type} (B:(St→kM)→St→kM) (m:σ0→σ1→σ2→σ3→St) (l:(σ0→σ1→σ2→σ3→kM)→σ0→σ1→σ2→σ3→kM) (k:Nat) (h:∀ih a0 a1 a2 a3,B ih (m a0 a1 a2 a3)=l (fun a0 a1 a2 a3=>ih (m a0 a1 a2 a3)) a0 a1 a2 a3:=by intros;kernel_rfl):(fun a0 a1 a2 a3=>LR B k (m a0 a1 a2 a3))=Nat.rec (motive:=fun _=>σ0→σ1→σ2→σ3→kM) (fun _ _ _ _=>Vm.ke) (fun _ ih=>l ih) k:=by
 induction k with
 | zero=>rfl
 | succ k ih=>exact funext fun a0=>funext fun a1=>funext fun a2=>funext fun a3=>(h _ a0 a1 a2 a3).trans (congrArg (fun f=>l f a0 a1 a2 a3) ih)
theorem nL6 {σ0 σ1 σ2 σ3 σ4 σ5:Type} (B:(St→kM)→St→kM) (m:σ0→σ1→σ2→σ3→σ4→σ5→St) (l:(σ0→σ1→σ2→σ3→σ4→σ5→kM)→σ0→σ1→σ2→σ3→σ4→σ5→kM) (k:Nat) (h:∀ih a0 a1 a2 a3 a4 a5,B ih (m a0 a1 a2 a3 a4 a5)=l (fun a0 a1 a2 a3 a4 a5=>ih (m a0 a1 a2 a3 a4 a5)) a0 a1 a2 a3 a4 a5:=by intros;kernel_rfl):(fun a0 a1 a2 a3 a4 a5=>LR B k (m a0 a1 a2 a3 a4 a5))=Nat.rec (motive:=fun _=>σ0→σ1→σ2→σ3→σ4→σ5→kM) (fun _ _ _ _ _ _=>Vm.ke) (fun _ ih=>l ih) k:=by
 induction k with
 | zero=>rfl
 | succ k ih=>exact funext fun a0=>funext fun a1=>funext fun a2=>funext fun a3=>funext fun a4=>funext fun a5=>(h _ a0 a1 a2 a3 a4 a5).trans (congrArg (fun f=>l f a0 a1 a2 a3 a4 a5) ih)
noncomputable def shut {α:Type} (a:α):α:=Classical.choose (⟨a,rfl⟩:∃x,x=a)
theorem nCj {α:Type} (a:α):shut a=a:=Classical.choose_spec (⟨a,rfl⟩:∃x,x=a)
abbrev Bytes:=List UInt8
abbrev Rows:=List (List DC)
def nM (x:Int):Int:=IntKind.wrap .i64 x
def rI (r:List DC) (k:Nat):Int:=(r.getD k default).asInt
def rB (r:List DC) (k:Nat):Bool:=(r.getD k default).asBool
def rS (r:List DC) (k:Nat):Bytes:=(r.getD k default).Gq
def rR (r:List DC) (k:Nat):Rows:=(r.getD k default).cT
def nth (r:Rows) (n:Nat):List DC:=r.getD n []
def len {α:Type} (l:List α):Int:=(l.length:Int)
def idx {α:Type} (n:Int) (l:List α):Bool:=decide (0≤n) && decide (n<l.length)
def inl {α:Type} (n:Nat) (l:List α):Bool:=decide (n<l.length)
def zw {α:Type} (l:List α) (a:Int):List α:=(l.take l.length).drop a.toNat
def ym {α:Type} (l:List α) (b:Int):List α:=(l.take b.toNat).drop 0
def nB1 {α:Type} (l:List α) (a b:Int):List α:=(l.take b.toNat).drop a.toNat
def okL {α:Type} (l:List α) (a:Int):Bool:=decide (0≤a) && decide (a≤l.length)
def okH {α:Type} (l:List α) (b:Int):Bool:=decide (0≤b) && decide (b≤l.length)
def nCN {α:Type} (l:List α) (a b:Int):Bool:=decide (0≤a) && decide (a≤b) && decide (b≤l.length)
def oY (z:Nat) (r q:Rows):Bool:=decide ((r.length+q.length)*z≤140737488355328) && decide (r.length+q.length≤9223372036854775807)
def yB (z:Nat) (n m:Int):Bool:=decide (0≤n) && decide (n≤m) && decide (m.toNat*z≤140737488355328) && decide (m≤9223372036854775807)
def ou (a b:Bytes):Bool:=decide (a.length+b.length≤9223372036854775807)
def SR (s:Bytes) (n:Int):Int:=((s.getD n.toNat 0).toNat:Int)
def toStr (r:Rows):Bytes:=r.map Vm.byteOf
def ofStr (s:Bytes):Rows:=s.map Vm.cQ
def cpN (s:Bytes) (r:Rows) (lo:Nat):Int:=((min s.length (r.length - lo):Nat):Int)
def cpR (s:Bytes) (r:Rows) (lo:Nat):Rows:=r.take lo++(ofStr (s.take (r.length - lo))++r.drop (lo+min s.length (r.length - lo)))
def vw (a b:Int):Int:=if b<a then b else a
def nAK (k:IntKind) (a b:Int):Int:=k.wrap (a*2 ^ (min b.toNat k.bits))
def ndb (k:IntKind) (a b:Int):Int:=a.fdiv (2 ^ (min b.toNat k.bits))
mutual
def nyh:DC→Nat
 | .int _=>0
 | .bool _=>0
 | .str s=>s.length
 | .sl rows=>rows.length+nyi rows
def OG:List DC→Nat
 | []=>0
 | d::l=>nyh d+OG l
def nyi:List (List DC)→Nat
 | []=>0
 | r::l=>OG r+nyi l
end
def nAQ:CT→Nat
 | .int k=>match k with | .i64=>8 | .u64=>8 | .i32=>4 | .u32=>4 | .i16=>2 | .u16=>2 | .i8=>1 | .u8=>1
 | .bool=>1
 | .str=>16
 | .sl _=>24
def nBL:List CT→Nat
 | []=>0
 | c::l=>nAQ c+nBL l
def ntb (l:List CT):Nat:=bif l.any (fun c=>Nat.ble 8 (nAQ c)) then (nBL l+7) / 8*8 else nBL l
mutual
def nBb:CT→DC→Bool
 | .int _,_=>true
 | .bool,_=>true
 | .str,d=>decide (d.Gq.length≤140737488351232)
 | .sl e,d=>decide (d.cT.length*ntb e≤140737488351232) && d.cT.all (fun r=>Ws e r)
def Ws:List CT→List DC→Bool
 | [],_=>true
 | c::cs,l=>nBb c (l.headD default) && Ws cs l.tail
end
theorem nj {k:IntKind} {r:List CT} {ds:List DC} (h:kc (.int k::r) ds):∃(n:Int) (aZ:List DC),ds= .int n::aZ∧G1 (.int k) (.int n)∧kc r aZ:=by
 simp only[kc] at h
 obtain⟨d,r',rfl,h1,h2⟩:=h
 have h1':=h1
 simp only[G1] at h1'
 obtain⟨n,rfl,_⟩:=h1'
 exact⟨n,r',rfl,h1,h2⟩
theorem Rh {r:List CT} {ds:List DC} (h:kc (.bool::r) ds):∃(n:Bool) (aZ:List DC),ds= .bool n::aZ∧G1 .bool (.bool n)∧kc r aZ:=by
 simp only[kc] at h
 obtain⟨d,r',rfl,h1,h2⟩:=h
 have h1':=h1
 simp only[G1] at h1'
 obtain⟨n,rfl⟩:=h1'
 exact⟨n,r',rfl,h1,h2⟩
theorem qj {r:List CT} {ds:List DC} (h:kc (.str::r) ds):∃(n:Bytes) (aZ:List DC),ds= .str n::aZ∧G1 .str (.str n)∧kc r aZ:=by
 simp only[kc] at h
 obtain⟨d,r',rfl,h1,h2⟩:=h
 have h1':=h1
 simp only[G1] at h1'
 obtain⟨n,rfl,_⟩:=h1'
 exact⟨n,r',rfl,h1,h2⟩
theorem nH {e:List CT} {r:List CT} {ds:List DC} (h:kc (.sl e::r) ds):∃(n:Rows) (aZ:List DC),ds= .sl n::aZ∧G1 (.sl e) (.sl n)∧kc r aZ:=by
 simp only[kc] at h
 obtain⟨d,r',rfl,h1,h2⟩:=h
 have h1':=h1
 simp only[G1] at h1'
 obtain⟨n,rfl,_⟩:=h1'
 exact⟨n,r',rfl,h1,h2⟩
def Part {α β:Type} (ke:α) (K:β→α) (x:α) (o:Bool) (v:Option β):Prop:=(o=true→∃b,v=some b∧x=K b)
theorem pz {α β:Type} {ke:α} {K:β→α} {b:β} :Part ke K (K b) true (some b):=fun _=>⟨b,rfl,rfl⟩
theorem oe {α β:Type} {ke:α} {K:β→α} {c o:Bool} {x:α} {v:Option β} (h:Part ke K x o v):Part ke K (bif c then x else ke) (bif c then o else false) (bif c then v else none):=by
 cases c
 ·intro h;cases h
 ·exact h
theorem qJ {α β:Type} {ke:α} {K:β→α} {c o1 o2:Bool} {x y:α} {v1 v2:Option β} (h1:Part ke K x o1 v1) (h2:Part ke K y o2 v2):
  Part ke K (bif c then x else y) (bif c then o1 else o2) (bif c then v1 else v2):=by
 cases c
 ·exact h2
 ·exact h1
theorem tD {α β:Type} {ke:α} {K:β→α} {x:α} {o:Bool} {v:Option β} {d:β} (h:Part ke K x o v) (ho:o=true):x=K (v.getD d):=by
 obtain⟨b,rfl,hx⟩:=h ho
 exact hx
theorem nAO {c:CT} {cs:List CT} {d:DC} {r:List DC} (h:kc (c::cs) (d::r)):G1 c d∧kc cs r:=by
 simp only[kc,List.cons.injEq] at h
 obtain⟨_,_,⟨rfl,rfl⟩,h1,h2⟩:=h
 exact⟨h1,h2⟩
theorem nAN {c:CT} {cs:List CT} {d:DC} {r:List DC} (h1:G1 c d) (h2:kc cs r):kc (c::cs) (d::r):=by
 simp only[kc]
 exact⟨d,r,rfl,h1,h2⟩
theorem nzr:kc [] []:=by simp only[kc]
theorem nc {ds:List DC} (h:kc [] ds):ds=[]:=by
 simpa only[kc] using h
theorem qk:∀ {cs Bw:List CT} {ds:List DC},kc (cs++Bw) ds→∃d1 d2,ds=d1++d2∧kc cs d1∧kc Bw d2
 | [],_,ds,h=>⟨[],ds,rfl,nzr,h⟩
 | c::cs,Bw,ds,h=>by
  simp only[List.cons_append,kc] at h
  obtain⟨d,r,rfl,h1,h2⟩:=h
  obtain⟨d1,d2,rfl,h3,h4⟩:=qk h2
  exact⟨d::d1,d2,rfl,nAN h1 h3,h4⟩
theorem oz:∀ {cs:List CT} {ds:List DC} (i:Nat) {c:CT} {d:DC},kc cs ds→cs[i]? =some c→ds[i]? =some d→G1 c d
 | [],_,i,_,_,_,hc,_=>by simp at hc
 | c::cs,ds,0,x,d,h,hc,hd=>by
  simp only[kc] at h
  obtain⟨e,r,rfl,h1,h2⟩:=h
  simp only[List.getElem?_cons_zero,Option.some.injEq] at hc hd
  subst hc hd
  exact h1
 | c::cs,ds,i+1,x,d,h,hc,hd=>by
  simp only[kc] at h
  obtain⟨e,r,rfl,h1,h2⟩:=h
  exact oz i h2 (by simpa using hc) (by simpa using hd)
theorem nAm:∀ {cs:List CT} {ds:List DC} (i:Nat),kc cs ds→kc (cs.drop i) (ds.drop i)
 | cs,ds,0,h=>h
 | [],ds,i+1,h=>by
  have:=nc h
  subst this
  exact h
 | c::cs,ds,i+1,h=>by
  simp only[kc] at h
  obtain⟨e,r,rfl,h1,h2⟩:=h
  exact nAm i h2
theorem nAn:∀ {cs:List CT} {ds:List DC} (i:Nat),kc cs ds→kc (cs.take i) (ds.take i)
 | cs,ds,0,h=>nzr
 | [],ds,i+1,h=>by
  have:=nc h
  subst this
  exact h
 | c::cs,ds,i+1,h=>by
  simp only[kc] at h
  obtain⟨e,r,rfl,h1,h2⟩:=h
  exact nAN h1 (nAn i h2)
theorem yl {cs:List CT} {ds:List DC} (i m:Nat) (h:kc cs ds):kc ((cs.drop i).take m) ((ds.drop i).take m):=nAn m (nAm i h)
def nBJ:CT→DC→DC
 | .int _,d=> .int d.asInt
 | .bool,d=> .bool d.asBool
 | .str,d=> .str d.Gq
 | .sl _,d=> .sl d.cT
def su:List CT→List DC→Nat→List DC
 | [],_,_=>[]
 | c::cs,r,k=>nBJ c (r.getD k default)::su cs r (k+1)
theorem nA9 {c:CT} {d:DC} (h:G1 c d):nBJ c d=d:=by
 cases c<;>simp only[G1] at h
 ·obtain⟨x,rfl,_⟩:=h;rfl
 ·obtain⟨x,rfl⟩:=h;rfl
 ·obtain⟨x,rfl,_⟩:=h;rfl
 ·obtain⟨x,rfl,_⟩:=h;rfl
theorem nyj:∀ {cs:List CT} {r p:List DC},kc cs r→su cs (p++r) p.length=r
 | [],r,p,h=>(nc h).symm ▸ rfl
 | c::cs,r,p,h=>by
  simp only[kc] at h
  obtain⟨e,r,rfl,h1,h2⟩:=h
  have e1:(p++e::r).getD p.length default=e:=by simp
  have e2:=nyj (p:=p++[e]) h2
  simp only[List.append_assoc,List.cons_append,List.nil_append,List.length_append,List.length_cons,List.length_nil] at e2
  simp only[su,e1,nA9 h1]
  exact congrArg (e:: ·) e2
theorem qV {cs:List CT} {r:List DC} (h:kc cs r):su cs r 0=r:=nyj (p:=[]) h
end Go.Proofs.YtngbcccnjiaddaaGreat.Pl
