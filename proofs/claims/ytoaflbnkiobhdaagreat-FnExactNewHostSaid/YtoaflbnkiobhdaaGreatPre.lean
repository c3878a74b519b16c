/- Plain words for what the machine computes. Conditions: none; these are definitions. -/
import Derived.Test.YtoaflbnkiobhdaaGreatVd
set_option linter.unusedVariables false
namespace Go.Proofs.YtoaflbnkiobhdaaGreat.Pl
open Vm
abbrev _root_.Go.Proofs.YtoaflbnkiobhdaaGreat.Vm.CT.i:CT:= .int .i64
theorem qw {P:Program} {Γ:Ctx} {A:List (Nat×lb)} (eF:bD P Γ) {g:Nat} {fn:Func} {s:Sum} (hf:P.funcs[g]? =some fn)
  (h:∀ds,jV (gJ s.ps) ds→(s.fn ds).1=true→∃N,HG P Γ A N fn s ds=(true,(s.fn ds).2))
  (hc:(fn.body.isSome && (!(fn.name== "runtime.NumGoroutine") && (decide (s.ps.length≤fn.ntmps) && decide (fn.ntmps<1099511627776))))=true:=by kernel_rfl) (Gw:s.pt=none:=by rfl):DV P g s:=by
 simp only[Bool.and_eq_true,Bool.not_eq_true',decide_eq_true_eq] at hc
 exact FP (A:=A) eF hf hc.1 hc.2.1 hc.2.2.1 hc.2.2.2 h Gw
theorem nU {P:Program} {Γ:Ctx} (eF:bD P Γ) {g:Nat} {fn:Func} {s:Sum} (hf:P.funcs[g]? =some fn)
  (h:∀ds,jV (gJ s.ps) ds→(s.fn ds).1=true→∃N,HG P Γ [] N fn s ds=(true,(s.fn ds).2))
  (hc:(fn.body.isSome && (!(fn.name== "runtime.NumGoroutine") && (decide (s.ps.length≤fn.ntmps) && decide (fn.ntmps<1099511627776))))=true:=by kernel_rfl) (Gw:s.pt=none:=by rfl):DV P g s:=qw (A:=[]) eF hf h hc Gw
theorem ya {P:Program} {Γ:Ctx} {A:List (Nat×lb)} (eF:bD P Γ) {g:Nat} {fn:Func} {s:Sum} (hf:P.funcs[g]? =some fn)
  (h:∀ds,jV (gJ s.ps) ds→(s.fn ds).1=true→∃N,GJ P Γ A N fn s ds=(true,(s.fn ds).2))
  (hc:(fn.body.isSome && (!(fn.name== "runtime.NumGoroutine") && (decide (s.ps.length≤fn.ntmps) && (decide (fn.ntmps<1099511627776) && !(shares s)))))=true:=by kernel_rfl)
  (dJ:∀ds,eG ((cx 0 s.ps s.ms ds).2.map (·.1))=true:=by intro ds;kernel_rfl):B8 P g s:=by
 simp only[Bool.and_eq_true,Bool.not_eq_true',decide_eq_true_eq] at hc
 exact Fu (A:=A) eF hf hc.1 hc.2.1 hc.2.2.1 hc.2.2.2.1 hc.2.2.2.2 dJ h
theorem eT {α:Type} {x b y z:α} (h:b=y) (h1:x=b:=by kernel_rfl) (h2:y=z:=by kernel_rfl):x=z:=h1.trans (h.trans h2)
theorem eL {α σ:Type} {x y z:α} {l l':σ} (f:σ→α) (hl:l=l') (h:f l'=y) (h1:x=f l:=by kernel_rfl) (h2:y=z:=by kernel_rfl):x=z:=h1.trans ((congrArg f hl).trans (h.trans h2))
theorem nL1 {σ0:Type} (B:(St→kx)→St→kx) (m:σ0→St) (l:(σ0→kx)→σ0→kx) (k:Nat) (h:∀ih a0,B ih (m a0)=l (fun a0=>ih (m a0)) a0:=by intros;kernel_rfl):(fun a0=>LC B k (m a0))=Nat.rec (motive:=fun _=>σ0→kx) (fun _=>Vm.jX) (fun _ ih=>l ih) k:=by
 induction k with
 | zero=>rfl
 | succ k ih=>exact funext fun a0=>(h _ a0).trans (congrArg (fun f=>l f a0) ih)
theorem nL2 {σ0 σ1:Type} (B:(St→kx)→St→kx) (m:σ0→σ1→St) (l:(σ0→σ1→kx)→σ0→σ1→kx) (k:Nat) (h:∀ih a0 a1,B ih (m a0 a1)=l (fun a0 a1=>ih (m a0 a1)) a0 a1:=by intros;kernel_rfl):(fun a0 a1=>LC B k (m a0 a1))=Nat.rec (motive:=fun _=>σ0→σ1→kx) (fun _ _=>Vm.jX) (fun _ ih=>l ih) k:=by
 induction k with
 | zero=>rfl
 | succ k ih=>exact funext fun a0=>funext fun a1=>(h _ a0 a1).trans (congrArg (fun f=>l f a0 a1) ih)
theorem nL3 {σ0 σ1 σ2:Type} (B:(St→kx)→St→kx) (m:σ0→σ1→σ2→St) (l:(σ0→σ1→σ2→kx)→σ0→σ1→σ2→kx) (k:Nat) (h:∀ih a0 a1 a2,B ih (m a0 a1 a2)=l (fun a0 a1 a2=>ih (m a0 a1 a2)) a0 a1 a2:=by intros;kernel_rfl):(fun a0 a1 a2=>LC B k (m a0 a1 a2))=Nat.rec (motive:=fun _=>σ0→σ1→σ2→kx) (fun _ _ _=>Vm.jX) (fun _ ih=>l ih) k:=by
 induction k with
 | zero=>rfl
 | succ k ih=>exact funext fun a0=>funext fun a1=>funext fun a2=>(h _ a0 a1 a2).trans (congrArg (fun f=>l f a0 a1 a2) ih)
theorem nL4 {σ0 σ1 σ2 σ3:Type} (B:(St→kx)→St→kx) (m:σ0→σ1→σ2→σ3→St) (l:(σ0→σ1→σ2→σ3→kx)→σ0→σ1→σ2→σ3→kx) (k:Nat) (h:∀ih a0 a1 a2 a3,B ih (m a0 a1 a2 a3)=l (fun a0 a1 a2 a3=>ih (m a0 a1 a2 a3)) a0 a1 a2 a3:=by intros;kernel_rfl):(fun a0 a1 a2 a3=>LC B k (m a0 a1 a2 a3))=Nat.rec (motive:=fun _=>σ0→σ1→σ2→σ3→kx) (fun _ _ _ _=>Vm.jX) (fun _ ih=>l ih) k:=by
 induction k with
 | zero=>rfl
 | succ k ih=>exact funext fun a0=>funext fun a1=>funext fun a2=>funext fun a3=>(h _ a0 a1 a2 a3).trans (congrArg (fun f=>l f a0 a1 a2 a3) ih)
theorem nL7 {σ0 σ1 σ2 σ3 σ4 σ5 σ6:Type} (B:(St→kx)→St→kx) (m:σ0→σ1→σ2→σ3→σ4→σ5→σ6→St) (l:(σ0→σ1→σ2→σ3→σ4→σ5→σ6→kx)→σ0→σ1→σ2→σ3→σ4→σ5→σ6→kx) (k:Nat) (h:∀ih a0 a1 a2 a3 a4 a5 a6,B ih (m a0 a1 a2 a3 a4 a5 a6)=l (fun a0 a1 a2 a3 a4 a5 a6=>ih (m a0 a1 a2 a3 a4 a5 a6)) a0 a1 a2 a3 a4 a5 a6:=by intros;kernel_rfl):(fun a0 a1 a2 a3 a4 a5 a6=>LC B k (m a0 a1 a2 a3 a4 a5 a6))=Nat.rec (motive:=fun _=>σ0→σ1→σ2→σ3→σ4→σ5→σ6→kx) (fun _ _ _ _ _ _ _=>Vm.jX) (fun _ ih=>l ih) k:=by
 induction k with
 | zero=>rfl
 | succ k ih=>exact funext fun a0=>funext fun a1=>funext fun a2=>funext fun a3=>funext fun a4=>funext fun a5=>funext fun a6=>(h _ a0 a1 a2 a3 a4 a5 a6).trans (congrArg (fun f=>l f a0 a1 a2 a3 a4 a5 a6) ih)
abbrev Bytes:=List UInt8
abbrev Rows:=List (List DC)
def nR (x:Int):Int:=IntKind.wrap .i64 x
def rI (r:List DC) (k:Nat):Int:=(r.getD k default).asInt
def rB (r:List DC) (k:Nat):Bool:=(r.getD k default).asBool
def rS (r:List DC) (k:Nat):Bytes:=(r.getD k default).Gc
def rR (r:List DC) (k:Nat):Rows:=(r.getD k default).cj
def nth (r:Rows) (n:Nat):List DC:=r.getD n []
def len {α:Type} (l:List α):Int:=(l.length:Int)
def idx {α:Type} (n:Int) (l:List α):Bool:=decide (0≤n) && decide (n<l.length)
def inl {α:Type} (n:Nat) (l:List α):Bool:=decide (n<l.length)
def NY {α:Type} (l:List α) (a:Int):List α:=(l.take l.length).drop a.toNat
def na2 {α:Type} (l:List α) (b:Int):List α:=(l.take b.toNat).drop 0
def okL {α:Type} (l:List α) (a:Int):Bool:=decide (0≤a) && decide (a≤l.length)
def okH {α:Type} (l:List α) (b:Int):Bool:=decide (0≤b) && decide (b≤l.length)
def pK (z:Nat) (r q:Rows):Bool:=decide ((r.length+q.length)*z≤140737488355328) && decide (r.length+q.length≤9223372036854775807)
def xZ (z:Nat) (n m:Int):Bool:=decide (0≤n) && decide (n≤m) && decide (m.toNat*z≤140737488355328) && decide (m≤9223372036854775807)
def wZ (a b:Bytes):Bool:=decide (a.length+b.length≤9223372036854775807)
def toStr (r:Rows):Bytes:=r.map Vm.byteOf
def ofStr (s:Bytes):Rows:=s.map Vm.cO
def cpN (s:Bytes) (r:Rows) (lo:Nat):Int:=((min s.length (r.length - lo):Nat):Int)
def cpR (s:Bytes) (r:Rows) (lo:Nat):Rows:=r.take lo++(ofStr (s.take (r.length - lo))++r.drop (lo+min s.length (r.length - lo)))
def wU (a b:Int):Int:=if b<a then b else a
def nj8 (k:IntKind) (a b:Int):Int:=a.fdiv (2 ^ (min b.toNat k.bits))
mutual
def nhe:DC→Nat
 | .int _=>0
 | .bool _=>0
 | .str s=>s.length
 | .sl rows=>rows.length+nhf rows
def x_:List DC→Nat
 | []=>0
 | d::l=>nhe d+x_ l
def nhf:List (List DC)→Nat
 | []=>0
 | r::l=>x_ r+nhf l
end
def niV:CT→Nat
 | .int k=>match k with | .i64=>8 | .u64=>8 | .i32=>4 | .u32=>4 | .i16=>2 | .u16=>2 | .i8=>1 | .u8=>1
 | .bool=>1
 | .str=>16
 | .sl _=>24
def njs:List CT→Nat
 | []=>0
 | c::l=>niV c+njs l
def neK (l:List CT):Nat:=bif l.any (fun c=>Nat.ble 8 (niV c)) then (njs l+7) / 8*8 else njs l
mutual
def ni8:CT→DC→Bool
 | .int _,_=>true
 | .bool,_=>true
 | .str,d=>decide (d.Gc.length≤140737488351232)
 | .sl e,d=>decide (d.cj.length*neK e≤140737488351232) && d.cj.all (fun r=>Qg e r)
def Qg:List CT→List DC→Bool
 | [],_=>true
 | c::cs,l=>ni8 c (l.headD default) && Qg cs l.tail
end
theorem nQ {k:IntKind} {r:List CT} {ds:List DC} (h:jV (.int k::r) ds):∃(n:Int) (aW:List DC),ds= .int n::aW∧GO (.int k) (.int n)∧jV r aW:=by
 simp only[jV] at h
 obtain⟨d,r',rfl,h1,h2⟩:=h
 have h1':=h1
 simp only[GO] at h1'
 obtain⟨n,rfl,_⟩:=h1'
 exact⟨n,r',rfl,h1,h2⟩
theorem Th {r:List CT} {ds:List DC} (h:jV (.bool::r) ds):∃(n:Bool) (aW:List DC),ds= .bool n::aW∧GO .bool (.bool n)∧jV r aW:=by
 simp only[jV] at h
 obtain⟨d,r',rfl,h1,h2⟩:=h
 have h1':=h1
 simp only[GO] at h1'
 obtain⟨n,rfl⟩:=h1'
 exact⟨n,r',rfl,h1,h2⟩
theorem SQ {r:List CT} {ds:List DC} (h:jV (.str::r) ds):∃(n:Bytes) (aW:List DC),ds= .str n::aW∧GO .str (.str n)∧jV r aW:=by
 simp only[jV] at h
 obtain⟨d,r',rfl,h1,h2⟩:=h
 have h1':=h1
 simp only[GO] at h1'
 obtain⟨n,rfl,_⟩:=h1'
 exact⟨n,r',rfl,h1,h2⟩
theorem nX {e:List CT} {r:List CT} {ds:List DC} (h:jV (.sl e::r) ds):∃(n:Rows) (aW:List DC),ds= .sl n::aW∧GO (.sl e) (.sl n)∧jV r aW:=by
 simp only[jV] at h
 obtain⟨d,r',rfl,h1,h2⟩:=h
 have h1':=h1
 simp only[GO] at h1'
 obtain⟨n,rfl,_⟩:=h1'
 exact⟨n,r',rfl,h1,h2⟩
def Part {α β:Type} (jX:α) (K:β→α) (x:α) (o:Bool) (v:Option β):Prop:=(o=true→∃b,v=some b∧x=K b)
theorem oH {α β:Type} {jX:α} {K:β→α} {b:β} :Part jX K (K b) true (some b):=fun _=>⟨b,rfl,rfl⟩
theorem nM {α β:Type} {jX:α} {K:β→α} {c o:Bool} {x:α} {v:Option β} (h:Part jX K x o v):Part jX K (bif c then x else jX) (bif c then o else false) (bif c then v else none):=by
 cases c
 ·intro h;cases h
 ·exact h
theorem pw {α β:Type} {jX:α} {K:β→α} {c o1 o2:Bool} {x y:α} {v1 v2:Option β} (h1:Part jX K x o1 v1) (h2:Part jX K y o2 v2):
  Part jX K (bif c then x else y) (bif c then o1 else o2) (bif c then v1 else v2):=by
 cases c
 ·exact h2
 ·exact h1
theorem sa {α β:Type} {jX:α} {K:β→α} {x:α} {o:Bool} {v:Option β} {d:β} (h:Part jX K x o v) (ho:o=true):x=K (v.getD d):=by
 obtain⟨b,rfl,hx⟩:=h ho
 exact hx
theorem niT {c:CT} {cs:List CT} {d:DC} {r:List DC} (h1:GO c d) (h2:jV cs r):jV (c::cs) (d::r):=by
 simp only[jV]
 exact⟨d,r,rfl,h1,h2⟩
theorem nhS:jV [] []:=by simp only[jV]
theorem nA {ds:List DC} (h:jV [] ds):ds=[]:=by
 simpa only[jV] using h
theorem nw {k:IntKind} {ds:List DC} (h:jV [.int k] ds):∃n:Int,ds=[.int n]∧GO (.int k) (.int n):=by
 obtain⟨n,aW,rfl,h1,h2⟩:=nQ h
 obtain rfl:=nA h2
 exact⟨n,rfl,h1⟩
theorem Np {ds:List DC} (h:jV [.bool] ds):∃n:Bool,ds=[.bool n]∧GO .bool (.bool n):=by
 obtain⟨n,aW,rfl,h1,h2⟩:=Th h
 obtain rfl:=nA h2
 exact⟨n,rfl,h1⟩
theorem vR {ds:List DC} (h:jV [.str] ds):∃n:Bytes,ds=[.str n]∧GO .str (.str n):=by
 obtain⟨n,aW,rfl,h1,h2⟩:=SQ h
 obtain rfl:=nA h2
 exact⟨n,rfl,h1⟩
theorem qb {e:List CT} {ds:List DC} (h:jV [.sl e] ds):∃n:Rows,ds=[.sl n]∧GO (.sl e) (.sl n):=by
 obtain⟨n,aW,rfl,h1,h2⟩:=nX h
 obtain rfl:=nA h2
 exact⟨n,rfl,h1⟩
theorem pj:∀ {cs Bf:List CT} {ds:List DC},jV (cs++Bf) ds→∃d1 d2,ds=d1++d2∧jV cs d1∧jV Bf d2
 | [],_,ds,h=>⟨[],ds,rfl,nhS,h⟩
 | c::cs,Bf,ds,h=>by
  simp only[List.cons_append,jV] at h
  obtain⟨d,r,rfl,h1,h2⟩:=h
  obtain⟨d1,d2,rfl,h3,h4⟩:=pj h2
  exact⟨d::d1,d2,rfl,niT h1 h3,h4⟩
theorem oE:∀ {cs:List CT} {ds:List DC} (i:Nat) {c:CT} {d:DC},jV cs ds→cs[i]? =some c→ds[i]? =some d→GO c d
 | [],_,i,_,_,_,hc,_=>by simp at hc
 | c::cs,ds,0,x,d,h,hc,hd=>by
  simp only[jV] at h
  obtain⟨e,r,rfl,h1,h2⟩:=h
  simp only[List.getElem?_cons_zero,Option.some.injEq] at hc hd
  subst hc hd
  exact h1
 | c::cs,ds,i+1,x,d,h,hc,hd=>by
  simp only[jV] at h
  obtain⟨e,r,rfl,h1,h2⟩:=h
  exact oE i h2 (by simpa using hc) (by simpa using hd)
theorem nix:∀ {cs:List CT} {ds:List DC} (i:Nat),jV cs ds→jV (cs.drop i) (ds.drop i)
 | cs,ds,0,h=>h
 | [],ds,i+1,h=>by
  have:=nA h
  subst this
  exact h
 | c::cs,ds,i+1,h=>by
  simp only[jV] at h
  obtain⟨e,r,rfl,h1,h2⟩:=h
  exact nix i h2
theorem niy:∀ {cs:List CT} {ds:List DC} (i:Nat),jV cs ds→jV (cs.take i) (ds.take i)
 | cs,ds,0,h=>nhS
 | [],ds,i+1,h=>by
  have:=nA h
  subst this
  exact h
 | c::cs,ds,i+1,h=>by
  simp only[jV] at h
  obtain⟨e,r,rfl,h1,h2⟩:=h
  exact niT h1 (niy i h2)
theorem WI {cs:List CT} {ds:List DC} (i m:Nat) (h:jV cs ds):jV ((cs.drop i).take m) ((ds.drop i).take m):=niy m (nix i h)
def njp:CT→DC→DC
 | .int _,d=> .int d.asInt
 | .bool,d=> .bool d.asBool
 | .str,d=> .str d.Gc
 | .sl _,d=> .sl d.cj
def rJ:List CT→List DC→Nat→List DC
 | [],_,_=>[]
 | c::cs,r,k=>njp c (r.getD k default)::rJ cs r (k+1)
theorem ni6 {c:CT} {d:DC} (h:GO c d):njp c d=d:=by
 cases c<;>simp only[GO] at h
 ·obtain⟨x,rfl,_⟩:=h;rfl
 ·obtain⟨x,rfl⟩:=h;rfl
 ·obtain⟨x,rfl,_⟩:=h;rfl
 ·obtain⟨x,rfl,_⟩:=h;rfl
theorem nhg:∀ {cs:List CT} {r p:List DC},jV cs r→rJ cs (p++r) p.length=r
 | [],r,p,h=>(nA h).symm ▸ rfl
 | c::cs,r,p,h=>by
  simp only[jV] at h
  obtain⟨e,r,rfl,h1,h2⟩:=h
  have e1:(p++e::r).getD p.length default=e:=by simp
  have e2:=nhg (p:=p++[e]) h2
  simp only[List.append_assoc,List.cons_append,List.nil_append,List.length_append,List.length_cons,List.length_nil] at e2
  simp only[rJ,e1,ni6 h1]
  exact congrArg (e:: ·) e2
theorem qm {cs:List CT} {r:List DC} (h:jV cs r):rJ cs r 0=r:=nhg (p:=[]) h
end Go.Proofs.YtoaflbnkiobhdaaGreat.Pl
