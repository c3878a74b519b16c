/- Plain words for what the machine computes. Conditions: none; these are definitions. -/
import Derived.Test.YtnlkklmcfafgeaaGreatVd
set_option linter.unusedVariables false
namespace Go.Proofs.YtnlkklmcfafgeaaGreat.Pl
open Vm
abbrev _root_.Go.Proofs.YtnlkklmcfafgeaaGreat.Vm.CT.i:CT:= .int .i64
theorem qD {P:Program} {Γ:Ctx} {A:List (Nat×lC)} (eV:bH P Γ) {g:Nat} {fn:Func} {s:Sum} (hf:P.funcs[g]? =some fn)
  (h:∀ds,kc (gW s.ps) ds→(s.fn ds).1=true→∃N,H0 P Γ A N fn s ds=(true,(s.fn ds).2))
  (hc:(fn.body.isSome && (!(fn.name== "runtime.NumGoroutine") && (decide (s.ps.length≤fn.ntmps) && decide (fn.ntmps<1099511627776))))=true:=by kernel_rfl) (GR:s.pt=none:=by rfl):Ee P g s:=by
 simp only[Bool.and_eq_true,Bool.not_eq_true',decide_eq_true_eq] at hc
 exact F9 (A:=A) eV hf hc.1 hc.2.1 hc.2.2.1 hc.2.2.2 h GR
theorem nQ {P:Program} {Γ:Ctx} (eV:bH P Γ) {g:Nat} {fn:Func} {s:Sum} (hf:P.funcs[g]? =some fn)
  (h:∀ds,kc (gW s.ps) ds→(s.fn ds).1=true→∃N,H0 P Γ [] N fn s ds=(true,(s.fn ds).2))
  (hc:(fn.body.isSome && (!(fn.name== "runtime.NumGoroutine") && (decide (s.ps.length≤fn.ntmps) && decide (fn.ntmps<1099511627776))))=true:=by kernel_rfl) (GR:s.pt=none:=by rfl):Ee P g s:=qD (A:=[]) eV hf h hc GR
theorem Oo {P:Program} {Γ:Ctx} {A:List (Nat×lC)} (eV:bH P Γ) {g:Nat} {fn:Func} {s:Sum} (hf:P.funcs[g]? =some fn)
  (h:∀ds,kc (gW s.ps) ds→(s.fn ds).1=true→∃N,G4 P Γ A N fn s ds=(true,(s.fn ds).2))
  (hc:(fn.body.isSome && (!(fn.name== "runtime.NumGoroutine") && (decide (s.ps.length≤fn.ntmps) && (decide (fn.ntmps<1099511627776) && !(shares s)))))=true:=by kernel_rfl)
  (dV:∀ds,eW ((cB 0 s.ps s.ms ds).2.map (·.1))=true:=by intro ds;kernel_rfl):Cq P g s:=by
 simp only[Bool.and_eq_true,Bool.not_eq_true',decide_eq_true_eq] at hc
 exact FO (A:=A) eV hf hc.1 hc.2.1 hc.2.2.1 hc.2.2.2.1 hc.2.2.2.2 dV h
theorem eT {α:Type} {x b y z:α} (h:b=y) (h1:x=b:=by kernel_rfl) (h2:y=z:=by kernel_rfl):x=z:=h1.trans (h.trans h2)
theorem eL {α σ:Type} {x y z:α} {l l':σ} (f:σ→α) (hl:l=l') (h:f l'=y) (h1:x=f l:=by kernel_rfl) (h2:y=z:=by kernel_rfl):x=z:=h1.trans ((congrArg f hl).trans (h.trans h2))
theorem nL1 {σ0:Type} (B:(St→kL)→St→kL) (m:σ0→St) (l:(σ0→kL)→σ0→kL) (k:Nat) (h:∀ih a0,B ih (m a0)=l (fun a0=>ih (m a0)) a0:=by intros;kernel_rfl):(fun a0=>LY B k (m a0))=Nat.rec (motive:=fun _=>σ0→kL) (fun _=>Vm.ke) (fun _ ih=>l ih) k:=by
 induction k with
 | zero=>rfl
 | succ k ih=>exact funext fun a0=>(h _ a0).trans (congrArg (fun f=>l f a0) ih)
theorem X2 {σ0 σ1:Type} (B:(St→kL)→St→kL) (m:σ0→σ1→St) (l:(σ0→σ1→kL)→σ0→σ1→kL) (k:Nat) (h:∀ih a0 a1,B ih (m a0 a1)=l (fun a0 a1=>ih (m a0 a1)) a0 a1:=by intros;kernel_rfl):(fun a0 a1=>LY B k (m a0 a1))=Nat.rec (motive:=fun _=>σ0→σ1→kL) (fun _ _=>Vm.ke) (fun _ ih=>l ih) k:=by
 induction k with
 | zero=>rfl
 | succ k ih=>exact funext fun a0=>funext fun a1=>(h _ a0 a1).trans (congrArg (fun f=>l f a0 a1) ih)
theorem nL3 {σ0 σ1 σ2:Type} (B:(St→kL)→St→kL) (m:σ0→σ1→σ2→St) (l:(σ0→σ1→σ2→kL)→σ0→σ1→σ2→kL) (k:Nat) (h:∀ih a0 a1 a2,B ih (m a0 a1 a2)=l (fun a0 a1 a2=>ih (m a0 a1 a2)) a0 a1 a2:=by intros;kernel_rfl):(fun a0 a1 a2=>LY B k (m a0 a1 a2))=Nat.rec (motive:=fun _=>σ0→σ1→σ2→kL) (fun _ _ _=>Vm.ke) (fun _ ih=>l ih) k:=by
 induction k with
 | zero=>rfl
 | succ k ih=>exact funext fun a0=>funext fun a1=>funext fun a2=>(h _ a0 a1 a2).trans (congrArg (fun f=>l f a0 a1 a2) ih)
theorem nL4 {σ0 σ1 σ2 σ3:Type} (B:(St→kL)→St→kL) (m:σ0→σ1→σ2→σ3→St) (l:(σ0→σ1→σ2→σ3→kL)→σ0→σ1→σ2→σ3→kL) (k:Nat) (h:∀ih a0 a1 a2 a3,B ih (m a0 a1 a2 a3)=l (fun a0 a1 a2 a3=>ih (m a0 a1 a2 a3)) a0 a1 a2 a3:=by intros;kernel_rfl):(fun a0 a1 a2 a3=>LY B k (m a0 a1 a2 a3))=Nat.rec (motive:=fun _=>σ0→σ1→σ2→σ3→kL) (fun _ _ _ _=>Vm.ke) (fun _ ih=>l ih) k:=by
 induction k with
 | zero=>rfl
 | succ k ih=>exact funext fun a0=>funext fun a1=>funext fun a2=>funext fun a3=>(h _ a0 a1 a2 a3).trans (congrArg (fun f=>l f a0 a1 a2 a3) ih)
theorem nL7 {σ0 σ1 σ2 σ3 σ4 σ5 σ6:Type} (B:(St→kL)→St→kL) (m:σ0→σ1→σ2→σ3→σ4→σ5→σ6→St) (l:(σ0→σ1→σ2→σ3→σ4→σ5→σ6→kL)→σ0→σ1→σ2→σ3→σ4→σ5→σ6→kL) (k:Nat) (h:∀ih a0 a1 a2 a3 a4 a5 a6,B ih (m a0 a1 a2 a3 a4 a5 a6)=l (fun a0 a1 a2 a3 a4 a5 a6=>ih (m a0 a1 a2 a3 a4 a5 a6)) a0 a1 a2 a3 a4 a5 a6:=by intros;kernel_rfl):(fun a0 a1 a2 a3 a4 a5 a6=>LY B k (m a0 a1 a2 a3 a4 a5 a6))=Nat.rec (motive:=fun _=>σ0→σ1→σ2→σ3→σ4→σ5→σ6→kL) (fun _ _ _ _ _ _ _=>Vm.ke) (fun _ ih=>l ih) k:=by
 induction k with
 | zero=>rfl
 | succ k ih=>exact funext fun a0=>funext fun a1=>funext fun a2=>funext fun a3=>funext fun a4=>funext fun a5=>funext fun a6=>(h _ a0 a1 a2 a3 a4 a5 a6).trans (congrArg (fun f=>l f a0 a1 a2 a3 a4 a5 a6) ih)
theorem nL8 {σ0 σ1 σ2 σ3 σ4 σ5 σ6 σ7:Type} (B:(St→kL)→St→kL) (m:σ0→σ1→σ2→σ3→σ4→σ5→σ6→σ7→St) (l:(σ0→σ1→σ2→σ3→σ4→σ5→σ6→σ7→kL)→σ0→σ1→σ2→σ3→σ4→σ5→σ6→σ7→kL) (k:Nat) (h:∀ih a0 a1 a2 a3 a4 a5 a6 a7,B ih (m a0 a1 a2 a3 a4 a5 a6 a7)=l (fun a0 a1 a2 a3 a4 a5 a6 a7=>ih (m a0 a1 a2 a3 a4 a5 a6 a7)) a0 a1 a2 a3 a4 a5 a6 a7:=by intros;kernel_rfl):(fun a0 a1 a2 a3 a4 a5 a6 a7=>LY B k (m a0 a1 a2 a3 a4 a5 a6 a7))=Nat.rec (motive:=fun _=>σ0→σ1→σ2→σ3→σ4→σ5→σ6→σ7→kL) (fun _ _ _ _ _ _ _ _=>Vm.ke) (fun _ ih=>l ih) k:=by
 induction k with
 | zero=>rfl
 | succ k ih=>exact funext fun a0=>funext fun a1=>funext fun a2=>funext fun a3=>funext fun a4=>funext fun a5=>funext fun a6=>funext fun a7=>(h _ a0 a1 a2 a3 a4 a5 a6 a7).trans (congrArg (fun f=>l f a0 a1 a2 a3 a4 a5 a6 a7) ih)
theorem nL9 {σ0 σ1 σ2 σ3 σ4 σ5 σ6 σ7 σ8:Type} (B:(St→kL)→St→kL) (m:σ0→σ1→σ2→σ3→σ4→σ5→σ6→σ7→σ8→St) (l:(σ0→σ1→σ2→σ3→σ4→σ5→σ6→σ7→σ8→kL)→σ0→σ1→σ2→σ3→σ4→σ5→σ6→σ7→σ8→kL) (k:Nat) (h:∀ih a0 a1 a2 a3 a4 a5 a6 a7 a8,B ih (m a0 a1 a2 a3 a4 a5 a6 a7 a8)=l (fun a0 a1 a2 a3 a4 a5 a6 a7 a8=>ih (m a0 a1 a2 a3 a4 a5 a6 a7 a8)) a0 a1 a2 a3 a4 a5 a6 a7 a8:=by intros;kernel_rfl):(fun a0 a1 a2 a3 a4 a5 a6 a7 a8=>LY B k (m a0 a1 a2 a3 a4 a5 a6 a7 a8))=Nat.rec (motive:=fun _=>σ0→σ1→σ2→σ3→σ4→σ5→σ6→σ7→σ8→kL) (fun _ _ _ _ _ _ _ _ _=>Vm.ke) (fun _ ih=>l ih) k:=by
 induction k with
 | zero=>rfl
 | succ k ih=>exact funext fun a0=>funext fun a1=>funext fun a2=>funext fun a3=>funext fun a4=>funext fun a5=>funext fun a6=>funext fun a7=>funext fun a8=>(h _ a0 a1 a2 a3 a4 a5 a6 a7 a8).trans (congrArg (fun f=>l f a0 a1 a2 a3 a4 a5 a6 a7 a8) ih)
noncomputable def shut {α:Type} (a:α):α:=Classical.choose (⟨a,rfl⟩:∃x,x=a)
theorem nw0 {α:Type} (a:α):shut a=a:=Classical.choose_spec (⟨a,rfl⟩:∃x,x=a)
abbrev Bytes:=List UInt8
abbrev Rows:=List (List DC)
def nS (x:Int):Int:=IntKind.wrap .i64 x
def rI (r:List DC) (k:Nat):Int:=(r.getD k default).asInt
def rB (r:List DC) (k:Nat):Bool:=(r.getD k default).asBool
def rS (r:List DC) (k:Nat):Bytes:=(r.getD k default).Gw
def rR (r:List DC) (k:Nat):Rows:=(r.getD k default).cq
def nth (r:Rows) (n:Nat):List DC:=r.getD n []
def len {α:Type} (l:List α):Int:=(l.length:Int)
def idx {α:Type} (n:Int) (l:List α):Bool:=decide (0≤n) && decide (n<l.length)
def inl {α:Type} (n:Nat) (l:List α):Bool:=decide (n<l.length)
def tu {α:Type} (l:List α) (a:Int):List α:=(l.take l.length).drop a.toNat
def X1 {α:Type} (l:List α) (b:Int):List α:=(l.take b.toNat).drop 0
def nmv {α:Type} (l:List α) (a b:Int):List α:=(l.take b.toNat).drop a.toNat
def QK {α:Type} (l:List α) (a:Int):Bool:=decide (0≤a) && decide (a≤l.length)
def okH {α:Type} (l:List α) (b:Int):Bool:=decide (0≤b) && decide (b≤l.length)
def ntD {α:Type} (l:List α) (a b:Int):Bool:=decide (0≤a) && decide (a≤b) && decide (b≤l.length)
def pY (z:Nat) (r q:Rows):Bool:=decide ((r.length+q.length)*z≤140737488355328) && decide (r.length+q.length≤9223372036854775807)
def Po (z:Nat) (n m:Int):Bool:=decide (0≤n) && decide (n≤m) && decide (m.toNat*z≤140737488355328) && decide (m≤9223372036854775807)
def oZ (a b:Bytes):Bool:=decide (a.length+b.length≤9223372036854775807)
def zQ (s:Bytes) (n:Int):Int:=((s.getD n.toNat 0).toNat:Int)
def toStr (r:Rows):Bytes:=r.map Vm.byteOf
def ofStr (s:Bytes):Rows:=s.map Vm.cS
def cpN (s:Bytes) (r:Rows) (lo:Nat):Int:=((min s.length (r.length - lo):Nat):Int)
def cpR (s:Bytes) (r:Rows) (lo:Nat):Rows:=r.take lo++(ofStr (s.take (r.length - lo))++r.drop (lo+min s.length (r.length - lo)))
def xl (a b:Int):Int:=if b<a then b else a
def ncv (k:IntKind) (a b:Int):Int:=k.wrap (a*2 ^ (min b.toNat k.bits))
def nwZ (k:IntKind) (a b:Int):Int:=a.fdiv (2 ^ (min b.toNat k.bits))
mutual
def nsO:DC→Nat
 | .int _=>0
 | .bool _=>0
 | .str s=>s.length
 | .sl rows=>rows.length+nsP rows
def On:List DC→Nat
 | []=>0
 | d::l=>nsO d+On l
def nsP:List (List DC)→Nat
 | []=>0
 | r::l=>On r+nsP l
end
def nvj:CT→Nat
 | .int k=>match k with | .i64=>8 | .u64=>8 | .i32=>4 | .u32=>4 | .i16=>2 | .u16=>2 | .i8=>1 | .u8=>1
 | .bool=>1
 | .str=>16
 | .sl _=>24
def nws:List CT→Nat
 | []=>0
 | c::l=>nvj c+nws l
def npg (l:List CT):Nat:=bif l.any (fun c=>Nat.ble 8 (nvj c)) then (nws l+7) / 8*8 else nws l
mutual
def nvE:CT→DC→Bool
 | .int _,_=>true
 | .bool,_=>true
 | .str,d=>decide (d.Gw.length≤140737488351232)
 | .sl e,d=>decide (d.cq.length*npg e≤140737488351232) && d.cq.all (fun r=>Wb e r)
def Wb:List CT→List DC→Bool
 | [],_=>true
 | c::cs,l=>nvE c (l.headD default) && Wb cs l.tail
end
theorem oc {k:IntKind} {r:List CT} {ds:List DC} (h:kc (.int k::r) ds):∃(n:Int) (aX:List DC),ds= .int n::aX∧G9 (.int k) (.int n)∧kc r aX:=by
 simp only[kc] at h
 obtain⟨d,r',rfl,h1,h2⟩:=h
 have h1':=h1
 simp only[G9] at h1'
 obtain⟨n,rfl,_⟩:=h1'
 exact⟨n,r',rfl,h1,h2⟩
theorem nqH {r:List CT} {ds:List DC} (h:kc (.bool::r) ds):∃(n:Bool) (aX:List DC),ds= .bool n::aX∧G9 .bool (.bool n)∧kc r aX:=by
 simp only[kc] at h
 obtain⟨d,r',rfl,h1,h2⟩:=h
 have h1':=h1
 simp only[G9] at h1'
 obtain⟨n,rfl⟩:=h1'
 exact⟨n,r',rfl,h1,h2⟩
theorem xL {r:List CT} {ds:List DC} (h:kc (.str::r) ds):∃(n:Bytes) (aX:List DC),ds= .str n::aX∧G9 .str (.str n)∧kc r aX:=by
 simp only[kc] at h
 obtain⟨d,r',rfl,h1,h2⟩:=h
 have h1':=h1
 simp only[G9] at h1'
 obtain⟨n,rfl,_⟩:=h1'
 exact⟨n,r',rfl,h1,h2⟩
theorem oq {e:List CT} {r:List CT} {ds:List DC} (h:kc (.sl e::r) ds):∃(n:Rows) (aX:List DC),ds= .sl n::aX∧G9 (.sl e) (.sl n)∧kc r aX:=by
 simp only[kc] at h
 obtain⟨d,r',rfl,h1,h2⟩:=h
 have h1':=h1
 simp only[G9] at h1'
 obtain⟨n,rfl,_⟩:=h1'
 exact⟨n,r',rfl,h1,h2⟩
def Part {α β:Type} (ke:α) (K:β→α) (x:α) (o:Bool) (v:Option β):Prop:=(o=true→∃b,v=some b∧x=K b)
theorem pU {α β:Type} {ke:α} {K:β→α} {b:β} :Part ke K (K b) true (some b):=fun _=>⟨b,rfl,rfl⟩
theorem oC {α β:Type} {ke:α} {K:β→α} {c o:Bool} {x:α} {v:Option β} (h:Part ke K x o v):Part ke K (bif c then x else ke) (bif c then o else false) (bif c then v else none):=by
 cases c
 ·intro h;cases h
 ·exact h
theorem qY {α β:Type} {ke:α} {K:β→α} {c o1 o2:Bool} {x y:α} {v1 v2:Option β} (h1:Part ke K x o1 v1) (h2:Part ke K y o2 v2):
  Part ke K (bif c then x else y) (bif c then o1 else o2) (bif c then v1 else v2):=by
 cases c
 ·exact h2
 ·exact h1
theorem ub {α β:Type} {ke:α} {K:β→α} {x:α} {o:Bool} {v:Option β} {d:β} (h:Part ke K x o v) (ho:o=true):x=K (v.getD d):=by
 obtain⟨b,rfl,hx⟩:=h ho
 exact hx
theorem nvh {c:CT} {cs:List CT} {d:DC} {r:List DC} (h:kc (c::cs) (d::r)):G9 c d∧kc cs r:=by
 simp only[kc,List.cons.injEq] at h
 obtain⟨_,_,⟨rfl,rfl⟩,h1,h2⟩:=h
 exact⟨h1,h2⟩
theorem nvg {c:CT} {cs:List CT} {d:DC} {r:List DC} (h1:G9 c d) (h2:kc cs r):kc (c::cs) (d::r):=by
 simp only[kc]
 exact⟨d,r,rfl,h1,h2⟩
theorem ntZ:kc [] []:=by simp only[kc]
theorem nw {ds:List DC} (h:kc [] ds):ds=[]:=by
 simpa only[kc] using h
theorem nz {k:IntKind} {ds:List DC} (h:kc [.int k] ds):∃n:Int,ds=[.int n]∧G9 (.int k) (.int n):=by
 obtain⟨n,aX,rfl,h1,h2⟩:=oc h
 obtain rfl:=nw h2
 exact⟨n,rfl,h1⟩
theorem R8 {ds:List DC} (h:kc [.bool] ds):∃n:Bool,ds=[.bool n]∧G9 .bool (.bool n):=by
 obtain⟨n,aX,rfl,h1,h2⟩:=nqH h
 obtain rfl:=nw h2
 exact⟨n,rfl,h1⟩
theorem qJ {ds:List DC} (h:kc [.str] ds):∃n:Bytes,ds=[.str n]∧G9 .str (.str n):=by
 obtain⟨n,aX,rfl,h1,h2⟩:=xL h
 obtain rfl:=nw h2
 exact⟨n,rfl,h1⟩
theorem pS {e:List CT} {ds:List DC} (h:kc [.sl e] ds):∃n:Rows,ds=[.sl n]∧G9 (.sl e) (.sl n):=by
 obtain⟨n,aX,rfl,h1,h2⟩:=oq h
 obtain rfl:=nw h2
 exact⟨n,rfl,h1⟩
theorem qt:∀ {cs BA:List CT} {ds:List DC},kc (cs++BA) ds→∃d1 d2,ds=d1++d2∧kc cs d1∧kc BA d2
 | [],_,ds,h=>⟨[],ds,rfl,ntZ,h⟩
 | c::cs,BA,ds,h=>by
  simp only[List.cons_append,kc] at h
  obtain⟨d,r,rfl,h1,h2⟩:=h
  obtain⟨d1,d2,rfl,h3,h4⟩:=qt h2
  exact⟨d::d1,d2,rfl,nvg h1 h3,h4⟩
theorem oB:∀ {cs:List CT} {ds:List DC} (i:Nat) {c:CT} {d:DC},kc cs ds→cs[i]? =some c→ds[i]? =some d→G9 c d
 | [],_,i,_,_,_,hc,_=>by simp at hc
 | c::cs,ds,0,x,d,h,hc,hd=>by
  simp only[kc] at h
  obtain⟨e,r,rfl,h1,h2⟩:=h
  simp only[List.getElem?_cons_zero,Option.some.injEq] at hc hd
  subst hc hd
  exact h1
 | c::cs,ds,i+1,x,d,h,hc,hd=>by
  simp only[kc] at h
  obtain⟨e,r,rfl,h1,h2⟩:=h
  exact oB i h2 (by simpa using hc) (by simpa using hd)
theorem nuz:∀ {cs:List CT} {ds:List DC} (i:Nat),kc cs ds→kc (cs.drop i) (ds.drop i)
 | cs,ds,0,h=>h
 | [],ds,i+1,h=>by
  have:=nw h
  subst this
  exact h
 | c::cs,ds,i+1,h=>by
  simp only[kc] at h
  obtain⟨e,r,rfl,h1,h2⟩:=h
  exact nuz i h2
theorem nuA:∀ {cs:List CT} {ds:List DC} (i:Nat),kc cs ds→kc (cs.take i) (ds.take i)
 | cs,ds,0,h=>ntZ
 | [],ds,i+1,h=>by
  have:=nw h
  subst this
  exact h
 | c::cs,ds,i+1,h=>by
  simp only[kc] at h
  obtain⟨e,r,rfl,h1,h2⟩:=h
  exact nvg h1 (nuA i h2)
theorem yr {cs:List CT} {ds:List DC} (i m:Nat) (h:kc cs ds):kc ((cs.drop i).take m) ((ds.drop i).take m):=nuA m (nuz i h)
def nwp:CT→DC→DC
 | .int _,d=> .int d.asInt
 | .bool,d=> .bool d.asBool
 | .str,d=> .str d.Gw
 | .sl _,d=> .sl d.cq
def sN:List CT→List DC→Nat→List DC
 | [],_,_=>[]
 | c::cs,r,k=>nwp c (r.getD k default)::sN cs r (k+1)
theorem nvB {c:CT} {d:DC} (h:G9 c d):nwp c d=d:=by
 cases c<;>simp only[G9] at h
 ·obtain⟨x,rfl,_⟩:=h;rfl
 ·obtain⟨x,rfl⟩:=h;rfl
 ·obtain⟨x,rfl,_⟩:=h;rfl
 ·obtain⟨x,rfl,_⟩:=h;rfl
theorem nsQ:∀ {cs:List CT} {r p:List DC},kc cs r→sN cs (p++r) p.length=r
 | [],r,p,h=>(nw h).symm ▸ rfl
 | c::cs,r,p,h=>by
  simp only[kc] at h
  obtain⟨e,r,rfl,h1,h2⟩:=h
  have e1:(p++e::r).getD p.length default=e:=by simp
  have e2:=nsQ (p:=p++[e]) h2
  simp only[List.append_assoc,List.cons_append,List.nil_append,List.length_append,List.length_cons,List.length_nil] at e2
  simp only[sN,e1,nvB h1]
  exact congrArg (e:: ·) e2
theorem ra {cs:List CT} {r:List DC} (h:kc cs r):sN cs r 0=r:=nsQ (p:=[]) h
end Go.Proofs.YtnlkklmcfafgeaaGreat.Pl
