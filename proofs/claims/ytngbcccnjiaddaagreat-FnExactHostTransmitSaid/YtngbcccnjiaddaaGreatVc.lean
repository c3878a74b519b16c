/- The value machine: calls, every operation, regions in every order. Conditions: as each lemma says. -/
import Derived.Test.YtngbcccnjiaddaaGreatVb
import Derived.ArgAppend
set_option linter.unusedVariables false
set_option linter.unusedSimpArgs false
namespace Go.Proofs.YtngbcccnjiaddaaGreat.Vm
section
variable {P:Program} {Γ:Ctx} {w0:World} {S:Own} {st:St} {o:Oper} {e:cB} {a:Act} {w w':World}
variable {f:Nat→SV} {h:Nat→Option ai} {β:Env} {φ:Nat→List Nat} {tm:Array Value}
theorem dC.take {ct:List CT} {rows:List (List DC)} {vals:List Value} {az:List (List Nat)} (cT:dC w ct rows vals az) (k:Nat):dC w ct (rows.take k) (vals.take (k*ct.length)) (az.take k):=by
 refine⟨by simp [cT.1],fun i r f hi hf=> ?_⟩
 rw[List.getElem?_take] at hi hf
 split at hi
 ·rename_i Du
  rw[if_pos Du] at hf
  refine bb.aS.iT (fun j u hj hu=> ?_) (cT.2 i r f hi hf)
  rw[List.getElem?_take,if_pos]
  ·exact hu
  ·have:(i+1)*ct.length≤k*ct.length:=Nat.mul_le_mul_right _ Du
   rw[Nat.succ_mul] at this
   omega
 ·cases hi
theorem dC.drop {ct:List CT} {rows:List (List DC)} {vals:List Value} {az:List (List Nat)} (cT:dC w ct rows vals az) (k:Nat):dC w ct (rows.drop k) (vals.drop (k*ct.length)) (az.drop k):=by
 refine⟨by simp [cT.1],fun i r f hi hf=> ?_⟩
 rw[List.getElem?_drop] at hi hf
 refine bb.aS.iT (fun j u hj hu=> ?_) (cT.2 (k+i) r f hi hf)
 rw[List.getElem?_drop,←hu]
 congr 1
 rw[Nat.add_mul]
 omega
end
end Go.Proofs.YtngbcccnjiaddaaGreat.Vm
set_option linter.unusedVariables false
set_option linter.unusedSimpArgs false
namespace Go.Proofs.YtngbcccnjiaddaaGreat.Vm
theorem cR (c:CT):(∃e,c= .sl e)∨al [c]=true:=by
 cases c with
 | sl e=>exact .inl ⟨e,rfl⟩
 | _=>exact .inr rfl
theorem eH {c:CT} {cs:List CT} :al (c::cs)=(al [c] && al cs):=by
 cases c<;>rfl
theorem dx {c:CT} {cs:List CT} (hc:al [c]=true):aV (c::cs)=aV cs:=by
 cases c with
 | sl e=>simp [al] at hc
 | _=>rfl
theorem dy:∀ {cs:List CT},aV cs=0→al cs=true
 | [],_=>rfl
 | c::cs,h=>by
  rcases cR c with ⟨e,rfl⟩ | hc
  ·simp [aV] at h
  ·rw[dx hc] at h
   rw[eH,hc,dy h]
   rfl
theorem dw:∀(a b:List CT),aV (a++b)=aV a+aV b
 | [],b=>by simp [aV]
 | c::cs,b=>by
  rcases cR c with ⟨e,rfl⟩ | hc
  ·simp only[List.cons_append,aV,dw cs b];omega
  ·rw[List.cons_append,dx hc,dx hc,dw cs b]
theorem flat_get:∀ {cs:List CT} {k:Nat} {e:List CT},al cs=true→cs[k]? =some (.sl e)→False
 | [],k,e,_,h=>by simp at h
 | c::cs,k,e,hf,h=>by
  rw[eH,Bool.and_eq_true] at hf
  cases k with
  | zero=>
   simp only[List.getElem?_cons_zero,Option.some.injEq] at h
   subst h
   simp [al] at hf
  | succ k=>exact flat_get hf.2 (by simpa using h)
section
variable {w:World}
theorem ab.length {hv:Option Value} :∀(cs:List CT) (ts:List TypeId) (ds:List DC) (us:List Value) (mb:List Nat),ab w hv cs ts ds us mb→us.length=cs.length∧ds.length=cs.length
 | [],_,_,_,_,h=>by
  simp only[ab] at h
  obtain⟨_,rfl,rfl,_⟩:=h
  exact⟨rfl,rfl⟩
 | c::cs,_,_,_,_,h=>by
  rcases cR c with ⟨e,rfl⟩ | hc
  ·simp only[ab] at h
   obtain⟨t,dE,rows,aW,v,aR,m1,gl,rfl,rfl,rfl,_,_,h6,rfl⟩:=h
   have:=ab.length cs _ _ _ _ h6
   simp [this.1,this.2]
  ·rw[ab.flat hc] at h
   obtain⟨d,aW,v,aR,rfl,rfl,_,h4⟩:=h
   have:=ab.length cs _ _ _ _ h4
   simp [this.1,this.2]
theorem ab.lt {hv:Option Value} :∀(cs:List CT) (ts:List TypeId) (ds:List DC) (us:List Value) (mb:List Nat),ab w hv cs ts ds us mb→∀b∈mb,b<w.heap.size
 | [],_,_,_,_,h=>by
  simp only[ab] at h
  simp [h.2.2.2]
 | c::cs,_,_,_,_,h=>by
  rcases cR c with ⟨e,rfl⟩ | hc
  ·simp only[ab] at h
   obtain⟨t,dE,rows,aW,v,aR,m1,gl,rfl,rfl,rfl,_,h5,h6,rfl⟩:=h
   intro b hb
   rcases List.mem_append.1 hb with hb | hb
   ·cases hv with
    | none=>
     obtain⟨vals,az,g1,_,rfl⟩:=h5
     exact g1.lt b hb
    | some v0=>
     rw[h5.2.2] at hb
     simp at hb
   ·exact ab.lt cs _ _ _ _ h6 b hb
  ·rw[ab.flat hc] at h
   obtain⟨d,aW,v,aR,rfl,rfl,_,h4⟩:=h
   exact ab.lt cs _ _ _ _ h4
theorem bB.lt {e:List CT} {ts:List TypeId} {rows:List (List DC)} {vals:List Value} {hv:Nat→Option Value} {aN:List (List Nat)} (h:bB w e ts rows vals hv aN):∀b∈aN.flatten,b<w.heap.size:=by
 intro b hb
 obtain⟨m,hm,hb⟩:=List.mem_flatten.1 hb
 obtain⟨i,hi,rfl⟩:=List.getElem_of_mem hm
 have dD:i<rows.length:=by have:=h.1;omega
 exact ab.lt _ _ _ _ _ (h.2 i rows[i] aN[i] (by simp) (by simp)) b hb
theorem ab.split {hv:Option Value} :∀(m9 kI:List CT) (ts:List TypeId) (ds:List DC) (us:List Value) (mb:List Nat),ab w hv (m9++kI) ts ds us mb→
  ∃FL Hg m1 m2,ts=FL++Hg∧mb=m1++m2∧ab w hv m9 FL (ds.take m9.length) (us.take m9.length) m1∧ab w hv kI Hg (ds.drop m9.length) (us.drop m9.length) m2
 | [],kI,ts,ds,us,mb,h=>⟨[],ts,[],mb,rfl,rfl,by simp [ab],by simpa using h⟩
 | c::cs,kI,_,_,_,_,h=>by
  rw[List.cons_append] at h
  rcases cR c with ⟨e,rfl⟩ | hc
  ·simp only[ab] at h
   obtain⟨t,dE,rows,aW,v,aR,m1,gl,rfl,rfl,rfl,h4,h5,h6,rfl⟩:=h
   obtain⟨a1,a2,b1,b2,rfl,rfl,k1,k2⟩:=ab.split cs kI _ _ _ _ h6
   refine⟨t::a1,a2,m1++b1,b2,rfl,by simp, ?_,by simpa using k2⟩
   simp only[ab,List.length_cons,List.take_succ_cons]
   exact⟨t,a1,rows,_,v,_,m1,b1,rfl,rfl,rfl,h4,h5,k1,rfl⟩
  ·rw[ab.flat hc] at h
   obtain⟨d,aW,v,aR,rfl,rfl,h3,h4⟩:=h
   obtain⟨a1,a2,b1,b2,rfl,rfl,k1,k2⟩:=ab.split cs kI _ _ _ _ h4
   refine⟨a1,a2,b1,b2,rfl,rfl, ?_,by simpa using k2⟩
   rw[ab.flat hc]
   simp only[List.length_cons,List.take_succ_cons]
   exact⟨d,_,v,_,rfl,rfl,h3,k1⟩
theorem ab.join {hv:Option Value} :∀(m9 kI:List CT) (FL Hg:List TypeId) (d1 d2:List DC) (u1 u2:List Value) (m1 m2:List Nat),ab w hv m9 FL d1 u1 m1→ab w hv kI Hg d2 u2 m2→
  ab w hv (m9++kI) (FL++Hg) (d1++d2) (u1++u2) (m1++m2)
 | [],kI,_,_,_,_,_,_,_,_,h,h2=>by
  simp only[ab] at h
  obtain⟨rfl,rfl,rfl,rfl⟩:=h
  simpa using h2
 | c::cs,kI,_,_,_,_,_,_,_,_,h,h2=>by
  rcases cR c with ⟨e,rfl⟩ | hc
  ·simp only[ab] at h
   obtain⟨t,dE,rows,aW,v,aR,m1,gl,rfl,rfl,rfl,h4,h5,h6,rfl⟩:=h
   simp only[List.cons_append,ab]
   exact⟨t,_,rows,_,v,_,m1,_,rfl,rfl,rfl,h4,h5,ab.join cs kI _ _ _ _ _ _ _ _ h6 h2,by simp⟩
  ·rw[ab.flat hc] at h
   obtain⟨d,aW,v,aR,rfl,rfl,h3,h4⟩:=h
   simp only[List.cons_append]
   rw[ab.flat hc]
   exact⟨d,_,v,_,rfl,rfl,h3,ab.join cs kI _ _ _ _ _ _ _ _ h4 h2⟩
theorem ab.Cl {hv:Option Value} :∀(cs:List CT) (ds:List DC) (us:List Value) (fp:List Nat),al cs=true→aS w cs ds (fun j=>us[j]?) fp→us.length=cs.length→ab w hv cs [] ds us []
 | [],ds,us,fp,_,h,hl=>by
  simp only[aS] at h
  simp only[ab]
  exact⟨trivial,h.1,by simpa using hl,trivial⟩
 | c::cs,ds,us,fp,hf,h,hl=>by
  rw[eH,Bool.and_eq_true] at hf
  simp only[aS] at h
  obtain⟨d,r',v,f1,f2,rfl,h0,h1,h2,rfl⟩:=h
  cases us with
  | nil=>simp at hl
  | cons u us=>
   simp only[List.getElem?_cons_zero,Option.some.injEq] at h0
   subst h0
   rw[ab.flat hf.1]
   refine⟨d,r',u,us,rfl,rfl, ?_,ab.Cl cs r' us f2 hf.2 (by simpa using h2) (by simpa using hl)⟩
   have hz:f1=[]:=dC.lG [c] [d] (fun _=>some u) f1 hf.1 (by simp only[aS];exact⟨d,[],u,f1,[],rfl,rfl,h1,by simp,by simp⟩)
   subst hz
   exact h1
theorem ab.toFlat {hv:Option Value} :∀(cs:List CT) (ts:List TypeId) (ds:List DC) (us:List Value) (mb:List Nat),al cs=true→ab w hv cs ts ds us mb→ts=[]∧mb=[]∧aS w cs ds (fun j=>us[j]?) []
 | [],_,_,_,_,_,h=>by
  simp only[ab] at h
  obtain⟨rfl,rfl,rfl,rfl⟩:=h
  exact⟨rfl,rfl,by simp [aS]⟩
 | c::cs,_,_,_,_,hf,h=>by
  rw[eH,Bool.and_eq_true] at hf
  rw[ab.flat hf.1] at h
  obtain⟨d,aW,v,aR,rfl,rfl,h3,h4⟩:=h
  obtain⟨k1,k2,k3⟩:=ab.toFlat cs _ _ _ _ hf.2 h4
  refine⟨k1,k2, ?_⟩
  simp only[aS]
  exact⟨d,aW,v,[],[],rfl,rfl,h3,by simpa using k3,rfl⟩
theorem ab.Aw {hv hv':Option Value} {cs:List CT} {ts:List TypeId} {ds:List DC} {us:List Value} {mb:List Nat} (hf:al cs=true) (h:ab w hv cs ts ds us mb):ab w hv' cs ts ds us mb:=by
 obtain⟨rfl,rfl,k3⟩:=ab.toFlat _ _ _ _ _ hf h
 exact ab.Cl _ _ _ _ hf k3 (ab.length _ _ _ _ _ h).1
theorem ab.out:∀(e:List CT) (off:Nat) (e':List CT) (ts:List TypeId) (r:List DC) (us:List Value) (m:List Nat),e[off]? =some (.sl e')→aV e=1→ab w none e ts r us m→
  ∃t1 v rws,ts=[t1]∧us[off]? =some v∧r[off]? =some (.sl rws)∧al e'=true∧Jd w none t1 e' rws v m∧ab w (some v) e [t1] r us []
 | [],_,_,_,_,_,_,h,_,_=>by simp at h
 | c::cs,off,e',_,_,_,_,h,hn,hc=>by
  rcases cR c with ⟨e,rfl⟩ | hf
  ·simp only[aV] at hn
   have dZ:al cs=true:=dy (by omega)
   cases off with
   | zero=>
    simp only[List.getElem?_cons_zero,Option.some.injEq,CT.sl.injEq] at h
    subst h
    simp only[ab] at hc
    obtain⟨t,dE,rows,aW,v,aR,m1,gl,rfl,rfl,rfl,h4,h5,h6,rfl⟩:=hc
    obtain⟨rfl,rfl,_⟩:=ab.toFlat _ _ _ _ _ dZ h6
    have bg:v.oneCell'=true:=by
     obtain⟨vals,az,g1,_⟩:=h5
     exact g1.one
    refine⟨t,v,rows,rfl,rfl,rfl,h4,by simpa using h5, ?_⟩
    simp only[ab]
    exact⟨t,[],rows,aW,v,aR,[],[],rfl,rfl,rfl,h4,⟨rfl,bg,rfl⟩,ab.Aw dZ h6,rfl⟩
   | succ k=>exact (flat_get dZ (by simpa using h)).elim
  ·cases off with
   | zero=>
    simp only[List.getElem?_cons_zero,Option.some.injEq] at h
    subst h
    simp [al] at hf
   | succ k=>
    rw[ab.flat hf] at hc
    obtain⟨d,aW,v,aR,rfl,rfl,h3,h4⟩:=hc
    rw[dx hf] at hn
    obtain⟨t1,v1,rws,rfl,k1,k2,k3,k4,k5⟩:=ab.out cs k e' _ _ _ _ (by simpa using h) hn h4
    refine⟨t1,v1,rws,rfl,by simpa using k1,by simpa using k2,k3,k4, ?_⟩
    rw[ab.flat hf]
    exact⟨d,aW,v,aR,rfl,rfl,h3,k5⟩
theorem Ct {c:CT} {cs:List CT} (hc:al [c]=true):dG (c::cs)=dG cs+1:=by
 cases c with
 | sl e=>simp [al] at hc
 | _=>rfl
theorem ab.back {v:Value} {rws:List (List DC)} {m1:List Nat} :∀(e:List CT) (e':List CT) (t1:TypeId) (r:List DC) (us:List Value) (m:List Nat),e[dG e]? =some (.sl e')→aV e=1→ab w (some v) e [t1] r us m→
  Jd w none t1 e' rws v m1→ab w none e [t1] (bF r (dG e) [.sl rws]) us m1
 | [],_,_,_,_,_,h,_,_,_=>by simp [dG] at h
 | c::cs,e',t1,_,_,_,h,hn,hc,hs=>by
  rcases cR c with ⟨e,rfl⟩ | hf
  ·simp only[aV] at hn
   have dZ:al cs=true:=dy (by omega)
   simp only[dG,List.getElem?_cons_zero,Option.some.injEq,CT.sl.injEq] at h
   subst h
   simp only[ab] at hc
   obtain⟨t,dE,rows,aW,v',aR,Mb,gl,h1,rfl,rfl,h4,⟨rfl,bg,rfl⟩,h6,rfl⟩:=hc
   simp only[List.cons.injEq] at h1
   obtain⟨rfl,rfl⟩:=h1
   obtain⟨_,rfl,_⟩:=ab.toFlat _ _ _ _ _ dZ h6
   simp only[dG,bF,ab]
   exact⟨t1,[],rws,aW,v',aR,m1,[],rfl,by simp,rfl,h4,hs,ab.Aw dZ h6,by simp⟩
  ·rw[Ct hf] at h ⊢
   rw[ab.flat hf] at hc ⊢
   obtain⟨d,aW,v',aR,rfl,rfl,h3,h4⟩:=hc
   rw[dx hf] at hn
   refine⟨d,bF aW (dG cs) [.sl rws],v',aR, ?_,rfl,h3,ab.back cs e' t1 _ _ _ (by simpa using h) hn h4 hs⟩
   have e1:dG cs+1+([DC.sl rws]:List DC).length=(dG cs+([DC.sl rws]:List DC).length)+1:=by omega
   simp only[bF,e1,List.take_succ_cons,List.drop_succ_cons,List.cons_append]
theorem Af {α:Type} (l nu:List α) (p j:Nat) (h:p+nu.length≤l.length):(l.take p++(nu++l.drop (p+nu.length)))[j]? =if j<p then l[j]? else if j<p+nu.length then nu[j - p]? else l[j]? :=by
 have ht:(l.take p).length=p:=by simp;omega
 split
 ·rename_i hj
  rw[List.getElem?_append_left (by omega),List.getElem?_take,if_pos hj]
 ·rename_i hj
  rw[List.getElem?_append_right (by omega),ht]
  split
  ·rw[List.getElem?_append_left (by omega)]
  ·rw[List.getElem?_append_right (by omega),List.getElem?_drop]
   congr 1
   omega
theorem EK {α:Type} (vals nu:List α) (i off el:Nat) (Aj:off+nu.length≤el) (hl:i*el+el≤vals.length):
  ((vals.take (i*el+off)++(nu++vals.drop (i*el+off+nu.length))).drop (i*el)).take el=((vals.drop (i*el)).take el).take off++(nu++((vals.drop (i*el)).take el).drop (off+nu.length)):=by
 apply List.ext_getElem?
 intro j
 rw[Af _ _ _ _ (by simp;omega),List.getElem?_take,List.getElem?_drop,Af _ _ _ _ (by omega)]
 simp only[List.getElem?_take,List.getElem?_drop]
 by_cases hj:j<el
 ·rw[if_pos hj,if_pos hj]
  by_cases h1:j<off
  ·rw[if_pos (by omega),if_pos h1]
  ·rw[if_neg (by omega),if_neg h1]
   by_cases h2:j<off+nu.length
   ·rw[if_pos (by omega),if_pos h2]
    congr 1
    omega
   ·rw[if_neg (by omega),if_neg h2]
 ·rw[if_neg hj,if_neg hj,if_neg (by omega),if_neg (by omega)]
theorem Dp {α:Type} (vals nu:List α) (i off el k:Nat) (Aj:off+nu.length≤el) (hl:i*el+el≤vals.length) (hk:k≠i):
  ((vals.take (i*el+off)++(nu++vals.drop (i*el+off+nu.length))).drop (k*el)).take el=(vals.drop (k*el)).take el:=by
 apply List.ext_getElem?
 intro j
 rw[List.getElem?_take,List.getElem?_drop,Af _ _ _ _ (by omega),List.getElem?_take,List.getElem?_drop]
 by_cases hj:j<el
 ·rw[if_pos hj,if_pos hj]
  rcases Nat.lt_or_ge k i with cd | D8
  ·have:k*el+el≤i*el:=by rw[←Nat.succ_mul];exact Nat.mul_le_mul_right _ cd
   rw[if_pos (by omega)]
  ·have:i*el+el≤k*el:=by rw[←Nat.succ_mul];exact Nat.mul_le_mul_right _ (by omega)
   rw[if_neg (by omega),if_neg (by omega)]
 ·rw[if_neg hj,if_neg hj]
theorem bB.set {w w':World} {e:List CT} {ts:List TypeId} {rows:List (List DC)} {vals:List Value} {hv hv':Nat→Option Value} {aN:List (List Nat)} (h:bB w e ts rows vals hv aN) (hs:w.heap.size≤w'.heap.size) (hl:vals.length=rows.length*e.length)
  {i off:Nat} (hi:i<rows.length) {nu:List Value} (Aj:off+nu.length≤e.length) {r:List DC} {m:List Nat} (hm:∀j,j≠i→∀m',aN[j]? =some m'→∀b∈m',w'.heap[b]? =w.heap[b]?)
  (hh:∀j,j≠i→hv' j=hv j) (hr:ab w' (hv' i) e ts r (((vals.drop (i*e.length)).take e.length).take off++(nu++((vals.drop (i*e.length)).take e.length).drop (off+nu.length))) m):
  bB w' e ts (rows.set i r) (vals.take (i*e.length+off)++(nu++vals.drop (i*e.length+off+nu.length))) hv' (aN.set i m):=by
 have D9:i*e.length+e.length≤vals.length:=by rw[hl,←Nat.succ_mul];exact Nat.mul_le_mul_right _ hi
 refine⟨by simp [h.1],fun k r' m' hk Fh=> ?_⟩
 by_cases mJ:k=i
 ·subst mJ
  rw[List.getElem?_set_self hi,Option.some.injEq] at hk
  rw[List.getElem?_set_self (by rw[h.1];exact hi),Option.some.injEq] at Fh
  subst hk Fh
  rw[EK _ _ _ _ _ Aj D9]
  exact hr
 ·rw[List.getElem?_set_ne (Ne.symm mJ)] at hk Fh
  rw[Dp _ _ _ _ _ _ Aj D9 mJ,hh k mJ]
  exact ab.mono hs _ _ _ _ _ (h.2 k r' m' hk Fh) (hm k mJ m' Fh)
end
end Go.Proofs.YtngbcccnjiaddaaGreat.Vm
set_option linter.unusedVariables false
set_option linter.unusedSimpArgs false
namespace Go.Proofs.YtngbcccnjiaddaaGreat.Vm
def Env.eS (β:Env) (id:Nat) (l:List Nat):Env:=⟨β.di,β.val,β.gr,ay β.nb id l⟩
def Env.fQ (β:Env) (id:Nat) (v:Value) (l:List Nat):Env:=⟨β.di,ay β.val id v,β.gr,ay β.nb id l⟩
section
variable {P:Program} {Γ:Ctx} {w0:World} {S:Own} {st:St} {o:Oper} {e:cB} {a:Act} {w w':World}
variable {f:Nat→SV} {h:Nat→Option ai} {β:Env} {φ:Nat→List Nat} {tm:Array Value}
theorem Core.C5 (hc:Core w0 S f h β φ tm w) {id:Nat} {ob:ai} {t:TypeId} {ct:List CT} {ts:List TypeId} {rows:List (List DC)} {hl:Option (Nat×Nat)} {E2:List Nat} {G:Nat→Prop} {h':Nat→Option ai}
  (db:h id=some ob) (hG:∀k,G k→k≠id) (hh:h' id=some (.deep t ct ts rows hl)) (Df:∀j,j≠id→∀x,h' j=some x→h j=some x∧¬G j)
  (hs:w.heap.size≤w'.heap.size) (hw:∀b,b<w.heap.size→b ∉ (β.val id).ownBlock.toList→w'.heap[b]? =w.heap[b]?)
  (a8:∀b∈(β.val id).ownBlock.toList,b∈ao β id ob)
  (kO:∀b∈E2,b∈ao β id ob∨∃k x,G k∧h k=some x∧b∈ao β k x)
  (gJ:fA w' (Av h' (β.eS id E2)) (β.eS id E2) id (.deep t ct ts rows hl) ((β.val id).ownBlock.toList++E2)) (hnd:((β.val id).ownBlock.toList++E2).Nodup):
  Core w0 S f h' (β.eS id E2) (ay φ id ((β.val id).ownBlock.toList++E2)) tm w':=by
 have iL:∀j oj,j≠id→ao (β.eS id E2) j oj=ao β j oj:=by
  intro j oj hj
  cases oj<;>simp [ao,Env.eS,ay,hj]
 have CS:∀b∈(β.val id).ownBlock.toList++E2,b∈ao β id ob∨∃k x,G k∧h k=some x∧b∈ao β k x:=by
  intro b hb
  rcases List.mem_append.1 hb with hb | hb
  ·exact .inl (a8 b hb)
  ·exact kO b hb
 have bs:∀b∈(β.val id).ownBlock.toList++E2,((w0.heap.size≤b∨S b)∧b<w.heap.size)∧Av h β b∧∀j oj,j≠id→h j=some oj→¬G j→b ∉ φ j:=by
  intro b hb
  rcases CS b hb with h1 | ⟨k,x,hk,hx,h1⟩
  ·have h2:=aj (hc.aB id ob db) b h1
   exact⟨(hc.fresh id ob db).2 b h2,.inl ⟨id,ob,db,h1⟩,fun j oj hj ji _=>hc.sep id j ob oj (Ne.symm hj) db ji b h2⟩
  ·have h2:=aj (hc.aB k x hx) b h1
   exact⟨(hc.fresh k x hx).2 b h2,.inl ⟨k,x,hx,h1⟩,fun j oj hj ji hg=>hc.sep k j x oj (fun e=>hg (e ▸ hk)) hx ji b h2⟩
 refine hc.mc (fun _=>False) hs (fun b hb hn=>hw b hb (fun hx=>hn (.inl ⟨id,ob,db,a8 b hx⟩))) ?_ (fun _ _ _ h=>h) (fun _ _=>⟨rfl,rfl⟩) ?_ ?_
 ·rintro b (⟨j,oj,hj,bn⟩ | hb)
  case inr=>exact .inl (.inr hb)
  by_cases bR:j=id
  ·subst bR
   rw[hh,Option.some.injEq] at hj
   subst hj
   refine .inl (bs b ?_).2.1
   simpa [ao,Env.eS,ay] using bn
  ·rw[iL j oj bR] at bn
   exact .inl (.inl ⟨j,oj,(Df j bR oj hj).1,bn⟩)
 ·intro j oj hj
  by_cases bR:j=id
  ·subst bR
   rw[hh,Option.some.injEq] at hj
   subst hj
   refine .inr ⟨by simpa [ay] using gJ,by simpa [ay] using hnd,fun b hb=> ?_⟩
   have:=(bs b (by simpa [ay] using hb)).1
   exact⟨this.1,by omega⟩
  ·have h1:=(Df j bR oj hj).1
   refine .inl ⟨fun h=>h,h1,by simp [Env.eS,ay,bR],by simp [ay,bR],fun _ _ h=>h,fun b hb=> ?_⟩
   have e_:=aj (hc.aB j oj h1) b hb
   exact hw b ((hc.fresh j oj h1).2 b e_).2 (fun hx=>hc.sep id j ob oj (Ne.symm bR) db h1 b (aj (hc.aB id ob db) b (a8 b hx)) e_)
 ·intro i j oi oj cm hi hj b hb
  by_cases kN:i=id
  ·subst kN
   have fX:j≠i:=Ne.symm cm
   simp only[ay,if_true] at hb
   simp only[ay,fX,if_false]
   obtain⟨h1,h2⟩:=Df j fX oj hj
   exact (bs b hb).2.2 j oj fX h1 h2
  ·simp only[ay,kN,if_false] at hb
   obtain⟨h1,h2⟩:=Df i kN oi hi
   by_cases bR:j=id
   ·subst bR
    simp only[ay,if_true]
    exact fun ax=>(bs b ax).2.2 i oi kN h1 h2 hb
   ·simp only[ay,bR,if_false]
    exact hc.sep i j oi oj cm h1 (Df j bR oj hj).1 b hb
theorem Cy (hR:Rel w0 S st a w) (hd:∀d,o.dst=some d→ba st.n d) {c:Call} {x:Operand} {t:TypeId} (ho:o.op= .call c) (hb:c.callee= .builtin .len)
  (hx:c.args= #[x]) (ht:c.argTypes= #[t]) {sx:SV} (h1:(bV x).val st.get st.obj=some sx) (he:(G8 P t sx).val st.get st.obj=some e):Good P w0 S st o e a w:=by
 unfold G8 at he
 split at he
 ·rename_i id
  simp only[M.a7,Option.bind_eq_some_iff] at he
  obtain⟨ob,aM,he⟩:=he
  split at he
  ·rename_i t' ct ts r hl
   split at he
   ·rename_i et hu
    simp only[M.aa,Option.some.injEq] at he
    subst he
    refine aq hR hd rfl rfl fun β φ hc=> ?_
    have hv:=hc.ev h1
    simp only[ak] at hv
    obtain⟨vals,aN,a8,_⟩:=hc.aB id _ aM
    have key:∃q cap,β.val id= .slice q r.length cap∧r.length≤maxLen:=by
     rcases a8.2 with ⟨hv',h0,_⟩ | ⟨g,cap,cur,hv',_,Ah,hm,_⟩
     ·exact⟨none,0,by rw[hv',h0],by omega⟩
     ·exact⟨_,cap,hv',by omega⟩
    obtain⟨q,cap,hq,hm⟩:=key
    refine⟨.int .i64 r.length, ?_,by unfold ak;exact⟨rfl,An hm⟩⟩
    simp [execOp,ho,resolve,hb,hx,ht,invoke,builtin,hv.1,hq,Builtin.len_,run_underlying hu,goInt]
   ·simp at he
  ·refine mW hR hd ho hb hx ht h1 ?_
   exact he
 ·exact mW hR hd ho hb hx ht h1 he
theorem j_ (hR:Rel w0 S st a w) (hd:∀d,o.dst=some d→ba st.n d) {t:TypeId} {x i:Operand} (ho:o.op= .indexAddr t x i) {sx si:SV}
  (h1:(bV x).val st.get st.obj=some sx) (h2:(bV i).val st.get st.obj=some si) (he:(iM P t sx si).val st.get st.obj=some e) (aF:e.ok=true):Good P w0 S st o e a w:=by
 unfold iM at he
 split at he
 ·rename_i id
  simp only[M.a7,Option.bind_eq_some_iff] at he
  obtain⟨ob,aM,he⟩:=he
  split at he
  ·rename_i t' ct ts r hl
   split at he
   ·rename_i et k n hu
    cases hz:aX P et ct.length
    ·simp [hz] at he
    simp only[hz,cond_true,M.aa,Option.some.injEq] at he
    subst he
    simp only[Bool.and_eq_true,decide_eq_true_eq] at aF
    obtain⟨i',hi,dd⟩:=a9 hz
    refine aq hR hd rfl rfl fun β φ hc=> ?_
    have hv:=hc.ev h1
    have FY:=hc.ev h2
    simp only[ak] at hv FY
    obtain⟨vals,aN,a8,_⟩:=hc.aB id _ aM
    rcases a8.2 with ⟨_,h0,_⟩ | ⟨g,cap,cur,hv',_⟩
    ·omega
    ·refine⟨.pointer (some ⟨g,0+n.toNat*i'.size,none⟩), ?_, ?_⟩
     ·simp [execOp,ho,hv.1,hv',FY.1,Instr.indexAt,asIntOf,run_underlying hu,aF.1,aF.2,sizeOf,typeInfo,hi,dj]
     ·simp only[ak]
      exact⟨g,by rw[hv'];rfl,by rw[dd];simp⟩
   ·simp at he
  ·exact gn hR hd ho h1 h2 he aF
 ·exact gn hR hd ho h1 h2 he aF
theorem DU (hc:Core w0 S f h β φ tm w) {id:Nat} {t:TypeId} {ct:List CT} {ts:List TypeId} {rows:List (List DC)} {hl:Option (Nat×Nat)} (aM:h id=some (.deep t ct ts rows hl)) {i:Nat} (hi:i<rows.length) {g:Nat} (hg:(β.val id).ownBlock=some g):
  ∃(us:List Value) (m:List Nat),ab w (gK β hl i) ct ts (rows.getD i []) us m∧us.length=ct.length∧∀j u,us[j]? =some u→w.cell? ⟨g,i*ct.length+j,none⟩=some u:=by
 obtain⟨vals,aN,a8,cT,_,_⟩:=hc.aB id _ aM
 have hf:i<aN.length:=by rw[cT.1];exact hi
 have fL:=cT.2 i (rows.getD i []) aN[i] (cl hi) (by simp)
 exact⟨_,_,fL,(ab.length _ _ _ _ _ fL).1,fun j u hj=>a8.cell hg (fy hj)⟩
theorem ab.get {hv:Option Value} :∀(cs:List CT) (ts:List TypeId) (r:List DC) (us:List Value) (m:List Nat) (k:Nat) (c:CT),ab w hv cs ts r us m→cs[k]? =some c→al [c]=true→
  ∃v,us[k]? =some v∧bQ w c (r.getD k default) v []
 | [],_,_,_,_,_,_,_,hk,_=>by simp at hk
 | c0::cs,_,_,_,_,k,c,h,hk,hf=>by
  rcases cR c0 with ⟨e,rfl⟩ | hc
  ·simp only[ab] at h
   obtain⟨t,dE,rows,aW,v,aR,m1,gl,rfl,rfl,rfl,_,_,h6,rfl⟩:=h
   cases k with
   | zero=>
    simp only[List.getElem?_cons_zero,Option.some.injEq] at hk
    subst hk
    simp [al] at hf
   | succ k=>
    obtain⟨v',h1,h2⟩:=ab.get cs _ _ _ _ k c h6 (by simpa using hk) hf
    exact⟨v',by simpa using h1,by simpa using h2⟩
  ·rw[ab.flat hc] at h
   obtain⟨d,aW,v,aR,rfl,rfl,h3,h4⟩:=h
   cases k with
   | zero=>
    simp only[List.getElem?_cons_zero,Option.some.injEq] at hk
    subst hk
    exact⟨v,by simp,by simpa using h3⟩
   | succ k=>
    obtain⟨v',h1,h2⟩:=ab.get cs _ _ _ _ k c h4 (by simpa using hk) hf
    exact⟨v',by simpa using h1,by simpa using h2⟩
theorem ab.bE {hv:Option Value} {av:Nat→Prop} {cs:List CT} {ts:List TypeId} {r:List DC} {us:List Value} {m:List Nat} (h:ab w hv cs ts r us m):
  ∀(n k:Nat),k+n≤cs.length→al ((cs.drop k).take n)=true→∃vs:List Value,vs.length=n∧(∀j v,vs[j]? =some v→us[k+j]? =some v)∧af w av β (bM ((cs.drop k).take n) r k) vs∧∀x∈vs,x.oneCell'=true
 | 0,k,_,_=>⟨[],rfl,by simp,by simp [bM,af],by simp⟩
 | n+1,k,hk,hf=>by
  have cd:k<cs.length:=by omega
  have HO:(cs.drop k).take (n+1)=cs[k]::(cs.drop (k+1)).take n:=by
   rw[List.drop_eq_getElem_cons cd,List.take_succ_cons]
  rw[HO,eH,Bool.and_eq_true] at hf
  obtain⟨v,e1,e2⟩:=ab.get cs ts r us m k cs[k] h (by simp) hf.1
  obtain⟨vs,l1,l2,l3,l4⟩:=ab.bE h n (k+1) (by omega) hf.2
  refine⟨v::vs,by simp [l1], ?_, ?_, ?_⟩
  ·intro j u hj
   cases j with
   | zero=>simp at hj;subst hj;simpa using e1
   | succ j=>have:=l2 j u (by simpa using hj);rw[←this];congr 1;omega
  ·rw[HO]
   simp only[bM,af]
   exact⟨v,vs,rfl,ew e2 (by simp),l3⟩
  ·intro x hx
   rcases List.mem_cons.1 hx with rfl | hx
   ·exact e2.one
   ·exact l4 x hx
theorem Bu (hR:Rel w0 S st a w) (hd:∀d,o.dst=some d→ba st.n d) {t:TypeId} {x:Operand} (ho:o.op= .load t x) {id i z off:Nat} {t':TypeId} {ct:List CT} {ts:List TypeId} {rows:List (List DC)} {hl:Option (Nat×Nat)}
  (h1:(bV x).val st.get st.obj=some (.dL id i z off)) (aM:st.obj id=some (.deep t' ct ts rows hl)) (he:(ED P t i z off ct rows).val st.get st.obj=some e) (aF:e.ok=true):Good P w0 S st o e a w:=by
 unfold ED at he
 cases hz:Nat.beq z ct.length
 ·simp [hz] at he
 have Iy:=Nat.eq_of_beq_eq_true hz
 simp only[hz,Bool.not_true,cond_false] at he
 split at he
 ·simp at he
 rename_i td hu
 have reads:∀β φ,Core w0 S st.get st.obj β φ a.tmps w→i<rows.length→∃g us m,a.eval x= .pointer (some ⟨g,i*ct.length+off,none⟩)∧ab w (gK β hl i) ct ts (rows.getD i []) us m∧
   ∀j u,us[j]? =some u→w.cell? ⟨g,i*ct.length+j,none⟩=some u:=by
  intro β φ hc hi
  have hx:=hc.ev h1
  simp only[ak] at hx
  obtain⟨g,hg,hv⟩:=hx
  obtain⟨us,m,k1,_,k3⟩:=DU hc aM hi hg
  exact⟨g,us,m,by rw[hv,Iy],k1,k3⟩
 cases ha:bh P t
 ·simp only[ha,cond_false] at he
  split at he
  ·rename_i c Ah
   cases hf:al [c]
   ·simp [hf] at he
   simp only[hf,cond_true,M.aa,Option.some.injEq] at he
   subst he
   have hi:i<rows.length:=by simpa using aF
   refine aq hR hd rfl rfl fun β φ hc=> ?_
   obtain⟨g,us,m,hv,hr,hcell⟩:=reads β φ hc hi
   obtain⟨v,e1,e2⟩:=ab.get _ _ _ _ _ _ _ hr Ah hf
   refine⟨v, ?_,ew e2 (by simp)⟩
   simp [execOp,ho,hv,dv ha hu (hcell _ _ e1)]
  ·simp at he
 ·simp only[ha,cond_true] at he
  split at he
  ·rename_i j hj
   cases Iz:Nat.ble (off+j.size) ct.length && al ((ct.drop off).take j.size)
   ·simp [Iz] at he
   simp only[Iz,cond_true,M.aa,Option.some.injEq] at he
   subst he
   simp only[Bool.and_eq_true] at Iz
   have hi:i<rows.length:=by simpa using aF
   have hle:=Nat.le_of_ble_eq_true Iz.1
   refine aq hR hd rfl rfl fun β φ hc=> ?_
   obtain⟨g,us,m,hv,hr,hcell⟩:=reads β φ hc hi
   obtain⟨vs,l1,l2,l3,l4⟩:=ab.bE (β:=β) (av:=Av st.obj β) hr j.size off hle Iz.2
   refine⟨.agg vs.toArray, ?_, ?_⟩
   ·have:∀k v,vs[k]? =some v→w.cell? ⟨g,(i*ct.length+off)+k,none⟩=some v:=fun k v hk=>by
     rw[Nat.add_assoc]
     exact hcell _ _ (l2 k v hk)
    simp [execOp,ho,hv,eR ha hj l1 this]
   ·simp only[ak]
    exact⟨vs,rfl,l3,l4⟩
  ·simp at he
theorem Ac {aN:List (List Nat)} {i:Nat} (hi:i<aN.length):∀b∈(aN.set i []).flatten,b∈aN.flatten:=by
 intro b hb
 rw[bG hi] at hb
 rw[bl hi]
 simp only[List.nil_append,List.mem_append] at hb ⊢
 rcases hb with hb | hb<;>simp [hb]
theorem CB (hR:Rel w0 S st a w) {d:Nat} (aJ:o.dst=some d) (hd:ba st.n d) (bI:bC st d) {t:TypeId} {x:Operand} (ho:o.op= .load t x) {id i off:Nat} {t' t1:TypeId} {ct e':List CT} {rows:List (List DC)} {td:TypeDesc}
  (h1:(bV x).val st.get st.obj=some (.dL id i ct.length off)) (aM:st.obj id=some (.deep t' ct [t1] rows none)) (Aj:ct[off]? =some (.sl e')) (GD:aV ct=1) (ha:bh P t=false) (hu:P.underlying t=some td) (hi:i<rows.length)
  (fY:e.sv= .own (ag d 0)) (kn:e.cw=none) (how:e.ow=[(ag d 0,some (.row t1 e' ((rows.getD i []).getD off default).cX false true)),(id,some (.deep t' ct [t1] rows (some (i,ag d 0))))]):Good P w0 S st o e a w:=by
 obtain⟨β,φ,hc⟩:=hR.core
 have bs:ag d 0 / 64=d:=cy d 0 (by omega)
 generalize LH:ag d 0=nid at*
 have cm:id≠nid:=fun e=>(bI.obj id _ aM).1 (e ▸ bs)
 have hx:=hc.ev h1
 simp only[ak] at hx
 obtain⟨g,hg,hx⟩:=hx
 obtain⟨vals,aN,a8,cT,kO,kR⟩:=hc.aB id _ aM
 have jS:i<aN.length:=by rw[cT.1];exact hi
 have fL:=cT.2 i (rows.getD i []) aN[i] (cl hi) (by simp)
 obtain⟨Md,v,rws,I_,hv,Iq,dZ,jW,J5⟩:=ab.out ct off e' _ _ _ _ Aj GD fL
 simp only[List.cons.injEq,and_true] at I_
 subst I_
 obtain⟨mZ,E_,Ig,J1,F2⟩:=jW
 have Kc:((rows.getD i []).getD off default).cX=rws:=by
  rw[List.getD_eq_getElem?_getD,Iq]
  rfl
 rw[Kc] at how
 have hcell:w.cell? ⟨g,i*ct.length+off,none⟩=some v:=a8.cell hg (fy hv)
 have Fx:=(hc.fresh id _ aM).1
 rw[kR] at Fx
 have jk:∀b∈v.ownBlock.toList,b∈aN.flatten:=by
  intro b hb
  rw[bl jS,F2]
  simp [hb]
 have HH:∀b∈(β.val id).ownBlock.toList++aN.flatten,Av st.obj β b:=fun b hb=> .inl ⟨id,_,aM,by simpa [ao,kO] using hb⟩
 have mP:∀b∈(β.val id).ownBlock.toList++aN.flatten,b∈φ id:=fun b hb=>by rw[kR];exact hb
 have mK:∀b∈(β.val id).ownBlock.toList++(aN.set i []).flatten,b∈(β.val id).ownBlock.toList++aN.flatten:=by
  intro b hb
  rcases List.mem_append.1 hb with hb | hb
  ·exact List.mem_append_left _ hb
  ·exact List.mem_append_right _ (Ac jS b hb)
 have CO:∀b∈v.ownBlock.toList,b ∉ (β.val id).ownBlock.toList++(aN.set i []).flatten:=by
  intro b hb iV
  rw[bl jS,List.nodup_append] at Fx
  obtain⟨_,n2,n3⟩:=Fx
  rw[List.nodup_append] at n2
  obtain⟨_,n4,n5⟩:=n2
  rw[List.nodup_append] at n4
  obtain⟨_,_,n6⟩:=n4
  rw[←F2] at hb
  rcases List.mem_append.1 iV with iV | iV
  ·exact n3 b iV b (by simp [hb]) rfl
  ·rw[bG jS] at iV
   simp only[List.nil_append,List.mem_append] at iV
   rcases iV with iV | iV
   ·exact n5 b iV b (by simp [hb]) rfl
   ·exact n6 b hb b iV rfl
 have Eg:((β.val id).ownBlock.toList++(aN.set i []).flatten).Nodup:=by
  refine List.Sublist.nodup ?_ Fx
  refine (List.Sublist.refl _).append ?_
  rw[bG jS,bl jS]
  exact (List.Sublist.refl _).append ((List.nil_sublist _).append (List.Sublist.refl _))
 have Fv:v.ownBlock.toList.Nodup:=by cases v.ownBlock<;>simp
 let β':Env:=⟨β.di,ay β.val nid v,β.gr,ay β.nb id (aN.set i []).flatten⟩
 have Em:β'.val id=β.val id:=by simp [β',ay,cm]
 have Bb:β'.val nid=v:=by simp [β',ay]
 have H9:β'.nb id=(aN.set i []).flatten:=by simp [β',ay]
 let h':Nat→Option ai:=ay (ay st.obj id (some (.deep t' ct [t1] rows (some (i,nid))))) nid (some (.row t1 e' rws false true))
 let φ':Nat→List Nat:=ay (ay φ id ((β.val id).ownBlock.toList++(aN.set i []).flatten)) nid v.ownBlock.toList
 have HN:Core w0 S st.get h' β' φ' a.tmps w:=by
  have e1:h' nid=some (.row t1 e' rws false true):=by simp [h',ay]
  have e2:h' id=some (.deep t' ct [t1] rows (some (i,nid))):=by simp [h',ay,cm]
  have e3:∀j,j≠nid→j≠id→h' j=st.obj j:=fun j h1 h2=>by simp [h',ay,h1,h2]
  have p1:φ' nid=v.ownBlock.toList:=by simp [φ',ay]
  have p2:φ' id=(β.val id).ownBlock.toList++(aN.set i []).flatten:=by simp [φ',ay,cm]
  have p3:∀j,j≠nid→j≠id→φ' j=φ j:=fun j h1 h2=>by simp [φ',ay,h1,h2]
  have iL:∀j oj,j≠nid→j≠id→ao β' j oj=ao β j oj:=by
   intro j oj h1 h2
   cases oj<;>simp [ao,β',ay,h1,h2]
  have Jp:∀b,Av h' β' b→Av st.obj β b:=by
   rintro b (⟨j,oj,hj,bn⟩ | hb)
   case inr=>exact .inr hb
   by_cases lO:j=nid
   ·subst lO
    rw[e1,Option.some.injEq] at hj
    subst hj
    exact HH b (List.mem_append_right _ (jk b (by simpa [ao,Bb] using bn)))
   ·by_cases fX:j=id
    ·subst fX
     rw[e2,Option.some.injEq] at hj
     subst hj
     exact HH b (mK b (by simpa only[ao,Em,H9] using bn))
    ·rw[e3 j lO fX] at hj
     rw[iL j oj lO fX] at bn
     exact .inl ⟨j,oj,hj,bn⟩
  have bo:=(hc.fresh id _ aM).2
  refine hc.mc (fun j=>j=nid) (Nat.le_refl _) (fun _ _ _=>rfl) (fun b hb=> .inl (Jp b hb)) (fun k j hj e=>bI.slot k j hj (e ▸ bs)) (fun j hj=>⟨by simp [β',ay,hj],rfl⟩) ?_ ?_
  ·intro j oj hj
   by_cases lO:j=nid
   ·subst lO
    rw[e1,Option.some.injEq] at hj
    subst hj
    refine .inr ⟨?_,by rw[p1];exact Fv,fun b hb=> ?_⟩
    ·refine⟨mZ,E_,by rw[Bb];exact Ig,J1, ?_, ?_⟩
     ·rw[J1.C2 dZ]
      simp
     ·rw[p1,Bb,J1.C2 dZ]
      simp
    ·rw[p1] at hb
     exact bo b (mP b (List.mem_append_right _ (jk b hb)))
   ·by_cases fX:j=id
    ·subst fX
     rw[e2,Option.some.injEq] at hj
     subst hj
     refine .inr ⟨?_,by rw[p2];exact Eg,fun b hb=> ?_⟩
     ·refine⟨vals,aN.set i [],by rw[Em];exact a8,⟨by simp [cT.1],fun k r m hk hm=> ?_⟩,H9,by rw[p2,Em]⟩
      by_cases mJ:k=i
      ·subst mJ
       rw[List.getElem?_set_self jS,Option.some.injEq] at hm
       subst hm
       have Fp:r=rows.getD k []:=by
        rw[cl (d:=[]) hi,Option.some.injEq] at hk
        exact hk.symm
       subst Fp
       simp only[gK,if_true]
       rw[Bb]
       exact J5
      ·rw[List.getElem?_set_ne (Ne.symm mJ)] at hm
       simp only[gK,mJ,if_false]
       exact cT.2 k r m hk hm
     ·rw[p2] at hb
      exact bo b (mP b (mK b hb))
    ·rw[e3 j lO fX] at hj
     refine .inl ⟨lO,hj,by simp [β',ay,fX],p3 j lO fX,fun k hk e=>(bI.obj j oj hj).2 k hk (e ▸ bs),fun _ _=>rfl⟩
  ·have kinds:∀j oj,h' j=some oj→∀b∈φ' j,(j=nid∧b∈v.ownBlock.toList)∨(j=id∧b∈(β.val id).ownBlock.toList++(aN.set i []).flatten)∨(j≠nid∧j≠id∧st.obj j=some oj∧b∈φ j):=by
    intro j oj hj b hb
    by_cases lO:j=nid
    ·subst lO
     rw[p1] at hb
     exact .inl ⟨rfl,hb⟩
    ·by_cases fX:j=id
     ·subst fX
      rw[p2] at hb
      exact .inr (.inl ⟨rfl,hb⟩)
     ·rw[p3 j lO fX] at hb
      rw[e3 j lO fX] at hj
      exact .inr (.inr ⟨lO,fX,hj,hb⟩)
   intro j k oj ok JJ hj hk b hb ax
   rcases kinds j oj hj b hb with ⟨rfl,x1⟩ | ⟨rfl,x1⟩ | ⟨x0,KZ,x1,x2⟩<;>rcases kinds k ok hk b ax with ⟨rfl,y1⟩ | ⟨rfl,y1⟩ | ⟨y0,K_,y1,y2⟩
   ·exact JJ rfl
   ·exact CO b x1 y1
   ·exact hc.sep id k _ ok (Ne.symm K_) aM y1 b (mP b (List.mem_append_right _ (jk b x1))) y2
   ·exact CO b y1 x1
   ·exact JJ rfl
   ·exact hc.sep _ k _ ok (Ne.symm K_) aM y1 b (mP b (mK b x1)) y2
   ·exact hc.sep id j _ oj (Ne.symm KZ) aM x1 b (mP b (List.mem_append_right _ (jk b y1))) x2
   ·exact hc.sep _ j _ oj (Ne.symm KZ) aM x1 b (mP b (mK b y1)) x2
   ·exact hc.sep j k oj ok JJ x1 y1 b x2 y2
 refine bY hR (fun d' h'=>by rw[aJ] at h';injection h' with h';exact h' ▸ hd) (v:=v) (w':=w) ?_ hR.kept ⟨β',φ', ?_, ?_⟩
 ·simp [execOp,ho,hx,dv ha hu hcell]
 ·rw[how,kn]
  exact HN
 ·rw[fY]
  unfold ak
  exact⟨Bb.symm,Ig.one⟩
end
end Go.Proofs.YtngbcccnjiaddaaGreat.Vm
set_option linter.unusedVariables false
set_option linter.unusedSimpArgs false
namespace Go.Proofs.YtngbcccnjiaddaaGreat.Vm
section
variable {P:Program} {Γ:Ctx} {w0:World} {S:Own} {st:St} {o:Oper} {e:cB} {a:Act} {w w':World}
variable {f:Nat→SV} {h:Nat→Option ai} {β:Env} {φ:Nat→List Nat} {tm:Array Value}
theorem ab.FJ {hv:Option Value} {pre part suf:List CT} {ts:List TypeId} {r ds:List DC} {us nu:List Value} {m:List Nat} (h:ab w hv (pre++(part++suf)) ts r us m) (hf:al part=true) (hn:ab w hv part [] ds nu []):
  ab w hv (pre++(part++suf)) ts (bF r pre.length ds) (us.take pre.length++(nu++us.drop (pre.length+nu.length))) m:=by
 obtain⟨FL,Hg,m1,m2,rfl,rfl,k1,k2⟩:=ab.split _ _ _ _ _ _ h
 obtain⟨L2,L3,m3,m4,rfl,rfl,k3,k4⟩:=ab.split _ _ _ _ _ _ k2
 obtain⟨rfl,rfl,_⟩:=ab.toFlat _ _ _ _ _ hf k3
 obtain⟨l1,l2⟩:=ab.length _ _ _ _ _ hn
 rw[List.drop_drop,List.drop_drop] at k4
 have:=ab.join _ _ _ _ _ _ _ _ _ _ k1 (ab.join _ _ _ _ _ _ _ _ _ _ hn k4)
 simpa only[bF,l1,l2] using this
theorem ab.FI {hv:Option Value} {pre part suf:List CT} {ts dE:List TypeId} {r ds:List DC} {us nu:List Value} {m m':List Nat} (h:ab w hv (pre++(part++suf)) ts r us m) (hf:aV part=aV (pre++(part++suf))) (hn:ab w none part dE ds nu m'):
  ab w none (pre++(part++suf)) dE (bF r pre.length ds) (us.take pre.length++(nu++us.drop (pre.length+nu.length))) m':=by
 rw[dw,dw] at hf
 have f1:al pre=true:=dy (by omega)
 have f2:al suf=true:=dy (by omega)
 obtain⟨FL,Hg,m1,m2,rfl,rfl,k1,k2⟩:=ab.split _ _ _ _ _ _ h
 obtain⟨L2,L3,m3,m4,rfl,rfl,k3,k4⟩:=ab.split _ _ _ _ _ _ k2
 obtain⟨rfl,rfl,_⟩:=ab.toFlat _ _ _ _ _ f1 k1
 obtain⟨rfl,rfl,_⟩:=ab.toFlat _ _ _ _ _ f2 k4
 obtain⟨l1,l2⟩:=ab.length _ _ _ _ _ hn
 rw[List.drop_drop,List.drop_drop] at k4
 have:=ab.join _ _ _ _ _ _ _ _ _ _ (ab.Aw (hv':=none) f1 k1) (ab.join _ _ _ _ _ _ _ _ _ _ hn (ab.Aw (hv':=none) f2 k4))
 simpa only[bF,l1,l2,List.nil_append,List.append_nil] using this
theorem cK.cells:∀(cs:List CT) (ts:List TypeId) (ds:List DC) (us:List Value) (mb:List Nat),cK w cs ts ds us mb→ab w none cs ts ds us mb
 | [],_,_,_,_,h=>by simpa only[cK,ab] using h
 | .sl e::cs,_,_,_,_,h=>by
  simp only[cK] at h
  obtain⟨t,dE,rows,aW,v,aR,vals,az,gl,rfl,rfl,rfl,h4,h5,h6,h7,rfl⟩:=h
  simp only[ab]
  exact⟨t,dE,rows,aW,v,aR,_,gl,rfl,rfl,rfl,h4,⟨vals,az,h5,h6,rfl⟩,cK.cells cs _ _ _ _ h7,rfl⟩
 | .int k::cs,_,_,_,_,h=>by
  simp only[cK] at h
  obtain⟨d,aW,v,aR,rfl,rfl,h3,h4⟩:=h
  simp only[ab]
  exact⟨d,aW,v,aR,rfl,rfl,h3,cK.cells cs _ _ _ _ h4⟩
 | .bool::cs,_,_,_,_,h=>by
  simp only[cK] at h
  obtain⟨d,aW,v,aR,rfl,rfl,h3,h4⟩:=h
  simp only[ab]
  exact⟨d,aW,v,aR,rfl,rfl,h3,cK.cells cs _ _ _ _ h4⟩
 | .str::cs,_,_,_,_,h=>by
  simp only[cK] at h
  obtain⟨d,aW,v,aR,rfl,rfl,h3,h4⟩:=h
  simp only[ab]
  exact⟨d,aW,v,aR,rfl,rfl,h3,cK.cells cs _ _ _ _ h4⟩
theorem three (ct:List CT) (off n:Nat):ct.take off++((ct.drop off).take n++ct.drop (off+n))=ct:=by
 rw[←List.drop_drop,List.take_append_drop,List.take_append_drop]
theorem mX {t t':TypeId} {x y:Operand} (ho:o.op= .store t x y) {g i off:Nat} {ct:List CT} {n cap:Nat} {cur:Array Value} (hx:a.eval x= .pointer (some ⟨g,i*ct.length+off,none⟩)) {ti:TypeInfo} (Fs:P.info? t=some ti) (bk:ti.size=(a.eval y).cells.size)
  (bg:∀v∈(a.eval y).cells.toList,v.oneCell'=true) (hh:w.heap[g]? =some (.cells cur t' (0,0))) (hi:i<n) (B8:n≤cap) (fI:cur.size=cap*ct.length) (dr:off+(a.eval y).cells.toList.length≤ct.length):
  (execOp a.eval o).run P w= .ok .skip (w.setRow g (cur.toList.take (i*ct.length+off)++((a.eval y).cells.toList++cur.toList.drop (i*ct.length+off+(a.eval y).cells.toList.length))).toArray):=by
 have hlen:i*ct.length+ct.length≤n*ct.length:=by rw[←Nat.succ_mul];exact Nat.mul_le_mul_right _ hi
 have A5:n*ct.length≤cap*ct.length:=Nat.mul_le_mul_right _ B8
 have bj:=cf P g (i*ct.length+off) t' (0,0) (a.eval y).cells.toList 0 cur w hh (fun j _ h=>by simp at h) (by omega) bg
 simp only[Nat.add_zero] at bj
 have:=gY (P:=P) (t:=t) (b:=g) (off:=i*ct.length+off) (x:=a.eval y) Fs bk bj
 simp [execOp,ho,hx,this]
theorem bW.written {t:TypeId} {el i off n:Nat} {v:Value} {vals nu:List Value} (a8:bW w t el false v n vals) {g:Nat} (hg:v.ownBlock=some g) (hi:i<n) (dr:off+nu.length≤el) {cap:Nat} {cur:Array Value} (hh:w.heap[g]? =some (.cells cur t (0,0))) (fI:cur.size=cap*el) (B8:n≤cap):
  bW (w.setRow g (cur.toList.take (i*el+off)++(nu++cur.toList.drop (i*el+off+nu.length))).toArray) t el false v n (vals.take (i*el+off)++(nu++vals.drop (i*el+off+nu.length))):=by
 have hlen:i*el+el≤n*el:=by rw[←Nat.succ_mul];exact Nat.mul_le_mul_right _ hi
 have A5:n*el≤cap*el:=Nat.mul_le_mul_right _ B8
 have CQ:(cur.toList.take (i*el+off)++(nu++cur.toList.drop (i*el+off+nu.length))).length=cur.size:=by
  simp only[List.length_append,List.length_take,List.length_drop,Array.length_toList]
  omega
 rcases a8.2 with ⟨hv,h0,_⟩ | ⟨g',Ji,Lb,hv,JE,JU,Fc,lN,G2⟩
 ·omega
 have GJ:g'=g:=by simpa [hv,Value.ownBlock] using hg
 subst GJ
 rw[hh] at JE
 simp only[cond_false,Option.some.injEq,Obj.cells.injEq] at JE
 obtain⟨rfl,_⟩:=JE
 refine⟨?_,.inr ⟨g',Ji,(cur.toList.take (i*el+off)++(nu++cur.toList.drop (i*el+off+nu.length))).toArray,hv, ?_,JU,Fc,by simpa [CQ] using lN, ?_⟩⟩
 ·have:=a8.1
  simp only[List.length_append,List.length_take,List.length_drop]
  omega
 ·rw[setRow_heap w _ _ _ _ _ hh]
  simp
 ·simp only
  rw[kD _ _ _ _ (by omega) (by simp only[Array.length_toList];omega),G2]
theorem AB (hR:Rel w0 S st a w) (hd:∀d,o.dst=some d→ba st.n d) {t t':TypeId} {x y:Operand} (ho:o.op= .store t x y) {id i off:Nat} {sy:SV} {bE:List SV} {ct:List CT} {ts:List TypeId} {rows:List (List DC)} {hl:Option (Nat×Nat)} {r:List DC×eB×Bool}
  (h1:(bV x).val st.get st.obj=some (.dL id i ct.length off)) (h2:(bV y).val st.get st.obj=some sy) (fI:(aA sy).val st.get st.obj=some bE) (dd:aX P t bE.length=true)
  (aM:st.obj id=some (.deep t' ct ts rows hl)) (dr:off+bE.length≤ct.length) (hf:al ((ct.drop off).take bE.length)=true) (hr:(bT ((ct.drop off).take bE.length) bE).val st.get st.obj=some r)
  (hi:i<rows.length) (kn:e.cw=none) (Ej:e.sv= .undef) (how:e.ow=[(id,some (.deep t' ct ts (rows.set i (bF (rows.getD i []) off r.1)) hl))]):Good P w0 S st o e a w:=by
 obtain⟨ti,Fs,bk⟩:=a9 dd
 obtain⟨β,φ,hc⟩:=hR.core
 have hx:=hc.ev h1
 simp only[ak] at hx
 obtain⟨g,hg,hx⟩:=hx
 obtain⟨fY,bg⟩:=dm (hc.ev h2) fI
 have jH:=af.length _ _ fY
 have ml:(a.eval y).cells.size=bE.length:=by simpa using jH
 obtain⟨fp,kQ,_,_,_⟩:=dA hc _ _ _ r fY hr
 obtain⟨vals,aN,a8,cT,kO,kR⟩:=hc.aB id _ aM
 have kp:g∈ao β id (.deep t' ct ts rows hl):=by simp [ao,hg]
 rcases a8.2 with ⟨hv,h0,_⟩ | ⟨g',cap,cur,hv,hh,B8,Fc,lN,G2⟩
 ·omega
 have GJ:g'=g:=by simpa [hv,Value.ownBlock] using hg
 subst GJ
 simp only[cond_false] at hh
 have E0:(a.eval y).cells.toList.length=bE.length:=by simpa using ml
 have bj:=mX (P:=P) ho hx Fs (bk.trans ml.symm) bg hh hi B8 lN (by rw[E0];exact dr)
 have Hq:=a8.written (off:=off) (nu:=(a.eval y).cells.toList) hg hi (by rw[E0];exact dr) hh lN B8
 generalize (a.eval y).cells.toList=nu at*
 rw[←E0] at dr hf kQ hr
 have jS:i<aN.length:=by rw[cT.1];exact hi
 have fL:=cT.2 i (rows.getD i []) aN[i] (cl hi) (by simp)
 have F1:(ct.take off).length=off:=by simp;omega
 have H2:((ct.drop off).take nu.length).length=nu.length:=by simp;omega
 have bs:=ab.FJ (pre:=ct.take off) (part:=(ct.drop off).take nu.length) (suf:=ct.drop (off+nu.length)) (by rw[three];exact fL) hf (ab.Cl _ _ _ _ hf kQ H2.symm)
 rw[three,F1] at bs
 have bo:=hc.fresh id _ aM
 have hnd:=bo.1
 rw[kR] at hnd
 have I8:∀b∈aN.flatten,b≠g':=by
  intro b hb e
  subst e
  rw[List.nodup_append] at hnd
  exact hnd.2.2 b (by simp [hg]) b hb rfl
 have jU:∀j m',aN[j]? =some m'→∀b∈m',b∈aN.flatten:=fun j m' hj b hb=>List.mem_flatten.2 ⟨m',List.mem_of_getElem? hj,hb⟩
 have LF:aN.set i aN[i]=aN:=List.set_getElem_self ..
 have A2:=cT.set (w':=w.setRow g' (cur.toList.take (i*ct.length+off)++(nu++cur.toList.drop (i*ct.length+off+nu.length))).toArray) (hv':=gK β hl) (by simp) a8.1 hi dr
  (fun j _ m' hj b hb=>setRow_other w g' b _ (I8 b (jU j m' hj b hb))) (fun _ _=>rfl)
  (ab.mono (by simp) _ _ _ _ _ bs (fun b hb=>setRow_other w g' b _ (I8 b (jU i aN[i] (by simp) b hb))))
 rw[LF] at A2
 have mL:∀b∈ao β id (.deep t' ct ts (rows.set i (bF (rows.getD i []) off r.1)) hl),b∈ao β id (.deep t' ct ts rows hl):=fun b hb=>hb
 refine hP hR hd bj (hR.kept.setRow (bo.2 g' (aj (hc.aB id _ aM) g' kp)).1 _) ⟨β,ay φ id ((β.val id).ownBlock.toList++aN.flatten), ?_,by rw[Ej];simp [ak]⟩
 rw[how,kn]
 show Core w0 S st.get (ay st.obj id (some (.deep t' ct ts (rows.set i (bF (rows.getD i []) off r.1)) hl))) _ _ _ _
 refine hc.rewrite aM kp mL ?_ hnd ?_
 ·exact⟨_,aN,by simpa using Hq,A2,kO,rfl⟩
 ·intro b hb
  have ax:b∈φ id:=by rw[kR];exact hb
  exact⟨bo.2 b ax,fun j oj hj ji=>hc.sep id j _ _ (Ne.symm hj) aM ji b ax⟩
theorem Ad:∀(U:List MU) (h:Nat→Option ai) (j:Nat),fo (eK U) h j=if j∈bz U then none else h j
 | [],h,j=>by simp [eK,bz,fo]
 | x::l,h,j=>by
  have ih:=Ad l h j
  cases x<;>simp only[eK,bz,fo,ay]<;>first | exact ih | (by_cases hj:j=_<;>simp [hj,ih]<;>done) | skip
  all_goals
   simp only[List.mem_cons,ih]
   split<;>rename_i hj
   ·simp [hj]
   ·simp [hj]
theorem AA (hR:Rel w0 S st a w) (hd:∀d,o.dst=some d→ba st.n d) {t t':TypeId} {x y:Operand} (ho:o.op= .store t x y) {id i off:Nat} {sy:SV} {bE:List SV} {ct:List CT} {ts:List TypeId} {rows:List (List DC)} {hl:Option (Nat×Nat)} {r:List DC×List MU}
  (h1:(bV x).val st.get st.obj=some (.dL id i ct.length off)) (h2:(bV y).val st.get st.obj=some sy) (fI:(aA sy).val st.get st.obj=some bE) (dd:aX P t bE.length=true)
  (aM:st.obj id=some (.deep t' ct ts rows hl)) (dr:off+bE.length≤ct.length) (hf:aV ((ct.drop off).take bE.length)=aV ct) (hr:(aP ((ct.drop off).take bE.length) ts bE).val st.get st.obj=some r)
  (It:cG (id::bz r.2)=true) (hi:i<rows.length) (HV:B_ hl i=true) (kn:e.cw=none) (Ej:e.sv= .undef) (how:e.ow=(id,some (.deep t' ct ts (rows.set i (bF (rows.getD i []) off r.1)) none))::eK r.2):Good P w0 S st o e a w:=by
 obtain⟨ti,Fs,bk⟩:=a9 dd
 obtain⟨β,φ,hc⟩:=hR.core
 have hx:=hc.ev h1
 simp only[ak] at hx
 obtain⟨g,hg,hx⟩:=hx
 obtain⟨fY,bg⟩:=dm (hc.ev h2) fI
 have jH:=af.length _ _ fY
 have ml:(a.eval y).cells.size=bE.length:=by simpa using jH
 obtain⟨Dv,A7⟩:=cH hc _ _ _ _ r fY hr
 have H_:=cK.cells _ _ _ _ _ Dv
 obtain⟨B4,Kg⟩:=dX It
 have A6:=eN hc A7 Kg
 have I5:∀b∈r.2.flatMap (aL β),∃k∈bz r.2,∃ob,st.obj k=some ob∧b∈ao β k ob:=dN A7
 obtain⟨vals,aN,a8,cT,kO,kR⟩:=hc.aB id _ aM
 have kp:g∈ao β id (.deep t' ct ts rows hl):=by simp [ao,hg]
 rcases a8.2 with ⟨hv,h0,_⟩ | ⟨g',cap,cur,hv,hh,B8,Fc,lN,G2⟩
 ·omega
 have GJ:g'=g:=by simpa [hv,Value.ownBlock] using hg
 subst GJ
 simp only[cond_false] at hh
 have E0:(a.eval y).cells.toList.length=bE.length:=by simpa using ml
 have bj:=mX (P:=P) ho hx Fs (bk.trans ml.symm) bg hh hi B8 lN (by rw[E0];exact dr)
 have Hq:=a8.written (off:=off) (nu:=(a.eval y).cells.toList) hg hi (by rw[E0];exact dr) hh lN B8
 generalize (a.eval y).cells.toList=nu at*
 rw[←E0] at dr hf H_ hr
 have jS:i<aN.length:=by rw[cT.1];exact hi
 have fL:=cT.2 i (rows.getD i []) aN[i] (cl hi) (by simp)
 have F1:(ct.take off).length=off:=by simp;omega
 have bs:=ab.FI (pre:=ct.take off) (part:=(ct.drop off).take nu.length) (suf:=ct.drop (off+nu.length)) (by rw[three];exact fL) (by rw[three];exact hf) H_
 rw[three,F1] at bs
 have bo:=hc.fresh id _ aM
 have hnd:=bo.1
 rw[kR] at hnd
 have Fe:g'∈φ id:=aj (hc.aB id _ aM) g' kp
 have I8:∀b∈aN.flatten,b≠g':=by
  intro b hb e
  subst e
  rw[List.nodup_append] at hnd
  exact hnd.2.2 b (by simp [hg]) b hb rfl
 have Fl:∀b∈r.2.flatMap (aL β),b ∉ φ id:=by
  intro b hb iV
  obtain⟨k,hk,ob,H0,D3⟩:=I5 b hb
  exact hc.sep k id ob _ (fun e=>B4 (e ▸ hk)) H0 aM b (aj (hc.aB k ob H0) b D3) iV
 have JV:∀b∈r.2.flatMap (aL β),b≠g':=fun b hb e=>Fl b hb (e ▸ Fe)
 have jU:∀j m',aN[j]? =some m'→∀b∈m',b∈aN.flatten:=fun j m' hj b hb=>List.mem_flatten.2 ⟨m',List.mem_of_getElem? hj,hb⟩
 have JF:∀j,j≠i→(none:Option Value)=gK β hl j:=by
  intro j hj
  cases hl with
  | none=>rfl
  | some q=>
   obtain⟨k,nid⟩:=q
   have:=Nat.eq_of_beq_eq_true HV
   subst this
   simp [gK,hj]
 have A2:=cT.set (w':=w.setRow g' (cur.toList.take (i*ct.length+off)++(nu++cur.toList.drop (i*ct.length+off+nu.length))).toArray) (hv':=fun _=>none) (by simp) a8.1 hi dr
  (fun j _ m' hj b hb=>setRow_other w g' b _ (I8 b (jU j m' hj b hb))) JF
  (ab.mono (by simp) _ _ _ _ _ bs (fun b hb=>setRow_other w g' b _ (JV b hb)))
 have Eg:((β.val id).ownBlock.toList++(aN.set i (r.2.flatMap (aL β))).flatten).Nodup:=by
  rw[bG jS]
  have h3:=hnd
  rw[bl jS] at h3
  have h4:=gf (A:=(β.val id).ownBlock.toList++(aN.take i).flatten) (p1:=[]) (p2:=aN[i]) (p3:=[]) (B:=(aN.drop (i+1)).flatten) (n:=r.2.flatMap (aL β)) (by simpa using h3) A6
   (fun b hb iV=>Fl b hb (by rw[kR,bl jS];simpa using iV))
  simpa using h4
 refine hP hR hd bj (hR.kept.setRow (bo.2 g' Fe).1 _) ⟨β.eS id (aN.set i (r.2.flatMap (aL β))).flatten,ay φ id ((β.val id).ownBlock.toList++(aN.set i (r.2.flatMap (aL β))).flatten), ?_,by rw[Ej];simp [ak]⟩
 rw[how,kn]
 refine hc.C5 (t:=t') (ct:=ct) (ts:=ts) (rows:=rows.set i (bF (rows.getD i []) off r.1)) (hl:=none) (G:=fun k=>k∈bz r.2) aM (fun k hk e=>B4 (e ▸ hk)) (by simp [fo,ay,fc]) (fun j hj x hx=> ?_) (by simp) (fun b hb iV=>setRow_other w g' b _ (fun e=>iV (by rw[e,hg];simp))) (fun b hb=>by simp only[ao];exact List.mem_append_left _ hb) (fun b hb=> ?_) ?_ Eg
 ·simp only[fo,ay,hj,if_false,fc] at hx
  rw[Ad] at hx
  split at hx
  ·cases hx
  ·rename_i hk
   exact⟨hx,hk⟩
 ·rw[bG jS] at hb
  simp only[List.mem_append] at hb
  rcases hb with hb | hb | hb
  ·left
   simp only[ao,kO]
   rw[bl jS]
   simp [hb]
  ·right
   obtain⟨k,hk,ob,h3,h4⟩:=I5 b hb
   exact⟨k,ob,hk,h3,h4⟩
  ·left
   simp only[ao,kO]
   rw[bl jS]
   simp [hb]
 ·exact⟨_,_,by simpa [Env.eS] using Hq,A2,by simp [Env.eS,ay],by simp [Env.eS]⟩
theorem mw (hR:Rel w0 S st a w) {d:Nat} (aJ:o.dst=some d) (hd:ba st.n d) (bI:bC st d) {t:TypeId} {ct:List CT} {ts:List TypeId} {rows:List (List DC)} {w':World} {v:Value}
  (bj:(execOp a.eval o).run P w= .ok (.value v) w') (hk:Kept S w0 w') (hs:w.heap.size≤w'.heap.size) (hw:∀b,b<w.heap.size→w'.heap[b]? =w.heap[b]?)
  (hB:∀b∈v.ownBlock.toList,b=w.heap.size) {vals:List Value} (a8:bW w' t ct.length false v rows.length vals)
  (cT:bB w' ct ts rows vals (fun _=>none) (List.replicate rows.length []))
  (fY:e.sv= .own (ag d 0)) (kn:e.cw=none) (how:e.ow=[(ag d 0,some (.deep t ct ts rows none))]):Good P w0 S st o e a w:=by
 obtain⟨β,φ,hc⟩:=hR.core
 have bs:ag d 0 / 64=d:=cy d 0 (by omega)
 have hle:=hR.kept.size
 have FX:(List.replicate rows.length ([]:List Nat)).flatten=[]:=by simp
 have hval:(β.fQ (ag d 0) v []).val (ag d 0)=v:=by simp [Env.fQ,ay]
 have Ef:(β.fQ (ag d 0) v []).nb (ag d 0)=[]:=by simp [Env.fQ,ay]
 have Fv:v.ownBlock.toList.Nodup:=by cases v.ownBlock<;>simp
 refine bY hR (fun d' h'=>by rw[aJ] at h';injection h' with h';exact h' ▸ hd) bj hk
  ⟨β.fQ (ag d 0) v [],ay φ (ag d 0) v.ownBlock.toList, ?_, ?_⟩
 ·rw[how,kn]
  refine hc.create hs hw (fun i hi=>bI.slot i _ hi bs) (fun j ob hj hi=>(bI.obj j ob hj).2 _ hi bs) ?_ (fun j hj=>⟨by simp [Env.fQ,ay,hj],rfl⟩) ?_ ?_ Fv ?_ rfl (fun j hj=>by simp [Env.fQ,ay,hj])
  ·cases hn:st.obj (ag d 0) with
   | none=>rfl
   | some ob=>exact absurd bs (bI.obj _ ob hn).1
  ·intro b hb
   simp only[ao,hval,Ef,List.append_nil] at hb
   rw[hB b hb]
   exact Nat.le_refl _
  ·exact⟨vals,List.replicate rows.length [],by rw[hval];exact a8,cT,by rw[Ef,FX],by rw[hval,FX,List.append_nil]⟩
  ·intro b hb
   have h1:=hB b hb
   subst h1
   refine⟨⟨.inl hle,a8.lt _ hb⟩,fun j ob hj bn=> ?_⟩
   have:=((hc.fresh j ob hj).2 _ bn).2
   omega
 ·rw[fY]
  unfold ak
  exact⟨hval.symm,a8.one⟩
theorem iD {α:Type} (z:List α):∀(n k:Nat),k<n→(((List.replicate n z).flatten).drop (k*z.length)).take z.length=z
 | 0,k,h=>by omega
 | n+1,0,_=>by simp [List.replicate_succ]
 | n+1,k+1,h=>by
  rw[List.replicate_succ,List.flatten_cons,Nat.succ_mul,Nat.add_comm,List.drop_append,List.drop_of_length_le (by omega),List.nil_append]
  rw[show z.length+k*z.length - z.length=k*z.length by omega]
  exact iD z n k (by omega)
theorem bB.replicate {ct:List CT} {ts:List TypeId} {r:List DC} {z:List Value} (h:ab w none ct ts r z []) (hl:z.length=ct.length) (n:Nat):bB w ct ts (List.replicate n r) (List.replicate n z).flatten (fun _=>none) (List.replicate n []):=by
 refine⟨by simp,fun i r' m hi hm=> ?_⟩
 have cT:i<n:=by have:=(List.getElem?_eq_some_iff.1 hi).1;simpa using this
 rw[List.getElem?_replicate_of_lt cT,Option.some.injEq] at hi hm
 subst hi hm
 rw[←hl,iD z n i cT]
 exact h
theorem C1:∀ {U:List MU},bz U=[]→U.flatMap (aL β)=[]
 | [],_=>rfl
 | x::l,h=>by
  cases x<;>simp [bz] at h
  simp [aL,C1 h]
theorem Bv (hR:Rel w0 S st a w) {d:Nat} (aJ:o.dst=some d) (hd:ba st.n d) (bI:bC st d) {t et:TypeId} {l c:Operand} (ho:o.op= .makeSlice t l c) {n m:Int} {ct:List CT} {ts:List TypeId} {i:TypeInfo} {z:List SV} {r:List DC×List MU}
  (hl:(bV l).val st.get st.obj=some (.int .i64 n)) (hm:(bV c).val st.get st.obj=some (.int .i64 m)) (hu:P.underlying t=some (.slice et)) (hi:P.info? et=some i) (dd:i.size=ct.length)
  (hz:(dh P et).val st.get st.obj=some z) (hr:(aP ct ts z).val st.get st.obj=some r) (A7:bz r.2=[])
  (he:e= {sv:= .own (ag d 0),ow:=[(ag d 0,some (.deep et ct ts (List.replicate n.toNat r.1) none))],ok:=decide (0≤n) && decide (n≤m) && decide (m.toNat*i.bytes≤140737488355328) && decide (m≤9223372036854775807)})
  (aF:e.ok=true):Good P w0 S st o e a w:=by
 subst he
 simp only[Bool.and_eq_true,decide_eq_true_eq] at aF
 obtain⟨⟨⟨h0,Ic⟩,AH⟩,I6⟩:=aF
 obtain⟨i',zv,dD,mn,rfl,bg⟩:=cW hz
 rw[hi] at dD
 injection dD with dD
 subst dD
 obtain⟨IL,IM,BI⟩:=hR.core
 obtain⟨Dv,_⟩:=cH BI ct ts _ _ r (dY zv.cells.toList) hr
 have AJ:=cK.cells _ _ _ _ _ Dv
 rw[C1 A7] at AJ
 have jm:zv.cells.toList.length=ct.length:=(ab.length _ _ _ _ _ AJ).1
 have Ec:(madeCells zv.cells (m.toNat*i.size)).toList=(List.replicate m.toNat zv.cells.toList).flatten:=by
  have:=C0 zv.cells m.toNat
  rw[dd,←jm]
  simpa using this
 have hx:=BI.ev hl
 have hy:=BI.ev hm
 simp only[ak] at hx hy
 have hb:(i.bytes:Int)*m≤281474976710656:=by
  have h1:((m.toNat*i.bytes:Nat):Int)≤140737488355328:=by omega
  rw[Int.natCast_mul,Int.toNat_of_nonneg (by omega),Int.mul_comm] at h1
  omega
 have bj:=run_make (P:=P) w t et i zv hu hi mn .i64 .i64 n m h0 Ic hb I6
 refine mw hR aJ hd bI (vals:=(List.replicate n.toNat zv.cells.toList).flatten) (v:= .slice (some ⟨w.heap.size,0,none⟩) n.toNat m.toNat)
  (w':=w.alloc (.cells (madeCells zv.cells (m.toNat*i.size)) et)) ?_ (hR.kept.alloc _) (by rw[bX];omega) (fun b hb=>alloc_old _ b hb) (by simp [Value.ownBlock]) ?_ ?_ rfl rfl rfl
 ·simp [execOp,ho,hx.1,hy.1,bj]
 ·refine⟨by simp [jm],.inr ⟨w.heap.size,m.toNat,_,by simp,by simpa using dI _,by simp;omega,by simp only[maxLen];omega,by rw[size_madeCells,dd], ?_⟩⟩
  rw[Ec]
  have:List.replicate m.toNat zv.cells.toList=List.replicate n.toNat zv.cells.toList++List.replicate (m.toNat - n.toNat) zv.cells.toList:=by
   rw[List.replicate_append_replicate]
   congr 1
   omega
  rw[this,List.flatten_append,List.take_append_of_le_length (by simp [jm]),List.take_of_length_le (by simp [jm])]
 ·rw[List.length_replicate]
  exact bB.replicate (ab.mono (by rw[bX];omega) _ _ _ _ _ AJ (by simp)) jm _
theorem Dl (hc:Core w0 S f h β φ tm w) {id nid i:Nat} {t t1:TypeId} {ct e2:List CT} {rows r:List (List DC)} {u:Bool} {h':Nat→Option ai} (aM:h id=some (.deep t ct [t1] rows (some (i,nid)))) (hn:h nid=some (.row t1 e2 r false u)) (jW:∃e',ct[dG ct]? =some (.sl e')∧e'=e2) (GD:aV ct=1)
  (cm:nid≠id) (hf:al e2=true) (hh:h' id=some (.deep t ct [t1] (rows.set i (bF (rows.getD i []) (dG ct) [.sl r])) none)) (Df:∀j,j≠id→h' j=if j=nid then none else h j):
  ∃β' φ',Core w0 S f h' β' φ' tm w:=by
 obtain⟨e',jW,rfl⟩:=jW
 obtain⟨vals,aN,a8,cT,kO,kR⟩:=hc.aB id _ aM
 obtain⟨BF,mj,Il,jh,_,_⟩:=hc.aB nid _ hn
 have hnd:=(hc.fresh id _ aM).1
 rw[kR] at hnd
 have KL:ao β nid (.row t1 e' r false u)=(β.val nid).ownBlock.toList:=rfl
 have Fl:∀b∈(β.val nid).ownBlock.toList,b ∉ φ id:=fun b hb=>hc.sep nid id _ _ cm hn aM b (aj (hc.aB nid _ hn) b (KL ▸ hb))
 have Fv:(β.val nid).ownBlock.toList.Nodup:=by cases (β.val nid).ownBlock<;>simp
 have jU:∀b∈(aN.set i (β.val nid).ownBlock.toList).flatten,b∈aN.flatten∨b∈(β.val nid).ownBlock.toList:=by
  intro b hb
  by_cases hi:i<aN.length
  ·rw[bG hi] at hb
   rw[bl hi]
   simp only[List.mem_append] at hb ⊢
   rcases hb with hb | hb | hb<;>simp [hb]
  ·rw[List.set_eq_of_length_le (by omega)] at hb
   exact .inl hb
 have Eg:((β.val id).ownBlock.toList++(aN.set i (β.val nid).ownBlock.toList).flatten).Nodup:=by
  by_cases hi:i<aN.length
  ·rw[bG hi]
   have h3:=hnd
   rw[bl hi] at h3
   have h4:=gf (A:=(β.val id).ownBlock.toList++(aN.take i).flatten) (p1:=[]) (p2:=aN[i]) (p3:=[]) (B:=(aN.drop (i+1)).flatten) (n:=(β.val nid).ownBlock.toList) (by simpa using h3) Fv
    (fun b hb iV=>Fl b hb (by rw[kR,bl hi];simpa using iV))
   simpa using h4
  ·rw[List.set_eq_of_length_le (by omega)]
   exact hnd
 refine⟨β.eS id (aN.set i (β.val nid).ownBlock.toList).flatten,ay φ id ((β.val id).ownBlock.toList++(aN.set i (β.val nid).ownBlock.toList).flatten), ?_⟩
 refine hc.C5 (t:=t) (ct:=ct) (ts:=[t1]) (rows:=rows.set i (bF (rows.getD i []) (dG ct) [.sl r])) (hl:=none) (G:=fun k=>k=nid) aM (fun k hk e=>cm (hk ▸ e)) hh (fun j hj x hx=> ?_) (Nat.le_refl _) (fun _ _ _=>rfl) (fun b hb=>by simp only[ao];exact List.mem_append_left _ hb) (fun b hb=> ?_) ?_ Eg
 ·rw[Df j hj] at hx
  split at hx
  ·cases hx
  ·rename_i hk
   exact⟨hx,hk⟩
 ·rcases jU b hb with hb | hb
  ·left
   simp only[ao,kO]
   exact List.mem_append_right _ hb
  ·exact .inr ⟨nid,_,rfl,hn,KL ▸ hb⟩
 ·refine⟨vals,aN.set i (β.val nid).ownBlock.toList,by simpa [Env.eS] using a8,⟨by simp [cT.1],fun k r' m hk hm=> ?_⟩,by simp [Env.eS,ay],by simp [Env.eS]⟩
  by_cases mJ:k=i
  ·subst mJ
   have GN:k<rows.length:=by have:=(List.getElem?_eq_some_iff.1 hk).1;simpa using this
   have Fh:k<aN.length:=by rw[cT.1];exact GN
   rw[List.getElem?_set_self GN,Option.some.injEq] at hk
   rw[List.getElem?_set_self Fh,Option.some.injEq] at hm
   subst hk hm
   have h3:=cT.2 k (rows.getD k []) aN[k] (cl GN) (by simp)
   simp only[gK,if_true] at h3
   exact ab.back _ e' t1 _ _ aN[k] jW GD h3 ⟨BF,mj,Il,jh,rfl⟩
  ·rw[List.getElem?_set_ne (Ne.symm mJ)] at hk hm
   have:=cT.2 k r' m hk hm
   simp only[gK,mJ,if_false] at this
   exact this
end
end Go.Proofs.YtngbcccnjiaddaaGreat.Vm
set_option linter.unusedVariables false
set_option linter.unusedSimpArgs false
namespace Go.Proofs.YtngbcccnjiaddaaGreat.Vm
section
variable {P:Program} {Γ:Ctx} {w0:World} {S:Own} {st:St} {o:Oper} {e:cB} {a:Act} {w w':World}
variable {f:Nat→SV} {h:Nat→Option ai} {β:Env} {φ:Nat→List Nat} {tm:Array Value}
theorem Core.compose (hc:Core w0 S f h β φ tm w) {id:Nat} {G:Nat→Prop} {h':Nat→Option ai} {v':Value} {t:TypeId} {ct:List CT} {ts:List TypeId} {rows:List (List DC)} {vals:List Value} {aN:List (List Nat)}
  (dF:∀i,id ∉ bH (f i)) (B5:∀j x,h j=some x→id ∉ bZ x) (KJ:h id=none)
  (hh:h' id=some (.deep t ct ts rows none)) (Df:∀j,j≠id→∀x,h' j=some x→h j=some x∧¬G j)
  (hs:w.heap.size≤w'.heap.size) (hk:w0.heap.size≤w.heap.size) (hw:∀b,b<w.heap.size→(∀k x,G k→h k=some x→b ∉ ao β k x)→w'.heap[b]? =w.heap[b]?)
  (Ll:∀b∈v'.ownBlock.toList++aN.flatten,(∃k x,G k∧h k=some x∧b∈ao β k x)∨(b=w.heap.size∧b<w'.heap.size))
  (a8:bW w' t ct.length false v' rows.length vals) (cT:bB w' ct ts rows vals (fun _=>none) aN) (hnd:(v'.ownBlock.toList++aN.flatten).Nodup):
  Core w0 S f h' (β.fQ id v' aN.flatten) (ay φ id (v'.ownBlock.toList++aN.flatten)) tm w':=by
 have hval:(β.fQ id v' aN.flatten).val id=v':=by simp [Env.fQ,ay]
 have Ef:(β.fQ id v' aN.flatten).nb id=aN.flatten:=by simp [Env.fQ,ay]
 have iL:∀j oj,j≠id→ao (β.fQ id v' aN.flatten) j oj=ao β j oj:=by
  intro j oj hj
  cases oj<;>simp [ao,Env.fQ,ay,hj]
 have CP:∀b∈v'.ownBlock.toList++aN.flatten,((w0.heap.size≤b∨S b)∧b<w'.heap.size)∧(Av h β b∨w.heap.size≤b)∧∀j oj,h j=some oj→¬G j→b ∉ φ j:=by
  intro b hb
  rcases Ll b hb with ⟨k,x,JK,hx,h1⟩ | ⟨h1,h2⟩
  ·have h2:=aj (hc.aB k x hx) b h1
   have h3:=(hc.fresh k x hx).2 b h2
   exact⟨⟨h3.1,by omega⟩,.inl (.inl ⟨k,x,hx,h1⟩),fun j oj ji hg=>hc.sep k j x oj (fun e=>hg (e ▸ JK)) hx ji b h2⟩
  ·exact⟨⟨.inl (by omega),h2⟩,.inr (by omega),fun j oj ji _ bn=>by have:=((hc.fresh j oj ji).2 b bn).2;omega⟩
 refine hc.mc (fun j=>j=id) hs (fun b hb hn=>hw b hb (fun k x _ hx D3=>hn (.inl ⟨k,x,hx,D3⟩))) ?_ (fun i j hj e=>dF i (e ▸ hj)) (fun j hj=>⟨by simp [Env.fQ,ay,hj],rfl⟩) ?_ ?_
 ·rintro b (⟨j,oj,hj,bn⟩ | hb)
  case inr=>exact .inl (.inr hb)
  by_cases bR:j=id
  ·subst bR
   rw[hh,Option.some.injEq] at hj
   subst hj
   simp only[ao,hval,Ef] at bn
   exact (CP b bn).2.1
  ·rw[iL j oj bR] at bn
   exact .inl (.inl ⟨j,oj,(Df j bR oj hj).1,bn⟩)
 ·intro j oj hj
  by_cases bR:j=id
  ·subst bR
   rw[hh,Option.some.injEq] at hj
   subst hj
   refine .inr ⟨?_,by simpa [ay] using hnd,fun b hb=>(CP b (by simpa [ay] using hb)).1⟩
   exact⟨vals,aN,by rw[hval];exact a8,cT,Ef,by rw[hval];simp [ay]⟩
  ·obtain⟨h1,hg⟩:=Df j bR oj hj
   refine .inl ⟨bR,h1,by simp [Env.fQ,ay,bR],by simp [ay,bR],fun k Lz e=>B5 j oj h1 (e ▸ Lz),fun b hb=> ?_⟩
   have e_:=aj (hc.aB j oj h1) b hb
   exact hw b ((hc.fresh j oj h1).2 b e_).2 (fun k x JK hx D3=>hc.sep k j x oj (fun e=>hg (e ▸ JK)) hx h1 b (aj (hc.aB k x hx) b D3) e_)
 ·intro i j oi oj cm hi hj b hb
  by_cases kN:i=id
  ·subst kN
   have fX:j≠i:=Ne.symm cm
   simp only[ay,if_true] at hb
   simp only[ay,fX,if_false]
   obtain⟨h1,h2⟩:=Df j fX oj hj
   exact (CP b hb).2.2 j oj h1 h2
  ·simp only[ay,kN,if_false] at hb
   obtain⟨h1,h2⟩:=Df i kN oi hi
   by_cases bR:j=id
   ·subst bR
    simp only[ay,if_true]
    exact fun ax=>(CP b ax).2.2 i oi h1 h2 hb
   ·simp only[ay,bR,if_false]
    exact hc.sep i j oi oj cm h1 (Df j bR oj hj).1 b hb
theorem bB.append {ct:List CT} {ts:List TypeId} {r1 r2:List (List DC)} {v1 v2:List Value} {m1 m2:List (List Nat)} (h1:bB w ct ts r1 v1 (fun _=>none) m1) (hl:v1.length=r1.length*ct.length) (h2:bB w ct ts r2 v2 (fun _=>none) m2):
  bB w ct ts (r1++r2) (v1++v2) (fun _=>none) (m1++m2):=by
 refine⟨by simp [h1.1,h2.1],fun i r m hi hm=> ?_⟩
 rw[List.getElem?_append] at hi hm
 rw[h1.1] at hm
 by_cases cd:i<r1.length
 ·rw[if_pos cd] at hi hm
  have hle:i*ct.length+ct.length≤v1.length:=by rw[hl,←Nat.succ_mul];exact Nat.mul_le_mul_right _ cd
  have:=h1.2 i r m hi hm
  rw[List.drop_append_of_le_length (by omega),List.take_append_of_le_length (by simp;omega)]
  exact this
 ·rw[if_neg cd] at hi hm
  have:=h2.2 (i - r1.length) r m hi hm
  have e1:(v1++v2).drop (i*ct.length)=v2.drop ((i - r1.length)*ct.length):=by
   have D8:v1.length≤i*ct.length:=by rw[hl];exact Nat.mul_le_mul_right _ (by omega)
   rw[List.drop_append,List.drop_of_length_le D8,List.nil_append,hl,Nat.sub_mul]
  rw[e1]
  exact this
theorem ab.one:∀(cs:List CT) (ts:List TypeId) (ds:List DC) (us:List Value) (mb:List Nat),ab w none cs ts ds us mb→∀u∈us,u.oneCell'=true
 | [],_,_,_,_,h=>by
  simp only[ab] at h
  simp [h.2.2.1]
 | c::cs,_,_,_,_,h=>by
  rcases cR c with ⟨e,rfl⟩ | hc
  ·simp only[ab] at h
   obtain⟨t,dE,rows,aW,v,aR,m1,gl,rfl,rfl,rfl,_,⟨vals,az,g1,_⟩,h6,rfl⟩:=h
   intro u hu
   rcases List.mem_cons.1 hu with rfl | hu
   ·exact g1.one
   ·exact ab.one cs _ _ _ _ h6 u hu
  ·rw[ab.flat hc] at h
   obtain⟨d,aW,v,aR,rfl,rfl,h3,h4⟩:=h
   intro u hu
   rcases List.mem_cons.1 hu with rfl | hu
   ·exact h3.one
   ·exact ab.one cs _ _ _ _ h4 u hu
theorem bB.one {ct:List CT} {ts:List TypeId} {rows:List (List DC)} {vals:List Value} {aN:List (List Nat)} (h:bB w ct ts rows vals (fun _=>none) aN) (hl:vals.length=rows.length*ct.length) (hp:0<ct.length):∀u∈vals,u.oneCell'=true:=by
 intro u hu
 obtain⟨p,J7,rfl⟩:=List.getElem_of_mem hu
 have hi:p / ct.length<rows.length:=by rw[Nat.div_lt_iff_lt_mul hp];omega
 have hj:=Nat.mod_lt p hp
 have hm:p / ct.length<aN.length:=by rw[h.1];exact hi
 have hc:=h.2 (p / ct.length) rows[p / ct.length] aN[p / ct.length] (by simp) (by simp)
 refine ab.one _ _ _ _ _ hc _ (List.mem_of_getElem? (i:=p % ct.length) ?_)
 rw[List.getElem?_take,if_pos hj,List.getElem?_drop]
 have:p / ct.length*ct.length+p % ct.length=p:=by rw[Nat.mul_comm];exact Nat.div_add_mod p ct.length
 rw[this]
 simp [J7]
theorem AU (hc:Core w0 S f h β φ tm w) {et:TypeId} {ct:List CT} {ts:List TypeId} {s:SV} {v:Value} {q:List (List DC)×List Nat} (hs:ak w (Av h β) β s v) (hq:(mD et ct ts s).val f h=some q):
  ∃vals aN,bW w et ct.length false v q.1.length vals∧bB w ct ts q.1 vals (fun _=>none) aN∧(v.ownBlock.toList++aN.flatten).Nodup∧
   ((q.2=[]∧v= .slice none 0 0∧aN=[])∨∃id,q.2=[id]∧∃x,h id=some x∧ao β id x=v.ownBlock.toList++aN.flatten):=by
 unfold mD at hq
 split at hq
 ·simp only[M.aa,Option.some.injEq] at hq
  subst hq
  simp only[ak] at hs
  subst hs
  exact⟨[],[],⟨by simp,.inl ⟨rfl,rfl,rfl⟩⟩,⟨rfl,by simp⟩,by simp [Value.ownBlock],.inl ⟨rfl,rfl,rfl⟩⟩
 ·rename_i id
  simp only[M.a7,Option.bind_eq_some_iff] at hq
  obtain⟨ob,aM,hq⟩:=hq
  simp only[ak] at hs
  split at hq
  ·rename_i t' e' dE r
   cases hb:Nat.beq t' et && aC e' ct && fj dE ts
   ·simp [hb] at hq
   simp only[hb,cond_true,M.aa,Option.some.injEq] at hq
   subst hq
   simp only[Bool.and_eq_true] at hb
   have b1:=Nat.eq_of_beq_eq_true hb.1.1
   have b2:=aG _ _ hb.1.2
   have b3:=fR _ _ hb.2
   subst b1 b2 b3
   have bI:=(hc.fresh id _ aM).1
   obtain⟨vals,aN,g1,g2,g3,g4⟩:=hc.aB id _ aM
   rw[g4] at bI
   rw[←hs.1] at g1 bI
   exact⟨vals,aN,g1,g2,bI,.inr ⟨id,rfl,_,aM,by simp only[ao,g3,hs.1]⟩⟩
  ·simp at hq
 ·simp at hq
theorem DZ:∀(ids:List Nat) (h:Nat→Option ai) (j:Nat),fo (gone ids) h j=if j∈ids then none else h j
 | [],h,j=>by simp [gone,fo]
 | i::l,h,j=>by
  have ih:=DZ l h j
  show ay (fo (gone l) h) i none j=_
  simp only[ay,List.mem_cons]
  by_cases hj:j=i
  ·simp [hj]
  ·simp only[hj,if_false,false_or]
   exact ih
theorem Cj {l m:List Nat} (hn:cG (l++m)=true):∀i∈l,i ∉ m:=by
 induction l with
 | nil=>simp
 | cons x l ih=>
  obtain⟨h1,h2⟩:=dX (i:=x) (l:=l++m) hn
  intro i hi
  rcases List.mem_cons.1 hi with rfl | hi
  ·exact fun hm=>h1 (List.mem_append_right _ hm)
  ·exact ih h2 i hi
theorem mr (hR:Rel w0 S st a w) {d:Nat} (aJ:o.dst=some d) (hd:ba st.n d) (bI:bC st d) {t et:TypeId} {s x:Operand} {c:Call} (ho:o.op= .call c) (hb:c.callee= .builtin .append) (cv:c.args= #[s,x])
  (Gx:c.argTypes= #[t,t]) {ss sx:SV} {ct:List CT} {ts:List TypeId} {p q:List (List DC)×List Nat} {z:List SV} (h1:(bV s).val st.get st.obj=some ss) (h2:(bV x).val st.get st.obj=some sx) (hu:P.underlying t=some (.slice et))
  (dd:aX P et ct.length=true) (hp:0<ct.length) (hz:(dh P et).val st.get st.obj=some z) (jm:z.length=ct.length) (J8:(mD et ct ts ss).val st.get st.obj=some p) (J9:(mD et ct ts sx).val st.get st.obj=some q) (hnd:cG (p.2++q.2)=true)
  (dV:eQ P et (p.1.length+q.1.length)=true) (fY:e.sv= .own (ag d 0)) (kn:e.cw=none)
  (how:e.ow=(ag d 0,some (.deep et ct ts (p.1++q.1) none))::gone (p.2++q.2)):Good P w0 S st o e a w:=by
 obtain⟨i,hi,bk⟩:=a9 dd
 obtain⟨i',zv,dD,mn,rfl,_⟩:=cW hz
 rw[hi] at dD
 injection dD with dD
 subst dD
 obtain⟨β,φ,hc⟩:=hR.core
 obtain⟨Gi,Ch,o1,d1,n1,k1⟩:=AU hc (hc.ev h1) J8
 obtain⟨BF,Ci,o2,d2,n2,k2⟩:=AU hc (hc.ev h2) J9
 have bg:=d2.one o2.1 hp
 obtain⟨Q,cc,F_,Hp,hcell⟩:∃Q cc,a.eval x= .slice Q q.1.length cc∧(Q=none→q.1.length=0)∧∀ad,Q=some ad→∀j u,BF[j]? =some u→w.cell? (ad.add j)=some u:=by
  rcases o2.2 with ⟨hv,h0,_⟩ | ⟨g,cap,cur,hv,_⟩
  ·exact⟨none,0,by rw[hv,h0],fun _=>h0,by simp⟩
  ·refine⟨some ⟨g,0,none⟩,cap,hv,by simp,fun ad Hj j u hj=> ?_⟩
   simp only[Option.some.injEq] at Hj
   subst Hj
   rw[dj]
   have:=o2.cell (g:=g) (by rw[hv];rfl) hj
   simpa using this
 obtain⟨v',w',bj,fK,cL,jf⟩:=iH (P:=P) (ty:=o.type) (c:=cc) hu hi mn bk (by simpa using jm) hp o1 o2.1 Hp hcell bg dV
 have bs:ag d 0 / 64=d:=cy d 0 (by omega)
 have Eb:∀b∈(a.eval s).ownBlock.toList++Ch.flatten,∃k y,k∈p.2∧st.obj k=some y∧b∈ao β k y:=by
  intro b ax
  rcases k1 with ⟨_,hv,hm⟩ | ⟨id,db,y,hy,ht⟩
  ·rw[hv,hm] at ax;simp [Value.ownBlock] at ax
  ·exact⟨id,y,by rw[db];simp,hy,by rw[ht];exact ax⟩
 have jh:∀b∈(a.eval x).ownBlock.toList++Ci.flatten,∃k y,k∈q.2∧st.obj k=some y∧b∈ao β k y:=by
  intro b ax
  rcases k2 with ⟨_,hv,hm⟩ | ⟨id,db,y,hy,ht⟩
  ·rw[hv,hm] at ax;simp [Value.ownBlock] at ax
  ·exact⟨id,y,by rw[db];simp,hy,by rw[ht];exact ax⟩
 have GF:=Cj hnd
 have BV:∀b∈(a.eval s).ownBlock.toList++Ch.flatten,b ∉ (a.eval x).ownBlock.toList++Ci.flatten:=by
  intro b h3 h4
  obtain⟨k,y,hk,hy,Hk⟩:=Eb b h3
  obtain⟨k',y',B6,Ix,iV⟩:=jh b h4
  exact hc.sep k k' y y' (fun e=>GF k hk (e ▸ B6)) hy Ix b (aj (hc.aB k y hy) b Hk) (aj (hc.aB k' y' Ix) b iV)
 have fm:∀b,b<w.heap.size→(a.eval s).ownBlock≠some b→w'.heap[b]? =w.heap[b]? :=fun b ax cm=>cL.block b ax (fun e=>cm e.symm)
 have Fi:=d1.lt
 have Fj:=d2.lt
 have JX:∀b∈Ch.flatten,(a.eval s).ownBlock≠some b:=by
  intro b ax e
  rw[List.nodup_append] at n1
  exact n1.2.2 b (by rw[e];simp) b ax rfl
 have JY:∀b∈Ci.flatten,(a.eval s).ownBlock≠some b:=by
  intro b ax e
  exact BV b (List.mem_append_left _ (by rw[e];simp)) (List.mem_append_right _ ax)
 have KM:∀b∈v'.ownBlock.toList,b∈(a.eval s).ownBlock.toList∨b=w.heap.size:=by
  intro b ax
  rcases jf with h3 | h3
  ·rw[h3] at ax;exact .inl ax
  ·rw[h3] at ax;exact .inr (by simpa using ax)
 have Fv:v'.ownBlock.toList.Nodup:=by cases v'.ownBlock<;>simp
 have GS:(v'.ownBlock.toList++(Ch++Ci).flatten).Nodup:=by
  rw[List.flatten_append,List.nodup_append]
  rw[List.nodup_append] at n1 n2
  refine⟨Fv, ?_,fun b h3 b' h4 e=> ?_⟩
  ·rw[List.nodup_append]
   refine⟨n1.2.1,n2.2.1,fun b h3 b' h4 e=> ?_⟩
   subst e
   exact BV b (List.mem_append_right _ h3) (List.mem_append_right _ h4)
  ·subst e
   rcases KM b h3 with h5 | h5
   ·rcases List.mem_append.1 h4 with h4 | h4
    ·exact n1.2.2 b h5 b h4 rfl
    ·exact BV b (List.mem_append_left _ h5) (List.mem_append_right _ h4)
   ·rcases List.mem_append.1 h4 with h4 | h4
    ·have:=Fi b h4;omega
    ·have:=Fj b h4;omega
 have HQ:bB w' ct ts (p.1++q.1) (Gi++BF) (fun _=>none) (Ch++Ci):=by
  refine bB.append ?_ o1.1 ?_
  ·exact d1.mono cL.size (fun b ax=>fm b (Fi b ax) (JX b ax)) (fun _=>rfl)
  ·exact d2.mono cL.size (fun b ax=>fm b (Fj b ax) (JY b ax)) (fun _=>rfl)
 have Im:bW w' et ct.length false v' (p.1++q.1).length (Gi++BF):=by rw[List.length_append];exact fK
 have HZ:∀b,(a.eval s).ownBlock=some b→w0.heap.size≤b∨S b:=by
  intro b ax
  obtain⟨k,y,_,hy,iv⟩:=Eb b (List.mem_append_left _ (by rw[ax];simp))
  exact ((hc.fresh k y hy).2 b (aj (hc.aB k y hy) b iv)).1
 refine bY hR (fun d' h'=>by rw[aJ] at h';injection h' with h';exact h' ▸ hd) (v:=v') (w':=w') ?_ (hR.kept.grown cL HZ)
  ⟨β.fQ (ag d 0) v' (Ch++Ci).flatten,ay φ (ag d 0) (v'.ownBlock.toList++(Ch++Ci).flatten), ?_, ?_⟩
 ·simp [execOp,ho,resolve,hb,cv,Gx,invoke,builtin,F_,bj]
 ·rw[how,kn]
  refine hc.compose (G:=fun k=>k∈p.2++q.2) (fun i hi=>bI.slot i _ hi bs) (fun j ob hj hi=>(bI.obj j ob hj).2 _ hi bs) ?_ (by simp [fo,ay,fc]) (fun j hj y hy=> ?_) cL.size hR.kept.size (fun b ax hn=> ?_) (fun b ax=> ?_) Im HQ GS
  ·cases hn:st.obj (ag d 0) with
   | none=>rfl
   | some ob=>exact absurd bs (bI.obj _ ob hn).1
  ·simp only[fo,ay,hj,if_false,fc] at hy
   rw[DZ] at hy
   split at hy
   ·cases hy
   ·rename_i hk
    exact⟨hy,hk⟩
  ·refine fm b ax (fun e=> ?_)
   obtain⟨k,y,hk,hy,iv⟩:=Eb b (List.mem_append_left _ (by rw[e];simp))
   exact hn k y (List.mem_append_left _ hk) hy iv
  ·rcases List.mem_append.1 ax with ax | ax
   ·rcases KM b ax with h3 | h3
    ·obtain⟨k,y,hk,hy,iv⟩:=Eb b (List.mem_append_left _ h3)
     exact .inl ⟨k,y,List.mem_append_left _ hk,hy,iv⟩
    ·exact .inr ⟨h3,fK.lt b ax⟩
   ·rw[List.flatten_append] at ax
    rcases List.mem_append.1 ax with ax | ax
    ·obtain⟨k,y,hk,hy,iv⟩:=Eb b (List.mem_append_right _ ax)
     exact .inl ⟨k,y,List.mem_append_left _ hk,hy,iv⟩
    ·obtain⟨k,y,hk,hy,iv⟩:=jh b (List.mem_append_right _ ax)
     exact .inl ⟨k,y,List.mem_append_right _ hk,hy,iv⟩
 ·rw[fY]
  unfold ak
  exact⟨by simp [Env.fQ,ay],fK.one⟩
theorem bB.cons {ct:List CT} {ts:List TypeId} {r:List DC} {l:List Value} {m:List Nat} {rows:List (List DC)} {vals:List Value} {aN:List (List Nat)} (h1:ab w none ct ts r l m) (hl:l.length=ct.length) (h2:bB w ct ts rows vals (fun _=>none) aN):
  bB w ct ts (r::rows) (l++vals) (fun _=>none) (m::aN):=by
 have:=bB.append (r1:=[r]) (v1:=l) (m1:=[m]) ⟨rfl,fun i r' m' hi hm=>by
  have Lx:i=0:=by
   have:=(List.getElem?_eq_some_iff.1 hi).1
   simpa using this
  subst Lx
  simp only[List.getElem?_cons_zero,Option.some.injEq] at hi hm
  subst hi hm
  rw[Nat.zero_mul,List.drop_zero,List.take_of_length_le (by omega)]
  exact h1⟩ (by simp [hl]) h2
 simpa using this
theorem iy (hc:Core w0 S st.get st.obj β φ a.tmps w) {ct:List CT} {ts:List TypeId} :∀(parts:List (Nat×Operand)) (k:Nat) (q:List (List DC)×List MU),(dJ ct ts k parts).val st.get st.obj=some q→
  ∃(vals:List Value) (aN:List (List Nat)),vals.length=parts.length*ct.length∧q.1.length=parts.length∧bB w ct ts q.1 vals (fun _=>none) aN∧aN.flatten=q.2.flatMap (aL β)∧eZ st.obj q.2∧
   ∀(pre suf:List Value),pre.length=k*ct.length→suf.length=parts.length*ct.length→
    Instr.fill (fun i=>some (i*ct.length,ct.length)) (pre++suf).toArray (parts.map fun x=>(x.1,a.eval x.2))=some (pre++vals).toArray
 | [],k,q,hq=>by
  simp only[dJ,M.aa,Option.some.injEq] at hq
  subst hq
  refine⟨[],[],by simp,rfl,⟨rfl,by simp⟩,rfl,trivial,fun pre suf h1 h2=> ?_⟩
  have:suf=[]:=by simpa using h2
  subst this
  simp [Instr.fill]
 | (i,x)::rest,k,q,hq=>by
  simp only[dJ] at hq
  cases Du:Nat.beq i k
  ·simp [Du] at hq
  have Du:=Nat.eq_of_beq_eq_true Du
  subst Du
  simp only[Nat.beq_refl,cond_true,M.ae,Option.bind_eq_some_iff,M.aa,Option.some.injEq] at hq
  obtain⟨s,hs,cs,fI,r,hr,q2,cZ,rfl⟩:=hq
  obtain⟨fY,bg⟩:=dm (hc.ev hs) fI
  obtain⟨Dv,JS⟩:=cH hc ct ts _ _ r fY hr
  have AJ:=cK.cells _ _ _ _ _ Dv
  have KG:=(ab.length _ _ _ _ _ AJ).1
  have bk:(a.eval x).cells.size=ct.length:=by simpa using KG
  obtain⟨vals,aN,jH,H2,jh,Jz,JT,B2⟩:=iy hc rest (i+1) q2 cZ
  refine⟨(a.eval x).cells.toList++vals,(r.2.flatMap (aL β))::aN, ?_,by simp [H2],bB.cons AJ KG jh,by simp [Jz],JS.append JT, ?_⟩
  ·simp only[List.length_append,jH,List.length_cons,Array.length_toList,bk,Nat.succ_mul]
   omega
  ·intro pre suf h1 h2
   simp only[List.length_cons,Nat.succ_mul] at h2
   simp only[List.map_cons]
   rw[jP (off:=i*ct.length) (by rw[bk]) (by simp [h1,bk];omega)]
   have e1:((pre++suf).toArray.toList.take (i*ct.length)++((a.eval x).cells.toList++(pre++suf).toArray.toList.drop (i*ct.length+(a.eval x).cells.size)))=(pre++(a.eval x).cells.toList)++suf.drop ct.length:=by
    simp only[bk,←h1]
    simp [List.drop_append]
   rw[e1,B2 (pre++(a.eval x).cells.toList) (suf.drop ct.length) (by simp [h1,bk,Nat.succ_mul]) (by simp [h2])]
   simp
theorem Az (hR:Rel w0 S st a w) {d:Nat} (aJ:o.dst=some d) (hd:ba st.n d) (bI:bC st d) {t et:TypeId} {len:Nat} {parts:Array (Nat×Operand)} (ho:o.op= .buildSlice t len parts) {ct:List CT} {ts:List TypeId} {q:List (List DC)×List MU}
  (hu:P.underlying t=some (.slice et)) (dd:aX P et ct.length=true) (jV:0<ct.length) (hlen:len=parts.toList.length) (Is:len*ct.length≤16777216) (hz:∃z,(dh P et).val st.get st.obj=some z)
  (hq:(dJ ct ts 0 parts.toList).val st.get st.obj=some q) (hn:cG (bz q.2)=true)
  (he:e= {sv:= .own (ag d 0),ow:=(ag d 0,some (.deep et ct ts q.1 none))::eK q.2}):Good P w0 S st o e a w:=by
 subst he
 obtain⟨i,hi,bk⟩:=a9 dd
 obtain⟨β,φ,hc⟩:=hR.core
 obtain⟨vals,aN,Cd,Fq,cT,dZ,A7,ko⟩:=iy hc parts.toList 0 q hq
 obtain⟨z,hz⟩:=hz
 obtain⟨i',zv,dD,mn,_,_⟩:=cW hz
 rw[hi] at dD
 injection dD with dD
 subst dD
 have hle:len≤maxLen:=by
  have:len≤len*ct.length:=Nat.le_mul_of_pos_right _ jV
  simp only[maxLen]
  omega
 have bj:(Instr.buildSlice t len (parts.map fun x=>(x.1,a.eval x.2))).run P w= .ok (.slice (some ⟨w.heap.size,0,none⟩) len len) (w.alloc (.cells vals.toArray et)):=by
  rcases Nat.eq_zero_or_pos len with h0 | h0
  ·have hp:parts= #[]:=by
    have:parts.toList.length=0:=by omega
    simpa using this
   have hv:vals=[]:=by
    have:vals.length=0:=by rw[Cd,←hlen,h0,Nat.zero_mul]
    simpa using this
   subst hp hv h0
   simp [Instr.buildSlice,run_underlying hu,sizeOf,typeInfo,hi,Instr.fill,newRow,Array.range_zero']
  ·refine run_buildSlice (P:=P) w t et len _ vals.toArray i zv hu hi mn (by rw[bk];omega) (by rw[bk];exact Nat.ne_of_gt (Nat.mul_pos h0 jV)) ?_
   have:=ko [] ((Array.range (len*ct.length)).map (zv.cells[· % zv.cells.size]!)).toList (by simp) (by simp [hlen])
   rw[bk]
   generalize (Array.range (len*ct.length)).map (zv.cells[· % zv.cells.size]!)=A at this ⊢
   simpa using this
 have bs:ag d 0 / 64=d:=cy d 0 (by omega)
 have A6:=eN hc A7 hn
 have I5:∀b∈q.2.flatMap (aL β),∃k∈bz q.2,∃ob,st.obj k=some ob∧b∈ao β k ob:=dN A7
 have cd:=cT.lt
 have a8:bW (w.alloc (.cells vals.toArray et)) et ct.length false (.slice (some ⟨w.heap.size,0,none⟩) len len) q.1.length vals:=by
  refine⟨by rw[Cd,Fq],.inr ⟨w.heap.size,len,vals.toArray,by rw[Fq,←hlen],by simpa using dI _,by rw[Fq,←hlen];exact Nat.le_refl _,hle,by simp [Cd,hlen], ?_⟩⟩
  rw[Fq,←Cd]
  simp
 refine bY hR (fun d' h'=>by rw[aJ] at h';injection h' with h';exact h' ▸ hd) (v:= .slice (some ⟨w.heap.size,0,none⟩) len len) (w':=w.alloc (.cells vals.toArray et)) ?_ (hR.kept.alloc _)
  ⟨β.fQ (ag d 0) (.slice (some ⟨w.heap.size,0,none⟩) len len) aN.flatten,ay φ (ag d 0) ([w.heap.size]++aN.flatten), ?_, ?_⟩
 ·simp [execOp,ho,bj]
 ·refine hc.compose (v':= .slice (some ⟨w.heap.size,0,none⟩) len len) (G:=fun k=>k∈bz q.2) (fun i hi=>bI.slot i _ hi bs) (fun j ob hj hi=>(bI.obj j ob hj).2 _ hi bs) ?_ (by simp [fo,ay,fc]) (fun j hj y hy=> ?_) (by rw[bX];omega) hR.kept.size (fun b ax _=>alloc_old _ b ax) (fun b ax=> ?_) a8 (cT.mono (by rw[bX];omega) (fun b ax=>alloc_old _ b (cd b ax)) (fun _=>rfl)) ?_
  ·cases hn:st.obj (ag d 0) with
   | none=>rfl
   | some ob=>exact absurd bs (bI.obj _ ob hn).1
  ·simp only[fo,ay,hj,if_false,fc] at hy
   rw[Ad] at hy
   split at hy
   ·cases hy
   ·rename_i hk
    exact⟨hy,hk⟩
  ·rcases List.mem_append.1 ax with ax | ax
   ·right
    have:b=w.heap.size:=by simpa [Value.ownBlock] using ax
    exact⟨this,by rw[bX];omega⟩
   ·left
    rw[dZ] at ax
    obtain⟨k,hk,ob,h3,h4⟩:=I5 b ax
    exact⟨k,ob,hk,h3,h4⟩
  ·rw[List.nodup_append]
   refine⟨by simp [Value.ownBlock],by rw[dZ];exact A6,fun b h3 b' h4 e=> ?_⟩
   subst e
   have h5:b=w.heap.size:=by simpa [Value.ownBlock] using h3
   have:=cd b h4
   omega
 ·unfold ak
  exact⟨by simp [Env.fQ,ay],rfl⟩
end
end Go.Proofs.YtngbcccnjiaddaaGreat.Vm
set_option linter.unusedVariables false
set_option linter.unusedSimpArgs false
namespace Go.Proofs.YtngbcccnjiaddaaGreat.Vm
section
variable {P:Program} {Γ:Ctx} {w0:World} {S:Own} {st:St} {o:Oper} {e:cB} {a:Act} {w:World}
variable {f:Nat→SV} {h:Nat→Option ai} {β:Env} {φ:Nat→List Nat} {tm:Array Value}
def bp (b:List UInt8):List Value:=b.map fun c=>Value.int .u8 c.toNat
theorem dq (k:Nat) (b:List UInt8) (w:World):(Builtin.firstCells k b.length (.string ⟨b.toArray⟩)).run P w= .ok (bp b).toArray w:=by
 have:((⟨b.toArray⟩:ByteArray).extract 0 b.length).data.map (fun c=>Value.int .u8 c.toNat)=(bp b).toArray:=by
  rw[kB]
  simp [bp]
 simp only[Builtin.firstCells,Sem.run_pure,this]
theorem AP {t u ty et:TypeId} {i:TypeInfo} {zv:Value} (ht:P.underlying t=some (.slice et)) (hu:P.underlying u=some .string) (hi:P.info? et=some i) (hz:i.zero=some zv) (dd:i.size=1) (Kk:zv.cells.size=1)
  {v:Value} {n:Nat} {vals:List Value} (a8:bW w et 1 false v n vals) (b:List UInt8) (dV:eQ P et (n+b.length)=true):
  ∃v' w',(Builtin.append_ #[t,u] ty #[v,.string ⟨b.toArray⟩]).run P w= .ok v' w'∧bW w' et 1 false v' (n+b.length) (vals++bp b)∧w.grownBy w' v.ownBlock∧(v'.ownBlock=v.ownBlock∨v'.ownBlock=some w.heap.size):=by
 obtain⟨D4,H4⟩:=Bn hi dV
 have Kd:n+b.length≤9223372036854775807:=by simp only[maxLen] at H4;omega
 have GU:(bp b).length=b.length:=by simp [bp]
 have bg:∀u∈bp b,u.oneCell'=true:=by
  intro u hu
  obtain⟨c,_,rfl⟩:=List.mem_map.1 hu
  rfl
 have hlen:(vals++bp b).length=(n+b.length)*1:=by rw[List.length_append,a8.1,GU];omega
 have grown:∀(lk:Nat),lk<n+b.length→∀(row:Option Nat),
   bW (w.drew.alloc (.cells (vals.toArray++(bp b).toArray++Builtin.zeroCells zv.cells (grownCap w (n+b.length) lk et - (n+b.length))) et)) et 1 false
    (.slice (some ⟨w.heap.size,0,none⟩) (n+b.length) (grownCap w (n+b.length) lk et)) (n+b.length) (vals++bp b)∧
   w.grownBy (w.drew.alloc (.cells (vals.toArray++(bp b).toArray++Builtin.zeroCells zv.cells (grownCap w (n+b.length) lk et - (n+b.length))) et)) row:=by
  intro lk ho row
  have D8:=grownCap_ge w (n+b.length) lk et
  have Fc:grownCap w (n+b.length) lk et≤maxLen:=grownCap_le_maxLen w (n+b.length) lk et H4
  refine⟨⟨hlen,.inr ⟨w.heap.size,_,_,rfl,heap_alloc_new w.drew _,D8,Fc, ?_, ?_⟩⟩,⟨rfl,rfl,rfl,by simp,fun k hk _=>heap_alloc_old w.drew _ hk⟩⟩
  ·simp only[Array.size_append,List.size_toArray,size_zeroCells,Kk,a8.1,GU]
   omega
  ·simp only[Array.toList_append,List.append_assoc]
   rw[←List.append_assoc,←hlen]
   exact List.take_left
 rcases a8.2 with ⟨rfl,rfl,_⟩ | ⟨g,cap,cur,rfl,hg,B8,Fc,fI,El⟩
 ·have hx:vals=[]:=List.eq_nil_of_length_eq_zero (by simpa using a8.1)
  subst hx
  by_cases hm:b.length=0
  ·have Lj:b=[]:=List.eq_nil_of_length_eq_zero hm
   subst Lj
   refine⟨.slice none 0 0,w, ?_,⟨by simp [bp],.inl ⟨rfl,rfl,rfl⟩⟩,⟨rfl,rfl,rfl,Nat.le_refl _,fun _ _ _=>rfl⟩,.inl rfl⟩
   have hf:=dq (P:=P) i.size [] w
   simp [Builtin.append_,run_underlying ht,run_underlying hu,sizeOf,typeInfo,hi,Builtin.lenOf,dz] at hf ⊢
   simp [hf]
  ·have hn:¬(b.length=0):=hm
   have Gu:¬(9223372036854775807<(b.length:Int)):=by omega
   have Gt:¬(281474976710656<Builtin.nextslicecap b.length 0*i.bytes):=by
    have hb:=D4
    rw[Nat.zero_add] at hb
    rw[nextslicecap_zero (by omega)]
    omega
   have hf:=dq (P:=P) i.size b w.drew
   have hr:(Builtin.append_ #[t,u] ty #[.slice none 0 0,.string ⟨b.toArray⟩]).run P w=
     .ok (.slice (some ⟨w.heap.size,0,none⟩) b.length (grownCap w b.length 0 et)) (w.drew.alloc (.cells ((bp b).toArray++Builtin.zeroCells zv.cells (grownCap w b.length 0 et - b.length)) et)):=by
    simp [Builtin.append_,run_underlying ht,run_underlying hu,sizeOf,typeInfo,zeroValue,hi,hz,Builtin.lenOf,dz,hn,Gu,Gt,Question.forced,run_firstCells_none,hf,newRow,grownCap]
   have Hn:=grown 0 (by omega) (Value.ownBlock (.slice none 0 0))
   simp only[Nat.zero_add,List.nil_append,Array.empty_append] at Hn ⊢
   exact⟨_,_,hr,Hn.1,Hn.2,.inr rfl⟩
 ·by_cases D6:n+b.length≤cap
  ·have dr:n*1+(bp b).length≤cur.size:=by rw[GU,fI];omega
   have hf:=dq (P:=P) 1 b w
   have Hm:w.heap[g]? =some (.cells cur et (0,0)):=by simpa using hg
   have gN:=run_storeCells_at P g (n*1) et (bp b) 0 cur w Hm (by simpa using dr) bg
   simp only[Nat.add_zero] at gN
   have hr:(Builtin.append_ #[t,u] ty #[.slice (some ⟨g,0,none⟩) n cap,.string ⟨b.toArray⟩]).run P w=
     .ok (.slice (some ⟨g,0,none⟩) (n+b.length) cap) (w.setRow g (cur.toList.take (n*1)++bp b++cur.toList.drop (n*1+(bp b).length)).toArray):=by
    simp only[Nat.mul_one] at gN
    simp [Builtin.append_,run_underlying ht,run_underlying hu,sizeOf,typeInfo,hi,dd,Builtin.lenOf,dz,D6,hf,Addr.add_lit,gN]
   refine⟨_,_,hr,⟨hlen,.inr ⟨g,cap,_,rfl,setRow_heap w g cur _ et _ Hm,D6,Fc, ?_, ?_⟩⟩,⟨rfl,rfl,rfl,by simp,fun k _ hk=>setRow_other w g k _ (fun e=>hk (by simp [Value.ownBlock,e]))⟩,.inl rfl⟩
   ·simp only[List.size_toArray,List.length_append,List.length_take,List.length_drop,Array.length_toList]
    omega
   ·simp only[List.append_assoc]
    have G2:cur.toList.take (n*1)=vals:=El
    rw[G2,←hlen]
    rw[←List.append_assoc]
    exact List.take_left
  ·have holds:∀j u,vals[j]? =some u→w.cell? ((⟨g,0,none⟩:Addr).add j)=some u:=a8.owns.cells (g:=g) rfl
   have hn:¬(n+b.length≤cap):=D6
   have Gu:¬(9223372036854775807<((n:Int)+(b.length:Int))):=by omega
   have Gt:¬(281474976710656<Builtin.nextslicecap (n+b.length) cap*i.bytes):=by
    have:=growslice_fits (bytes:=i.bytes) (show cap<n+b.length by omega) D4
    omega
   have hf:=dq (P:=P) i.size b w.drew
   have I1:=run_firstCells_some (P:=P) w.drew i.size n ⟨g,0,none⟩ n cap vals (by rw[dd];exact a8.1) (by simpa using holds)
   have hr:(Builtin.append_ #[t,u] ty #[.slice (some ⟨g,0,none⟩) n cap,.string ⟨b.toArray⟩]).run P w=
     .ok (.slice (some ⟨w.heap.size,0,none⟩) (n+b.length) (grownCap w (n+b.length) cap et)) (w.drew.alloc (.cells (vals.toArray++(bp b).toArray++Builtin.zeroCells zv.cells (grownCap w (n+b.length) cap et - (n+b.length))) et)):=by
    simp [Builtin.append_,run_underlying ht,run_underlying hu,sizeOf,typeInfo,zeroValue,hi,hz,Builtin.lenOf,dz,hn,Gu,Gt,Question.forced,hf,I1,newRow,grownCap]
    congr 2
    apply Array.ext'
    simp [List.append_assoc]
   have Hn:=grown cap (by omega) (Value.ownBlock (.slice (some ⟨g,0,none⟩) n cap))
   exact⟨_,_,hr,Hn.1,Hn.2,.inr rfl⟩
theorem ER (b:List UInt8):dC w [.int .u8] (b.map eP) (bp b) (List.replicate b.length []):=by
 refine⟨by simp [bp],fun k r' f' hk hf=> ?_⟩
 have GN:k<b.length:=by
  have:=(List.getElem?_eq_some_iff.1 hk).1
  simpa using this
 have Fp:r'=eP b[k]:=by
  rw[List.getElem?_map,List.getElem?_eq_getElem GN] at hk
  simpa using hk.symm
 have BK:f'=[]:=by
  have:=List.mem_of_getElem? hf
  exact (List.mem_replicate.1 this).2
 subst Fp BK
 unfold eP
 simp only[aS,bQ]
 refine⟨.int b[k].toNat,[],.int .u8 b[k].toNat,[],[],rfl, ?_,⟨_,rfl,rfl, ?_,rfl⟩,⟨rfl,rfl⟩,rfl⟩
 ·simp only[bp,List.length_cons,List.length_nil,Nat.zero_add,Nat.mul_one,Nat.add_zero]
  rw[List.getElem?_map,List.getElem?_eq_getElem GN]
  rfl
 ·rw[fg]
  have h1:IntKind.u8.min=0:=by decide
  have h2:IntKind.u8.max=255:=by decide
  have:=b[k].toNat_lt
  omega
theorem mu (hR:Rel w0 S st a w) (hd:∀d,o.dst=some d→ba st.n d) (bI:e.ow≠[]→∀d,o.dst=some d→bC st d) {t t':TypeId} {s x:Operand} {c:Call} (ho:o.op= .call c) (hb:c.callee= .builtin .append) (cv:c.args= #[s,x])
  (Gx:c.argTypes= #[t,t']) {sx sy:SV} (h1:(bV s).val st.get st.obj=some sx) (h2:(bV x).val st.get st.obj=some sy) (he:(m6 P o.dst t t' sx sy).val st.get st.obj=some e) (aF:e.ok=true):Good P w0 S st o e a w:=by
 unfold m6 at he
 split at he
 case h_2=>simp at he
 rename_i et d id b hu Cc aJ
 simp only[M.a7,Option.bind_eq_some_iff] at he
 obtain⟨ob,aM,he⟩:=he
 split at he
 case h_2=>simp at he
 rename_i t1 ct r u
 cases Am:Nat.beq t1 et && aC ct [.int .u8] && aX P et 1
 ·simp [Am] at he
 simp only[Am,cond_true,M.ae,Option.bind_eq_some_iff] at he
 obtain⟨z,hz,he⟩:=he
 cases jm:Nat.beq z.length 1
 ·simp [jm] at he
 simp only[jm,cond_true,M.aa,Option.some.injEq] at he
 simp only[Bool.and_eq_true] at Am
 have I_:=Nat.eq_of_beq_eq_true Am.1.1
 have B0:=aG _ _ Am.1.2
 subst I_ B0
 have bI:=bI (by rw[←he];simp) d aJ
 have dV:eQ P t1 (r.length+b.length)=true:=by rw[←he] at aF;exact aF
 have Fw:=Nat.eq_of_beq_eq_true jm
 obtain⟨i,hi,bk⟩:=a9 Am.2
 obtain⟨i',zv,dD,mn,rfl,_⟩:=cW hz
 rw[hi] at dD
 injection dD with dD
 subst dD
 obtain⟨β,φ,hc⟩:=hR.core
 have F7:=hc.ev h1
 simp only[ak] at F7
 have KN:=hc.ev h2
 simp only[ak] at KN
 obtain⟨vals,az,a8,cT,HW,kR⟩:=hc.aB id _ aM
 obtain⟨v',w',bj,fK,cL,jf⟩:=AP (P:=P) (ty:=o.type) hu Cc hi mn bk (by simpa using Fw) a8 b dV
 have dZ:az.flatten=[]:=cT.flat rfl
 have G4:φ id=(β.val id).ownBlock.toList:=by rw[kR,dZ];cases u<;>simp
 have bs:ag d 0 / 64=d:=cy d 0 (by omega)
 have HX:id≠ag d 0:=fun e=>(bI.obj id _ aM).1 (e ▸ bs)
 have fS:∀j,j≠ag d 0→(β.fv (ag d 0) v').val j=β.val j∧(β.fv (ag d 0) v').di j=β.di j:=by
  intro j hj
  exact⟨by simp [Env.fv,ay,hj],rfl⟩
 have hval:(β.fv (ag d 0) v').val (ag d 0)=v':=by simp [Env.fv,ay]
 have bo:=hc.fresh id _ aM
 have Ai:v'.ownBlock.toList.Nodup:=by cases v'.ownBlock<;>simp
 have mM:∀b∈v'.ownBlock.toList,b∈φ id∨b=w.heap.size:=by
  intro b ax
  rcases jf with h3 | h3
  ·rw[h3] at ax
   exact .inl (by rw[G4];exact ax)
  ·rw[h3] at ax
   exact .inr (by simpa using ax)
 have gL:∀b,(β.val id).ownBlock=some b→b∈φ id:=fun b ax=>by rw[G4,ax];simp
 have jj:∀j oj,ay (ay st.obj id none) (ag d 0) (some (.row t1 [.int .u8] (r++b.map eP) false u)) j=some oj→j≠ag d 0→j≠id∧st.obj j=some oj:=by
  intro j oj hj lO
  simp only[ay,lO,if_false] at hj
  split at hj
  ·cases hj
  ·exact⟨by assumption,hj⟩
 have fm:∀b,b<w.heap.size→(β.val id).ownBlock≠some b→w'.heap[b]? =w.heap[b]? :=fun b ax cm=>cL.block b ax (fun e=>cm e.symm)
 have A_:∀b∈v'.ownBlock.toList,∀j oj,j≠id→st.obj j=some oj→b ∉ φ j:=by
  intro b ax j oj hj ji bn
  rcases mM b ax with h3 | h3
  ·exact hc.sep id j _ _ (Ne.symm hj) aM ji b h3 bn
  ·have:=((hc.fresh j oj ji).2 b bn).2
   omega
 have Ag:∀b',Av (ay (ay st.obj id none) (ag d 0) (some (.row t1 [.int .u8] (r++b.map eP) false u))) (β.fv (ag d 0) v') b'→Av st.obj β b'∨w.heap.size≤b':=by
  rintro b' (⟨j,oj,hj,bn⟩ | hb)
  case inr=>exact .inl (.inr hb)
  by_cases bR:j=ag d 0
  ·subst bR
   simp only[ay,if_true,Option.some.injEq] at hj
   subst hj
   simp only[ao,hval] at bn
   rcases mM b' bn with h3 | h3
   ·exact .inl (.inl ⟨id,_,aM,by simp only[ao];rw[←G4];exact h3⟩)
   ·exact .inr (by omega)
  ·obtain⟨_,fJ⟩:=jj j oj hj bR
   refine .inl (.inl ⟨j,oj,fJ, ?_⟩)
   cases oj<;>simp only[ao,fS j bR] at bn ⊢ <;>exact bn
 refine bY hR hd (v:=v') (w':=w') ?_ (hR.kept.grown cL (fun b ax=>(bo.2 b (gL b ax)).1))
  ⟨β.fv (ag d 0) v',ay φ (ag d 0) v'.ownBlock.toList, ?_, ?_⟩
 ·simp [execOp,ho,resolve,hb,cv,Gx,invoke,builtin,F7.1,KN.1,bj]
 ·rw[←he]
  show Core w0 S st.get (ay (ay st.obj id none) (ag d 0) (some (.row t1 [.int .u8] (r++b.map eP) false u))) _ _ _ _
  refine hc.step (fun j=>j=ag d 0) cL.size (fun b ax hn=>fm b ax (fun e=>hn (.inl ⟨id,_,aM,by simp [ao,e]⟩))) Ag
   (fun k j hj e=>bI.slot k j hj (by rw[e];exact bs)) fS ?_ ?_
  ·intro j oj hj
   by_cases bR:j=ag d 0
   ·subst bR
    have fJ:=hj
    simp only[ay,if_true,Option.some.injEq] at fJ
    subst fJ
    refine .inr ⟨?_,by simp only[ay,if_true];exact Ai, ?_⟩
    ·have A2:=(cT.append (by simpa using a8.1) (ER (w:=w) b)).mono (w':=w') cL.size (fun b ax=>by
      rw[List.flatten_append,dZ] at ax
      simp at ax)
     refine⟨vals++bp b,az++List.replicate b.length [], ?_,A2, ?_, ?_⟩
     ·rw[hval]
      have:(r++b.map eP).length=r.length+b.length:=by simp
      rw[this]
      exact fK
     ·rw[List.flatten_append,dZ]
      simp
     ·rw[hval,List.flatten_append,dZ]
      cases u<;>simp [ay]
    ·simp only[ay,if_true]
     intro b ax
     rcases mM b ax with h3 | h3
     ·have:=bo.2 b h3
      exact⟨this.1,by have:=cL.size;omega⟩
     ·subst h3
      exact⟨.inl hR.kept.size,fK.lt _ ax⟩
   ·obtain⟨fX,fJ⟩:=jj j oj hj bR
    refine .inl ⟨bR,fJ,by simp [ay,bR], ?_, ?_⟩
    ·intro k hk e
     exact (bI.obj j oj fJ).2 k hk (by rw[e];exact bs)
    ·intro b ax
     have e_:=aj (hc.aB j oj fJ) b ax
     refine fm b ((hc.fresh j oj fJ).2 b e_).2 (fun e=> ?_)
     exact hc.sep id j _ _ (Ne.symm fX) aM fJ b (gL b e) e_
  ·intro k j ok oj cm hk hj b ax
   by_cases GM:k=ag d 0
   ·subst GM
    have lO:j≠ag d 0:=Ne.symm cm
    obtain⟨fX,fJ⟩:=jj j oj hj lO
    simp only[ay,if_true] at ax
    simp only[ay,lO,if_false]
    exact A_ b ax j oj fX fJ
   ·obtain⟨mJ,B6⟩:=jj k ok hk GM
    simp only[ay,GM,if_false] at ax
    by_cases bR:j=ag d 0
    ·subst bR
     simp only[ay,if_true]
     exact fun h3=>A_ b h3 k ok mJ B6 ax
    ·obtain⟨fX,fJ⟩:=jj j oj hj bR
     simp only[ay,bR,if_false]
     exact hc.sep k j ok oj cm B6 fJ b ax
 ·rw[←he]
  unfold ak
  exact⟨hval.symm,fK.one⟩
end
end Go.Proofs.YtngbcccnjiaddaaGreat.Vm
namespace Go.Proofs.YtngbcccnjiaddaaGreat.Vm
theorem me {α:Type} {l:Array α} {x:α} (h:l.toList=[x]):l= #[x]:=by
 cases l;simp at h;subst h;rfl
theorem ca {α:Type} {l:Array α} {x y:α} (h:l.toList=[x,y]):l= #[x,y]:=by
 cases l;simp at h;subst h;rfl
theorem Bk {P:Program} {Γ:Ctx} {w0:World} {S:Own} {st:St} {o:Oper} {e:cB} {a:Act} {w:World} (d_:bt P Γ) (hR:Rel w0 S st a w)
  (hv:(evalOp P Γ o).val st.get st.obj=some e) (aF:e.ok=true) (hd:∀d,o.dst=some d→ba st.n d) (bI:e.ow≠[]→∀d,o.dst=some d→bC st d):Good P w0 S st o e a w:=by
 unfold evalOp at hv
 split at hv
 ·rename_i x ho
  simp only[M.ae,Option.bind_eq_some_iff,M.aa,Option.some.injEq] at hv
  obtain⟨s,h1,rfl⟩:=hv
  exact l5 hR hd (.inl ho) h1 rfl
 ·rename_i x ho
  simp only[M.ae,Option.bind_eq_some_iff,M.aa,Option.some.injEq] at hv
  obtain⟨s,h1,rfl⟩:=hv
  exact l5 hR hd (.inr ho) h1 rfl
 ·rename_i c x y ho
  simp only[M.ae,Option.bind_eq_some_iff] at hv
  obtain⟨sc,h0,sx,h1,sy,h2,hv⟩:=hv
  exact CA hR hd ho h0 h1 h2 hv
 ·rename_i t ho
  split at hv
  ·rename_i d aJ
   simp only[M.ae,Option.bind_eq_some_iff,M.aa,Option.some.injEq] at hv
   obtain⟨z,hz,rfl⟩:=hv
   exact Bp hR aJ (hd d aJ) (bI (by simp) d aJ) ho hz rfl
  ·simp at hv
 ·rename_i t x ho
  split at hv
  ·rename_i d aJ
   simp only[M.ae,Option.bind_eq_some_iff,M.aa,Option.some.injEq] at hv
   obtain⟨s,hs,cs,fI,rfl⟩:=hv
   exact Dr hR aJ (hd d aJ) (bI (by simp) d aJ) ho hs fI rfl
  ·simp at hv
 ·rename_i t parts ho
  split at hv
  ·rename_i fs hu
   split at hv
   ·rename_i places hp
    simp only[M.ae,Option.bind_eq_some_iff,M.aa,Option.some.injEq] at hv
    obtain⟨z,hz,cs,fI,rfl⟩:=hv
    exact Bq hR hd ho hu hp hz fI rfl
   ·simp at hv
  ·simp at hv
 ·rename_i t len parts ho
  cases eI:AO Γ o.dst with
  | true=>
   simp only[eI,cond_true] at hv
   unfold DW at hv
   split at hv
   ·rename_i et d hu aJ
    split at hv
    ·rename_i ct ts B0 EZ
     cases hb:aX P et ct.length && Nat.blt 0 ct.length && Nat.beq len parts.toList.length && Nat.ble (len*ct.length) 16777216
     ·simp only[hb,cond_false,M.mf,reduceCtorEq] at hv
     simp only[hb,cond_true,M.ae,Option.bind_eq_some_iff] at hv
     obtain⟨z,hz,q,hq,hv⟩:=hv
     cases hn:cG (bz q.2)
     ·simp [hn] at hv
     simp only[hn,cond_true,M.aa,Option.some.injEq] at hv
     simp only[Bool.and_eq_true] at hb
     exact Az hR aJ (hd d aJ) (bI (by rw[←hv];simp) d aJ) ho hu hb.1.1.1 (Nat.le_of_ble_eq_true hb.1.1.2) (Nat.eq_of_beq_eq_true hb.1.2) (Nat.le_of_ble_eq_true hb.2) ⟨z,hz⟩ hq hn hv.symm
    ·simp at hv
   ·simp at hv
  | false=>
  simp only[eI,cond_false] at hv
  split at hv
  ·rename_i et d hu aJ
   split at hv
   ·rename_i ct B0
    cases hb:aX P et ct.length && Nat.blt 0 ct.length && Nat.beq len parts.toList.length && Nat.ble (len*ct.length) 16777216
    ·simp only[hb,cond_false,M.mf,reduceCtorEq] at hv
    simp only[hb,cond_true,M.ae,Option.bind_eq_some_iff] at hv
    obtain⟨z,hz,q,hq,hv⟩:=hv
    cases hn:aI q.2.1
    ·simp [hn] at hv
    simp only[hn,cond_true,M.aa,Option.some.injEq] at hv
    simp only[Bool.and_eq_true] at hb
    exact j9 hR aJ (hd d aJ) (bI (by rw[←hv];simp) d aJ) ho hu hb.1.1.1 (Nat.le_of_ble_eq_true hb.1.1.2) (Nat.eq_of_beq_eq_true hb.1.2) (Nat.le_of_ble_eq_true hb.2) hq ⟨z,hz⟩ hn hv.symm
   ·simp at hv
  ·simp at hv
 ·rename_i t x ho
  simp only[M.ae,Option.bind_eq_some_iff] at hv
  obtain⟨s,h1,hv⟩:=hv
  unfold Ga at hv
  split at hv
  ·rename_i id i z off
   simp only[M.a7,Option.bind_eq_some_iff] at hv
   obtain⟨ob,aM,hv⟩:=hv
   split at hv
   ·rename_i t' ct ts rows hl
    cases eI:AO Γ o.dst with
    | false=>
     simp only[eI,cond_false] at hv
     exact Bu hR hd ho h1 aM hv aF
    | true=>
     simp only[eI,cond_true] at hv
     unfold Gh at hv
     split at hv
     ·rename_i e' t1 d Aj aJ
      cases hb:Nat.beq z ct.length && Nat.beq (aV ct) 1 && !(bh P t) && (P.underlying t).isSome
      ·simp [hb] at hv
      simp only[hb,cond_true,M.aa,Option.some.injEq] at hv
      simp only[Bool.and_eq_true,Bool.not_eq_true'] at hb
      obtain⟨⟨⟨b1,b2⟩,b3⟩,b4⟩:=hb
      have b1:=Nat.eq_of_beq_eq_true b1
      subst b1
      obtain⟨td,hu⟩:=Option.isSome_iff_exists.1 b4
      have hi:i<rows.length:=by rw[←hv] at aF;simpa using aF
      exact CB hR aJ (hd d aJ) (bI (by rw[←hv];simp) d aJ) ho h1 aM Aj (Nat.eq_of_beq_eq_true b2) b3 hu hi (by rw[←hv]) (by rw[←hv]) (by rw[←hv])
     ·simp at hv
   ·exact lZ hR hd ho h1 hv aF
  ·exact lZ hR hd ho h1 hv aF
 ·rename_i t x y ho
  simp only[M.ae,Option.bind_eq_some_iff] at hv
  obtain⟨sx,h1,sy,h2,hv⟩:=hv
  have plain:(AD P t sx sy).val st.get st.obj=some e→Good P w0 S st o e a w:=by
   clear hv
   intro hv
   unfold AD at hv
   simp only[M.ae,Option.bind_eq_some_iff] at hv
   obtain⟨bE,fI,hv⟩:=hv
   cases dd:aX P t bE.length
   ·simp [dd] at hv
   simp only[dd,cond_true] at hv
   split at hv
   ·rename_i id off
    simp only[M.a7,Option.bind_eq_some_iff] at hv
    obtain⟨ob,aM,hv⟩:=hv
    split at hv
    ·rename_i t' cells
     cases dr:Nat.ble (off+bE.length) cells.length
     ·simp [dr] at hv
     simp only[dr,cond_true,M.aa,Option.some.injEq] at hv
     exact kU hR hd ho h1 h2 fI dd aM (Nat.le_of_ble_eq_true dr) hv.symm
    ·simp at hv
   ·rename_i id i z off
    simp only[M.a7,Option.bind_eq_some_iff] at hv
    obtain⟨ob,aM,hv⟩:=hv
    split at hv
    ·rename_i t' ct rows fz u
     cases dr:Nat.beq z ct.length && Nat.ble (off+bE.length) ct.length
     ·simp [dr] at hv
     simp only[dr,cond_true,M.ae,Option.bind_eq_some_iff] at hv
     obtain⟨r,hr,hv⟩:=hv
     cases hm:bK id r.2.1 && aI r.2.1
     ·simp [hm] at hv
     simp only[hm,cond_true,M.aa,Option.some.injEq] at hv
     simp only[Bool.and_eq_true] at dr hm
     have hz:=Nat.eq_of_beq_eq_true dr.1
     subst hz
     have hi:i<rows.length:=by rw[←hv] at aF;simpa using aF
     exact kV hR hd ho h1 h2 fI dd aM (Nat.le_of_ble_eq_true dr.2) hr hm.1 hm.2 hi (by rw[←hv]) (by rw[←hv]) (by rw[←hv])
    ·simp at hv
   ·simp at hv
  unfold EP at hv
  split at hv
  ·rename_i id i z off
   simp only[M.a7,Option.bind_eq_some_iff] at hv
   obtain⟨ob,aM,hv⟩:=hv
   split at hv
   ·rename_i t' ct ts rows hl
    unfold EO at hv
    simp only[M.ae,Option.bind_eq_some_iff] at hv
    obtain⟨bE,fI,hv⟩:=hv
    cases dd:aX P t bE.length && Nat.beq z ct.length && Nat.ble (off+bE.length) ct.length
    ·simp [dd] at hv
    simp only[dd,cond_true] at hv
    simp only[Bool.and_eq_true] at dd
    obtain⟨⟨s1,s2⟩,s3⟩:=dd
    have s2:=Nat.eq_of_beq_eq_true s2
    subst s2
    have s3:=Nat.le_of_ble_eq_true s3
    cases hf:al ((ct.drop off).take bE.length) with
    | true=>
     simp only[hf,cond_true,M.ae,Option.bind_eq_some_iff] at hv
     obtain⟨r,hr,hv⟩:=hv
     cases hm:r.2.1.isEmpty
     ·simp [hm] at hv
     simp only[hm,cond_true,M.aa,Option.some.injEq] at hv
     have hi:i<rows.length:=by rw[←hv] at aF;simpa using aF
     exact AB hR hd ho h1 h2 fI s1 aM s3 hf hr hi (by rw[←hv]) (by rw[←hv]) (by rw[←hv])
    | false=>
     simp only[hf,cond_false] at hv
     cases Ju:Nat.beq (aV ((ct.drop off).take bE.length)) (aV ct)
     ·simp [Ju] at hv
     simp only[Ju,cond_true,M.ae,Option.bind_eq_some_iff] at hv
     obtain⟨r,hr,hv⟩:=hv
     cases hm:cG (id::bz r.2)
     ·simp [hm] at hv
     simp only[hm,cond_true,M.aa,Option.some.injEq] at hv
     have hi:i<rows.length∧B_ hl i=true:=by rw[←hv] at aF;simpa using aF
     exact AA hR hd ho h1 h2 fI s1 aM s3 (Nat.eq_of_beq_eq_true Ju) hr hm hi.1 hi.2 (by rw[←hv]) (by rw[←hv]) (by rw[←hv])
   ·exact plain hv
  ·exact plain hv
 ·rename_i x ho
  simp only[M.ae,Option.bind_eq_some_iff] at hv
  obtain⟨s,h1,hv⟩:=hv
  exact ma hR hd ho h1 hv
 ·rename_i op t x y t' ho
  simp only[M.ae,Option.bind_eq_some_iff] at hv
  obtain⟨sx,h1,sy,h2,hv⟩:=hv
  exact Dq hR hd ho h1 h2 hv aF
 ·rename_i op t x ho
  simp only[M.ae,Option.bind_eq_some_iff] at hv
  obtain⟨sx,h1,hv⟩:=hv
  exact EM hR hd ho h1 hv
 ·rename_i s t x ho
  simp only[M.ae,Option.bind_eq_some_iff] at hv
  obtain⟨sx,h1,hv⟩:=hv
  exact Cx hR hd bI ho h1 hv
 ·rename_i t l c ho
  simp only[M.ae,Option.bind_eq_some_iff] at hv
  obtain⟨sl,h1,sc,h2,hv⟩:=hv
  cases eI:AO Γ o.dst with
  | true=>
   simp only[eI,cond_true] at hv
   unfold Gb at hv
   split at hv
   ·rename_i et n m d hu aJ
    split at hv
    ·rename_i ct ts i B0 EZ hi
     cases hb:Nat.beq i.size ct.length && Nat.blt 0 ct.length
     ·simp [hb] at hv
     simp only[hb,cond_true,M.ae,Option.bind_eq_some_iff] at hv
     obtain⟨z,hz,r,hr,hv⟩:=hv
     cases A7:(bz r.2).isEmpty
     ·simp [A7] at hv
     simp only[A7,cond_true,M.aa,Option.some.injEq] at hv
     simp only[Bool.and_eq_true] at hb
     exact Bv hR aJ (hd d aJ) (bI (by rw[←hv];simp) d aJ) ho h1 h2 hu hi (Nat.eq_of_beq_eq_true hb.1) hz hr (by simpa using A7) hv.symm aF
    ·simp at hv
   ·simp at hv
  | false=>
  simp only[eI,cond_false] at hv
  unfold Gc at hv
  split at hv
  ·rename_i et n m d hu aJ
   split at hv
   ·rename_i ct i B0 hi
    cases hb:Nat.beq i.size ct.length && Nat.blt 0 ct.length
    ·simp [hb] at hv
    simp only[hb,cond_true,M.ae,Option.bind_eq_some_iff,M.aa,Option.some.injEq] at hv
    obtain⟨z,hz,r,hr,hv⟩:=hv
    simp only[Bool.and_eq_true] at hb
    exact Cz hR aJ (hd d aJ) (bI (by rw[←hv];simp) d aJ) ho h1 h2 hu hi (Nat.eq_of_beq_eq_true hb.1) hz hr hv.symm aF
   ·simp at hv
  ·simp at hv
 ·rename_i t x lo hi mx ho
  split at hv
  ·simp only[M.ae,Option.bind_eq_some_iff] at hv
   obtain⟨sx,h1,sl,h2,sh,h3,hv⟩:=hv
   exact Bw hR hd ho h1 h2 h3 hv aF
  ·simp at hv
 ·rename_i t x f ho
  split at hv
  ·rename_i fs hu
   split at hv
   ·rename_i fd hf
    cases hz:aX P fd.type 0
    ·simp only[hz,cond_false] at hv
     split at hv
     ·simp at hv
     ·rename_i i hi
      simp only[M.ae,Option.bind_eq_some_iff] at hv
      obtain⟨s,h1,hv⟩:=hv
      exact kT hR hd ho hu hf hz hi h1 hv
    ·simp [hz] at hv
   ·simp at hv
  ·simp at hv
 ·rename_i t x i ho
  simp only[M.ae,Option.bind_eq_some_iff] at hv
  obtain⟨sx,h1,si,h2,hv⟩:=hv
  exact j_ hR hd ho h1 h2 hv aF
 ·rename_i t x i ho
  simp only[M.ae,Option.bind_eq_some_iff] at hv
  obtain⟨sx,h1,si,h2,hv⟩:=hv
  exact Bt hR hd ho h1 h2 hv aF
 ·rename_i x i ho
  simp only[M.ae,Option.bind_eq_some_iff] at hv
  obtain⟨sx,h1,hv⟩:=hv
  split at hv
  ·rename_i vs
   split at hv
   ·rename_i v LR
    simp only[M.aa,Option.some.injEq] at hv
    exact mv hR hd ho h1 LR hv.symm
   ·simp at hv
  ·simp at hv
 ·rename_i c ho
  split at hv
  ·rename_i g hg
   simp only[M.ae,Option.bind_eq_some_iff] at hv
   obtain⟨l,hl,hv⟩:=hv
   cases iW:Fz Γ g with
   | none=>
    unfold kf at hv
    rw[iW] at hv
    simp at hv
   | some s=>
    cases eI:s.Gl with
    | true=>
     unfold kf at hv
     rw[iW] at hv
     simp only[eI,cond_true] at hv
     simp at hv
    | false=>
    cases hp:s.pt with
    | some q=>
     unfold kf at hv
     rw[iW] at hv
     simp only[eI,cond_false,hp] at hv
     simp at hv
    | none=>
    cases hm:s.ms with
    | nil=>
     cases aJ:o.dst with
     | none=>
      unfold kf at hv
      rw[iW,aJ] at hv
      simp only[eI,cond_false,hp,hm] at hv
      simp at hv
     | some d=>
      rw[aJ] at hv
      exact Cw d_ iW eI hp hm hR aJ (hd d aJ) (fun h=>bI h d aJ) ho hg hl hv aF
    | cons m ms=>
     have hv':(m7 s o.dst l).val st.get st.obj=some e:=by
      unfold kf at hv
      rw[iW] at hv
      simp only[eI,cond_false,hp,hm] at hv
      exact hv
     refine Bs d_ iW eI hp (by rw[hm];simp) hR hd (fun d aJ h=>bI h d aJ) (us:=c.args.toList.map a.eval) (fun fn hf hb hn=> ?_) (fun β φ hc=>Aa hc _ l hl) hv' aF
     have En:c.args.map a.eval=(c.args.toList.map a.eval).toArray:=by rw[←Array.toList_map,Array.toArray_toList]
     rw[←En]
     exact Bo ho hg hf hb hn
  ·rename_i hb
   split at hv
   ·rename_i x t hx ht
    simp only[M.ae,Option.bind_eq_some_iff] at hv
    obtain⟨s,h1,hv⟩:=hv
    exact Cy hR hd ho hb (me hx) (me ht) h1 hv
   ·simp at hv
  ·rename_i hb
   split at hv
   ·rename_i x y hx
    simp only[M.ae,Option.bind_eq_some_iff] at hv
    obtain⟨s,h1,s2,h2,hv⟩:=hv
    exact jC (mx:=false) hR hd ho hb (ca hx) h1 h2 hv
   ·simp at hv
  ·rename_i hb
   split at hv
   ·rename_i x y hx
    simp only[M.ae,Option.bind_eq_some_iff] at hv
    obtain⟨s,h1,s2,h2,hv⟩:=hv
    exact jC (mx:=true) hR hd ho hb (ca hx) h1 h2 hv
   ·simp at hv
  ·rename_i hb
   split at hv
   ·rename_i s x t t' hx ht
    cases Ca:Nat.beq t t'
    ·simp only[Ca,cond_false,M.ae,Option.bind_eq_some_iff] at hv
     obtain⟨ss,h1,sx,h2,hv⟩:=hv
     exact mu hR hd bI ho hb (ca hx) (ca ht) h1 h2 hv aF
    simp only[Ca,cond_true] at hv
    have Cb:=Nat.eq_of_beq_eq_true Ca
    subst Cb
    simp only[M.ae,Option.bind_eq_some_iff] at hv
    obtain⟨ss,h1,sx,h2,hv⟩:=hv
    cases eI:AO Γ o.dst with
    | true=>
     simp only[eI,cond_true] at hv
     unfold CE at hv
     split at hv
     ·rename_i et d hu aJ
      split at hv
      ·rename_i ct ts B0 EZ
       cases Am:aX P et ct.length && Nat.blt 0 ct.length
       ·simp [Am] at hv
       simp only[Am,cond_true,M.ae,Option.bind_eq_some_iff] at hv
       obtain⟨z,hz,hv⟩:=hv
       cases jm:Nat.beq z.length ct.length
       ·simp [jm] at hv
       simp only[jm,cond_true,M.ae,Option.bind_eq_some_iff] at hv
       obtain⟨p,J8,q,J9,hv⟩:=hv
       cases hn:cG (p.2++q.2)
       ·simp [hn] at hv
       simp only[hn,cond_true,M.aa,Option.some.injEq] at hv
       simp only[Bool.and_eq_true] at Am
       have dV:eQ P et (p.1.length+q.1.length)=true:=by rw[←hv] at aF;exact aF
       exact mr hR aJ (hd d aJ) (bI (by rw[←hv];simp) d aJ) ho hb (ca hx) (ca ht) h1 h2 hu Am.1 (Nat.le_of_ble_eq_true Am.2) hz (Nat.eq_of_beq_eq_true jm) J8 J9 hn dV (by rw[←hv]) (by rw[←hv]) (by rw[←hv])
      ·simp at hv
     ·simp at hv
    | false=>
    simp only[eI,cond_false] at hv
    unfold CF at hv
    split at hv
    ·rename_i et d hu aJ
     split at hv
     ·rename_i ct B0
      cases Am:aX P et ct.length && Nat.blt 0 ct.length
      ·simp [Am] at hv
      simp only[Am,cond_true,M.ae,Option.bind_eq_some_iff] at hv
      obtain⟨z,hz,hv⟩:=hv
      cases jm:Nat.beq z.length ct.length
      ·simp [jm] at hv
      simp only[jm,cond_true] at hv
      have Fw:=Nat.eq_of_beq_eq_true jm
      simp only[Bool.and_eq_true] at Am
      have jV:0<ct.length:=Nat.le_of_ble_eq_true Am.2
      split at hv
      ·simp only[M.ae,Option.bind_eq_some_iff,M.aa,Option.some.injEq] at hv
       obtain⟨q,hq,hv⟩:=hv
       have dV:eQ P et q.1.length=true:=by rw[←hv] at aF;exact aF
       exact j7 hR aJ (hd d aJ) (bI (by rw[←hv];simp) d aJ) ho hb (ca hx) (ca ht) h1 h2 hu Am.1 jV hz Fw hq dV (by rw[←hv]) (by rw[←hv]) (by rw[←hv])
      ·rename_i id
       simp only[M.a7,Option.bind_eq_some_iff] at hv
       obtain⟨ob,aM,hv⟩:=hv
       split at hv
       ·rename_i t' e' r u
        cases he:Nat.beq t' et && aC e' ct
        ·simp [he] at hv
        simp only[he,cond_true,M.ae,Option.bind_eq_some_iff] at hv
        obtain⟨q,hq,hv⟩:=hv
        cases hn:bK id q.2.1
        ·simp [hn] at hv
        simp only[hn,cond_true,M.aa,Option.some.injEq] at hv
        simp only[Bool.and_eq_true] at he
        have e1:=Nat.eq_of_beq_eq_true he.1
        have e2:=aG _ _ he.2
        subst e1 e2
        have dV:eQ P t' (r.length+q.1.length)=true:=by rw[←hv] at aF;exact aF
        exact j8 hR aJ (hd d aJ) (bI (by rw[←hv];simp) d aJ) ho hb (ca hx) (ca ht) h1 h2 aM hu Am.1 jV hz Fw hq hn dV (by rw[←hv]) (by rw[←hv]) (by rw[←hv])
       ·simp at hv
      ·simp at hv
     ·simp at hv
    ·simp at hv
   ·simp at hv
  ·simp at hv
 ·simp at hv
end Go.Proofs.YtngbcccnjiaddaaGreat.Vm
namespace Go.Proofs.YtngbcccnjiaddaaGreat.Vm
structure Tr (st Hf:St):Prop where
 n:Hf.n=st.n
 ok:st.ok=true
 get:∀i,i ∉ Hf.ls→Hf.get i=st.get i
 ls:∀i∈st.ls,i∈Hf.ls
 obj:∀id o,st.obj id=some o→id ∉ Hf.lm→Hf.obj id=some o
 lm:∀i∈st.lm,i∈Hf.lm
theorem Tr.refl {st:St} (h:st.ok=true):Tr st st:=⟨rfl,h,fun _ _=>rfl,fun _ h=>h,fun _ _ h _=>h,fun _ h=>h⟩
theorem Tr.trans {a b c:St} (h:Tr a b) (k:Tr b c):Tr a c:=
 ⟨k.n.trans h.n,h.ok,fun i hi=>(k.get i hi).trans (h.get i (fun h'=>hi (k.ls i h'))),fun i hi=>k.ls i (h.ls i hi),
  fun id o ho hi=>k.obj id o (h.obj id o ho (fun h'=>hi (k.lm id h'))) hi,fun i hi=>k.lm i (h.lm i hi)⟩
theorem D0 {ow:List (Nat×Option ai)} {h:Nat→Option ai} {j:Nat} (hj:j ∉ ow.map (·.1)):fo ow h j=h j:=by
 induction ow with
 | nil=>rfl
 | cons x l ih=>
  obtain⟨i,ob⟩:=x
  simp only[List.map_cons,List.mem_cons,not_or] at hj
  simp only[fo,ay,hj.1,if_false]
  exact ih hj.2
theorem BB {st:St} {d:Option Nat} {e:cB} (aF:(st.apply d e).ok=true):Tr st (st.apply d e):=by
 have GW:st.ok=true:=by
  simp only[St.apply,fT] at aF
  exact aF.1.1
 refine⟨rfl,GW,fun i hi=> ?_,fun i hi=> ?_,fun id o ho hi=> ?_,fun i hi=> ?_⟩
 ·cases d with
  | none=>rfl
  | some d=>
   have dD:i≠d:=fun h=>hi (by simp [St.apply,h])
   rw[apply_get]
   simp [ay,dD]
 ·cases d<;>simp [St.apply,hi]
 ·rw[eC]
  simp only[St.apply,List.mem_append,not_or] at hi
  rw[D0 hi.2.1]
  cases kn:e.cw with
  | none=>exact ho
  | some x=>
   obtain⟨k,off,bE⟩:=x
   simp only[kn,List.mem_singleton] at hi
   rw[←ho]
   simp only[fc]
   cases st.obj k with
   | none=>rfl
   | some b=>cases b<;>simp [ay,hi.1]
 ·simp only[St.apply,List.mem_append]
  exact .inr (.inr hi)
theorem aY {st:St} :st.fail.ok=false:=rfl
theorem C8 {P:Program} {Γ:Ctx} {st:St} {o:Oper} (aF:(st.cj P Γ o).ok=true):Tr st (st.cj P Γ o):=by
 unfold St.cj at aF ⊢
 split
 ·rename_i e r hr
  simp only[hr] at aF
  cases hf:jd o.dst e st
  ·simp [hf,aY] at aF
  ·simp only[hf,cond_true] at aF ⊢
   exact BB aF
 ·rename_i hr
  simp [hr,aY] at aF
theorem lQ (st:St) (s:Nat) (b:Bool):(st.fq s b).get=ay st.get s (.kb b):=by
 funext i
 show iO ((s,.kb b)::st.sl) i=_
 simp only[iO,ay,St.get]
 cases hk:Nat.beq s i
 ·have e2:=Nat.ne_of_beq_eq_false hk
  rw[if_neg (fun h=>e2 h.symm)]
  rfl
 ·simp [(Nat.eq_of_beq_eq_true hk).symm]
theorem jF {st:St} {s:Nat} {b:Bool} (aF:st.ok=true):Tr st (st.fq s b):=by
 refine⟨rfl,aF,fun i hi=> ?_,fun i hi=>by simp [St.fq,hi],fun _ _ h _=>h,fun _ h=>h⟩
 rw[lQ]
 have:i≠s:=fun h=>hi (by simp [St.fq,h])
 simp [ay,this]
theorem fM {i:Nat} {l:List Nat} :gT i l=true↔i∈l:=by
 induction l with
 | nil=>simp [gT]
 | cons k l ih=>
  simp only[gT,Bool.or_eq_true,List.mem_cons,ih]
  constructor
  ·rintro (h | h)
   ·exact .inl (Nat.eq_of_beq_eq_true h).symm
   ·exact .inr h
  ·rintro (rfl | h)
   ·exact .inl (Nat.beq_refl i)
   ·exact .inr h
theorem mQ {i:Nat} {l:List Nat} :i∈dedup l↔i∈l:=by
 induction l with
 | nil=>simp [dedup]
 | cons k l ih=>
  simp only[dedup]
  cases hm:gT k l
  ·simp [ih]
  ·simp only[cond_true,List.mem_cons,ih]
   constructor
   ·exact .inr
   ·rintro (rfl | h)
    ·exact fM.1 hm
    ·exact h
theorem gS {g:Bool} {f h:Nat→SV} {l:List (Nat×SV)} :∀(r:List Nat) (i:Nat),iO (f_ g f h r l) i=if i∈r then ep g (f i) (h i) else iO l i
 | [],i=>by simp [f_]
 | k::r,i=>by
  simp only[f_,iO]
  cases hk:Nat.beq k i
  ·have e2:=Nat.ne_of_beq_eq_false hk
   simp only[cond_false,gS r i,List.mem_cons]
   by_cases hi:i∈r
   ·simp [hi]
   ·rw[if_neg hi,if_neg (fun h=>h.elim (fun h=>e2 h.symm) hi)]
  ·have e1:=Nat.eq_of_beq_eq_true hk
   subst e1
   simp
theorem gU {hp:List (Nat×ai)} :∀ {l:List Nat} {i:Nat},i∈cq hp l↔i∈l∧∃o,de hp i=some o
 | [],i=>by simp [cq]
 | k::l,i=>by
  simp only[cq]
  cases hk:de hp k with
  | none=>
   simp only[gU (l:=l),List.mem_cons]
   constructor
   ·rintro ⟨h1,h2⟩
    exact⟨.inr h1,h2⟩
   ·rintro ⟨rfl | h1,h2⟩
    ·rw[hk] at h2;obtain⟨o,h2⟩:=h2;cases h2
    ·exact⟨h1,h2⟩
  | some o=>
   simp only[List.mem_cons,gU (l:=l)]
   constructor
   ·rintro (rfl | ⟨h1,h2⟩)
    ·exact⟨.inl rfl,o,hk⟩
    ·exact⟨.inr h1,h2⟩
   ·rintro ⟨rfl | h1,h2⟩
    ·exact .inl rfl
    ·exact .inr ⟨h1,h2⟩
theorem lI {g:Bool} {f k h:Nat→Option ai} :∀(l:List Nat) (i:Nat),fo (jo g f k l) h i=if i∈l then lU g (f i) (k i) else h i
 | [],i=>by simp [jo,fo]
 | j::l,i=>by
  simp only[jo,fo,ay,List.mem_cons]
  by_cases hi:i=j
  ·subst hi;simp
  ·simp only[hi,if_false,false_or]
   exact lI l i
theorem mR (pre:St) (g:Bool) (a b:St) (i:Nat):(merge pre g a b).obj i=if i∈cq pre.hp (dedup (a.lm++b.lm)) then lU g (a.obj i) (b.obj i) else pre.obj i:=by
 show de (j5 _ pre.hp) i=_
 rw[gR,lI]
 rfl
theorem BD {pre a b:St} {g:Bool} (hp:pre.ok=true) (Je:(merge pre g a b).ok=true):Tr pre (merge pre g a b):=by
 refine⟨rfl,hp,fun i hi=> ?_,fun i hi=>List.mem_append_right _ hi,fun i o h hi=> ?_,fun i h=>List.mem_append_right _ h⟩
 ·have hi:i ∉ dedup (a.ls++b.ls)∧i ∉ pre.ls:=by simpa only[merge,List.mem_append,not_or] using hi
  show iO (f_ g a.get b.get (dedup (a.ls++b.ls)) pre.sl) i=iO pre.sl i
  rw[gS,if_neg hi.1]
 ·have hi:i ∉ cq pre.hp (dedup (a.lm++b.lm)):=fun h'=>hi (List.mem_append_left _ h')
  rw[mR,if_neg hi]
  exact h
theorem Core.sub {w0:World} {S:Own} {f f':Nat→SV} {h h':Nat→Option ai} {β:Env} {φ:Nat→List Nat} {tm:Array Value} {w:World} (hc:Core w0 S f h β φ tm w)
  (hh:∀j o,h' j=some o→h j=some o∨∃t cs AR,o= .box t AR∧h j=some (.box t cs)∧∀vs,af w (Av h' β) β cs vs→af w (Av h' β) β AR vs)
  (hf:∀i v,ak w (Av h' β) β (f i) v→ak w (Av h' β) β (f' i) v):Core w0 S f' h' β φ tm w:=by
 have Ei:∀j o,h' j=some o→∃o',h j=some o'∧ao β j o=ao β j o':=by
  intro j o ho
  rcases hh j o ho with h1 | ⟨t,cs,AR,rfl,h1,_⟩
  ·exact⟨o,h1,rfl⟩
  ·exact⟨_,h1,rfl⟩
 have cA:∀b,Av h' β b→Av h β b:=fun b hb=>hb.imp (fun ⟨j,o,hj,hb⟩=>by
  obtain⟨o',h1,h2⟩:=Ei j o hj
  exact⟨j,o',h1,h2 ▸ hb⟩) id
 have hm:=hc.step (h':=h') (β':=β) (φ':=φ) (w':=w) (fun _=>False) (Nat.le_refl _) (fun _ _ _=>rfl) (fun b hb=> .inl (cA b hb)) (fun _ _ _ h=>h) (fun _ _=>⟨rfl,rfl⟩)
  (fun id o ho=>by
   rcases hh id o ho with h1 | ⟨t,cs,AR,rfl,h1,h2⟩
   ·exact .inl ⟨fun h=>h,h1,rfl,fun _ _ h=>h,fun _ _=>rfl⟩
   ·refine .inr ⟨?_,hc.fresh id _ h1⟩
    have h3:=(hc.aB id _ h1).mono (w':=w) (av':=Av h' β) (β':=β) (Nat.le_refl _) (fun _ _ _=>rfl) (fun b hb=> .inl (cA b hb)) (fun _ _=>⟨rfl,rfl⟩) (fun _ _=>rfl) rfl
    obtain⟨vs,e1,e2,e3,e4⟩:=h3
    exact⟨vs,e1,h2 vs e2,e3,e4⟩)
  (fun i j o p cm hi hj b hb=>by
   obtain⟨o',h1,_⟩:=Ei i o hi
   obtain⟨p',h2,_⟩:=Ei j p hj
   exact hc.sep i j o' p' cm h1 h2 b hb)
 exact⟨fun i=>hf i _ (hm.bN i),hm.aB,hm.fresh,hm.sep,hm.gr,hm.bars⟩
theorem Di {w:World} {av:Nat→Prop} {β:Env} {g:Bool} {x y:Option ai} {o:ai} (h:lU g x y=some o):
  (bif g then x else y)=some o∨∃t cs AR,o= .box t AR∧(bif g then x else y)=some (.box t cs)∧∀vs,af w av β cs vs→af w av β AR vs:=by
 unfold lU at h
 split at h
 ·rename_i t cs t' AR
  cases hc:Nat.beq t t' && Nat.beq cs.length AR.length
  ·simp [hc] at h
  ·simp only[hc,cond_true,Option.some.injEq] at h
   simp only[Bool.and_eq_true] at hc
   have ht:=Nat.eq_of_beq_eq_true hc.1
   have hl:=Nat.eq_of_beq_eq_true hc.2
   subst ht h
   refine .inr ⟨t,bif g then cs else AR,_,rfl,by cases g<;>rfl,fun vs hv=>af.merge g cs AR vs hl hv⟩
 ·rename_i t e r fz u t' e' r' IV u'
  cases hc:Nat.beq t t' && aC e e' && (fz==IV) && (u==u')
  ·simp [hc] at h
  ·simp only[hc,cond_true,Option.some.injEq] at h
   simp only[Bool.and_eq_true] at hc
   have ht:=Nat.eq_of_beq_eq_true hc.1.1.1
   have he:=aG _ _ hc.1.1.2
   have hf:fz=IV:=by simpa using hc.1.2
   have hu:u=u':=by simpa using hc.2
   subst ht he hf hu h
   refine .inl ?_
   cases g<;>rfl
 ·cases h
theorem fO {w0:World} {S:Own} {pre yes no:St} {g:Bool} {a:Act} {w:World} (hy:g=true→Tr pre.reset yes∧Rel w0 S yes a w) (hn:g=false→Tr pre.reset no∧Rel w0 S no a w)
  (Je:(merge pre g yes no).ok=true):Rel w0 S (merge pre g yes no) a w:=by
 have key:∀r:St,Tr pre.reset r→Rel w0 S r a w→(∀i∈r.ls,i∈yes.ls++no.ls)→(∀i∈r.lm,i∈yes.lm++no.lm)→(∀i v av β,ak w av β (r.get i) v→ak w av β (ep g (yes.get i) (no.get i)) v)→
   (∀i,(bif g then yes.obj i else no.obj i)=r.obj i)→Rel w0 S (merge pre g yes no) a w:=by
  intro r ht hr LB EW LD Ka
  obtain⟨β,φ,hc⟩:=hr.core
  refine⟨hr.size.trans (congrArg (· % 1099511627776) ht.n),fun x hx=>by have h1:=hr.fx x hx;rw[ht.n] at h1;exact h1,hr.defers,hr.kept,β,φ, ?_⟩
  refine hc.sub (fun j o ho=> ?_) (fun i v hv=> ?_)
  ·rw[mR] at ho
   split at ho
   ·have:=Di (w:=w) (av:=Av (merge pre g yes no).obj β) (β:=β) ho
    rw[Ka j] at this
    exact this
   ·rename_i hj
    refine .inl (ht.obj j o ho (fun h=>hj ?_))
    exact gU.2 ⟨mQ.2 (EW j h),o,ho⟩
  ·show ak w _ β (iO (f_ g yes.get no.get (dedup (yes.ls++no.ls)) pre.sl) i) v
   rw[gS]
   split
   ·exact LD i v _ β hv
   ·rename_i hi
    have:r.get i=pre.get i:=ht.get i (fun h=>hi (mQ.2 (LB i h)))
    rw[this] at hv
    exact hv
 cases g with
 | true=>
  obtain⟨ht,hr⟩:=hy rfl
  exact key yes ht hr (fun i hi=>List.mem_append_left _ hi) (fun i hi=>List.mem_append_left _ hi) (fun i v av β hv=>ak.merge true _ _ _ hv) (fun _=>rfl)
 | false=>
  obtain⟨ht,hr⟩:=hn rfl
  exact key no ht hr (fun i hi=>List.mem_append_right _ hi) (fun i hi=>List.mem_append_right _ hi) (fun i v av β hv=>ak.merge false _ _ _ hv) (fun _=>rfl)
theorem Rel.reset {w0:World} {S:Own} {st:St} {a:Act} {w:World} (h:Rel w0 S st a w):Rel w0 S st.reset a w:=⟨h.size,h.fx,h.defers,h.kept,h.core⟩
theorem Rel.fq {w0:World} {S:Own} {st:St} {a:Act} {w:World} (h:Rel w0 S st a w) {s:Nat} {b:Bool} (hs:a.tmps.getD s undef= .bool b):Rel w0 S (st.fq s b) a w:=by
 obtain⟨β,φ,hc⟩:=h.core
 refine⟨h.size,h.fx,h.defers,h.kept,β,φ, ?_⟩
 rw[lQ]
 exact⟨fun i=>by
  by_cases hi:i=s
  ·subst hi
   simp only[ay,if_true,ak]
   exact hs
  ·have:=hc.bN i
   show ak w (Av st.obj β) β _ _
   simpa only[ay,hi,if_false] using this,hc.aB,hc.fresh,hc.sep,hc.gr,hc.bars⟩
theorem Rel.mV {w0:World} {S:Own} {st:St} {a:Act} {w:World} (h:Rel w0 S st a w) {s:Nat} {g:Bool} (hs:st.get s= .bool g):a.tmps.getD s undef= .bool g:=by
 obtain⟨β,φ,hc⟩:=h.core
 have:=hc.bN s
 rw[hs] at this
 simpa only[ak] using this
theorem a_ {P:Program} {Γ:Ctx} {ops:Array Oper} {gs:List Nat} {jN:List cg→Bool} :∀(rest:List Oper) (i:Nat) (acc:List cg) (st:St),(aT P Γ ops gs jN rest i acc st).ok=true→
  Tr st (aT P Γ ops gs jN rest i acc st)
 | [],i,acc,st,h=>by
  simp only[aT] at h ⊢
  simp only[fT] at h
  exact⟨rfl,h.1,fun _ _=>rfl,fun _ h=>h,fun _ _ h _=>h,fun _ h=>h⟩
 | o::rest,i,acc,st,h=>by
  rw[aT] at h ⊢
  split
  ·rename_i hw;simp [hw,aY] at h
  ·rename_i hw
   simp only[hw] at h
   have h1:=a_ rest _ _ _ h
   exact (BB h1.ok).trans h1
  ·rename_i hw
   simp only[hw] at h
   have plain:(aT P Γ ops gs jN rest (i+1) (acc++[bw P Γ ops i st o]) (st.cj P Γ o)).ok=true→Tr st (aT P Γ ops gs jN rest (i+1) (acc++[bw P Γ ops i st o]) (st.cj P Γ o)):=by
    intro h'
    have h1:=a_ rest _ _ _ h'
    exact (C8 h1.ok).trans h1
   split
   ·rename_i hd
    simp only[hd] at h
    exact plain h
   ·rename_i s hd
    simp only[hd] at h
    cases hm:gT s gs
    ·simp only[hm,cond_false] at h ⊢
     exact plain h
    ·simp only[hm,cond_true] at h ⊢
     split
     ·rename_i g hg
      simp only[hg] at h
      have Dh:(st.cj P Γ o).ok=true:=by
       have h':=h
       simp only[merge,EH] at h'
       cases g with
       | true=>simp only[cond_true] at h';exact (a_ rest _ _ _ h').ok
       | false=>simp only[cond_false] at h';exact (a_ rest _ _ _ h').ok
      exact (C8 Dh).trans (BD Dh h)
     ·rename_i hg
      have h':(aT P Γ ops gs jN rest (i+1) (acc++[bw P Γ ops i st o]) (st.cj P Γ o)).ok=true:=by
       revert h
       split
       ·rename_i g Hm;exact absurd Hm (hg g)
       ·exact id
      exact plain h'
end Go.Proofs.YtngbcccnjiaddaaGreat.Vm
set_option linter.unusedVariables false
set_option linter.unusedSimpArgs false
namespace Go.Proofs.YtngbcccnjiaddaaGreat.Vm
theorem iR {ds l:List Nat} (h:lW ds l=true):∀i∈l,i / 64 ∉ ds:=by
 induction l with
 | nil=>simp
 | cons k l ih=>
  simp only[lW,Bool.and_eq_true,Bool.not_eq_true'] at h
  intro i hi
  rcases List.mem_cons.1 hi with rfl | hi
  ·intro hm
   rw[fM.2 hm] at h
   simp at h
  ·exact ih h.2 i hi
theorem FA {l:List (Nat×SV)} {i:Nat} :iO l i= .eY∨∃x∈l,iO l i=x.2:=by
 induction l with
 | nil=>exact .inl rfl
 | cons y l ih=>
  obtain⟨k,s⟩:=y
  simp only[iO]
  cases Nat.beq k i
  ·rcases ih with h | ⟨x,hx,h⟩
   ·exact .inl h
   ·exact .inr ⟨x,List.mem_cons_of_mem _ hx,h⟩
  ·exact .inr ⟨_,List.mem_cons_self ..,rfl⟩
theorem CX {l:List (Nat×ai)} {i:Nat} {ob:ai} (h:de l i=some ob):(i,ob)∈l:=by
 induction l with
 | nil=>simp [de] at h
 | cons y l ih=>
  obtain⟨k,s⟩:=y
  simp only[de] at h
  cases hk:Nat.beq k i
  ·simp only[hk,cond_false] at h
   exact List.mem_cons_of_mem _ (ih h)
  ·simp only[hk,cond_true,Option.some.injEq] at h
   rw[Nat.eq_of_beq_eq_true hk,h]
   exact List.mem_cons_self ..
theorem AZ {ds:List Nat} {st:St} (h:dU ds st=true):∀d∈ds,bC st d:=by
 intro d hd
 simp only[dU,Bool.and_eq_true,List.all_eq_true] at h
 constructor
 ·intro i j hj
  rcases FA (l:=st.sl) (i:=i) with h0 | ⟨x,hx,h0⟩
  ·have:st.get i= .eY:=h0
   rw[this] at hj
   simp [bH] at hj
  ·have:st.get i=x.2:=h0
   rw[this] at hj
   exact fun e=>iR (h.1 x hx) j hj (e ▸ hd)
 ·intro j ob hj
  have hm:=h.2 _ (CX hj)
  refine⟨fun e=>iR hm j (List.mem_cons_self ..) (e ▸ hd),fun k hk e=>iR hm k (List.mem_cons_of_mem _ hk) (e ▸ hd)⟩
section
variable {P:Program} {Γ:Ctx} {w0:World} {S:Own} {ops:Array Oper} {gs:List Nat}
theorem lD {st:St} {o:Oper} (h:(st.cj P Γ o).ok=true):∃e s r,(evalOp P Γ o).run st.get st.obj=some (e,s,r)∧jd o.dst e st=true∧st.cj P Γ o=st.apply o.dst e:=by
 unfold St.cj at h ⊢
 split at h
 ·rename_i e r hr
  obtain⟨s,r⟩:=r
  cases hf:jd o.dst e st
  ·simp [hf,aY] at h
  ·exact⟨e,s,r,hr,hf,by simp [hr,hf]⟩
 ·simp [aY] at h
theorem mE (d_:bt P Γ) {st:St} {o:Oper} {a:Act} {w:World} (hR:Rel w0 S st a w) (h:(st.cj P Γ o).ok=true) (Q:Exit→Act→World→Prop):
  o.wp P a w (fun a' w'=>∃v,a'=a.put o.dst v∧Rel w0 S (st.cj P Γ o) a' w') Q:=by
 obtain⟨e,s,r,hr,hf,he⟩:=lD h
 rw[he] at h ⊢
 simp only[St.apply,fT] at h
 refine Bk d_ hR (M.dP _ hr) h.1.2 (fun d hd=> ?_) (fun how d hd=> ?_) Q
 ·have:=h.2
  rw[hd] at this
  exact kY this
 ·unfold jd at hf
  rw[hd] at hf
  split at hf
  ·rename_i d' _ HP
   injection HP with HP
   subst HP
   exact AZ hf d (List.mem_singleton.2 rfl)
  ·rename_i A8
   cases hw:e.ow with
   | nil=>exact absurd hw how
   | cons x l=>exact (A8 x l d hw rfl).elim
theorem kd {st:St} {o:Oper} {a:Act} {w:World} {b:Bool} (hR:Rel w0 S st a w) (h:eV ops st o=some b):Region.wanted o (yielded ops a.tmps)=b:=by
 obtain⟨β,φ,hc⟩:=hR.core
 unfold eV at h
 unfold Region.wanted
 split at h
 ·rename_i hg
  simp only[hg]
  simpa using h
 ·rename_i j want hg
  simp only[hg]
  split at h
  ·cases h
  ·rename_i s hs
   have jW:=hc.bN s
   split at h
   ·rename_i b' ax
    rw[ax] at jW
    simp only[ak] at jW
    have:a.tmps[s]? =some (.bool b'):=by
     rw[Array.getD_eq_getD_getElem?] at jW
     cases hq:a.tmps[s]? with
     | none=>rw[hq] at jW;simp [undef] at jW
     | some v=>rw[hq] at jW;simpa using jW
    simp only[yielded,hs,Option.bind_some,this]
    have h:=Option.some.inj h
    rw[←h]
    rfl
   ·rename_i ax
    rw[ax] at jW
    simp only[ak] at jW
    have:∀c,a.tmps[s]? ≠some (.bool c):=by
     intro c hq
     rw[Array.getD_eq_getD_getElem?,hq] at jW
     simp [undef] at jW
    have hy:yielded ops a.tmps j=none:=by
     unfold yielded
     rw[hs]
     simp only[Option.bind_some]
    rw[hy]
    have h:=Option.some.inj h
    rw[←h]
    rfl
   ·cases h
theorem EL {st:St} {o:Oper} {a:Act} {w:World} (hR:Rel w0 S st a w) (h:(st.skip o.dst).ok=true):Rel w0 S (st.skip o.dst) (a.put o.dst undef) w:=by
 obtain⟨β,φ,hc⟩:=hR.core
 refine ie hR (fun d hd=> ?_) hR.kept ⟨β,φ,hc,by simp [ak]⟩
 simp only[St.skip,St.apply,fT] at h
 have:=h.2
 rw[hd] at this
 exact kY this
theorem Rel.Gd {st:St} {a:Act} {w:World} (hR:Rel w0 S st a w) (b:Bool):Rel w0 S {st with ok:=b} a w:=⟨hR.size,hR.fx,hR.defers,hR.kept,hR.core⟩
theorem cF {pre a b:St} {g:Bool} (h:(merge pre g a b).ok=true):(g=true→a.ok=true)∧(g=false→b.ok=true):=by
 simp only[merge,EH] at h
 cases g
 ·exact⟨by simp,fun _=>h⟩
 ·exact⟨fun _=>h,by simp⟩
theorem dT (d_:bt P Γ) {jN:List cg→Bool} {Q:Exit→Act→World→Prop} :∀(rest:List Oper) (i:Nat) (acc:List cg) (st:St) (a:Act) (w:World),Rel w0 S st a w→
  (aT P Γ ops gs jN rest i acc st).ok=true→(∀a' w',Rel w0 S (aT P Γ ops gs jN rest i acc st) a' w'→Q .normal a' w')→wpList P ops Q rest a w
 | [],i,acc,st,a,w,hR,aF,hQ=>by
  simp only[aT] at hQ
  exact hQ a w (hR.Gd _)
 | o::rest,i,acc,st,a,w,hR,aF,hQ=>by
  rw[aT] at aF hQ
  cases hw:eV ops st o with
  | none=>simp [hw,aY] at aF
  | some b=>
   simp only[hw] at aF hQ
   have mN:=kd hR hw
   unfold wpList
   cases b with
   | false=>
    rw[if_neg (by rw[mN];simp)]
    simp only at aF hQ
    exact dT d_ rest _ _ _ _ w (EL hR (a_ rest _ _ _ aF).ok) aF hQ
   | true=>
    rw[if_pos mN]
    simp only at aF hQ
    refine .inl ?_
    have plain:(aT P Γ ops gs jN rest (i+1) (acc++[bw P Γ ops i st o]) (st.cj P Γ o)).ok=true→
      (∀a' w',Rel w0 S (aT P Γ ops gs jN rest (i+1) (acc++[bw P Γ ops i st o]) (st.cj P Γ o)) a' w'→Q .normal a' w')→o.wp P a w (wpList P ops Q rest) Q:=by
     intro h1 h2
     have hd:=(a_ rest _ _ _ h1).ok
     refine Oper.wp_mono ?_ (mE d_ hR hd Q)
     rintro a' w' ⟨v,rfl,d7⟩
     exact dT d_ rest _ _ _ _ w' d7 h1 h2
    split at aF
    ·rename_i hd
     simp only[hd] at hQ
     exact plain aF hQ
    ·rename_i s hd
     simp only[hd] at hQ
     cases hm:gT s gs
     ·simp only[hm,cond_false] at aF hQ
      exact plain aF hQ
     ·simp only[hm,cond_true] at aF hQ
      split at aF
      ·rename_i g hg
       simp only[hg] at hQ
       have lf:=cF aF
       have Dh:(st.cj P Γ o).ok=true:=by
        cases g with
        | true=>exact (a_ rest _ _ _ (lf.1 rfl)).ok
        | false=>exact (a_ rest _ _ _ (lf.2 rfl)).ok
       refine Oper.wp_mono ?_ (mE d_ hR Dh Q)
       rintro a' w' ⟨v,rfl,d7⟩
       have dF:=d7.mV hg
       cases g with
       | true=>
        have hy:=lf.1 rfl
        refine dT d_ rest (i+1) (acc++[bw P Γ ops i st o]) ((st.cj P Γ o).reset.fq s true) _ w' (d7.reset.fq dF) hy ?_
        intro Jf Kq Jm
        exact hQ Jf Kq (fO (fun _=>⟨(jF (st:=(st.cj P Γ o).reset) Dh).trans (a_ rest _ _ _ hy),Jm⟩) (by simp) aF)
       | false=>
        have hn:=lf.2 rfl
        refine dT d_ rest (i+1) (acc++[bw P Γ ops i st o]) ((st.cj P Γ o).reset.fq s false) _ w' (d7.reset.fq dF) hn ?_
        intro Jf Kq Jm
        exact hQ Jf Kq (fO (by simp) (fun _=>⟨(jF (st:=(st.cj P Γ o).reset) Dh).trans (a_ rest _ _ _ hn),Jm⟩) aF)
      ·rename_i hg
       have Lg:∀a' w',Rel w0 S (aT P Γ ops gs jN rest (i+1) (acc++[bw P Γ ops i st o]) (st.cj P Γ o)) a' w'→Q .normal a' w':=by
        revert hQ
        split
        ·rename_i g Hm;exact absurd Hm (hg g)
        ·exact id
       exact plain aF Lg
theorem mY {draw:Bool} {st:St} (h:(bJ P Γ ops draw st).ok=true):Tr st (bJ P Γ ops draw st):=by
 unfold bJ at h ⊢
 cases draw
 ·simp only[cond_false] at h ⊢
  exact a_ _ _ _ _ h
 ·simp only[cond_true] at h ⊢
  cases hf:dU (kJ ops.toList) st && fU ops.toList 0 && P.follows .mixedOrders
  ·simp [hf,aY] at h
  ·simp only[hf,cond_true] at h ⊢
   exact a_ _ _ _ _ h
theorem Cp (d_:bt P Γ) {st:St} {a:Act} {w:World} {id:Nat} {Q:Exit→Act→World→Prop} (hR:Rel w0 S st a w) (h:(bJ P Γ ops false st).ok=true)
  (hQ:∀a' w',Rel w0 S (bJ P Γ ops false st) a' w'→Q .normal a' w'):(Code.region id ops false).wp P Q a w:=by
 unfold bJ at h hQ
 simp only[cond_false] at h hQ
 exact wp_region_list (dT d_ _ _ _ _ a w hR h hQ)
end
end Go.Proofs.YtngbcccnjiaddaaGreat.Vm
set_option linter.unusedVariables false
set_option linter.unusedSimpArgs false
namespace Go.Proofs.YtngbcccnjiaddaaGreat.Vm
theorem M.j6 {α:Type} {f f':Nat→SV} {h h':Nat→Option ai} :∀(m:M α) {a:α} {s o:List Nat},m.run f h=some (a,s,o)→(∀i∈s,f' i=f i)→(∀i∈o,h' i=h i)→m.run f' h'=some (a,s,o)
 | .pure a,_,_,_,e,_,_=>by simpa [M.run] using e
 | .fail,_,_,_,e,_,_=>by simp [M.run] at e
 | .slot i k,a,s,o,e,hs,ho=>by
  simp only[M.run] at e ⊢
  split at e
  ·rename_i b s' o' hk
   simp only[Option.some.injEq,Prod.mk.injEq] at e
   obtain⟨rfl,rfl,rfl⟩:=e
   rw[hs i (List.mem_cons_self ..),M.j6 (k (f i)) hk (fun j hj=>hs j (List.mem_cons_of_mem _ hj)) ho]
  ·cases e
 | .obj i k,a,s,o,e,hs,ho=>by
  simp only[M.run] at e ⊢
  split at e
  ·rename_i x hx
   split at e
   ·rename_i b s' o' hk
    simp only[Option.some.injEq,Prod.mk.injEq] at e
    obtain⟨rfl,rfl,rfl⟩:=e
    rw[ho i (List.mem_cons_self ..),hx]
    simp only
    rw[M.j6 (k x) hk hs (fun j hj=>ho j (List.mem_cons_of_mem _ hj))]
   ·cases e
  ·cases e
structure PS where
 i:Nat
 o:Oper
 run:Bool
 st:St
 e:cB
 log:cg
def PS.f (p:PS) (s:Nat) (v:SV):SV:=if p.o.dst=some s then p.e.sv else v
def FB:List (Nat×Option ai)→Nat→Option (Option ai)
 | [],_=>none
 | (i,x)::l,j=>if j=i then some x else FB l j
def DT (cw:Option (Nat×Nat×List SV)) (id:Nat) (v:Option ai):Option ai:=
 match cw with
 | some (i,off,bE)=>if id=i then (match v with | some (.box t cells)=>some (.box t (cr cells off bE)) | o=>o) else v
 | none=>v
def PS.h (p:PS) (id:Nat) (v:Option ai):Option ai:=
 match FB p.e.ow id with
 | some x=>x
 | none=>DT p.e.cw id v
theorem Hz (cw:Option (Nat×Nat×List SV)) (h:Nat→Option ai) (id:Nat):fc cw h id=DT cw id (h id):=by
 cases cw with
 | none=>rfl
 | some x=>
  obtain⟨i,off,bE⟩:=x
  simp only[fc,DT]
  by_cases hi:id=i
  ·subst hi
   rw[if_pos rfl]
   cases hh:h id with
   | none=>simp [hh]
   | some b=>cases b<;>simp [ay,hh]
  ·rw[if_neg hi]
   cases h i with
   | none=>rfl
   | some b=>cases b<;>simp [ay,hi]
theorem HA (ow:List (Nat×Option ai)) (h:Nat→Option ai) (id:Nat):fo ow h id=match FB ow id with | some x=>x | none=>h id:=by
 induction ow with
 | nil=>rfl
 | cons x l ih=>
  obtain⟨i,ob⟩:=x
  simp only[fo,ay,FB]
  split
  ·rfl
  ·exact ih
theorem i6 (st:St) (p:PS) (id:Nat):(st.apply p.o.dst p.e).obj id=p.h id (st.obj id):=by
 rw[eC,HA]
 unfold PS.h
 rw[Hz]
theorem kX (st:St) (p:PS) (s:Nat):(st.apply p.o.dst p.e).get s=p.f s (st.get s):=by
 unfold PS.f
 cases hd:p.o.dst with
 | none=>simp [gy]
 | some d=>
  rw[apply_get]
  simp only[ay,Option.some.injEq]
  by_cases hs:s=d
  ·simp [hs]
  ·rw[if_neg hs,if_neg (fun h:d=s=>hs h.symm)]
inductive Path (P:Program) (Γ:Ctx) (ops:Array Oper) (gs:List Nat):List Oper→Nat→St→List PS→St→Prop where
 | nil (i:Nat) (st:St):Path P Γ ops gs [] i st [] st
 | skip (o:Oper) (rest:List Oper) (i:Nat) (st:St) (l:List PS) (fin:St) (hw:eV ops st o=some false) (aF:(st.skip o.dst).ok=true) (h:Path P Γ ops gs rest (i+1) (st.skip o.dst) l fin):
   Path P Γ ops gs (o::rest) i st (⟨i,o,false,st, {sv:= .undef},iq ops i o⟩::l) fin
 | op (o:Oper) (rest:List Oper) (i:Nat) (st:St) (l:List PS) (fin:St) (e:cB) (hw:eV ops st o=some true) (aF:(st.cj P Γ o).ok=true) (he:st.cj P Γ o=st.apply o.dst e)
   (hr:∃s r,(evalOp P Γ o).run st.get st.obj=some (e,s,r)) (h:Path P Γ ops gs rest (i+1) (st.cj P Γ o) l fin):
   Path P Γ ops gs (o::rest) i st (⟨i,o,true,st,e,bw P Γ ops i st o⟩::l) fin
 | Jc (o:Oper) (rest:List Oper) (i:Nat) (st:St) (l:List PS) (fin:St) (e:cB) (s:Nat) (g:Bool) (hw:eV ops st o=some true) (aF:(st.cj P Γ o).ok=true) (he:st.cj P Γ o=st.apply o.dst e)
   (hr:∃s r,(evalOp P Γ o).run st.get st.obj=some (e,s,r)) (hd:o.dst=some s) (hg:e.sv= .bool g) (h:Path P Γ ops gs rest (i+1) ((st.cj P Γ o).reset.fq s g) l fin):
   Path P Γ ops gs (o::rest) i st (⟨i,o,true,st, {e with sv:= .kb g},bw P Γ ops i st o⟩::l) fin
section
variable {P:Program} {Γ:Ctx} {w0:World} {S:Own} {ops:Array Oper} {gs:List Nat}
theorem ek {jN:List cg→Bool} :∀(rest:List Oper) (i:Nat) (acc:List cg) (st:St),(aT P Γ ops gs jN rest i acc st).ok=true→
  ∃l fin,Path P Γ ops gs rest i st l fin∧fin.ok=true∧jN (acc++l.map (·.log))=true∧∀(w0:World) (S:Own) (a:Act) (w:World),Rel w0 S fin a w→Rel w0 S (aT P Γ ops gs jN rest i acc st) a w
 | [],i,acc,st,aF=>by
  simp only[aT,fT] at aF ⊢
  exact⟨[],st,.nil i st,aF.1,by simpa using aF.2,fun w0 S a w h=>h.Gd _⟩
 | o::rest,i,acc,st,aF=>by
  rw[aT] at aF ⊢
  cases hw:eV ops st o with
  | none=>simp [hw,aY] at aF
  | some b=>
   simp only[hw] at aF ⊢
   cases b with
   | false=>
    simp only at aF ⊢
    obtain⟨l,fin,h1,h2,h3,h4⟩:=ek rest _ _ _ aF
    exact⟨_,fin,.skip o rest i st l fin hw (a_ rest _ _ _ aF).ok h1,h2,by simpa using h3,h4⟩
   | true=>
    simp only at aF ⊢
    have plain:(aT P Γ ops gs jN rest (i+1) (acc++[bw P Γ ops i st o]) (st.cj P Γ o)).ok=true→
      ∃l fin,Path P Γ ops gs (o::rest) i st l fin∧fin.ok=true∧jN (acc++l.map (·.log))=true∧∀(w0:World) (S:Own) (a:Act) (w:World),Rel w0 S fin a w→
       Rel w0 S (aT P Γ ops gs jN rest (i+1) (acc++[bw P Γ ops i st o]) (st.cj P Γ o)) a w:=by
     intro h1
     have hd:=(a_ rest _ _ _ h1).ok
     obtain⟨l,fin,g1,g2,g3,g4⟩:=ek rest _ _ _ h1
     obtain⟨e,s,r,hr,_,he⟩:=lD hd
     exact⟨_,fin,.op o rest i st l fin e hw hd he ⟨s,r,hr⟩ g1,g2,by simpa using g3,g4⟩
    split at aF
    ·rename_i hd
     exact plain aF
    ·rename_i s hd
     cases hm:gT s gs
     ·simp only[hm,cond_false] at aF ⊢
      exact plain aF
     ·simp only[hm,cond_true] at aF ⊢
      split at aF
      ·rename_i g hg
       have lf:=cF aF
       have IW:∀b:Bool,g=b→(aT P Γ ops gs jN rest (i+1) (acc++[bw P Γ ops i st o]) ((st.cj P Γ o).reset.fq s b)).ok=true:=by
        rintro b rfl
        cases g with
        | true=>exact lf.1 rfl
        | false=>exact lf.2 rfl
       have Jv:=(a_ rest _ _ _ (IW g rfl)).ok
       have IY:(st.cj P Γ o).ok=true:=Jv
       obtain⟨l,fin,g1,g2,g3,g4⟩:=ek rest (i+1) (acc++[bw P Γ ops i st o]) _ (IW g rfl)
       obtain⟨e,s',r,hr,_,he⟩:=lD IY
       have fY:e.sv= .bool g:=by
        rw[he,hd,apply_get] at hg
        simpa [ay] using hg
       refine⟨_,fin,.Jc o rest i st l fin e s g hw IY he ⟨s',r,hr⟩ hd fY g1,g2,by simpa using g3,fun w0 S a w hR=> ?_⟩
       have d7:=g4 w0 S a w hR
       refine fO (fun Ho=> ?_) (fun Lw=> ?_) aF
       ·subst Ho
        exact⟨(jF (st:=(st.cj P Γ o).reset) IY).trans (a_ rest _ _ _ (IW true rfl)),d7⟩
       ·subst Lw
        exact⟨(jF (st:=(st.cj P Γ o).reset) IY).trans (a_ rest _ _ _ (IW false rfl)),d7⟩
      ·rename_i hg
       exact plain aF
def ki (L:Nat→Bool) (l:List PS) (s:Nat) (v:SV):SV:=l.foldl (fun v p=>if L p.i then p.f s v else v) v
def kj (L:Nat→Bool) (l:List PS) (id:Nat) (v:Option ai):Option ai:=l.foldl (fun v p=>if L p.i then p.h id v else v) v
def PS.tF (p:PS) (s:Nat):Prop:=p.o.dst=some s
def PS.tH (p:PS) (id:Nat):Prop:=id∈p.e.ow.map (·.1)∨∃off bE,p.e.cw=some (id,off,bE)
theorem PS.Hy {p:PS} {s:Nat} (h:¬p.tF s) (v:SV):p.f s v=v:=by unfold PS.f PS.tF at*;rw[if_neg h]
theorem EC {ow:List (Nat×Option ai)} {id:Nat} (h:id ∉ ow.map (·.1)):FB ow id=none:=by
 induction ow with
 | nil=>rfl
 | cons x l ih=>
  obtain⟨i,ob⟩:=x
  simp only[List.map_cons,List.mem_cons,not_or] at h
  simp only[FB]
  rw[if_neg h.1]
  exact ih h.2
theorem PS.HD {p:PS} {id:Nat} (h:¬p.tH id) (v:Option ai):p.h id v=v:=by
 unfold PS.tH at h
 simp only[not_or] at h
 unfold PS.h
 rw[EC h.1]
 simp only
 unfold DT
 split
 ·rename_i i off bE kn
  by_cases hi:id=i
  ·subst hi
   exact absurd ⟨off,bE,kn⟩ h.2
  ·rw[if_neg hi]
 ·rfl
theorem eD {α:Type} (step:PS→α→α) {L:Nat→Bool} :∀(l:List PS) (v:α),(∀q∈l,L q.i=false)→l.foldl (fun v q=>if L q.i then step q v else v) v=v
 | [],v,_=>rfl
 | z::l,v,h=>by
  simp only[List.foldl_cons,h z (List.mem_cons_self ..),Bool.false_eq_true,if_false]
  exact eD step l v (fun q hq=>h q (List.mem_cons_of_mem _ hq))
section HB
variable {α:Type} (step:PS→α→α) (T:PS→Prop)
theorem fold_congr (db:∀p v,¬T p→step p v=v) {L L':Nat→Bool} :∀(l:List PS) (v:α),(∀p∈l,T p→L p.i=L' p.i)→
  l.foldl (fun v p=>if L p.i then step p v else v) v=l.foldl (fun v p=>if L' p.i then step p v else v) v
 | [],v,_=>rfl
 | p::l,v,h=>by
  simp only[List.foldl_cons]
  have:(if L p.i then step p v else v)=if L' p.i then step p v else v:=by
   by_cases ht:T p
   ·rw[h p (List.mem_cons_self ..) ht]
   ·rw[db p v ht]
    simp
  rw[this]
  exact fold_congr db l _ (fun q hq=>h q (List.mem_cons_of_mem _ hq))
theorem gE (db:∀p v,¬T p→step p v=v) {L:Nat→Bool} {q:PS} :∀(l:List PS) (v:α),q∈l→(l.map (·.i)).Nodup→L q.i=false→l.Pairwise (fun a b=>a.i<b.i)→(∀p∈l,q.i<p.i→T q→T p→L p.i=false)→
  l.foldl (fun v p=>if (L p.i || p.i==q.i) then step p v else v) v=step q (l.foldl (fun v p=>if L p.i then step p v else v) v)
 | [],v,hq,_,_,_,_=>by simp at hq
 | p::l,v,hq,hn,hL,hp,A8=>by
  simp only[List.foldl_cons]
  simp only[List.map_cons,List.nodup_cons] at hn
  rw[List.pairwise_cons] at hp
  rcases List.mem_cons.1 hq with rfl | KK
  ·simp only[hL,beq_self_eq_true,Bool.or_true,if_true,Bool.false_eq_true,if_false]
   have e1:l.foldl (fun v p=>if (L p.i || p.i==q.i) then step p v else v) (step q v)=l.foldl (fun v p=>if L p.i then step p v else v) (step q v):=by
    refine fold_congr step T db (L:=fun k=>L k || k==q.i) (L':=L) l _ (fun r hr _=> ?_)
    have:r.i≠q.i:=fun e=>hn.1 (e ▸ List.mem_map_of_mem hr)
    simp [this]
   rw[e1]
   by_cases ht:T q
   ·have e2:∀u,l.foldl (fun v p=>if L p.i then step p v else v) u=u:=by
     intro u
     have:=fold_congr step T db (L:=L) (L':=fun _=>false) l u (fun r hr LN=>A8 r (List.mem_cons_of_mem _ hr) (hp.1 r hr) ht LN)
     rw[this]
     exact eD step (L:=fun _=>false) l u (fun _ _=>rfl)
    rw[e2,e2]
   ·rw[db q v ht,db q _ ht]
  ·have cm:p.i≠q.i:=fun e=>hn.1 (e ▸ List.mem_map_of_mem KK)
   have:(if (L p.i || p.i==q.i) then step p v else v)=if L p.i then step p v else v:=by simp [cm]
   rw[this]
   exact gE db l _ KK hn.2 hL hp.2 (fun r hr=>A8 r (List.mem_cons_of_mem _ hr))
end HB
theorem b_:∀ {rest:List Oper} {i:Nat} {st:St} {l:List PS} {fin:St},Path P Γ ops gs rest i st l fin→l.map (·.i)=List.range' i rest.length∧l.map (·.o)=rest∧(∀p∈l,p.log.i=p.i∧p.log.d=p.o.dst):=by
 intro rest i st l fin h
 induction h with
 | nil=>exact⟨rfl,rfl,by simp⟩
 | skip o rest i st l fin hw aF h ih=>
  refine⟨by simp [ih.1,List.range'_succ],by simp [ih.2.1],fun p hp=> ?_⟩
  rcases List.mem_cons.1 hp with rfl | hp
  ·exact⟨rfl,rfl⟩
  ·exact ih.2.2 p hp
 | op o rest i st l fin e hw aF he hr h ih=>
  refine⟨by simp [ih.1,List.range'_succ],by simp [ih.2.1],fun p hp=> ?_⟩
  rcases List.mem_cons.1 hp with rfl | hp
  ·obtain⟨s,r,hr⟩:=hr
   simp [bw,hr]
  ·exact ih.2.2 p hp
 | Jc o rest i st l fin e s g hw aF he hr hd hg h ih=>
  refine⟨by simp [ih.1,List.range'_succ],by simp [ih.2.1],fun p hp=> ?_⟩
  rcases List.mem_cons.1 hp with rfl | hp
  ·obtain⟨s,r,hr⟩:=hr
   simp [bw,hr]
  ·exact ih.2.2 p hp
def Dz (st:St) (l:List PS) (fin:St):Prop:=
 (∀p∈l,(∀s,p.st.get s=ki (fun k=>decide (k<p.i)) l s (st.get s))∧(∀id,p.st.obj id=kj (fun k=>decide (k<p.i)) l id (st.obj id))∧p.st.n=st.n)∧
  (∀s,fin.get s=ki (fun _=>true) l s (st.get s))∧(∀id,fin.obj id=kj (fun _=>true) l id (st.obj id))∧fin.n=st.n
theorem iG (p0:PS) {st IJ:St} {II:List Oper} {l':List PS} {Gr:St} {i:Nat} (hi:p0.i=i) (gN:p0.st=st) (hf:∀s,IJ.get s=p0.f s (st.get s)) (hh:∀id,IJ.obj id=p0.h id (st.obj id)) (hn:IJ.n=st.n)
  (dc:Path P Γ ops gs II (i+1) IJ l' Gr) (ih:Dz IJ l' Gr):Dz st (p0::l') Gr:=by
 have HY:=(b_ dc).1
 have D8:∀p∈l',i+1≤p.i:=by
  intro p hp
  have:p.i∈l'.map (·.i):=List.mem_map_of_mem hp
  rw[HY] at this
  exact (List.mem_range'_1.1 this).1
 refine⟨fun p hp=> ?_,fun s=> ?_,fun id=> ?_,ih.2.2.2.trans hn⟩
 ·rcases List.mem_cons.1 hp with rfl | hp
  ·have none_lt:∀q∈p::l',decide (q.i<p.i)=false:=by
    intro q hq
    rcases List.mem_cons.1 hq with rfl | hq
    ·simp
    ·have:=D8 q hq
     simp
     omega
   refine⟨fun s=> ?_,fun id=> ?_,by rw[gN]⟩
   ·have:=eD (fun q v=>PS.f q s v) (L:=fun k=>decide (k<p.i)) (p::l') (st.get s) none_lt
    rw[gN]
    exact this.symm
   ·have:=eD (fun q v=>PS.h q id v) (L:=fun k=>decide (k<p.i)) (p::l') (st.obj id) none_lt
    rw[gN]
    exact this.symm
  ·have h0:=D8 p hp
   have cd:decide (p0.i<p.i)=true:=by simp;omega
   obtain⟨g1,g2,g3⟩:=ih.1 p hp
   refine⟨fun s=> ?_,fun id=> ?_,g3.trans hn⟩
   ·rw[g1 s,hf s]
    unfold ki
    simp only[List.foldl_cons,cd,if_true]
   ·rw[g2 id,hh id]
    unfold kj
    simp only[List.foldl_cons,cd,if_true]
 ·rw[ih.2.1 s,hf s]
  unfold ki
  simp only[List.foldl_cons,if_true]
 ·rw[ih.2.2.1 id,hh id]
  unfold kj
  simp only[List.foldl_cons,if_true]
theorem Ev {st:St} {o:Oper} {e:cB} {s:Nat} {g:Bool} (hd:o.dst=some s) (p:PS) (hp:p.o=o) (J6:p.e= {e with sv:= .kb g}) (k:Nat):(((st.apply o.dst e).reset).fq s g).get k=p.f k (st.get k):=by
 rw[lQ]
 have e1:(st.apply o.dst e).reset.get=(st.apply o.dst e).get:=rfl
 rw[e1,hd,apply_get]
 unfold PS.f
 rw[hp,hd,J6]
 simp only[ay,Option.some.injEq]
 by_cases hk:k=s
 ·simp [hk]
 ·rw[if_neg hk,if_neg hk,if_neg (fun h:s=k=>hk h.symm)]
theorem Ew {st:St} {o:Oper} {e:cB} {s:Nat} {g:Bool} (p:PS) (hp:p.o=o) (J6:p.e= {e with sv:= .kb g}) (id:Nat):(((st.apply o.dst e).reset).fq s g).obj id=p.h id (st.obj id):=by
 have e1:(((st.apply o.dst e).reset).fq s g).obj id=(st.apply p.o.dst p.e).obj id:=by
  rw[eC,J6]
  show (st.apply o.dst e).obj id=_
  rw[eC]
 rw[e1]
 exact i6 st p id
theorem kv {rest:List Oper} {i:Nat} {st:St} {l:List PS} {fin:St} (h:Path P Γ ops gs rest i st l fin):Dz st l fin:=by
 induction h with
 | nil=>exact⟨by simp,fun _=>rfl,fun _=>rfl,rfl⟩
 | skip o rest i st l fin hw aF h ih=>
  exact iG ⟨i,o,false,st, {sv:= .undef},iq ops i o⟩ rfl rfl (fun s=>kX st ⟨i,o,false,st, {sv:= .undef},iq ops i o⟩ s) (fun id=>i6 st ⟨i,o,false,st, {sv:= .undef},iq ops i o⟩ id) rfl h ih
 | op o rest i st l fin e hw aF he hr h ih=>
  refine iG ⟨i,o,true,st,e,bw P Γ ops i st o⟩ rfl rfl (fun s=> ?_) (fun id=> ?_) ?_ h ih
  ·rw[he];exact kX st ⟨i,o,true,st,e,bw P Γ ops i st o⟩ s
  ·rw[he];exact i6 st ⟨i,o,true,st,e,bw P Γ ops i st o⟩ id
  ·rw[he];rfl
 | Jc o rest i st l fin e s g hw aF he hr hd hg h ih=>
  refine iG ⟨i,o,true,st, {e with sv:= .kb g},bw P Γ ops i st o⟩ rfl rfl (fun s=> ?_) (fun id=> ?_) ?_ h ih
  ·rw[he];exact Ev hd ⟨i,o,true,st, {e with sv:= .kb g},bw P Γ ops i st o⟩ rfl rfl s
  ·rw[he];exact Ew ⟨i,o,true,st, {e with sv:= .kb g},bw P Γ ops i st o⟩ rfl rfl id
  ·rw[he];rfl
def iF (P:Program) (Γ:Ctx) (ops:Array Oper) (p:PS):Prop:=
 (eV ops p.st p.o=some false∧p.e= {sv:= .undef} ∧(p.st.skip p.o.dst).ok=true∧p.log=iq ops p.i p.o)∨
 (eV ops p.st p.o=some true∧∃e s r,(evalOp P Γ p.o).run p.st.get p.st.obj=some (e,s,r)∧(p.st.apply p.o.dst e).ok=true∧p.log=bw P Γ ops p.i p.st p.o∧
  (p.e=e∨∃d g,p.o.dst=some d∧e.sv= .bool g∧p.e= {e with sv:= .kb g}))
theorem Cn {rest:List Oper} {i:Nat} {st:St} {l:List PS} {fin:St} (h:Path P Γ ops gs rest i st l fin):∀p∈l,iF P Γ ops p:=by
 induction h with
 | nil=>simp
 | skip o rest i st l fin hw aF h ih=>
  intro p hp
  rcases List.mem_cons.1 hp with rfl | hp
  ·exact .inl ⟨hw,rfl,aF,rfl⟩
  ·exact ih p hp
 | op o rest i st l fin e hw aF he hr h ih=>
  intro p hp
  rcases List.mem_cons.1 hp with rfl | hp
  ·obtain⟨s,r,hr⟩:=hr
   exact .inr ⟨hw,e,s,r,hr,by rw[←he];exact aF,rfl,.inl rfl⟩
  ·exact ih p hp
 | Jc o rest i st l fin e s g hw aF he hr hd hg h ih=>
  intro p hp
  rcases List.mem_cons.1 hp with rfl | hp
  ·obtain⟨s',r,hr⟩:=hr
   exact .inr ⟨hw,e,s',r,hr,by rw[←he];exact aF,rfl,.inr ⟨s,g,hd,hg,rfl⟩⟩
  ·exact ih p hp
end
end Go.Proofs.YtngbcccnjiaddaaGreat.Vm
