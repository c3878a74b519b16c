/- Plain lemmas: wrapping numbers, rows of a list one after another. Conditions: none. -/
import Derived.Test.YthpmalpdnnbkgaaGreatPre
import Derived.IntWalk
set_option linter.unusedVariables false
namespace Go.Proofs.YthpmalpdnnbkgaaGreat.Pl
open Vm
theorem aiu (n:Int):w64 n=(n+9223372036854775808) % 18446744073709551616 - 9223372036854775808:=by
 unfold w64
 rw[IntKind.wrap_i64]
theorem d8 {n:Int} (h1: -9223372036854775808≤n) (h2:n≤9223372036854775807):w64 n=n:=by
 rw[aiu];omega
theorem alp:maxLen=9223372036854775807:=rfl
theorem Ex {n:Int} (h:WtC (.int .i64) (.int n)): -9223372036854775808≤n∧n≤9223372036854775807:=by
 simp only[WtC,DC.int.injEq] at h
 obtain⟨m,rfl,h⟩:=h
 simpa [inR,IntKind.min,IntKind.max,IntKind.signed,IntKind.bits] using h
theorem al5 {s:Bytes} (h:WtC .str (.str s)):s.length≤9223372036854775807:=by
 simp only[WtC,DC.str.injEq] at h
 obtain⟨m,rfl,h⟩:=h
 rw[alp] at h
 exact h
theorem cU {e:List CT} {r:Rows} (h:WtC (.sl e) (.sl r)):r.length≤9223372036854775807∧∀x∈r,WtL e x:=by
 simp only[WtC,DC.sl.injEq] at h
 obtain⟨m,rfl,h1,h2⟩:=h
 rw[alp] at h1
 exact⟨h1,h2⟩
theorem ah (x:Bool):ak true x=x:=by cases x<;>rfl
theorem ao (x:Bool):ak x true=x:=rfl
theorem ch {α:Type} {i:Nat} {l:List α} (h:i<l.length):decide ((i:Int)<len l)=true:=by
 exact decide_eq_true (by simp only[len];omega)
theorem aQ {α:Type} (l:List α):decide ((l.length:Int)<len l)=false:=by
 simp [len]
theorem bw {α:Type} {i:Nat} {l:List α} (h:i<l.length):idx (i:Int) l=true:=by
 simp only[idx,Bool.and_eq_true,decide_eq_true_eq];omega
theorem bu {α:Type} {i:Nat} {l:List α} (h:i<l.length) (hl:l.length≤9223372036854775807):w64 ((i:Int)+1)=(i:Int)+1:=by
 apply d8<;>omega
theorem eI {α:Type} {i:Nat} {l:List α} (h:i<l.length):inl i l=true:=by simpa [inl] using h
def u0 {α σ:Type} (step:Nat→List DC→(σ→α)→σ→α) (fin:σ→α):Rows→Nat→σ→α
 | [],_,s=>fin s
 | r::rs,i,s=>step i r (u0 step fin rs (i+1)) s
theorem aby {α σ:Type} (list:Rows) (L:Nat→Int→σ→α) (step:Nat→List DC→(σ→α)→σ→α) (fin:σ→α)
  (hs:∀n (i:Nat) s,i<list.length→L (n+1) (i:Int) s=step i (nth list i) (L n ((i:Int)+1)) s)
  (he:∀n s,L (n+1) (list.length:Int) s=fin s):
  ∀(n i:Nat) (s:σ),i≤list.length→list.length<n+i→L n (i:Int) s=u0 step fin (list.drop i) i s:=by
 intro n
 induction n with
 | zero=>intro i s h1 h2;omega
 | succ n ih=>
  intro i s h1 h2
  by_cases h:i<list.length
  ·rw[hs n i s h,List.drop_eq_getElem_cons h]
   simp only[u0]
   have:nth list i=list[i]:=by simp [nth,h]
   rw[this]
   have e:(fun s=>L n ((i:Int)+1) s)=u0 step fin (list.drop (i+1)) (i+1):=by
    funext s
    have:=ih (i+1) s (by omega) (by omega)
    simpa using this
   exact congrArg (fun k=>step i list[i] k s) e
  ·have:i=list.length:=by omega
   subst this
   rw[he,List.drop_eq_nil_of_le (Nat.le_refl _)]
   rfl
theorem HI {α σ:Type} (list:Rows) (L:Nat→Int→σ→α) (step:Nat→List DC→(σ→α)→σ→α) (fin:σ→α)
  (hs:∀n (i:Nat) s,i<list.length→L (n+1) (i:Int) s=step i (nth list i) (L n ((i:Int)+1)) s)
  (he:∀n s,L (n+1) (list.length:Int) s=fin s) (s:σ):L (list.length+1) 0 s=u0 step fin list 0 s:=by
 have:=aby list L step fin hs he (list.length+1) 0 s (Nat.zero_le _) (by omega)
 simpa using this
theorem dQ {α:Type} (list:Rows) (L:Nat→Int→α) (step:Nat→List DC→α→α) (fin:α)
  (hs:∀n (i:Nat),i<list.length→L (n+1) (i:Int)=step i (nth list i) (L n ((i:Int)+1)))
  (he:∀n,L (n+1) (list.length:Int)=fin):L (list.length+1) 0=u0 (σ:=Unit) (fun i r k s=>step i r (k s)) (fun _=>fin) list 0 ():=by
 have:=HI (σ:=Unit) list (fun n i _=>L n i) (fun i r k s=>step i r (k s)) (fun _=>fin) (fun n i _ h=>hs n i h) (fun n _=>he n) ()
 exact this
theorem Ft {α:Type} (p:List DC→Bool) (x y:α) (list:Rows) (i:Nat):
  u0 (σ:=Unit) (fun _ r c s=>bif !(p r) then x else c s) (fun _=>y) list i ()=bif list.all p then y else x:=by
 induction list generalizing i with
 | nil=>rfl
 | cons r rs ih=>
  simp only[u0,List.all_cons]
  cases hp:p r
  ·rfl
  ·simpa [hp] using ih (i+1)
theorem Dq {α:Type} (y:α) (list:Rows) (i:Nat):u0 (σ:=Unit) (fun _ _ c s=>c s) (fun _=>y) list i ()=y:=by
 induction list generalizing i with
 | nil=>rfl
 | cons r rs ih=>exact ih (i+1)
def abz {α σ:Type} (step:Nat→(σ→α)→σ→α) (fin:σ→α):Nat→Nat→σ→α
 | 0,_,s=>fin s
 | m+1,i,s=>step i (abz step fin m (i+1)) s
theorem Xv {α σ:Type} (m:Nat) (L:Nat→Int→σ→α) (step:Nat→(σ→α)→σ→α) (fin:σ→α)
  (hs:∀n (i:Nat) s,i<m→L (n+1) (i:Int) s=step i (L n ((i:Int)+1)) s)
  (he:∀n s,L (n+1) (m:Int) s=fin s):∀(n:Nat) (s:σ),m<n→L n 0 s=abz step fin m 0 s:=by
 have key:∀(k n i:Nat) (s:σ),i+k=m→k<n→L n (i:Int) s=abz step fin k i s:=by
  intro k
  induction k with
  | zero=>
   intro n i s h1 h2
   cases n with
   | zero=>omega
   | succ n=>
    have:i=m:=by omega
    subst this
    exact he n s
  | succ k ih=>
   intro n i s h1 h2
   cases n with
   | zero=>omega
   | succ n=>
    rw[hs n i s (by omega)]
    have e:(fun s=>L n ((i:Int)+1) s)=abz step fin k (i+1):=by
     funext s
     have:=ih n (i+1) s (by omega) (by omega)
     simpa using this
    exact congrArg (fun c=>step i c s) e
 intro n s h
 simpa using key m n 0 s (by omega) h
def sm (a:Rows):Bool:=decide (a.length≤16777216)
theorem qU {a:Rows} (h:sm a=true):a.length≤16777216:=of_decide_eq_true h
theorem Dr {a:Rows} {z:Nat} (h:sm a=true) (hz:z≤8388608):makeOk z (len a) (len a)=true:=by
 have h:=qU h
 have h2:a.length*z≤16777216*8388608:=Nat.mul_le_mul h hz
 simp only[makeOk,len,Int.toNat_natCast,Bool.and_eq_true]
 refine⟨⟨⟨decide_eq_true (by omega),decide_eq_true (by omega)⟩,decide_eq_true (by omega)⟩,decide_eq_true (by omega)⟩
open Classical in
noncomputable def same {α:Type} (a b:α):Bool:=decide (a=b)
theorem dU {α:Type} {a b:α} (h:same a b=true):a=b:= @of_decide_eq_true _ (Classical.propDecidable _) h
theorem cY {α:Type} (a:α):same a a=true:= @decide_eq_true _ (Classical.propDecidable _) rfl
theorem wO {α:Type} (a:Rows) (L:Nat→Int→Rows→α) (k:Rows→α) (z:List DC) (f:List DC→List DC→List DC)
  (hs:∀n (i:Nat) out,i<a.length→out.length=a.length→L (n+1) (i:Int) out=L n ((i:Int)+1) (out.set i (f (nth out i) (nth a i))))
  (he:∀n out,out.length=a.length→L (n+1) (a.length:Int) out=k out)
  (hf:∀r∈a,f z r=r):L (a.length+1) 0 (List.replicate a.length z)=k a:=by
 have key:∀(n i:Nat),i≤a.length→a.length<n+i→L n (i:Int) (a.take i++List.replicate (a.length - i) z)=k a:=by
  intro n
  induction n with
  | zero=>intro i h1 h2;omega
  | succ n ih=>
   intro i h1 h2
   by_cases h:i<a.length
   ·rw[hs n i _ h (by simp;omega)]
    have e1:nth (a.take i++List.replicate (a.length - i) z) i=z:=by
     simp only[nth]
     rw[List.getD_eq_getElem?_getD,List.getElem?_append_right (by simp;omega)]
     simp [Nat.min_eq_left h1,show 0<a.length - i by omega]
    have e2:nth a i=a[i]:=by simp [nth,h]
    rw[e1,e2,hf _ (List.getElem_mem h)]
    have e3:(a.take i++List.replicate (a.length - i) z).set i a[i]=a.take (i+1)++List.replicate (a.length - (i+1)) z:=by
     rw[List.set_append_right _ _ (by simp;omega)]
     rw[List.take_add_one,List.getElem?_eq_getElem h]
     simp only[List.length_take,Nat.min_eq_left h1,Nat.sub_self,Option.toList_some,List.append_assoc]
     congr 1
     rw[show a.length - i=(a.length - (i+1))+1 by omega,List.replicate_succ,List.set_cons_zero]
     rfl
    rw[e3]
    have:=ih (i+1) (by omega) (by omega)
    simpa using this
   ·have:i=a.length:=by omega
    subst this
    rw[he _ _ (by simp)]
    simp
 have:=key (a.length+1) 0 (Nat.zero_le _) (by omega)
 simpa using this
def cV {α β:Type} (_:α) (_:β):Bool:=true
def ca {α:Type} (a:α):α:=a
theorem eJ {α:Type} {c o:Bool} {x y bad:α} (h:o=true→x=y) (hok:(bif c then o else false)=true):(bif c then x else bad)=y:=by
 cases c
 ·cases hok
 ·exact h hok
def al6 (f:List DC→Int→Int):Rows→Int→Int
 | [],l=>l
 | r::rs,l=>bif decide (f r l<0) then -1 else al6 f rs (f r l)
def Kf (f:List DC→Int→Int) (a:Rows) (left:Int):Int:=
 bif decide (w64 (left - len a)<0) then -1 else al6 f a (w64 (left - len a))
theorem aoM {f:List DC→Int→Int} {P:List DC→Prop} :
  ∀(a:Rows) (l:Int),(∀r∈a,∀l,0≤l→l≤1048576→0≤f r l→f r l≤1048576∧P r)→0≤l→l≤1048576→0≤al6 f a l→al6 f a l≤1048576∧∀r∈a,P r
 | [],l,_,_,h,_=>⟨h,by simp⟩
 | r::rs,l,hf,h,h',h0=>by
  simp only[al6] at h0 ⊢
  by_cases hn:f r l<0
  ·simp [hn] at h0
  ·simp only[hn,decide_false,cond_false] at h0 ⊢
   have h1:=hf r (by simp) l h h' (by omega)
   have h2:=aoM rs (f r l) (fun r hr=>hf r (by simp [hr])) (by omega) h1.1 h0
   refine⟨h2.1,fun x hx=> ?_⟩
   rcases List.mem_cons.1 hx with rfl | hx
   ·exact h1.2
   ·exact h2.2 x hx
def cS {α:Type} (a:List α) (left:Int):Int:=bif decide (w64 (left - len a)<0) then -1 else w64 (left - len a)
theorem aiv {α:Type} {a:List α} {left:Int} (h1:0≤left) (h2:left≤1048576) (ha:a.length≤9223372036854775807):w64 (left - len a)=left - len a∧0≤len a:=by
 have hl:(0:Int)≤len a:=by simp [len]
 have hh:(len a)≤9223372036854775807:=by simp only[len];omega
 exact⟨d8 (by omega) (by omega),hl⟩
theorem pO {a:Rows} {left:Int} (h1:0≤left) (h2:left≤1048576) (ha:a.length≤9223372036854775807) (h0:0≤cS a left):cS a left≤1048576∧sm a=true:=by
 obtain⟨e,hl⟩:=aiv h1 h2 ha
 simp only[cS,e] at h0 ⊢
 by_cases hn:left - len a<0
 ·simp [hn] at h0
 ·simp only[hn,decide_false,cond_false] at h0 ⊢
  refine⟨by omega,decide_eq_true ?_⟩
  simp only[len] at hn
  omega
theorem PE {f:List DC→Int→Int} {P:List DC→Prop} {a:Rows} {left:Int} (hf:∀r∈a,∀l,0≤l→l≤1048576→0≤f r l→f r l≤1048576∧P r)
  (h1:0≤left) (h2:left≤1048576) (ha:a.length≤9223372036854775807) (h0:0≤Kf f a left):Kf f a left≤1048576∧sm a=true∧∀r∈a,P r:=by
 obtain⟨e,hl⟩:=aiv h1 h2 ha
 simp only[Kf,e] at h0 ⊢
 by_cases hn:left - len a<0
 ·simp [hn] at h0
 ·simp only[hn,decide_false,cond_false] at h0 ⊢
  have h3:=aoM a (left - len a) hf (by omega) (by omega) h0
  refine⟨h3.1,decide_eq_true ?_,h3.2⟩
  simp only[len] at hn
  omega
theorem alq {α:Type} (f:List DC→Int→Int) (k:Int→α):∀(a:Rows) (i:Nat) (l:Int),
  u0 (σ:=Int) (fun _ r c l=>bif decide (f r l<0) then k (-1) else c (f r l)) k a i l=k (al6 f a l)
 | [],_,_=>rfl
 | r::rs,i,l=>by
  simp only[u0,al6]
  cases hd:decide (f r l<0)
  ·simpa [hd] using alq f k rs (i+1) (f r l)
  ·rfl
theorem aq3 {k:IntKind} {r:List DC} (h:WtL [.int k] r):[.int (rI r 0)]=r:=by
 obtain⟨n,ds,rfl,_,h2⟩:=of_wt_int h
 obtain rfl:=of_wt_nil h2
 rfl
theorem apK {r:List DC} (h:WtL [.bool] r):[.bool (rB r 0)]=r:=by
 obtain⟨n,ds,rfl,_,h2⟩:=of_wt_bool h
 obtain rfl:=of_wt_nil h2
 rfl
theorem aoN {r:List DC} (h:WtL [.str] r):[.str (rS r 0)]=r:=by
 obtain⟨n,ds,rfl,_,h2⟩:=of_wt_str h
 obtain rfl:=of_wt_nil h2
 rfl
theorem gK {a:Rows} {i:Nat} (h:i<a.length):nth a i∈a:=by
 have:nth a i=a[i]:=by simp [nth,h]
 rw[this]
 exact List.getElem_mem h
theorem apL {α:Type} {c:Bool} {x y:α} (h:c=true):(bif c then x else y)=x:=by rw[h];rfl
theorem alr {g x y:Bool} (h1:g=true→x=true) (h2:g=false→y=true):RF g x y=true:=by
 cases g
 ·rw[al7];exact h2 rfl
 ·rw[al7];exact h1 rfl
theorem Ey (g:Bool):RF g true true=true:=rfl
def lA (p:Nat→List DC→Bool):Rows→Nat→Bool
 | [],_=>false
 | r::rs,i=>bif p i r then true else lA p rs (i+1)
theorem yB {α:Type} (p:Nat→List DC→Bool) (x y:α):∀(list:Rows) (i:Nat),
  u0 (σ:=Unit) (fun i r c s=>bif p i r then x else c s) (fun _=>y) list i ()=bif lA p list i then x else y
 | [],_=>rfl
 | r::rs,i=>by
  simp only[u0,lA]
  cases p i r
  ·exact yB p x y rs (i+1)
  ·rfl
def findIdx (p:Nat→List DC→Bool):Rows→Nat→Int
 | [],_=> -1
 | r::rs,i=>bif p i r then (i:Int) else findIdx p rs (i+1)
theorem UE {α:Type} (p:Nat→List DC→Bool) (k:Int→α):∀(list:Rows) (i:Nat),
  u0 (σ:=Unit) (fun i r c s=>bif p i r then k (i:Int) else c s) (fun _=>k (-1)) list i ()=k (findIdx p list i)
 | [],_=>rfl
 | r::rs,i=>by
  simp only[u0,findIdx]
  cases p i r
  ·exact UE p k rs (i+1)
  ·rfl
theorem al8 {α:Type} {a:List α} {left:Int} (ha:a.length≤9223372036854775807) (h1:0≤left) (h2:left≤1048576) (h0:0≤w64 (left - len a)):w64 (left - len a)≤1048576∧a.length≤1048576:=by
 obtain⟨e,hl⟩:=aiv h1 h2 ha
 rw[e] at h0 ⊢
 simp only[len] at h0 hl ⊢
 omega
theorem II {α β:Type} {c:Bool} {x y:α} {a b:β} {K:β→α} (h1:c=true→x=K a) (h2:c=false→y=K b):(bif c then x else y)=K (bif c then a else b):=by
 cases c
 ·exact h2 rfl
 ·exact h1 rfl
def itN {σ:Type} (f:Nat→σ→σ):Nat→Nat→σ→σ
 | 0,_,s=>s
 | m+1,i,s=>itN f m (i+1) (f i s)
def A9 (p:Nat→Bool):Nat→Nat→Bool
 | 0,_=>false
 | m+1,i=>bif p i then true else A9 p m (i+1)
theorem afA {α:Type} (p:Nat→Bool) (x y:α):∀(m i:Nat),abz (σ:=Unit) (fun i c s=>bif p i then x else c s) (fun _=>y) m i ()=bif A9 p m i then x else y
 | 0,_=>rfl
 | m+1,i=>by
  simp only[abz,A9]
  cases p i
  ·exact afA p x y m (i+1)
  ·rfl
theorem aiw (p:Nat→Bool):∀(m i:Nat),A9 p m (i+1)=A9 (fun j=>p (j+1)) m i
 | 0,_=>rfl
 | m+1,i=>by simp only[A9];rw[aiw p m (i+1)]
theorem aix {p q:Nat→Bool} :∀(m i:Nat),(∀j,i≤j→j<i+m→p j=q j)→A9 p m i=A9 q m i
 | 0,_,_=>rfl
 | m+1,i,h=>by
  simp only[A9]
  rw[h i (by omega) (by omega),aix m (i+1) (fun j h1 h2=>h j (by omega) (by omega))]
theorem UF (p:Nat→List DC→Bool):∀(list:Rows) (s i:Nat),i<list.length→p (s+i) (nth list i)=true→(findIdx p list s != ((s+i:Nat):Int))=A9 (fun j=>p (s+j) (nth list j)) i 0
 | [],_,_,h,_=>by simp at h
 | r::rs,s,0,_,h=>by
  have h:p s r=true:=h
  simp only[findIdx,h,cond_true,A9,Nat.add_zero,bne_self_eq_false]
 | r::rs,s,i+1,hi,h=>by
  have h2:p (s+1+i) (nth rs i)=true:=by
   rw[show s+1+i=s+(i+1) by omega]
   exact h
  have ih:=UF p rs (s+1) i (by simpa using hi) h2
  simp only[findIdx,A9]
  have e0:nth (r::rs) 0=r:=rfl
  rw[Nat.add_zero,e0]
  cases hp:p s r
  ·simp only[cond_false]
   rw[show ((s+(i+1):Nat):Int)=((s+1+i:Nat):Int) by omega,ih,aiw]
   apply aix
   intro j _ _
   rw[show s+1+j=s+(j+1) by omega]
   rfl
  ·simp only[cond_true]
   simp only[bne_iff_ne,ne_eq]
   omega
theorem tQ {α:Type} (list:Rows) (L:Nat→Int→α) (step:Nat→List DC→α→α) (fin:α)
  (hs:∀n (i:Nat),i<list.length→L (n+1) (i:Int)=step i (nth list i) (L n ((i:Int)+1)))
  (he:∀n,L (n+1) (list.length:Int)=fin) (n:Nat) (hn:list.length<n):L n 0=u0 (σ:=Unit) (fun i r k s=>step i r (k s)) (fun _=>fin) list 0 ():=by
 have:=aby (σ:=Unit) list (fun n i _=>L n i) (fun i r k s=>step i r (k s)) (fun _=>fin) (fun n i _ h=>hs n i h) (fun n _=>he n) n 0 () (Nat.zero_le _) (by omega)
 simpa using this
theorem Xw {p q:Nat→List DC→Bool} :∀(l:Rows) (s:Nat),(∀i,i<l.length→p (s+i) (nth l i)=q (s+i) (nth l i))→lA p l s=lA q l s
 | [],_,_=>rfl
 | r::rs,s,h=>by
  have h0:p s r=q s r:=h 0 (by simp)
  simp only[lA]
  have hh:∀i,i<rs.length→p (s+1+i) (nth rs i)=q (s+1+i) (nth rs i):=by
   intro i hi
   have h2:p (s+(i+1)) (nth rs i)=q (s+(i+1)) (nth rs i):=h (i+1) (by simp only[List.length_cons];omega)
   have e:s+1+i=s+(i+1):=by omega
   rw[e]
   exact h2
  rw[h0,Xw rs (s+1) hh]
def oh (f:Int→List DC) (c:Int):Nat→Int→Rows
 | 0,_=>[]
 | n+1,k=>f k::oh f c n (k+c)
theorem dH (f:Int→List DC) (c:Int):∀(n:Nat) (k:Int),(oh f c n k).length=n
 | 0,_=>rfl
 | n+1,k=>by simp only[oh,List.length_cons,dH f c n]
theorem am1 (f:Int→List DC) (c:Int):∀(n:Nat) (k:Int),oh f c (n+1) k=oh f c n k++[f (k+c*n)]
 | 0,k=>by simp [oh]
 | n+1,k=>by
  have:=am1 f c n (k+c)
  have e:k+c+c*(n:Int)=k+c*((n+1:Nat):Int):=by
   rw[show ((n+1:Nat):Int)=(n:Int)+1 by omega,Int.mul_add];omega
  rw[e] at this
  rw[oh,this]
  simp only[oh,List.cons_append]
theorem aoO (f:Int→List DC) (c:Int):∀(n i:Nat) (k:Int),i<n→nth (oh f c n k) i=f (k+c*i)
 | 0,i,k,h=>by omega
 | n+1,0,k,_=>by simp [oh,nth]
 | n+1,i+1,k,h=>by
  have:=aoO f c n i (k+c) (by omega)
  have e:k+c+c*(i:Int)=k+c*((i+1:Nat):Int):=by
   rw[show ((i+1:Nat):Int)=(i:Int)+1 by omega,Int.mul_add];omega
  rw[e] at this
  rw[oh]
  show nth (oh f c n (k+c)) i=_
  exact this
theorem yC {α:Type} (a0:Rows) (k0 c:Int) (f:Int→List DC) (L:Nat→Int→Int→Rows→α) (K:Int→Rows→α)
  (hs:∀n (i:Nat) a,i<a0.length→a.length=a0.length→nth a i=nth a0 i→L (n+1) (k0+c*i) (i:Int) a=L n (k0+c*i+c) ((i:Int)+1) (a.set i (f (k0+c*i))))
  (he:∀n a,a.length=a0.length→L (n+1) (k0+c*a0.length) (a0.length:Int) a=K (k0+c*a0.length) a):
  L (a0.length+1) k0 0 a0=K (k0+c*a0.length) (oh f c a0.length k0):=by
 have key:∀(n i:Nat),i≤a0.length→a0.length<n+i→L n (k0+c*i) (i:Int) (oh f c i k0++a0.drop i)=K (k0+c*a0.length) (oh f c a0.length k0):=by
  intro n
  induction n with
  | zero=>intro i h1 h2;omega
  | succ n ih=>
   intro i h1 h2
   by_cases h:i<a0.length
   ·have e1:nth (oh f c i k0++a0.drop i) i=nth a0 i:=by
     simp only[nth]
     rw[List.getD_eq_getElem?_getD,List.getD_eq_getElem?_getD,List.getElem?_append_right (by rw[dH];omega),dH]
     simp
    rw[hs n i _ h (by simp [dH];omega) e1]
    have e2:(oh f c i k0++a0.drop i).set i (f (k0+c*i))=oh f c (i+1) k0++a0.drop (i+1):=by
     rw[List.set_append_right _ _ (by rw[dH];omega),dH,Nat.sub_self,am1,List.drop_eq_getElem_cons h,List.set_cons_zero,List.append_assoc]
     rfl
    rw[e2]
    have:=ih (i+1) (by omega) (by omega)
    rw[show k0+c*((i+1:Nat):Int)=k0+c*i+c by rw[show ((i+1:Nat):Int)=(i:Int)+1 by omega,Int.mul_add];omega] at this
    simpa using this
   ·have:i=a0.length:=by omega
    subst this
    rw[he n _ (by simp [dH])]
    simp
 have:=key (a0.length+1) 0 (Nat.zero_le _) (by omega)
 simpa [oh] using this
theorem yD {α:Type} (a:Rows) (k0 c:Int) (f:Int→List DC) (L:Nat→Int→Int→α) (K:Int→α)
  (ha:a=oh f c a.length k0)
  (hs:∀n (i:Nat),i<a.length→nth a i=f (k0+c*i)→L (n+1) (k0+c*i) (i:Int)=L n (k0+c*i+c) ((i:Int)+1))
  (he:∀n,L (n+1) (k0+c*a.length) (a.length:Int)=K (k0+c*a.length)):
  L (a.length+1) k0 0=K (k0+c*a.length):=by
 have key:∀(n i:Nat),i≤a.length→a.length<n+i→L n (k0+c*i) (i:Int)=K (k0+c*a.length):=by
  intro n
  induction n with
  | zero=>intro i h1 h2;omega
  | succ n ih=>
   intro i h1 h2
   by_cases h:i<a.length
   ·have e1:nth a i=f (k0+c*i):=by
     have:=aoO f c a.length i k0 h
     rwa [←ha] at this
    rw[hs n i h e1]
    have:=ih (i+1) (by omega) (by omega)
    rw[show k0+c*((i+1:Nat):Int)=k0+c*i+c by rw[show ((i+1:Nat):Int)=(i:Int)+1 by omega,Int.mul_add];omega] at this
    simpa using this
   ·have:i=a.length:=by omega
    subst this
    exact he n
 have:=key (a.length+1) 0 (Nat.zero_le _) (by omega)
 simpa using this
theorem ar3 (n:Int):rI [.int n] 0=n:=rfl
theorem ar4 (n:Bool):rB [.bool n] 0=n:=rfl
theorem AO:∀ {cs:List CT} {r:List DC},WtL cs r→r.length=cs.length
 | [],r,h=>by rw[WtL] at h;rw[h];rfl
 | c::cs,r,h=>by
  rw[WtL] at h
  obtain⟨d,r',rfl,_,h⟩:=h
  simp only[List.length_cons,AO h]
theorem FI {α:Type} (n:Int) (l:List α) (i:Nat) (x:α):idx n (l.set i x)=idx n l:=by simp only[idx,List.length_set]
theorem FJ {α:Type} (n:Nat) (l:List α) (i:Nat) (x:α):inl n (l.set i x)=inl n l:=by simp only[inl,List.length_set]
theorem FK {l:Rows} {i:Nat} (h:i<l.length) (x:List DC):nth (l.set i x) i=x:=by
 simp only[nth]
 rw[List.getD_eq_getElem?_getD,List.getElem?_set_self h]
 rfl
theorem ar5 (n:Bytes):rS [.str n] 0=n:=rfl
theorem fw {z ds:List DC} (h:z.length=ds.length):aD z 0 ds=ds:=by
 simp [aD,h]
def Bs (c:Int) (a:Rows) (k:Int):Bool:=sm a && (decide (0≤k) && decide (k≤1125899906842624))
theorem yT {c:Int} {a:Rows} {k:Int} (h:Bs c a k=true):a.length≤16777216∧0≤k∧k≤1125899906842624:=by
 simp only[Bs,Bool.and_eq_true,decide_eq_true_eq] at h
 exact⟨qU h.1,h.2⟩
noncomputable def DR (f:Int→List DC) (c:Int) (a:Rows) (k:Int):Bool:=same a (oh f c a.length k) && Bs c a k
theorem MQ {f:Int→List DC} {c:Int} {a:Rows} {k:Int} (h:DR f c a k=true):a=oh f c a.length k∧a.length≤16777216∧0≤k∧k≤1125899906842624:=by
 simp only[DR,Bool.and_eq_true] at h
 exact⟨dU h.1,yT h.2⟩
theorem wP {c:Int} {a:Rows} {k:Int} (h:sm a=true) (h0:0≤k) (h1:k≤1125899906842624):Bs c a k=true:=by
 simp only[Bs,h,Bool.true_and,Bool.and_eq_true,decide_eq_true_eq]
 exact⟨h0,h1⟩
theorem Ds {f:Int→List DC} {c:Int} {a:Rows} {k:Int} (h:sm a=true) (h0:0≤k) (h1:k≤1125899906842624):DR f c (oh f c a.length k) k=true:=by
 have e:sm (oh f c a.length k)=true:=by simp only[sm,dH];exact h
 simp only[DR,wP e h0 h1,dH,cY,Bool.and_true]
theorem Dt {α:Type} {i:Nat} {l:List α} {n:Nat} (hl:l.length=n) (h:i<n):idx (i:Int) l=true:=bw (by omega)
theorem apm (a b:Int):minI a b=minI b a:=by unfold minI;split<;>split<;>omega
theorem d3 {a:Rows} {z:Nat} (h:sm a=true) (hz:z≤8388608):room2 z [] a=true:=by
 have h:=qU h
 have h2:a.length*z≤16777216*8388608:=Nat.mul_le_mul h hz
 simp only[room2,List.length_nil,Nat.zero_add,Bool.and_eq_true]
 exact⟨decide_eq_true (by omega),decide_eq_true (by omega)⟩
theorem Du {a b:Rows} {z:Nat} (h:a.length+b.length≤134217728) (hz:z≤1048576):room2 z a b=true:=by
 have h2:(a.length+b.length)*z≤134217728*1048576:=Nat.mul_le_mul h hz
 simp only[room2,Bool.and_eq_true]
 exact⟨decide_eq_true (by omega),decide_eq_true (by omega)⟩
theorem am2 {α:Type} (a:Rows) (L:Nat→Int→Rows→α) (K:Rows→α) (f:List DC→List DC)
  (hs:∀n (i:Nat) out,i<a.length→out.length=a.length→nth out i=nth a i→L (n+1) (i:Int) out=L n ((i:Int)+1) (out.set i (f (nth a i))))
  (he:∀n out,out.length=a.length→L (n+1) (a.length:Int) out=K out):L (a.length+1) 0 a=K (a.map f):=by
 have key:∀(n i:Nat),i≤a.length→a.length<n+i→L n (i:Int) ((a.take i).map f++a.drop i)=K (a.map f):=by
  intro n
  induction n with
  | zero=>intro i h1 h2;omega
  | succ n ih=>
   intro i h1 h2
   by_cases h:i<a.length
   ·have hl:((a.take i).map f).length=i:=by simp;omega
    have e1:nth ((a.take i).map f++a.drop i) i=nth a i:=by
     simp only[nth]
     rw[List.getD_eq_getElem?_getD,List.getD_eq_getElem?_getD,List.getElem?_append_right (by omega),hl]
     simp
    rw[hs n i _ h (by simp;omega) e1]
    have e2:nth a i=a[i]:=by simp [nth,h]
    have e3:((a.take i).map f++a.drop i).set i (f (nth a i))=(a.take (i+1)).map f++a.drop (i+1):=by
     rw[List.set_append_right _ _ (by omega),hl,Nat.sub_self,List.drop_eq_getElem_cons h,List.set_cons_zero,List.take_add_one,List.getElem?_eq_getElem h,e2]
     simp only[Option.toList_some,List.map_append,List.map_cons,List.map_nil,List.append_assoc,List.cons_append,List.nil_append]
    rw[e3]
    have:=ih (i+1) (by omega) (by omega)
    simpa using this
   ·have:i=a.length:=by omega
    subst this
    rw[he _ _ (by simp)]
    simp
 have:=key (a.length+1) 0 (Nat.zero_le _) (by omega)
 simpa using this
theorem IJ {α σ:Type} (m:Nat) (L:Nat→Int→σ→α) (f:Nat→σ→σ) (fin:σ→α) (I:Nat→σ→Prop) (hI:∀i s,i<m→I i s→I (i+1) (f i s))
  (hs:∀n (i:Nat) s,i<m→I i s→L (n+1) (i:Int) s=L n ((i:Int)+1) (f i s))
  (he:∀n s,I m s→L (n+1) (m:Int) s=fin s):∀(n:Nat) (s:σ),I 0 s→m<n→L n 0 s=fin (itN f m 0 s):=by
 have key:∀(k n i:Nat) (s:σ),I i s→i+k=m→k<n→L n (i:Int) s=fin (itN f k i s):=by
  intro k
  induction k with
  | zero=>
   intro n i s h0 h1 h2
   cases n with
   | zero=>omega
   | succ n=>
    have:i=m:=by omega
    subst this
    exact he n s h0
  | succ k ih=>
   intro n i s h0 h1 h2
   cases n with
   | zero=>omega
   | succ n=>
    rw[hs n i s (by omega) h0]
    have:=ih n (i+1) (f i s) (hI i s (by omega) h0) (by omega) (by omega)
    simpa [itN] using this
 intro n s h0 h
 simpa using key m n 0 s h0 (by omega) h
theorem qA {n a b:Int} :(bif decide (a≤n) then decide (n≤b) else false)=true↔a≤n∧n≤b:=by
 by_cases h:a≤n<;>simp [h]
end Go.Proofs.YthpmalpdnnbkgaaGreat.Pl
