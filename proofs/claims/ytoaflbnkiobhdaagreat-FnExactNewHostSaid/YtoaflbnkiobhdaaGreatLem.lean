/- Plain lemmas: wrapping numbers, rows of a list one after another. Conditions: none. -/
import Derived.Test.YtoaflbnkiobhdaaGreatPre
import Derived.IntWalk
set_option linter.unusedVariables false
namespace Go.Proofs.YtoaflbnkiobhdaaGreat.Pl
open Vm
theorem ncs (n:Int):nR n=(n+9223372036854775808) % 18446744073709551616 - 9223372036854775808:=by
 unfold nR
 rw[IntKind.wrap_i64]
theorem nT {n:Int} (h1: -9223372036854775808≤n) (h2:n≤9223372036854775807):nR n=n:=by
 rw[ncs];omega
theorem njN (n:Int):nR n≤9223372036854775807:=by rw[ncs];omega
theorem WC:maxLen=9223372036854775807:=rfl
theorem vW {n:Int} (h:GO (.int .i64) (.int n)): -9223372036854775808≤n∧n≤9223372036854775807:=by
 simp only[GO,DC.int.injEq] at h
 obtain⟨m,rfl,h⟩:=h
 simpa [BB,IntKind.min,IntKind.max,IntKind.signed,IntKind.bits] using h
theorem niS {s:Bytes} (h:GO .str (.str s)):s.length≤9223372036854775807:=by
 simp only[GO,DC.str.injEq] at h
 obtain⟨m,rfl,h⟩:=h
 rw[WC] at h
 exact h
theorem oU {e:List CT} {r:Rows} (h:GO (.sl e) (.sl r)):r.length≤9223372036854775807∧∀x∈r,jV e x:=by
 simp only[GO,DC.sl.injEq] at h
 obtain⟨m,rfl,h1,h2⟩:=h
 rw[WC] at h1
 exact⟨h1,h2⟩
theorem nk (x:Bool):DZ true x=x:=by cases x<;>rfl
theorem nn (x:Bool):DZ x true=x:=rfl
theorem pf {α:Type} {i:Nat} {l:List α} (h:i<l.length):decide ((i:Int)<len l)=true:=by
 exact decide_eq_true (by simp only[len];omega)
theorem nS {α:Type} (l:List α):decide ((l.length:Int)<len l)=false:=by
 simp [len]
theorem oa {α:Type} {i:Nat} {l:List α} (h:i<l.length):idx (i:Int) l=true:=by
 simp only[idx,Bool.and_eq_true,decide_eq_true_eq];omega
theorem ov {α:Type} {i:Nat} {l:List α} (h:i<l.length) (hl:l.length≤9223372036854775807):nR ((i:Int)+1)=(i:Int)+1:=by
 apply nT<;>omega
theorem tf {α:Type} {i:Nat} {l:List α} (h:i<l.length):inl i l=true:=by simpa [inl] using h
def wW {α σ:Type} (step:Nat→List DC→(σ→α)→σ→α) (fin:σ→α):Rows→Nat→σ→α
 | [],_,s=>fin s
 | r::rs,i,s=>step i r (wW step fin rs (i+1)) s
theorem ncB {α σ:Type} (list:Rows) (L:Nat→Int→σ→α) (step:Nat→List DC→(σ→α)→σ→α) (fin:σ→α)
  (hs:∀n (i:Nat) s,i<list.length→L (n+1) (i:Int) s=step i (nth list i) (L n ((i:Int)+1)) s)
  (he:∀n s,L (n+1) (list.length:Int) s=fin s):
  ∀(n i:Nat) (s:σ),i≤list.length→list.length<n+i→L n (i:Int) s=wW step fin (list.drop i) i s:=by
 intro n
 induction n with
 | zero=>intro i s h1 h2;omega
 | succ n ih=>
  intro i s h1 h2
  by_cases h:i<list.length
  ·rw[hs n i s h,List.drop_eq_getElem_cons h]
   simp only[wW]
   have:nth list i=list[i]:=by simp [nth,h]
   rw[this]
   have e:(fun s=>L n ((i:Int)+1) s)=wW step fin (list.drop (i+1)) (i+1):=by
    funext s
    have:=ih (i+1) s (by omega) (by omega)
    simpa using this
   exact congrArg (fun k=>step i list[i] k s) e
  ·have:i=list.length:=by omega
   subst this
   rw[he,List.drop_eq_nil_of_le (Nat.le_refl _)]
   rfl
theorem njb {α σ:Type} (list:Rows) (L:Nat→Int→σ→α) (step:Nat→List DC→(σ→α)→σ→α) (fin:σ→α)
  (hs:∀n (i:Nat) s,i<list.length→L (n+1) (i:Int) s=step i (nth list i) (L n ((i:Int)+1)) s)
  (he:∀n s,L (n+1) (list.length:Int) s=fin s) (s:σ):L (list.length+1) 0 s=wW step fin list 0 s:=by
 have:=ncB list L step fin hs he (list.length+1) 0 s (Nat.zero_le _) (by omega)
 simpa using this
theorem qo {α:Type} (list:Rows) (L:Nat→Int→α) (step:Nat→List DC→α→α) (fin:α)
  (hs:∀n (i:Nat),i<list.length→L (n+1) (i:Int)=step i (nth list i) (L n ((i:Int)+1)))
  (he:∀n,L (n+1) (list.length:Int)=fin):L (list.length+1) 0=wW (σ:=Unit) (fun i r k s=>step i r (k s)) (fun _=>fin) list 0 ():=by
 have:=njb (σ:=Unit) list (fun n i _=>L n i) (fun i r k s=>step i r (k s)) (fun _=>fin) (fun n i _ h=>hs n i h) (fun n _=>he n) ()
 exact this
theorem Qj {α:Type} (p:List DC→Bool) (x y:α) (list:Rows) (i:Nat):
  wW (σ:=Unit) (fun _ r c s=>bif !(p r) then x else c s) (fun _=>y) list i ()=bif list.all p then y else x:=by
 induction list generalizing i with
 | nil=>rfl
 | cons r rs ih=>
  simp only[wW,List.all_cons]
  cases hp:p r
  ·rfl
  ·simpa [hp] using ih (i+1)
theorem nev {α:Type} (y:α) (list:Rows) (i:Nat):wW (σ:=Unit) (fun _ _ c s=>c s) (fun _=>y) list i ()=y:=by
 induction list generalizing i with
 | nil=>rfl
 | cons r rs ih=>exact ih (i+1)
def ncz {α σ:Type} (step:Nat→(σ→α)→σ→α) (fin:σ→α):Nat→Nat→σ→α
 | 0,_,s=>fin s
 | m+1,i,s=>step i (ncz step fin m (i+1)) s
theorem nib {α σ:Type} (m:Nat) (L:Nat→Int→σ→α) (step:Nat→(σ→α)→σ→α) (fin:σ→α)
  (hs:∀n (i:Nat) s,i<m→L (n+1) (i:Int) s=step i (L n ((i:Int)+1)) s)
  (he:∀n s,L (n+1) (m:Int) s=fin s):∀(n:Nat) (s:σ),m<n→L n 0 s=ncz step fin m 0 s:=by
 have key:∀(k n i:Nat) (s:σ),i+k=m→k<n→L n (i:Int) s=ncz step fin k i s:=by
  intro k
  induction k with
  | zero=>
   intro n i s h1 h2
   cases n with
   | zero=>omega
   | succ n=>
    have:i=m:=by omega
    subst this
    exact he n s
  | succ k ih=>
   intro n i s h1 h2
   cases n with
   | zero=>omega
   | succ n=>
    rw[hs n i s (by omega)]
    have e:(fun s=>L n ((i:Int)+1) s)=ncz step fin k (i+1):=by
     funext s
     have:=ih n (i+1) s (by omega) (by omega)
     simpa using this
    exact congrArg (fun c=>step i c s) e
 intro n s h
 simpa using key m n 0 s (by omega) h
def sm (a:Rows):Bool:=decide (a.length≤16777216)
theorem sX {a:Rows} (h:sm a=true):a.length≤16777216:=of_decide_eq_true h
theorem njY {a:Rows} {z:Nat} (h:sm a=true) (hz:z≤8388608):xZ z (len a) (len a)=true:=by
 have h:=sX h
 have h2:a.length*z≤16777216*8388608:=Nat.mul_le_mul h hz
 simp only[xZ,len,Int.toNat_natCast,Bool.and_eq_true]
 refine⟨⟨⟨decide_eq_true (by omega),decide_eq_true (by omega)⟩,decide_eq_true (by omega)⟩,decide_eq_true (by omega)⟩
open Classical in
noncomputable def same {α:Type} (a b:α):Bool:=decide (a=b)
theorem p8 {α:Type} {a b:α} (h:same a b=true):a=b:= @of_decide_eq_true _ (Classical.propDecidable _) h
theorem oI {α:Type} (a:α):same a a=true:= @decide_eq_true _ (Classical.propDecidable _) rfl
theorem njq {α:Type} (a:Rows) (L:Nat→Int→Rows→α) (k:Rows→α) (z:List DC) (f:List DC→List DC→List DC)
  (hs:∀n (i:Nat) out,i<a.length→out.length=a.length→L (n+1) (i:Int) out=L n ((i:Int)+1) (out.set i (f (nth out i) (nth a i))))
  (he:∀n out,out.length=a.length→L (n+1) (a.length:Int) out=k out)
  (hf:∀r∈a,f z r=r):L (a.length+1) 0 (List.replicate a.length z)=k a:=by
 have key:∀(n i:Nat),i≤a.length→a.length<n+i→L n (i:Int) (a.take i++List.replicate (a.length - i) z)=k a:=by
  intro n
  induction n with
  | zero=>intro i h1 h2;omega
  | succ n ih=>
   intro i h1 h2
   by_cases h:i<a.length
   ·rw[hs n i _ h (by simp;omega)]
    have e1:nth (a.take i++List.replicate (a.length - i) z) i=z:=by
     simp only[nth]
     rw[List.getD_eq_getElem?_getD,List.getElem?_append_right (by simp;omega)]
     simp [Nat.min_eq_left h1,show 0<a.length - i by omega]
    have e2:nth a i=a[i]:=by simp [nth,h]
    rw[e1,e2,hf _ (List.getElem_mem h)]
    have e3:(a.take i++List.replicate (a.length - i) z).set i a[i]=a.take (i+1)++List.replicate (a.length - (i+1)) z:=by
     rw[List.set_append_right _ _ (by simp;omega)]
     rw[List.take_add_one,List.getElem?_eq_getElem h]
     simp only[List.length_take,Nat.min_eq_left h1,Nat.sub_self,Option.toList_some,List.append_assoc]
     congr 1
     rw[show a.length - i=(a.length - (i+1))+1 by omega,List.replicate_succ,List.set_cons_zero]
     rfl
    rw[e3]
    have:=ih (i+1) (by omega) (by omega)
    simpa using this
   ·have:i=a.length:=by omega
    subst this
    rw[he _ _ (by simp)]
    simp
 have:=key (a.length+1) 0 (Nat.zero_le _) (by omega)
 simpa using this
def om {α β:Type} (_:α) (_:β):Bool:=true
def qY {α:Type} (a:α):α:=a
theorem RM {α:Type} {c o:Bool} {x y jX:α} (h:o=true→x=y) (aI:(bif c then o else false)=true):(bif c then x else jX)=y:=by
 cases c
 ·cases aI
 ·exact h aI
def ui {α:Type} (a:List α) (left:Int):Int:=bif decide (nR (left - len a)<0) then -1 else nR (left - len a)
theorem njK {α:Type} {a:List α} {left:Int} (h1:0≤left) (h2:left≤1048576) (ha:a.length≤9223372036854775807):nR (left - len a)=left - len a∧0≤len a:=by
 have hl:(0:Int)≤len a:=by simp [len]
 have hh:(len a)≤9223372036854775807:=by simp only[len];omega
 exact⟨nT (by omega) (by omega),hl⟩
theorem WH {a:Rows} {left:Int} (h1:0≤left) (h2:left≤1048576) (ha:a.length≤9223372036854775807) (h0:0≤ui a left):ui a left≤1048576∧sm a=true:=by
 obtain⟨e,hl⟩:=njK h1 h2 ha
 simp only[ui,e] at h0 ⊢
 by_cases hn:left - len a<0
 ·simp [hn] at h0
 ·simp only[hn,decide_false,cond_false] at h0 ⊢
  refine⟨by omega,decide_eq_true ?_⟩
  simp only[len] at hn
  omega
theorem nj5 {k:IntKind} {r:List DC} (h:jV [.int k] r):[.int (rI r 0)]=r:=by
 obtain⟨n,ds,rfl,_,h2⟩:=nQ h
 obtain rfl:=nA h2
 rfl
theorem nj6 {r:List DC} (h:jV [.str] r):[.str (rS r 0)]=r:=by
 obtain⟨n,ds,rfl,_,h2⟩:=SQ h
 obtain rfl:=nA h2
 rfl
theorem xu {a:Rows} {i:Nat} (h:i<a.length):nth a i∈a:=by
 have:nth a i=a[i]:=by simp [nth,h]
 rw[this]
 exact List.getElem_mem h
theorem na9 {α:Type} {c:Bool} {x y:α} (h:c=true):(bif c then x else y)=x:=by rw[h];rfl
theorem nhz {α:Type} {c:Bool} {x y:α} (h:c=false):(bif c then x else y)=y:=by rw[h];rfl
theorem nhl {g x y:Bool} (h1:g=true→x=true) (h2:g=false→y=true):LG g x y=true:=by
 cases g
 ·rw[Fc];exact h2 rfl
 ·rw[Fc];exact h1 rfl
theorem nb9 (g:Bool):LG g true true=true:=rfl
def pr (p:Nat→List DC→Bool):Rows→Nat→Bool
 | [],_=>false
 | r::rs,i=>bif p i r then true else pr p rs (i+1)
theorem v8 {α:Type} (p:Nat→List DC→Bool) (x y:α):∀(list:Rows) (i:Nat),
  wW (σ:=Unit) (fun i r c s=>bif p i r then x else c s) (fun _=>y) list i ()=bif pr p list i then x else y
 | [],_=>rfl
 | r::rs,i=>by
  simp only[wW,pr]
  cases p i r
  ·exact v8 p x y rs (i+1)
  ·rfl
def findIdx (p:Nat→List DC→Bool):Rows→Nat→Int
 | [],_=> -1
 | r::rs,i=>bif p i r then (i:Int) else findIdx p rs (i+1)
theorem Ta {α:Type} (p:Nat→List DC→Bool) (k:Int→α):∀(list:Rows) (i:Nat),
  wW (σ:=Unit) (fun i r c s=>bif p i r then k (i:Int) else c s) (fun _=>k (-1)) list i ()=k (findIdx p list i)
 | [],_=>rfl
 | r::rs,i=>by
  simp only[wW,findIdx]
  cases p i r
  ·exact Ta p k rs (i+1)
  ·rfl
theorem nkz {α:Type} {a:List α} {left:Int} (ha:a.length≤9223372036854775807) (h1:0≤left) (h2:left≤1048576) (h0:0≤nR (left - len a)):nR (left - len a)≤1048576∧a.length≤1048576:=by
 obtain⟨e,hl⟩:=njK h1 h2 ha
 rw[e] at h0 ⊢
 simp only[len] at h0 hl ⊢
 omega
theorem qv {α β:Type} {c:Bool} {x y:α} {a b:β} {K:β→α} (h1:c=true→x=K a) (h2:c=false→y=K b):(bif c then x else y)=K (bif c then a else b):=by
 cases c
 ·exact h2 rfl
 ·exact h1 rfl
theorem rb {α:Type} {c:Bool} {x y jX:α} (hg:c=true) (h:x=y):(bif c then x else jX)=y:=by rw[hg];exact h
def itN {σ:Type} (f:Nat→σ→σ):Nat→Nat→σ→σ
 | 0,_,s=>s
 | m+1,i,s=>itN f m (i+1) (f i s)
def vI (p:Nat→Bool):Nat→Nat→Bool
 | 0,_=>false
 | m+1,i=>bif p i then true else vI p m (i+1)
theorem niW {α:Type} (p:Nat→Bool) (x y:α):∀(m i:Nat),ncz (σ:=Unit) (fun i c s=>bif p i then x else c s) (fun _=>y) m i ()=bif vI p m i then x else y
 | 0,_=>rfl
 | m+1,i=>by
  simp only[ncz,vI]
  cases p i
  ·exact niW p x y m (i+1)
  ·rfl
theorem neI (p:Nat→Bool):∀(m i:Nat),vI p m (i+1)=vI (fun j=>p (j+1)) m i
 | 0,_=>rfl
 | m+1,i=>by simp only[vI];rw[neI p m (i+1)]
theorem X_ {p q:Nat→Bool} :∀(m i:Nat),(∀j,i≤j→j<i+m→p j=q j)→vI p m i=vI q m i
 | 0,_,_=>rfl
 | m+1,i,h=>by
  simp only[vI]
  rw[h i (by omega) (by omega),X_ m (i+1) (fun j h1 h2=>h j (by omega) (by omega))]
theorem Ya (p:Nat→List DC→Bool):∀(list:Rows) (s i:Nat),i<list.length→p (s+i) (nth list i)=true→(findIdx p list s != ((s+i:Nat):Int))=vI (fun j=>p (s+j) (nth list j)) i 0
 | [],_,_,h,_=>by simp at h
 | r::rs,s,0,_,h=>by
  have h:p s r=true:=h
  simp only[findIdx,h,cond_true,vI,Nat.add_zero,bne_self_eq_false]
 | r::rs,s,i+1,hi,h=>by
  have h2:p (s+1+i) (nth rs i)=true:=by
   rw[show s+1+i=s+(i+1) by omega]
   exact h
  have ih:=Ya p rs (s+1) i (by simpa using hi) h2
  simp only[findIdx,vI]
  have e0:nth (r::rs) 0=r:=rfl
  rw[Nat.add_zero,e0]
  cases hp:p s r
  ·simp only[cond_false]
   rw[show ((s+(i+1):Nat):Int)=((s+1+i:Nat):Int) by omega,ih,neI]
   apply X_
   intro j _ _
   rw[show s+1+j=s+(j+1) by omega]
   rfl
  ·simp only[cond_true]
   simp only[bne_iff_ne,ne_eq]
   omega
theorem xY {α:Type} (list:Rows) (L:Nat→Int→α) (step:Nat→List DC→α→α) (fin:α)
  (hs:∀n (i:Nat),i<list.length→L (n+1) (i:Int)=step i (nth list i) (L n ((i:Int)+1)))
  (he:∀n,L (n+1) (list.length:Int)=fin) (n:Nat) (hn:list.length<n):L n 0=wW (σ:=Unit) (fun i r k s=>step i r (k s)) (fun _=>fin) list 0 ():=by
 have:=ncB (σ:=Unit) list (fun n i _=>L n i) (fun i r k s=>step i r (k s)) (fun _=>fin) (fun n i _ h=>hs n i h) (fun n _=>he n) n 0 () (Nat.zero_le _) (by omega)
 simpa using this
theorem Zr {p q:Nat→List DC→Bool} :∀(l:Rows) (s:Nat),(∀i,i<l.length→p (s+i) (nth l i)=q (s+i) (nth l i))→pr p l s=pr q l s
 | [],_,_=>rfl
 | r::rs,s,h=>by
  have h0:p s r=q s r:=h 0 (by simp)
  simp only[pr]
  have hh:∀i,i<rs.length→p (s+1+i) (nth rs i)=q (s+1+i) (nth rs i):=by
   intro i hi
   have h2:p (s+(i+1)) (nth rs i)=q (s+(i+1)) (nth rs i):=h (i+1) (by simp only[List.length_cons];omega)
   have e:s+1+i=s+(i+1):=by omega
   rw[e]
   exact h2
  rw[h0,Zr rs (s+1) hh]
def sn (f:Int→List DC) (c:Int):Nat→Int→Rows
 | 0,_=>[]
 | n+1,k=>f k::sn f c n (k+c)
theorem oQ (f:Int→List DC) (c:Int):∀(n:Nat) (k:Int),(sn f c n k).length=n
 | 0,_=>rfl
 | n+1,k=>by simp only[sn,List.length_cons,oQ f c n]
theorem nig (f:Int→List DC) (c:Int):∀(n:Nat) (k:Int),sn f c (n+1) k=sn f c n k++[f (k+c*n)]
 | 0,k=>by simp [sn]
 | n+1,k=>by
  have:=nig f c n (k+c)
  have e:k+c+c*(n:Int)=k+c*((n+1:Nat):Int):=by
   rw[show ((n+1:Nat):Int)=(n:Int)+1 by omega,Int.mul_add];omega
  rw[e] at this
  rw[sn,this]
  simp only[sn,List.cons_append]
theorem ni0 (f:Int→List DC) (c:Int):∀(n i:Nat) (k:Int),i<n→nth (sn f c n k) i=f (k+c*i)
 | 0,i,k,h=>by omega
 | n+1,0,k,_=>by simp [sn,nth]
 | n+1,i+1,k,h=>by
  have:=ni0 f c n i (k+c) (by omega)
  have e:k+c+c*(i:Int)=k+c*((i+1:Nat):Int):=by
   rw[show ((i+1:Nat):Int)=(i:Int)+1 by omega,Int.mul_add];omega
  rw[e] at this
  rw[sn]
  show nth (sn f c n (k+c)) i=_
  exact this
theorem WB {α:Type} (a0:Rows) (k0 c:Int) (f:Int→List DC) (L:Nat→Int→Int→Rows→α) (K:Int→Rows→α)
  (hs:∀n (i:Nat) a,i<a0.length→a.length=a0.length→nth a i=nth a0 i→L (n+1) (k0+c*i) (i:Int) a=L n (k0+c*i+c) ((i:Int)+1) (a.set i (f (k0+c*i))))
  (he:∀n a,a.length=a0.length→L (n+1) (k0+c*a0.length) (a0.length:Int) a=K (k0+c*a0.length) a):
  L (a0.length+1) k0 0 a0=K (k0+c*a0.length) (sn f c a0.length k0):=by
 have key:∀(n i:Nat),i≤a0.length→a0.length<n+i→L n (k0+c*i) (i:Int) (sn f c i k0++a0.drop i)=K (k0+c*a0.length) (sn f c a0.length k0):=by
  intro n
  induction n with
  | zero=>intro i h1 h2;omega
  | succ n ih=>
   intro i h1 h2
   by_cases h:i<a0.length
   ·have e1:nth (sn f c i k0++a0.drop i) i=nth a0 i:=by
     simp only[nth]
     rw[List.getD_eq_getElem?_getD,List.getD_eq_getElem?_getD,List.getElem?_append_right (by rw[oQ];omega),oQ]
     simp
    rw[hs n i _ h (by simp [oQ];omega) e1]
    have e2:(sn f c i k0++a0.drop i).set i (f (k0+c*i))=sn f c (i+1) k0++a0.drop (i+1):=by
     rw[List.set_append_right _ _ (by rw[oQ];omega),oQ,Nat.sub_self,nig,List.drop_eq_getElem_cons h,List.set_cons_zero,List.append_assoc]
     rfl
    rw[e2]
    have:=ih (i+1) (by omega) (by omega)
    rw[show k0+c*((i+1:Nat):Int)=k0+c*i+c by rw[show ((i+1:Nat):Int)=(i:Int)+1 by omega,Int.mul_add];omega] at this
    simpa using this
   ·have:i=a0.length:=by omega
    subst this
    rw[he n _ (by simp [oQ])]
    simp
 have:=key (a0.length+1) 0 (Nat.zero_le _) (by omega)
 simpa [sn] using this
theorem Wy {α:Type} (a:Rows) (k0 c:Int) (f:Int→List DC) (L:Nat→Int→Int→α) (K:Int→α)
  (ha:a=sn f c a.length k0)
  (hs:∀n (i:Nat),i<a.length→nth a i=f (k0+c*i)→L (n+1) (k0+c*i) (i:Int)=L n (k0+c*i+c) ((i:Int)+1))
  (he:∀n,L (n+1) (k0+c*a.length) (a.length:Int)=K (k0+c*a.length)):
  L (a.length+1) k0 0=K (k0+c*a.length):=by
 have key:∀(n i:Nat),i≤a.length→a.length<n+i→L n (k0+c*i) (i:Int)=K (k0+c*a.length):=by
  intro n
  induction n with
  | zero=>intro i h1 h2;omega
  | succ n ih=>
   intro i h1 h2
   by_cases h:i<a.length
   ·have e1:nth a i=f (k0+c*i):=by
     have:=ni0 f c a.length i k0 h
     rwa [←ha] at this
    rw[hs n i h e1]
    have:=ih (i+1) (by omega) (by omega)
    rw[show k0+c*((i+1:Nat):Int)=k0+c*i+c by rw[show ((i+1:Nat):Int)=(i:Int)+1 by omega,Int.mul_add];omega] at this
    simpa using this
   ·have:i=a.length:=by omega
    subst this
    exact he n
 have:=key (a.length+1) 0 (Nat.zero_le _) (by omega)
 simpa using this
theorem njH (n:Int):rI [.int n] 0=n:=rfl
theorem nky (n:Bool):rB [.bool n] 0=n:=rfl
theorem xF:∀ {cs:List CT} {r:List DC},jV cs r→r.length=cs.length
 | [],r,h=>by rw[jV] at h;rw[h];rfl
 | c::cs,r,h=>by
  rw[jV] at h
  obtain⟨d,r',rfl,_,h⟩:=h
  simp only[List.length_cons,xF h]
theorem nh9 {α:Type} (n:Int) (l:List α) (i:Nat) (x:α):idx n (l.set i x)=idx n l:=by simp only[idx,List.length_set]
theorem nia {α:Type} (n:Nat) (l:List α) (i:Nat) (x:α):inl n (l.set i x)=inl n l:=by simp only[inl,List.length_set]
theorem nfG {l:Rows} {i:Nat} (h:i<l.length) (x:List DC):nth (l.set i x) i=x:=by
 simp only[nth]
 rw[List.getD_eq_getElem?_getD,List.getElem?_set_self h]
 rfl
theorem niM (n:Bytes):rS [.str n] 0=n:=rfl
theorem vV {z ds:List DC} (h:z.length=ds.length):bP z 0 ds=ds:=by
 simp [bP,h]
def wY (c:Int) (a:Rows) (k:Int):Bool:=sm a && (decide (0≤k) && decide (k≤1125899906842624))
theorem PD {c:Int} {a:Rows} {k:Int} (h:wY c a k=true):a.length≤16777216∧0≤k∧k≤1125899906842624:=by
 simp only[wY,Bool.and_eq_true,decide_eq_true_eq] at h
 exact⟨sX h.1,h.2⟩
noncomputable def y7 (f:Int→List DC) (c:Int) (a:Rows) (k:Int):Bool:=same a (sn f c a.length k) && wY c a k
theorem nhB {f:Int→List DC} {c:Int} {a:Rows} {k:Int} (h:y7 f c a k=true):a=sn f c a.length k∧a.length≤16777216∧0≤k∧k≤1125899906842624:=by
 simp only[y7,Bool.and_eq_true] at h
 exact⟨p8 h.1,PD h.2⟩
theorem tU {c:Int} {a:Rows} {k:Int} (h:sm a=true) (h0:0≤k) (h1:k≤1125899906842624):wY c a k=true:=by
 simp only[wY,h,Bool.true_and,Bool.and_eq_true,decide_eq_true_eq]
 exact⟨h0,h1⟩
theorem yq {f:Int→List DC} {c:Int} {a:Rows} {k:Int} (h:sm a=true) (h0:0≤k) (h1:k≤1125899906842624):y7 f c (sn f c a.length k) k=true:=by
 have e:sm (sn f c a.length k)=true:=by simp only[sm,oQ];exact h
 simp only[y7,tU e h0 h1,oQ,oI,Bool.and_true]
theorem njW {α:Type} {i:Nat} {l:List α} {n:Nat} (hl:l.length=n) (h:i<n):idx (i:Int) l=true:=oa (by omega)
theorem xd {a:Rows} {z:Nat} (h:sm a=true) (hz:z≤8388608):pK z [] a=true:=by
 have h:=sX h
 have h2:a.length*z≤16777216*8388608:=Nat.mul_le_mul h hz
 simp only[pK,List.length_nil,Nat.zero_add,Bool.and_eq_true]
 exact⟨decide_eq_true (by omega),decide_eq_true (by omega)⟩
theorem sb {a b:Rows} {z:Nat} (h:a.length+b.length≤134217728) (hz:z≤1048576):pK z a b=true:=by
 have h2:(a.length+b.length)*z≤134217728*1048576:=Nat.mul_le_mul h hz
 simp only[pK,Bool.and_eq_true]
 exact⟨decide_eq_true (by omega),decide_eq_true (by omega)⟩
theorem nie {α:Type} (a:Rows) (L:Nat→Int→Rows→α) (K:Rows→α) (f:List DC→List DC)
  (hs:∀n (i:Nat) out,i<a.length→out.length=a.length→nth out i=nth a i→L (n+1) (i:Int) out=L n ((i:Int)+1) (out.set i (f (nth a i))))
  (he:∀n out,out.length=a.length→L (n+1) (a.length:Int) out=K out):L (a.length+1) 0 a=K (a.map f):=by
 have key:∀(n i:Nat),i≤a.length→a.length<n+i→L n (i:Int) ((a.take i).map f++a.drop i)=K (a.map f):=by
  intro n
  induction n with
  | zero=>intro i h1 h2;omega
  | succ n ih=>
   intro i h1 h2
   by_cases h:i<a.length
   ·have hl:((a.take i).map f).length=i:=by simp;omega
    have e1:nth ((a.take i).map f++a.drop i) i=nth a i:=by
     simp only[nth]
     rw[List.getD_eq_getElem?_getD,List.getD_eq_getElem?_getD,List.getElem?_append_right (by omega),hl]
     simp
    rw[hs n i _ h (by simp;omega) e1]
    have e2:nth a i=a[i]:=by simp [nth,h]
    have e3:((a.take i).map f++a.drop i).set i (f (nth a i))=(a.take (i+1)).map f++a.drop (i+1):=by
     rw[List.set_append_right _ _ (by omega),hl,Nat.sub_self,List.drop_eq_getElem_cons h,List.set_cons_zero,List.take_add_one,List.getElem?_eq_getElem h,e2]
     simp only[Option.toList_some,List.map_append,List.map_cons,List.map_nil,List.append_assoc,List.cons_append,List.nil_append]
    rw[e3]
    have:=ih (i+1) (by omega) (by omega)
    simpa using this
   ·have:i=a.length:=by omega
    subst this
    rw[he _ _ (by simp)]
    simp
 have:=key (a.length+1) 0 (Nat.zero_le _) (by omega)
 simpa using this
theorem xa {α σ:Type} (m:Nat) (L:Nat→Int→σ→α) (f:Nat→σ→σ) (fin:σ→α) (I:Nat→σ→Prop) (hI:∀i s,i<m→I i s→I (i+1) (f i s))
  (hs:∀n (i:Nat) s,i<m→I i s→L (n+1) (i:Int) s=L n ((i:Int)+1) (f i s))
  (he:∀n s,I m s→L (n+1) (m:Int) s=fin s):∀(n:Nat) (s:σ),I 0 s→m<n→L n 0 s=fin (itN f m 0 s):=by
 have key:∀(k n i:Nat) (s:σ),I i s→i+k=m→k<n→L n (i:Int) s=fin (itN f k i s):=by
  intro k
  induction k with
  | zero=>
   intro n i s h0 h1 h2
   cases n with
   | zero=>omega
   | succ n=>
    have:i=m:=by omega
    subst this
    exact he n s h0
  | succ k ih=>
   intro n i s h0 h1 h2
   cases n with
   | zero=>omega
   | succ n=>
    rw[hs n i s (by omega) h0]
    have:=ih n (i+1) (f i s) (hI i s (by omega) h0) (by omega) (by omega)
    simpa [itN] using this
 intro n s h0 h
 simpa using key m n 0 s h0 (by omega) h
theorem oX {n a b:Int} :(bif decide (a≤n) then decide (n≤b) else false)=true↔a≤n∧n≤b:=by
 by_cases h:a≤n<;>simp [h]
theorem yR (s:Bytes):(ofStr s).length=s.length:=by simp [ofStr]
theorem Nv (s:Bytes):toStr (ofStr s)=s:=by
 simp only[toStr,ofStr,List.map_map]
 have:(Vm.byteOf ∘ Vm.cO)=id:=by
  funext b
  simp [Vm.byteOf,Vm.cO,DC.asInt]
 rw[this,List.map_id]
theorem njd {n:Int} (h0:0≤n) (h1:n≤255):Vm.cO (UInt8.ofNat n.toNat)=[.int n]:=by
 have:(UInt8.ofNat n.toNat).toNat=n.toNat:=by rw[UInt8.toNat_ofNat'];omega
 simp only[Vm.cO,this]
 congr 2
 omega
theorem Ti (a b:DC):bP [a] 0 [b]=[b]:=rfl
end Go.Proofs.YtoaflbnkiobhdaaGreat.Pl
