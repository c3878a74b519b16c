/- Plain lemmas: wrapping numbers, rows of a list one after another. Conditions: none. -/
import Derived.Test.YtnlkklmcfafgeaaGreatPre
import Derived.IntWalk
set_option linter.unusedVariables false
namespace Go.Proofs.YtnlkklmcfafgeaaGreat.Pl
open Vm
theorem npo (n:Int):nL n=(n+9223372036854775808) % 18446744073709551616 - 9223372036854775808:=by
 unfold nL
 rw[IntKind.wrap_i64]
theorem nF {n:Int} (h1: -9223372036854775808≤n) (h2:n≤9223372036854775807):nL n=n:=by
 rw[npo];omega
theorem nAa (n:Int):nL n≤9223372036854775807:=by rw[npo];omega
theorem ng7:maxLen=9223372036854775807:=rfl
theorem wR {n:Int} (h:G5 (.int .i64) (.int n)): -9223372036854775808≤n∧n≤9223372036854775807:=by
 simp only[G5,DC.int.injEq] at h
 obtain⟨m,rfl,h⟩:=h
 simpa [BS,IntKind.min,IntKind.max,IntKind.signed,IntKind.bits] using h
theorem vI {s:Bytes} (h:G5 .str (.str s)):s.length≤9223372036854775807:=by
 simp only[G5,DC.str.injEq] at h
 obtain⟨m,rfl,h⟩:=h
 rw[ng7] at h
 exact h
theorem oG {e:List CT} {r:Rows} (h:G5 (.sl e) (.sl r)):r.length≤9223372036854775807∧∀x∈r,kd e x:=by
 simp only[G5,DC.sl.injEq] at h
 obtain⟨m,rfl,h1,h2⟩:=h
 rw[ng7] at h1
 exact⟨h1,h2⟩
theorem ng (x:Bool):Ed true x=x:=by cases x<;>rfl
theorem nr (x:Bool):Ed x true=x:=rfl
theorem oU {α:Type} {i:Nat} {l:List α} (h:i<l.length):decide ((i:Int)<len l)=true:=by
 exact Lu (by simp only[len];omega)
theorem nQ {α:Type} (l:List α):decide ((l.length:Int)<len l)=false:=by
 simp [len]
theorem nR {α:Type} {i:Nat} {l:List α} (h:i<l.length):idx (i:Int) l=true:=by
 simp only[idx,aw,eX];omega
theorem ou {α:Type} {i:Nat} {l:List α} (h:i<l.length) (hl:l.length≤9223372036854775807):nL ((i:Int)+1)=(i:Int)+1:=by
 apply nF<;>omega
theorem sq {α:Type} {i:Nat} {l:List α} (h:i<l.length):inl i l=true:=by simpa [inl] using h
def yD {α σ:Type} (step:Nat→List DC→(σ→α)→σ→α) (fin:σ→α):Rows→Nat→σ→α
 | [],_,s=>fin s
 | r::rs,i,s=>step i r (yD step fin rs (i+1)) s
theorem npK {α σ:Type} (list:Rows) (L:Nat→Int→σ→α) (step:Nat→List DC→(σ→α)→σ→α) (fin:σ→α)
  (hs:∀n (i:Nat) s,i<list.length→L (n+1) (i:Int) s=step i (nth list i) (L n ((i:Int)+1)) s)
  (he:∀n s,L (n+1) (list.length:Int) s=fin s):
  ∀(n i:Nat) (s:σ),i≤list.length→list.length<n+i→L n (i:Int) s=yD step fin (list.drop i) i s:=by
 intro n
 induction n with
 | zero=>intro i s h1 h2;omega
 | succ n ih=>
  intro i s h1 h2
  by_cases h:i<list.length
  ·rw[hs n i s h,List.drop_eq_getElem_cons h]
   simp only[yD]
   have:nth list i=list[i]:=by simp [nth,h]
   rw[this]
   have e:(fun s=>L n ((i:Int)+1) s)=yD step fin (list.drop (i+1)) (i+1):=by
    funext s
    have:=ih (i+1) s (by omega) (by omega)
    simpa using this
   exact congrArg (fun k=>step i list[i] k s) e
  ·have:i=list.length:=by omega
   subst this
   rw[he,List.drop_eq_nil_of_le (Nat.le_refl _)]
   rfl
theorem UU {α σ:Type} (list:Rows) (L:Nat→Int→σ→α) (step:Nat→List DC→(σ→α)→σ→α) (fin:σ→α)
  (hs:∀n (i:Nat) s,i<list.length→L (n+1) (i:Int) s=step i (nth list i) (L n ((i:Int)+1)) s)
  (he:∀n s,L (n+1) (list.length:Int) s=fin s) (s:σ):L (list.length+1) 0 s=yD step fin list 0 s:=by
 have:=npK list L step fin hs he (list.length+1) 0 s (Nat.zero_le _) (by omega)
 simpa using this
theorem rQ {α:Type} (list:Rows) (L:Nat→Int→α) (step:Nat→List DC→α→α) (fin:α)
  (hs:∀n (i:Nat),i<list.length→L (n+1) (i:Int)=step i (nth list i) (L n ((i:Int)+1)))
  (he:∀n,L (n+1) (list.length:Int)=fin):L (list.length+1) 0=yD (σ:=Unit) (fun i r k s=>step i r (k s)) (fun _=>fin) list 0 ():=by
 have:=UU (σ:=Unit) list (fun n i _=>L n i) (fun i r k s=>step i r (k s)) (fun _=>fin) (fun n i _ h=>hs n i h) (fun n _=>he n) ()
 exact this
theorem Se {α:Type} (p:List DC→Bool) (x y:α) (list:Rows) (i:Nat):
  yD (σ:=Unit) (fun _ r c s=>bif !(p r) then x else c s) (fun _=>y) list i ()=bif list.all p then y else x:=by
 induction list generalizing i with
 | nil=>rfl
 | cons r rs ih=>
  simp only[yD,List.all_cons]
  cases hp:p r
  ·rfl
  ·simpa [hp] using ih (i+1)
theorem nsy {α:Type} (y:α) (list:Rows) (i:Nat):yD (σ:=Unit) (fun _ _ c s=>c s) (fun _=>y) list i ()=y:=by
 induction list generalizing i with
 | nil=>rfl
 | cons r rs ih=>exact ih (i+1)
def npJ {α σ:Type} (step:Nat→(σ→α)→σ→α) (fin:σ→α):Nat→Nat→σ→α
 | 0,_,s=>fin s
 | m+1,i,s=>step i (npJ step fin m (i+1)) s
theorem nmt {α σ:Type} (m:Nat) (L:Nat→Int→σ→α) (step:Nat→(σ→α)→σ→α) (fin:σ→α)
  (hs:∀n (i:Nat) s,i<m→L (n+1) (i:Int) s=step i (L n ((i:Int)+1)) s)
  (he:∀n s,L (n+1) (m:Int) s=fin s):∀(n:Nat) (s:σ),m<n→L n 0 s=npJ step fin m 0 s:=by
 have key:∀(k n i:Nat) (s:σ),i+k=m→k<n→L n (i:Int) s=npJ step fin k i s:=by
  intro k
  induction k with
  | zero=>
   intro n i s h1 h2
   cases n with
   | zero=>omega
   | succ n=>
    have:i=m:=by omega
    subst this
    exact he n s
  | succ k ih=>
   intro n i s h1 h2
   cases n with
   | zero=>omega
   | succ n=>
    rw[hs n i s (by omega)]
    have e:(fun s=>L n ((i:Int)+1) s)=npJ step fin k (i+1):=by
     funext s
     have:=ih n (i+1) s (by omega) (by omega)
     simpa using this
    exact congrArg (fun c=>step i c s) e
 intro n s h
 simpa using key m n 0 s (by omega) h
def sm (a:Rows):Bool:=decide (a.length≤16777216)
theorem uy {a:Rows} (h:sm a=true):a.length≤16777216:=of_decide_eq_true h
theorem nxe {a:Rows} {z:Nat} (h:sm a=true) (hz:z≤8388608):xq z (len a) (len a)=true:=by
 have h:=uy h
 have h2:a.length*z≤16777216*8388608:=Nat.mul_le_mul h hz
 simp only[xq,len,J6,aw]
 refine⟨⟨⟨Lu (by omega),Lu (by omega)⟩,Lu (by omega)⟩,Lu (by omega)⟩
open Classical in
noncomputable def same {α:Type} (a b:α):Bool:=decide (a=b)
theorem sf {α:Type} {a b:α} (h:same a b=true):a=b:= @of_decide_eq_true _ (Classical.propDecidable _) h
theorem pQ {α:Type} (a:α):same a a=true:= @Lu _ (Classical.propDecidable _) rfl
theorem nsP {α:Type} (a:Rows) (L:Nat→Int→Rows→α) (k:Rows→α) (z:List DC) (f:List DC→List DC→List DC)
  (hs:∀n (i:Nat) out,i<a.length→out.length=a.length→L (n+1) (i:Int) out=L n ((i:Int)+1) (out.set i (f (nth out i) (nth a i))))
  (he:∀n out,out.length=a.length→L (n+1) (a.length:Int) out=k out)
  (hf:∀r∈a,f z r=r):L (a.length+1) 0 (List.replicate a.length z)=k a:=by
 have key:∀(n i:Nat),i≤a.length→a.length<n+i→L n (i:Int) (a.take i++List.replicate (a.length - i) z)=k a:=by
  intro n
  induction n with
  | zero=>intro i h1 h2;omega
  | succ n ih=>
   intro i h1 h2
   by_cases h:i<a.length
   ·rw[hs n i _ h (by simp;omega)]
    have e1:nth (a.take i++List.replicate (a.length - i) z) i=z:=by
     simp only[nth]
     rw[List.getD_eq_getElem?_getD,List.getElem?_append_right (by simp;omega)]
     simp [Nat.min_eq_left h1,show 0<a.length - i by omega]
    have e2:nth a i=a[i]:=by simp [nth,h]
    rw[e1,e2,hf _ (List.getElem_mem h)]
    have e3:(a.take i++List.replicate (a.length - i) z).set i a[i]=a.take (i+1)++List.replicate (a.length - (i+1)) z:=by
     rw[List.set_append_right _ _ (by simp;omega)]
     rw[List.take_add_one,List.getElem?_eq_getElem h]
     simp only[List.length_take,Nat.min_eq_left h1,Nat.sub_self,Option.toList_some,List.append_assoc]
     congr 1
     rw[show a.length - i=(a.length - (i+1))+1 by omega,List.replicate_succ,List.set_cons_zero]
     rfl
    rw[e3]
    have:=ih (i+1) (by omega) (by omega)
    simpa using this
   ·have:i=a.length:=by omega
    subst this
    rw[he _ _ (by simp)]
    simp
 have:=key (a.length+1) 0 (Nat.zero_le _) (by omega)
 simpa using this
def pd {α β:Type} (_:α) (_:β):Bool:=true
def n7 {α:Type} (a:α):α:=a
theorem sa {α:Type} {c o:Bool} {x y kf:α} (h:o=true→x=y) (aP:(bif c then o else false)=true):(bif c then x else kf)=y:=by
 cases c
 ·cases aP
 ·exact h aP
def nxs (f:List DC→Int→Int):Rows→Int→Int
 | [],l=>l
 | r::rs,l=>bif decide (f r l<0) then -1 else nxs f rs (f r l)
def YF (f:List DC→Int→Int) (a:Rows) (left:Int):Int:=
 bif decide (nL (left - len a)<0) then -1 else nxs f a (nL (left - len a))
theorem ny0 {f:List DC→Int→Int} {P:List DC→Prop} :
  ∀(a:Rows) (l:Int),(∀r∈a,∀l,0≤l→l≤1048576→0≤f r l→f r l≤1048576∧P r)→0≤l→l≤1048576→0≤nxs f a l→nxs f a l≤1048576∧∀r∈a,P r
 | [],l,_,_,h,_=>⟨h,by simp⟩
 | r::rs,l,hf,h,h',h0=>by
  simp only[nxs] at h0 ⊢
  by_cases hn:f r l<0
  ·simp [hn] at h0
  ·simp only[hn,decide_false,aQ] at h0 ⊢
   have h1:=hf r (by simp) l h h' (by omega)
   have h2:=ny0 rs (f r l) (fun r hr=>hf r (by simp [hr])) (by omega) h1.1 h0
   refine⟨h2.1,fun x hx=> ?_⟩
   rcases List.mem_cons.1 hx with rfl | hx
   ·exact h1.2
   ·exact h2.2 x hx
def oX {α:Type} (a:List α) (left:Int):Int:=bif decide (nL (left - len a)<0) then -1 else nL (left - len a)
theorem npj {α:Type} {a:List α} {left:Int} (h1:0≤left) (h2:left≤1048576) (ha:a.length≤9223372036854775807):nL (left - len a)=left - len a∧0≤len a:=by
 have hl:(0:Int)≤len a:=by simp [len]
 have hh:(len a)≤9223372036854775807:=by simp only[len];omega
 exact⟨nF (by omega) (by omega),hl⟩
theorem v_ {a:Rows} {left:Int} (h1:0≤left) (h2:left≤1048576) (ha:a.length≤9223372036854775807) (h0:0≤oX a left):oX a left≤1048576∧sm a=true:=by
 obtain⟨e,hl⟩:=npj h1 h2 ha
 simp only[oX,e] at h0 ⊢
 by_cases hn:left - len a<0
 ·simp [hn] at h0
 ·simp only[hn,decide_false,aQ] at h0 ⊢
  refine⟨by omega,Lu ?_⟩
  simp only[len] at hn
  omega
theorem ngQ {f:List DC→Int→Int} {P:List DC→Prop} {a:Rows} {left:Int} (hf:∀r∈a,∀l,0≤l→l≤1048576→0≤f r l→f r l≤1048576∧P r)
  (h1:0≤left) (h2:left≤1048576) (ha:a.length≤9223372036854775807) (h0:0≤YF f a left):YF f a left≤1048576∧sm a=true∧∀r∈a,P r:=by
 obtain⟨e,hl⟩:=npj h1 h2 ha
 simp only[YF,e] at h0 ⊢
 by_cases hn:left - len a<0
 ·simp [hn] at h0
 ·simp only[hn,decide_false,aQ] at h0 ⊢
  have h3:=ny0 a (left - len a) hf (by omega) (by omega) h0
  refine⟨h3.1,Lu ?_,h3.2⟩
  simp only[len] at hn
  omega
theorem nwD {α:Type} (f:List DC→Int→Int) (k:Int→α):∀(a:Rows) (i:Nat) (l:Int),
  yD (σ:=Int) (fun _ r c l=>bif decide (f r l<0) then k (-1) else c (f r l)) k a i l=k (nxs f a l)
 | [],_,_=>rfl
 | r::rs,i,l=>by
  simp only[yD,nxs]
  cases hd:decide (f r l<0)
  ·simpa [hd] using nwD f k rs (i+1) (f r l)
  ·rfl
theorem nAq {k:IntKind} {r:List DC} (h:kd [.int k] r):[.int (rI r 0)]=r:=by
 obtain⟨n,ds,rfl,_,h2⟩:=nN h
 obtain rfl:=nk h2
 rfl
theorem nz1 {r:List DC} (h:kd [.bool] r):[.bool (rB r 0)]=r:=by
 obtain⟨n,ds,rfl,_,h2⟩:=nui h
 obtain rfl:=nk h2
 rfl
theorem nxk {r:List DC} (h:kd [.str] r):[.str (rS r 0)]=r:=by
 obtain⟨n,ds,rfl,_,h2⟩:=rA h
 obtain rfl:=nk h2
 rfl
theorem sr {a:Rows} {i:Nat} (h:i<a.length):nth a i∈a:=by
 have:nth a i=a[i]:=by simp [nth,h]
 rw[this]
 exact List.getElem_mem h
theorem nzK {α:Type} {c:Bool} {x y:α} (h:c=true):(bif c then x else y)=x:=by rw[h];rfl
theorem xt {g x y:Bool} (h1:g=true→x=true) (h2:g=false→y=true):L0 g x y=true:=by
 cases g
 ·rw[Fv];exact h2 rfl
 ·rw[Fv];exact h1 rfl
theorem Pm (g:Bool):L0 g true true=true:=rfl
def q_ (p:Nat→List DC→Bool):Rows→Nat→Bool
 | [],_=>false
 | r::rs,i=>bif p i r then true else q_ p rs (i+1)
theorem xe {α:Type} (p:Nat→List DC→Bool) (x y:α):∀(list:Rows) (i:Nat),
  yD (σ:=Unit) (fun i r c s=>bif p i r then x else c s) (fun _=>y) list i ()=bif q_ p list i then x else y
 | [],_=>rfl
 | r::rs,i=>by
  simp only[yD,q_]
  cases p i r
  ·exact xe p x y rs (i+1)
  ·rfl
def findIdx (p:Nat→List DC→Bool):Rows→Nat→Int
 | [],_=> -1
 | r::rs,i=>bif p i r then (i:Int) else findIdx p rs (i+1)
theorem nbz {α:Type} (p:Nat→List DC→Bool) (k:Int→α):∀(list:Rows) (i:Nat),
  yD (σ:=Unit) (fun i r c s=>bif p i r then k (i:Int) else c s) (fun _=>k (-1)) list i ()=k (findIdx p list i)
 | [],_=>rfl
 | r::rs,i=>by
  simp only[yD,findIdx]
  cases p i r
  ·exact nbz p k rs (i+1)
  ·rfl
theorem nxu {α:Type} {a:List α} {left:Int} (ha:a.length≤9223372036854775807) (h1:0≤left) (h2:left≤1048576) (h0:0≤nL (left - len a)):nL (left - len a)≤1048576∧a.length≤1048576:=by
 obtain⟨e,hl⟩:=npj h1 h2 ha
 rw[e] at h0 ⊢
 simp only[len] at h0 hl ⊢
 omega
theorem oA {α β:Type} {c:Bool} {x y:α} {a b:β} {K:β→α} (h1:c=true→x=K a) (h2:c=false→y=K b):(bif c then x else y)=K (bif c then a else b):=by
 cases c
 ·exact h2 rfl
 ·exact h1 rfl
theorem nY {α:Type} {c:Bool} {x y kf:α} (hg:c=true) (h:x=y):(bif c then x else kf)=y:=by rw[hg];exact h
def itN {σ:Type} (f:Nat→σ→σ):Nat→Nat→σ→σ
 | 0,_,s=>s
 | m+1,i,s=>itN f m (i+1) (f i s)
theorem nsz {α σ:Type} (m:Nat) (L:Nat→Int→σ→α) (f:Nat→σ→σ) (fin:σ→α) (I:σ→Prop) (hI:∀i s,i<m→I s→I (f i s))
  (hs:∀n (i:Nat) s,i<m→I s→L (n+1) (i:Int) s=L n ((i:Int)+1) (f i s))
  (he:∀n s,I s→L (n+1) (m:Int) s=fin s):∀(n:Nat) (s:σ),I s→m<n→L n 0 s=fin (itN f m 0 s):=by
 have key:∀(k n i:Nat) (s:σ),I s→i+k=m→k<n→L n (i:Int) s=fin (itN f k i s):=by
  intro k
  induction k with
  | zero=>
   intro n i s h0 h1 h2
   cases n with
   | zero=>omega
   | succ n=>
    have:i=m:=by omega
    subst this
    exact he n s h0
  | succ k ih=>
   intro n i s h0 h1 h2
   cases n with
   | zero=>omega
   | succ n=>
    rw[hs n i s (by omega) h0]
    have:=ih n (i+1) (f i s) (hI i s (by omega) h0) (by omega) (by omega)
    simpa [itN] using this
 intro n s h0 h
 simpa using key m n 0 s h0 (by omega) h
theorem nyQ {σ:Type} {f:Nat→σ→σ} {I:σ→Prop} {B:Nat} (hI:∀i s,i<B→I s→I (f i s)):∀(m i:Nat) (s:σ),i+m≤B→I s→I (itN f m i s)
 | 0,_,_,_,h=>h
 | m+1,i,s,hb,h=>nyQ hI m (i+1) (f i s) (by omega) (hI i s (by omega) h)
def zh (p:Nat→Bool):Nat→Nat→Bool
 | 0,_=>false
 | m+1,i=>bif p i then true else zh p m (i+1)
theorem nsx {α:Type} (p:Nat→Bool) (x y:α):∀(m i:Nat),npJ (σ:=Unit) (fun i c s=>bif p i then x else c s) (fun _=>y) m i ()=bif zh p m i then x else y
 | 0,_=>rfl
 | m+1,i=>by
  simp only[npJ,zh]
  cases p i
  ·exact nsx p x y m (i+1)
  ·rfl
theorem nsM (p:Nat→Bool):∀(m i:Nat),zh p m (i+1)=zh (fun j=>p (j+1)) m i
 | 0,_=>rfl
 | m+1,i=>by simp only[zh];rw[nsM p m (i+1)]
theorem nsL {p q:Nat→Bool} :∀(m i:Nat),(∀j,i≤j→j<i+m→p j=q j)→zh p m i=zh q m i
 | 0,_,_=>rfl
 | m+1,i,h=>by
  simp only[zh]
  rw[h i (by omega) (by omega),nsL m (i+1) (fun j h1 h2=>h j (by omega) (by omega))]
theorem nja (p:Nat→List DC→Bool):∀(list:Rows) (s i:Nat),i<list.length→p (s+i) (nth list i)=true→(findIdx p list s != ((s+i:Nat):Int))=zh (fun j=>p (s+j) (nth list j)) i 0
 | [],_,_,h,_=>by simp at h
 | r::rs,s,0,_,h=>by
  have h:p s r=true:=h
  simp only[findIdx,h,aj,zh,Nat.add_zero,bne_self_eq_false]
 | r::rs,s,i+1,hi,h=>by
  have h2:p (s+1+i) (nth rs i)=true:=by
   rw[show s+1+i=s+(i+1) by omega]
   exact h
  have ih:=nja p rs (s+1) i (by simpa using hi) h2
  simp only[findIdx,zh]
  have e0:nth (r::rs) 0=r:=rfl
  rw[Nat.add_zero,e0]
  cases hp:p s r
  ·simp only[aQ]
   rw[show ((s+(i+1):Nat):Int)=((s+1+i:Nat):Int) by omega,ih,nsM]
   apply nsL
   intro j _ _
   rw[show s+1+j=s+(j+1) by omega]
   rfl
  ·simp only[aj]
   simp only[bne_iff_ne,ne_eq]
   omega
theorem x8 {α:Type} (list:Rows) (L:Nat→Int→α) (step:Nat→List DC→α→α) (fin:α)
  (hs:∀n (i:Nat),i<list.length→L (n+1) (i:Int)=step i (nth list i) (L n ((i:Int)+1)))
  (he:∀n,L (n+1) (list.length:Int)=fin) (n:Nat) (hn:list.length<n):L n 0=yD (σ:=Unit) (fun i r k s=>step i r (k s)) (fun _=>fin) list 0 ():=by
 have:=npK (σ:=Unit) list (fun n i _=>L n i) (fun i r k s=>step i r (k s)) (fun _=>fin) (fun n i _ h=>hs n i h) (fun n _=>he n) n 0 () (Nat.zero_le _) (by omega)
 simpa using this
theorem nkS {p q:Nat→List DC→Bool} :∀(l:Rows) (s:Nat),(∀i,i<l.length→p (s+i) (nth l i)=q (s+i) (nth l i))→q_ p l s=q_ q l s
 | [],_,_=>rfl
 | r::rs,s,h=>by
  have h0:p s r=q s r:=h 0 (by simp)
  simp only[q_]
  have hh:∀i,i<rs.length→p (s+1+i) (nth rs i)=q (s+1+i) (nth rs i):=by
   intro i hi
   have h2:p (s+(i+1)) (nth rs i)=q (s+(i+1)) (nth rs i):=h (i+1) (by simp only[dx];omega)
   have e:s+1+i=s+(i+1):=by omega
   rw[e]
   exact h2
  rw[h0,nkS rs (s+1) hh]
def vL (f:Int→List DC) (c:Int):Nat→Int→Rows
 | 0,_=>[]
 | n+1,k=>f k::vL f c n (k+c)
theorem qq (f:Int→List DC) (c:Int):∀(n:Nat) (k:Int),(vL f c n k).length=n
 | 0,_=>rfl
 | n+1,k=>by simp only[vL,dx,qq f c n]
theorem nxY (f:Int→List DC) (c:Int):∀(n:Nat) (k:Int),vL f c (n+1) k=vL f c n k++[f (k+c*n)]
 | 0,k=>by simp [vL]
 | n+1,k=>by
  have:=nxY f c n (k+c)
  have e:k+c+c*(n:Int)=k+c*((n+1:Nat):Int):=by
   rw[show ((n+1:Nat):Int)=(n:Int)+1 by omega,Int.mul_add];omega
  rw[e] at this
  rw[vL,this]
  simp only[vL,List.cons_append]
theorem nyU (f:Int→List DC) (c:Int):∀(n i:Nat) (k:Int),i<n→nth (vL f c n k) i=f (k+c*i)
 | 0,i,k,h=>by omega
 | n+1,0,k,_=>by simp [vL,nth]
 | n+1,i+1,k,h=>by
  have:=nyU f c n i (k+c) (by omega)
  have e:k+c+c*(i:Int)=k+c*((i+1:Nat):Int):=by
   rw[show ((i+1:Nat):Int)=(i:Int)+1 by omega,Int.mul_add];omega
  rw[e] at this
  rw[vL]
  show nth (vL f c n (k+c)) i=_
  exact this
theorem ng6 {α:Type} (a0:Rows) (k0 c:Int) (f:Int→List DC) (L:Nat→Int→Int→Rows→α) (K:Int→Rows→α)
  (hs:∀n (i:Nat) a,i<a0.length→a.length=a0.length→nth a i=nth a0 i→L (n+1) (k0+c*i) (i:Int) a=L n (k0+c*i+c) ((i:Int)+1) (a.set i (f (k0+c*i))))
  (he:∀n a,a.length=a0.length→L (n+1) (k0+c*a0.length) (a0.length:Int) a=K (k0+c*a0.length) a):
  L (a0.length+1) k0 0 a0=K (k0+c*a0.length) (vL f c a0.length k0):=by
 have key:∀(n i:Nat),i≤a0.length→a0.length<n+i→L n (k0+c*i) (i:Int) (vL f c i k0++a0.drop i)=K (k0+c*a0.length) (vL f c a0.length k0):=by
  intro n
  induction n with
  | zero=>intro i h1 h2;omega
  | succ n ih=>
   intro i h1 h2
   by_cases h:i<a0.length
   ·have e1:nth (vL f c i k0++a0.drop i) i=nth a0 i:=by
     simp only[nth]
     rw[List.getD_eq_getElem?_getD,List.getD_eq_getElem?_getD,List.getElem?_append_right (by rw[qq];omega),qq]
     simp
    rw[hs n i _ h (by simp [qq];omega) e1]
    have e2:(vL f c i k0++a0.drop i).set i (f (k0+c*i))=vL f c (i+1) k0++a0.drop (i+1):=by
     rw[List.set_append_right _ _ (by rw[qq];omega),qq,Nat.sub_self,nxY,List.drop_eq_getElem_cons h,List.set_cons_zero,List.append_assoc]
     rfl
    rw[e2]
    have:=ih (i+1) (by omega) (by omega)
    rw[show k0+c*((i+1:Nat):Int)=k0+c*i+c by rw[show ((i+1:Nat):Int)=(i:Int)+1 by omega,Int.mul_add];omega] at this
    simpa using this
   ·have:i=a0.length:=by omega
    subst this
    rw[he n _ (by simp [qq])]
    simp
 have:=key (a0.length+1) 0 (Nat.zero_le _) (by omega)
 simpa [vL] using this
theorem ng3 {α:Type} (a:Rows) (k0 c:Int) (f:Int→List DC) (L:Nat→Int→Int→α) (K:Int→α)
  (ha:a=vL f c a.length k0)
  (hs:∀n (i:Nat),i<a.length→nth a i=f (k0+c*i)→L (n+1) (k0+c*i) (i:Int)=L n (k0+c*i+c) ((i:Int)+1))
  (he:∀n,L (n+1) (k0+c*a.length) (a.length:Int)=K (k0+c*a.length)):
  L (a.length+1) k0 0=K (k0+c*a.length):=by
 have key:∀(n i:Nat),i≤a.length→a.length<n+i→L n (k0+c*i) (i:Int)=K (k0+c*a.length):=by
  intro n
  induction n with
  | zero=>intro i h1 h2;omega
  | succ n ih=>
   intro i h1 h2
   by_cases h:i<a.length
   ·have e1:nth a i=f (k0+c*i):=by
     have:=nyU f c a.length i k0 h
     rwa [←ha] at this
    rw[hs n i h e1]
    have:=ih (i+1) (by omega) (by omega)
    rw[show k0+c*((i+1:Nat):Int)=k0+c*i+c by rw[show ((i+1:Nat):Int)=(i:Int)+1 by omega,Int.mul_add];omega] at this
    simpa using this
   ·have:i=a.length:=by omega
    subst this
    exact he n
 have:=key (a.length+1) 0 (Nat.zero_le _) (by omega)
 simpa using this
theorem nyF (n:Int):rI [.int n] 0=n:=rfl
theorem nAX (n:Bool):rB [.bool n] 0=n:=rfl
theorem O4:∀ {cs:List CT} {r:List DC},kd cs r→r.length=cs.length
 | [],r,h=>by rw[kd] at h;rw[h];rfl
 | c::cs,r,h=>by
  rw[kd] at h
  obtain⟨d,r',rfl,_,h⟩:=h
  simp only[dx,O4 h]
theorem nxM {α:Type} (n:Int) (l:List α) (i:Nat) (x:α):idx n (l.set i x)=idx n l:=by simp only[idx,List.length_set]
theorem nxT {α:Type} (n:Nat) (l:List α) (i:Nat) (x:α):inl n (l.set i x)=inl n l:=by simp only[inl,List.length_set]
theorem na9 {l:Rows} {i:Nat} (h:i<l.length) (x:List DC):nth (l.set i x) i=x:=by
 simp only[nth]
 rw[List.getD_eq_getElem?_getD,List.getElem?_set_self h]
 rfl
theorem nf2 (n:Bytes):rS [.str n] 0=n:=rfl
theorem r_ {z ds:List DC} (h:z.length=ds.length):bX z 0 ds=ds:=by
 simp [bX,h]
def PC (c:Int) (a:Rows) (k:Int):Bool:=sm a && (decide (0≤k) && decide (k≤1125899906842624))
theorem WA {c:Int} {a:Rows} {k:Int} (h:PC c a k=true):a.length≤16777216∧0≤k∧k≤1125899906842624:=by
 simp only[PC,aw,eX] at h
 exact⟨uy h.1,h.2⟩
noncomputable def QW (f:Int→List DC) (c:Int) (a:Rows) (k:Int):Bool:=same a (vL f c a.length k) && PC c a k
theorem nw2 {f:Int→List DC} {c:Int} {a:Rows} {k:Int} (h:QW f c a k=true):a=vL f c a.length k∧a.length≤16777216∧0≤k∧k≤1125899906842624:=by
 simp only[QW,aw] at h
 exact⟨sf h.1,WA h.2⟩
theorem zA {c:Int} {a:Rows} {k:Int} (h:sm a=true) (h0:0≤k) (h1:k≤1125899906842624):PC c a k=true:=by
 simp only[PC,h,Bool.true_and,aw,eX]
 exact⟨h0,h1⟩
theorem PN {f:Int→List DC} {c:Int} {a:Rows} {k:Int} (h:sm a=true) (h0:0≤k) (h1:k≤1125899906842624):QW f c (vL f c a.length k) k=true:=by
 have e:sm (vL f c a.length k)=true:=by simp only[sm,qq];exact h
 simp only[QW,zA e h0 h1,qq,pQ,Bool.and_true]
theorem nw4 {α:Type} {i:Nat} {l:List α} {n:Nat} (hl:l.length=n) (h:i<n):idx (i:Int) l=true:=nR (by omega)
theorem nzg (a b:Int):wD a b=wD b a:=by unfold wD;split<;>split<;>omega
theorem qY {a:Rows} {z:Nat} (h:sm a=true) (hz:z≤8388608):qx z [] a=true:=by
 have h:=uy h
 have h2:a.length*z≤16777216*8388608:=Nat.mul_le_mul h hz
 simp only[qx,List.length_nil,Nat.zero_add,aw]
 exact⟨Lu (by omega),Lu (by omega)⟩
theorem Oc {a b:Rows} {z:Nat} (h:a.length+b.length≤134217728) (hz:z≤1048576):qx z a b=true:=by
 have h2:(a.length+b.length)*z≤134217728*1048576:=Nat.mul_le_mul h hz
 simp only[qx,aw]
 exact⟨Lu (by omega),Lu (by omega)⟩
theorem nxW {α:Type} (a:Rows) (L:Nat→Int→Rows→α) (K:Rows→α) (f:List DC→List DC)
  (hs:∀n (i:Nat) out,i<a.length→out.length=a.length→nth out i=nth a i→L (n+1) (i:Int) out=L n ((i:Int)+1) (out.set i (f (nth a i))))
  (he:∀n out,out.length=a.length→L (n+1) (a.length:Int) out=K out):L (a.length+1) 0 a=K (a.map f):=by
 have key:∀(n i:Nat),i≤a.length→a.length<n+i→L n (i:Int) ((a.take i).map f++a.drop i)=K (a.map f):=by
  intro n
  induction n with
  | zero=>intro i h1 h2;omega
  | succ n ih=>
   intro i h1 h2
   by_cases h:i<a.length
   ·have hl:((a.take i).map f).length=i:=by simp;omega
    have e1:nth ((a.take i).map f++a.drop i) i=nth a i:=by
     simp only[nth]
     rw[List.getD_eq_getElem?_getD,List.getD_eq_getElem?_getD,List.getElem?_append_right (by omega),hl]
     simp
    rw[hs n i _ h (by simp;omega) e1]
    have e2:nth a i=a[i]:=by simp [nth,h]
    have e3:((a.take i).map f++a.drop i).set i (f (nth a i))=(a.take (i+1)).map f++a.drop (i+1):=by
     rw[List.set_append_right _ _ (by omega),hl,Nat.sub_self,List.drop_eq_getElem_cons h,List.set_cons_zero,List.take_add_one,List.getElem?_eq_getElem h,e2]
     simp only[Option.toList_some,List.map_append,List.map_cons,List.map_nil,List.append_assoc,List.cons_append,List.nil_append]
    rw[e3]
    have:=ih (i+1) (by omega) (by omega)
    simpa using this
   ·have:i=a.length:=by omega
    subst this
    rw[he _ _ (by simp)]
    simp
 have:=key (a.length+1) 0 (Nat.zero_le _) (by omega)
 simpa using this
theorem yt {α σ:Type} (m:Nat) (L:Nat→Int→σ→α) (f:Nat→σ→σ) (fin:σ→α) (I:Nat→σ→Prop) (hI:∀i s,i<m→I i s→I (i+1) (f i s))
  (hs:∀n (i:Nat) s,i<m→I i s→L (n+1) (i:Int) s=L n ((i:Int)+1) (f i s))
  (he:∀n s,I m s→L (n+1) (m:Int) s=fin s):∀(n:Nat) (s:σ),I 0 s→m<n→L n 0 s=fin (itN f m 0 s):=by
 have key:∀(k n i:Nat) (s:σ),I i s→i+k=m→k<n→L n (i:Int) s=fin (itN f k i s):=by
  intro k
  induction k with
  | zero=>
   intro n i s h0 h1 h2
   cases n with
   | zero=>omega
   | succ n=>
    have:i=m:=by omega
    subst this
    exact he n s h0
  | succ k ih=>
   intro n i s h0 h1 h2
   cases n with
   | zero=>omega
   | succ n=>
    rw[hs n i s (by omega) h0]
    have:=ih n (i+1) (f i s) (hI i s (by omega) h0) (by omega) (by omega)
    simpa [itN] using this
 intro n s h0 h
 simpa using key m n 0 s h0 (by omega) h
theorem nZ {n a b:Int} :(bif decide (a≤n) then decide (n≤b) else false)=true↔a≤n∧n≤b:=by
 by_cases h:a≤n<;>simp [h]
theorem t_ (s:Bytes):(ofStr s).length=s.length:=by simp [ofStr]
theorem zG (s:Bytes):toStr (ofStr s)=s:=by
 simp only[toStr,ofStr,List.map_map]
 have:(Vm.byteOf ∘ Vm.cY)=id:=by
  funext b
  simp [Vm.byteOf,Vm.cY,DC.asInt]
 rw[this,List.map_id]
theorem nzi {n:Int} (h0:0≤n) (h1:n≤255):Vm.cY (UInt8.ofNat n.toNat)=[.int n]:=by
 have:(UInt8.ofNat n.toNat).toNat=n.toNat:=by rw[UInt8.toNat_ofNat'];omega
 simp only[Vm.cY,this]
 congr 2
 omega
theorem nbK (a b:DC):bX [a] 0 [b]=[b]:=rfl
end Go.Proofs.YtnlkklmcfafgeaaGreat.Pl
