/- Plain lemmas: wrapping numbers, rows of a list one after another. Conditions: none. -/
import Derived.Test.YtoaflbnkiobhdaaGreatPre
import Derived.IntWalk
set_option linter.unusedVariables false
namespace Go.Proofs.YtoaflbnkiobhdaaGreat.Pl
open Vm
theorem nmR (n:Int):nS n=(n+9223372036854775808) % 18446744073709551616 - 9223372036854775808:=by
 unfold nS
 rw[IntKind.wrap_i64]
theorem nJ {n:Int} (h1: -9223372036854775808≤n) (h2:n≤9223372036854775807):nS n=n:=by
 rw[nmR];omega
theorem nwr (n:Int):nS n≤9223372036854775807:=by rw[nmR];omega
theorem ne0:maxLen=9223372036854775807:=rfl
theorem wy {n:Int} (h:G3 (.int .i64) (.int n)): -9223372036854775808≤n∧n≤9223372036854775807:=by
 simp only[G3,DC.int.injEq] at h
 obtain⟨m,rfl,h⟩:=h
 simpa [BQ,IntKind.min,IntKind.max,IntKind.signed,IntKind.bits] using h
theorem zf {s:Bytes} (h:G3 .str (.str s)):s.length≤9223372036854775807:=by
 simp only[G3,DC.str.injEq] at h
 obtain⟨m,rfl,h⟩:=h
 rw[ne0] at h
 exact h
theorem oS {e:List CT} {r:Rows} (h:G3 (.sl e) (.sl r)):r.length≤9223372036854775807∧∀x∈r,ka e x:=by
 simp only[G3,DC.sl.injEq] at h
 obtain⟨m,rfl,h1,h2⟩:=h
 rw[ne0] at h1
 exact⟨h1,h2⟩
theorem ng (x:Bool):Ec true x=x:=by cases x<;>rfl
theorem nv (x:Bool):Ec x true=x:=rfl
theorem pL {α:Type} {i:Nat} {l:List α} (h:i<l.length):decide ((i:Int)<len l)=true:=by
 exact decide_eq_true (by simp only[len];omega)
theorem nX {α:Type} (l:List α):decide ((l.length:Int)<len l)=false:=by
 simp [len]
theorem n9 {α:Type} {i:Nat} {l:List α} (h:i<l.length):idx (i:Int) l=true:=by
 simp only[idx,Bool.and_eq_true,decide_eq_true_eq];omega
theorem oE {α:Type} {i:Nat} {l:List α} (h:i<l.length) (hl:l.length≤9223372036854775807):nS ((i:Int)+1)=(i:Int)+1:=by
 apply nJ<;>omega
theorem sF {α:Type} {i:Nat} {l:List α} (h:i<l.length):inl i l=true:=by simpa [inl] using h
def x8 {α σ:Type} (step:Nat→List DC→(σ→α)→σ→α) (fin:σ→α):Rows→Nat→σ→α
 | [],_,s=>fin s
 | r::rs,i,s=>step i r (x8 step fin rs (i+1)) s
theorem nm8 {α σ:Type} (list:Rows) (L:Nat→Int→σ→α) (step:Nat→List DC→(σ→α)→σ→α) (fin:σ→α)
  (hs:∀n (i:Nat) s,i<list.length→L (n+1) (i:Int) s=step i (nth list i) (L n ((i:Int)+1)) s)
  (he:∀n s,L (n+1) (list.length:Int) s=fin s):
  ∀(n i:Nat) (s:σ),i≤list.length→list.length<n+i→L n (i:Int) s=x8 step fin (list.drop i) i s:=by
 intro n
 induction n with
 | zero=>intro i s h1 h2;omega
 | succ n ih=>
  intro i s h1 h2
  by_cases h:i<list.length
  ·rw[hs n i s h,List.drop_eq_getElem_cons h]
   simp only[x8]
   have:nth list i=list[i]:=by simp [nth,h]
   rw[this]
   have e:(fun s=>L n ((i:Int)+1) s)=x8 step fin (list.drop (i+1)) (i+1):=by
    funext s
    have:=ih (i+1) s (by omega) (by omega)
    simpa using this
   exact congrArg (fun k=>step i list[i] k s) e
  ·have:i=list.length:=by omega
   subst this
   rw[he,List.drop_eq_nil_of_le (Nat.le_refl _)]
   rfl
theorem TH {α σ:Type} (list:Rows) (L:Nat→Int→σ→α) (step:Nat→List DC→(σ→α)→σ→α) (fin:σ→α)
  (hs:∀n (i:Nat) s,i<list.length→L (n+1) (i:Int) s=step i (nth list i) (L n ((i:Int)+1)) s)
  (he:∀n s,L (n+1) (list.length:Int) s=fin s) (s:σ):L (list.length+1) 0 s=x8 step fin list 0 s:=by
 have:=nm8 list L step fin hs he (list.length+1) 0 s (Nat.zero_le _) (by omega)
 simpa using this
theorem sJ {α:Type} (list:Rows) (L:Nat→Int→α) (step:Nat→List DC→α→α) (fin:α)
  (hs:∀n (i:Nat),i<list.length→L (n+1) (i:Int)=step i (nth list i) (L n ((i:Int)+1)))
  (he:∀n,L (n+1) (list.length:Int)=fin):L (list.length+1) 0=x8 (σ:=Unit) (fun i r k s=>step i r (k s)) (fun _=>fin) list 0 ():=by
 have:=TH (σ:=Unit) list (fun n i _=>L n i) (fun i r k s=>step i r (k s)) (fun _=>fin) (fun n i _ h=>hs n i h) (fun n _=>he n) ()
 exact this
theorem Rp {α:Type} (p:List DC→Bool) (x y:α) (list:Rows) (i:Nat):
  x8 (σ:=Unit) (fun _ r c s=>bif !(p r) then x else c s) (fun _=>y) list i ()=bif list.all p then y else x:=by
 induction list generalizing i with
 | nil=>rfl
 | cons r rs ih=>
  simp only[x8,List.all_cons]
  cases hp:p r
  ·rfl
  ·simpa [hp] using ih (i+1)
theorem npH {α:Type} (y:α) (list:Rows) (i:Nat):x8 (σ:=Unit) (fun _ _ c s=>c s) (fun _=>y) list i ()=y:=by
 induction list generalizing i with
 | nil=>rfl
 | cons r rs ih=>exact ih (i+1)
def nm7 {α σ:Type} (step:Nat→(σ→α)→σ→α) (fin:σ→α):Nat→Nat→σ→α
 | 0,_,s=>fin s
 | m+1,i,s=>step i (nm7 step fin m (i+1)) s
theorem njX {α σ:Type} (m:Nat) (L:Nat→Int→σ→α) (step:Nat→(σ→α)→σ→α) (fin:σ→α)
  (hs:∀n (i:Nat) s,i<m→L (n+1) (i:Int) s=step i (L n ((i:Int)+1)) s)
  (he:∀n s,L (n+1) (m:Int) s=fin s):∀(n:Nat) (s:σ),m<n→L n 0 s=nm7 step fin m 0 s:=by
 have key:∀(k n i:Nat) (s:σ),i+k=m→k<n→L n (i:Int) s=nm7 step fin k i s:=by
  intro k
  induction k with
  | zero=>
   intro n i s h1 h2
   cases n with
   | zero=>omega
   | succ n=>
    have:i=m:=by omega
    subst this
    exact he n s
  | succ k ih=>
   intro n i s h1 h2
   cases n with
   | zero=>omega
   | succ n=>
    rw[hs n i s (by omega)]
    have e:(fun s=>L n ((i:Int)+1) s)=nm7 step fin k (i+1):=by
     funext s
     have:=ih n (i+1) s (by omega) (by omega)
     simpa using this
    exact congrArg (fun c=>step i c s) e
 intro n s h
 simpa using key m n 0 s (by omega) h
def sm (a:Rows):Bool:=decide (a.length≤16777216)
theorem uG {a:Rows} (h:sm a=true):a.length≤16777216:=of_decide_eq_true h
theorem nt5 {a:Rows} {z:Nat} (h:sm a=true) (hz:z≤8388608):wW z (len a) (len a)=true:=by
 have h:=uG h
 have h2:a.length*z≤16777216*8388608:=Nat.mul_le_mul h hz
 simp only[wW,len,Int.toNat_natCast,Bool.and_eq_true]
 refine⟨⟨⟨decide_eq_true (by omega),decide_eq_true (by omega)⟩,decide_eq_true (by omega)⟩,decide_eq_true (by omega)⟩
open Classical in
noncomputable def same {α:Type} (a b:α):Bool:=decide (a=b)
theorem sA {α:Type} {a b:α} (h:same a b=true):a=b:= @of_decide_eq_true _ (Classical.propDecidable _) h
theorem qu {α:Type} (a:α):same a a=true:= @decide_eq_true _ (Classical.propDecidable _) rfl
theorem npW {α:Type} (a:Rows) (L:Nat→Int→Rows→α) (k:Rows→α) (z:List DC) (f:List DC→List DC→List DC)
  (hs:∀n (i:Nat) out,i<a.length→out.length=a.length→L (n+1) (i:Int) out=L n ((i:Int)+1) (out.set i (f (nth out i) (nth a i))))
  (he:∀n out,out.length=a.length→L (n+1) (a.length:Int) out=k out)
  (hf:∀r∈a,f z r=r):L (a.length+1) 0 (List.replicate a.length z)=k a:=by
 have key:∀(n i:Nat),i≤a.length→a.length<n+i→L n (i:Int) (a.take i++List.replicate (a.length - i) z)=k a:=by
  intro n
  induction n with
  | zero=>intro i h1 h2;omega
  | succ n ih=>
   intro i h1 h2
   by_cases h:i<a.length
   ·rw[hs n i _ h (by simp;omega)]
    have e1:nth (a.take i++List.replicate (a.length - i) z) i=z:=by
     simp only[nth]
     rw[List.getD_eq_getElem?_getD,List.getElem?_append_right (by simp;omega)]
     simp [Nat.min_eq_left h1,show 0<a.length - i by omega]
    have e2:nth a i=a[i]:=by simp [nth,h]
    rw[e1,e2,hf _ (List.getElem_mem h)]
    have e3:(a.take i++List.replicate (a.length - i) z).set i a[i]=a.take (i+1)++List.replicate (a.length - (i+1)) z:=by
     rw[List.set_append_right _ _ (by simp;omega)]
     rw[List.take_add_one,List.getElem?_eq_getElem h]
     simp only[List.length_take,Nat.min_eq_left h1,Nat.sub_self,Option.toList_some,List.append_assoc]
     congr 1
     rw[show a.length - i=(a.length - (i+1))+1 by omega,List.replicate_succ,List.set_cons_zero]
     rfl
    rw[e3]
    have:=ih (i+1) (by omega) (by omega)
    simpa using this
   ·have:i=a.length:=by omega
    subst this
    rw[he _ _ (by simp)]
    simp
 have:=key (a.length+1) 0 (Nat.zero_le _) (by omega)
 simpa using this
def pK {α β:Type} (_:α) (_:β):Bool:=true
def oB {α:Type} (a:α):α:=a
theorem sn {α:Type} {c o:Bool} {x y kd:α} (h:o=true→x=y) (aJ:(bif c then o else false)=true):(bif c then x else kd)=y:=by
 cases c
 ·cases aJ
 ·exact h aJ
def nuh (f:List DC→Int→Int):Rows→Int→Int
 | [],l=>l
 | r::rs,l=>bif decide (f r l<0) then -1 else nuh f rs (f r l)
def Xe (f:List DC→Int→Int) (a:Rows) (left:Int):Int:=
 bif decide (nS (left - len a)<0) then -1 else nuh f a (nS (left - len a))
theorem nvB {f:List DC→Int→Int} {P:List DC→Prop} :
  ∀(a:Rows) (l:Int),(∀r∈a,∀l,0≤l→l≤1048576→0≤f r l→f r l≤1048576∧P r)→0≤l→l≤1048576→0≤nuh f a l→nuh f a l≤1048576∧∀r∈a,P r
 | [],l,_,_,h,_=>⟨h,by simp⟩
 | r::rs,l,hf,h,h',h0=>by
  simp only[nuh] at h0 ⊢
  by_cases hn:f r l<0
  ·simp [hn] at h0
  ·simp only[hn,decide_false,cond_false] at h0 ⊢
   have h1:=hf r (by simp) l h h' (by omega)
   have h2:=nvB rs (f r l) (fun r hr=>hf r (by simp [hr])) (by omega) h1.1 h0
   refine⟨h2.1,fun x hx=> ?_⟩
   rcases List.mem_cons.1 hx with rfl | hx
   ·exact h1.2
   ·exact h2.2 x hx
def pF {α:Type} (a:List α) (left:Int):Int:=bif decide (nS (left - len a)<0) then -1 else nS (left - len a)
theorem nmM {α:Type} {a:List α} {left:Int} (h1:0≤left) (h2:left≤1048576) (ha:a.length≤9223372036854775807):nS (left - len a)=left - len a∧0≤len a:=by
 have hl:(0:Int)≤len a:=by simp [len]
 have hh:(len a)≤9223372036854775807:=by simp only[len];omega
 exact⟨nJ (by omega) (by omega),hl⟩
theorem vK {a:Rows} {left:Int} (h1:0≤left) (h2:left≤1048576) (ha:a.length≤9223372036854775807) (h0:0≤pF a left):pF a left≤1048576∧sm a=true:=by
 obtain⟨e,hl⟩:=nmM h1 h2 ha
 simp only[pF,e] at h0 ⊢
 by_cases hn:left - len a<0
 ·simp [hn] at h0
 ·simp only[hn,decide_false,cond_false] at h0 ⊢
  refine⟨by omega,decide_eq_true ?_⟩
  simp only[len] at hn
  omega
theorem neO {f:List DC→Int→Int} {P:List DC→Prop} {a:Rows} {left:Int} (hf:∀r∈a,∀l,0≤l→l≤1048576→0≤f r l→f r l≤1048576∧P r)
  (h1:0≤left) (h2:left≤1048576) (ha:a.length≤9223372036854775807) (h0:0≤Xe f a left):Xe f a left≤1048576∧sm a=true∧∀r∈a,P r:=by
 obtain⟨e,hl⟩:=nmM h1 h2 ha
 simp only[Xe,e] at h0 ⊢
 by_cases hn:left - len a<0
 ·simp [hn] at h0
 ·simp only[hn,decide_false,cond_false] at h0 ⊢
  have h3:=nvB a (left - len a) hf (by omega) (by omega) h0
  refine⟨h3.1,decide_eq_true ?_,h3.2⟩
  simp only[len] at hn
  omega
theorem nts {α:Type} (f:List DC→Int→Int) (k:Int→α):∀(a:Rows) (i:Nat) (l:Int),
  x8 (σ:=Int) (fun _ r c l=>bif decide (f r l<0) then k (-1) else c (f r l)) k a i l=k (nuh f a l)
 | [],_,_=>rfl
 | r::rs,i,l=>by
  simp only[x8,nuh]
  cases hd:decide (f r l<0)
  ·simpa [hd] using nts f k rs (i+1) (f r l)
  ·rfl
theorem nwF {k:IntKind} {r:List DC} (h:ka [.int k] r):[.int (rI r 0)]=r:=by
 obtain⟨n,ds,rfl,_,h2⟩:=n8 h
 obtain rfl:=nr h2
 rfl
theorem nwk {r:List DC} (h:ka [.bool] r):[.bool (rB r 0)]=r:=by
 obtain⟨n,ds,rfl,_,h2⟩:=nrl h
 obtain rfl:=nr h2
 rfl
theorem nua {r:List DC} (h:ka [.str] r):[.str (rS r 0)]=r:=by
 obtain⟨n,ds,rfl,_,h2⟩:=rU h
 obtain rfl:=nr h2
 rfl
theorem tn {a:Rows} {i:Nat} (h:i<a.length):nth a i∈a:=by
 have:nth a i=a[i]:=by simp [nth,h]
 rw[this]
 exact List.getElem_mem h
theorem nv6 {α:Type} {c:Bool} {x y:α} (h:c=true):(bif c then x else y)=x:=by rw[h];rfl
theorem nd1 {g x y:Bool} (h1:g=true→x=true) (h2:g=false→y=true):LV g x y=true:=by
 cases g
 ·rw[Ft];exact h2 rfl
 ·rw[Ft];exact h1 rfl
theorem PV (g:Bool):LV g true true=true:=rfl
def rL (p:Nat→List DC→Bool):Rows→Nat→Bool
 | [],_=>false
 | r::rs,i=>bif p i r then true else rL p rs (i+1)
theorem zk {α:Type} (p:Nat→List DC→Bool) (x y:α):∀(list:Rows) (i:Nat),
  x8 (σ:=Unit) (fun i r c s=>bif p i r then x else c s) (fun _=>y) list i ()=bif rL p list i then x else y
 | [],_=>rfl
 | r::rs,i=>by
  simp only[x8,rL]
  cases p i r
  ·exact zk p x y rs (i+1)
  ·rfl
def findIdx (p:Nat→List DC→Bool):Rows→Nat→Int
 | [],_=> -1
 | r::rs,i=>bif p i r then (i:Int) else findIdx p rs (i+1)
theorem naf {α:Type} (p:Nat→List DC→Bool) (k:Int→α):∀(list:Rows) (i:Nat),
  x8 (σ:=Unit) (fun i r c s=>bif p i r then k (i:Int) else c s) (fun _=>k (-1)) list i ()=k (findIdx p list i)
 | [],_=>rfl
 | r::rs,i=>by
  simp only[x8,findIdx]
  cases p i r
  ·exact naf p k rs (i+1)
  ·rfl
theorem nuj {α:Type} {a:List α} {left:Int} (ha:a.length≤9223372036854775807) (h1:0≤left) (h2:left≤1048576) (h0:0≤nS (left - len a)):nS (left - len a)≤1048576∧a.length≤1048576:=by
 obtain⟨e,hl⟩:=nmM h1 h2 ha
 rw[e] at h0 ⊢
 simp only[len] at h0 hl ⊢
 omega
theorem qP {α β:Type} {c:Bool} {x y:α} {a b:β} {K:β→α} (h1:c=true→x=K a) (h2:c=false→y=K b):(bif c then x else y)=K (bif c then a else b):=by
 cases c
 ·exact h2 rfl
 ·exact h1 rfl
theorem qL {α:Type} {c:Bool} {x y kd:α} (hg:c=true) (h:x=y):(bif c then x else kd)=y:=by rw[hg];exact h
def itN {σ:Type} (f:Nat→σ→σ):Nat→Nat→σ→σ
 | 0,_,s=>s
 | m+1,i,s=>itN f m (i+1) (f i s)
def yN (p:Nat→Bool):Nat→Nat→Bool
 | 0,_=>false
 | m+1,i=>bif p i then true else yN p m (i+1)
theorem npG {α:Type} (p:Nat→Bool) (x y:α):∀(m i:Nat),nm7 (σ:=Unit) (fun i c s=>bif p i then x else c s) (fun _=>y) m i ()=bif yN p m i then x else y
 | 0,_=>rfl
 | m+1,i=>by
  simp only[nm7,yN]
  cases p i
  ·exact npG p x y m (i+1)
  ·rfl
theorem npT (p:Nat→Bool):∀(m i:Nat),yN p m (i+1)=yN (fun j=>p (j+1)) m i
 | 0,_=>rfl
 | m+1,i=>by simp only[yN];rw[npT p m (i+1)]
theorem npS {p q:Nat→Bool} :∀(m i:Nat),(∀j,i≤j→j<i+m→p j=q j)→yN p m i=yN q m i
 | 0,_,_=>rfl
 | m+1,i,h=>by
  simp only[yN]
  rw[h i (by omega) (by omega),npS m (i+1) (fun j h1 h2=>h j (by omega) (by omega))]
theorem ngK (p:Nat→List DC→Bool):∀(list:Rows) (s i:Nat),i<list.length→p (s+i) (nth list i)=true→(findIdx p list s != ((s+i:Nat):Int))=yN (fun j=>p (s+j) (nth list j)) i 0
 | [],_,_,h,_=>by simp at h
 | r::rs,s,0,_,h=>by
  have h:p s r=true:=h
  simp only[findIdx,h,cond_true,yN,Nat.add_zero,bne_self_eq_false]
 | r::rs,s,i+1,hi,h=>by
  have h2:p (s+1+i) (nth rs i)=true:=by
   rw[show s+1+i=s+(i+1) by omega]
   exact h
  have ih:=ngK p rs (s+1) i (by simpa using hi) h2
  simp only[findIdx,yN]
  have e0:nth (r::rs) 0=r:=rfl
  rw[Nat.add_zero,e0]
  cases hp:p s r
  ·simp only[cond_false]
   rw[show ((s+(i+1):Nat):Int)=((s+1+i:Nat):Int) by omega,ih,npT]
   apply npS
   intro j _ _
   rw[show s+1+j=s+(j+1) by omega]
   rfl
  ·simp only[cond_true]
   simp only[bne_iff_ne,ne_eq]
   omega
theorem xp {α:Type} (list:Rows) (L:Nat→Int→α) (step:Nat→List DC→α→α) (fin:α)
  (hs:∀n (i:Nat),i<list.length→L (n+1) (i:Int)=step i (nth list i) (L n ((i:Int)+1)))
  (he:∀n,L (n+1) (list.length:Int)=fin) (n:Nat) (hn:list.length<n):L n 0=x8 (σ:=Unit) (fun i r k s=>step i r (k s)) (fun _=>fin) list 0 ():=by
 have:=nm8 (σ:=Unit) list (fun n i _=>L n i) (fun i r k s=>step i r (k s)) (fun _=>fin) (fun n i _ h=>hs n i h) (fun n _=>he n) n 0 () (Nat.zero_le _) (by omega)
 simpa using this
theorem nik {p q:Nat→List DC→Bool} :∀(l:Rows) (s:Nat),(∀i,i<l.length→p (s+i) (nth l i)=q (s+i) (nth l i))→rL p l s=rL q l s
 | [],_,_=>rfl
 | r::rs,s,h=>by
  have h0:p s r=q s r:=h 0 (by simp)
  simp only[rL]
  have hh:∀i,i<rs.length→p (s+1+i) (nth rs i)=q (s+1+i) (nth rs i):=by
   intro i hi
   have h2:p (s+(i+1)) (nth rs i)=q (s+(i+1)) (nth rs i):=h (i+1) (by simp only[List.length_cons];omega)
   have e:s+1+i=s+(i+1):=by omega
   rw[e]
   exact h2
  rw[h0,nik rs (s+1) hh]
def vr (f:Int→List DC) (c:Int):Nat→Int→Rows
 | 0,_=>[]
 | n+1,k=>f k::vr f c n (k+c)
theorem qO (f:Int→List DC) (c:Int):∀(n:Nat) (k:Int),(vr f c n k).length=n
 | 0,_=>rfl
 | n+1,k=>by simp only[vr,List.length_cons,qO f c n]
theorem nuK (f:Int→List DC) (c:Int):∀(n:Nat) (k:Int),vr f c (n+1) k=vr f c n k++[f (k+c*n)]
 | 0,k=>by simp [vr]
 | n+1,k=>by
  have:=nuK f c n (k+c)
  have e:k+c+c*(n:Int)=k+c*((n+1:Nat):Int):=by
   rw[show ((n+1:Nat):Int)=(n:Int)+1 by omega,Int.mul_add];omega
  rw[e] at this
  rw[vr,this]
  simp only[vr,List.cons_append]
theorem nvv (f:Int→List DC) (c:Int):∀(n i:Nat) (k:Int),i<n→nth (vr f c n k) i=f (k+c*i)
 | 0,i,k,h=>by omega
 | n+1,0,k,_=>by simp [vr,nth]
 | n+1,i+1,k,h=>by
  have:=nvv f c n i (k+c) (by omega)
  have e:k+c+c*(i:Int)=k+c*((i+1:Nat):Int):=by
   rw[show ((i+1:Nat):Int)=(i:Int)+1 by omega,Int.mul_add];omega
  rw[e] at this
  rw[vr]
  show nth (vr f c n (k+c)) i=_
  exact this
theorem neZ {α:Type} (a0:Rows) (k0 c:Int) (f:Int→List DC) (L:Nat→Int→Int→Rows→α) (K:Int→Rows→α)
  (hs:∀n (i:Nat) a,i<a0.length→a.length=a0.length→nth a i=nth a0 i→L (n+1) (k0+c*i) (i:Int) a=L n (k0+c*i+c) ((i:Int)+1) (a.set i (f (k0+c*i))))
  (he:∀n a,a.length=a0.length→L (n+1) (k0+c*a0.length) (a0.length:Int) a=K (k0+c*a0.length) a):
  L (a0.length+1) k0 0 a0=K (k0+c*a0.length) (vr f c a0.length k0):=by
 have key:∀(n i:Nat),i≤a0.length→a0.length<n+i→L n (k0+c*i) (i:Int) (vr f c i k0++a0.drop i)=K (k0+c*a0.length) (vr f c a0.length k0):=by
  intro n
  induction n with
  | zero=>intro i h1 h2;omega
  | succ n ih=>
   intro i h1 h2
   by_cases h:i<a0.length
   ·have e1:nth (vr f c i k0++a0.drop i) i=nth a0 i:=by
     simp only[nth]
     rw[List.getD_eq_getElem?_getD,List.getD_eq_getElem?_getD,List.getElem?_append_right (by rw[qO];omega),qO]
     simp
    rw[hs n i _ h (by simp [qO];omega) e1]
    have e2:(vr f c i k0++a0.drop i).set i (f (k0+c*i))=vr f c (i+1) k0++a0.drop (i+1):=by
     rw[List.set_append_right _ _ (by rw[qO];omega),qO,Nat.sub_self,nuK,List.drop_eq_getElem_cons h,List.set_cons_zero,List.append_assoc]
     rfl
    rw[e2]
    have:=ih (i+1) (by omega) (by omega)
    rw[show k0+c*((i+1:Nat):Int)=k0+c*i+c by rw[show ((i+1:Nat):Int)=(i:Int)+1 by omega,Int.mul_add];omega] at this
    simpa using this
   ·have:i=a0.length:=by omega
    subst this
    rw[he n _ (by simp [qO])]
    simp
 have:=key (a0.length+1) 0 (Nat.zero_le _) (by omega)
 simpa [vr] using this
theorem neW {α:Type} (a:Rows) (k0 c:Int) (f:Int→List DC) (L:Nat→Int→Int→α) (K:Int→α)
  (ha:a=vr f c a.length k0)
  (hs:∀n (i:Nat),i<a.length→nth a i=f (k0+c*i)→L (n+1) (k0+c*i) (i:Int)=L n (k0+c*i+c) ((i:Int)+1))
  (he:∀n,L (n+1) (k0+c*a.length) (a.length:Int)=K (k0+c*a.length)):
  L (a.length+1) k0 0=K (k0+c*a.length):=by
 have key:∀(n i:Nat),i≤a.length→a.length<n+i→L n (k0+c*i) (i:Int)=K (k0+c*a.length):=by
  intro n
  induction n with
  | zero=>intro i h1 h2;omega
  | succ n ih=>
   intro i h1 h2
   by_cases h:i<a.length
   ·have e1:nth a i=f (k0+c*i):=by
     have:=nvv f c a.length i k0 h
     rwa [←ha] at this
    rw[hs n i h e1]
    have:=ih (i+1) (by omega) (by omega)
    rw[show k0+c*((i+1:Nat):Int)=k0+c*i+c by rw[show ((i+1:Nat):Int)=(i:Int)+1 by omega,Int.mul_add];omega] at this
    simpa using this
   ·have:i=a.length:=by omega
    subst this
    exact he n
 have:=key (a.length+1) 0 (Nat.zero_le _) (by omega)
 simpa using this
theorem nvh (n:Int):rI [.int n] 0=n:=rfl
theorem nw7 (n:Bool):rB [.bool n] 0=n:=rfl
theorem Ov:∀ {cs:List CT} {r:List DC},ka cs r→r.length=cs.length
 | [],r,h=>by rw[ka] at h;rw[h];rfl
 | c::cs,r,h=>by
  rw[ka] at h
  obtain⟨d,r',rfl,_,h⟩:=h
  simp only[List.length_cons,Ov h]
theorem nuA {α:Type} (n:Int) (l:List α) (i:Nat) (x:α):idx n (l.set i x)=idx n l:=by simp only[idx,List.length_set]
theorem nuG {α:Type} (n:Nat) (l:List α) (i:Nat) (x:α):inl n (l.set i x)=inl n l:=by simp only[inl,List.length_set]
theorem ZM {l:Rows} {i:Nat} (h:i<l.length) (x:List DC):nth (l.set i x) i=x:=by
 simp only[nth]
 rw[List.getD_eq_getElem?_getD,List.getElem?_set_self h]
 rfl
theorem nd3 (n:Bytes):rS [.str n] 0=n:=rfl
theorem sk {z ds:List DC} (h:z.length=ds.length):bQ z 0 ds=ds:=by
 simp [bQ,h]
def OZ (c:Int) (a:Rows) (k:Int):Bool:=sm a && (decide (0≤k) && decide (k≤1125899906842624))
theorem Vk {c:Int} {a:Rows} {k:Int} (h:OZ c a k=true):a.length≤16777216∧0≤k∧k≤1125899906842624:=by
 simp only[OZ,Bool.and_eq_true,decide_eq_true_eq] at h
 exact⟨uG h.1,h.2⟩
noncomputable def Qk (f:Int→List DC) (c:Int) (a:Rows) (k:Int):Bool:=same a (vr f c a.length k) && OZ c a k
theorem ntR {f:Int→List DC} {c:Int} {a:Rows} {k:Int} (h:Qk f c a k=true):a=vr f c a.length k∧a.length≤16777216∧0≤k∧k≤1125899906842624:=by
 simp only[Qk,Bool.and_eq_true] at h
 exact⟨sA h.1,Vk h.2⟩
theorem y8 {c:Int} {a:Rows} {k:Int} (h:sm a=true) (h0:0≤k) (h1:k≤1125899906842624):OZ c a k=true:=by
 simp only[OZ,h,Bool.true_and,Bool.and_eq_true,decide_eq_true_eq]
 exact⟨h0,h1⟩
theorem Pk {f:Int→List DC} {c:Int} {a:Rows} {k:Int} (h:sm a=true) (h0:0≤k) (h1:k≤1125899906842624):Qk f c (vr f c a.length k) k=true:=by
 have e:sm (vr f c a.length k)=true:=by simp only[sm,qO];exact h
 simp only[Qk,y8 e h0 h1,qO,qu,Bool.and_true]
theorem ntS {α:Type} {i:Nat} {l:List α} {n:Nat} (hl:l.length=n) (h:i<n):idx (i:Int) l=true:=n9 (by omega)
theorem nvP (a b:Int):v9 a b=v9 b a:=by unfold v9;split<;>split<;>omega
theorem rj {a:Rows} {z:Nat} (h:sm a=true) (hz:z≤8388608):qS z [] a=true:=by
 have h:=uG h
 have h2:a.length*z≤16777216*8388608:=Nat.mul_le_mul h hz
 simp only[qS,List.length_nil,Nat.zero_add,Bool.and_eq_true]
 exact⟨decide_eq_true (by omega),decide_eq_true (by omega)⟩
theorem NK {a b:Rows} {z:Nat} (h:a.length+b.length≤134217728) (hz:z≤1048576):qS z a b=true:=by
 have h2:(a.length+b.length)*z≤134217728*1048576:=Nat.mul_le_mul h hz
 simp only[qS,Bool.and_eq_true]
 exact⟨decide_eq_true (by omega),decide_eq_true (by omega)⟩
theorem nuI {α:Type} (a:Rows) (L:Nat→Int→Rows→α) (K:Rows→α) (f:List DC→List DC)
  (hs:∀n (i:Nat) out,i<a.length→out.length=a.length→nth out i=nth a i→L (n+1) (i:Int) out=L n ((i:Int)+1) (out.set i (f (nth a i))))
  (he:∀n out,out.length=a.length→L (n+1) (a.length:Int) out=K out):L (a.length+1) 0 a=K (a.map f):=by
 have key:∀(n i:Nat),i≤a.length→a.length<n+i→L n (i:Int) ((a.take i).map f++a.drop i)=K (a.map f):=by
  intro n
  induction n with
  | zero=>intro i h1 h2;omega
  | succ n ih=>
   intro i h1 h2
   by_cases h:i<a.length
   ·have hl:((a.take i).map f).length=i:=by simp;omega
    have e1:nth ((a.take i).map f++a.drop i) i=nth a i:=by
     simp only[nth]
     rw[List.getD_eq_getElem?_getD,List.getD_eq_getElem?_getD,List.getElem?_append_right (by omega),hl]
     simp
    rw[hs n i _ h (by simp;omega) e1]
    have e2:nth a i=a[i]:=by simp [nth,h]
    have e3:((a.take i).map f++a.drop i).set i (f (nth a i))=(a.take (i+1)).map f++a.drop (i+1):=by
     rw[List.set_append_right _ _ (by omega),hl,Nat.sub_self,List.drop_eq_getElem_cons h,List.set_cons_zero,List.take_add_one,List.getElem?_eq_getElem h,e2]
     simp only[Option.toList_some,List.map_append,List.map_cons,List.map_nil,List.append_assoc,List.cons_append,List.nil_append]
    rw[e3]
    have:=ih (i+1) (by omega) (by omega)
    simpa using this
   ·have:i=a.length:=by omega
    subst this
    rw[he _ _ (by simp)]
    simp
 have:=key (a.length+1) 0 (Nat.zero_le _) (by omega)
 simpa using this
theorem xL {α σ:Type} (m:Nat) (L:Nat→Int→σ→α) (f:Nat→σ→σ) (fin:σ→α) (I:Nat→σ→Prop) (hI:∀i s,i<m→I i s→I (i+1) (f i s))
  (hs:∀n (i:Nat) s,i<m→I i s→L (n+1) (i:Int) s=L n ((i:Int)+1) (f i s))
  (he:∀n s,I m s→L (n+1) (m:Int) s=fin s):∀(n:Nat) (s:σ),I 0 s→m<n→L n 0 s=fin (itN f m 0 s):=by
 have key:∀(k n i:Nat) (s:σ),I i s→i+k=m→k<n→L n (i:Int) s=fin (itN f k i s):=by
  intro k
  induction k with
  | zero=>
   intro n i s h0 h1 h2
   cases n with
   | zero=>omega
   | succ n=>
    have:i=m:=by omega
    subst this
    exact he n s h0
  | succ k ih=>
   intro n i s h0 h1 h2
   cases n with
   | zero=>omega
   | succ n=>
    rw[hs n i s (by omega) h0]
    have:=ih n (i+1) (f i s) (hI i s (by omega) h0) (by omega) (by omega)
    simpa [itN] using this
 intro n s h0 h
 simpa using key m n 0 s h0 (by omega) h
theorem pf {n a b:Int} :(bif decide (a≤n) then decide (n≤b) else false)=true↔a≤n∧n≤b:=by
 by_cases h:a≤n<;>simp [h]
theorem t_ (s:Bytes):(ofStr s).length=s.length:=by simp [ofStr]
theorem ze (s:Bytes):toStr (ofStr s)=s:=by
 simp only[toStr,ofStr,List.map_map]
 have:(Vm.byteOf ∘ Vm.cP)=id:=by
  funext b
  simp [Vm.byteOf,Vm.cP,DC.asInt]
 rw[this,List.map_id]
theorem nvR {n:Int} (h0:0≤n) (h1:n≤255):Vm.cP (UInt8.ofNat n.toNat)=[.int n]:=by
 have:(UInt8.ofNat n.toNat).toNat=n.toNat:=by rw[UInt8.toNat_ofNat'];omega
 simp only[Vm.cP,this]
 congr 2
 omega
theorem nao (a b:DC):bQ [a] 0 [b]=[b]:=rfl
end Go.Proofs.YtoaflbnkiobhdaaGreat.Pl
