/- Plain lemmas: marks in slices of slices. Conditions: none. -/
import Derived.Test.YtnlkklmcfafgeaaGreatLem
set_option linter.unusedVariables false
namespace Go.Proofs.YtnlkklmcfafgeaaGreat.Pl
open Vm
def S4 (f:List DC→Int→List DC×Int):Rows→Int→Rows×Int
 | [],k=>([],k)
 | r::l,k=>((f r k).1::(S4 f l (f r k).2).1,(S4 f l (f r k).2).2)
def y9 (f:List DC→Int→List DC×Int) (g:List DC→Int→Bool):Rows→Int→Bool
 | [],_=>true
 | r::l,k=>g r k && y9 f g l (f r k).2
theorem nsA (p:Rows) (r:List DC) (l:Rows):nth (p++r::l) p.length=r:=by
 simp only[nth]
 rw[List.getD_eq_getElem?_getD,List.getElem?_append_right (Nat.le_refl _),Nat.sub_self]
 rfl
theorem UT {σ:Type} (g:σ→List DC→σ):∀(l p:Rows) (s:σ),itN (fun i s=>g s (nth (p++l) i)) l.length p.length s=l.foldl g s
 | [],p,s=>rfl
 | r::l,p,s=>by
  have:=UT g l (p++[r]) (g s r)
  rw[List.append_assoc,fv] at this
  simp only[dx,itN,List.foldl_cons]
  rw[nsA]
  exact this
theorem nxX {α:Type} (a0:Rows) (k0:Int) (f:List DC→Int→List DC×Int) (g:List DC→Int→Bool) (L:Nat→Int→Int→Rows→α) (K:Int→Rows→α) (aP:y9 f g a0 k0=true)
  (hs:∀n (i:Nat) k b,i<a0.length→b.length=a0.length→nth b i=nth a0 i→g (nth a0 i) k=true→L (n+1) k (i:Int) b=L n (f (nth a0 i) k).2 ((i:Int)+1) (b.set i (f (nth a0 i) k).1))
  (he:∀n k b,b.length=a0.length→L (n+1) k (a0.length:Int) b=K k b):
  L (a0.length+1) k0 0 a0=K (S4 f a0 k0).2 (S4 f a0 k0).1:=by
 have key:∀(l p q:Rows) (k:Int),a0=p++l→q.length=p.length→y9 f g l k=true→L (l.length+1) k (p.length:Int) (q++l)=K (S4 f l k).2 (q++(S4 f l k).1):=by
  intro l
  induction l with
  | nil=>
   intro p q k ha hq _
   have hl:p.length=a0.length:=by rw[ha];simp
   have:=he 0 k q (by omega)
   simp only[S4,List.append_nil,List.length_nil]
   rw[hl]
   exact this
  | cons r l ih=>
   intro p q k ha hq hk
   simp only[y9,aw] at hk
   have e1:nth a0 p.length=r:=by rw[ha];exact nsA p r l
   have e2:nth (q++r::l) p.length=r:=by rw[←hq];exact nsA q r l
   have hl:a0.length=p.length+(l.length+1):=by rw[ha];simp
   rw[dx,hs (l.length+1) p.length k (q++r::l) (by omega) (by simp;omega) (by rw[e1,e2]) (by rw[e1];exact hk.1),e1]
   have e3:(q++r::l).set p.length (f r k).1=(q++[(f r k).1])++l:=by
    rw[List.set_append_right _ _ (by omega),hq,Nat.sub_self,List.set_cons_zero,List.append_assoc]
    rfl
   rw[e3]
   have:=ih (p++[r]) (q++[(f r k).1]) (f r k).2 (by rw[ha,List.append_assoc];rfl) (by simp [hq]) hk.2
   rw[show ((p++[r]).length:Int)=(p.length:Int)+1 by simp] at this
   rw[this]
   simp only[S4,List.append_assoc,List.singleton_append]
 have:=key a0 [] [] k0 rfl rfl aP
 simpa using this
theorem nxL {α:Type} (a0:Rows) (k0:Int) (f:List DC→Int→List DC×Int) (g:List DC→Int→Bool) (L:Nat→Int→Int→α) (K:Int→α) (aP:y9 f g a0 k0=true) (GQ:a0=(S4 f a0 k0).1)
  (hs:∀n (i:Nat) k,i<a0.length→nth a0 i=(f (nth a0 i) k).1→g (nth a0 i) k=true→L (n+1) k (i:Int)=L n (f (nth a0 i) k).2 ((i:Int)+1))
  (he:∀n k,L (n+1) k (a0.length:Int)=K k):
  L (a0.length+1) k0 0=K (S4 f a0 k0).2:=by
 have key:∀(l p:Rows) (k:Int),a0=p++l→y9 f g l k=true→l=(S4 f l k).1→L (l.length+1) k (p.length:Int)=K (S4 f l k).2:=by
  intro l
  induction l with
  | nil=>
   intro p k ha _ _
   have hl:p.length=a0.length:=by rw[ha];simp
   rw[hl]
   exact he 0 k
  | cons r l ih=>
   intro p k ha hk hl0
   simp only[y9,aw] at hk
   simp only[S4,List.cons.injEq] at hl0
   have e1:nth a0 p.length=r:=by rw[ha];exact nsA p r l
   have hl:a0.length=p.length+(l.length+1):=by rw[ha];simp
   rw[dx,hs (l.length+1) p.length k (by omega) (by rw[e1];exact hl0.1) (by rw[e1];exact hk.1),e1]
   have:=ih (p++[r]) (f r k).2 (by rw[ha,List.append_assoc];rfl) hk.2 hl0.2
   rw[show ((p++[r]).length:Int)=(p.length:Int)+1 by simp] at this
   rw[this]
   simp only[S4]
 exact key a0 [] k0 rfl aP GQ
theorem noP {f:List DC→Int→List DC×Int} {g:List DC→Int→Bool} (hf:∀r k,f (f r k).1 k=f r k) (hg:∀r k,g (f r k).1 k=g r k):∀(a:Rows) (k:Int),S4 f (S4 f a k).1 k=S4 f a k∧y9 f g (S4 f a k).1 k=y9 f g a k
 | [],k=>⟨rfl,rfl⟩
 | r::l,k=>by
  obtain⟨h1,h2⟩:=noP hf hg l (f r k).2
  simp only[S4,y9,hf,hg,h1,h2,and_self]
theorem noO {f:List DC→Int→List DC×Int} {g:List DC→Int→Bool} {B C:Int} (hC:0≤C):∀(a:Rows) (k:Int),(∀r∈a,∀k,0≤k→k≤B→g r k=true∧k≤(f r k).2∧(f r k).2≤k+C)→0≤k→k+C*a.length≤B→
  y9 f g a k=true∧k≤(S4 f a k).2∧(S4 f a k).2≤k+C*a.length
 | [],k,_,_,_=>⟨rfl,Int.le_refl _,by simp [S4]⟩
 | r::l,k,h,h0,hB=>by
  have e:C*((r::l).length:Int)=C*(l.length:Int)+C:=by
   rw[dx,show ((l.length+1:Nat):Int)=(l.length:Int)+1 by omega,Int.mul_add,Int.mul_one]
  rw[e] at hB ⊢
  have hp:0≤C*(l.length:Int):=Int.mul_nonneg hC (by omega)
  obtain⟨g1,g2,g3⟩:=h r (List.mem_cons_self ..) k h0 (by omega)
  obtain⟨i1,i2,i3⟩:=noO hC l (f r k).2 (fun r hr=>h r (List.mem_cons_of_mem _ hr)) (by omega) (by omega)
  simp only[S4,y9,g1,i1,Bool.and_self,true_and]
  omega
end Go.Proofs.YtnlkklmcfafgeaaGreat.Pl
