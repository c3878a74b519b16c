/- Conditions: as each says. -/
import Derived.Test.YteffpikahopfoaaGreatPre
import Derived.IntWalk
set_option linter.unusedVariables false
open List renaming getD_eq_getElem?_getD→lb,drop_eq_getElem_cons→lg
namespace Go.Proofs.YteffpikahopfoaaGreat.Pl
open Vm
theorem C3(n:Int):s n=(n+9223372036854775808) % 18446744073709551616 - 9223372036854775808:=by unfold s;rw[IntKind.wrap_i64]
theorem fg{n:Int}(a: -9223372036854775808≤n:=by omega)(b:n≤9223372036854775807:=by omega):s n=n:=by rw[C3];omega
theorem nxy(n:Int): -9223372036854775808≤s n:=by rw[C3];omega
theorem G_(n:Int):s n≤9223372036854775807:=by rw[C3];omega
theorem Wo:maxLen=9223372036854775807:=rfl
theorem Ti{n:Int}(h:IJ (.int .i64) (.int n)): -9223372036854775808≤n∧n≤9223372036854775807:=by simp only[IJ,DC.int.injEq] at h;obtain⟨m,rfl,h⟩:=h;simpa [dQ,IntKind.min,IntKind.max,IntKind.signed,IntKind.bits] using h
theorem cj{s:x}(h:IJ .str (.str s)):s.length≤9223372036854775807:=by simp only[IJ,DC.str.injEq] at h;obtain⟨m,rfl,h⟩:=h;rw[Wo] at h;exact h
theorem Nh{e:List CT}{r:u}(h:IJ (.sl e) (.sl r)):r.length≤9223372036854775807∧∀x∈r,Q e x:=by simp only[IJ,DC.sl.injEq] at h;obtain⟨m,rfl,a,b⟩:=h;rw[Wo] at a;exact⟨a,b⟩
theorem Oi(x:Bool):t true x=x:=by cases x<;>rfl
theorem cz(x:Bool):t x true=x:=rfl
theorem sg{α:Type}{i:Nat}{l:List α}(h:i<l.length):decide ((i:Int)<len l)=true:=by exact Hd (by simp only[len];omega)
theorem Ns{α:Type}(l:List α):decide ((l.length:Int)<len l)=false:=by simp[len]
theorem mZ{α:Type}{i:Nat}{l:List α}(h:i<l.length):A (i:Int) l=true:=by simp only[A,Bl,js];omega
theorem jy{α:Type}{i:Nat}{l:List α}(h:i<l.length)(a:l.length≤9223372036854775807):s ((i:Int)+1)=(i:Int)+1:=by apply fg<;>omega
theorem R7{α:Type}{i:Nat}{l:List α}(h:i<l.length):inl i l=true:=by simpa [inl] using h
def An{α σ:Type}(step:Nat→List DC→(σ→α)→σ→α)(W:σ→α):u→Nat→σ→α
 | [],_,s=>W s
 | r::rs,i,s=>step i r (An step W rs (i+1)) s
theorem nh8{α σ:Type}(a:u)(L:Nat→Int→σ→α)(step:Nat→List DC→(σ→α)→σ→α)(W:σ→α)
  (b:∀n (i:Nat) s,i<a.length→L (n+1) (i:Int) s=step i (q a i) (L n ((i:Int)+1)) s)
  (c:∀n s,L (n+1) (a.length:Int) s=W s):
  ∀(n i:Nat) (s:σ),i≤a.length→a.length<n+i→L n (i:Int) s=An step W (a.drop i) i s:=by
 intro n
 induction n with
 | zero=>intro i s d f;omega
 | succ n g=>
  intro i s d f;by_cases h:i<a.length
  ·rw[b n i s h,lg h];simp only[An];have:q a i=a[i]:=by simp[q,h]
   rw[this];have e:(λs=>L n ((i:Int)+1) s)=An step W (a.drop (i+1)) (i+1):=by funext s;have:=g (i+1) s (by omega) (by omega);simpa using this
   exact congrArg (λk=>step i a[i] k s) e
  ·have:i=a.length:=by omega
   subst this;rw[c,List.drop_eq_nil_of_le (Nat.le_refl _)];rfl
theorem ng3{α σ:Type}(a:u)(L:Nat→Int→σ→α)(step:Nat→List DC→(σ→α)→σ→α)(W:σ→α)
  (b:∀n (i:Nat) s,i<a.length→L (n+1) (i:Int) s=step i (q a i) (L n ((i:Int)+1)) s)
  (c:∀n s,L (n+1) (a.length:Int) s=W s) (s:σ):L (a.length+1) 0 s=An step W a 0 s:=by
 have:=nh8 a L step W b c (a.length+1) 0 s (Nat.zero_le _) (by omega);simpa using this
theorem x9{α:Type}(a:u)(L:Nat→Int→α)(step:Nat→List DC→α→α)(W:α)
  (b:∀n (i:Nat),i<a.length→L (n+1) (i:Int)=step i (q a i) (L n ((i:Int)+1)))
  (c:∀n,L (n+1) (a.length:Int)=W):L (a.length+1) 0=An (σ:=Unit) (λi r k s=>step i r (k s)) (λ_=>W) a 0 ():=by
 have:=ng3 (σ:=Unit) a (λn i _=>L n i) (λi r k s=>step i r (k s)) (λ_=>W) (λn i _ h=>b n i h) (λn _=>c n) ();exact this
theorem RK{α:Type}(p:List DC→Bool)(x y:α)(a:u)(i:Nat):
  An (σ:=Unit) (λ_ r c s=>cond (!(p r)) x (c s)) (λ_=>y) a i ()=cond (a.all p) y x:=by
 induction a generalizing i with
 | nil=>rfl
 | cons r rs b=>
  simp only[An,List.all_cons];cases d:p r
  ·rfl
  ·simpa [d] using b (i+1)
def SG{α σ:Type}(step:Nat→(σ→α)→σ→α)(W:σ→α):Nat→Nat→σ→α
 | 0,_,s=>W s
 | m+1,i,s=>step i (SG step W m (i+1)) s
theorem Qr{α σ:Type}(m:Nat)(L:Nat→Int→σ→α)(step:Nat→(σ→α)→σ→α)(W:σ→α)
  (a:∀n (i:Nat) s,i<m→L (n+1) (i:Int) s=step i (L n ((i:Int)+1)) s)
  (b:∀n s,L (n+1) (m:Int) s=W s):∀(n:Nat) (s:σ),m<n→L n 0 s=SG step W m 0 s:=by
 have key:∀(k n i:Nat) (s:σ),i+k=m→k<n→L n (i:Int) s=SG step W k i s:=by
  intro k
  induction k with
  | zero=>
   intro n i s d f;cases n with
   | zero=>omega
   | succ n=>
    have:i=m:=by omega
    subst this;exact b n s
  | succ k g=>
   intro n i s d f;cases n with
   | zero=>omega
   | succ n=>
    rw[a n i s (by omega)];have e:(λs=>L n ((i:Int)+1) s)=SG step W k (i+1):=by funext s;have:=g n (i+1) s (by omega) (by omega);simpa using this
    exact congrArg (λc=>step i c s) e
 intro n s h;simpa using key m n 0 s (by omega) h
def Pw(a:u):Bool:=decide (a.length≤16777216)
theorem R8{a:u}(h:Pw a=true):a.length≤16777216:=of_decide_eq_true h
open Classical in
noncomputable def same{α:Type}(a b:α):Bool:=decide (a=b)
def F{α:Type}(a:α):α:=a
theorem npx{r:List DC}(h:Q [.bool] r):[.bool (Dd r 0)]=r:=by obtain⟨n,b,rfl,_,a⟩:=tW h;obtain rfl:=fi a;rfl
theorem nGa{r:List DC}(h:Q [.str] r):[.str (Gi r 0)]=r:=by obtain⟨n,b,rfl,_,a⟩:=cO h;obtain rfl:=fi a;rfl
theorem nU{a:u}{i:Nat}(h:i<a.length):q a i∈a:=by
 have:q a i=a[i]:=by simp[q,h]
 rw[this];exact List.getElem_mem h
theorem Qo{α:Type}{c:Bool}{x y:α}(h:c=true):(cond c x y)=x:=by rw[h];rfl
theorem KP{α:Type}{c:Bool}{x y:α}(h:c=false):(cond c x y)=y:=by rw[h];rfl
theorem Wi{g x y:Bool}(a:g=true→x=true)(b:g=false→y=true):pk g x y=true:=by
 cases g
 ·rw[Vn];exact b rfl
 ·rw[Vn];exact a rfl
theorem vb(g:Bool):pk g true true=true:=rfl
def RP(p:Nat→List DC→Bool):u→Nat→Bool
 | [],_=>false
 | r::rs,i=>cond (p i r) true (RP p rs (i+1))
theorem Sz{α:Type}(p:Nat→List DC→Bool)(x y:α):∀(a:u) (i:Nat),
  An (σ:=Unit) (λi r c s=>cond (p i r) x (c s)) (λ_=>y) a i ()=cond (RP p a i) x y
 | [],_=>rfl
 | r::rs,i=>by
  simp only[An,RP];cases p i r
  ·exact Sz p x y rs (i+1)
  ·rfl
def findIdx(p:Nat→List DC→Bool):u→Nat→Int
 | [],_=> -1
 | r::rs,i=>cond (p i r) (i:Int) (findIdx p rs (i+1))
theorem vd{α:Type}(p:Nat→List DC→Bool)(k:Int→α):∀(a:u) (i:Nat),
  An (σ:=Unit) (λi r c s=>cond (p i r) (k (i:Int)) (c s)) (λ_=>k (-1)) a i ()=k (findIdx p a i)
 | [],_=>rfl
 | r::rs,i=>by
  simp only[An,findIdx];cases p i r
  ·exact vd p k rs (i+1)
  ·rfl
theorem U6{α β:Type}{c:Bool}{x y:α}{a b:β}{K:β→α}(d:c=true→x=K a)(e:c=false→y=K b):(cond c x y)=K (cond c a b):=by
 cases c
 ·exact e rfl
 ·exact d rfl
theorem rR{α:Type}{c:Bool}{x y lf:α}(a:c=true)(h:x=y):(cond c x lf)=y:=by rw[a];exact h
def kM{σ:Type}(f:Nat→σ→σ):Nat→Nat→σ→σ
 | 0,_,s=>s
 | m+1,i,s=>kM f m (i+1) (f i s)
theorem ik{α σ:Type}(m:Nat)(L:Nat→Int→σ→α)(f:Nat→σ→σ)(W:σ→α)(I:σ→Prop)(b:∀i s,i<m→I s→I (f i s))
  (c:∀n (i:Nat) s,i<m→I s→L (n+1) (i:Int) s=L n ((i:Int)+1) (f i s))
  (d:∀n s,I s→L (n+1) (m:Int) s=W s):∀(n:Nat) (s:σ),I s→m<n→L n 0 s=W (kM f m 0 s):=by
 have key:∀(k n i:Nat) (s:σ),I s→i+k=m→k<n→L n (i:Int) s=W (kM f k i s):=by
  intro k
  induction k with
  | zero=>
   intro n i s a e g;cases n with
   | zero=>omega
   | succ n=>
    have:i=m:=by omega
    subst this;exact d n s a
  | succ k j=>
   intro n i s a e g;cases n with
   | zero=>omega
   | succ n=>
    rw[c n i s (by omega) a];have:=j n (i+1) (f i s) (b i s (by omega) a) (by omega) (by omega);simpa [kM] using this
 intro n s a h;simpa using key m n 0 s a (by omega) h
theorem naj{σ:Type}{f:Nat→σ→σ}{I:σ→Prop}{B:Nat}(a:∀i s,i<B→I s→I (f i s)):∀(m i:Nat) (s:σ),i+m≤B→I s→I (kM f m i s)
 | 0,_,_,_,h=>h
 | m+1,i,s,hb,h=>naj a m (i+1) (f i s) (by omega) (a i s (by omega) h)
def Ot(p:Nat→Bool):Nat→Nat→Bool
 | 0,_=>false
 | m+1,i=>cond (p i) true (Ot p m (i+1))
theorem RO{α:Type}(p:Nat→Bool)(x y:α):∀(m i:Nat),SG (σ:=Unit) (λi c s=>cond (p i) x (c s)) (λ_=>y) m i ()=cond (Ot p m i) x y
 | 0,_=>rfl
 | m+1,i=>by
  simp only[SG,Ot];cases p i
  ·exact RO p x y m (i+1)
  ·rfl
theorem ntd(p:Nat→Bool):∀(m i:Nat),Ot p m (i+1)=Ot (λj=>p (j+1)) m i
 | 0,_=>rfl
 | m+1,i=>by simp only[Ot];rw[ntd p m (i+1)]
theorem gG{p q:Nat→Bool} :∀(m i:Nat),(∀j,i≤j→j<i+m→p j=q j)→Ot p m i=Ot q m i
 | 0,_,_=>rfl
 | m+1,i,h=>by simp only[Ot];rw[h i (by omega) (by omega),gG m (i+1) (λj a b=>h j (by omega) (by omega))]
theorem nkx(p:Nat→List DC→Bool):∀(a:u) (s i:Nat),i<a.length→p (s+i) (q a i)=true→(findIdx p a s != ((s+i:Nat):Int))=Ot (λj=>p (s+j) (q a j)) i 0
 | [],_,_,h,_=>by simp at h
 | r::rs,s,0,_,h=>by have h:p s r=true:=h;simp only[findIdx,h,H,Ot,Nat.add_zero,bne_self_eq_false]
 | r::rs,s,i+1,hi,h=>by
  have b:p (s+1+i) (q rs i)=true:=by rw[show s+1+i=s+(i+1) by omega];exact h
  have c:=nkx p rs (s+1) i (by simpa using hi) b;simp only[findIdx,Ot];have d:q (r::rs) 0=r:=rfl;rw[Nat.add_zero,d];cases e:p s r
  ·simp only[J];rw[show ((s+(i+1):Nat):Int)=((s+1+i:Nat):Int) by omega,c,ntd];apply gG;intro j _ _;rw[show s+1+j=s+(j+1) by omega];rfl
  ·simp only[H];simp only[bne_iff_ne,ne_eq];omega
theorem TR{α:Type}(a:u)(L:Nat→Int→α)(step:Nat→List DC→α→α)(W:α)
  (b:∀n (i:Nat),i<a.length→L (n+1) (i:Int)=step i (q a i) (L n ((i:Int)+1)))
  (c:∀n,L (n+1) (a.length:Int)=W) (n:Nat) (d:a.length<n):L n 0=An (σ:=Unit) (λi r k s=>step i r (k s)) (λ_=>W) a 0 ():=by
 have:=nh8 (σ:=Unit) a (λn i _=>L n i) (λi r k s=>step i r (k s)) (λ_=>W) (λn i _ h=>b n i h) (λn _=>c n) n 0 () (Nat.zero_le _) (by omega);simpa using this
theorem naG{p Z:Nat→List DC→Bool} :∀(l:u) (s:Nat),(∀i,i<l.length→p (s+i) (q l i)=Z (s+i) (q l i))→RP p l s=RP Z l s
 | [],_,_=>rfl
 | r::rs,s,h=>by
  have a:p s r=Z s r:=h 0 (by simp);simp only[RP];have b:∀i,i<rs.length→p (s+1+i) (q rs i)=Z (s+1+i) (q rs i):=by
   intro i d;have c:p (s+(i+1)) (q rs i)=Z (s+(i+1)) (q rs i):=h (i+1) (by simp only[I_];omega);have e:s+1+i=s+(i+1):=by omega
   rw[e];exact c
  rw[a,naG rs (s+1) b]
theorem swF(n:Int):r [.int n] 0=n:=rfl
theorem nBE(n:Bool):Dd [.bool n] 0=n:=rfl
theorem nx2{α:Type}(n:Int)(l:List α)(i:Nat)(x:α):A n (l.set i x)=A n l:=by simp only[A,List.length_set]
theorem BA{α:Type}(n:Nat)(l:List α)(i:Nat)(x:α):inl n (l.set i x)=inl n l:=by simp only[inl,List.length_set]
theorem O6{l:u}{i:Nat}(h:i<l.length)(x:List DC):q (l.set i x) i=x:=by simp only[q];rw[lb,List.getElem?_set_self h];rfl
theorem gf(n:x):Gi [.str n] 0=n:=rfl
theorem Fx{z a:List DC}(h:z.length=a.length):Sk z 0 a=a:=by simp[Sk,h]
theorem Y2{a:u}{z:Nat}(h:Pw a=true)(b:z≤8388608):Em z [] a=true:=by have h:=R8 h;have c:a.length*z≤16777216*8388608:=Nat.mul_le_mul h b;simp only[Em,List.length_nil,Nat.zero_add,Bl];exact⟨Hd (by omega),Hd (by omega)⟩
theorem W6{a b:u}{z:Nat}(h:a.length+b.length≤134217728)(c:z≤1048576):Em z a b=true:=by have d:(a.length+b.length)*z≤134217728*1048576:=Nat.mul_le_mul h c;simp only[Em,Bl];exact⟨Hd (by omega),Hd (by omega)⟩
theorem yE{α:Type}(a:u)(L:Nat→Int→u→α)(K:u→α)(f:List DC→List DC)
  (d:∀n (i:Nat) b,i<a.length→b.length=a.length→q b i=q a i→L (n+1) (i:Int) b=L n ((i:Int)+1) (b.set i (f (q a i))))
  (e:∀n b,b.length=a.length→L (n+1) (a.length:Int) b=K b):L (a.length+1) 0 a=K (a.map f):=by
 have key:∀(n i:Nat),i≤a.length→a.length<n+i→L n (i:Int) ((a.take i).map f++a.drop i)=K (a.map f):=by
  intro n
  induction n with
  | zero=>intro i g j;omega
  | succ n k=>
   intro i g j;by_cases h:i<a.length
   ·have c:((a.take i).map f).length=i:=by simp;omega
    have l:q ((a.take i).map f++a.drop i) i=q a i:=by simp only[q];rw[lb,lb,List.getElem?_append_right (by omega),c];simp
    rw[d n i _ h (by simp;omega) l];have m:q a i=a[i]:=by simp[q,h]
    have o:((a.take i).map f++a.drop i).set i (f (q a i))=(a.take (i+1)).map f++a.drop (i+1):=by rw[List.set_append_right _ _ (by omega),c,Nat.sub_self,lg h,List.set_cons_zero,List.take_add_one,List.getElem?_eq_getElem h,m];simp only[Option.toList_some,List.map_append,List.map_cons,List.map_nil,List.append_assoc,List.cons_append,List.nil_append]
    rw[o];have:=k (i+1) (by omega) (by omega);simpa using this
   ·have:i=a.length:=by omega
    subst this;rw[e _ _ (by simp)];simp
 have:=key (a.length+1) 0 (Nat.zero_le _) (by omega);simpa using this
theorem je{α σ:Type}(m:Nat)(L:Nat→Int→σ→α)(f:Nat→σ→σ)(W:σ→α)(I:Nat→σ→Prop)(b:∀i s,i<m→I i s→I (i+1) (f i s))
  (c:∀n (i:Nat) s,i<m→I i s→L (n+1) (i:Int) s=L n ((i:Int)+1) (f i s))
  (d:∀n s,I m s→L (n+1) (m:Int) s=W s):∀(n:Nat) (s:σ),I 0 s→m<n→L n 0 s=W (kM f m 0 s):=by
 have key:∀(k n i:Nat) (s:σ),I i s→i+k=m→k<n→L n (i:Int) s=W (kM f k i s):=by
  intro k
  induction k with
  | zero=>
   intro n i s a e g;cases n with
   | zero=>omega
   | succ n=>
    have:i=m:=by omega
    subst this;exact d n s a
  | succ k j=>
   intro n i s a e g;cases n with
   | zero=>omega
   | succ n=>
    rw[c n i s (by omega) a];have:=j n (i+1) (f i s) (b i s (by omega) a) (by omega) (by omega);simpa [kM] using this
 intro n s a h;simpa using key m n 0 s a (by omega) h
theorem YF{n a b:Int} :(cond (a≤n) (decide (n≤b)) false)=true↔a≤n∧n≤b:=by by_cases h:a≤n<;>simp[h]
theorem D1(s:x):(ofStr s).length=s.length:=by simp[ofStr]
theorem SW(s:x):toStr (ofStr s)=s:=by
 simp only[toStr,ofStr,List.map_map];have:(Vm.byteOf ∘ Vm.dc)=id:=by funext b;simp[Vm.byteOf,Vm.dc,DC.asInt]
 rw[this,List.map_id]
theorem nbQ{n:Int}(a:0≤n)(b:n≤255):Vm.dc (UInt8.ofNat n.toNat)=[.int n]:=by
 have:(UInt8.ofNat n.toNat).toNat=n.toNat:=by rw[UInt8.toNat_ofNat'];omega
 simp only[Vm.dc,this]
 congr 2
 omega
theorem Z1(a b:DC):Sk [a] 0 [b]=[b]:=rfl
end Go.Proofs.YteffpikahopfoaaGreat.Pl
