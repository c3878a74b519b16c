/- Plain lemmas: wrapping numbers, rows of a list one after another. Conditions: none. -/
import Derived.Test.YteffpikahopfoaaGreatPre
import Derived.IntWalk
set_option linter.unusedVariables false
open List renaming getD_eq_getElem?_getD→ln,drop_eq_getElem_cons→lp
namespace Go.Proofs.YteffpikahopfoaaGreat.Pl
open Vm
theorem Vl(n:Int):ZK n=(n+9223372036854775808) % 18446744073709551616 - 9223372036854775808:=by unfold ZK;rw[IntKind.wrap_i64]
theorem Ou{n:Int}(a: -9223372036854775808≤n:=by omega)(b:n≤9223372036854775807:=by omega):ZK n=n:=by rw[Vl];omega
theorem nyE(n:Int): -9223372036854775808≤ZK n:=by rw[Vl];omega
theorem xA(n:Int):ZK n≤9223372036854775807:=by rw[Vl];omega
theorem EO:maxLen=9223372036854775807:=rfl
theorem ka{n:Int}(h:Oj (.int .i64) (.int n)): -9223372036854775808≤n∧n≤9223372036854775807:=by simp only[Oj,DC.int.injEq] at h;obtain⟨m,rfl,h⟩:=h;simpa [bp,IntKind.min,IntKind.max,IntKind.signed,IntKind.bits] using h
theorem jU{s:Y}(h:Oj .str (.str s)):s.length≤9223372036854775807:=by simp only[Oj,DC.str.injEq] at h;obtain⟨m,rfl,h⟩:=h;rw[EO] at h;exact h
theorem jD{e:List CT}{r:rM}(h:Oj (.sl e) (.sl r)):r.length≤9223372036854775807∧∀x∈r,i_ e x:=by simp only[Oj,DC.sl.injEq] at h;obtain⟨m,rfl,a,b⟩:=h;rw[EO] at a;exact⟨a,b⟩
theorem cd(x:Bool):Bk true x=x:=by cases x<;>rfl
theorem TK(x:Bool):Bk x true=x:=rfl
theorem T9{α:Type}{i:Nat}{l:List α}(h:i<l.length):decide ((i:Int)<len l)=true:=by exact Tl (by simp only[len];omega)
theorem hO{α:Type}(l:List α):decide ((l.length:Int)<len l)=false:=by simp[len]
theorem uH{α:Type}{i:Nat}{l:List α}(h:i<l.length):idx (i:Int) l=true:=by simp only[idx,gF,kQ];omega
theorem Q8{α:Type}{i:Nat}{l:List α}(h:i<l.length)(a:l.length≤9223372036854775807):ZK ((i:Int)+1)=(i:Int)+1:=by apply Ou<;>omega
theorem SG{α:Type}{i:Nat}{l:List α}(h:i<l.length):inl i l=true:=by simpa [inl] using h
def vQ{α σ:Type}(step:Nat→List DC→(σ→α)→σ→α)(fin:σ→α):rM→Nat→σ→α
 | [],_,s=>fin s
 | r::rs,i,s=>step i r (vQ step fin rs (i+1)) s
theorem nxB{α σ:Type}(a:rM)(L:Nat→Int→σ→α)(step:Nat→List DC→(σ→α)→σ→α)(fin:σ→α)
  (b:∀n (i:Nat) s,i<a.length→L (n+1) (i:Int) s=step i (V a i) (L n ((i:Int)+1)) s)
  (c:∀n s,L (n+1) (a.length:Int) s=fin s):
  ∀(n i:Nat) (s:σ),i≤a.length→a.length<n+i→L n (i:Int) s=vQ step fin (a.drop i) i s:=by
 intro n
 induction n with
 | zero=>intro i s d f;omega
 | succ n g=>
  intro i s d f;by_cases h:i<a.length
  ·rw[b n i s h,lp h];simp only[vQ];have:V a i=a[i]:=by simp[V,h]
   rw[this];have e:(λs=>L n ((i:Int)+1) s)=vQ step fin (a.drop (i+1)) (i+1):=by funext s;have:=g (i+1) s (by omega) (by omega);simpa using this
   exact congrArg (λk=>step i a[i] k s) e
  ·have:i=a.length:=by omega
   subst this;rw[c,List.drop_eq_nil_of_le (Nat.le_refl _)];rfl
theorem fsB{α σ:Type}(a:rM)(L:Nat→Int→σ→α)(step:Nat→List DC→(σ→α)→σ→α)(fin:σ→α)
  (b:∀n (i:Nat) s,i<a.length→L (n+1) (i:Int) s=step i (V a i) (L n ((i:Int)+1)) s)
  (c:∀n s,L (n+1) (a.length:Int) s=fin s) (s:σ):L (a.length+1) 0 s=vQ step fin a 0 s:=by
 have:=nxB a L step fin b c (a.length+1) 0 s (Nat.zero_le _) (by omega);simpa using this
theorem P6{α:Type}(a:rM)(L:Nat→Int→α)(step:Nat→List DC→α→α)(fin:α)
  (b:∀n (i:Nat),i<a.length→L (n+1) (i:Int)=step i (V a i) (L n ((i:Int)+1)))
  (c:∀n,L (n+1) (a.length:Int)=fin):L (a.length+1) 0=vQ (σ:=Unit) (λi r k s=>step i r (k s)) (λ_=>fin) a 0 ():=by
 have:=fsB (σ:=Unit) a (λn i _=>L n i) (λi r k s=>step i r (k s)) (λ_=>fin) (λn i _ h=>b n i h) (λn _=>c n) ();exact this
theorem Zz{α:Type}(p:List DC→Bool)(x y:α)(a:rM)(i:Nat):
  vQ (σ:=Unit) (λ_ r c s=>bif !(p r) then x else c s) (λ_=>y) a i ()=bif a.all p then y else x:=by
 induction a generalizing i with
 | nil=>rfl
 | cons r rs b=>
  simp only[vQ,List.all_cons];cases d:p r
  ·rfl
  ·simpa [d] using b (i+1)
def OZ{α σ:Type}(step:Nat→(σ→α)→σ→α)(fin:σ→α):Nat→Nat→σ→α
 | 0,_,s=>fin s
 | m+1,i,s=>step i (OZ step fin m (i+1)) s
theorem sw{α σ:Type}(m:Nat)(L:Nat→Int→σ→α)(step:Nat→(σ→α)→σ→α)(fin:σ→α)
  (a:∀n (i:Nat) s,i<m→L (n+1) (i:Int) s=step i (L n ((i:Int)+1)) s)
  (b:∀n s,L (n+1) (m:Int) s=fin s):∀(n:Nat) (s:σ),m<n→L n 0 s=OZ step fin m 0 s:=by
 have key:∀(k n i:Nat) (s:σ),i+k=m→k<n→L n (i:Int) s=OZ step fin k i s:=by
  intro k
  induction k with
  | zero=>
   intro n i s d f;cases n with
   | zero=>omega
   | succ n=>
    have:i=m:=by omega
    subst this;exact b n s
  | succ k g=>
   intro n i s d f;cases n with
   | zero=>omega
   | succ n=>
    rw[a n i s (by omega)];have e:(λs=>L n ((i:Int)+1) s)=OZ step fin k (i+1):=by funext s;have:=g n (i+1) s (by omega) (by omega);simpa using this
    exact congrArg (λc=>step i c s) e
 intro n s h;simpa using key m n 0 s (by omega) h
def Of(a:rM):Bool:=decide (a.length≤16777216)
theorem RG{a:rM}(h:Of a=true):a.length≤16777216:=of_decide_eq_true h
open Classical in
noncomputable def same{α:Type}(a b:α):Bool:=decide (a=b)
def cp{α:Type}(a:α):α:=a
theorem ngs{r:List DC}(h:i_ [.bool] r):[.bool (yz r 0)]=r:=by obtain⟨n,b,rfl,_,a⟩:=C4 h;obtain rfl:=R5 a;rfl
theorem nd0{r:List DC}(h:i_ [.str] r):[.str (fJ r 0)]=r:=by obtain⟨n,b,rfl,_,a⟩:=WW h;obtain rfl:=R5 a;rfl
theorem oA{a:rM}{i:Nat}(h:i<a.length):V a i∈a:=by
 have:V a i=a[i]:=by simp[V,h]
 rw[this];exact List.getElem_mem h
theorem O3{α:Type}{c:Bool}{x y:α}(h:c=true):(bif c then x else y)=x:=by rw[h];rfl
theorem Ym{α:Type}{c:Bool}{x y:α}(h:c=false):(bif c then x else y)=y:=by rw[h];rfl
theorem eE{g x y:Bool}(a:g=true→x=true)(b:g=false→y=true):lV g x y=true:=by
 cases g
 ·rw[Np];exact b rfl
 ·rw[Np];exact a rfl
theorem CC(g:Bool):lV g true true=true:=rfl
def Pt(p:Nat→List DC→Bool):rM→Nat→Bool
 | [],_=>false
 | r::rs,i=>bif p i r then true else Pt p rs (i+1)
theorem NS{α:Type}(p:Nat→List DC→Bool)(x y:α):∀(a:rM) (i:Nat),
  vQ (σ:=Unit) (λi r c s=>bif p i r then x else c s) (λ_=>y) a i ()=bif Pt p a i then x else y
 | [],_=>rfl
 | r::rs,i=>by
  simp only[vQ,Pt];cases p i r
  ·exact NS p x y rs (i+1)
  ·rfl
def findIdx(p:Nat→List DC→Bool):rM→Nat→Int
 | [],_=> -1
 | r::rs,i=>bif p i r then (i:Int) else findIdx p rs (i+1)
theorem om{α:Type}(p:Nat→List DC→Bool)(k:Int→α):∀(a:rM) (i:Nat),
  vQ (σ:=Unit) (λi r c s=>bif p i r then k (i:Int) else c s) (λ_=>k (-1)) a i ()=k (findIdx p a i)
 | [],_=>rfl
 | r::rs,i=>by
  simp only[vQ,findIdx];cases p i r
  ·exact om p k rs (i+1)
  ·rfl
theorem oN{α β:Type}{c:Bool}{x y:α}{a b:β}{K:β→α}(d:c=true→x=K a)(e:c=false→y=K b):(bif c then x else y)=K (bif c then a else b):=by
 cases c
 ·exact e rfl
 ·exact d rfl
theorem Bw{α:Type}{c:Bool}{x y kW:α}(a:c=true)(h:x=y):(bif c then x else kW)=y:=by rw[a];exact h
def Wc{σ:Type}(f:Nat→σ→σ):Nat→Nat→σ→σ
 | 0,_,s=>s
 | m+1,i,s=>Wc f m (i+1) (f i s)
theorem jw{α σ:Type}(m:Nat)(L:Nat→Int→σ→α)(f:Nat→σ→σ)(fin:σ→α)(I:σ→Prop)(b:∀i s,i<m→I s→I (f i s))
  (c:∀n (i:Nat) s,i<m→I s→L (n+1) (i:Int) s=L n ((i:Int)+1) (f i s))
  (d:∀n s,I s→L (n+1) (m:Int) s=fin s):∀(n:Nat) (s:σ),I s→m<n→L n 0 s=fin (Wc f m 0 s):=by
 have key:∀(k n i:Nat) (s:σ),I s→i+k=m→k<n→L n (i:Int) s=fin (Wc f k i s):=by
  intro k
  induction k with
  | zero=>
   intro n i s a e g;cases n with
   | zero=>omega
   | succ n=>
    have:i=m:=by omega
    subst this;exact d n s a
  | succ k j=>
   intro n i s a e g;cases n with
   | zero=>omega
   | succ n=>
    rw[c n i s (by omega) a];have:=j n (i+1) (f i s) (b i s (by omega) a) (by omega) (by omega);simpa [Wc] using this
 intro n s a h;simpa using key m n 0 s a (by omega) h
theorem nl1{σ:Type}{f:Nat→σ→σ}{I:σ→Prop}{B:Nat}(a:∀i s,i<B→I s→I (f i s)):∀(m i:Nat) (s:σ),i+m≤B→I s→I (Wc f m i s)
 | 0,_,_,_,h=>h
 | m+1,i,s,hb,h=>nl1 a m (i+1) (f i s) (by omega) (a i s (by omega) h)
def ZO(p:Nat→Bool):Nat→Nat→Bool
 | 0,_=>false
 | m+1,i=>bif p i then true else ZO p m (i+1)
theorem Px{α:Type}(p:Nat→Bool)(x y:α):∀(m i:Nat),OZ (σ:=Unit) (λi c s=>bif p i then x else c s) (λ_=>y) m i ()=bif ZO p m i then x else y
 | 0,_=>rfl
 | m+1,i=>by
  simp only[OZ,ZO];cases p i
  ·exact Px p x y m (i+1)
  ·rfl
theorem ndL(p:Nat→Bool):∀(m i:Nat),ZO p m (i+1)=ZO (λj=>p (j+1)) m i
 | 0,_=>rfl
 | m+1,i=>by simp only[ZO];rw[ndL p m (i+1)]
theorem Bv{p q:Nat→Bool} :∀(m i:Nat),(∀j,i≤j→j<i+m→p j=q j)→ZO p m i=ZO q m i
 | 0,_,_=>rfl
 | m+1,i,h=>by simp only[ZO];rw[h i (by omega) (by omega),Bv m (i+1) (λj a b=>h j (by omega) (by omega))]
theorem Qp(p:Nat→List DC→Bool):∀(a:rM) (s i:Nat),i<a.length→p (s+i) (V a i)=true→(findIdx p a s != ((s+i:Nat):Int))=ZO (λj=>p (s+j) (V a j)) i 0
 | [],_,_,h,_=>by simp at h
 | r::rs,s,0,_,h=>by have h:p s r=true:=h;simp only[findIdx,h,HI,ZO,Nat.add_zero,bne_self_eq_false]
 | r::rs,s,i+1,hi,h=>by
  have b:p (s+1+i) (V rs i)=true:=by rw[show s+1+i=s+(i+1) by omega];exact h
  have c:=Qp p rs (s+1) i (by simpa using hi) b;simp only[findIdx,ZO];have d:V (r::rs) 0=r:=rfl;rw[Nat.add_zero,d];cases e:p s r
  ·simp only[rl];rw[show ((s+(i+1):Nat):Int)=((s+1+i:Nat):Int) by omega,c,ndL];apply Bv;intro j _ _;rw[show s+1+j=s+(j+1) by omega];rfl
  ·simp only[HI];simp only[bne_iff_ne,ne_eq];omega
theorem fT{α:Type}(a:rM)(L:Nat→Int→α)(step:Nat→List DC→α→α)(fin:α)
  (b:∀n (i:Nat),i<a.length→L (n+1) (i:Int)=step i (V a i) (L n ((i:Int)+1)))
  (c:∀n,L (n+1) (a.length:Int)=fin) (n:Nat) (d:a.length<n):L n 0=vQ (σ:=Unit) (λi r k s=>step i r (k s)) (λ_=>fin) a 0 ():=by
 have:=nxB (σ:=Unit) a (λn i _=>L n i) (λi r k s=>step i r (k s)) (λ_=>fin) (λn i _ h=>b n i h) (λn _=>c n) n 0 () (Nat.zero_le _) (by omega);simpa using this
theorem nqk{p q:Nat→List DC→Bool} :∀(l:rM) (s:Nat),(∀i,i<l.length→p (s+i) (V l i)=q (s+i) (V l i))→Pt p l s=Pt q l s
 | [],_,_=>rfl
 | r::rs,s,h=>by
  have a:p s r=q s r:=h 0 (by simp);simp only[Pt];have b:∀i,i<rs.length→p (s+1+i) (V rs i)=q (s+1+i) (V rs i):=by
   intro i d;have c:p (s+(i+1)) (V rs i)=q (s+(i+1)) (V rs i):=h (i+1) (by simp only[di];omega);have e:s+1+i=s+(i+1):=by omega
   rw[e];exact c
  rw[a,nqk rs (s+1) b]
theorem nvw(n:Int):J [.int n] 0=n:=rfl
theorem no0(n:Bool):yz [.bool n] 0=n:=rfl
theorem rS{α:Type}(n:Int)(l:List α)(i:Nat)(x:α):idx n (l.set i x)=idx n l:=by simp only[idx,List.length_set]
theorem Gg{α:Type}(n:Nat)(l:List α)(i:Nat)(x:α):inl n (l.set i x)=inl n l:=by simp only[inl,List.length_set]
theorem Y4{l:rM}{i:Nat}(h:i<l.length)(x:List DC):V (l.set i x) i=x:=by simp only[V];rw[ln,List.getElem?_set_self h];rfl
theorem qD(n:Y):fJ [.str n] 0=n:=rfl
theorem YS{z a:List DC}(h:z.length=a.length):CI z 0 a=a:=by simp[CI,h]
theorem W3{a:rM}{z:Nat}(h:Of a=true)(b:z≤8388608):Pf z [] a=true:=by have h:=RG h;have c:a.length*z≤16777216*8388608:=Nat.mul_le_mul h b;simp only[Pf,List.length_nil,Nat.zero_add,gF];exact⟨Tl (by omega),Tl (by omega)⟩
theorem Q0{a b:rM}{z:Nat}(h:a.length+b.length≤134217728)(c:z≤1048576):Pf z a b=true:=by have d:(a.length+b.length)*z≤134217728*1048576:=Nat.mul_le_mul h c;simp only[Pf,gF];exact⟨Tl (by omega),Tl (by omega)⟩
theorem A1{α:Type}(a:rM)(L:Nat→Int→rM→α)(K:rM→α)(f:List DC→List DC)
  (d:∀n (i:Nat) b,i<a.length→b.length=a.length→V b i=V a i→L (n+1) (i:Int) b=L n ((i:Int)+1) (b.set i (f (V a i))))
  (e:∀n b,b.length=a.length→L (n+1) (a.length:Int) b=K b):L (a.length+1) 0 a=K (a.map f):=by
 have key:∀(n i:Nat),i≤a.length→a.length<n+i→L n (i:Int) ((a.take i).map f++a.drop i)=K (a.map f):=by
  intro n
  induction n with
  | zero=>intro i g j;omega
  | succ n k=>
   intro i g j;by_cases h:i<a.length
   ·have c:((a.take i).map f).length=i:=by simp;omega
    have l:V ((a.take i).map f++a.drop i) i=V a i:=by simp only[V];rw[ln,ln,List.getElem?_append_right (by omega),c];simp
    rw[d n i _ h (by simp;omega) l];have m:V a i=a[i]:=by simp[V,h]
    have o:((a.take i).map f++a.drop i).set i (f (V a i))=(a.take (i+1)).map f++a.drop (i+1):=by rw[List.set_append_right _ _ (by omega),c,Nat.sub_self,lp h,List.set_cons_zero,List.take_add_one,List.getElem?_eq_getElem h,m];simp only[Option.toList_some,List.map_append,List.map_cons,List.map_nil,List.append_assoc,List.cons_append,List.nil_append]
    rw[o];have:=k (i+1) (by omega) (by omega);simpa using this
   ·have:i=a.length:=by omega
    subst this;rw[e _ _ (by simp)];simp
 have:=key (a.length+1) 0 (Nat.zero_le _) (by omega);simpa using this
theorem Xb{α σ:Type}(m:Nat)(L:Nat→Int→σ→α)(f:Nat→σ→σ)(fin:σ→α)(I:Nat→σ→Prop)(b:∀i s,i<m→I i s→I (i+1) (f i s))
  (c:∀n (i:Nat) s,i<m→I i s→L (n+1) (i:Int) s=L n ((i:Int)+1) (f i s))
  (d:∀n s,I m s→L (n+1) (m:Int) s=fin s):∀(n:Nat) (s:σ),I 0 s→m<n→L n 0 s=fin (Wc f m 0 s):=by
 have key:∀(k n i:Nat) (s:σ),I i s→i+k=m→k<n→L n (i:Int) s=fin (Wc f k i s):=by
  intro k
  induction k with
  | zero=>
   intro n i s a e g;cases n with
   | zero=>omega
   | succ n=>
    have:i=m:=by omega
    subst this;exact d n s a
  | succ k j=>
   intro n i s a e g;cases n with
   | zero=>omega
   | succ n=>
    rw[c n i s (by omega) a];have:=j n (i+1) (f i s) (b i s (by omega) a) (by omega) (by omega);simpa [Wc] using this
 intro n s a h;simpa using key m n 0 s a (by omega) h
theorem Wx{n a b:Int} :(bif decide (a≤n) then decide (n≤b) else false)=true↔a≤n∧n≤b:=by by_cases h:a≤n<;>simp[h]
theorem tz(s:Y):(ofStr s).length=s.length:=by simp[ofStr]
theorem Va(s:Y):toStr (ofStr s)=s:=by
 simp only[toStr,ofStr,List.map_map];have:(Vm.byteOf ∘ Vm.db)=id:=by funext b;simp[Vm.byteOf,Vm.db,DC.asInt]
 rw[this,List.map_id]
theorem ny5{n:Int}(a:0≤n)(b:n≤255):Vm.db (UInt8.ofNat n.toNat)=[.int n]:=by
 have:(UInt8.ofNat n.toNat).toNat=n.toNat:=by rw[UInt8.toNat_ofNat'];omega
 simp only[Vm.db,this]
 congr 2
 omega
theorem wc(a b:DC):CI [a] 0 [b]=[b]:=rfl
end Go.Proofs.YteffpikahopfoaaGreat.Pl
