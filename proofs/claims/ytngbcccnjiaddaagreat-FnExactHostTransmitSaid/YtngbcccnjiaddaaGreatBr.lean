/- From a law's contract in the value machine to the law's statement: the arguments are opened, their sizes are told. Conditions: the contract holds. -/
import Derived.Test.YtngbcccnjiaddaaGreatPre
import Derived.Test.YtngbcccnjiaddaaGreatLaw
import Derived.Test.YtngbcccnjiaddaaGreatRows
import Derived.JoinedCond
import Derived.Deep.CondSized
namespace Go.Proofs.YtngbcccnjiaddaaGreat.Br
open Go.ChangeShapes Go.WideShapes Go.ChangeAt Go.RowKit Vm Pl
def nex (P:Program) (n:Nat) (ok:TypeId→Bool):List Field→Nat→Bool
 | [],o=>Nat.beq o n
 | f::l,o=>Nat.beq f.offset o && ok f.type && nex P n ok l (o+P.cellsOf f.type)
def nxc (P:Program):Nat→TypeId→Bool
 | 0,_=>false
 | n+1,t=>
  match P.underlying t with
  | some .bool=>Nat.beq (P.cellsOf t) 1
  | some (.int _)=>Nat.beq (P.cellsOf t) 1
  | some .string=>Nat.beq (P.cellsOf t) 1
  | some (.slice e)=>Nat.beq (P.cellsOf t) 1 && nxc P n e && Nat.blt 0 (P.cellsOf e) && (match fb P n e with | some l=>decide (nr5 l≤P.bytesOf e) | none=>false)
  | some (.struct fs)=>nex P (P.cellsOf t) (nxc P n) fs.toList 0
  | _=>false
theorem aS.append {w:World} :∀ {cs AR:List CT} {d d':List DC} {f g:Nat→Option Value} {p q:List Nat},aS w cs d f p→aS w AR d' g q→(∀j,g j=f (cs.length+j))→aS w (cs++AR) (d++d') f (p++q)
 | [],AR,d,d',f,g,p,q,h,h',hj=>by
  simp only[aS] at h
  obtain⟨rfl,rfl⟩:=h
  have:g=f:=by funext j;rw[hj];simp
  subst this
  simpa using h'
 | c::cs,AR,_,d',f,g,_,q,h,h',hj=>by
  simp only[aS] at h
  obtain⟨d,r',v,f1,f2,rfl,h1,h2,h3,rfl⟩:=h
  simp only[List.cons_append,aS]
  refine⟨d,r'++d',v,f1,f2++q,rfl,h1,h2,aS.append h3 h' (fun j=> ?_),by simp⟩
  rw[hj]
  simp only[List.length_cons]
  congr 1
  omega
theorem aS.congr {w:World} {cs:List CT} {d:List DC} {f g:Nat→Option Value} {p:List Nat} (h:aS w cs d f p) (hj:∀j,j<cs.length→g j=f j):aS w cs d g p:=by
 induction cs generalizing d f g p with
 | nil=>simpa only[aS] using h
 | cons c cs ih=>
  simp only[aS] at h ⊢
  obtain⟨x,r',v,f1,f2,rfl,h1,h2,h3,rfl⟩:=h
  refine⟨x,r',v,f1,f2,rfl, ?_,h2,ih h3 (fun j fJ=>hj (j+1) (by simp only[List.length_cons];omega)),rfl⟩
  rw[hj 0 (by simp)]
  exact h1
theorem nkp (a b:List DC):PH (a++b)=PH a+PH b:=by
 induction a with
 | nil=>simp [PH]
 | cons d l ih=>simp only[List.cons_append,PH,ih];omega
theorem ney:∀ {cs AR:List CT} {a b:List DC},a.length=cs.length→Xl (cs++AR) (a++b)=(Xl cs a && Xl AR b)
 | [],AR,a,b,h=>by
  have:a=[]:=List.length_eq_zero_iff.1 h
  subst this
  simp [Xl]
 | c::cs,AR,a,b,h=>by
  cases a with
  | nil=>simp at h
  | cons x a=>
   simp only[List.cons_append,Xl,List.headD_cons,List.tail_cons]
   rw[ney (by simpa using h),Bool.and_assoc]
section
variable {H:Type} {enc:TypeId×Value→H} {P:Program} {w:World}
def nxk (P:Program) (w:World) (t:TypeId) (cb:List CT) (cs:List Value) (d:DataW H):Prop:=
 ∃ds fp,aS w cb ds (fun j=>cs[j]?) fp∧cs.length=cb.length∧cb.length=P.cellsOf t∧(∀v∈cs,v.oneCell'=true)∧PH ds+1≤Rows.uptoBulk d∧
  ((DataW.weights P t d).all (· ≤reachBytes)=true→Xl cb ds=true)
theorem nvB {a:Addr} {n:Nat} {cs:List Value} (h:w.cells? 0 a n=some cs):cs.length=n∧∀j,j<n→w.cell? (a.add j)=cs[j]? :=by
 unfold World.cells? at h
 rw[if_pos (Nat.zero_le _)] at h
 refine⟨by simpa using mapM_some_length h,fun j hj=> ?_⟩
 exact mapM_some_get h j j (by simp [hj])
theorem nx3 {a:Addr} {v:Value} (h:w.cell? a=some v):a.spot=none∧a.block<w.heap.size:=by
 unfold World.cell? at h
 split at h
 ·rename_i c _ _ hb
  refine⟨?_, ?_⟩
  ·cases hs:a.spot with
   | none=>rfl
   | some s=>simp [hs] at h
  ·exact (Array.getElem?_eq_some_iff.1 hb).1
 ·simp at h
theorem noO {n m fuel:Nat} {spare:Nat→Bool} {cs:List Value}
  (ih:∀t cb (cs:List Value) (x:DataW H×List MemPlace),fb P n t=some cb→nxc P n t=true→DataW.trod enc P w 0 spare true fuel t cs=some x→nxk P w t cb cs x.1):
  ∀(fs:List Field) (xs:List (DataW H×List MemPlace)) (cb:List CT) (o:Nat),nex P m (nxc P n) fs o=true→cs.length=m→o≤m→
   fs.foldr (fun f r=>match fb P n f.type,r with | some l,some m=>some (l++m) | _,_=>none) (some [])=some cb→xs.length=fs.length→
   (∀(i:Nat) (f:Field),fs[i]? =some f→DataW.trod enc P w 0 spare true fuel f.type ((cs.drop f.offset).take (P.cellsOf f.type))=xs[i]?)→
   ∃ds fp,aS w cb ds (fun j=>(cs.drop o)[j]?) fp∧o+cb.length=m∧(∀v∈cs.drop o,v.oneCell'=true)∧PH ds+xs.length≤Rows.uptoBulkAll (xs.map (·.1))∧
    ((DataW.weightsEach P (fs.map (·.type)) (xs.map (·.1))).all (· ≤reachBytes)=true→Xl cb ds=true)
 | [],xs,cb,o,hf,hm,hom,hc,hx,ht=>by
  simp only[List.foldr_nil,Option.some.injEq] at hc
  subst hc
  have:=List.length_eq_zero_iff.1 hx
  subst this
  have ho:o=m:=Nat.eq_of_beq_eq_true (by simpa only[nex] using hf)
  subst ho
  refine⟨[],[],by simp [aS],by simp, ?_,by simp [PH,Rows.uptoBulkAll],fun _=>by simp [Xl]⟩
  rw[List.drop_eq_nil_of_le (by omega)]
  simp
 | f::fs,xs,cb,o,hf,hm,hom,hc,hx,ht=>by
  simp only[nex,Bool.and_eq_true] at hf
  obtain⟨⟨ho,hty⟩,hf⟩:=hf
  have ho:=Nat.eq_of_beq_eq_true ho
  simp only[List.foldr_cons] at hc
  cases xs with
  | nil=>simp at hx
  | cons x xs=>
   split at hc
   case h_2=>cases hc
   rename_i l r hl hr
   simp only[Option.some.injEq] at hc
   subst hc
   have h0:=ht 0 f rfl
   simp only[List.getElem?_cons_zero] at h0
   obtain⟨ds,fp,g1,g2,g3,g4,g5,g6⟩:=ih _ _ _ _ hl hty h0
   have dd:P.cellsOf f.type≤m - o:=by
    simp only[List.length_take,List.length_drop] at g2
    omega
   obtain⟨aW,AY,k1,k2,k3,k4,k5⟩:=noO ih fs xs r (o+P.cellsOf f.type) hf hm (by omega) hr (by simpa using hx) (fun i f' BK=>by have:=ht (i+1) f' (by simpa using BK);simpa using this)
   have hlen:ds.length=l.length:=aS.length _ _ _ _ g1
   refine⟨ds++aW,fp++AY,aS.append (aS.congr g1 (fun j hj=> ?_)) k1 (fun j=> ?_),by simp;omega, ?_, ?_, ?_⟩
   ·rw[List.getElem?_take_of_lt (by omega),ho]
   ·simp only[List.getElem?_drop]
    congr 1
    omega
   ·intro v hv
    obtain⟨j,hj⟩:=List.getElem?_of_mem hv
    simp only[List.getElem?_drop] at hj
    by_cases cd:j<P.cellsOf f.type
    ·exact g4 v (List.mem_of_getElem? (i:=j) (by rw[List.getElem?_take_of_lt cd,List.getElem?_drop,ho];exact hj))
    ·refine k3 v (List.mem_of_getElem? (i:=j - P.cellsOf f.type) ?_)
     rw[List.getElem?_drop,←hj]
     congr 1
     omega
   ·rw[nkp]
    simp only[List.map_cons,Rows.uptoBulkAll,List.length_cons]
    omega
   ·intro hw
    simp only[List.map_cons,DataW.weightsEach,List.all_append,Bool.and_eq_true] at hw
    rw[ney hlen,Bool.and_eq_true]
    exact⟨g6 hw.1,k5 hw.2⟩
theorem nr3:∀(l:List (DataW H)) (f:List (List DC)),l.length=f.length→(∀(i:Nat) d r,l[i]? =some d→f[i]? =some r→PH r+1≤Rows.uptoBulk d)→f.length+nvz f≤Rows.uptoBulkAll l
 | [],[],_,_=>by simp [nvz,Rows.uptoBulkAll]
 | [],_::_,h,_=>by simp at h
 | _::_,[],h,_=>by simp at h
 | d::l,r::f,h,hi=>by
  have h1:=hi 0 d r rfl rfl
  have h2:=nr3 l f (by simpa using h) (fun i d r hd hr=>hi (i+1) d r (by simpa using hd) (by simpa using hr))
  simp only[List.length_cons,nvz,Rows.uptoBulkAll]
  omega
theorem ngS:∀(l:List (DataW H)) (e:TypeId) (i:Nat) (d:DataW H),(DataW.weightsAll P e l).all (· ≤reachBytes)=true→l[i]? =some d→(DataW.weights P e d).all (· ≤reachBytes)=true
 | [],_,i,d,_,h=>by simp at h
 | x::l,e,i,d,hw,h=>by
  simp only[DataW.weightsAll,List.all_append,Bool.and_eq_true] at hw
  cases i with
  | zero=>
   simp only[List.getElem?_cons_zero,Option.some.injEq] at h
   subst h
   exact hw.1
  | succ i=>exact ngS l e i d hw.2 (by simpa using h)
theorem njR {spare:Nat→Bool} :∀(n:Nat) (fuel:Nat) (t:TypeId) (cb:List CT) (cs:List Value) (x:DataW H×List MemPlace),fb P n t=some cb→nxc P n t=true→DataW.trod enc P w 0 spare true fuel t cs=some x→nxk P w t cb cs x.1
 | 0,_,_,_,_,_,h,_,_=>by simp [fb] at h
 | n+1,fuel,t,cb,cs,x,hc,hty,ht=>by
  unfold fb at hc
  unfold nxc at hty
  cases hu:P.underlying t with
  | none=>simp [hu] at hc
  | some u=>
   rw[hu] at hc hty
   cases u with
   | bool=>
    simp only[Option.some.injEq] at hc hty
    subst hc
    obtain⟨b,rfl,rfl⟩:=DataW.trod_bool hu ht
    refine⟨[.bool b],[], ?_,rfl,(Nat.eq_of_beq_eq_true hty).symm,by simp [Value.oneCell'],by simp [PH,nvy,Rows.uptoBulk],fun _=>by simp [Xl,nx4]⟩
    simp only[aS,bQ]
    exact⟨_,_,_,_,_,rfl,rfl,⟨b,rfl,rfl,rfl⟩,⟨rfl,rfl⟩,rfl⟩
   | int k=>
    simp only[Option.some.injEq] at hc hty
    subst hc
    obtain⟨b,rfl,rfl,hwf⟩:=DataW.trod_int hu ht
    refine⟨[.int b],[], ?_,rfl,(Nat.eq_of_beq_eq_true hty).symm,by simp [Value.oneCell'],by simp [PH,nvy,Rows.uptoBulk],fun _=>by simp [Xl,nx4]⟩
    simp only[aS,bQ]
    exact⟨_,_,_,_,_,rfl,rfl,⟨b,rfl,rfl,hwf,rfl⟩,⟨rfl,rfl⟩,rfl⟩
   | string=>
    simp only[Option.some.injEq] at hc hty
    subst hc
    obtain⟨s,rfl,rfl,dd⟩:=DataW.trod_string hu ht
    have LO:s.data.toList.length≤maxLen:=by simpa using dd
    refine⟨[.str s.data.toList],[], ?_,rfl,(Nat.eq_of_beq_eq_true hty).symm,by simp [Value.oneCell'],by simp [PH,nvy,Rows.uptoBulk],fun hw=> ?_⟩
    ·simp only[aS,bQ]
     exact⟨_,_,_,_,_,rfl,rfl,⟨s.data.toList,rfl,by simp,LO,rfl⟩,⟨rfl,rfl⟩,rfl⟩
    ·simp only[DataW.weights,List.all_cons,List.all_nil,Bool.and_true] at hw
     have:=of_decide_eq_true hw
     simp only[Xl,nx4,List.headD_cons,DC.FO,Bool.and_true]
     exact decide_eq_true this
   | slice e=>
    simp only at hc hty
    cases he:fb P n e with
    | none=>simp [he] at hc
    | some l=>
     rw[he] at hc hty
     simp only[Option.some.injEq,Bool.and_eq_true,decide_eq_true_eq] at hc hty
     subst hc
     obtain⟨⟨⟨h1,hte⟩,jV⟩,AH⟩:=hty
     rcases DataW.trod_slice hu ht with ⟨rfl,rfl⟩ | ⟨a,len,cap,elems,rest,n',rfl,rfl,rfl,_,L9,Fc,hel,mm,lf,nAd⟩
     ·refine⟨[.sl []],[], ?_,rfl,(Nat.eq_of_beq_eq_true h1).symm,by simp [Value.oneCell'],by simp [PH,nvy,nvz,Rows.uptoBulk],fun _=>by simp [Xl,nx4,DC.cX]⟩
      simp only[aS,bQ]
      exact⟨_,_,_,_,_,rfl,rfl,⟨[],none,0,0,rfl,rfl,rfl,Nat.le_refl _,Nat.zero_le _,.inl ⟨rfl,rfl⟩⟩,⟨rfl,rfl⟩,rfl⟩
     ·have hop:∀i,i<len→∃y AR,elems[i]? =some y∧w.cells? 0 (a.add (i*P.cellsOf e)) (P.cellsOf e)=some AR∧nxk P w e l AR y.1:=by
       intro i hi
       have h:=mm i hi
       have dD:i<elems.length:=by omega
       rw[List.getElem?_eq_getElem dD] at h
       simp only[Option.bind_eq_some_iff] at h
       obtain⟨AR,fI,htr⟩:=h
       exact⟨elems[i],AR,List.getElem?_eq_getElem dD,fI,njR n n' e l AR _ he hte htr⟩
      have nz4:∃(rows:List (List DC)) (az:List (List Nat)),rows.length=len∧az.length=len∧∀i r f,rows[i]? =some r→az[i]? =some f→
        ∃y AR,elems[i]? =some y∧w.cells? 0 (a.add (i*P.cellsOf e)) (P.cellsOf e)=some AR∧l.length=P.cellsOf e∧aS w l r (fun j=>AR[j]?) f∧PH r+1≤Rows.uptoBulk y.1∧
         ((DataW.weights P e y.1).all (· ≤reachBytes)=true→Xl l r=true):=by
       clear mm lf nAd ht hel L9 Fc
       induction len with
       | zero=>exact⟨[],[],rfl,rfl,fun i r f h=>by simp at h⟩
       | succ m ihm=>
        obtain⟨rows,az,hr,hf,hh⟩:=ihm (fun i hi=>hop i (by omega))
        obtain⟨y,AR,hy,fI,ds,fp,o1,o2,o3,o4,o5,o6⟩:=hop m (by omega)
        refine⟨rows++[ds],az++[fp],by simp [hr],by simp [hf],fun i r f hir Ff=> ?_⟩
        by_cases hi:i<m
        ·exact hh i r f (by rwa [List.getElem?_append_left (by omega)] at hir) (by rwa [List.getElem?_append_left (by omega)] at Ff)
        ·have cd:i<(rows++[ds]).length:=(List.getElem?_eq_some_iff.1 hir).1
         simp only[List.length_append,List.length_cons,List.length_nil] at cd
         have jS:i=m:=by omega
         subst jS
         rw[List.getElem?_append_right (by omega),hr] at hir
         rw[List.getElem?_append_right (by omega),hf] at Ff
         simp only[Nat.sub_self,List.getElem?_cons_zero,Option.some.injEq] at hir Ff
         subst hir
         subst Ff
         exact⟨y,AR,hy,fI,o3,o1,o5,o6⟩
      obtain⟨rows,az,hr,hf,hh⟩:=nz4
      have hl0:0<len→0<l.length∧l.length=P.cellsOf e∧a.spot=none∧a.block<w.heap.size:=by
       intro h0
       obtain⟨y,AR,_,fI,hle,kQ,_⟩:=hh 0 rows[0] az[0] (by simp) (by simp)
       have hp:0<P.cellsOf e:=Nat.le_of_ble_eq_true jV
       have hg:=nvB fI
       have BI:=hg.2 0 hp
       rw[List.getElem?_eq_getElem (by omega)] at BI
       have:=nx3 BI
       simp only[Addr.add,Nat.zero_mul,if_true] at this
       exact⟨by omega,hle,this.1,this.2⟩
      refine⟨[.sl rows],if len=0 then [] else a.block::az.flatten, ?_,rfl,(Nat.eq_of_beq_eq_true h1).symm,by simp [Value.oneCell'], ?_, ?_⟩
      ·simp only[aS,bQ]
       refine⟨_,_,_,if len=0 then [] else a.block::az.flatten,[],rfl,rfl,⟨rows,some a,len,cap,rfl,rfl,hr,L9,Fc, ?_⟩,⟨rfl,rfl⟩,by simp⟩
       by_cases h0:len=0
       ·exact .inl ⟨h0,by simp [h0]⟩
       ·obtain⟨p1,p2,p3,p4⟩:=hl0 (by omega)
        refine .inr ⟨by omega,a.block,a.off,az, ?_,p4,hf,by simp [h0],fun i r f hir Ff=> ?_⟩
        ·cases a
         simp only at p3
         subst p3
         rfl
        ·obtain⟨y,AR,_,fI,hle,kQ,_⟩:=hh i r f hir Ff
         have hg:=nvB fI
         refine aS.congr kQ (fun j hj=> ?_)
         rw[←hg.2 j (by omega)]
         congr 1
         cases a
         simp only at p3
         subst p3
         simp only[Addr.add]
         rw[p2]
         split<;>split<;>simp_all<;>omega
      ·have:=nr3 (elems.map (·.1)) rows (by simp [hr,hel]) (fun i d r hd Fp=>by
        have hi:i<az.length:=by
         have:=(List.getElem?_eq_some_iff.1 Fp).1
         omega
        obtain⟨y,AR,hy,_,_,_,hb,_⟩:=hh i r az[i] Fp (by simp [hi])
        simp only[List.getElem?_map,hy,Option.map_some,Option.some.injEq] at hd
        subst hd
        exact hb)
       simp only[PH,nvy,Rows.uptoBulk]
       omega
      ·intro hw
       simp only[DataW.weights,hu,List.all_cons,List.all_append,Bool.and_eq_true] at hw
       simp only[Xl,nx4,List.headD_cons,DC.cX,Bool.and_true,Bool.and_eq_true,List.all_eq_true]
       refine⟨decide_eq_true ?_,fun r Fp=> ?_⟩
       ·have:rows.length*nr5 l≤(elems.map (·.1)).length*P.bytesOf e:=Nat.mul_le_mul (by simp;omega) AH
        have h2:(elems.map (·.1)).length*P.bytesOf e≤((elems.map (·.1)).length+(rest.map (·.1)).length)*P.bytesOf e:=Nat.mul_le_mul (by omega) (Nat.le_refl _)
        have h3:=of_decide_eq_true hw.1
        have h4:reachBytes=140737488351232:=rfl
        omega
       ·obtain⟨i,hi⟩:=List.getElem?_of_mem Fp
        have dD:i<az.length:=by
         have:=(List.getElem?_eq_some_iff.1 hi).1
         omega
        obtain⟨y,AR,hy,_,_,_,_,dr⟩:=hh i r az[i] hi (by simp [dD])
        exact dr (ngS (elems.map (·.1)) e i y.1 hw.2.1 (by simp [hy]))
   | struct fs=>
    simp only at hc hty
    obtain⟨xs,n',rfl,rfl,hlen,hxs,mm⟩:=DataW.trod_struct hu ht
    obtain⟨ds,fp,g1,g2,g3,g4,g5⟩:=noO (fun t cb cs x h1 h2 h3=>njR n n' t cb cs x h1 h2 h3) fs.toList xs cb 0 hty hlen (Nat.zero_le _) hc (by simpa using hxs) (fun i f hf=>mm i f (by simpa using hf))
    refine⟨ds,fp,by simpa using g1,by omega,by omega,by simpa using g3, ?_, ?_⟩
    ·simp only[Rows.uptoBulk]
     omega
    ·intro hw
     simp only[DataW.weights,hu] at hw
     exact g5 hw
   | _=>simp at hc
def nwJ (P:Program):List TypeId→Option (List AK)
 | []=>some []
 | t::ts=>match fb P 16 t,nwJ P ts with
  | some c,some l=>some (⟨c,bh P t⟩::l)
  | _,_=>none
def nxQ (P:Program) (t:TypeId):Bool:=match P.underlying t with | some (.array _ _)=>false | some _=>true | none=>false
theorem nwf {t:TypeId} {v:Value} {r:Reach} {base:Nat} (h:Value.okWide P w r base t v) (hna:nxQ P t=true):bif bh P t then ∃cs,v= .agg cs else ∀c,v≠ .agg c:=by
 unfold Value.okWide at h
 unfold bh
 unfold nxQ at hna
 cases hu:P.underlying t with
 | none=>simp [hu] at hna
 | some u=>
  rw[hu] at h hna
  cases u with
  | struct fs=>
   obtain⟨cs,rfl,_⟩:=h
   exact⟨cs,rfl⟩
  | array a b=>simp at hna
  | _=>
   simp only[cond_false]
   rintro c rfl
   unfold Cell.okWide at h
   rw[hu] at h
   simp [Cell.ok,hu] at h
theorem nvE {base:Nat} {r:Reach} :∀(ts:List TypeId) (ks:List AK) (vs:List Value) (ds:List (DataW H)) (ps:List MemPlace),nwJ P ts=some ks→ts.all (fun t=>nxc P 16 t && nxQ P t)=true→
  DataW.TrodAll enc P w 0 (fun _=>true) true ts vs ds ps→(∀(j:Nat) t v,ts[j]? =some t→vs[j]? =some v→Value.okWide P w r base t v)→
  ∃dcs fp,cQ w ks dcs vs fp∧PH dcs≤Rows.uptoBulkAll ds∧((DataW.weightsEach P ts ds).all (· ≤reachBytes)=true→Xl (gC ks) dcs=true)
 | [],ks,vs,ds,ps,hk,_,ht,_=>by
  simp only[nwJ,Option.some.injEq] at hk
  subst hk
  obtain⟨rfl,rfl,_⟩:=trodAll_nil ht
  exact⟨[],[],⟨rfl,rfl,rfl⟩,by simp [PH],fun _=>by simp [gC,Xl]⟩
 | t::ts,ks,vs,ds,ps,hk,BU,ht,hv=>by
  simp only[nwJ] at hk
  split at hk
  case h_2=>cases hk
  rename_i c l hc hl
  simp only[Option.some.injEq] at hk
  subst hk
  simp only[List.all_cons,Bool.and_eq_true] at BU
  obtain⟨⟨hty,hna⟩,BU⟩:=BU
  obtain⟨v,cx,d,aW,p,q,rfl,rfl,rfl,h1,h2⟩:=trodAll_cons ht
  obtain⟨dcs,fp,k1,k2,k3⟩:=nvE ts l cx aW q hl (by simpa using BU) h2 (fun j t v ht hv'=>hv (j+1) t v (by simpa using ht) (by simpa using hv'))
  obtain⟨fuel,h1⟩:=h1
  obtain⟨ds1,la,g1,g2,g3,g4,g5,g6⟩:=njR 16 fuel t c _ _ hc hty h1
  have FV:=nwf (hv 0 t v rfl rfl) hna
  have hlen:ds1.length=c.length:=aS.length _ _ _ _ g1
  refine⟨ds1++dcs,la++fp,⟨ds1,dcs,v,cx,la,fp,rfl,rfl,⟨v.cells.toList, ?_,g4,g1,g2⟩,k1,rfl⟩, ?_, ?_⟩
  ·cases ha:bh P t with
   | true=>
    rw[ha] at FV
    obtain⟨cs,rfl⟩:=FV
    simp [Value.cells]
   | false=>
    rw[ha] at FV
    have:v.cells= #[v]:=by
     cases v<;>first | rfl | exact absurd rfl (FV _)
    simp only[cond_false]
    rw[this] at g4 ⊢
    exact⟨rfl,g4 v (by simp)⟩
  ·rw[nkp]
   simp only[Rows.uptoBulkAll]
   simp only at g5
   omega
  ·intro hw
   simp only[DataW.weightsEach,List.all_append,Bool.and_eq_true] at hw
   show Xl (c++gC l) (ds1++dcs)=true
   rw[ney hlen,Bool.and_eq_true]
   exact⟨g6 hw.1,k3 hw.2⟩
theorem nx8 {f:Nat} {fn:Func} {s:Sum} {sp:ChangeSpec} {W:World} {base:Nat} {args:Array Value} {ds gs:List (DataW H)} {before:List MemPlace} {t4:TypeId} {r:Reach} {ks:List AK}
  (hl:laidOutB P=true) (hs:DA P f s) (hks:nwJ P fn.params.toList=some ks) (hps:s.ps=ks) (Kb:s.rs=[⟨[.dQ .bool],false⟩]) (BU:fn.params.toList.all (fun t=>nxc P 16 t && nxQ P t)=true)
  (hv:sp.vars=[]) (nzT:∀t∈fn.params.toList,P.readableRec t=true∧t<P.types.size) (LN:fn.resultTypes= #[t4]) (hu:P.underlying t4=some .bool)
  (hval:∀(j:Nat) t v,fn.params[j]? =some t→args[j]? =some v→Value.okWide P W r base t v)
  (hW:DataW.Whole enc P fn.params.toList sp.vars false W args.toList ds gs before)
  (Ak:(sp.fn H ds).results=[.lit (.bool true)]) (cv:(sp.fn H ds).args=ds) (nyF:(sp.fn H ds).vars=[])
  (aF:∀dcs,PH dcs≤Rows.uptoBulkAll ds→((DataW.weightsEach P fn.params.toList ds).all (· ≤reachBytes)=true→Xl (gC s.ps) dcs=true)→s.fn dcs=(true,[.bool true])):
  Calls P f args W fun e W'=>∃v,e= .returned v∧sp.post enc P fn false true false false W args v W':=by
 have hW':=hW
 obtain⟨p,q,hA,_,_,_,_⟩:=hW
 obtain⟨dcs,fp,k1,k2,k3⟩:=nvE (r:=r) (base:=base) fn.params.toList ks args.toList ds p hks BU hA (fun j t v ht hv'=>hval j t v (by simpa using ht) (by simpa using hv'))
 subst hps
 have I0:=aF dcs k2 k3
 have hc:=hs.2 W dcs args.toList fp k1 (by rw[I0])
 rw[show args.toList.toArray=args by simp] at hc
 refine hc.mono fun e W' hx=> ?_
 obtain⟨vs,φ,im,tp,rfl,hk,hr,_⟩:=hx
 rw[I0,Kb] at hr
 simp only[eF,cO,bQ] at hr
 obtain⟨d1,d2,v,cx,us,Ds,AG,i1,i2,t1,t2,Lo,rfl,iw,_,⟨d,aW,v',vs2,f1,Ep,rfl,rfl,⟨b,rfl,rfl,_⟩,⟨rfl,rfl,_⟩,_⟩,⟨rfl,rfl,_⟩,_⟩:=hr
 simp only[cond_false,List.cons.injEq,and_true] at iw
 subst iw
 simp only[List.append_nil,List.cons.injEq,DC.bool.injEq,and_true] at Lo
 subst Lo
 refine⟨_,rfl,Law.nyH hl hv nzT LN hu hW' Ak cv nyF ⟨hk.os,hk.tape,hk.output,hk.size,fun k B6=>hk.block k B6 (fun h=>h.elim)⟩⟩
end
end Go.Proofs.YtngbcccnjiaddaaGreat.Br
