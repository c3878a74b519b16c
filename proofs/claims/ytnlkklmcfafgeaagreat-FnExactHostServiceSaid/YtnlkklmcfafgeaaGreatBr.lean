/- From a law's contract in the value machine to the law's statement: the arguments are opened, their sizes are told. Conditions: the contract holds. -/
import Derived.Test.YtnlkklmcfafgeaaGreatPre
import Derived.Test.YtnlkklmcfafgeaaGreatLaw
import Derived.Test.YtnlkklmcfafgeaaGreatRows
import Derived.JoinedCond
import Derived.Deep.CondSized
namespace Go.Proofs.YtnlkklmcfafgeaaGreat.Br
open Go.ChangeShapes Go.WideShapes Go.ChangeAt Go.RowKit Vm Pl
def ncE (P:Program) (n:Nat) (ok:TypeId→Bool):List Field→Nat→Bool
 | [],o=>Nat.beq o n
 | f::l,o=>Nat.beq f.offset o && ok f.type && ncE P n ok l (o+P.cellsOf f.type)
def nus (P:Program):Nat→TypeId→Bool
 | 0,_=>false
 | n+1,t=>
  match P.underlying t with
  | some .bool=>Nat.beq (P.cellsOf t) 1
  | some (.int _)=>Nat.beq (P.cellsOf t) 1
  | some .string=>Nat.beq (P.cellsOf t) 1
  | some (.slice e)=>Nat.beq (P.cellsOf t) 1 && nus P n e && Nat.blt 0 (P.cellsOf e) && (match fF P n e with | some l=>decide (npg l≤P.bytesOf e) | none=>false)
  | some (.struct fs)=>ncE P (P.cellsOf t) (nus P n) fs.toList 0
  | _=>false
theorem a9.append {w:World} :∀ {cs BA:List CT} {d d':List DC} {f g:Nat→Option Value} {p q:List Nat},a9 w cs d f p→a9 w BA d' g q→(∀j,g j=f (cs.length+j))→a9 w (cs++BA) (d++d') f (p++q)
 | [],BA,d,d',f,g,p,q,h,h',hj=>by
  simp only[a9] at h
  obtain⟨rfl,rfl⟩:=h
  have:g=f:=by funext j;rw[hj];simp
  subst this
  simpa using h'
 | c::cs,BA,_,d',f,g,_,q,h,h',hj=>by
  simp only[a9] at h
  obtain⟨d,r',v,f1,f2,rfl,h1,h2,h3,rfl⟩:=h
  simp only[List.cons_append,a9]
  refine⟨d,r'++d',v,f1,f2++q,rfl,h1,h2,a9.append h3 h' (fun j=> ?_),by simp⟩
  rw[hj]
  simp only[List.length_cons]
  congr 1
  omega
theorem a9.congr {w:World} {cs:List CT} {d:List DC} {f g:Nat→Option Value} {p:List Nat} (h:a9 w cs d f p) (hj:∀j,j<cs.length→g j=f j):a9 w cs d g p:=by
 induction cs generalizing d f g p with
 | nil=>simpa only[a9] using h
 | cons c cs ih=>
  simp only[a9] at h ⊢
  obtain⟨x,r',v,f1,f2,rfl,h1,h2,h3,rfl⟩:=h
  refine⟨x,r',v,f1,f2,rfl, ?_,h2,ih h3 (fun j f_=>hj (j+1) (by simp only[List.length_cons];omega)),rfl⟩
  rw[hj 0 (by simp)]
  exact h1
theorem nih (a b:List DC):On (a++b)=On a+On b:=by
 induction a with
 | nil=>simp [On]
 | cons d l ih=>simp only[List.cons_append,On,ih];omega
theorem ncG:∀ {cs BA:List CT} {a b:List DC},a.length=cs.length→Wb (cs++BA) (a++b)=(Wb cs a && Wb BA b)
 | [],BA,a,b,h=>by
  have:a=[]:=List.length_eq_zero_iff.1 h
  subst this
  simp [Wb]
 | c::cs,BA,a,b,h=>by
  cases a with
  | nil=>simp at h
  | cons x a=>
   simp only[List.cons_append,Wb,List.headD_cons,List.tail_cons]
   rw[ncG (by simpa using h),Bool.and_assoc]
section
variable {H:Type} {enc:TypeId×Value→H} {P:Program} {w:World}
def nuD (P:Program) (w:World) (t:TypeId) (bD:List CT) (cs:List Value) (d:DataW H):Prop:=
 ∃ds fp,a9 w bD ds (fun j=>cs[j]?) fp∧cs.length=bD.length∧bD.length=P.cellsOf t∧(∀v∈cs,v.oneCell'=true)∧On ds+1≤Rows.uptoBulk d∧
  ((DataW.weights P t d).all (· ≤reachBytes)=true→Wb bD ds=true)
theorem nsR {a:Addr} {n:Nat} {cs:List Value} (h:w.cells? 0 a n=some cs):cs.length=n∧∀j,j<n→w.cell? (a.add j)=cs[j]? :=by
 unfold World.cells? at h
 rw[if_pos (Nat.zero_le _)] at h
 refine⟨by simpa using mapM_some_length h,fun j hj=> ?_⟩
 exact mapM_some_get h j j (by simp [hj])
theorem nvC {a:Addr} {v:Value} (h:w.cell? a=some v):a.spot=none∧a.block<w.heap.size:=by
 unfold World.cell? at h
 split at h
 ·rename_i c _ _ hb
  refine⟨?_, ?_⟩
  ·cases hs:a.spot with
   | none=>rfl
   | some s=>simp [hs] at h
  ·exact (Array.getElem?_eq_some_iff.1 hb).1
 ·simp at h
theorem nmc {n m fuel:Nat} {spare:Nat→Bool} {cs:List Value}
  (ih:∀t bD (cs:List Value) (x:DataW H×List MemPlace),fF P n t=some bD→nus P n t=true→DataW.trod enc P w 0 spare true fuel t cs=some x→nuD P w t bD cs x.1):
  ∀(fs:List Field) (xs:List (DataW H×List MemPlace)) (bD:List CT) (o:Nat),ncE P m (nus P n) fs o=true→cs.length=m→o≤m→
   fs.foldr (fun f r=>match fF P n f.type,r with | some l,some m=>some (l++m) | _,_=>none) (some [])=some bD→xs.length=fs.length→
   (∀(i:Nat) (f:Field),fs[i]? =some f→DataW.trod enc P w 0 spare true fuel f.type ((cs.drop f.offset).take (P.cellsOf f.type))=xs[i]?)→
   ∃ds fp,a9 w bD ds (fun j=>(cs.drop o)[j]?) fp∧o+bD.length=m∧(∀v∈cs.drop o,v.oneCell'=true)∧On ds+xs.length≤Rows.uptoBulkAll (xs.map (·.1))∧
    ((DataW.weightsEach P (fs.map (·.type)) (xs.map (·.1))).all (· ≤reachBytes)=true→Wb bD ds=true)
 | [],xs,bD,o,hf,hm,hom,hc,hx,ht=>by
  simp only[List.foldr_nil,Option.some.injEq] at hc
  subst hc
  have:=List.length_eq_zero_iff.1 hx
  subst this
  have ho:o=m:=Nat.eq_of_beq_eq_true (by simpa only[ncE] using hf)
  subst ho
  refine⟨[],[],by simp [a9],by simp, ?_,by simp [On,Rows.uptoBulkAll],fun _=>by simp [Wb]⟩
  rw[List.drop_eq_nil_of_le (by omega)]
  simp
 | f::fs,xs,bD,o,hf,hm,hom,hc,hx,ht=>by
  simp only[ncE,Bool.and_eq_true] at hf
  obtain⟨⟨ho,hty⟩,hf⟩:=hf
  have ho:=Nat.eq_of_beq_eq_true ho
  simp only[List.foldr_cons] at hc
  cases xs with
  | nil=>simp at hx
  | cons x xs=>
   split at hc
   case h_2=>cases hc
   rename_i l r hl hr
   simp only[Option.some.injEq] at hc
   subst hc
   have h0:=ht 0 f rfl
   simp only[List.getElem?_cons_zero] at h0
   obtain⟨ds,fp,g1,g2,g3,g4,g5,g6⟩:=ih _ _ _ _ hl hty h0
   have dB:P.cellsOf f.type≤m - o:=by
    simp only[List.length_take,List.length_drop] at g2
    omega
   obtain⟨aX,BG,k1,k2,k3,k4,k5⟩:=nmc ih fs xs r (o+P.cellsOf f.type) hf hm (by omega) hr (by simpa using hx) (fun i f' Bq=>by have:=ht (i+1) f' (by simpa using Bq);simpa using this)
   have hlen:ds.length=l.length:=a9.length _ _ _ _ g1
   refine⟨ds++aX,fp++BG,a9.append (a9.congr g1 (fun j hj=> ?_)) k1 (fun j=> ?_),by simp;omega, ?_, ?_, ?_⟩
   ·rw[List.getElem?_take_of_lt (by omega),ho]
   ·simp only[List.getElem?_drop]
    congr 1
    omega
   ·intro v hv
    obtain⟨j,hj⟩:=List.getElem?_of_mem hv
    simp only[List.getElem?_drop] at hj
    by_cases cr:j<P.cellsOf f.type
    ·exact g4 v (List.mem_of_getElem? (i:=j) (by rw[List.getElem?_take_of_lt cr,List.getElem?_drop,ho];exact hj))
    ·refine k3 v (List.mem_of_getElem? (i:=j - P.cellsOf f.type) ?_)
     rw[List.getElem?_drop,←hj]
     congr 1
     omega
   ·rw[nih]
    simp only[List.map_cons,Rows.uptoBulkAll,List.length_cons]
    omega
   ·intro hw
    simp only[List.map_cons,DataW.weightsEach,List.all_append,Bool.and_eq_true] at hw
    rw[ncG hlen,Bool.and_eq_true]
    exact⟨g6 hw.1,k5 hw.2⟩
theorem npd:∀(l:List (DataW H)) (f:List (List DC)),l.length=f.length→(∀(i:Nat) d r,l[i]? =some d→f[i]? =some r→On r+1≤Rows.uptoBulk d)→f.length+nsP f≤Rows.uptoBulkAll l
 | [],[],_,_=>by simp [nsP,Rows.uptoBulkAll]
 | [],_::_,h,_=>by simp at h
 | _::_,[],h,_=>by simp at h
 | d::l,r::f,h,hi=>by
  have h1:=hi 0 d r rfl rfl
  have h2:=npd l f (by simpa using h) (fun i d r hd hr=>hi (i+1) d r (by simpa using hd) (by simpa using hr))
  simp only[List.length_cons,nsP,Rows.uptoBulkAll]
  omega
theorem neL:∀(l:List (DataW H)) (e:TypeId) (i:Nat) (d:DataW H),(DataW.weightsAll P e l).all (· ≤reachBytes)=true→l[i]? =some d→(DataW.weights P e d).all (· ≤reachBytes)=true
 | [],_,i,d,_,h=>by simp at h
 | x::l,e,i,d,hw,h=>by
  simp only[DataW.weightsAll,List.all_append,Bool.and_eq_true] at hw
  cases i with
  | zero=>
   simp only[List.getElem?_cons_zero,Option.some.injEq] at h
   subst h
   exact hw.1
  | succ i=>exact neL l e i d hw.2 (by simpa using h)
theorem nhy {spare:Nat→Bool} :∀(n:Nat) (fuel:Nat) (t:TypeId) (bD:List CT) (cs:List Value) (x:DataW H×List MemPlace),fF P n t=some bD→nus P n t=true→DataW.trod enc P w 0 spare true fuel t cs=some x→nuD P w t bD cs x.1
 | 0,_,_,_,_,_,h,_,_=>by simp [fF] at h
 | n+1,fuel,t,bD,cs,x,hc,hty,ht=>by
  unfold fF at hc
  unfold nus at hty
  cases hu:P.underlying t with
  | none=>simp [hu] at hc
  | some u=>
   rw[hu] at hc hty
   cases u with
   | bool=>
    simp only[Option.some.injEq] at hc hty
    subst hc
    obtain⟨b,rfl,rfl⟩:=DataW.trod_bool hu ht
    refine⟨[.bool b],[], ?_,rfl,(Nat.eq_of_beq_eq_true hty).symm,by simp [Value.oneCell'],by simp [On,nsO,Rows.uptoBulk],fun _=>by simp [Wb,nvE]⟩
    simp only[a9,bY]
    exact⟨_,_,_,_,_,rfl,rfl,⟨b,rfl,rfl,rfl⟩,⟨rfl,rfl⟩,rfl⟩
   | int k=>
    simp only[Option.some.injEq] at hc hty
    subst hc
    obtain⟨b,rfl,rfl,hwf⟩:=DataW.trod_int hu ht
    refine⟨[.int b],[], ?_,rfl,(Nat.eq_of_beq_eq_true hty).symm,by simp [Value.oneCell'],by simp [On,nsO,Rows.uptoBulk],fun _=>by simp [Wb,nvE]⟩
    simp only[a9,bY]
    exact⟨_,_,_,_,_,rfl,rfl,⟨b,rfl,rfl,hwf,rfl⟩,⟨rfl,rfl⟩,rfl⟩
   | string=>
    simp only[Option.some.injEq] at hc hty
    subst hc
    obtain⟨s,rfl,rfl,dB⟩:=DataW.trod_string hu ht
    have MM:s.data.toList.length≤maxLen:=by simpa using dB
    refine⟨[.str s.data.toList],[], ?_,rfl,(Nat.eq_of_beq_eq_true hty).symm,by simp [Value.oneCell'],by simp [On,nsO,Rows.uptoBulk],fun hw=> ?_⟩
    ·simp only[a9,bY]
     exact⟨_,_,_,_,_,rfl,rfl,⟨s.data.toList,rfl,by simp,MM,rfl⟩,⟨rfl,rfl⟩,rfl⟩
    ·simp only[DataW.weights,List.all_cons,List.all_nil,Bool.and_true] at hw
     have:=of_decide_eq_true hw
     simp only[Wb,nvE,List.headD_cons,DC.Gw,Bool.and_true]
     exact decide_eq_true this
   | slice e=>
    simp only at hc hty
    cases he:fF P n e with
    | none=>simp [he] at hc
    | some l=>
     rw[he] at hc hty
     simp only[Option.some.injEq,Bool.and_eq_true,decide_eq_true_eq] at hc hty
     subst hc
     obtain⟨⟨⟨h1,hte⟩,jK⟩,Bo⟩:=hty
     rcases DataW.trod_slice hu ht with ⟨rfl,rfl⟩ | ⟨a,len,cap,elems,rest,n',rfl,rfl,rfl,_,M3,D8,hel,mS,lI,nxT⟩
     ·refine⟨[.sl []],[], ?_,rfl,(Nat.eq_of_beq_eq_true h1).symm,by simp [Value.oneCell'],by simp [On,nsO,nsP,Rows.uptoBulk],fun _=>by simp [Wb,nvE,DC.cq]⟩
      simp only[a9,bY]
      exact⟨_,_,_,_,_,rfl,rfl,⟨[],none,0,0,rfl,rfl,rfl,Nat.le_refl _,Nat.zero_le _,.inl ⟨rfl,rfl⟩⟩,⟨rfl,rfl⟩,rfl⟩
     ·have hop:∀i,i<len→∃y BA,elems[i]? =some y∧w.cells? 0 (a.add (i*P.cellsOf e)) (P.cellsOf e)=some BA∧nuD P w e l BA y.1:=by
       intro i hi
       have h:=mS i hi
       have dU:i<elems.length:=by omega
       rw[List.getElem?_eq_getElem dU] at h
       simp only[Option.bind_eq_some_iff] at h
       obtain⟨BA,fB,htr⟩:=h
       exact⟨elems[i],BA,List.getElem?_eq_getElem dU,fB,nhy n n' e l BA _ he hte htr⟩
      have nxF:∃(rows:List (List DC)) (aA:List (List Nat)),rows.length=len∧aA.length=len∧∀i r f,rows[i]? =some r→aA[i]? =some f→
        ∃y BA,elems[i]? =some y∧w.cells? 0 (a.add (i*P.cellsOf e)) (P.cellsOf e)=some BA∧l.length=P.cellsOf e∧a9 w l r (fun j=>BA[j]?) f∧On r+1≤Rows.uptoBulk y.1∧
         ((DataW.weights P e y.1).all (· ≤reachBytes)=true→Wb l r=true):=by
       clear mS lI nxT ht hel M3 D8
       induction len with
       | zero=>exact⟨[],[],rfl,rfl,fun i r f h=>by simp at h⟩
       | succ m ihm=>
        obtain⟨rows,aA,hr,hf,hh⟩:=ihm (fun i hi=>hop i (by omega))
        obtain⟨y,BA,hy,fB,ds,fp,o1,o2,o3,o4,o5,o6⟩:=hop m (by omega)
        refine⟨rows++[ds],aA++[fp],by simp [hr],by simp [hf],fun i r f hir F2=> ?_⟩
        by_cases hi:i<m
        ·exact hh i r f (by rwa [List.getElem?_append_left (by omega)] at hir) (by rwa [List.getElem?_append_left (by omega)] at F2)
        ·have cr:i<(rows++[ds]).length:=(List.getElem?_eq_some_iff.1 hir).1
         simp only[List.length_append,List.length_cons,List.length_nil] at cr
         have kp:i=m:=by omega
         subst kp
         rw[List.getElem?_append_right (by omega),hr] at hir
         rw[List.getElem?_append_right (by omega),hf] at F2
         simp only[Nat.sub_self,List.getElem?_cons_zero,Option.some.injEq] at hir F2
         subst hir
         subst F2
         exact⟨y,BA,hy,fB,o3,o1,o5,o6⟩
      obtain⟨rows,aA,hr,hf,hh⟩:=nxF
      have hl0:0<len→0<l.length∧l.length=P.cellsOf e∧a.spot=none∧a.block<w.heap.size:=by
       intro h0
       obtain⟨y,BA,_,fB,hle,ka,_⟩:=hh 0 rows[0] aA[0] (by simp) (by simp)
       have hp:0<P.cellsOf e:=Nat.le_of_ble_eq_true jK
       have hg:=nsR fB
       have Ck:=hg.2 0 hp
       rw[List.getElem?_eq_getElem (by omega)] at Ck
       have:=nvC Ck
       simp only[Addr.add,Nat.zero_mul,if_true] at this
       exact⟨by omega,hle,this.1,this.2⟩
      refine⟨[.sl rows],if len=0 then [] else a.block::aA.flatten, ?_,rfl,(Nat.eq_of_beq_eq_true h1).symm,by simp [Value.oneCell'], ?_, ?_⟩
      ·simp only[a9,bY]
       refine⟨_,_,_,if len=0 then [] else a.block::aA.flatten,[],rfl,rfl,⟨rows,some a,len,cap,rfl,rfl,hr,M3,D8, ?_⟩,⟨rfl,rfl⟩,by simp⟩
       by_cases h0:len=0
       ·exact .inl ⟨h0,by simp [h0]⟩
       ·obtain⟨p1,p2,p3,p4⟩:=hl0 (by omega)
        refine .inr ⟨by omega,a.block,a.off,aA, ?_,p4,hf,by simp [h0],fun i r f hir F2=> ?_⟩
        ·cases a
         simp only at p3
         subst p3
         rfl
        ·obtain⟨y,BA,_,fB,hle,ka,_⟩:=hh i r f hir F2
         have hg:=nsR fB
         refine a9.congr ka (fun j hj=> ?_)
         rw[←hg.2 j (by omega)]
         congr 1
         cases a
         simp only at p3
         subst p3
         simp only[Addr.add]
         rw[p2]
         split<;>split<;>simp_all<;>omega
      ·have:=npd (elems.map (·.1)) rows (by simp [hr,hel]) (fun i d r hd E6=>by
        have hi:i<aA.length:=by
         have:=(List.getElem?_eq_some_iff.1 E6).1
         omega
        obtain⟨y,BA,hy,_,_,_,hb,_⟩:=hh i r aA[i] E6 (by simp [hi])
        simp only[List.getElem?_map,hy,Option.map_some,Option.some.injEq] at hd
        subst hd
        exact hb)
       simp only[On,nsO,Rows.uptoBulk]
       omega
      ·intro hw
       simp only[DataW.weights,hu,List.all_cons,List.all_append,Bool.and_eq_true] at hw
       simp only[Wb,nvE,List.headD_cons,DC.cq,Bool.and_true,Bool.and_eq_true,List.all_eq_true]
       refine⟨decide_eq_true ?_,fun r E6=> ?_⟩
       ·have:rows.length*npg l≤(elems.map (·.1)).length*P.bytesOf e:=Nat.mul_le_mul (by simp;omega) Bo
        have h2:(elems.map (·.1)).length*P.bytesOf e≤((elems.map (·.1)).length+(rest.map (·.1)).length)*P.bytesOf e:=Nat.mul_le_mul (by omega) (Nat.le_refl _)
        have h3:=of_decide_eq_true hw.1
        have h4:reachBytes=140737488351232:=rfl
        omega
       ·obtain⟨i,hi⟩:=List.getElem?_of_mem E6
        have dU:i<aA.length:=by
         have:=(List.getElem?_eq_some_iff.1 hi).1
         omega
        obtain⟨y,BA,hy,_,_,_,_,dT⟩:=hh i r aA[i] hi (by simp [dU])
        exact dT (neL (elems.map (·.1)) e i y.1 hw.2.1 (by simp [hy]))
   | struct fs=>
    simp only at hc hty
    obtain⟨xs,n',rfl,rfl,hlen,hxs,mS⟩:=DataW.trod_struct hu ht
    obtain⟨ds,fp,g1,g2,g3,g4,g5⟩:=nmc (fun t bD cs x h1 h2 h3=>nhy n n' t bD cs x h1 h2 h3) fs.toList xs bD 0 hty hlen (Nat.zero_le _) hc (by simpa using hxs) (fun i f hf=>mS i f (by simpa using hf))
    refine⟨ds,fp,by simpa using g1,by omega,by omega,by simpa using g3, ?_, ?_⟩
    ·simp only[Rows.uptoBulk]
     omega
    ·intro hw
     simp only[DataW.weights,hu] at hw
     exact g5 hw
   | _=>simp at hc
def nt3 (P:Program):List TypeId→Option (List AK)
 | []=>some []
 | t::ts=>match fF P 16 t,nt3 P ts with
  | some c,some l=>some (⟨c,bj P t⟩::l)
  | _,_=>none
def nvq (P:Program) (t:TypeId):Bool:=match P.underlying t with | some (.array _ _)=>false | some _=>true | none=>false
theorem ntE {t:TypeId} {v:Value} {r:Reach} {base:Nat} (h:Value.okWide P w r base t v) (hna:nvq P t=true):bif bj P t then ∃cs,v= .agg cs else ∀c,v≠ .agg c:=by
 unfold Value.okWide at h
 unfold bj
 unfold nvq at hna
 cases hu:P.underlying t with
 | none=>simp [hu] at hna
 | some u=>
  rw[hu] at h hna
  cases u with
  | struct fs=>
   obtain⟨cs,rfl,_⟩:=h
   exact⟨cs,rfl⟩
  | array a b=>simp at hna
  | _=>
   simp only[cond_false]
   rintro c rfl
   unfold Cell.okWide at h
   rw[hu] at h
   simp [Cell.ok,hu] at h
theorem nsU {base:Nat} {r:Reach} :∀(ts:List TypeId) (ks:List AK) (vs:List Value) (ds:List (DataW H)) (ps:List MemPlace),nt3 P ts=some ks→ts.all (fun t=>nus P 16 t && nvq P t)=true→
  DataW.TrodAll enc P w 0 (fun _=>true) true ts vs ds ps→(∀(j:Nat) t v,ts[j]? =some t→vs[j]? =some v→Value.okWide P w r base t v)→
  ∃dcs fp,dr w ks dcs vs fp∧On dcs≤Rows.uptoBulkAll ds∧((DataW.weightsEach P ts ds).all (· ≤reachBytes)=true→Wb (gW ks) dcs=true)
 | [],ks,vs,ds,ps,hk,_,ht,_=>by
  simp only[nt3,Option.some.injEq] at hk
  subst hk
  obtain⟨rfl,rfl,_⟩:=trodAll_nil ht
  exact⟨[],[],⟨rfl,rfl,rfl⟩,by simp [On],fun _=>by simp [gW,Wb]⟩
 | t::ts,ks,vs,ds,ps,hk,Cw,ht,hv=>by
  simp only[nt3] at hk
  split at hk
  case h_2=>cases hk
  rename_i c l hc hl
  simp only[Option.some.injEq] at hk
  subst hk
  simp only[List.all_cons,Bool.and_eq_true] at Cw
  obtain⟨⟨hty,hna⟩,Cw⟩:=Cw
  obtain⟨v,cN,d,aX,p,q,rfl,rfl,rfl,h1,h2⟩:=trodAll_cons ht
  obtain⟨dcs,fp,k1,k2,k3⟩:=nsU ts l cN aX q hl (by simpa using Cw) h2 (fun j t v ht hv'=>hv (j+1) t v (by simpa using ht) (by simpa using hv'))
  obtain⟨fuel,h1⟩:=h1
  obtain⟨ds1,lG,g1,g2,g3,g4,g5,g6⟩:=nhy 16 fuel t c _ _ hc hty h1
  have D7:=ntE (hv 0 t v rfl rfl) hna
  have hlen:ds1.length=c.length:=a9.length _ _ _ _ g1
  refine⟨ds1++dcs,lG++fp,⟨ds1,dcs,v,cN,lG,fp,rfl,rfl,⟨v.cells.toList, ?_,g4,g1,g2⟩,k1,rfl⟩, ?_, ?_⟩
  ·cases ha:bj P t with
   | true=>
    rw[ha] at D7
    obtain⟨cs,rfl⟩:=D7
    simp [Value.cells]
   | false=>
    rw[ha] at D7
    have:v.cells= #[v]:=by
     cases v<;>first | rfl | exact absurd rfl (D7 _)
    simp only[cond_false]
    rw[this] at g4 ⊢
    exact⟨rfl,g4 v (by simp)⟩
  ·rw[nih]
   simp only[Rows.uptoBulkAll]
   simp only at g5
   omega
  ·intro hw
   simp only[DataW.weightsEach,List.all_append,Bool.and_eq_true] at hw
   show Wb (c++gW l) (ds1++dcs)=true
   rw[ncG hlen,Bool.and_eq_true]
   exact⟨g6 hw.1,k3 hw.2⟩
theorem nvJ {f:Nat} {fn:Func} {s:Sum} {sp:ChangeSpec} {W:World} {base:Nat} {args:Array Value} {ds gs:List (DataW H)} {before:List MemPlace} {t4:TypeId} {r:Reach} {ks:List AK}
  (hl:laidOutB P=true) (hs:Ee P f s) (hks:nt3 P fn.params.toList=some ks) (hps:s.ps=ks) (Le:s.rs=[⟨[.d_ .bool],false⟩]) (Cw:fn.params.toList.all (fun t=>nus P 16 t && nvq P t)=true)
  (hv:sp.vars=[]) (nxp:∀t∈fn.params.toList,P.readableRec t=true∧t<P.types.size) (ML:fn.resultTypes= #[t4]) (hu:P.underlying t4=some .bool)
  (hval:∀(j:Nat) t v,fn.params[j]? =some t→args[j]? =some v→Value.okWide P W r base t v)
  (hW:DataW.Whole enc P fn.params.toList sp.vars false W args.toList ds gs before)
  (A3:(sp.fn H ds).results=[.lit (.bool true)]) (cy:(sp.fn H ds).args=ds) (nwz:(sp.fn H ds).vars=[])
  (aJ:∀dcs,On dcs≤Rows.uptoBulkAll ds→((DataW.weightsEach P fn.params.toList ds).all (· ≤reachBytes)=true→Wb (gW s.ps) dcs=true)→s.fn dcs=(true,[.bool true])):
  Calls P f args W fun e W'=>∃v,e= .returned v∧sp.post enc P fn false true false false W args v W':=by
 have hW':=hW
 obtain⟨p,q,hA,_,_,_,_⟩:=hW
 obtain⟨dcs,fp,k1,k2,k3⟩:=nsU (r:=r) (base:=base) fn.params.toList ks args.toList ds p hks Cw hA (fun j t v ht hv'=>hval j t v (by simpa using ht) (by simpa using hv'))
 subst hps
 have JO:=aJ dcs k2 k3
 have hc:=hs.2 W dcs args.toList fp k1 (by rw[JO])
 rw[show args.toList.toArray=args by simp] at hc
 refine hc.mono fun e W' hx=> ?_
 obtain⟨vs,φ,im,tp,rfl,hk,hr,_⟩:=hx
 rw[JO,Le] at hr
 simp only[fk,dm,bY] at hr
 obtain⟨d1,d2,v,cN,us,D5,Bn,i1,i2,t1,t2,Mm,rfl,gl,_,⟨d,aX,v',vs2,f1,Ff,rfl,rfl,⟨b,rfl,rfl,_⟩,⟨rfl,rfl,_⟩,_⟩,⟨rfl,rfl,_⟩,_⟩:=hr
 simp only[cond_false,List.cons.injEq,and_true] at gl
 subst gl
 simp only[List.append_nil,List.cons.injEq,DC.bool.injEq,and_true] at Mm
 subst Mm
 refine⟨_,rfl,Law.nwB hl hv nxp ML hu hW' A3 cy nwz ⟨hk.os,hk.tape,hk.output,hk.size,fun k CE=>hk.block k CE (fun h=>h.elim)⟩⟩
end
end Go.Proofs.YtnlkklmcfafgeaaGreat.Br
