/- From a law's contract in the value machine to the law's statement: the arguments are opened, their sizes are told. Conditions: the contract holds. -/
import Derived.Test.YtnlkklmcfafgeaaGreatPre
import Derived.Test.YtnlkklmcfafgeaaGreatLaw
import Derived.Test.YtnlkklmcfafgeaaGreatRows
import Derived.JoinedCond
import Derived.Deep.CondSized
namespace Go.Proofs.YtnlkklmcfafgeaaGreat.Br
open Go.ChangeShapes Go.WideShapes Go.ChangeAt Go.RowKit Vm Pl
def neu (P:Program) (n:Nat) (ok:TypeId→Bool):List Field→Nat→Bool
 | [],o=>Nat.beq o n
 | f::l,o=>Nat.beq f.offset o && ok f.type && neu P n ok l (o+P.cellsOf f.type)
def nya (P:Program):Nat→TypeId→Bool
 | 0,_=>false
 | n+1,t=>
  match P.underlying t with
  | some .bool=>Nat.beq (P.cellsOf t) 1
  | some (.int _)=>Nat.beq (P.cellsOf t) 1
  | some .string=>Nat.beq (P.cellsOf t) 1
  | some (.slice e)=>Nat.beq (P.cellsOf t) 1 && nya P n e && Nat.blt 0 (P.cellsOf e) && (match fM P n e with | some l=>decide (nsQ l≤P.bytesOf e) | none=>false)
  | some (.struct fs)=>neu P (P.cellsOf t) (nya P n) fs.toList 0
  | _=>false
theorem bf.append {w:World} :∀ {cs Bx:List CT} {d d':List DC} {f g:Nat→Option Value} {p q:List Nat},bf w cs d f p→bf w Bx d' g q→(∀j,g j=f (cs.length+j))→bf w (cs++Bx) (d++d') f (p++q)
 | [],Bx,d,d',f,g,p,q,h,h',hj=>by
  simp only[bf] at h
  obtain⟨rfl,rfl⟩:=h
  have:g=f:=by funext j;rw[hj];simp
  subst this
  simpa using h'
 | c::cs,Bx,_,d',f,g,_,q,h,h',hj=>by
  simp only[bf] at h
  obtain⟨d,r',v,f1,f2,rfl,h1,h2,h3,rfl⟩:=h
  simp only[List.cons_append,bf]
  refine⟨d,r'++d',v,f1,f2++q,rfl,h1,h2,bf.append h3 h' (fun j=> ?_),by simp⟩
  rw[hj]
  simp only[List.length_cons]
  congr 1
  omega
theorem bf.congr {w:World} {cs:List CT} {d:List DC} {f g:Nat→Option Value} {p:List Nat} (h:bf w cs d f p) (hj:∀j,j<cs.length→g j=f j):bf w cs d g p:=by
 induction cs generalizing d f g p with
 | nil=>simpa only[bf] using h
 | cons c cs ih=>
  simp only[bf] at h ⊢
  obtain⟨x,r',v,f1,f2,rfl,h1,h2,h3,rfl⟩:=h
  refine⟨x,r',v,f1,f2,rfl, ?_,h2,ih h3 (fun j gi=>hj (j+1) (by simp only[List.length_cons];omega)),rfl⟩
  rw[hj 0 (by simp)]
  exact h1
theorem nkT (a b:List DC):Pu (a++b)=Pu a+Pu b:=by
 induction a with
 | nil=>simp [Pu]
 | cons d l ih=>simp only[List.cons_append,Pu,ih];omega
theorem nev:∀ {cs Bx:List CT} {a b:List DC},a.length=cs.length→W9 (cs++Bx) (a++b)=(W9 cs a && W9 Bx b)
 | [],Bx,a,b,h=>by
  have:a=[]:=List.length_eq_zero_iff.1 h
  subst this
  simp [W9]
 | c::cs,Bx,a,b,h=>by
  cases a with
  | nil=>simp at h
  | cons x a=>
   simp only[List.cons_append,W9,List.headD_cons,List.tail_cons]
   rw[nev (by simpa using h),Bool.and_assoc]
section
variable {H:Type} {enc:TypeId×Value→H} {P:Program} {w:World}
def nyk (P:Program) (w:World) (t:TypeId) (bI:List CT) (cs:List Value) (d:DataW H):Prop:=
 ∃ds fp,bf w bI ds (fun j=>cs[j]?) fp∧cs.length=bI.length∧bI.length=P.cellsOf t∧(∀v∈cs,v.oneCell'=true)∧Pu ds+1≤Rows.uptoBulk d∧
  ((DataW.weights P t d).all (· ≤reachBytes)=true→W9 bI ds=true)
theorem nwC {a:Addr} {n:Nat} {cs:List Value} (h:w.cells? 0 a n=some cs):cs.length=n∧∀j,j<n→w.cell? (a.add j)=cs[j]? :=by
 unfold World.cells? at h
 rw[if_pos (Nat.zero_le _)] at h
 refine⟨by simpa using mapM_some_length h,fun j hj=> ?_⟩
 exact mapM_some_get h j j (by simp [hj])
theorem ny9 {a:Addr} {v:Value} (h:w.cell? a=some v):a.spot=none∧a.block<w.heap.size:=by
 unfold World.cell? at h
 split at h
 ·rename_i c _ _ hb
  refine⟨?_, ?_⟩
  ·cases hs:a.spot with
   | none=>rfl
   | some s=>simp [hs] at h
  ·exact (Array.getElem?_eq_some_iff.1 hb).1
 ·simp at h
theorem npA {n m fuel:Nat} {spare:Nat→Bool} {cs:List Value}
  (ih:∀t bI (cs:List Value) (x:DataW H×List MemPlace),fM P n t=some bI→nya P n t=true→DataW.trod enc P w 0 spare true fuel t cs=some x→nyk P w t bI cs x.1):
  ∀(fs:List Field) (xs:List (DataW H×List MemPlace)) (bI:List CT) (o:Nat),neu P m (nya P n) fs o=true→cs.length=m→o≤m→
   fs.foldr (fun f r=>match fM P n f.type,r with | some l,some m=>some (l++m) | _,_=>none) (some [])=some bI→xs.length=fs.length→
   (∀(i:Nat) (f:Field),fs[i]? =some f→DataW.trod enc P w 0 spare true fuel f.type ((cs.drop f.offset).take (P.cellsOf f.type))=xs[i]?)→
   ∃ds fp,bf w bI ds (fun j=>(cs.drop o)[j]?) fp∧o+bI.length=m∧(∀v∈cs.drop o,v.oneCell'=true)∧Pu ds+xs.length≤Rows.uptoBulkAll (xs.map (·.1))∧
    ((DataW.weightsEach P (fs.map (·.type)) (xs.map (·.1))).all (· ≤reachBytes)=true→W9 bI ds=true)
 | [],xs,bI,o,hf,hm,hom,hc,hx,ht=>by
  simp only[List.foldr_nil,Option.some.injEq] at hc
  subst hc
  have:=List.length_eq_zero_iff.1 hx
  subst this
  have ho:o=m:=Nat.eq_of_beq_eq_true (by simpa only[neu] using hf)
  subst ho
  refine⟨[],[],by simp [bf],by simp, ?_,by simp [Pu,Rows.uptoBulkAll],fun _=>by simp [W9]⟩
  rw[List.drop_eq_nil_of_le (by omega)]
  simp
 | f::fs,xs,bI,o,hf,hm,hom,hc,hx,ht=>by
  simp only[neu,Bool.and_eq_true] at hf
  obtain⟨⟨ho,hty⟩,hf⟩:=hf
  have ho:=Nat.eq_of_beq_eq_true ho
  simp only[List.foldr_cons] at hc
  cases xs with
  | nil=>simp at hx
  | cons x xs=>
   split at hc
   case h_2=>cases hc
   rename_i l r hl hr
   simp only[Option.some.injEq] at hc
   subst hc
   have h0:=ht 0 f rfl
   simp only[List.getElem?_cons_zero] at h0
   obtain⟨ds,fp,g1,g2,g3,g4,g5,g6⟩:=ih _ _ _ _ hl hty h0
   have dF:P.cellsOf f.type≤m - o:=by
    simp only[List.length_take,List.length_drop] at g2
    omega
   obtain⟨bc,BD,k1,k2,k3,k4,k5⟩:=npA ih fs xs r (o+P.cellsOf f.type) hf hm (by omega) hr (by simpa using hx) (fun i f' Bo=>by have:=ht (i+1) f' (by simpa using Bo);simpa using this)
   have hlen:ds.length=l.length:=bf.length _ _ _ _ g1
   refine⟨ds++bc,fp++BD,bf.append (bf.congr g1 (fun j hj=> ?_)) k1 (fun j=> ?_),by simp;omega, ?_, ?_, ?_⟩
   ·rw[List.getElem?_take_of_lt (by omega),ho]
   ·simp only[List.getElem?_drop]
    congr 1
    omega
   ·intro v hv
    obtain⟨j,hj⟩:=List.getElem?_of_mem hv
    simp only[List.getElem?_drop] at hj
    by_cases cz:j<P.cellsOf f.type
    ·exact g4 v (List.mem_of_getElem? (i:=j) (by rw[List.getElem?_take_of_lt cz,List.getElem?_drop,ho];exact hj))
    ·refine k3 v (List.mem_of_getElem? (i:=j - P.cellsOf f.type) ?_)
     rw[List.getElem?_drop,←hj]
     congr 1
     omega
   ·rw[nkT]
    simp only[List.map_cons,Rows.uptoBulkAll,List.length_cons]
    omega
   ·intro hw
    simp only[List.map_cons,DataW.weightsEach,List.all_append,Bool.and_eq_true] at hw
    rw[nev hlen,Bool.and_eq_true]
    exact⟨g6 hw.1,k5 hw.2⟩
theorem nsO:∀(l:List (DataW H)) (f:List (List DC)),l.length=f.length→(∀(i:Nat) d r,l[i]? =some d→f[i]? =some r→Pu r+1≤Rows.uptoBulk d)→f.length+nwA f≤Rows.uptoBulkAll l
 | [],[],_,_=>by simp [nwA,Rows.uptoBulkAll]
 | [],_::_,h,_=>by simp at h
 | _::_,[],h,_=>by simp at h
 | d::l,r::f,h,hi=>by
  have h1:=hi 0 d r rfl rfl
  have h2:=nsO l f (by simpa using h) (fun i d r hd hr=>hi (i+1) d r (by simpa using hd) (by simpa using hr))
  simp only[List.length_cons,nwA,Rows.uptoBulkAll]
  omega
theorem ngU:∀(l:List (DataW H)) (e:TypeId) (i:Nat) (d:DataW H),(DataW.weightsAll P e l).all (· ≤reachBytes)=true→l[i]? =some d→(DataW.weights P e d).all (· ≤reachBytes)=true
 | [],_,i,d,_,h=>by simp at h
 | x::l,e,i,d,hw,h=>by
  simp only[DataW.weightsAll,List.all_append,Bool.and_eq_true] at hw
  cases i with
  | zero=>
   simp only[List.getElem?_cons_zero,Option.some.injEq] at h
   subst h
   exact hw.1
  | succ i=>exact ngU l e i d hw.2 (by simpa using h)
theorem nki {spare:Nat→Bool} :∀(n:Nat) (fuel:Nat) (t:TypeId) (bI:List CT) (cs:List Value) (x:DataW H×List MemPlace),fM P n t=some bI→nya P n t=true→DataW.trod enc P w 0 spare true fuel t cs=some x→nyk P w t bI cs x.1
 | 0,_,_,_,_,_,h,_,_=>by simp [fM] at h
 | n+1,fuel,t,bI,cs,x,hc,hty,ht=>by
  unfold fM at hc
  unfold nya at hty
  cases hu:P.underlying t with
  | none=>simp [hu] at hc
  | some u=>
   rw[hu] at hc hty
   cases u with
   | bool=>
    simp only[Option.some.injEq] at hc hty
    subst hc
    obtain⟨b,rfl,rfl⟩:=DataW.trod_bool hu ht
    refine⟨[.bool b],[], ?_,rfl,(Nat.eq_of_beq_eq_true hty).symm,by simp [Value.oneCell'],by simp [Pu,nwz,Rows.uptoBulk],fun _=>by simp [W9,nzb]⟩
    simp only[bf,cd]
    exact⟨_,_,_,_,_,rfl,rfl,⟨b,rfl,rfl,rfl⟩,⟨rfl,rfl⟩,rfl⟩
   | int k=>
    simp only[Option.some.injEq] at hc hty
    subst hc
    obtain⟨b,rfl,rfl,hwf⟩:=DataW.trod_int hu ht
    refine⟨[.int b],[], ?_,rfl,(Nat.eq_of_beq_eq_true hty).symm,by simp [Value.oneCell'],by simp [Pu,nwz,Rows.uptoBulk],fun _=>by simp [W9,nzb]⟩
    simp only[bf,cd]
    exact⟨_,_,_,_,_,rfl,rfl,⟨b,rfl,rfl,hwf,rfl⟩,⟨rfl,rfl⟩,rfl⟩
   | string=>
    simp only[Option.some.injEq] at hc hty
    subst hc
    obtain⟨s,rfl,rfl,dF⟩:=DataW.trod_string hu ht
    have ML:s.data.toList.length≤maxLen:=by simpa using dF
    refine⟨[.str s.data.toList],[], ?_,rfl,(Nat.eq_of_beq_eq_true hty).symm,by simp [Value.oneCell'],by simp [Pu,nwz,Rows.uptoBulk],fun hw=> ?_⟩
    ·simp only[bf,cd]
     exact⟨_,_,_,_,_,rfl,rfl,⟨s.data.toList,rfl,by simp,ML,rfl⟩,⟨rfl,rfl⟩,rfl⟩
    ·simp only[DataW.weights,List.all_cons,List.all_nil,Bool.and_true] at hw
     have:=of_decide_eq_true hw
     simp only[W9,nzb,List.headD_cons,DC.Gt,Bool.and_true]
     exact decide_eq_true this
   | slice e=>
    simp only at hc hty
    cases he:fM P n e with
    | none=>simp [he] at hc
    | some l=>
     rw[he] at hc hty
     simp only[Option.some.injEq,Bool.and_eq_true,decide_eq_true_eq] at hc hty
     subst hc
     obtain⟨⟨⟨h1,hte⟩,jM⟩,Bm⟩:=hty
     rcases DataW.trod_slice hu ht with ⟨rfl,rfl⟩ | ⟨a,len,cap,elems,rest,n',rfl,rfl,rfl,_,M1,D3,hel,mW,lK,nBd⟩
     ·refine⟨[.sl []],[], ?_,rfl,(Nat.eq_of_beq_eq_true h1).symm,by simp [Value.oneCell'],by simp [Pu,nwz,nwA,Rows.uptoBulk],fun _=>by simp [W9,nzb,DC.cV]⟩
      simp only[bf,cd]
      exact⟨_,_,_,_,_,rfl,rfl,⟨[],none,0,0,rfl,rfl,rfl,Nat.le_refl _,Nat.zero_le _,.inl ⟨rfl,rfl⟩⟩,⟨rfl,rfl⟩,rfl⟩
     ·have hop:∀i,i<len→∃y Bx,elems[i]? =some y∧w.cells? 0 (a.add (i*P.cellsOf e)) (P.cellsOf e)=some Bx∧nyk P w e l Bx y.1:=by
       intro i hi
       have h:=mW i hi
       have dY:i<elems.length:=by omega
       rw[List.getElem?_eq_getElem dY] at h
       simp only[Option.bind_eq_some_iff] at h
       obtain⟨Bx,fI,htr⟩:=h
       exact⟨elems[i],Bx,List.getElem?_eq_getElem dY,fI,nki n n' e l Bx _ he hte htr⟩
      have nA7:∃(rows:List (List DC)) (aE:List (List Nat)),rows.length=len∧aE.length=len∧∀i r f,rows[i]? =some r→aE[i]? =some f→
        ∃y Bx,elems[i]? =some y∧w.cells? 0 (a.add (i*P.cellsOf e)) (P.cellsOf e)=some Bx∧l.length=P.cellsOf e∧bf w l r (fun j=>Bx[j]?) f∧Pu r+1≤Rows.uptoBulk y.1∧
         ((DataW.weights P e y.1).all (· ≤reachBytes)=true→W9 l r=true):=by
       clear mW lK nBd ht hel M1 D3
       induction len with
       | zero=>exact⟨[],[],rfl,rfl,fun i r f h=>by simp at h⟩
       | succ m ihm=>
        obtain⟨rows,aE,hr,hf,hh⟩:=ihm (fun i hi=>hop i (by omega))
        obtain⟨y,Bx,hy,fI,ds,fp,o1,o2,o3,o4,o5,o6⟩:=hop m (by omega)
        refine⟨rows++[ds],aE++[fp],by simp [hr],by simp [hf],fun i r f hir FZ=> ?_⟩
        by_cases hi:i<m
        ·exact hh i r f (by rwa [List.getElem?_append_left (by omega)] at hir) (by rwa [List.getElem?_append_left (by omega)] at FZ)
        ·have cz:i<(rows++[ds]).length:=(List.getElem?_eq_some_iff.1 hir).1
         simp only[List.length_append,List.length_cons,List.length_nil] at cz
         have kq:i=m:=by omega
         subst kq
         rw[List.getElem?_append_right (by omega),hr] at hir
         rw[List.getElem?_append_right (by omega),hf] at FZ
         simp only[Nat.sub_self,List.getElem?_cons_zero,Option.some.injEq] at hir FZ
         subst hir
         subst FZ
         exact⟨y,Bx,hy,fI,o3,o1,o5,o6⟩
      obtain⟨rows,aE,hr,hf,hh⟩:=nA7
      have hl0:0<len→0<l.length∧l.length=P.cellsOf e∧a.spot=none∧a.block<w.heap.size:=by
       intro h0
       obtain⟨y,Bx,_,fI,hle,kc,_⟩:=hh 0 rows[0] aE[0] (by simp) (by simp)
       have hp:0<P.cellsOf e:=Nat.le_of_ble_eq_true jM
       have hg:=nwC fI
       have Cg:=hg.2 0 hp
       rw[List.getElem?_eq_getElem (by omega)] at Cg
       have:=ny9 Cg
       simp only[Addr.add,Nat.zero_mul,if_true] at this
       exact⟨by omega,hle,this.1,this.2⟩
      refine⟨[.sl rows],if len=0 then [] else a.block::aE.flatten, ?_,rfl,(Nat.eq_of_beq_eq_true h1).symm,by simp [Value.oneCell'], ?_, ?_⟩
      ·simp only[bf,cd]
       refine⟨_,_,_,if len=0 then [] else a.block::aE.flatten,[],rfl,rfl,⟨rows,some a,len,cap,rfl,rfl,hr,M1,D3, ?_⟩,⟨rfl,rfl⟩,by simp⟩
       by_cases h0:len=0
       ·exact .inl ⟨h0,by simp [h0]⟩
       ·obtain⟨p1,p2,p3,p4⟩:=hl0 (by omega)
        refine .inr ⟨by omega,a.block,a.off,aE, ?_,p4,hf,by simp [h0],fun i r f hir FZ=> ?_⟩
        ·cases a
         simp only at p3
         subst p3
         rfl
        ·obtain⟨y,Bx,_,fI,hle,kc,_⟩:=hh i r f hir FZ
         have hg:=nwC fI
         refine bf.congr kc (fun j hj=> ?_)
         rw[←hg.2 j (by omega)]
         congr 1
         cases a
         simp only at p3
         subst p3
         simp only[Addr.add]
         rw[p2]
         split<;>split<;>simp_all<;>omega
      ·have:=nsO (elems.map (·.1)) rows (by simp [hr,hel]) (fun i d r hd E3=>by
        have hi:i<aE.length:=by
         have:=(List.getElem?_eq_some_iff.1 E3).1
         omega
        obtain⟨y,Bx,hy,_,_,_,hb,_⟩:=hh i r aE[i] E3 (by simp [hi])
        simp only[List.getElem?_map,hy,Option.map_some,Option.some.injEq] at hd
        subst hd
        exact hb)
       simp only[Pu,nwz,Rows.uptoBulk]
       omega
      ·intro hw
       simp only[DataW.weights,hu,List.all_cons,List.all_append,Bool.and_eq_true] at hw
       simp only[W9,nzb,List.headD_cons,DC.cV,Bool.and_true,Bool.and_eq_true,List.all_eq_true]
       refine⟨decide_eq_true ?_,fun r E3=> ?_⟩
       ·have:rows.length*nsQ l≤(elems.map (·.1)).length*P.bytesOf e:=Nat.mul_le_mul (by simp;omega) Bm
        have h2:(elems.map (·.1)).length*P.bytesOf e≤((elems.map (·.1)).length+(rest.map (·.1)).length)*P.bytesOf e:=Nat.mul_le_mul (by omega) (Nat.le_refl _)
        have h3:=of_decide_eq_true hw.1
        have h4:reachBytes=140737488351232:=rfl
        omega
       ·obtain⟨i,hi⟩:=List.getElem?_of_mem E3
        have dY:i<aE.length:=by
         have:=(List.getElem?_eq_some_iff.1 hi).1
         omega
        obtain⟨y,Bx,hy,_,_,_,_,dX⟩:=hh i r aE[i] hi (by simp [dY])
        exact dX (ngU (elems.map (·.1)) e i y.1 hw.2.1 (by simp [hy]))
   | struct fs=>
    simp only at hc hty
    obtain⟨xs,n',rfl,rfl,hlen,hxs,mW⟩:=DataW.trod_struct hu ht
    obtain⟨ds,fp,g1,g2,g3,g4,g5⟩:=npA (fun t bI cs x h1 h2 h3=>nki n n' t bI cs x h1 h2 h3) fs.toList xs bI 0 hty hlen (Nat.zero_le _) hc (by simpa using hxs) (fun i f hf=>mW i f (by simpa using hf))
    refine⟨ds,fp,by simpa using g1,by omega,by omega,by simpa using g3, ?_, ?_⟩
    ·simp only[Rows.uptoBulk]
     omega
    ·intro hw
     simp only[DataW.weights,hu] at hw
     exact g5 hw
   | _=>simp at hc
def nxG (P:Program):List TypeId→Option (List AK)
 | []=>some []
 | t::ts=>match fM P 16 t,nxG P ts with
  | some c,some l=>some (⟨c,bB P t⟩::l)
  | _,_=>none
def nyV (P:Program) (t:TypeId):Bool:=match P.underlying t with | some (.array _ _)=>false | some _=>true | none=>false
theorem nxh {t:TypeId} {v:Value} {r:Reach} {base:Nat} (h:Value.okWide P w r base t v) (hna:nyV P t=true):bif bB P t then ∃cs,v= .agg cs else ∀c,v≠ .agg c:=by
 unfold Value.okWide at h
 unfold bB
 unfold nyV at hna
 cases hu:P.underlying t with
 | none=>simp [hu] at hna
 | some u=>
  rw[hu] at h hna
  cases u with
  | struct fs=>
   obtain⟨cs,rfl,_⟩:=h
   exact⟨cs,rfl⟩
  | array a b=>simp at hna
  | _=>
   simp only[cond_false]
   rintro c rfl
   unfold Cell.okWide at h
   rw[hu] at h
   simp [Cell.ok,hu] at h
theorem nwE {base:Nat} {r:Reach} :∀(ts:List TypeId) (ks:List AK) (vs:List Value) (ds:List (DataW H)) (ps:List MemPlace),nxG P ts=some ks→ts.all (fun t=>nya P 16 t && nyV P t)=true→
  DataW.TrodAll enc P w 0 (fun _=>true) true ts vs ds ps→(∀(j:Nat) t v,ts[j]? =some t→vs[j]? =some v→Value.okWide P w r base t v)→
  ∃dcs fp,dv w ks dcs vs fp∧Pu dcs≤Rows.uptoBulkAll ds∧((DataW.weightsEach P ts ds).all (· ≤reachBytes)=true→W9 (hD ks) dcs=true)
 | [],ks,vs,ds,ps,hk,_,ht,_=>by
  simp only[nxG,Option.some.injEq] at hk
  subst hk
  obtain⟨rfl,rfl,_⟩:=trodAll_nil ht
  exact⟨[],[],⟨rfl,rfl,rfl⟩,by simp [Pu],fun _=>by simp [hD,W9]⟩
 | t::ts,ks,vs,ds,ps,hk,Cs,ht,hv=>by
  simp only[nxG] at hk
  split at hk
  case h_2=>cases hk
  rename_i c l hc hl
  simp only[Option.some.injEq] at hk
  subst hk
  simp only[List.all_cons,Bool.and_eq_true] at Cs
  obtain⟨⟨hty,hna⟩,Cs⟩:=Cs
  obtain⟨v,cR,d,bc,p,q,rfl,rfl,rfl,h1,h2⟩:=trodAll_cons ht
  obtain⟨dcs,fp,k1,k2,k3⟩:=nwE ts l cR bc q hl (by simpa using Cs) h2 (fun j t v ht hv'=>hv (j+1) t v (by simpa using ht) (by simpa using hv'))
  obtain⟨fuel,h1⟩:=h1
  obtain⟨ds1,lI,g1,g2,g3,g4,g5,g6⟩:=nki 16 fuel t c _ _ hc hty h1
  have GA:=nxh (hv 0 t v rfl rfl) hna
  have hlen:ds1.length=c.length:=bf.length _ _ _ _ g1
  refine⟨ds1++dcs,lI++fp,⟨ds1,dcs,v,cR,lI,fp,rfl,rfl,⟨v.cells.toList, ?_,g4,g1,g2⟩,k1,rfl⟩, ?_, ?_⟩
  ·cases ha:bB P t with
   | true=>
    rw[ha] at GA
    obtain⟨cs,rfl⟩:=GA
    simp [Value.cells]
   | false=>
    rw[ha] at GA
    have:v.cells= #[v]:=by
     cases v<;>first | rfl | exact absurd rfl (GA _)
    simp only[cond_false]
    rw[this] at g4 ⊢
    exact⟨rfl,g4 v (by simp)⟩
  ·rw[nkT]
   simp only[Rows.uptoBulkAll]
   simp only at g5
   omega
  ·intro hw
   simp only[DataW.weightsEach,List.all_append,Bool.and_eq_true] at hw
   show W9 (c++hD l) (ds1++dcs)=true
   rw[nev hlen,Bool.and_eq_true]
   exact⟨g6 hw.1,k3 hw.2⟩
theorem nzf {f:Nat} {fn:Func} {s:Sum} {sp:ChangeSpec} {W:World} {base:Nat} {args:Array Value} {ds gs:List (DataW H)} {before:List MemPlace} {t4:TypeId} {r:Reach} {ks:List AK}
  (hl:laidOutB P=true) (hs:D_ P f s) (hks:nxG P fn.params.toList=some ks) (hps:s.ps=ks) (Lb:s.rs=[⟨[.ef .bool],false⟩]) (Cs:fn.params.toList.all (fun t=>nya P 16 t && nyV P t)=true)
  (hv:sp.vars=[]) (nAR:∀t∈fn.params.toList,P.readableRec t=true∧t<P.types.size) (MJ:fn.resultTypes= #[t4]) (hu:P.underlying t4=some .bool)
  (hval:∀(j:Nat) t v,fn.params[j]? =some t→args[j]? =some v→Value.okWide P W r base t v)
  (hW:DataW.Whole enc P fn.params.toList sp.vars false W args.toList ds gs before)
  (A1:(sp.fn H ds).results=[.lit (.bool true)]) (cD:(sp.fn H ds).args=ds) (nzT:(sp.fn H ds).vars=[])
  (aP:∀dcs,Pu dcs≤Rows.uptoBulkAll ds→((DataW.weightsEach P fn.params.toList ds).all (· ≤reachBytes)=true→W9 (hD s.ps) dcs=true)→s.fn dcs=(true,[.bool true])):
  Calls P f args W fun e W'=>∃v,e= .returned v∧sp.post enc P fn false true false false W args v W':=by
 have hW':=hW
 obtain⟨p,q,hA,_,_,_,_⟩:=hW
 obtain⟨dcs,fp,k1,k2,k3⟩:=nwE (r:=r) (base:=base) fn.params.toList ks args.toList ds p hks Cs hA (fun j t v ht hv'=>hval j t v (by simpa using ht) (by simpa using hv'))
 subst hps
 have JK:=aP dcs k2 k3
 have hc:=hs.2 W dcs args.toList fp k1 (by rw[JK])
 rw[show args.toList.toArray=args by simp] at hc
 refine hc.mono fun e W' hx=> ?_
 obtain⟨vs,φ,im,tp,rfl,hk,hr,_⟩:=hx
 rw[JK,Lb] at hr
 simp only[fu,dr,cd] at hr
 obtain⟨d1,d2,v,cR,us,D1,Bl,i1,i2,t1,t2,Ml,rfl,gu,_,⟨d,bc,v',vs2,f1,Fb,rfl,rfl,⟨b,rfl,rfl,_⟩,⟨rfl,rfl,_⟩,_⟩,⟨rfl,rfl,_⟩,_⟩:=hr
 simp only[cond_false,List.cons.injEq,and_true] at gu
 subst gu
 simp only[List.append_nil,List.cons.injEq,DC.bool.injEq,and_true] at Ml
 subst Ml
 refine⟨_,rfl,Law.nzU hl hv nAR MJ hu hW' A1 cD nzT ⟨hk.os,hk.tape,hk.output,hk.size,fun k Cz=>hk.block k Cz (fun h=>h.elim)⟩⟩
end
end Go.Proofs.YtnlkklmcfafgeaaGreat.Br
