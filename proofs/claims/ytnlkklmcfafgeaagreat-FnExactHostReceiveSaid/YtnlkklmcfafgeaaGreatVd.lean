/- The value machine: runs, loops, contracts out of runs. Conditions: as each lemma says. -/
import Derived.Test.YtnlkklmcfafgeaaGreatVc
import Derived.LoopN
set_option linter.unusedVariables false
set_option linter.unusedSimpArgs false
namespace Go.Proofs.YtnlkklmcfafgeaaGreat.Vm
section
variable {P:Program} {Γ:Ctx} {w0:World} {S:Own} {ops:Array Oper} {gs:List Nat}
theorem gF {i:Nat} :∀ {l m:List Nat},i∈iB l m→i∈l∨i∈m
 | [],m,h=> .inr h
 | k::l,m,h=>by
  simp only[iB] at h
  cases hk:iq k m
  ·simp only[hk,aQ,List.mem_cons] at h
   rcases h with rfl | h
   ·exact .inl (List.mem_cons_self ..)
   ·exact (gF h).imp (List.mem_cons_of_mem _) id
  ·simp only[hk,aj] at h
   exact (gF h).imp (List.mem_cons_of_mem _) id
def lQ (ops:Array Oper) (L:Nat→Bool) (k:Nat):Prop:=∀o,ops[k]? =some o→∀e∈o.after,Region.binds .any e=true→L e.on=true
theorem kn {acc:List (List Nat)} {j:Nat} :∀(l:List Edge),j∈l.foldr (fun e r=>bif Region.binds .any e then iB (iB [e.on] (acc.getD e.on [])) r else r) []→
  ∃e∈l,Region.binds .any e=true∧(j=e.on∨j∈acc.getD e.on [])
 | [],h=>by simp at h
 | e::l,h=>by
  simp only[List.foldr_cons] at h
  cases hb:Region.binds .any e
  ·simp only[hb,aQ] at h
   obtain⟨x,hx,h1⟩:=kn l h
   exact⟨x,List.mem_cons_of_mem _ hx,h1⟩
  ·simp only[hb,aj] at h
   rcases gF h with h | h
   ·refine⟨e,List.mem_cons_self ..,hb, ?_⟩
    rcases gF h with h | h
    ·exact .inl (by simpa using h)
    ·exact .inr h
   ·obtain⟨x,hx,h1⟩:=kn l h
    exact⟨x,List.mem_cons_of_mem _ hx,h1⟩
theorem Aa {L:Nat→Bool} (Bn:∀k,L k=true→lQ ops L k):∀(l:List Oper) (acc:List (List Nat)) (pre:List Oper),ops.toList=pre++l→acc.length=pre.length→
  (∀k j,lQ ops L k→j∈acc.getD k []→L j=true)→∀k j,lQ ops L k→j∈(Cn l acc).getD k []→L j=true
 | [],acc,pre,_,_,h=>by simpa [Cn] using h
 | o::l,acc,pre,I4,hlen,h=>by
  rw[Cn]
  refine Aa Bn l _ (pre++[o]) (by simp [I4]) (by simp [hlen]) ?_
  intro k j hk hj
  rcases Nat.lt_trichotomy k acc.length with cz | heq | FY
  ·refine h k j hk ?_
   rw[List.getD_eq_getElem?_getD,List.getElem?_append_left cz] at hj
   rwa [List.getD_eq_getElem?_getD]
  ·subst heq
   rw[List.getD_eq_getElem?_getD,List.getElem?_append_right (Nat.le_refl _)] at hj
   simp only[Nat.sub_self,List.getElem?_cons_zero,Option.getD_some] at hj
   obtain⟨e,he,hb,hj⟩:=kn _ hj
   have ho:ops[acc.length]? =some o:=by
    rw[←Array.getElem?_toList,I4,hlen]
    simp
   have hL:=hk o ho e (by simpa using he) hb
   rcases hj with rfl | hj
   ·exact hL
   ·exact h e.on j (Bn _ hL) hj
  ·rw[List.getD_eq_getElem?_getD,List.getElem?_eq_none (by simp;omega)] at hj
   simp at hj
theorem jA:∀(l:List Oper) (i:Nat),gz l i=true→∀k o,l[k]? =some o→∀e∈o.after,Region.binds .any e=true→e.on<i+k
 | [],_,_,k,o,h,_,_,_=>by simp at h
 | x::l,i,h,k,o,hk,e,he,hb=>by
  simp only[gz,aw,List.all_eq_true] at h
  cases k with
  | zero=>
   simp only[List.getElem?_cons_zero,aa] at hk
   subst hk
   have:=h.1 e (by simpa using he)
   rw[hb] at this
   simp only[Bool.not_true,Bool.false_or] at this
   exact Nat.le_of_ble_eq_true this
  | succ k=>
   simp only[List.getElem?_cons_succ] at hk
   have:=jA l (i+1) h.2 k o hk e he hb
   omega
theorem jY {an:List (List Nat)} {a:cC} :∀(l:List cC),lP an a l=true→∀b∈l,(dL a b=true→a.i∈an.getD b.i [])∧kj b a=false
 | [],_=>by simp
 | c::l,h=>by
  simp only[lP,aw,Bool.not_eq_true'] at h
  intro b hb
  rcases List.mem_cons.1 hb with rfl | hb
  ·refine⟨fun hc=> ?_,h.1.2⟩
   have:=h.1.1
   rw[hc] at this
   simp only[Bool.not_true,Bool.false_or] at this
   exact gk.1 this
  ·exact jY l h.2 b hb
theorem lT {an:List (List Nat)} :∀(l:List cC),lS an l=true→l.Pairwise (fun a b=>(dL a b=true→a.i∈an.getD b.i [])∧kj b a=false)
 | [],_=> .nil
 | a::l,h=>by
  simp only[lS,aw] at h
  exact .cons (jY l h.1) (lT l h.2)
theorem ga {l m:List Nat} {i:Nat} (h1:i∈l) (h2:i∈m):f_ l m=true:=by
 induction m with
 | nil=>simp at h2
 | cons k m ih=>
  simp only[f_,Bool.or_eq_true]
  rcases List.mem_cons.1 h2 with rfl | h2
  ·exact .inl (gk.2 h1)
  ·exact .inr (ih h2)
theorem iw {rest:List Oper} {st:St} {l:List PS} {fin:St} (h:Path P Γ ops gs rest 0 st l fin) {p:PS} (hp:p∈l):l[p.i]? =some p∧rest[p.i]? =some p.o∧p.i<rest.length:=by
 obtain⟨k,hk,rfl⟩:=List.getElem_of_mem hp
 have h1:=(cB h).1
 have h2:=(cB h).2.1
 have hl:l.length=rest.length:=by rw[←h2];simp
 have e:l[k].i=k:=by
  have:(l.map (·.i))[k]? =(List.range' 0 rest.length)[k]? :=by rw[h1]
  rw[List.getElem?_map,List.getElem?_eq_getElem hk,List.getElem?_range' (by omega)] at this
  simpa using this
 rw[e]
 refine⟨List.getElem?_eq_getElem hk, ?_,by omega⟩
 rw[←h2,List.getElem?_map,List.getElem?_eq_getElem hk]
 rfl
theorem kC {rest:List Oper} {st:St} {l:List PS} {fin:St} {an:List (List Nat)} (h:Path P Γ ops gs rest 0 st l fin) (Cs:lS an (l.map (·.log))=true) {p q:PS} (hp:p∈l) (hq:q∈l) (cz:p.i<q.i):
  (dL p.log q.log=true→p.i∈an.getD q.i [])∧kj q.log p.log=false:=by
 have I_:=List.pairwise_map.1 (lT _ Cs)
 have gp:=(iw h hp).1
 have gq:=(iw h hq).1
 rw[List.pairwise_iff_getElem] at I_
 have lp:=(List.getElem?_eq_some_iff.1 gp).1
 have lq:=(List.getElem?_eq_some_iff.1 gq).1
 have:=I_ p.i q.i lp lq cz
 rw[(List.getElem?_eq_some_iff.1 gp).2,(List.getElem?_eq_some_iff.1 gq).2] at this
 have ei:=((cB h).2.2 p hp).1
 have ej:=((cB h).2.2 q hq).1
 rw[ei,ej] at this
 exact this
theorem A9 {p:PS} (hs:i9 P Γ ops p) {id:Nat} (ht:p.tH id):id∈p.log.wo:=by
 rcases hs with ⟨_,he,_,_⟩ | ⟨_,e,s,r,hr,_,hl,he⟩
 ·rw[PS.tH,he] at ht
  simp at ht
 ·rw[hl]
  simp only[bP,hr]
  have h1:p.e.ow=e.ow∧p.e.cw=e.cw:=by
   rcases he with rfl | ⟨d,g,_,_,he⟩
   ·exact⟨rfl,rfl⟩
   ·rw[he];exact⟨rfl,rfl⟩
  rw[PS.tH,h1.1,h1.2] at ht
  rcases ht with ht | ⟨off,bT,hc⟩
  ·exact aK _ ht
  ·rw[hc]
   exact aT _ (List.mem_singleton.2 rfl)
theorem HU {p:PS} (hs:i9 P Γ ops p) {j:Nat} (hj:j∈cb p.e.sv):j∈p.log.m:=by
 rcases hs with ⟨_,he,_,_⟩ | ⟨_,e,s,r,hr,_,hl,he⟩
 ·rw[he] at hj
  simp [cb] at hj
 ·rw[hl]
  simp only[bP,hr]
  rcases he with rfl | ⟨d,g,_,_,he⟩
  ·exact aT _ hj
  ·rw[he] at hj
   simp [cb] at hj
theorem Gh {ow:List (Nat×Option ao)} {id:Nat} {x:Option ao} (h:Gg ow id=some x):(id,x)∈ow:=by
 induction ow with
 | nil=>simp [Gg] at h
 | cons y l ih=>
  obtain⟨i,ob⟩:=y
  simp only[Gg] at h
  split at h
  ·rename_i hi
   subst hi
   simp only[aa] at h
   subst h
   exact List.mem_cons_self ..
  ·exact List.mem_cons_of_mem _ (ih h)
theorem HT {p:PS} (hs:i9 P Γ ops p) {id:Nat} {ob:ao} (hj:(id,some ob)∈p.e.ow):id∈p.log.m∧∀j∈cK ob,j∈p.log.m:=by
 rcases hs with ⟨_,he,_,_⟩ | ⟨_,e,s,r,hr,_,hl,he⟩
 ·rw[he] at hj
  simp at hj
 ·rw[hl]
  simp only[bP,hr]
  have h1:p.e.ow=e.ow:=by
   rcases he with rfl | ⟨d,g,_,_,he⟩
   ·rfl
   ·rw[he]
  rw[h1] at hj
  unfold Cr
  constructor
  ·exact aK _ (aK _ (List.mem_flatMap.2 ⟨_,hj,List.mem_cons_self ..⟩))
  ·intro j gi
   exact aK _ (aK _ (List.mem_flatMap.2 ⟨_,hj,List.mem_cons_of_mem _ gi⟩))
theorem HS {p:PS} (hs:i9 P Γ ops p) {i off:Nat} {bT:List SV} (hc:p.e.cw=some (i,off,bT)):∀j∈bY bT,j∈p.log.m:=by
 rcases hs with ⟨_,he,_,_⟩ | ⟨_,e,s,r,hr,_,hl,he⟩
 ·rw[he] at hc
  simp at hc
 ·rw[hl]
  simp only[bP,hr]
  have h1:p.e.cw=e.cw:=by
   rcases he with rfl | ⟨d,g,_,_,he⟩
   ·rfl
   ·rw[he]
  rw[h1] at hc
  intro j hj
  unfold Cr
  refine aK _ (aT _ ?_)
  rw[hc]
  exact hj
theorem fZ (a b:List SV):bY (a++b)=bY a++bY b:=by
 induction a with
 | nil=>rfl
 | cons x a ih=>simp [bY,ih]
theorem B_ {a:List SV} {n j:Nat} (h:j∈bY (a.take n)):j∈bY a:=by
 have:=List.take_append_drop n a
 rw[←this,fZ]
 exact aT _ h
theorem B9 {a:List SV} {n j:Nat} (h:j∈bY (a.drop n)):j∈bY a:=by
 have:=List.take_append_drop n a
 rw[←this,fZ]
 exact aK _ h
def Ea (ds:List Nat) (L:Nat→Bool) (l:List PS) (j:Nat):Prop:=j / 64 ∉ ds∨∃p∈l,L p.i=true∧j∈p.log.m
theorem mg {ds:List Nat} {L:Nat→Bool} {s:Nat} :∀(l l0:List PS) (v:SV),(∀p∈l,i9 P Γ ops p)→(∀p∈l,p∈l0)→(∀j∈cb v,Ea ds L l0 j)→∀j∈cb (kQ L l s v),Ea ds L l0 j
 | [],_,v,_,_,hv=>hv
 | p::l,l0,v,hs,ie,hv=>by
  unfold kQ
  simp only[List.foldl_cons]
  refine mg l l0 _ (fun q hq=>hs q (List.mem_cons_of_mem _ hq)) (fun q hq=>ie q (List.mem_cons_of_mem _ hq)) ?_
  intro j hj
  split at hj
  ·rename_i hL
   unfold PS.f at hj
   split at hj
   ·exact .inr ⟨p,ie p (List.mem_cons_self ..),hL,HU (hs p (List.mem_cons_self ..)) hj⟩
   ·exact hv j hj
  ·exact hv j hj
def Eb (ds:List Nat) (L:Nat→Bool) (l:List PS) (id:Nat) (o:Option ao):Prop:=∀ob,o=some ob→Ea ds L l id∧∀j∈cK ob,Ea ds L l j
theorem mh {ds:List Nat} {L:Nat→Bool} {id:Nat} :∀(l l0:List PS) (v:Option ao),(∀p∈l,i9 P Γ ops p)→(∀p∈l,p∈l0)→Eb ds L l0 id v→Eb ds L l0 id (kR L l id v)
 | [],_,v,_,_,hv=>hv
 | p::l,l0,v,hs,ie,hv=>by
  unfold kR
  simp only[List.foldl_cons]
  refine mh l l0 _ (fun q hq=>hs q (List.mem_cons_of_mem _ hq)) (fun q hq=>ie q (List.mem_cons_of_mem _ hq)) ?_
  split
  ·rename_i hL
   have lK:=hs p (List.mem_cons_self ..)
   have kt:=ie p (List.mem_cons_self ..)
   unfold PS.h
   split
   ·rename_i x hx
    rintro ob rfl
    have:=HT lK (Gh hx)
    exact⟨.inr ⟨p,kt,hL,this.1⟩,fun j hj=> .inr ⟨p,kt,hL,this.2 j hj⟩⟩
   ·unfold Es
    split
    ·rename_i i off bT kT
     split
     ·split
      ·rename_i t cells
       rintro ob aS
       simp only[aa] at aS
       subst aS
       have h0:=hv _ rfl
       refine⟨h0.1,fun j hj=> ?_⟩
       simp only[cK,cN,fZ,List.mem_append] at hj
       rcases hj with hj | hj | hj
       ·exact h0.2 j (B_ hj)
       ·exact .inr ⟨p,kt,hL,HS lK kT j hj⟩
       ·exact h0.2 j (B9 hj)
      ·exact hv
     ·exact hv
    ·exact hv
  ·exact hv
theorem Ej {a b:cC} {s:Nat} (ha:a.d=some s) (hb:s∈b.rs):dL a b=true:=by
 have:f_ (jX a.d) (b.rs++jX b.d)=true:=ga (i:=s) (by simp [ha,jX]) (aT _ hb)
 simp [dL,this]
theorem Eh {a b:cC} {s:Nat} (ha:a.d=some s) (hb:b.d=some s):dL a b=true:=by
 have:f_ (jX a.d) (b.rs++jX b.d)=true:=ga (i:=s) (by simp [ha,jX]) (aK _ (by simp [hb,jX]))
 simp [dL,this]
theorem El {a b:cC} {s:Nat} (ha:s∈a.rs) (hb:b.d=some s):dL a b=true:=by
 have:f_ a.rs (jX b.d)=true:=ga (i:=s) ha (by simp [hb,jX])
 simp [dL,this]
theorem En {a b:cC} {s:Nat} (ha:s∈a.wo) (hb:s∈b.wo):dL a b=true:=by
 have:f_ a.wo (b.ro++b.wo)=true:=ga (i:=s) ha (aK _ hb)
 simp [dL,this]
theorem Em {a b:cC} {s:Nat} (ha:s∈a.wo) (hb:s∈b.ro):dL a b=true:=by
 have:f_ a.wo (b.ro++b.wo)=true:=ga (i:=s) ha (aT _ hb)
 simp [dL,this]
theorem Ek {a b:cC} {s:Nat} (ha:s∈a.ro) (hb:s∈b.wo):dL a b=true:=by
 have:f_ a.ro b.wo=true:=ga (i:=s) ha hb
 simp [dL,this]
theorem Ei {a b:cC} {j:Nat} (ha:a.d=some (j / 64)) (hb:j∈b.m):dL a b=true:=by
 have:(b.m.any fun i=>Nat.beq (i / 64) (j / 64))=true:=by
  simp only[List.any_eq_true]
  exact⟨j,hb,Nat.beq_refl _⟩
 unfold dL
 rw[ha]
 simp only[this,Bool.or_true]
theorem DE {a b:cC} {j:Nat} (ha:b.d=some (j / 64)) (hb:j∈a.m):kj b a=true:=by
 unfold kj
 rw[ha]
 simp only[List.any_eq_true]
 exact⟨j,hb,Nat.beq_refl _⟩
theorem Ad {p q:Nat→Bool} :∀(l:List Nat),(∀k∈l,q k=true→p k=true)→(∃k∈l,p k=true∧q k=false)→l.countP q<l.countP p
 | [],_,h=>by simp at h
 | x::l,h,⟨k,hk,hp,hq⟩=>by
  have hle:l.countP q≤l.countP p:=List.countP_mono_left (fun y hy MG=>h y (List.mem_cons_of_mem _ hy) MG)
  simp only[List.countP_cons]
  rcases List.mem_cons.1 hk with rfl | hk
  ·rw[hp,hq]
   simp
   omega
  ·have:=Ad l (fun y hy=>h y (List.mem_cons_of_mem _ hy)) ⟨k,hk,hp,hq⟩
   have hx:=h x (List.mem_cons_self ..)
   cases MF:q x
   ·simp;omega
   ·rw[hx MF];simp;omega
def H0 (ops:Array Oper) (listed:Array Bool):Nat:=(List.range ops.size).countP fun k=> !(listed.getD k true)
def JB (w0:World) (S:Own) (st:St) (l:List PS) (L:Nat→Bool) (a:Act) (w:World):Prop:=
 ∃lh:St,Rel w0 S lh a w∧lh.n=st.n∧(∀s,lh.get s=kQ L l s (st.get s))∧∀id,lh.obj id=kR L l id (st.obj id)
theorem Ai {α:Type} {step:PS→α→α} {T:PS→Prop} (dZ:∀p v,¬T p→step p v=v) {L:Nat→Bool} {l:List PS} {p:PS} (v:α)
  (h1:∀q∈l,T q→q.i<p.i→L q.i=true) (h2:∀q∈l,T q→p.i<q.i→L q.i=false) (h3:L p.i=false):
  l.foldl (fun v q=>if L q.i then step q v else v) v=l.foldl (fun v q=>if decide (q.i<p.i) then step q v else v) v:=by
 refine fold_congr step T dZ (L:=L) (L':=fun k=>decide (k<p.i)) l v (fun q hq ht=> ?_)
 rcases Nat.lt_trichotomy q.i p.i with cz | heq | FY
 ·rw[h1 q hq ht cz];simp [cz]
 ·rw[heq,h3];simp
 ·rw[h2 q hq ht FY];simp;omega
theorem mB {o:Oper} {d:Nat} :∀ {l:List Oper},o∈l→o.dst=some d→d∈lu l
 | [],hm,_=>by simp at hm
 | x::r,hm,Ch=>by
  simp only[lu]
  rcases List.mem_cons.1 hm with rfl | hm
  ·rw[Ch];exact List.mem_cons_self ..
  ·split
   ·exact List.mem_cons_of_mem _ (mB hm Ch)
   ·exact mB hm Ch
theorem Fw (fa:bN P Γ) {st:St} {l:List PS} {fin:St} (dM:Path P Γ ops gs ops.toList 0 st l fin) (Cs:lS (Cn ops.toList []) (l.map (·.log))=true)
  (ca:eM (lu ops.toList) st=true) {L:Nat→Bool} (Bn:∀k,L k=true→lQ ops L k) {p:PS} (hp:p∈l) (hg:lQ ops L p.i) (hL:L p.i=false)
  {Q:Exit→Act→World→Prop} {a:Act} {w:World} (DJ:JB w0 S st l L a w) {K:Act→World→Prop} (hK:∀a' w',JB w0 S st l (fun k=>L k || k==p.i) a' w'→K a' w'):wpOp P ops Q p.i K a w:=by
 obtain⟨lh,hR,hn,mW,hY⟩:=DJ
 have kx:=CO dM
 have iH:=lb dM
 have lK:=kx p hp
 have Is:=Aa Bn ops.toList [] [] rfl rfl (by simp)
 have hd:∀q∈l,q.log.d=q.o.dst:=fun q hq=>((cB dM).2.2 q hq).2
 have hA:∀q∈l,q.i<p.i→dL q.log p.log=true→L q.i=true:=fun q hq cz hc=>Is p.i q.i hg ((kC dM Cs hq hp cz).1 hc)
 have hB:∀q∈l,p.i<q.i→dL p.log q.log=true→L q.i=false:=by
  intro q hq cz hc
  cases H2:L q.i
  ·rfl
  ·have:=Is q.i p.i (Bn _ H2) ((kC dM Cs hp hq cz).1 hc)
   rw[hL] at this
   cases this
 obtain⟨Mq,Mr,LD⟩:=iH.1 p hp
 have dA:∀s∈p.log.rs,lh.get s=p.st.get s:=by
  intro s hs
  rw[mW s,Mq s]
  refine Ai (step:=fun q v=>PS.f q s v) (T:=fun q=>q.tF s) (fun q v h=>PS.Ii h v) _ (fun q hq ht cz=>hA q hq cz (Ej ((hd q hq).trans ht) hs)) (fun q hq ht cz=>hB q hq cz (El hs ((hd q hq).trans ht))) hL
 have aS:∀id∈p.log.ro,lh.obj id=p.st.obj id:=by
  intro id hs
  rw[hY id,Mr id]
  refine Ai (step:=fun q v=>PS.h q id v) (T:=fun q=>q.tH id) (fun q v h=>PS.Ip h v) _ (fun q hq ht cz=>hA q hq cz (Em (A9 (kx q hq) ht) hs)) (fun q hq ht cz=>hB q hq cz (Ek hs (A9 (kx q hq) ht))) hL
 have hnd:(l.map (·.i)).Nodup:=by
  rw[(cB dM).1]
  exact List.nodup_range'
 have I_:l.Pairwise (fun a b=>a.i<b.i):=by
  have:=List.pairwise_lt_range' (s:=0) (n:=ops.toList.length)
  rw[←(cB dM).1] at this
  exact List.pairwise_map.1 this
 have HP:∀s,kQ (fun k=>L k || k==p.i) l s (st.get s)=p.f s (lh.get s):=by
  intro s
  rw[mW s]
  exact hJ (fun q v=>PS.f q s v) (fun q=>q.tF s) (fun q v h=>PS.Ii h v) (L:=L) (q:=p) l (st.get s) hp hnd hL I_ (fun q hq cz h1 h2=>hB q hq cz (Eh ((hd p hp).trans h1) ((hd q hq).trans h2)))
 have HQ:∀id,kR (fun k=>L k || k==p.i) l id (st.obj id)=p.h id (lh.obj id):=by
  intro id
  rw[hY id]
  exact hJ (fun q v=>PS.h q id v) (fun q=>q.tH id) (fun q v h=>PS.Ip h v) (L:=L) (q:=p) l (st.obj id) hp hnd hL I_ (fun q hq cz h1 h2=>hB q hq cz (En (A9 lK h1) (A9 (kx q hq) h2)))
 have KV:ops[p.i]? =some p.o:=by
  rw[←Array.getElem?_toList]
  exact (iw dM hp).2.1
 have Ml:∀d,p.o.dst=some d→d∈lu ops.toList:=by
  intro d Ch
  have hm:p.o∈ops.toList:=List.mem_of_getElem? (iw dM hp).2.1
  exact mB hm Ch
 have Hs:gh ops p.o ⊆ p.log.rs:=by
  rcases lK with ⟨_,_,_,hl⟩ | ⟨_,e,s,r,hr,_,hl,_⟩
  ·rw[hl];exact fun _ h=>h
  ·rw[hl];simp only[bP,hr];exact fun _ h=>aT _ h
 have Ap:fH ops lh p.o=fH ops p.st p.o:=by
  unfold fH
  split
  ·rfl
  ·rename_i j want Ms
   split
   ·rfl
   ·rename_i s hs
    rw[dA s (Hs (by unfold gh;simp [Ms,hs,jX]))]
 unfold wpOp
 rw[KV]
 simp only
 have hw:fH ops lh p.o=some true∨fH ops lh p.o=some false:=by
  rw[Ap]
  rcases lK with ⟨h,_⟩ | ⟨h,_⟩
  ·exact .inr h
  ·exact .inl h
 rcases lK with ⟨Ji,he,aP,hl⟩ | ⟨Ji,e,s,r,hr,aP,hl,he⟩
 ·rw[←Ap] at Ji
  rw[if_neg (by rw[kL hR Ji];simp)]
  refine hK _ _ ⟨lh.skip p.o.dst, ?_,hn,fun s=> ?_,fun id=> ?_⟩
  ·have HD:∀d,p.o.dst=some d→bn lh.n d:=by
    intro d Ch
    simp only[St.skip,St.apply,gy] at aP
    have:=aP.2
    rw[Ch] at this
    have:=lG this
    rw[hn,←LD]
    exact this
   obtain⟨β,φ,hc⟩:=hR.core
   exact iM (e:= {sv:= .undef}) hR HD hR.kept ⟨β,φ,hc,by simp [aq]⟩
  ·rw[HP s]
   unfold St.skip
   rw[←he]
   exact (lF lh p s)
  ·rw[HQ id]
   unfold St.skip
   rw[←he]
   exact (jv lh p id)
 ·rw[←Ap] at Ji
  rw[if_pos (kL hR Ji)]
  refine .inl ?_
  have Lb:∀k∈s,lh.get k=p.st.get k:=fun k hk=>dA k (by rw[hl];simp only[bP,hr];exact aK _ hk)
  have A2:∀k∈r,lh.obj k=p.st.obj k:=fun k hk=>aS k (by rw[hl];simp only[bP,hr];exact aK _ hk)
  have bA:=M.kE (evalOp P Γ p.o) hr Lb A2
  simp only[St.apply,gy] at aP
  have BI:=BW fa hR (M.eE _ bA) aP.1.2 (fun d Ch=>by
    have:=aP.2
    rw[Ch] at this
    have:=lG this
    rw[hn,←LD]
    exact this) (fun _ d Ch=> ?_) Q
  ·refine Oper.wp_mono ?_ BI
   rintro a' w' ⟨v,rfl,eZ⟩
   rcases he with he | ⟨d,g,Ch,f8,he⟩
   ·refine hK _ _ ⟨lh.apply p.o.dst e,eZ,hn,fun s=> ?_,fun id=> ?_⟩
    ·rw[HP s,←he];exact lF lh p s
    ·rw[HQ id,←he];exact jv lh p id
   ·have hb:(lh.apply p.o.dst e).get d= .bool g:=by
     rw[Ch,apply_get,f8]
     simp [aD]
    have HI:=eZ.Az hb
    refine hK _ _ ⟨(lh.apply p.o.dst e).reset.fV d g,eZ.reset.fV HI,hn,fun s=> ?_,fun id=> ?_⟩
    ·rw[HP s];exact Fg Ch p rfl he s
    ·rw[HQ id];exact Fh p rfl he id
  ·have key:∀j,Ea (lu ops.toList) L l j→j / 64≠d:=by
    rintro j (hj | ⟨q,hq,H2,hj⟩) rfl
    ·exact hj (Ml _ Ch)
    ·rcases Nat.lt_trichotomy q.i p.i with cz | heq | FY
     ·have:=(kC dM Cs hq hp cz).2
      rw[DE ((hd p hp).trans Ch) hj] at this
      cases this
     ·rw[heq,hL] at H2
      cases H2
     ·have:=hB q hq FY (Ei ((hd p hp).trans Ch) hj)
      rw[this] at H2
      cases H2
   have Km:=fun d' Iz=>BF ca d' Iz
   constructor
   ·intro i j hj
    rw[mW i] at hj
    refine key j (mg l l _ kx (fun _ h=>h) (fun k hk=> .inl (fun hm=> ?_)) j hj)
    exact (Km _ hm).slot i k hk rfl
   ·intro j ob je
    rw[hY j] at je
    have h0:Eb (lu ops.toList) L l j (st.obj j):=by
     intro Fu jL
     refine⟨.inl (fun hm=>((Km _ hm).obj j Fu jL).1 rfl),fun k hk=> .inl (fun hm=>((Km _ hm).obj j Fu jL).2 k hk rfl)⟩
    have:=mh l l _ kx (fun _ h=>h) h0 ob je
    exact⟨key j this.1,fun k hk=>key k (this.2 k hk)⟩
theorem Cf (fa:bN P Γ) {st:St} {l:List PS} {fin:St} (dM:Path P Γ ops gs ops.toList 0 st l fin) (Cs:lS (Cn ops.toList []) (l.map (·.log))=true)
  (ca:eM (lu ops.toList) st=true) (Mm:gz ops.toList 0=true) {Q:Exit→Act→World→Prop} (hQ:∀a w,Rel w0 S fin a w→Q .normal a w):
  ∀(fuel:Nat) (listed:Array Bool) (a:Act) (w:World),listed.size=ops.size→(∀k,listed.getD k false=true→lQ ops (fun k=>listed.getD k false) k)→H0 ops listed≤fuel→
   JB w0 S st l (fun k=>listed.getD k false) a w→wpAny P .any ops Q fuel listed a w:=by
 have iH:=lb dM
 have hlen:l.length=ops.size:=by
  have:(l.map (·.o)).length=ops.toList.length:=by rw[(cB dM).2.1]
  simpa using this
 have done:∀(listed:Array Bool) (a:Act) (w:World),listed.size=ops.size→Region.ready .any ops listed=[]→JB w0 S st l (fun k=>listed.getD k false) a w→Q .normal a w:=by
  intro listed a w dF hr ⟨lh,hR,hn,mW,hY⟩
  have Ir:∀k,k<ops.size→listed.getD k false=true:=by
   intro k
   induction k using Nat.strongRecOn with
   | ind k ih=>
    intro hk
    cases L_:listed.getD k false
    ·have:k∈Region.ready .any ops listed:=by
      rw[mem_ready]
      refine⟨?_,ops[k],Array.getElem?_eq_getElem hk,fun e he hb=> ?_⟩
      ·rw[←L_]
       simp only[Array.getD_eq_getD_getElem?,Array.getElem?_eq_getElem (show k<listed.size by omega),Option.getD_some]
      ·have:=jA ops.toList 0 Mm k ops[k] (by simp [Array.getElem?_toList,hk]) e he hb
       exact ih e.on (by omega) (by omega)
     rw[hr] at this
     cases this
    ·rfl
  refine hQ a w ?_
  have Lw:∀q∈l,listed.getD q.i false=true:=by
   intro q hq
   have:=(iw dM hq).2.2
   exact Ir q.i (by simpa using this)
  have e1:lh.get=fin.get:=by
   funext s
   rw[mW s,iH.2.1 s]
   exact fold_congr (fun q v=>PS.f q s v) (fun _=>True) (fun _ _ h=>absurd trivial h) (L:=fun k=>listed.getD k false) (L':=fun _=>true) l _ (fun q hq _=>Lw q hq)
  have e2:lh.obj=fin.obj:=by
   funext s
   rw[hY s,iH.2.2.1 s]
   exact fold_congr (fun q v=>PS.h q s v) (fun _=>True) (fun _ _ h=>absurd trivial h) (L:=fun k=>listed.getD k false) (L':=fun _=>true) l _ (fun q hq _=>Lw q hq)
  obtain⟨β,φ,hc⟩:=hR.core
  refine⟨?_,fun x hx=>by rw[iH.2.2.2,←hn];exact hR.fx x hx,hR.defers,hR.kept,β,φ, ?_⟩
  ·rw[hR.size,hn,iH.2.2.2]
  ·rw[←e1,←e2];exact hc
 intro fuel
 induction fuel with
 | zero=>
  intro listed a w dF Bn Jg DJ
  have hr:Region.ready .any ops listed=[]:=by
   cases MI:Region.ready .any ops listed with
   | nil=>rfl
   | cons x xs=>
    have hx:x∈Region.ready .any ops listed:=by rw[MI];exact List.mem_cons_self ..
    obtain⟨h1,o,ho,_⟩:=mem_ready.1 hx
    have cz:=(Array.getElem?_eq_some_iff.1 ho).1
    have:0<H0 ops listed:=by
     unfold H0
     rw[List.countP_pos_iff]
     exact⟨x,List.mem_range.2 cz,by simp only[h1];rfl⟩
    omega
  exact⟨hr,done listed a w dF hr DJ⟩
 | succ fuel ih=>
  intro listed a w dF Bn Jg DJ
  refine⟨fun hr=>done listed a w dF hr DJ,fun i hi=> ?_⟩
  obtain⟨h1,o,ho,Kk⟩:=mem_ready.1 hi
  have cz:=(Array.getElem?_eq_some_iff.1 ho).1
  have EP:i<l.length:=by omega
  have JU:l[i].i=i:=by
   have:(l.map (·.i))[i]? =(List.range' 0 ops.toList.length)[i]? :=by rw[(cB dM).1]
   rw[List.getElem?_map,List.getElem?_eq_getElem EP,List.getElem?_range' (by simpa using cz)] at this
   simpa using this
  have Jd:∀k,(listed.setIfInBounds i true).getD k false=(listed.getD k false || k==i):=by
   intro k
   simp only[Array.getD_eq_getD_getElem?,Array.getElem?_setIfInBounds]
   by_cases hk:i=k
   ·subst hk
    simp [show i<listed.size by omega]
   ·have:(k==i)=false:=by simpa using fun h=>hk h.symm
    simp [hk,this]
  have L9:listed.getD i false=false:=by
   rw[←h1]
   simp only[Array.getD_eq_getD_getElem?,Array.getElem?_eq_getElem (show i<listed.size by omega),Option.getD_some]
  have LG:lQ ops (fun k=>listed.getD k false) i:=by
   intro o' ec e he hb
   rw[ho] at ec
   injection ec with ec
   subst ec
   exact Kk e he hb
  have:=Fw (w0:=w0) (S:=S) (Q:=Q) fa dM Cs ca Bn (p:=l[i]) (List.getElem_mem EP) (by rw[JU];exact LG) (by rw[JU];exact L9) DJ
   (K:=wpAny P .any ops Q fuel (listed.setIfInBounds i true)) (fun a' w' hc=> ?_)
  ·rw[JU] at this
   exact this
  ·refine ih _ a' w' (by simpa using dF) (fun k hk=> ?_) ?_ ?_
   ·intro o' ec e he hb
    show (listed.setIfInBounds i true).getD e.on false=true
    rw[Jd] at hk ⊢
    simp only[Bool.or_eq_true,beq_iff_eq] at hk ⊢
    rcases hk with hk | rfl
    ·exact .inl (Bn k hk o' ec e he hb)
    ·exact .inl (LG o' ec e he hb)
   ·have:H0 ops (listed.setIfInBounds i true)<H0 ops listed:=by
     unfold H0
     refine Ad _ (fun k hk hq=> ?_) ⟨i,List.mem_range.2 cz,by simp only[h1];rfl, ?_⟩
     ·simp only[Bool.not_eq_true',Array.getD_eq_getD_getElem?,Array.getElem?_setIfInBounds] at hq ⊢
      split at hq
      ·split at hq<;>simp at hq
      ·exact hq
     ·simp [Array.getElem?_setIfInBounds,show i<listed.size by omega]
    omega
   ·have e:(fun k=>(listed.setIfInBounds i true).getD k false)=(fun k=>listed.getD k false || k==i):=funext Jd
    rw[e]
    rw[JU] at hc
    exact hc
theorem Rel.drew {st:St} {a:Act} {w:World} (hR:Rel w0 S st a w):Rel w0 S st a {w with drawn:=w.drawn+1} :=by
 obtain⟨β,φ,hc⟩:=hR.core
 refine⟨hR.size,hR.fx,hR.defers,⟨hR.kept.os,hR.kept.tape,hR.kept.output,hR.kept.size,hR.kept.block⟩,β,φ, ?_⟩
 exact hc.step (h':=st.obj) (β':=β) (φ':=φ) (w':= {w with drawn:=w.drawn+1}) (fun _=>False) (Nat.le_refl _) (fun _ _ _=>rfl) (fun b hb=> .inl hb) (fun _ _ _ h=>h) (fun _ _=>⟨rfl,rfl⟩)
  (fun id o ho=> .inl ⟨fun h=>h,ho,rfl,fun _ _ h=>h,fun _ _=>rfl⟩) hc.sep
theorem jZ (fa:bN P Γ) {st:St} {a:Act} {w:World} {id:Nat} {draw:Bool} {Q:Exit→Act→World→Prop} (hR:Rel w0 S st a w) (h:(cf P Γ ops draw st).ok=true)
  (hQ:∀a' w',Rel w0 S (cf P Γ ops draw st) a' w'→Q .normal a' w'):(Code.region id ops draw).wp P Q a w:=by
 cases draw with
 | false=>exact CQ fa hR h hQ
 | true=>
  unfold cf at h hQ
  simp only[aj] at h hQ
  cases hf:eM (lu ops.toList) st && gz ops.toList 0 && P.follows .mixedOrders
  ·simp [hf,bl] at h
  ·simp only[hf,aj] at h hQ
   simp only[aw] at hf
   obtain⟨l,fin,dM,_,Kh,La⟩:=fh _ _ _ _ h
   refine wp_region_any hf.2 (Cf fa dM (by simpa using Kh) hf.1.1 hf.1.2 (fun a' w' eZ=>hQ a' w' (La w0 S a' w' eZ)) _ _ a _ (by simp) (fun k hk=> ?_) ?_ ?_)
   ·rw[Array.getD_eq_getD_getElem?,Array.getElem?_replicate] at hk
    split at hk<;>simp at hk
   ·unfold H0
    have:=List.countP_le_length (p:=fun k=> !((Array.replicate ops.size false).getD k true)) (l:=List.range ops.size)
    simpa using this
   ·refine⟨st,hR.drew,rfl,fun s=> ?_,fun o=> ?_⟩
    ·refine (fq (fun q v=>PS.f q s v) (L:=fun k=>(Array.replicate ops.size false).getD k false) l (st.get s) (fun q _=> ?_)).symm
     rw[Array.getD_eq_getD_getElem?,Array.getElem?_replicate]
     split<;>rfl
    ·refine (fq (fun q v=>PS.h q o v) (L:=fun k=>(Array.replicate ops.size false).getD k false) l (st.obj o) (fun q _=> ?_)).symm
     rw[Array.getD_eq_getD_getElem?,Array.getElem?_replicate]
     split<;>rfl
end
end Go.Proofs.YtnlkklmcfafgeaaGreat.Vm
namespace Go.Proofs.YtnlkklmcfafgeaaGreat.Vm
section
variable {P:Program} {Γ:Ctx} {w0:World} {S:Own}
theorem eQ {st:St} {c:Operand} {b:Bool} :(st.dq c b).ok=st.ok:=by
 unfold St.dq
 split<;>rfl
theorem Cc {st:St} {c:Operand} {b:Bool} (h:st.ok=true):Tr st (st.dq c b):=by
 unfold St.dq
 split
 ·exact j_ h
 ·exact Tr.refl h
theorem iL {st:St} {a:Act} {w:World} {c:Operand} {b:Bool} (hR:Rel w0 S st a w) (hc:a.eval c= .bool b):Rel w0 S (st.dq c b) a w:=by
 unfold St.dq
 split
 ·exact hR.fV hc
 ·exact hR
theorem Gx {st:St} {a:Act} {w:World} (hR:Rel w0 S st a w) (c:Operand):∃β,aq w (Av st.obj β) β (ev st c) (a.eval c):=by
 obtain⟨β,φ,hc⟩:=hR.core
 refine⟨β, ?_⟩
 cases c with
 | tmp t=>exact hc.cl t
 | const v=>exact jn v
 | global g=>simp [ev,aq]
 | func g=>simp [ev,aq]
theorem Gw {st:St} {a:Act} {w:World} (hR:Rel w0 S st a w) {c:Operand} {t:Bool} (h:ev st c= .kb t):a.eval c= .bool t:=by
 obtain⟨β,hv⟩:=Gx hR c
 rw[h] at hv
 simpa only[aq] using hv
theorem Dc {st:St} {a:Act} {w:World} (hR:Rel w0 S st a w) {c:Operand} {t:Bool} (h:ev st c= .bool t):a.eval c= .bool t:=by
 obtain⟨β,hv⟩:=Gx hR c
 rw[h] at hv
 simpa only[aq] using hv
theorem d_:∀(c:Code) (st:St),(exec P Γ c st).ok=true→Tr st (exec P Γ c st)
 | .skip,st,h=>by
  simp only[exec] at h ⊢
  exact Tr.refl h
 | .region id ops draw,st,h=>by
  simp only[exec] at h ⊢
  exact AD h
 | .seq a b,st,h=>by
  simp only[exec] at h ⊢
  have h2:=d_ b _ h
  exact (d_ a _ h2.ok).trans h2
 | .cond c a b,st,h=>by
  simp only[exec] at h ⊢
  split
  ·rename_i t Ak
   simp only[Ak] at h
   cases t with
   | true=>simp only[aj] at h ⊢;exact d_ a _ h
   | false=>simp only[aQ] at h ⊢;exact d_ b _ h
  ·rename_i g Ak
   simp only[Ak] at h
   have lK:=de h
   have aP:st.ok=true:=by
    cases g with
    | true=>
     have:=(d_ a _ (lK.1 rfl)).ok
     rw[eQ] at this
     exact this
    | false=>
     have:=(d_ b _ (lK.2 rfl)).ok
     rw[eQ] at this
     exact this
   exact Cd aP h
  ·rename_i h1 h2
   exfalso
   revert h
   split
   ·rename_i t Ak;exact absurd Ak (h1 t)
   ·rename_i g Ak;exact absurd Ak (h2 g)
   ·simp [bl]
 | .block ..,st,h=>by simp [exec,bl] at h
 | .loop ..,st,h=>by simp [exec,bl] at h
 | .exit ..,st,h=>by simp [exec,bl] at h
 | .goto ..,st,h=>by simp [exec,bl] at h
 | .label ..,st,h=>by simp [exec,bl] at h
 | .ret,st,h=>by simp [exec,bl] at h
theorem gA (fa:bN P Γ):∀(c:Code) (st:St) (a:Act) (w:World) (Q:Exit→Act→World→Prop),Rel w0 S st a w→(exec P Γ c st).ok=true→
  (∀a' w',Rel w0 S (exec P Γ c st) a' w'→Q .normal a' w')→c.wp P Q a w
 | .skip,st,a,w,Q,hR,h,hQ=>by
  simp only[exec] at h hQ
  exact wp_skip (hQ a w hR)
 | .region id ops draw,st,a,w,Q,hR,h,hQ=>by
  simp only[exec] at h hQ
  exact jZ fa hR h hQ
 | .seq x y,st,a,w,Q,hR,h,hQ=>by
  simp only[exec] at h hQ
  have h2:=d_ y _ h
  refine wp_seq (gA fa x st a w _ hR h2.ok (fun a' w' eZ=> ?_))
  exact gA fa y _ a' w' Q eZ h hQ
 | .cond c x y,st,a,w,Q,hR,h,hQ=>by
  simp only[exec] at h hQ
  split at h
  ·rename_i t Ak
   simp only[Ak] at hQ
   refine wp_cond (Gw hR Ak) ?_
   cases t with
   | true=>simp only[aj] at h hQ;exact gA fa x st a w Q hR h hQ
   | false=>simp only[aQ] at h hQ;exact gA fa y st a w Q hR h hQ
  ·rename_i g Ak
   simp only[Ak] at hQ
   have lK:=de h
   have hb:=Dc hR Ak
   refine wp_cond hb ?_
   cases g with
   | true=>
    have hy:=lK.1 rfl
    have ht:=d_ x _ hy
    refine gA fa x _ a w Q (iL hR.reset hb) hy (fun a' w' eZ=>hQ a' w' ?_)
    have aP:st.reset.ok=true:=by have:=ht.ok;rwa [eQ] at this
    exact gl (fun _=>⟨(Cc aP).trans ht,eZ⟩) (by simp) h
   | false=>
    have hy:=lK.2 rfl
    have ht:=d_ y _ hy
    refine gA fa y _ a w Q (iL hR.reset hb) hy (fun a' w' eZ=>hQ a' w' ?_)
    have aP:st.reset.ok=true:=by have:=ht.ok;rwa [eQ] at this
    exact gl (by simp) (fun _=>⟨(Cc aP).trans ht,eZ⟩) h
  ·simp [bl] at h
 | .block ..,st,_,_,_,_,h,_=>by simp [exec,bl] at h
 | .loop ..,st,_,_,_,_,h,_=>by simp [exec,bl] at h
 | .rangeFunc ..,st,_,_,_,_,h,_=>by simp [exec,bl] at h
 | .exit ..,st,_,_,_,_,h,_=>by simp [exec,bl] at h
 | .scope ..,st,_,_,_,_,h,_=>by simp [exec,bl] at h
 | .goto ..,st,_,_,_,_,h,_=>by simp [exec,bl] at h
 | .label ..,st,_,_,_,_,h,_=>by simp [exec,bl] at h
 | .ret,st,_,_,_,_,h,_=>by simp [exec,bl] at h
 | .refuse ..,st,_,_,_,_,h,_=>by simp [exec,bl] at h
abbrev Rn:=List (Nat×ao×Option Nat)
def A8:Rn→Nat→Option (ao×Option Nat)
 | [],_=>none
 | (i,x)::l,j=>if j=i then some x else A8 l j
def Env.iU (β:Env) (R:Rn):Env:=
 ⟨β.da,fun j=>match A8 R j with | some (_,some id)=>β.val id | some (_,none)=> .slice none 0 0 | none=>β.val j,β.gN,
  fun j=>match A8 R j with | some (_,some id)=>β.nb id | some (_,none)=>[] | none=>β.nb j⟩
def Bt (o:ao):Prop:=(∃t e,o= .row t e [] false true)∨(∃t e ts,o= .deep t e ts [] none)
def fL (o:ao):Prop:=(∃t e r fz u,o= .row t e r fz u)∨(∃t e ts r,o= .deep t e ts r none)
def iZ (φ:Nat→List Nat) (R:Rn) (j:Nat):List Nat:=
 match A8 R j with | some (_,some id)=>φ id | some (_,none)=>[] | none=>φ j
def Bu (h:Nat→Option ao) (x:Nat×ao×Option Nat):Prop:=
 (∃id,fL x.2.1∧x.2.2=some id∧h id=some x.2.1)∨(Bt x.2.1∧x.2.2=none)
theorem lU {w:World} {av av':Nat→Prop} {β:Env} {R:Rn} :∀(cs:List SV) (l:List Value),ke cs=true→ah w av β cs l→ah w av' (β.iU R) cs l
 | [],l,_,h=>by simpa only[ah] using h
 | s::cs,l,hp,h=>by
  simp only[ah] at h ⊢
  obtain⟨v,l',rfl,h1,h2⟩:=h
  cases s with
  | ptr id off=>
   refine⟨v,l',rfl, ?_,lU cs l' hp h2⟩
   simp only[aq] at h1 ⊢
   exact h1
  | _=>simp [ke] at hp
theorem jx {hp:List (Nat×ao)} {f:Nat→SV} {β:Env} {φ:Nat→List Nat} {tm:Array Value} {w:World} (hc:Core w0 S f (dN hp) β φ tm w) {ck:CK} {nid:Nat} {s:SV} {v:Value} {av':Nat→Prop}
  (hv:aq w (Av (dN hp) β) β s v) (cX:∀b,av' b→Av (dN hp) β b) {R:Rn} (hR:∀x∈(az P hp ck nid s).2,A8 R x.1=some x.2):
  aq w av' (β.iU R) (az P hp ck nid s).1 v∧∀x∈(az P hp ck nid s).2,Bu (dN hp) x:=by
 have mono:∀s',cb s'=[]→aq w (Av (dN hp) β) β s' v→aq w av' (β.iU R) s' v:=fun s' BM h'=>
  aq.mono (Nat.le_refl _) (fun _ _ _=>rfl) (fun b hb=> .inl (cX b hb)) s' v h' (by rw[BM];simp)
 cases s with
 | own id=>
  simp only[az] at hR ⊢
  simp only[aq] at hv
  cases hl:dN hp id with
  | none=>simp [aq]
  | some o=>
   cases o with
   | box=>simp [aq]
   | row t e r fz u=>
    simp only[hl] at hR
    simp only
    cases ck with
    | ef=>simp [aq]
    | mP=>
     have:=hR _ (List.mem_singleton.2 rfl)
     simp only at this
     refine⟨?_, ?_⟩
     ·simp only[aq,Env.iU,this]
      exact hv
     ·intro x hx
      rw[List.mem_singleton] at hx
      subst hx
      exact .inl ⟨id,.inl ⟨t,e,r,fz,u,rfl⟩,rfl,hl⟩
    | own=>
     have:=hR _ (List.mem_singleton.2 rfl)
     simp only at this
     refine⟨?_, ?_⟩
     ·simp only[aq,Env.iU,this]
      exact hv
     ·intro x hx
      rw[List.mem_singleton] at hx
      subst hx
      exact .inl ⟨id,.inl ⟨t,e,r,fz,u,rfl⟩,rfl,hl⟩
    | deep=>
     have:=hR _ (List.mem_singleton.2 rfl)
     simp only at this
     refine⟨?_, ?_⟩
     ·simp only[aq,Env.iU,this]
      exact hv
     ·intro x hx
      rw[List.mem_singleton] at hx
      subst hx
      exact .inl ⟨id,.inl ⟨t,e,r,fz,u,rfl⟩,rfl,hl⟩
   | deep t e ts r ka=>
    cases ka with
    | some q=>simp [aq]
    | none=>
    simp only[hl] at hR
    simp only
    cases ck with
    | ef=>simp [aq]
    | mP=>
     have:=hR _ (List.mem_singleton.2 rfl)
     simp only at this
     refine⟨?_, ?_⟩
     ·simp only[aq,Env.iU,this]
      exact hv
     ·intro x hx
      rw[List.mem_singleton] at hx
      subst hx
      exact .inl ⟨id,.inr ⟨t,e,ts,r,rfl⟩,rfl,hl⟩
    | own=>
     have:=hR _ (List.mem_singleton.2 rfl)
     simp only at this
     refine⟨?_, ?_⟩
     ·simp only[aq,Env.iU,this]
      exact hv
     ·intro x hx
      rw[List.mem_singleton] at hx
      subst hx
      exact .inl ⟨id,.inr ⟨t,e,ts,r,rfl⟩,rfl,hl⟩
    | deep=>
     have:=hR _ (List.mem_singleton.2 rfl)
     simp only at this
     refine⟨?_, ?_⟩
     ·simp only[aq,Env.iU,this]
      exact hv
     ·intro x hx
      rw[List.mem_singleton] at hx
      subst hx
      exact .inl ⟨id,.inr ⟨t,e,ts,r,rfl⟩,rfl,hl⟩
   | ef e r=>
    simp only
    refine⟨?_,by simp⟩
    have h1:=(hc.aC id _ hl).1
    rw[←hv.1] at h1
    exact mono _ rfl h1
 | nil=>
  simp only[az] at hR ⊢
  simp only[aq] at hv
  cases ck with
  | mP=>
   refine⟨?_,by simp⟩
   simp only[aq]
   exact hv
  | own t=>
   simp only at hR ⊢
   cases BG:fM P 16 t with
   | none=>simp [aq]
   | some e=>
    simp only[BG] at hR
    have:=hR _ (List.mem_singleton.2 rfl)
    simp only at this
    refine⟨?_, ?_⟩
    ·simp only[aq,Env.iU,this]
     rw[hv]
     exact⟨rfl,rfl⟩
    ·intro x hx
     rw[List.mem_singleton] at hx
     subst hx
     exact .inr ⟨.inl ⟨t,e,rfl⟩,rfl⟩
  | deep t ts=>
   simp only at hR ⊢
   cases BG:fM P 16 t with
   | none=>simp [aq]
   | some e=>
    simp only[BG] at hR
    have:=hR _ (List.mem_singleton.2 rfl)
    simp only at this
    refine⟨?_, ?_⟩
    ·simp only[aq,Env.iU,this]
     rw[hv]
     exact⟨rfl,rfl⟩
    ·intro x hx
     rw[List.mem_singleton] at hx
     subst hx
     exact .inr ⟨.inr ⟨t,e,ts,rfl⟩,rfl⟩
  | ef t=>
   simp only at hR ⊢
   cases BG:fM P 16 t with
   | none=>simp [aq]
   | some e=>
    refine⟨?_,by simp⟩
    simp only[aq,cd]
    exact⟨[],⟨[],none,0,0,rfl,hv,rfl,Nat.le_refl _,Nat.zero_le _,.inl ⟨rfl,rfl⟩⟩,by simp⟩
 | kb b=>
  simp only[az]
  refine⟨?_,by simp⟩
  simp only[aq] at hv ⊢
  exact hv
 | agg=>simp [az,aq]
 | DA=>simp [az,aq]
 | ey=>simp [az,aq]
 | FO=>simp [az,aq]
 | FT g cs=>
  simp only[az]
  cases hp:ke cs
  ·simp [aq]
  ·simp only[aj]
   refine⟨?_,by simp⟩
   simp only[aq] at hv ⊢
   obtain⟨l,rfl,hl⟩:=hv
   exact⟨l,rfl,lU cs l hp hl⟩
 | ptr id off=>
  simp only[az]
  refine⟨?_,by simp⟩
  simp only[aq] at hv ⊢
  exact hv
 | fG=>exact⟨mono _ rfl hv,by simp [az]⟩
 | undef=>exact⟨mono _ rfl hv,by simp [az]⟩
 | int=>exact⟨mono _ rfl hv,by simp [az]⟩
 | bool=>exact⟨mono _ rfl hv,by simp [az]⟩
 | str=>exact⟨mono _ rfl hv,by simp [az]⟩
 | sl=>exact⟨mono _ rfl hv,by simp [az]⟩
 | gS=>exact⟨mono _ rfl hv,by simp [az]⟩
theorem iX {hp:List (Nat×ao)} {f:Nat→SV} {β:Env} {φ:Nat→List Nat} {tm:Array Value} {w:World} (hc:Core w0 S f (dN hp) β φ tm w) {lY:List (Nat×CK)} {b:Nat} {av':Nat→Prop}
  (cX:∀b,av' b→Av (dN hp) β b) {R:Rn} :∀(l:List SV) (k:Nat) (vs:List Value),ah w (Av (dN hp) β) β l vs→(∀x∈(bK P hp lY b k l).2,A8 R x.1=some x.2)→
  ah w av' (β.iU R) (bK P hp lY b k l).1 vs∧∀x∈(bK P hp lY b k l).2,Bu (dN hp) x
 | [],k,vs,hl,_=>by
  simp only[bK,ah] at hl ⊢
  exact⟨hl,by simp⟩
 | s::l,k,vs,hl,hR=>by
  simp only[ah] at hl
  obtain⟨v,l',rfl,h1,h2⟩:=hl
  simp only[bK] at hR ⊢
  have c1:=jx (P:=P) hc (ck:=Ll lY k) (nid:=ai (20000+b*4) k) h1 cX (R:=R) (fun x hx=>hR x (aT _ hx))
  have c2:=iX hc cX l (k+1) l' h2 (fun x hx=>hR x (aK _ hx))
  refine⟨?_,fun x hx=> ?_⟩
  ·simp only[ah]
   exact⟨v,l',rfl,c1.1,c2.1⟩
  ·rcases List.mem_append.1 hx with hx | hx
   ·exact c1.2 x hx
   ·exact c2.2 x hx
end
end Go.Proofs.YtnlkklmcfafgeaaGreat.Vm
set_option linter.unusedVariables false
set_option linter.unusedSimpArgs false
namespace Go.Proofs.YtnlkklmcfafgeaaGreat.Vm
section
variable {P:Program} {Γ:Ctx} {w0:World} {S:Own}
theorem fB {l:List Nat} (h:fb l=true):l.Nodup:=by
 induction l with
 | nil=>simp
 | cons i l ih=>
  simp only[fb,aw,Bool.not_eq_true'] at h
  rw[List.nodup_cons]
  refine⟨fun hm=> ?_,ih h.2⟩
  rw[gk.2 hm] at h
  simp at h
theorem Dq {R:Rn} {j:Nat} {x:ao×Option Nat} (h:A8 R j=some x):(j,x)∈R:=by
 induction R with
 | nil=>simp [A8] at h
 | cons y l ih=>
  obtain⟨i,z⟩:=y
  simp only[A8] at h
  split at h
  ·rename_i hj
   injection h with h
   subst h hj
   exact List.mem_cons_self ..
  ·exact List.mem_cons_of_mem _ (ih h)
theorem Fl {R:Rn} {x:Nat×ao×Option Nat} (hx:x∈R) (hn:(R.map (·.1)).Nodup):A8 R x.1=some x.2:=by
 induction R with
 | nil=>simp at hx
 | cons y l ih=>
  obtain⟨i,z⟩:=y
  simp only[List.map_cons,List.nodup_cons] at hn
  simp only[A8]
  rcases List.mem_cons.1 hx with rfl | hx
  ·simp
  ·have:x.1≠i:=fun e=>hn.1 (e ▸ List.mem_map_of_mem hx)
   rw[if_neg this]
   exact ih hx hn.2
theorem Fk {R:Rn} {j:Nat} (h:j ∉ R.map (·.1)):A8 R j=none:=by
 induction R with
 | nil=>rfl
 | cons y l ih=>
  obtain⟨i,z⟩:=y
  simp only[List.map_cons,List.mem_cons,not_or] at h
  simp only[A8]
  rw[if_neg h.1]
  exact ih h.2
theorem Gk {R:Rn} (h:(eD R).Nodup) {x y:Nat×ao×Option Nat} {id:Nat} (hx:x∈R) (hy:y∈R) (h1:x.2.2=some id) (h2:y.2.2=some id):x=y:=by
 have mem:∀(R:Rn) (z:Nat×ao×Option Nat),z∈R→z.2.2=some id→id∈eD R:=by
  intro R
  induction R with
  | nil=>simp
  | cons u l ih=>
   obtain⟨i,o,lN⟩:=u
   intro z hz Li
   rcases List.mem_cons.1 hz with rfl | Jl
   ·simp only at Li
    subst Li
    simp [eD]
   ·have:=ih z Jl Li
    cases lN with
    | none=>simpa [eD] using this
    | some k=>simp [eD,this]
 induction R with
 | nil=>simp at hx
 | cons u l ih=>
  obtain⟨i,o,lN⟩:=u
  cases lN with
  | none=>
   simp only[eD] at h
   rcases List.mem_cons.1 hx with rfl | hx
   ·cases h1
   ·rcases List.mem_cons.1 hy with rfl | hy
    ·cases h2
    ·exact ih h hx hy
  | some k=>
   simp only[eD,List.nodup_cons] at h
   rcases List.mem_cons.1 hx with rfl | hx
   ·simp only[aa] at h1
    rcases List.mem_cons.1 hy with rfl | hy
    ·rfl
    ·exact absurd (h1 ▸ mem l y hy h2) h.1
   ·rcases List.mem_cons.1 hy with rfl | hy
    ·simp only[aa] at h2
     exact absurd (h2 ▸ mem l x hx h1) h.1
    ·exact ih h.2 hx hy
theorem g_ {st:St} {i:Nat} :∀(l:List (Nat×CK)),ji (a_ P st l).1 i= .fG∨
  ∃ck,ji (a_ P st l).1 i=(az P st.hp ck (ai (10000+i) 0) (st.get i)).1∧∀x∈(az P st.hp ck (ai (10000+i) 0) (st.get i)).2,x∈(a_ P st l).2
 | []=> .inl rfl
 | (k,ck)::l=>by
  simp only[a_,ji]
  cases hk:Nat.beq k i
  ·simp only[aQ]
   rcases g_ l with h | ⟨L4,h1,h2⟩
   ·exact .inl h
   ·exact .inr ⟨L4,h1,fun x hx=>aK _ (h2 x hx)⟩
  ·have:=aM hk
   subst this
   simp only[aj]
   exact .inr ⟨ck,rfl,fun x hx=>aT _ hx⟩
theorem gZ {st:St} {x:Nat×ao×Option Nat} :∀(l:List (Nat×CK)),x∈(a_ P st l).2→∃i ck,x∈(az P st.hp ck (ai (10000+i) 0) (st.get i)).2
 | [],h=>by simp [a_] at h
 | (k,ck)::l,h=>by
  simp only[a_] at h
  rcases List.mem_append.1 h with h | h
  ·exact⟨k,ck,h⟩
  ·exact gZ l h
theorem dT {hp:List (Nat×ao)} {j:Nat} {o:ao} :∀(l:List (Nat×List (Nat×CK))),(j,o)∈(aV P hp l).1→
  ∃lY t cells,dN hp j=some (.box t cells)∧o= .box t (bK P hp lY j 0 cells).1∧∀x∈(bK P hp lY j 0 cells).2,x∈(aV P hp l).2
 | [],h=>by simp [aV] at h
 | (b,lY)::l,h=>by
  simp only[aV] at h ⊢
  split at h
  ·rename_i t cells hb
   simp only at h ⊢
   rcases List.mem_cons.1 h with h | h
   ·simp only[Prod.mk.injEq] at h
    obtain⟨rfl,rfl⟩:=h
    refine⟨lY,t,cells,hb,rfl,fun x hx=> ?_⟩
    exact aT _ hx
   ·obtain⟨J8,t',eY,h1,h2,h3⟩:=dT l h
    exact⟨J8,t',eY,h1,h2,fun x hx=>aK _ (h3 x hx)⟩
  ·rename_i hb
   exact dT l h
theorem fw {hp:List (Nat×ao)} {x:Nat×ao×Option Nat} :∀(l:List (Nat×List (Nat×CK))),x∈(aV P hp l).2→
  ∃lY j t cells,dN hp j=some (.box t cells)∧x∈(bK P hp lY j 0 cells).2
 | [],h=>by simp [aV] at h
 | (b,lY)::l,h=>by
  simp only[aV] at h
  split at h
  ·rename_i t cells hb
   simp only at h
   rcases List.mem_append.1 h with h | h
   ·exact⟨lY,b,t,cells,hb,h⟩
   ·exact fw l h
  ·exact fw l h
theorem iW {hp:List (Nat×ao)} {ck:CK} {nid:Nat} {s:SV} :∀x∈(az P hp ck nid s).2,Bu (dN hp) x:=by
 intro x hx
 cases s with
 | own id=>
  simp only[az] at hx
  cases hl:dN hp id with
  | none=>simp [hl] at hx
  | some o=>
   cases o with
   | box=>simp [hl] at hx
   | ef=>simp [hl] at hx
   | deep t e ts r ka=>
    cases ka with
    | some q=>simp [hl] at hx
    | none=>
    simp only[hl] at hx
    cases ck with
    | ef=>simp at hx
    | mP=>
     rw[List.mem_singleton] at hx
     subst hx
     exact .inl ⟨id,.inr ⟨t,e,ts,r,rfl⟩,rfl,hl⟩
    | own=>
     rw[List.mem_singleton] at hx
     subst hx
     exact .inl ⟨id,.inr ⟨t,e,ts,r,rfl⟩,rfl,hl⟩
    | deep=>
     rw[List.mem_singleton] at hx
     subst hx
     exact .inl ⟨id,.inr ⟨t,e,ts,r,rfl⟩,rfl,hl⟩
   | row t e r fz u=>
    simp only[hl] at hx
    cases ck with
    | ef=>simp at hx
    | mP=>
     rw[List.mem_singleton] at hx
     subst hx
     exact .inl ⟨id,.inl ⟨t,e,r,fz,u,rfl⟩,rfl,hl⟩
    | own=>
     rw[List.mem_singleton] at hx
     subst hx
     exact .inl ⟨id,.inl ⟨t,e,r,fz,u,rfl⟩,rfl,hl⟩
    | deep=>
     rw[List.mem_singleton] at hx
     subst hx
     exact .inl ⟨id,.inl ⟨t,e,r,fz,u,rfl⟩,rfl,hl⟩
 | nil=>
  simp only[az] at hx
  cases ck with
  | mP=>simp at hx
  | ef t=>
   simp only at hx
   split at hx<;>simp at hx
  | own t=>
   simp only at hx
   split at hx
   ·rename_i e he
    rw[List.mem_singleton] at hx
    subst hx
    exact .inr ⟨.inl ⟨t,e,rfl⟩,rfl⟩
   ·simp at hx
  | deep t ts=>
   simp only at hx
   split at hx
   ·rename_i e he
    rw[List.mem_singleton] at hx
    subst hx
    exact .inr ⟨.inr ⟨t,e,ts,rfl⟩,rfl⟩
   ·simp at hx
 | kb=>simp [az] at hx
 | agg=>simp [az] at hx
 | DA=>simp [az] at hx
 | ey=>simp [az] at hx
 | ptr=>simp [az] at hx
 | fG=>simp [az] at hx
 | undef=>simp [az] at hx
 | int=>simp [az] at hx
 | bool=>simp [az] at hx
 | str=>simp [az] at hx
 | sl=>simp [az] at hx
 | gS=>simp [az] at hx
 | FO=>simp [az] at hx
 | FT g cs=>
  simp only[az] at hx
  cases hp:ke cs<;>simp [hp] at hx
theorem gY {hp:List (Nat×ao)} {lY:List (Nat×CK)} {b:Nat} :∀(l:List SV) (k:Nat),∀x∈(bK P hp lY b k l).2,Bu (dN hp) x
 | [],_,x,hx=>by simp [bK] at hx
 | s::l,k,x,hx=>by
  simp only[bK] at hx
  rcases List.mem_append.1 hx with hx | hx
  ·exact iW x hx
  ·exact gY l (k+1) x hx
def Ia (h:Nat→Option ao) (R:Rn) (β:Env) (φ:Nat→List Nat) (j:Nat) (o:ao):Prop:=
 (A8 R j=none∧∃t cells,h j=some (.box t cells)∧∃eY,o= .box t eY)∨
 (∃id,A8 R j=some (o,some id)∧h id=some o∧fL o)∨
 (A8 R j=some (o,none)∧Bt o)
theorem fL.FG {o:ao} (ho:fL o) {β:Env} {R:Rn} {j id:Nat} {o':ao} (h1:A8 R j=some (o',some id)):ar (β.iU R) j o=ar β id o:=by
 rcases ho with ⟨t,e,r,fz,u,rfl⟩ | ⟨t,e,ts,r,rfl⟩<;>simp [ar,Env.iU,h1]
theorem fL.Gj {o:ao} (ho:fL o) {w:World} {av av':Nat→Prop} {β:Env} {R:Rn} {j id:Nat} {o':ao} {φ:List Nat} (h1:A8 R j=some (o',some id)) (cX:∀b,av' b→av b) (h:f9 w av β id o φ):f9 w av' (β.iU R) j o φ:=by
 have hval:(β.iU R).val j=β.val id:=by simp [Env.iU,h1]
 have js:(β.iU R).nb j=β.nb id:=by simp [Env.iU,h1]
 rcases ho with ⟨t,e,r,fz,u,rfl⟩ | ⟨t,e,ts,r,rfl⟩
 ·obtain⟨vals,aE,g1,g2,g3,g4⟩:=h
  exact⟨vals,aE,by rw[hval];exact g1,g2,fun b hb hx=>g3 b hb (cX b hx),by rw[hval];exact g4⟩
 ·obtain⟨vals,a7,g1,g2,g3,g4⟩:=h
  exact⟨vals,a7,by rw[hval];exact g1,g2,by rw[js];exact g3,by rw[hval];exact g4⟩
theorem fL.CM {o:ao} (ho:fL o) {t:TypeId} {cs:List SV} (h:o= .box t cs):False:=by
 rcases ho with ⟨_,_,_,_,_,rfl⟩ | ⟨_,_,_,_,rfl⟩<;>cases h
theorem Cp {f f':Nat→SV} {h h':Nat→Option ao} {β:Env} {φ:Nat→List Nat} {tm:Array Value} {w:World} (hc:Core w0 S f h β φ tm w) {R:Rn} (hold:(eD R).Nodup)
  (bM:∀j o,h' j=some o→Ia h R β φ j o)
  (cX:(∀b,Av h' (β.iU R) b→Av h β b)→(∀i,aq w (Av h' (β.iU R)) (β.iU R) (f' i) (tm.getD i undef))∧
   ∀j t cells eY,h' j=some (.box t eY)→h j=some (.box t cells)→∀vs,ah w (Av h β) β cells vs→ah w (Av h' (β.iU R)) (β.iU R) eY vs):
  Core w0 S f' h' (β.iU R) (iZ φ R) tm w:=by
 have hA:∀b,Av h' (β.iU R) b→Av h β b:=by
  rintro b (⟨j,o,hj,hb⟩ | hb)
  ·rcases bM j o hj with ⟨h1,t,cells,h2,eY,rfl⟩ | ⟨id,h1,h2,ho⟩ | ⟨h1,he⟩
   ·exact .inl ⟨j,_,h2,by simpa [ar,Env.iU] using hb⟩
   ·refine .inl ⟨id,_,h2, ?_⟩
    rw[ho.FG h1] at hb
    exact hb
   ·rcases he with ⟨t,e,rfl⟩ | ⟨t,e,ts,rfl⟩<;>simp [ar,Env.iU,h1,Value.ownBlock] at hb
  ·exact .inr hb
 obtain⟨kv,kp⟩:=cX hA
 refine⟨kv,fun j o hj=> ?_,fun j o hj=> ?_,fun i j oi oj cQ hi hj b hb=> ?_,hc.gN,hc.bars⟩
 ·rcases bM j o hj with ⟨h1,t,cells,h2,eY,rfl⟩ | ⟨id,h1,h2,ho⟩ | ⟨h1,he⟩
  ·obtain⟨vs,g1,g2,g3,g4⟩:=hc.aC j _ h2
   refine⟨vs,g1,kp j t cells eY hj h2 vs g2,g3, ?_⟩
   simp only[iZ,h1]
   exact g4
  ·simp only[iZ,h1]
   exact ho.Gj h1 hA (hc.aC id _ h2)
  ·have hval:(β.iU R).val j= .slice none 0 0:=by simp [Env.iU,h1]
   have js:(β.iU R).nb j=[]:=by simp [Env.iU,h1]
   rcases he with ⟨t,e,rfl⟩ | ⟨t,e,ts,rfl⟩
   ·refine⟨[],[],⟨by simp,.inl ⟨hval,rfl,rfl⟩⟩,⟨rfl,by simp⟩,by simp, ?_⟩
    simp [iZ,h1,hval,Value.ownBlock]
   ·refine⟨[],[],⟨by simp,.inl ⟨hval,rfl,rfl⟩⟩,⟨rfl,by simp⟩,by rw[js];rfl, ?_⟩
    simp [iZ,h1,hval,Value.ownBlock]
 ·rcases bM j o hj with ⟨h1,t,cells,h2,eY,rfl⟩ | ⟨id,h1,h2,ho⟩ | ⟨h1,he⟩
  ·simp only[iZ,h1];exact hc.fresh j _ h2
  ·simp only[iZ,h1];exact hc.fresh id _ h2
  ·simp [iZ,h1]
 ·rcases bM i oi hi with ⟨h1,t,cells,h2,eY,rfl⟩ | ⟨id,h1,h2,ho⟩ | ⟨h1,he⟩<;>
   rcases bM j oj hj with ⟨k1,t',G8,k2,JC,rfl⟩ | ⟨LV,k1,k2,ec⟩ | ⟨k1,JJ⟩<;>
   simp only[iZ,h1,k1] at hb ⊢
  ·exact hc.sep i j _ _ cQ h2 k2 b hb
  ·refine hc.sep i LV _ _ (fun e=> ?_) h2 k2 b hb
   rw[e,k2,aa] at h2
   exact ec.CM h2
  ·simp
  ·refine hc.sep id j _ _ (fun e'=> ?_) h2 k2 b hb
   rw[e',k2,aa] at h2
   exact ho.CM h2.symm
  ·refine hc.sep id LV _ _ (fun e'=> ?_) h2 k2 b hb
   subst e'
   have:=Gk hold (Dq h1) (Dq k1) rfl rfl
   simp only[Prod.mk.injEq] at this
   exact cQ this.1
  ·simp
  ·simp at hb
  ·simp at hb
  ·simp at hb
theorem Co {an:lE} {st:St} {a:Act} {w:World} (hR:Rel w0 S st a w) (aP:(kh P an st).ok=true):Rel w0 S (kh P an st) a w∧st.ok=true:=by
 unfold kh at aP ⊢
 simp only at aP ⊢
 cases hnd:fb (eD ((a_ P st an.cl).2++(aV P st.hp an.boxes).2)) &&
   fb ((aV P st.hp an.boxes).1.map (·.1)++((a_ P st an.cl).2++(aV P st.hp an.boxes).2).map (·.1))
 ·rw[hnd] at aP
  simp [bl] at aP
 rw[hnd] at aP
 simp only[aj] at aP ⊢
 refine⟨?_,aP⟩
 simp only[aw] at hnd
 obtain⟨β,φ,hc⟩:=hR.core
 have hold:=fB hnd.1
 have GI:=fB hnd.2
 rw[List.nodup_append] at GI
 obtain⟨M0,Mx,Hl⟩:=GI
 have jN:∀x∈(a_ P st an.cl).2,x∈(a_ P st an.cl).2++(aV P st.hp an.boxes).2:=fun x hx=>aT _ hx
 have Am:∀x∈(aV P st.hp an.boxes).2,x∈(a_ P st an.cl).2++(aV P st.hp an.boxes).2:=fun x hx=>aK _ hx
 have GF:∀x∈(a_ P st an.cl).2++(aV P st.hp an.boxes).2,Bu (dN st.hp) x:=by
  intro x hx
  rcases List.mem_append.1 hx with hx | hx
  ·obtain⟨i,ck,h1⟩:=gZ _ hx
   exact iW x h1
  ·obtain⟨lY,j,t,cells,h1,h2⟩:=fw _ hx
   exact gY cells 0 x h2
 generalize (a_ P st an.cl).2++(aV P st.hp an.boxes).2=R at*
 have jK:∀x∈R,A8 R x.1=some x.2:=fun x hx=>Fl hx Mx
 have hP:Core w0 S st.get (dN st.hp) β φ a.tmps w:=hc
 refine⟨hR.size,hR.fx,hR.defers,hR.kept,β.iU R,iZ φ R, ?_⟩
 have kt:∀j o,dN ((aV P st.hp an.boxes).1++R.map (fun x=>(x.1,x.2.1))) j=some o→(j,o)∈(aV P st.hp an.boxes).1∨∃lN,(j,o,lN)∈R:=by
  intro j o hj
  rcases List.mem_append.1 (Dp hj) with h1 | h1
  ·exact .inl h1
  ·obtain⟨x,hx,he⟩:=List.mem_map.1 h1
   obtain⟨k,o',lN⟩:=x
   simp only[Prod.mk.injEq] at he
   obtain⟨rfl,rfl⟩:=he
   exact .inr ⟨lN,hx⟩
 refine Cp hP hold (fun j o hj=> ?_) (fun hA=>⟨fun i=> ?_,fun j t cells eY hj hh vs MP=> ?_⟩)
 ·rcases kt j o hj with h1 | ⟨lN,h1⟩
  ·obtain⟨lY,t,cells,h2,h3,_⟩:=dT _ h1
   refine .inl ⟨Fk (fun hm=>Hl j (List.mem_map_of_mem (f:=(·.1)) h1) j hm rfl),t,cells,h2,_,h3⟩
  ·rcases GF _ h1 with ⟨id,g1,g2,g3⟩ | ⟨g1,g2⟩
   ·simp only at g1 g2 g3
    subst g2
    exact .inr (.inl ⟨id,jK _ h1,g3,g1⟩)
   ·simp only at g1 g2
    subst g2
    exact .inr (.inr ⟨jK _ h1,g1⟩)
 ·show aq w _ _ (ji (a_ P st an.cl).1 i) _
  rcases g_ (P:=P) (st:=st) (i:=i) an.cl with h1 | ⟨ck,h1,h2⟩
  ·rw[h1];simp [aq]
  ·rw[h1]
   exact (jx hP (hc.cl i) hA (fun x hx=>jK x (jN x (h2 x hx)))).1
 ·rcases kt j _ hj with h1 | ⟨lN,h1⟩
  ·obtain⟨lY,t',G8,h2,h3,h4⟩:=dT _ h1
   rw[hh] at h2
   simp only[aa,ao.box.injEq] at h2
   obtain⟨rfl,rfl⟩:=h2
   simp only[ao.box.injEq,true_and] at h3
   rw[h3]
   exact (iX hP hA cells 0 vs MP (fun x hx=>jK x (Am x (h4 x hx)))).1
  ·rcases GF _ h1 with ⟨id,g1,g2,g3⟩ | ⟨g1,g2⟩
   ·exact (g1.CM rfl).elim
   ·rcases g1 with ⟨_,_,g1⟩ | ⟨_,_,_,g1⟩<;>cases g1
theorem Dv (st:St):st.DR.ok=st.ok:=by
 unfold St.DR
 split
 ·split
  ·split
   ·rename_i r _ _
    generalize (Nat.beq _ _ && _ && _ && _ && _:Bool)=c
    cases c<;>rfl
   ·rfl
  ·rfl
 ·rfl
theorem Fx {st:St} {a:Act} {w:World} (hR:Rel w0 S st a w):Rel w0 S st.DR a w:=by
 unfold St.DR
 split
 ·rename_i id hh
  split
  ·rename_i t e t1 rows i nid aS
   split
   ·rename_i t2 e2 r u hn
    cases hb:Nat.beq t2 t1 && HX e e2 && Nat.beq (aJ e) 1 && !(Nat.beq nid id) && ax e2
    ·exact hR
    ·simp only[aj]
     simp only[aw,Bool.not_eq_true'] at hb
     obtain⟨⟨⟨⟨b1,b2⟩,b3⟩,b4⟩,b5⟩:=hb
     have b1:=aM b1
     subst b1
     have kv:∃e',e[ek e]? =some (.sl e')∧e'=e2:=by
      unfold HX at b2
      split at b2
      ·rename_i e' he
       exact⟨e',he,aR _ _ b2⟩
      ·cases b2
     have cQ:nid≠id:=Nat.ne_of_beq_eq_false b4
     obtain⟨β,φ,hc⟩:=hR.core
     obtain⟨β',φ',hP⟩:=DS hc (h':=dN (kD [(id,some (.deep t e [t2] (rows.set i (bX (rows.getD i []) (ek e) [.sl r])) none)),(nid,none)] st.hp)) aS hn kv (aM b3) cQ b5
      (by rw[ik];simp [fo,aD]) (fun j hj=>by rw[ik];simp [fo,aD,hj];rfl)
     exact⟨hR.size,hR.fx,hR.defers,hR.kept,β',φ',hP⟩
   ·exact hR
  ·exact hR
 ·exact hR
theorem gg (st:St):∀(l:List (Nat×CK)),bZ st.obj (dt st l)∧aU (dt st l)=true
 | []=>⟨by simp [dt,bZ],rfl⟩
 | (i,.mP)::l=>gg st l
 | (i,.own _)::l=>gg st l
 | (i,.deep _ _)::l=>gg st l
 | (i,.ef _)::l=>by
  have ih:=gg st l
  simp only[dt]
  split
  ·rename_i id hg
   split
   ·rename_i t e r fz u aS
    cases hm:bW id (dt st l)
    ·exact ih
    ·refine⟨fun x hx=> ?_,by simp only[aj,aU,hm,ih.2,Bool.and_self]⟩
     simp only[aj] at hx
     rcases List.mem_cons.1 hx with rfl | hx
     ·exact⟨_,aS,.inl ⟨t,fz,rfl⟩⟩
     ·exact ih.1 x hx
   ·exact ih
  ·exact ih
theorem FW {an:lE} {st:St} {a:Act} {w:World} (hR:Rel w0 S st a w):Rel w0 S (st.J_ an) a w:=by
 obtain⟨β,φ,hc⟩:=hR.core
 obtain⟨h1,h2⟩:=gg st an.cl
 refine⟨hR.size,hR.fx,hR.defers,hR.kept,β,bu φ (dt st an.cl), ?_⟩
 have:=hc.gC _ h1 h2
 show Core w0 S st.get (dN (kD (al (dt st an.cl)) st.hp)) _ _ _ _
 rw[ik]
 exact this
theorem Ac {an:lE} {st:St} {a:Act} {w:World} (hR:Rel w0 S st a w) (aP:(canon P an st).ok=true):Rel w0 S (canon P an st) a w∧st.ok=true:=by
 have:=Co (FW (an:=an) (Fx hR)) aP
 have h2:=this.2
 simp only[St.J_] at h2
 rw[Dv] at h2
 exact⟨this.1,h2⟩
end
end Go.Proofs.YtnlkklmcfafgeaaGreat.Vm
namespace Go.Proofs.YtnlkklmcfafgeaaGreat.Vm
section
variable {P:Program} {Γ:Ctx} {w0:World} {S:Own} {A:List (Nat×lE)} {N:Nat} {r:List DC}
structure Lr (K:AF) (r:List DC):Prop where
 eW:∀st,K.eW st=(true,r)→st.ok=true
 ext:∀i st,K.ext i st=(true,r)→st.ok=true
 ret:∀st,K.ret st=(true,r)→st.ok=true
theorem DD {an:lE} {st:St} (h:(kh P an st).ok=true):st.ok=true:=by
 unfold kh at h
 simp only at h
 cases hnd:fb (eD ((a_ P st an.cl).2++(aV P st.hp an.boxes).2)) &&
   fb ((aV P st.hp an.boxes).1.map (·.1)++((a_ P st an.cl).2++(aV P st.hp an.boxes).2).map (·.1))
 ·rw[hnd] at h
  simp [bl] at h
 ·rw[hnd] at h
  exact h
theorem jy {an:lE} {st:St} (h:(canon P an st).ok=true):st.ok=true:=by
 have:=DD h
 have h2:st.DR.ok=true:=this
 rwa [Dv] at h2
theorem bO:kf≠(true,r):=by simp [kf]
theorem A_ {st:St} {c:Operand} {x y:Code} {g:Bool} (h:(merge st g (exec P Γ x (st.reset.dq c true)) (exec P Γ y (st.reset.dq c false))).ok=true):st.ok=true:=by
 have lK:=de h
 cases g with
 | true=>have:=(d_ x _ (lK.1 rfl)).ok;rwa [eQ] at this
 | false=>have:=(d_ y _ (lK.2 rfl)).ok;rwa [eQ] at this
def kY (P:Program) (Γ:Ctx) (A:List (Nat×lE)) (N:Nat) (x:Code) (an:lE) (K:AF) (n:Nat):St→kM:=
 Nat.rec (motive:=fun _=>St→kM) (fun _=>kf) (fun _ ih s=>run P Γ A N x s {eW:=fun s'=>ih (canon P an s'),ext:=K.ext,ret:=K.ret}) n
theorem jj {x:Code} {an:lE} {K:AF} {n:Nat} {s:St} :kY P Γ A N x an K (n+1) s=run P Γ A N x s {eW:=fun s'=>kY P Γ A N x an K n (canon P an s'),ext:=K.ext,ret:=K.ret} :=rfl
theorem fW:∀(c:Code) (st:St) (K:AF),Lr K r→run P Γ A N c st K=(true,r)→st.ok=true
 | .skip,st,K,hK,h=>hK.eW st (by simpa only[run] using h)
 | .region id ops draw,st,K,hK,h=>by
  simp only[run] at h
  exact (AD (hK.eW _ (Df h))).ok
 | .seq x y,st,K,hK,h=>by
  simp only[run] at h
  exact fW x st {eW:=fun s=>run P Γ A N y s K,ext:=K.ext,ret:=K.ret} ⟨fun s hs=>fW y s K hK hs,hK.ext,hK.ret⟩ h
 | .cond c x y,st,K,hK,h=>by
  simp only[run] at h
  split at h
  ·rename_i t Ak
   cases t with
   | true=>exact fW x st K hK h
   | false=>exact fW y st K hK h
  ·rename_i g Ak
   cases hm:simple x && simple y && kB Γ st g (exec P Γ x (st.reset.dq c true)) (exec P Γ y (st.reset.dq c false))
   ·rw[hm] at h
    simp only[aQ] at h
    cases g with
    | true=>
     have:=fW x _ K hK h
     rwa [eQ] at this
    | false=>
     have:=fW y _ K hK h
     rwa [eQ] at this
   ·rw[hm] at h
    simp only[aj] at h
    exact A_ (hK.eW _ (Df h))
  ·exact absurd h bO
 | .block id x,st,K,hK,h=>by
  simp only[run] at h
  refine fW x st {eW:=K.eW,ext:=fun i s=>bif Nat.beq i id then K.eW s else K.ext i s,ret:=K.ret} ⟨hK.eW,fun i s hs=> ?_,hK.ret⟩ h
  simp only at hs
  cases hb:Nat.beq i id
  ·rw[hb] at hs;exact hK.ext i s hs
  ·rw[hb] at hs;exact hK.eW s hs
 | .loop x,st,K,hK,h=>by
  simp only[run] at h
  split at h
  ·rename_i an Md
   have key:∀n s,kY P Γ A N x an K n s=(true,r)→s.ok=true:=by
    intro n
    induction n with
    | zero=>intro s hs;exact absurd hs bO
    | succ n ih=>
     intro s hs
     rw[jj] at hs
     exact fW x s {eW:=fun s'=>kY P Γ A N x an K n (canon P an s'),ext:=K.ext,ret:=K.ret} ⟨fun s' BM=>jy (ih _ BM),hK.ext,hK.ret⟩ hs
   exact jy (key N _ h)
  ·exact absurd h bO
 | .exit id,st,K,hK,h=>hK.ext id st (by simpa only[run] using h)
 | .ret,st,K,hK,h=>hK.ret st (by simpa only[run] using h)
 | .rangeFunc ..,st,_,_,h=>by simp only[run] at h;exact absurd h bO
 | .scope ..,st,_,_,h=>by simp only[run] at h;exact absurd h bO
 | .goto ..,st,_,_,h=>by simp only[run] at h;exact absurd h bO
 | .label ..,st,_,_,h=>by simp only[run] at h;exact absurd h bO
 | .refuse ..,st,_,_,h=>by simp only[run] at h;exact absurd h bO
structure KQ (w0:World) (S:Own) (K:AF) (r:List DC) (Q:Exit→Act→World→Prop):Prop where
 eW:∀st a w,Rel w0 S st a w→K.eW st=(true,r)→Q .normal a w
 ext:∀i st a w,Rel w0 S st a w→K.ext i st=(true,r)→Q (.exit i) a w
 ret:∀st a w,Rel w0 S st a w→K.ret st=(true,r)→Q .ret a w
theorem cU (fa:bN P Γ):∀(c:Code) (st:St) (K:AF) (a:Act) (w:World) (Q:Exit→Act→World→Prop),Lr K r→Rel w0 S st a w→run P Γ A N c st K=(true,r)→KQ w0 S K r Q→c.wp P Q a w
 | .skip,st,K,a,w,Q,hK,hR,h,hQ=>wp_skip (hQ.eW st a w hR (by simpa only[run] using h))
 | .region id ops draw,st,K,a,w,Q,hK,hR,h,hQ=>by
  simp only[run] at h
  have h:=Df h
  exact jZ fa hR (hK.eW _ h) (fun a' w' eZ=>hQ.eW _ a' w' eZ h)
 | .seq x y,st,K,a,w,Q,hK,hR,h,hQ=>by
  simp only[run] at h
  refine wp_seq (cU fa x st {eW:=fun s=>run P Γ A N y s K,ext:=K.ext,ret:=K.ret} a w _ ⟨fun s hs=>fW y s K hK hs,hK.ext,hK.ret⟩ hR h ⟨fun s a' w' eZ hs=> ?_,fun i s a' w' eZ hs=> ?_,fun s a' w' eZ hs=> ?_⟩)
  ·exact cU fa y s K a' w' Q hK eZ hs hQ
  ·exact hQ.ext i s a' w' eZ hs
  ·exact hQ.ret s a' w' eZ hs
 | .cond c x y,st,K,a,w,Q,hK,hR,h,hQ=>by
  simp only[run] at h
  split at h
  ·rename_i t Ak
   refine wp_cond (Gw hR Ak) ?_
   cases t with
   | true=>exact cU fa x st K a w Q hK hR h hQ
   | false=>exact cU fa y st K a w Q hK hR h hQ
  ·rename_i g Ak
   have hb:=Dc hR Ak
   cases hm:simple x && simple y && kB Γ st g (exec P Γ x (st.reset.dq c true)) (exec P Γ y (st.reset.dq c false))
   ·rw[hm] at h
    simp only[aQ] at h
    refine wp_cond hb ?_
    cases g with
    | true=>exact cU fa x _ K a w Q hK (iL hR hb) h hQ
    | false=>exact cU fa y _ K a w Q hK (iL hR hb) h hQ
   ·rw[hm] at h
    simp only[aj] at h
    have h:=Df h
    have aP:=hK.eW _ h
    have he:exec P Γ (.cond c x y) st=merge st g (exec P Γ x (st.reset.dq c true)) (exec P Γ y (st.reset.dq c false)):=by
     simp only[exec,Ak]
    exact gA fa (.cond c x y) st a w Q hR (by rw[he];exact aP) (fun a' w' eZ=>hQ.eW _ a' w' eZ (by rw[he];exact h))
  ·exact absurd h bO
 | .block id x,st,K,a,w,Q,hK,hR,h,hQ=>by
  simp only[run] at h
  refine wp_block (cU fa x st {eW:=K.eW,ext:=fun i s=>bif Nat.beq i id then K.eW s else K.ext i s,ret:=K.ret} a w _ ⟨hK.eW,fun i s hs=> ?_,hK.ret⟩ hR h ⟨fun s a' w' eZ hs=>hQ.eW s a' w' eZ hs,fun i s a' w' eZ hs=> ?_,fun s a' w' eZ hs=>hQ.ret s a' w' eZ hs⟩)
  ·simp only at hs
   cases hb:Nat.beq i id
   ·rw[hb] at hs;exact hK.ext i s hs
   ·rw[hb] at hs;exact hK.eW s hs
  ·simp only at hs
   simp only[Exit.inBlock]
   cases hb:Nat.beq i id
   ·rw[hb] at hs
    rw[if_neg (Nat.ne_of_beq_eq_false hb)]
    exact hQ.ext i s a' w' eZ hs
   ·rw[hb] at hs
    rw[if_pos (aM hb)]
    exact hQ.eW s a' w' eZ hs
 | .loop x,st,K,a,w,Q,hK,hR,h,hQ=>by
  simp only[run] at h
  split at h
  ·rename_i an Md
   have HE:∀n s,kY P Γ A N x an K n s=(true,r)→s.ok=true:=by
    intro n
    induction n with
    | zero=>intro s hs;exact absurd hs bO
    | succ n ih=>
     intro s hs
     rw[jj] at hs
     exact fW x s {eW:=fun s'=>kY P Γ A N x an K n (canon P an s'),ext:=K.ext,ret:=K.ret} ⟨fun s' BM=>jy (ih _ BM),hK.ext,hK.ret⟩ hs
   have key:∀n s a w,Rel w0 S s a w→kY P Γ A N x an K n s=(true,r)→Code.rounds P x Q n a w:=by
    intro n
    induction n with
    | zero=>intro s a w _ hs;exact absurd hs bO
    | succ n ih=>
     intro s a w hR hs
     rw[jj] at hs
     rw[rounds_succ]
     refine cU fa x s {eW:=fun s'=>kY P Γ A N x an K n (canon P an s'),ext:=K.ext,ret:=K.ret} a w _ ⟨fun s' BM=>jy (HE _ _ BM),hK.ext,hK.ret⟩ hR hs ⟨fun s' a' w' eZ BM=> ?_,fun i s' a' w' eZ BM=> ?_,fun s' a' w' eZ BM=> ?_⟩
     ·exact ih _ a' w' (Ac eZ (HE _ _ BM)).1 BM
     ·exact hQ.ext i s' a' w' eZ BM
     ·exact hQ.ret s' a' w' eZ BM
   exact wp_loop_rounds N (key N _ a w (Ac hR (HE _ _ h)).1 h)
  ·exact absurd h bO
 | .exit id,st,K,a,w,Q,hK,hR,h,hQ=>wp_exit (hQ.ext id st a w hR (by simpa only[run] using h))
 | .ret,st,K,a,w,Q,hK,hR,h,hQ=>wp_ret (hQ.ret st a w hR (by simpa only[run] using h))
 | .rangeFunc ..,st,_,_,_,_,_,_,h,_=>by simp only[run] at h;exact absurd h bO
 | .scope ..,st,_,_,_,_,_,_,h,_=>by simp only[run] at h;exact absurd h bO
 | .goto ..,st,_,_,_,_,_,_,h,_=>by simp only[run] at h;exact absurd h bO
 | .label ..,st,_,_,_,_,_,_,h,_=>by simp only[run] at h;exact absurd h bO
 | .refuse ..,st,_,_,_,_,_,_,h,_=>by simp only[run] at h;exact absurd h bO
end
end Go.Proofs.YtnlkklmcfafgeaaGreat.Vm
namespace Go.Proofs.YtnlkklmcfafgeaaGreat.Vm
section
variable {P:Program} {Γ:Ctx} {w0:World} {S:Own} {A:List (Nat×lE)} {N:Nat}
variable {f:Nat→SV} {h:Nat→Option ao} {β:Env} {φ:Nat→List Nat} {tm:Array Value} {w:World}
def mF (tmps:Array Value):ResultVar→Sem Value
 | .tmp t=>pure (tmps.getD t undef)
 | .cell a t=>do loadVar t (←asAddr (tmps.getD a undef))
theorem Fq (hc:Core w0 S f h β φ tm w) {id off:Nat} {t:TypeId} {e:cS} (he:(mA P t (.ptr id off)).val f h=some e) {v:Value} (hv:v= .pointer (some ⟨β.da id,off,none⟩)):
  ∃u,(do loadVar t (←asAddr v):Sem Value).run P w= .ok u w∧aq w (Av h β) β e.sv u:=by
 have conv:∀u,(Instr.loadAt t v).run P w= .ok u w→(do loadVar t (←asAddr v):Sem Value).run P w= .ok u w:=by
  intro u hu
  subst hv
  exact hu
 unfold mA at he
 split at he
 case h_2=>simp at he
 rename_i td hu
 simp only[CH,M.a8,af] at he
 obtain⟨ob,aS,he⟩:=he
 split at he
 ·rename_i t' cells
  cases ha:bB P t
  ·simp only[ha,aQ] at he
   split at he
   ·rename_i s hs
    simp only[M.ab,aa] at he
    subst he
    obtain⟨vs,hh,hr,_,_⟩:=hc.aC id _ aS
    obtain⟨u,CE,f8⟩:=ah.get _ _ _ _ hr hs
    refine⟨u,conv u ?_,f8⟩
    rw[hv]
    exact d5 ha hu (by rw[jz hh];exact CE)
   ·simp at he
  ·simp only[ha,aj] at he
   split at he
   ·rename_i i hi
    cases hz:Nat.ble (off+i.size) cells.length
    ·simp [hz] at he
    ·simp only[hz,aj,M.ab,aa] at he
     subst he
     have hle:=Nat.le_of_ble_eq_true hz
     obtain⟨vs,hh,hr,bk,_⟩:=hc.aC id _ aS
     have hlen:=ah.length _ _ hr
     refine⟨.agg ((vs.drop off).take i.size).toArray,conv _ ?_, ?_⟩
     ·rw[hv]
      refine fE (vs:=(vs.drop off).take i.size) ha hi (by simp;omega) (fun j v hj=> ?_)
      rw[jz hh]
      rw[List.getElem?_take] at hj
      split at hj
      ·simpa using hj
      ·cases hj
     ·simp only[aq]
      exact⟨_,rfl,ah.take _ _ _ (ah.drop _ _ _ hr),fun y hy=>bk y (List.mem_of_mem_drop (List.mem_of_mem_take hy))⟩
   ·simp at he
 ·simp at he
theorem iN (hc:Core w0 S f h β φ tm w):∀(l:List ResultVar) (ss:List SV),(gL P l).val f h=some ss→∃vs,(l.mapM (mF tm)).run P w= .ok vs w∧ah w (Av h β) β ss vs
 | [],ss,hs=>by
  simp only[gL,M.ab,aa] at hs
  subst hs
  exact⟨[],by simp,by simp [ah]⟩
 | .tmp t::l,ss,hs=>by
  simp only[gL,M.iC,M.ag,af,M.ab,aa] at hs
  obtain⟨r,hr,rfl⟩:=hs
  obtain⟨vs,h1,h2⟩:=iN hc l r hr
  refine⟨tm.getD t undef::vs, ?_, ?_⟩
  ·simp only[List.mapM_cons,mF,Sem.run_bind,Sem.run_pure,Result.andThen_ok,h1]
  ·simp only[ah]
   exact⟨_,_,rfl,hc.cl t,h2⟩
 | .cell p t::l,ss,hs=>by
  simp only[gL,M.iC,M.ag,af,M.ab,aa] at hs
  obtain⟨e,he,r,hr,rfl⟩:=hs
  obtain⟨vs,h1,h2⟩:=iN hc l r hr
  have kv:=hc.cl p
  split at he
  ·rename_i id off hp
   rw[hp] at kv
   simp only[aq] at kv
   obtain⟨u,g1,g2⟩:=Fq hc he kv
   refine⟨u::vs, ?_, ?_⟩
   ·simp only[List.mapM_cons,Sem.run_bind,Sem.run_pure]
    have:(mF tm (.cell p t)).run P w= .ok u w:=g1
    simp only[this,Result.andThen_ok,h1]
   ·simp only[ah]
    exact⟨_,_,rfl,g2,h2⟩
  ·simp at he
theorem CR {fn:Func} :results fn tm=(do let vs ←fn.results.mapM (mF tm);pure (if h:vs.size=1 then vs[0] else .tuple vs)):=by
 unfold results
 congr 1
theorem Gl (l:List Value):(if h:l.toArray.size=1 then l.toArray[0] else .tuple l.toArray)=pack l:=by
 cases l with
 | nil=>rfl
 | cons x l=>
  cases l with
  | nil=>rfl
  | cons y l=>simp [pack]
theorem lf {fn:Func} {vs:List Value} (hr:(fn.results.toList.mapM (mF tm)).run P w= .ok vs w):(results fn tm).run P w= .ok (pack vs) w:=by
 rw[CR,Array.mapM_eq_mapM_toList]
 simp only[Sem.run_bind,map_eq_pure_bind,Sem.run_pure,hr,Result.andThen_ok,bind_assoc,pure_bind]
 rw[Gl]
theorem hF (hc:Core w0 S f h β φ tm w):∀(CP:List RC) (ss:List SV) (vs:List Value) (q:List DC×List Nat×List Nat),ah w (Av h β) β ss vs→(dV CP ss).val f h=some q→
  ∃φ' im tp,dr w CP q.1 vs φ' im tp∧(∀b∈φ',∃i∈q.2.1,(∃o,h i=some o)∧b∈φ i)∧(∀b∈tp,∃i o,i∈q.2.1∧h i=some o∧b∈ar β i o)∧(q.2.1.Nodup→φ'.Nodup)∧
   (∀b∈im,¬Av h β b∨∃i∈q.2.2,(∃o,h i=some o)∧b∈φ i)
 | [],[],vs,q,hs,hq=>by
  simp only[dV,M.ab,aa] at hq
  subst hq
  simp only[ah] at hs
  exact⟨[],[],[],⟨rfl,hs,rfl,rfl,rfl⟩,by simp,by simp,by simp,by simp⟩
 | [],_::_,vs,q,hs,hq=>by simp [dV] at hq
 | _::_,[],vs,q,hs,hq=>by simp [dV] at hq
 | rc::CP,s::ss,vs,q,hs,hq=>by
  simp only[ah] at hs
  obtain⟨v,l,rfl,h1,h2⟩:=hs
  simp only[dV,M.ag,af,M.ab,aa] at hq
  obtain⟨q1,aN,q2,cE,rfl⟩:=hq
  obtain⟨Bl,mO,D8,g1,g2,g3,g4,g5⟩:=hF hc CP ss l q2 h2 cE
  cases rc with
  | ef ct=>
   simp only[fN,M.ag,af,M.ab,aa] at aN
   obtain⟨p,hp,rfl⟩:=aN
   obtain⟨fp,r1,r2,_,r4,_⟩:=dH hc h1 hp
   refine⟨Bl,fp++mO,D8,⟨p.1,q2.1,v,l,fp,mO,rfl,rfl,r1,g1,rfl⟩, ?_, ?_, ?_, ?_⟩
   ·simpa using g2
   ·simpa using g3
   ·simpa using g4
   ·intro b hb
    rcases List.mem_append.1 hb with hb | hb
    ·rcases r4 b hb with h3 | ⟨x,hx,h3⟩
     ·exact .inl h3
     ·obtain⟨_,Ck,_⟩:=r2 x hx
      exact .inr ⟨x.1,aT _ (List.mem_map_of_mem hx),⟨_,Ck⟩,ak (hc.aC _ _ Ck) b (by rw[ft Ck] at h3;exact h3)⟩
    ·rcases g5 b hb with h3 | ⟨i,hi,h3⟩
     ·exact .inl h3
     ·exact .inr ⟨i,aK _ hi,h3⟩
  | own t e=>
   cases s with
   | nil=>
    simp only[fN,M.ab,aa] at aN
    subst aN
    simp only[aq] at h1
    subst h1
    refine⟨Bl,mO,D8,⟨[],q2.1,_,l,[],[],Bl,D8,rfl,rfl,⟨by simp,.inl ⟨rfl,rfl,rfl⟩⟩,⟨rfl,by simp⟩,g1,by simp [Value.ownBlock],by simp [Value.ownBlock]⟩, ?_, ?_, ?_, ?_⟩
    ·simpa using g2
    ·simpa using g3
    ·simpa using g4
    ·simpa using g5
   | own id=>
    simp only[fN,M.a8,af] at aN
    obtain⟨ob,aS,aN⟩:=aN
    split at aN
    ·rename_i t' e' r u
     cases aO:Nat.beq t t' && aL e e' && u
     ·simp [aO] at aN
     ·simp only[aO,aj,M.ab,aa] at aN
      subst aN
      simp only[aw] at aO
      obtain⟨⟨ht,he⟩,hu⟩:=aO
      have Le:=aM ht
      have JJ:=aR _ _ he
      subst Le JJ hu
      simp only[aq] at h1
      obtain⟨vals,aE,o1,o2,o3,o4⟩:=hc.aC id _ aS
      rw[←h1.1] at o1
      simp only[aj] at o4
      rw[←h1.1] at o4
      refine⟨(v.ownBlock.toList++aE.flatten)++Bl,mO,v.ownBlock.toList++D8,⟨r,q2.1,v,l,vals,aE,Bl,D8,rfl,rfl,o1,o2,g1,rfl,rfl⟩, ?_, ?_, ?_, ?_⟩
      ·intro b hb
       rcases List.mem_append.1 hb with hb | hb
       ·exact⟨id,aT _ (List.mem_singleton.2 rfl),⟨_,aS⟩,by rw[o4];exact hb⟩
       ·obtain⟨i,hi,h3⟩:=g2 b hb
        exact⟨i,aK _ hi,h3⟩
      ·intro b hb
       rcases List.mem_append.1 hb with hb | hb
       ·exact⟨id,_,aT _ (List.mem_singleton.2 rfl),aS,by rw[h1.1] at hb;simpa [ar] using hb⟩
       ·obtain⟨i,o,hi,h3⟩:=g3 b hb
        exact⟨i,o,aK _ hi,h3⟩
      ·intro hnd
       simp only[List.singleton_append,List.nodup_cons] at hnd
       rw[List.nodup_append]
       refine⟨o4 ▸ (hc.fresh id _ aS).1,g4 hnd.2,fun b hb b' aB e=> ?_⟩
       subst e
       obtain⟨i,hi,⟨o,Ci⟩,h3⟩:=g2 b aB
       have cQ:id≠i:=fun e=>hnd.1 (e ▸ hi)
       exact hc.sep id i _ _ cQ aS Ci b (o4 ▸ hb) h3
      ·simpa using g5
    ·simp at aN
   | _=>simp [fN] at aN
  | deep t e ts=>
   cases s with
   | nil=>
    simp only[fN,M.ab,aa] at aN
    subst aN
    simp only[aq] at h1
    subst h1
    refine⟨Bl,mO,D8,⟨[],q2.1,_,l,[],[],Bl,D8,rfl,rfl,⟨by simp,.inl ⟨rfl,rfl,rfl⟩⟩,⟨rfl,by simp⟩,g1,by simp [Value.ownBlock],by simp [Value.ownBlock]⟩, ?_, ?_, ?_, ?_⟩
    ·simpa using g2
    ·simpa using g3
    ·simpa using g4
    ·simpa using g5
   | own id=>
    simp only[fN,M.a8,af] at aN
    obtain⟨ob,aS,aN⟩:=aN
    split at aN
    ·rename_i t' e' ea r
     cases aO:Nat.beq t t' && aL e e' && fR ts ea
     ·simp [aO] at aN
     ·simp only[aO,aj,M.ab,aa] at aN
      subst aN
      simp only[aw] at aO
      obtain⟨⟨ht,he⟩,hu⟩:=aO
      have Le:=aM ht
      have JJ:=aR _ _ he
      have CE:=gr _ _ hu
      subst Le JJ CE
      simp only[aq] at h1
      obtain⟨vals,a7,o1,o2,o3,o4⟩:=hc.aC id _ aS
      rw[←h1.1] at o1
      rw[←h1.1] at o4
      have ca:∀b∈(v.ownBlock.toList++a7.flatten),b∈ar β id (.deep t e ts r none):=fun b hb=>by
       rw[h1.1] at hb
       simpa only[ar,o3] using hb
      refine⟨(v.ownBlock.toList++a7.flatten)++Bl,mO,(v.ownBlock.toList++a7.flatten)++D8,⟨r,q2.1,v,l,vals,a7,Bl,D8,rfl,rfl,o1,o2,g1,rfl,rfl⟩, ?_, ?_, ?_, ?_⟩
      ·intro b hb
       rcases List.mem_append.1 hb with hb | hb
       ·exact⟨id,aT _ (List.mem_singleton.2 rfl),⟨_,aS⟩,by rw[o4];exact hb⟩
       ·obtain⟨i,hi,h3⟩:=g2 b hb
        exact⟨i,aK _ hi,h3⟩
      ·intro b hb
       rcases List.mem_append.1 hb with hb | hb
       ·exact⟨id,_,aT _ (List.mem_singleton.2 rfl),aS,ca b hb⟩
       ·obtain⟨i,o,hi,h3⟩:=g3 b hb
        exact⟨i,o,aK _ hi,h3⟩
      ·intro hnd
       simp only[List.singleton_append,List.nodup_cons] at hnd
       rw[List.nodup_append]
       refine⟨o4 ▸ (hc.fresh id _ aS).1,g4 hnd.2,fun b hb b' aB e=> ?_⟩
       subst e
       obtain⟨i,hi,⟨o,Ci⟩,h3⟩:=g2 b aB
       have cQ:id≠i:=fun e=>hnd.1 (e ▸ hi)
       exact hc.sep id i _ _ cQ aS Ci b (o4 ▸ hb) h3
      ·simpa using g5
    ·simp at aN
   | _=>simp [fN] at aN
theorem jc (hc:Core w0 S f h β φ tm w):∀(BZ:List RK) (ss:List SV) (vs:List Value) (q:List DC×List Nat×List Nat),ah w (Av h β) β ss vs→(fO BZ ss).val f h=some q→
  ∃φ' im tp,fu w BZ q.1 vs φ' im tp∧(∀b∈φ',∃i∈q.2.1,(∃o,h i=some o)∧b∈φ i)∧(∀b∈tp,∃i o,i∈q.2.1∧h i=some o∧b∈ar β i o)∧(q.2.1.Nodup→φ'.Nodup)∧
   (∀b∈im,¬Av h β b∨∃i∈q.2.2,(∃o,h i=some o)∧b∈φ i)
 | [],[],vs,q,hs,hq=>by
  simp only[fO,M.ab,aa] at hq
  subst hq
  simp only[ah] at hs
  exact⟨[],[],[],⟨rfl,hs,rfl,rfl,rfl⟩,by simp,by simp,by simp,by simp⟩
 | [],_::_,vs,q,hs,hq=>by simp [fO] at hq
 | _::_,[],vs,q,hs,hq=>by simp [fO] at hq
 | k::ks,s::ss,vs,q,hs,hq=>by
  simp only[ah] at hs
  obtain⟨v,l,rfl,h1,h2⟩:=hs
  simp only[fO,M.ag,af,M.ab,aa] at hq
  obtain⟨q1,aN,q2,cE,rfl⟩:=hq
  obtain⟨Bl,mO,D8,g1,g2,g3,g4,g5⟩:=jc hc ks ss l q2 h2 cE
  have one:∃us:List Value,(bif k.agg then v= .agg us.toArray else us=[v])∧(∀x∈us,x.oneCell'=true)∧∃D1 Jq Jy,dr w k.cells q1.1 us D1 Jq Jy∧(∀b∈D1,∃i∈q1.2.1,(∃o,h i=some o)∧b∈φ i)∧
    (∀b∈Jy,∃i o,i∈q1.2.1∧h i=some o∧b∈ar β i o)∧(q1.2.1.Nodup→D1.Nodup)∧(∀b∈Jq,¬Av h β b∨∃i∈q1.2.2,(∃o,h i=some o)∧b∈φ i):=by
   cases hk:k.agg with
   | true=>
    cases s with
    | agg cs=>
     simp only[hk] at aN
     simp only[aq] at h1
     obtain⟨us,rfl,gu,bk⟩:=h1
     exact⟨us,rfl,bk,hF hc k.cells cs us q1 gu aN⟩
    | _=>simp [hk] at aN
   | false=>
    have lz:(dV k.cells [s]).val f h=some q1:=by
     cases s<;>simp only[hk] at aN<;>first | exact aN | (simp at aN)
    have ib:ah w (Av h β) β [s] [v]:=by simp only[ah];exact⟨v,[],rfl,h1,rfl⟩
    have A1:=hF hc k.cells [s] [v] q1 ib lz
    refine⟨[v],rfl, ?_,A1⟩
    obtain⟨_,_,_,hr,_⟩:=A1
    intro x hx
    rw[List.mem_singleton] at hx
    subst hx
    cases fI:k.cells with
    | nil=>rw[fI] at hr;simp [dr] at hr
    | cons c cs=>
     rw[fI] at hr
     cases c with
     | ef ct=>
      obtain⟨d,bc,v',cR,f1,Fb,_,hv,h3,_⟩:=hr
      simp only[List.cons.injEq] at hv
      rw[hv.1]
      exact h3.one
     | own t e=>
      obtain⟨rows,bc,v',cR,vals,aE,φ',Bk,_,hv,h3,_⟩:=hr
      simp only[List.cons.injEq] at hv
      rw[hv.1]
      exact h3.one
     | deep t e ts=>
      obtain⟨rows,bc,v',cR,vals,aE,φ',Bk,_,hv,h3,_⟩:=hr
      simp only[List.cons.injEq] at hv
      rw[hv.1]
      exact h3.one
  obtain⟨us,gu,bk,D1,Jq,Jy,k1,k2,k3,k4,k5⟩:=one
  refine⟨D1++Bl,Jq++mO,Jy++D8,⟨q1.1,q2.1,v,l,us,D1,Bl,Jq,mO,Jy,D8,rfl,rfl,gu,bk,k1,g1,rfl,rfl,rfl⟩, ?_, ?_, ?_, ?_⟩
  ·intro b hb
   rcases List.mem_append.1 hb with hb | hb
   ·obtain⟨i,hi,h3⟩:=k2 b hb
    exact⟨i,aT _ hi,h3⟩
   ·obtain⟨i,hi,h3⟩:=g2 b hb
    exact⟨i,aK _ hi,h3⟩
  ·intro b hb
   rcases List.mem_append.1 hb with hb | hb
   ·obtain⟨i,o,hi,h3⟩:=k3 b hb
    exact⟨i,o,aT _ hi,h3⟩
   ·obtain⟨i,o,hi,h3⟩:=g3 b hb
    exact⟨i,o,aK _ hi,h3⟩
  ·intro hnd
   rw[List.nodup_append] at hnd ⊢
   refine⟨k4 hnd.1,g4 hnd.2.1,fun b hb b' aB e=> ?_⟩
   subst e
   obtain⟨i,hi,⟨o,Ci⟩,h3⟩:=k2 b hb
   obtain⟨j,hj,⟨o',je⟩,h4⟩:=g2 b aB
   exact hc.sep i j _ _ (hnd.2.2 i hi j hj) Ci je b h3 h4
  ·intro b hb
   rcases List.mem_append.1 hb with hb | hb
   ·rcases k5 b hb with h3 | ⟨i,hi,h3⟩
    ·exact .inl h3
    ·exact .inr ⟨i,aT _ hi,h3⟩
   ·rcases g5 b hb with h3 | ⟨i,hi,h3⟩
    ·exact .inl h3
    ·exact .inr ⟨i,aK _ hi,h3⟩
end
end Go.Proofs.YtnlkklmcfafgeaaGreat.Vm
set_option linter.unusedVariables false
namespace Go.Proofs.YtnlkklmcfafgeaaGreat.Vm
mutual
def G5:CT→DC→Prop
 | .int k,d=>∃n,d= .int n∧BS k n=true
 | .bool,d=>∃b,d= .bool b
 | .str,d=>∃s:List UInt8,d= .str s∧s.length≤maxLen
 | .sl e,d=>∃rows:List (List DC),d= .sl rows∧rows.length≤maxLen∧∀r∈rows,kd e r
def kd:List CT→List DC→Prop
 | [],r=>r=[]
 | c::cs,r=>∃d r',r=d::r'∧G5 c d∧kd cs r'
end
mutual
theorem cd.wt {w:World} :∀(c:CT) (d:DC) (v:Value) (fp:List Nat),cd w c d v fp→G5 c d
 | .int k,_,_,_,h=>by
  simp only[cd,G5] at h ⊢
  obtain⟨n,h1,_,h2,_⟩:=h
  exact⟨n,h1,h2⟩
 | .bool,_,_,_,h=>by
  simp only[cd,G5] at h ⊢
  obtain⟨n,h1,_⟩:=h
  exact⟨n,h1⟩
 | .str,_,_,_,h=>by
  simp only[cd,G5] at h ⊢
  obtain⟨s,h1,_,h2,_⟩:=h
  exact⟨s,h1,h2⟩
 | .sl e,_,_,_,h=>by
  simp only[cd,G5] at h ⊢
  obtain⟨rows,a,n,c,rfl,_,hn,hc,hm,hr⟩:=h
  refine⟨rows,rfl,by omega,fun r E3=> ?_⟩
  rcases hr with ⟨h0,_⟩ | ⟨_,b,o,aE,_,_,hl,_,hr⟩
  ·rw[h0] at hn
   rw[List.length_eq_zero_iff.1 hn] at E3
   simp at E3
  ·obtain⟨i,hi,rfl⟩:=List.getElem_of_mem E3
   exact bf.wt e _ _ _ (hr i rows[i] aE[i] (by simp) (by simp))
theorem bf.wt {w:World} :∀(cs:List CT) (r:List DC) (f:Nat→Option Value) (fp:List Nat),bf w cs r f fp→kd cs r
 | [],_,_,_,h=>by
  simp only[bf,kd] at h ⊢
  exact h.1
 | c::cs,_,_,_,h=>by
  simp only[bf,kd] at h ⊢
  obtain⟨d,r',v,f1,f2,h0,_,h1,h2,_⟩:=h
  exact⟨d,r',h0,cd.wt c d v f1 h1,bf.wt cs r' _ f2 h2⟩
end
def hD:List AK→List CT
 | []=>[]
 | k::ks=>k.bI++hD ks
theorem kd.append:∀ {cs Bx:List CT} {r r':List DC},kd cs r→kd Bx r'→kd (cs++Bx) (r++r')
 | [],_,_,_,h,h'=>by
  simp only[kd] at h
  subst h
  exact h'
 | c::cs,_,_,_,h,h'=>by
  simp only[kd] at h
  obtain⟨d,r1,rfl,h1,h2⟩:=h
  simp only[List.cons_append,kd]
  exact⟨d,r1++_,rfl,h1,h2.append h'⟩
theorem dv.wt {w:World} :∀(ks:List AK) (ds:List DC) (vs:List Value) (fp:List Nat),dv w ks ds vs fp→kd (hD ks) ds
 | [],_,_,_,h=>by
  simp only[hD,kd]
  exact h.1
 | k::ks,_,_,_,h=>by
  obtain⟨d1,d2,v,cR,f1,f2,rfl,rfl,⟨us,_,_,hr,_⟩,h2,rfl⟩:=h
  exact kd.append (bf.wt _ _ _ _ hr) (dv.wt ks d2 cR f2 h2)
section
variable {P:Program} {Γ:Ctx} {A:List (Nat×lE)} {w:World}
theorem jV:∀(cs:List CT) (d1 d2:List DC) (k:Nat),k+cs.length≤d1.length→cr cs (d1++d2) k=cr cs d1 k
 | [],_,_,_,_=>rfl
 | c::cs,d1,d2,k,h=>by
  simp only[cr]
  simp only[dx] at h
  rw[jV cs d1 d2 (k+1) (by omega)]
  congr 2
  simp only[List.getD_eq_getElem?_getD]
  rw[List.getElem?_append_left (by omega)]
theorem Ee {av:Nat→Prop} {β:Env} {k:AK} {ds:List DC} {v:Value} {fp:List Nat} (h:FR w k ds v fp) (cX:∀b∈fp,¬av b):
  aq w av β (bif k.agg then .agg (cr k.bI ds 0) else (cr k.bI ds 0).headD .fG) v:=by
 obtain⟨us,h1,h2,h3,h4⟩:=h
 obtain⟨vs,l1,l2,l3,l4⟩:=bf.bT (β:=β) h3 cX k.bI.length 0 (by omega)
 have e:vs=us:=by
  apply List.ext_getElem?
  intro j
  by_cases hj:j<vs.length
  ·have:=l2 j vs[j] (by simp)
   simp only[Nat.zero_add] at this
   rw[this]
   simp
  ·rw[List.getElem?_eq_none (by omega),List.getElem?_eq_none (by omega)]
 subst e
 simp only[List.drop_zero,List.take_length] at l3
 cases hk:k.agg with
 | true=>
  rw[hk] at h1
  simp only[aj] at h1 ⊢
  simp only[aq]
  exact⟨vs,h1,l3,l4⟩
 | false=>
  rw[hk] at h1
  simp only[aQ] at h1 ⊢
  rw[h1.1] at l3
  cases hd:cr k.bI ds 0 with
  | nil=>simp [aq]
  | cons s ss=>
   rw[hd] at l3
   simp only[ah] at l3
   obtain⟨v',l',e1,e2,_⟩:=l3
   simp only[List.cons.injEq] at e1
   rw[e1.1]
   exact e2
theorem Dm {av:Nat→Prop} {β:Env} :∀(ks:List AK) (ds:List DC) (vs:List Value) (fp:List Nat) (i0:Nat),dv w ks ds vs fp→(∀b∈fp,¬av b)→∀i,
  ji (jh i0 ks ds) i= .fG∨∃j v,i=i0+j∧vs[j]? =some v∧aq w av β (ji (jh i0 ks ds) i) v
 | [],_,_,_,_,_,_,i=> .inl rfl
 | k::ks,_,_,_,i0,h,cX,i=>by
  obtain⟨d1,d2,v,cR,f1,f2,rfl,rfl,ha,h2,rfl⟩:=h
  have hl:d1.length=k.bI.length:=by
   obtain⟨us,_,_,hr,_⟩:=ha
   exact bf.length _ _ _ _ hr
  simp only[jh,ji]
  rw[jV _ _ _ _ (by omega)]
  cases hk:Nat.beq i0 i
  ·simp only[aQ]
   rw[←hl,List.drop_left]
   rcases Dm (av:=av) (β:=β) ks d2 cR f2 (i0+1) h2 (fun b hb=>cX b (aK _ hb)) i with h3 | ⟨j,v',hi,hj,hs⟩
   ·exact .inl h3
   ·exact .inr ⟨j+1,v',by omega,by simpa using hj,hs⟩
  ·have:=aM hk
   subst this
   simp only[aj]
   exact .inr ⟨0,v,rfl,rfl,Ee ha (fun b hb=>cX b (aT _ hb))⟩
theorem dv.length:∀(ks:List AK) (ds:List DC) (vs:List Value) (fp:List Nat),dv w ks ds vs fp→vs.length=ks.length
 | [],_,_,_,h=>by rw[h.2.1];rfl
 | k::ks,_,_,_,h=>by
  obtain⟨d1,d2,v,cR,f1,f2,rfl,rfl,ha,h2,rfl⟩:=h
  simp [dv.length ks d2 cR f2 h2]
theorem Ex {fn:Func} {s:Sum} {st:St} {r:List DC} (h:fin P fn s st=(true,r)):st.ok=true:=by
 unfold fin at h
 split at h
 ·split at h
  ·simp only[Prod.mk.injEq] at h
   exact h.1
  ·exact absurd h bO
 split at h
 ·simp only[Prod.mk.injEq,aw] at h
  exact h.1.1.1
 ·exact absurd h bO
theorem Ey {fn:Func} {s:Sum} (GP:s.pt=none) {st:St} {r:List DC} {w w':World} {fp:List Nat} {a:Act} (h:fin P fn s st=(true,r)) (hR:Rel w ⟨fun _=>False,fun b=>b<w.heap.size∧b ∉ fp,[]⟩ st a w'):
  a.defers=[]∧∃v,(results fn a.tmps).run P w'= .ok v w'∧∃vs φ im tp,Ending.returned v= .returned (pack vs)∧Kept Own.none w w'∧fu w' s.rs r vs φ im tp∧φ.Nodup∧
   (∀b∈φ,w.heap.size≤b∧b<w'.heap.size)∧∀b∈im,(b∈fp∨w.heap.size≤b)∧b ∉ tp:=by
 unfold fin at h
 rw[GP] at h
 simp only at h
 split at h
 case h_2=>exact absurd h bO
 rename_i ds own im x hr
 simp only[Prod.mk.injEq,aw,List.all_eq_true,Bool.not_eq_true'] at h
 obtain⟨⟨⟨_,bd⟩,kq⟩,rfl⟩:=h
 obtain⟨β,φ,hc⟩:=hR.core
 have hval:=M.eE _ hr
 simp only[M.ag,af] at hval
 obtain⟨ss,h1,h2⟩:=hval
 obtain⟨vs,g1,g2⟩:=iN hc _ _ h1
 obtain⟨φ',Fb,Bk,k1,k2,k3,k4,k5⟩:=jc hc _ _ _ _ g2 h2
 refine⟨hR.defers,pack vs,lf g1,vs,φ',Fb,Bk,rfl,⟨hR.kept.os,hR.kept.tape,hR.kept.output,hR.kept.size,fun k hk hn=>hR.kept.block k hk (fun h=>h)⟩,k1,k4 (fB bd), ?_, ?_⟩
 ·intro b hb
  obtain⟨i,_,⟨o,Ci⟩,mi⟩:=k2 b hb
  have:=(hc.fresh i o Ci).2 b mi
  rcases this.1 with h3 | h3
  ·exact⟨h3,this.2⟩
  ·exact h3.elim
 ·intro b hb
  rcases k5 b hb with h3 | ⟨i,hi,⟨o,Ci⟩,mi⟩
  ·refine⟨?_,fun hx=> ?_⟩
   ·by_cases cz:b<w.heap.size
    ·by_cases hm:b∈fp
     ·exact .inl hm
     ·refine absurd (.inr ?_) h3
      rw[hc.bars]
      exact⟨cz,hm⟩
    ·exact .inr (by omega)
   ·obtain⟨j,oj,_,hj,bz⟩:=k3 b hx
    exact h3 (.inl ⟨j,oj,hj,bz⟩)
  ·refine⟨?_,fun hx=> ?_⟩
   ·rcases ((hc.fresh i o Ci).2 b mi).1 with h3 | h3
    ·exact .inr h3
    ·exact h3.elim
   ·obtain⟨j,oj,BJ,hj,bz⟩:=k3 b hx
    have cQ:i≠j:=by
     rintro rfl
     have:=kq i hi
     rw[gk.2 BJ] at this
     cases this
    exact hc.sep i j o oj cQ Ci hj b mi (ak (hc.aC j oj hj) b bz)
theorem DT (fa:bN P Γ) {g:Nat} {fn:Func} {s:Sum} (hf:P.funcs[g]? =some fn) (Hi:fn.body.isSome=true) (hn:(fn.name== "runtime.NumGoroutine")=false) (hlen:s.ps.length≤fn.ntmps) (GN:fn.ntmps<1099511627776)
  (h:∀ds,kd (hD s.ps) ds→(s.fn ds).1=true→∃N,HW P Γ A N fn s ds=(true,(s.fn ds).2)) {w:World} {ds:List DC} {vals:List Value} {fp:List Nat} (cD:dv w s.ps ds vals fp) (aP:(s.fn ds).1=true) {Q:Ending→World→Prop}
  (hQ:∀(st:St) (a:Act) (w':World),Rel w ⟨fun _=>False,fun b=>b<w.heap.size∧b ∉ fp,[]⟩ st a w'→fin P fn s st=(true,(s.fn ds).2)→a.defers=[]∧∃v,(results fn a.tmps).run P w'= .ok v w'∧Q (.returned v) w'):Calls P g vals.toArray w Q:=by
 obtain⟨N,bA⟩:=h ds (dv.wt _ _ _ _ cD) aP
 obtain⟨c,hc⟩:=Option.isSome_iff_exists.1 Hi
 unfold HW at bA
 rw[hc] at bA
 simp only at bA
 have A4:=dv.length _ _ _ _ cD
 refine calls_of_wp hf hc ?_
 let S:Own:=⟨fun _=>False,fun b=>b<w.heap.size∧b ∉ fp,[]⟩
 let β:Env:=⟨fun _=>0,fun _=>undef,S.gN,fun _=>[]⟩
 have Bp:=dv.lt _ _ _ _ cD
 have hR:Rel w S {n:=fn.ntmps,sl:=jh 0 s.ps ds,hp:=[],ok:=true,ls:=[],lm:=[]} {tmps:=vals.toArray++Array.replicate (fn.ntmps - vals.toArray.size) undef,defers:=[]} w:=by
  refine⟨by simp only[Array.size_append,List.size_toArray,Array.size_replicate];rw[Nat.mod_eq_of_lt GN];omega,fun x hx=>by simp [S] at hx,rfl,⟨rfl,rfl,rfl,Nat.le_refl _,fun _ _ _=>rfl⟩,β,fun _=>[], ?_⟩
  refine⟨fun i=> ?_,fun id o ho=>by simp [St.obj,dN] at ho,fun id o ho=>by simp [St.obj,dN] at ho,fun i j o p _ ho=>by simp [St.obj,dN] at ho,fun b hb=>⟨hb.1,fun h=>h⟩,rfl⟩
  have Hz:∀b∈fp,¬Av (dN []) β b:=by
   intro b hb hx
   rcases hx with ⟨id,o,ho,_⟩ | hx
   ·simp [dN] at ho
   ·exact hx.2 hb
  rcases Dm (av:=Av (dN []) β) (β:=β) s.ps ds vals fp 0 cD Hz i with h1 | ⟨j,v,hi,hj,hs⟩
  ·show aq w _ _ (ji (jh 0 s.ps ds) i) _
   rw[h1]
   simp [aq]
  ·have hv:(vals.toArray++Array.replicate (fn.ntmps - vals.toArray.size) undef).getD i undef=v:=by
    have Hu:j<vals.length:=(List.getElem?_eq_some_iff.1 hj).1
    rw[Array.getD_eq_getD_getElem?,Array.getElem?_append_left (by simp;omega)]
    have:i=j:=by omega
    subst this
    simp [hj]
   rw[hv]
   exact hs
 refine cU (r:=(s.fn ds).2) fa c _ {eW:=fin P fn s,ext:=fun _ _=>kf,ret:=fin P fn s} _ w _ ⟨fun st ic=>Ex ic,fun i st ic=>absurd ic bO,fun st ic=>Ex ic⟩ hR bA ⟨?_, ?_, ?_⟩
 ·intro st a w' eZ ic
  exact hQ st a w' eZ ic
 ·intro i st a w' _ ic
  exact absurd ic bO
 ·intro st a w' eZ ic
  exact hQ st a w' eZ ic
theorem F6 (fa:bN P Γ) {g:Nat} {fn:Func} {s:Sum} (hf:P.funcs[g]? =some fn) (Hi:fn.body.isSome=true) (hn:(fn.name== "runtime.NumGoroutine")=false) (hlen:s.ps.length≤fn.ntmps) (GN:fn.ntmps<1099511627776)
  (h:∀ds,kd (hD s.ps) ds→(s.fn ds).1=true→∃N,HW P Γ A N fn s ds=(true,(s.fn ds).2)) (GP:s.pt=none:=by rfl):D_ P g s:=
 ⟨⟨fn,hf,Hi,hn⟩,fun w ds vals fp cD aP=>DT fa hf Hi hn hlen GN h cD aP fun st a w' hR ic=>Ey GP ic hR⟩
end
end Go.Proofs.YtnlkklmcfafgeaaGreat.Vm
namespace Go.Proofs.YtnlkklmcfafgeaaGreat.Vm
def focus (P:Program) (Γ:Ctx) (A:List (Nat×lE)) (N:Nat):List Bool→List (St→kM)→Code→AF→Code×AF
 | [],_,c,K=>(c,K)
 | x::p,is,c,K=>
  match c with
  | .seq a b=>bif x then focus P Γ A N p is b K else focus P Γ A N p is a {eW:=fun s=>run P Γ A N b s K,ext:=K.ext,ret:=K.ret}
  | .cond _ a b=>bif x then focus P Γ A N p is b K else focus P Γ A N p is a K
  | .block id a=>focus P Γ A N p is a {eW:=K.eW,ext:=fun i s=>bif Nat.beq i id then K.eW s else K.ext i s,ret:=K.ret}
  | .loop a=>match is,(dz a).bind (Jr A) with
   | ih::MS,some an=>focus P Γ A N p MS a {eW:=fun s'=>ih (canon P an s'),ext:=K.ext,ret:=K.ret}
   | _,_=>(c,K)
  | _=>(c,K)
def LW (P:Program) (Γ:Ctx) (A:List (Nat×lE)) (N:Nat) (fn:Func) (s:Sum) (p:List Bool) (is:List (St→kM)) (ih:St→kM) (st:St):kM:=
 match fn.body with
 | some c=>match focus P Γ A N p is c {eW:=fin P fn s,ext:=fun _ _=>kf,ret:=fin P fn s} with
  | (.loop a,K)=>match (dz a).bind (Jr A) with
   | some an=>run P Γ A N a st {eW:=fun s'=>ih (canon P an s'),ext:=K.ext,ret:=K.ret}
   | none=>kf
  | _=>kf
 | none=>kf
def LX (B:(St→kM)→St→kM) (n:Nat):St→kM:=Nat.rec (motive:=fun _=>St→kM) (fun _=>kf) (fun _ ih s=>B ih s) n
theorem J9 {α β:Type} {c:Bool} {x y:α} {a b:β} {K:β→α} (h1:x=K a) (h2:y=K b):(bif c then x else y)=K (bif c then a else b):=by
 cases c
 ·exact h2
 ·exact h1
def J7:Sum:= {ps:=[],rs:=[],fn:=fun _=>(false,[]),G6:=true}
theorem Lv {P:Program} {g:Nat} :gU P g J7:=trivial
theorem JD {P:Program} :bN P []:=fun _ _ h=>by simp [Ge] at h
theorem Ih {P:Program} {g:Nat} {s:Sum} {Γ:Ctx} (h:gU P g s) (fa:bN P Γ):bN P ((g,s)::Γ):=by
 intro g' s' h'
 simp only[Ge] at h'
 cases hb:Nat.beq g g'
 ·rw[hb] at h';exact fa g' s' h'
 ·rw[hb] at h'
  have:=aM hb
  subst this
  simp only[aj,aa] at h'
  subst h'
  exact h
end Go.Proofs.YtnlkklmcfafgeaaGreat.Vm
set_option linter.unusedVariables false
set_option linter.unusedSimpArgs false
namespace Go.Proofs.YtnlkklmcfafgeaaGreat.Vm
def pid (i j:Nat):Nat:=ai (5000000+i) j
def aI (i:Nat):Nat→List CT→List TT→List DC→List SV×List (Nat×ao)
 | _,[],_,_=>([],[])
 | j,.sl e::cs,ts,ds=>
  let q:=aI i (j+1) cs ts.tail ds.tail
  (.own (pid i j)::q.1,(pid i j,eU (ts.headD (.flat 0)) e (ds.headD default).cV)::q.2)
 | j,.int k::cs,ts,ds=>let q:=aI i (j+1) cs ts ds.tail;(iT (.int k) (ds.headD default)::q.1,q.2)
 | j,.bool::cs,ts,ds=>let q:=aI i (j+1) cs ts ds.tail;(iT .bool (ds.headD default)::q.1,q.2)
 | j,.str::cs,ts,ds=>let q:=aI i (j+1) cs ts ds.tail;(iT .str (ds.headD default)::q.1,q.2)
def cG:Nat→List AK→List (Option MK)→List DC→List (Nat×SV)×List (Nat×ao)
 | _,[],_,_=>([],[])
 | i,k::ks,ms,ds=>
  let q:=cG (i+1) ks ms.tail (ds.drop k.bI.length)
  match ms.headD none with
  | none=>((i,bif k.agg then .agg (cr k.bI ds 0) else (cr k.bI ds 0).headD .fG)::q.1,q.2)
  | some (.box t)=>((i,.ptr (pid i 0) 0)::q.1,(pid i 0,.box t (cr k.bI ds 0))::q.2)
  | some (.rows ts)=>
   let c:=aI i 0 k.bI ts ds
   ((i,bif k.agg then .agg c.1 else c.1.headD .fG)::q.1,c.2++q.2)
  | some (.jD ts)=>
   let c:=aI i 0 k.bI ts ds
   ((i,bif k.agg then .agg c.1 else c.1.headD .fG)::q.1,c.2++q.2)
  | some (.cP t ts)=>
   let c:=aI i 0 k.bI ts ds
   ((i,.ptr (pid i 62) 0)::q.1,(pid i 62,.box t c.1)::(c.2++q.2))
def lO (e:List CT) (t:TT) (s:SV):M (DC×Nat):=
 match s with
 | .own id=> .obj id fun
  | .row t' e' r false _=>match t with
   | .flat t=>bif Nat.beq t' t && aL e' e && ax e then .pure (.sl r,id) else .fail
   | .deep _ _=> .fail
  | .deep t' e' ea r none=>match t with
   | .flat _=> .fail
   | .deep t its=>bif Nat.beq t' t && aL e' e && fR ea its then .pure (.sl r,id) else .fail
  | _=> .fail
 | _=> .fail
def bF:List CT→List TT→List SV→M (List DC×List Nat)
 | [],_,[]=> .pure ([],[])
 | .sl e::cs,t::ts,s::ss=>(lO e t s).bind fun q=>(bF cs ts ss).bind fun r=> .pure (q.1::r.1,q.2::r.2)
 | .int _::cs,ts,_::ss=>bF cs ts ss
 | .bool::cs,ts,_::ss=>bF cs ts ss
 | .str::cs,ts,_::ss=>bF cs ts ss
 | _,_,_=> .fail
def br:List CT→List TT→List SV→M (List DC×List Nat)
 | [],[],[]=> .pure ([],[])
 | .sl e::cs,t::ts,s::ss=>(lO e t s).bind fun q=>(br cs ts ss).bind fun r=> .pure (q.1::r.1,q.2::r.2)
 | .int k::cs,ts,s::ss=>(eV (.int k) s).bind fun q=>(br cs ts ss).bind fun r=> .pure (q.1::r.1,r.2)
 | .bool::cs,ts,s::ss=>(eV .bool s).bind fun q=>(br cs ts ss).bind fun r=> .pure (q.1::r.1,r.2)
 | .str::cs,ts,s::ss=>(eV .str s).bind fun q=>(br cs ts ss).bind fun r=> .pure (q.1::r.1,r.2)
 | _,_,_=> .fail
def fC:Nat→List AK→List (Option MK)→M (List DC×List Nat)
 | _,[],[]=> .pure ([],[])
 | i,_::ks,none::ms=>fC (i+1) ks ms
 | i,k::ks,some (.box t)::ms=> .slot i fun
  | .ptr id 0=> .obj id fun
   | .box t' cells=>bif Nat.beq t' t then
     (cq k.bI cells).bind fun r=>bif r.2.1.isEmpty then (fC (i+1) ks ms).bind fun q=> .pure (r.1++q.1,id::q.2) else .fail
    else .fail
   | _=> .fail
  | _=> .fail
 | i,k::ks,some (.rows ts)::ms=> .slot i fun s=>
  (match k.agg,s with
   | true,.agg cs=>bF k.bI ts cs
   | true,_=> .fail
   | false,.agg _=> .fail
   | false,s=>bF k.bI ts [s]).bind fun r=>(fC (i+1) ks ms).bind fun q=> .pure (r.1++q.1,r.2++q.2)
 | i,_::ks,some (.jD _)::ms=>fC (i+1) ks ms
 | i,k::ks,some (.cP t ts)::ms=> .slot i fun
  | .ptr id 0=> .obj id fun
   | .box t' cells=>bif Nat.beq t' t then
     (br k.bI ts cells).bind fun r=>(fC (i+1) ks ms).bind fun q=> .pure (r.1++q.1,id::(r.2++q.2))
    else .fail
   | _=> .fail
  | _=> .fail
 | _,_,_=> .fail
def fP:List TT→Bool
 | []=>true
 | .flat _::l=>fP l
 | .deep _ _::_=>false
def iu:List (Option MK)→Bool
 | []=>true
 | some (.rows ts)::l=>fP ts && iu l
 | some (.jD _)::_=>false
 | some (.cP _ _)::_=>false
 | some (.box _)::l=>iu l
 | none::l=>iu l
def mQ (P:Program) (fn:Func) (s:Sum) (st:St):kM:=
 match ((gL P fn.results.toList).bind fun l=>(fO s.rs l).bind fun q=>(fC 0 s.ps s.ms).bind fun r=> .pure (q,r)).run st.get st.obj with
 | some (((ds,own,im),(od,ids)),_)=>(st.ok && fb (own++ids) && (iu s.ms || ff s.ms),ds++od)
 | none=>kf
def lA:List (Option MK)→Nat
 | []=>0
 | m::l=>bif Nat.blt 0 (lA l) then lA l+1 else bif m.isSome then 1 else 0
theorem Dr:∀ {l:List (Option MK)} {j:Nat} {m:MK},l[j]? =some (some m)→j<lA l
 | [],j,m,h=>by simp at h
 | x::l,0,m,h=>by
  simp only[List.getElem?_cons_zero,aa] at h
  subst h
  simp only[lA]
  cases Nat.blt 0 (lA l)<;>simp
 | x::l,j+1,m,h=>by
  have:=Dr (l:=l) (j:=j) (m:=m) (by simpa using h)
  simp only[lA]
  have h0:Nat.blt 0 (lA l)=true:=Nat.ble_eq_true_of_le (by omega)
  rw[h0]
  simp only[aj]
  omega
def G1 (P:Program) (Γ:Ctx) (A:List (Nat×lE)) (N:Nat) (fn:Func) (s:Sum) (ds:List DC):kM:=
 match fn.body with
 | some c=>run P Γ A N c {n:=fn.ntmps+lA s.ms*1099511627776,sl:=(cG 0 s.ps s.ms ds).1,hp:=(cG 0 s.ps s.ms ds).2,ok:=true,ls:=[],lm:=[]} {eW:=mQ P fn s,ext:=fun _ _=>kf,ret:=mQ P fn s}
 | none=>kf
section
variable {P:Program} {Γ:Ctx} {w0:World} {S:Own} {A:List (Nat×lE)} {N:Nat}
variable {f:Nat→SV} {h:Nat→Option ao} {β:Env} {φ:Nat→List Nat} {tm:Array Value} {w:World}
theorem mE (hc:Core w0 S f h β φ tm w) {el:List CT} {t:TT} {s:SV} {v:Value} {q:DC×Nat} (hs:aq w (Av h β) β s v) (hq:(lO el t s).val f h=some q):
  ∃rows mb o,q.1= .sl rows∧gT w t el rows v mb∧h q.2=some o∧mb=ar β q.2 o∧mb.Nodup∧(fP [t]=true→mb=v.ownBlock.toList):=by
 have F_:v.ownBlock.toList.Nodup:=by cases v.ownBlock<;>simp
 unfold lO at hq
 cases s with
 | own id=>
  simp only[M.a8,af] at hq
  obtain⟨ob,aS,hq⟩:=hq
  simp only[aq] at hs
  split at hq
  ·rename_i t' e' r u
   cases t with
   | deep t its=>simp at hq
   | flat t=>
    simp only at hq
    cases aO:Nat.beq t' t && aL e' el && ax el
    ·simp [aO] at hq
    ·simp only[aO,aj,M.ab,aa] at hq
     subst hq
     simp only[aw] at aO
     have ht:=aM aO.1.1
     have he:=aR _ _ aO.1.2
     subst ht he
     obtain⟨vals,aE,g1,g2,_,_⟩:=hc.aC id _ aS
     rw[←hs.1] at g1
     exact⟨r,v.ownBlock.toList,_,rfl,⟨aO.2,vals,aE,g1,g2,rfl⟩,aS,by simp only[ar,hs.1],F_,fun _=>rfl⟩
  ·rename_i t' e' ea r
   cases t with
   | flat t=>simp at hq
   | deep t its=>
    simp only at hq
    cases aO:Nat.beq t' t && aL e' el && fR ea its
    ·simp [aO] at hq
    ·simp only[aO,aj,M.ab,aa] at hq
     subst hq
     simp only[aw] at aO
     have ht:=aM aO.1.1
     have he:=aR _ _ aO.1.2
     have hi:=gr _ _ aO.2
     subst ht he hi
     have ca:=(hc.fresh id _ aS).1
     obtain⟨vals,a7,g1,g2,g3,g4⟩:=hc.aC id _ aS
     rw[g4] at ca
     rw[←hs.1] at g1 ca
     exact⟨r,v.ownBlock.toList++a7.flatten,_,rfl,⟨vals,a7,g1,g2,rfl⟩,aS,by simp only[ar,g3,hs.1],ca,fun h=>by simp [fP] at h⟩
  ·simp at hq
 | _=>simp at hq
theorem dP (hc:Core w0 S f h β φ tm w):∀(cs:List CT) (ts:List TT) (ss:List SV) (us:List Value) (q:List DC×List Nat),ah w (Av h β) β ss us→(bF cs ts ss).val f h=some q→
  ∃ψ,i7 w cs ts q.1 us ψ∧(∀b∈ψ,∃id∈q.2,∃o,h id=some o∧b∈ar β id o)∧(q.2.Nodup→ψ.Nodup)∧
   (fP ts=true→∀(w1:World) (ds:List DC) (mb:List Nat),aZ w1 cs ts ds us mb→∀b∈mb,∃id∈q.2,∃o,h id=some o∧b∈ar β id o)
 | [],ts,ss,us,q,hs,hq=>by
  cases ss with
  | nil=>
   simp only[bF,M.ab,aa] at hq
   subst hq
   simp only[ah] at hs
   refine⟨[],⟨rfl,hs,rfl⟩,by simp,by simp,fun _ w1 ds mb hm b hb=> ?_⟩
   simp only[aZ] at hm
   rw[hm.2.2.2] at hb
   simp at hb
  | cons s ss=>simp [bF] at hq
 | .int k::cs,ts,ss,us,q,hs,hq=>by
  cases ss with
  | nil=>simp [bF] at hq
  | cons s ss=>
   simp only[ah] at hs
   obtain⟨v,aW,rfl,h1,h2⟩:=hs
   simp only[bF] at hq
   obtain⟨ψ,k1,k2,k3,k4⟩:=dP hc cs ts ss aW q h2 hq
   refine⟨ψ, ?_,k2,k3,fun hnd w1 ds mb hm b hb=> ?_⟩
   ·simp only[i7]
    exact⟨v,aW,rfl,k1⟩
   ·simp only[aZ] at hm
    obtain⟨d,bc,v',FP,rfl,e0,_,hm⟩:=hm
    simp only[List.cons.injEq] at e0
    obtain⟨rfl,rfl⟩:=e0
    exact k4 hnd w1 bc mb hm b hb
 | .bool::cs,ts,ss,us,q,hs,hq=>by
  cases ss with
  | nil=>simp [bF] at hq
  | cons s ss=>
   simp only[ah] at hs
   obtain⟨v,aW,rfl,h1,h2⟩:=hs
   simp only[bF] at hq
   obtain⟨ψ,k1,k2,k3,k4⟩:=dP hc cs ts ss aW q h2 hq
   refine⟨ψ, ?_,k2,k3,fun hnd w1 ds mb hm b hb=> ?_⟩
   ·simp only[i7]
    exact⟨v,aW,rfl,k1⟩
   ·simp only[aZ] at hm
    obtain⟨d,bc,v',FP,rfl,e0,_,hm⟩:=hm
    simp only[List.cons.injEq] at e0
    obtain⟨rfl,rfl⟩:=e0
    exact k4 hnd w1 bc mb hm b hb
 | .str::cs,ts,ss,us,q,hs,hq=>by
  cases ss with
  | nil=>simp [bF] at hq
  | cons s ss=>
   simp only[ah] at hs
   obtain⟨v,aW,rfl,h1,h2⟩:=hs
   simp only[bF] at hq
   obtain⟨ψ,k1,k2,k3,k4⟩:=dP hc cs ts ss aW q h2 hq
   refine⟨ψ, ?_,k2,k3,fun hnd w1 ds mb hm b hb=> ?_⟩
   ·simp only[i7]
    exact⟨v,aW,rfl,k1⟩
   ·simp only[aZ] at hm
    obtain⟨d,bc,v',FP,rfl,e0,_,hm⟩:=hm
    simp only[List.cons.injEq] at e0
    obtain⟨rfl,rfl⟩:=e0
    exact k4 hnd w1 bc mb hm b hb
 | .sl el::cs,ts,ss,us,q,hs,hq=>by
  cases ts with
  | nil=>cases ss<;>simp [bF] at hq
  | cons t ts=>
   cases ss with
   | nil=>simp [bF] at hq
   | cons s ss=>
    simp only[ah] at hs
    obtain⟨v,aW,rfl,h1,h2⟩:=hs
    simp only[bF,M.ag,af,M.ab,aa] at hq
    obtain⟨q1,aN,q2,cE,rfl⟩:=hq
    obtain⟨ψ,k1,k2,k3,k4⟩:=dP hc cs ts ss aW q2 h2 cE
    obtain⟨rows,Js,o,r1,r2,r3,r4,r5,r6⟩:=mE hc h1 aN
    refine⟨Js++ψ, ?_,fun b hb=> ?_,fun hnd=> ?_,fun hnd w1 ds mb hm b hb=> ?_⟩
    ·simp only[i7]
     exact⟨t,ts,rows,q2.1,v,aW,Js,ψ,rfl,by rw[r1],rfl,r2,k1,rfl⟩
    ·rcases List.mem_append.1 hb with hb | hb
     ·exact⟨q1.2,List.mem_cons_self ..,o,r3,r4 ▸ hb⟩
     ·obtain⟨i,hi,o',ho⟩:=k2 b hb
      exact⟨i,List.mem_cons_of_mem _ hi,o',ho⟩
    ·simp only[List.nodup_cons] at hnd
     rw[List.nodup_append]
     refine⟨r5,k3 hnd.2,fun b hb b' aB e=> ?_⟩
     subst e
     obtain⟨i,hi,o',ec,mi⟩:=k2 b aB
     rw[r4] at hb
     exact hc.sep q1.2 i o o' (fun e=>hnd.1 (e ▸ hi)) r3 ec b (ak (hc.aC _ _ r3) b hb) (ak (hc.aC _ _ ec) b mi)
    ·simp only[aZ] at hm
     obtain⟨t1,Gq,L1,bc,v1,FP,m1,gw,e1,rfl,e2,EF,hm,rfl⟩:=hm
     simp only[List.cons.injEq] at e1 e2
     obtain⟨rfl,rfl⟩:=e1
     obtain⟨rfl,rfl⟩:=e2
     cases t with
     | deep t its=>simp [fP] at hnd
     | flat t=>
      obtain⟨_,vals,aE,_,_,rfl⟩:=EF
      rcases List.mem_append.1 hb with hb | hb
      ·refine⟨q1.2,List.mem_cons_self ..,o,r3, ?_⟩
       rw[←r4,r6 rfl]
       exact hb
      ·obtain⟨i,hi,o,ho⟩:=k4 (by simpa only[fP] using hnd) w1 bc gw hm b hb
       exact⟨i,List.mem_cons_of_mem _ hi,o,ho⟩
theorem d4 (hc:Core w0 S f h β φ tm w):∀(cs:List CT) (ts:List TT) (ss:List SV) (us:List Value) (q:List DC×List Nat),ah w (Av h β) β ss us→(br cs ts ss).val f h=some q→
  ∃ψ,aZ w cs ts q.1 us ψ∧(∀b∈ψ,∃id∈q.2,∃o,h id=some o∧b∈ar β id o)∧(q.2.Nodup→ψ.Nodup)
 | [],ts,ss,us,q,hs,hq=>by
  cases ts with
  | cons _ _=>cases ss<;>simp [br] at hq
  | nil=>
  cases ss with
  | nil=>
   simp only[br,M.ab,aa] at hq
   subst hq
   simp only[ah] at hs
   exact⟨[],⟨rfl,rfl,hs,rfl⟩,by simp,by simp⟩
  | cons s ss=>simp [br] at hq
 | .int k::cs,ts,ss,us,q,hs,hq=>by
  cases ss with
  | nil=>simp [br] at hq
  | cons s ss=>
   simp only[ah] at hs
   obtain⟨v,aW,rfl,h1,h2⟩:=hs
   simp only[br,M.ag,af,M.ab,aa] at hq
   obtain⟨q1,aN,q2,cE,rfl⟩:=hq
   obtain⟨fp,hr,_⟩:=dH hc h1 aN
   obtain⟨ψ,k1,k2,k3⟩:=d4 hc cs ts ss aW q2 h2 cE
   refine⟨ψ, ?_,k2,k3⟩
   simp only[aZ]
   refine⟨q1.1,q2.1,v,aW,rfl,rfl, ?_,k1⟩
   simp only[cd] at hr ⊢
   obtain⟨n,a,b,c,_⟩:=hr
   exact⟨n,a,b,c,trivial⟩
 | .bool::cs,ts,ss,us,q,hs,hq=>by
  cases ss with
  | nil=>simp [br] at hq
  | cons s ss=>
   simp only[ah] at hs
   obtain⟨v,aW,rfl,h1,h2⟩:=hs
   simp only[br,M.ag,af,M.ab,aa] at hq
   obtain⟨q1,aN,q2,cE,rfl⟩:=hq
   obtain⟨fp,hr,_⟩:=dH hc h1 aN
   obtain⟨ψ,k1,k2,k3⟩:=d4 hc cs ts ss aW q2 h2 cE
   refine⟨ψ, ?_,k2,k3⟩
   simp only[aZ]
   refine⟨q1.1,q2.1,v,aW,rfl,rfl, ?_,k1⟩
   simp only[cd] at hr ⊢
   obtain⟨n,a,b,_⟩:=hr
   exact⟨n,a,b,trivial⟩
 | .str::cs,ts,ss,us,q,hs,hq=>by
  cases ss with
  | nil=>simp [br] at hq
  | cons s ss=>
   simp only[ah] at hs
   obtain⟨v,aW,rfl,h1,h2⟩:=hs
   simp only[br,M.ag,af,M.ab,aa] at hq
   obtain⟨q1,aN,q2,cE,rfl⟩:=hq
   obtain⟨fp,hr,_⟩:=dH hc h1 aN
   obtain⟨ψ,k1,k2,k3⟩:=d4 hc cs ts ss aW q2 h2 cE
   refine⟨ψ, ?_,k2,k3⟩
   simp only[aZ]
   refine⟨q1.1,q2.1,v,aW,rfl,rfl, ?_,k1⟩
   simp only[cd] at hr ⊢
   obtain⟨n,a,b,c,_⟩:=hr
   exact⟨n,a,b,c,trivial⟩
 | .sl el::cs,ts,ss,us,q,hs,hq=>by
  cases ts with
  | nil=>cases ss<;>simp [br] at hq
  | cons t ts=>
   cases ss with
   | nil=>simp [br] at hq
   | cons s ss=>
    simp only[ah] at hs
    obtain⟨v,aW,rfl,h1,h2⟩:=hs
    simp only[br,M.ag,af,M.ab,aa] at hq
    obtain⟨q1,aN,q2,cE,rfl⟩:=hq
    obtain⟨ψ,k1,k2,k3⟩:=d4 hc cs ts ss aW q2 h2 cE
    obtain⟨rows,Js,o,r1,r2,r3,r4,r5,r6⟩:=mE hc h1 aN
    refine⟨Js++ψ, ?_,fun b hb=> ?_,fun hnd=> ?_⟩
    ·simp only[aZ]
     exact⟨t,ts,rows,q2.1,v,aW,Js,ψ,rfl,by rw[r1],rfl,r2,k1,rfl⟩
    ·rcases List.mem_append.1 hb with hb | hb
     ·exact⟨q1.2,List.mem_cons_self ..,o,r3,r4 ▸ hb⟩
     ·obtain⟨i,hi,o',ho⟩:=k2 b hb
      exact⟨i,List.mem_cons_of_mem _ hi,o',ho⟩
    ·simp only[List.nodup_cons] at hnd
     rw[List.nodup_append]
     refine⟨r5,k3 hnd.2,fun b hb b' aB e=> ?_⟩
     subst e
     obtain⟨i,hi,o',ec,mi⟩:=k2 b aB
     rw[r4] at hb
     exact hc.sep q1.2 i o o' (fun e=>hnd.1 (e ▸ hi)) r3 ec b (ak (hc.aC _ _ r3) b hb) (ak (hc.aC _ _ ec) b mi)
theorem iK (hc:Core w0 S f h β φ tm w):∀(i:Nat) (ks:List AK) (ms:List (Option MK)) (vs:List Value) (q:List DC×List Nat),(∀(j:Nat) v m,vs[j]? =some v→ms[j]? =some (some m)→tm.getD (i+j) undef=v)→vs.length=ks.length→(fC i ks ms).val f h=some q→
  ∃im ψ,lR w ks ms q.1 vs im ψ∧(∀b∈im,¬Av h β b)∧(ff ms=true→im=[])∧(∀b∈ψ,∃id∈q.2,∃o,h id=some o∧b∈ar β id o)∧(q.2.Nodup→ψ.Nodup)∧
   (iu ms=true→∀(w1:World) (ds:List DC) (fp mb:List Nat),cO w1 ks ms ds vs fp mb→∀b∈mb,∃id∈q.2,∃o,h id=some o∧b∈ar β id o)
 | i,[],ms,vs,q,hv,hl,hq=>by
  cases ms with
  | nil=>
   simp only[fC,M.ab,aa] at hq
   subst hq
   have hl:vs=[]:=List.length_eq_zero_iff.1 hl
   subst hl
   refine⟨[],[],⟨rfl,rfl,rfl,rfl⟩,by simp,fun _=>rfl,by simp,by simp,fun _ w1 ds fp mb hm b hb=> ?_⟩
   simp only[cO] at hm
   rw[hm.2.2.2.2] at hb
   simp at hb
  | cons m ms=>simp [fC] at hq
 | i,k::ks,ms,vs,q,hv,hl,hq=>by
  cases ms with
  | nil=>simp [fC] at hq
  | cons m ms=>
   cases vs with
   | nil=>simp at hl
   | cons v vs=>
    have hv':∀(j:Nat) u m,vs[j]? =some u→ms[j]? =some (some m)→tm.getD (i+1+j) undef=u:=fun j u m' hu hm=>by
     have:=hv (j+1) u m' (by simpa using hu) (by simpa using hm)
     rw[show i+1+j=i+(j+1) by omega]
     exact this
    have D5:vs.length=ks.length:=by simpa using hl
    have dA:=hc.cl i
    cases m with
    | none=>
     simp only[fC] at hq
     obtain⟨im,ψ,k1,k2,k4,k5,k6,k3⟩:=iK hc (i+1) ks ms vs q hv' D5 hq
     refine⟨im,ψ,⟨none,ms,[],q.1,v,vs,[],im,[],ψ,rfl,rfl,rfl,⟨rfl,rfl,rfl⟩,k1,rfl,rfl⟩,k2,k4,k5,k6,fun hnd w1 ds fp mb hm b hb=> ?_⟩
     simp only[cO] at hm
     obtain⟨m',D7,d1,d2,v',cR,f1,f2,b1,b2,e1,rfl,e2,ha,hm,rfl,rfl⟩:=hm
     simp only[List.cons.injEq] at e1 e2
     obtain⟨rfl,rfl⟩:=e1
     obtain⟨rfl,rfl⟩:=e2
     simp only[gx] at ha
     rw[ha.2] at hb
     exact k3 hnd w1 d2 f2 b2 hm b (by simpa using hb)
    | some m=>
     have JW:tm.getD i undef=v:=hv 0 v m rfl rfl
     rw[JW] at dA
     cases m with
     | box t=>
      simp only[fC,M.iC] at hq
      cases f8:f i with
      | ptr id off=>
       rw[f8] at hq dA
       cases off with
       | succ off=>simp at hq
       | zero=>
        simp only[M.a8,af] at hq
        obtain⟨ob,aS,hq⟩:=hq
        cases ob with
        | box t' cells=>
         simp only at hq
         cases ky:Nat.beq t' t
         ·simp [ky] at hq
         ·have kz:=aM ky
          subst kz
          simp only[ky,aj,M.ag,af] at hq
          obtain⟨q1,aN,hq⟩:=hq
          cases FH:q1.2.1.isEmpty
          ·simp [FH] at hq
          ·simp only[FH,aj,M.ag,af,M.ab,aa] at hq
           obtain⟨q2,cE,rfl⟩:=hq
           obtain⟨im,ψ,k1,k2,k4,k5,k6,k3⟩:=iK hc (i+1) ks ms vs q2 hv' D5 cE
           obtain⟨us,g1,g2,g3,_⟩:=hc.aC id _ aS
           obtain⟨lI,hr,F3,jF,_⟩:=d9 hc k.bI cells us q1 g2 aN
           have M1:=ah.length _ _ g2
           have ka:=cL _ _ _ aN
           simp only[aq] at dA
           have KH:q1.2.1=[]:=List.isEmpty_iff.1 FH
           refine⟨lI++im,[β.da id]++ψ,⟨some (.box t'),ms,q1.1,q2.1,v,vs,lI,im,[β.da id],ψ,rfl,rfl,rfl,⟨β.da id,us,dA,g1,g3,hr,by omega,rfl⟩,k1,rfl,rfl⟩, ?_,fun h=>by simp [ff] at h,fun b hb=> ?_,fun hnd=> ?_,fun hnd w1 ds fp mb hm b hb=> ?_⟩
           ·intro b hb
            rcases List.mem_append.1 hb with hb | hb
            ·rcases jF b hb with h3 | ⟨x,hx,h3⟩
             ·exact h3
             ·rw[KH] at hx
              simp at hx
            ·exact k2 b hb
           ·rcases List.mem_append.1 hb with hb | hb
            ·exact⟨id,List.mem_cons_self ..,_,aS,by simpa only[ar] using hb⟩
            ·obtain⟨j,hj,o,ho⟩:=k5 b hb
             exact⟨j,List.mem_cons_of_mem _ hj,o,ho⟩
           ·simp only[List.nodup_cons] at hnd
            rw[List.nodup_append]
            refine⟨by simp,k6 hnd.2,fun b hb b' aB e=> ?_⟩
            subst e
            obtain⟨j,hj,o',ec,bz⟩:=k5 b aB
            exact hc.sep id j _ o' (fun e=>hnd.1 (e ▸ hj)) aS ec b (ak (hc.aC _ _ aS) b (by simpa only[ar] using hb)) (ak (hc.aC _ _ ec) b bz)
           ·simp only[cO] at hm
            obtain⟨m',D7,d1,d2,v',cR,f1,f2,b1,b2,e1,rfl,e2,ha,hm,rfl,rfl⟩:=hm
            simp only[List.cons.injEq] at e1 e2
            obtain⟨rfl,rfl⟩:=e1
            obtain⟨rfl,rfl⟩:=e2
            simp only[gx] at ha
            obtain⟨g,FP,ev,_,_,_,_,rfl⟩:=ha
            rcases List.mem_append.1 hb with hb | hb
            ·refine⟨id,List.mem_cons_self ..,_,aS, ?_⟩
             rw[dA] at ev
             simp only[Value.pointer.injEq,aa,Addr.mk.injEq,and_true] at ev
             simp only[ar]
             rw[ev]
             exact hb
            ·obtain⟨j,hj,o,ho⟩:=k3 hnd w1 d2 f2 b2 hm b hb
             exact⟨j,List.mem_cons_of_mem _ hj,o,ho⟩
        | row _ _ _ _ _=>simp at hq
        | ef _ _=>simp at hq
        | deep _ _ _ _ _=>simp at hq
      | _=>rw[f8] at hq;simp at hq
     | rows ts=>
      simp only[fC,M.iC,M.ag,af,M.ab,aa] at hq
      obtain⟨q1,aN,q2,cE,rfl⟩:=hq
      obtain⟨im,ψ,k1,k2,k4,k5,k6,k3⟩:=iK hc (i+1) ks ms vs q2 hv' D5 cE
      have one:∃us:List Value,(bif k.agg then v= .agg us.toArray else us=[v])∧∃FQ,i7 w k.bI ts q1.1 us FQ∧(∀b∈FQ,∃id∈q1.2,∃o,h id=some o∧b∈ar β id o)∧(q1.2.Nodup→FQ.Nodup)∧
        (fP ts=true→∀(w1:World) (ds:List DC) (mb:List Nat),aZ w1 k.bI ts ds us mb→∀b∈mb,∃id∈q1.2,∃o,h id=some o∧b∈ar β id o):=by
       cases hk:k.agg with
       | true=>
        generalize f i=s at aN dA
        cases s with
        | agg cs=>
         simp only[hk] at aN
         simp only[aq] at dA
         obtain⟨us,rfl,gu,bk⟩:=dA
         exact⟨us,rfl,dP hc k.bI ts cs us q1 gu aN⟩
        | _=>simp [hk] at aN
       | false=>
        generalize f i=s at aN dA
        have lz:(bF k.bI ts [s]).val f h=some q1:=by
         cases s<;>simp only[hk] at aN<;>first | exact aN | (simp at aN)
        have ib:ah w (Av h β) β [s] [v]:=by simp only[ah];exact⟨v,[],rfl,dA,rfl⟩
        exact⟨[v],rfl,dP hc k.bI ts [s] [v] q1 ib lz⟩
      obtain⟨us,gu,FQ,r1,r3,r4,r2⟩:=one
      refine⟨im,FQ++ψ,⟨some (.rows ts),ms,q1.1,q2.1,v,vs,[],im,FQ,ψ,rfl,rfl,rfl,⟨us,gu,r1,rfl⟩,k1,rfl,rfl⟩,k2,fun h=>k4 (by simpa only[ff] using h),fun b hb=> ?_,fun hnd=> ?_,fun hnd w1 ds fp mb hm b hb=> ?_⟩
      ·rcases List.mem_append.1 hb with hb | hb
       ·obtain⟨j,hj,o,ho⟩:=r3 b hb
        exact⟨j,aT _ hj,o,ho⟩
       ·obtain⟨j,hj,o,ho⟩:=k5 b hb
        exact⟨j,aK _ hj,o,ho⟩
      ·rw[List.nodup_append] at hnd
       obtain⟨n1,n2,n3⟩:=hnd
       rw[List.nodup_append]
       refine⟨r4 n1,k6 n2,fun b hb b' aB e=> ?_⟩
       subst e
       obtain⟨i1,JN,o1,GO,GC⟩:=r3 b hb
       obtain⟨j,hj,o',ec,bz⟩:=k5 b aB
       exact hc.sep i1 j o1 o' (fun e=>n3 i1 JN j hj e) GO ec b (ak (hc.aC _ _ GO) b GC) (ak (hc.aC _ _ ec) b bz)
      simp only[iu,aw] at hnd
      simp only[cO] at hm
      obtain⟨m',D7,d1,d2,v',cR,f1,f2,b1,b2,e1,rfl,e2,ha,hm,rfl,rfl⟩:=hm
      simp only[List.cons.injEq] at e1 e2
      obtain⟨rfl,rfl⟩:=e1
      obtain⟨rfl,rfl⟩:=e2
      simp only[gx] at ha
      obtain⟨FP,BP,_,ha,_⟩:=ha
      have MM:FP=us:=by
       cases hk:k.agg with
       | true=>
        rw[hk] at gu BP
        simp only[aj] at gu BP
        rw[gu] at BP
        simp only[Value.agg.injEq] at BP
        simpa using (congrArg Array.toList BP).symm
       | false=>
        rw[hk] at gu BP
        simp only[aQ] at gu BP
        rw[gu,BP.1]
      subst MM
      rcases List.mem_append.1 hb with hb | hb
      ·obtain⟨j,hj,o,ho⟩:=r2 hnd.1 w1 d1 b1 ha b hb
       exact⟨j,aT _ hj,o,ho⟩
      ·obtain⟨j,hj,o,ho⟩:=k3 hnd.2 w1 d2 f2 b2 hm b hb
       exact⟨j,aK _ hj,o,ho⟩
     | jD ts=>
      simp only[fC] at hq
      obtain⟨im,ψ,k1,k2,k4,k5,k6,k3⟩:=iK hc (i+1) ks ms vs q hv' D5 hq
      exact⟨im,ψ,⟨some (.jD ts),ms,[],q.1,v,vs,[],im,[],ψ,rfl,rfl,rfl,⟨rfl,rfl,rfl⟩,k1,rfl,rfl⟩,k2,fun h=>k4 (by simpa only[ff] using h),k5,k6,fun hnd=>by simp [iu] at hnd⟩
     | cP t ts=>
      simp only[fC,M.iC] at hq
      cases f8:f i with
      | ptr id off=>
       rw[f8] at hq dA
       cases off with
       | succ off=>simp at hq
       | zero=>
        simp only[M.a8,af] at hq
        obtain⟨ob,aS,hq⟩:=hq
        cases ob with
        | box t' cells=>
         simp only at hq
         cases ky:Nat.beq t' t
         ·simp [ky] at hq
         ·have kz:=aM ky
          subst kz
          simp only[ky,aj,M.ag,af,M.ab,aa] at hq
          obtain⟨q1,aN,q2,cE,rfl⟩:=hq
          obtain⟨im,ψ,k1,k2,k4,k5,k6,k3⟩:=iK hc (i+1) ks ms vs q2 hv' D5 cE
          obtain⟨us,g1,g2,g3,_⟩:=hc.aC id _ aS
          obtain⟨FQ,r1,r2,r3⟩:=d4 hc k.bI ts cells us q1 g2 aN
          simp only[aq] at dA
          refine⟨im,(β.da id::FQ)++ψ,⟨some (.cP t' ts),ms,q1.1,q2.1,v,vs,[],im,β.da id::FQ,ψ,rfl,rfl,rfl,⟨β.da id,us,FQ,dA,g1,g3,r1,rfl,rfl⟩,k1,rfl,rfl⟩,k2,fun h=>k4 (by simpa only[ff] using h),fun b hb=> ?_,fun hnd=> ?_,fun hnd=>by simp [iu] at hnd⟩
          ·simp only[List.cons_append,List.mem_cons,List.mem_append] at hb
           rcases hb with rfl | hb | hb
           ·exact⟨id,List.mem_cons_self ..,_,aS,by simp only[ar];exact List.mem_singleton.2 rfl⟩
           ·obtain⟨j,hj,o,ho⟩:=r2 b hb
            exact⟨j,List.mem_cons_of_mem _ (aT _ hj),o,ho⟩
           ·obtain⟨j,hj,o,ho⟩:=k5 b hb
            exact⟨j,List.mem_cons_of_mem _ (aK _ hj),o,ho⟩
          ·simp only[List.nodup_cons,List.mem_append,not_or,List.nodup_append] at hnd
           obtain⟨⟨n1,n2⟩,n3,n4,n5⟩:=hnd
           have Aj:∀j o',j≠id→h j=some o'→β.da id ∉ ar β j o':=by
            intro j o' hj ec hb
            exact hc.sep id j _ o' (Ne.symm hj) aS ec _ (ak (hc.aC _ _ aS) _ (by simp only[ar];exact List.mem_singleton.2 rfl)) (ak (hc.aC _ _ ec) _ hb)
           rw[List.cons_append,List.nodup_cons,List.nodup_append]
           refine⟨fun hb=> ?_,r3 n3,k6 n4,fun b hb b' aB e=> ?_⟩
           ·rcases List.mem_append.1 hb with hb | hb
            ·obtain⟨j,hj,o,ho,bz⟩:=r2 _ hb
             exact Aj j o (fun e=>n1 (e ▸ hj)) ho bz
            ·obtain⟨j,hj,o,ho,bz⟩:=k5 _ hb
             exact Aj j o (fun e=>n2 (e ▸ hj)) ho bz
           ·subst e
            obtain⟨i1,JN,o1,GO,GC⟩:=r2 b hb
            obtain⟨j,hj,o',ec,bz⟩:=k5 b aB
            exact hc.sep i1 j o1 o' (fun e=>n5 i1 JN j hj e) GO ec b (ak (hc.aC _ _ GO) b GC) (ak (hc.aC _ _ ec) b bz)
        | row _ _ _ _ _=>simp at hq
        | ef _ _=>simp at hq
        | deep _ _ _ _ _=>simp at hq
      | _=>rw[f8] at hq;simp at hq
end
end Go.Proofs.YtnlkklmcfafgeaaGreat.Vm
set_option linter.unusedVariables false
set_option linter.unusedSimpArgs false
namespace Go.Proofs.YtnlkklmcfafgeaaGreat.Vm
structure EN where
 id:Nat
 o:ao
 da:Nat
 val:Value
 φ:List Nat
 nb:List Nat
def EN.ok (w:World) (av:Nat→Prop) (β:Env) (x:EN):Prop:=f9 w av β x.id x.o x.φ∧ar β x.id x.o=x.φ
section
variable {P:Program} {Γ:Ctx} {A:List (Nat×lE)} {w:World} {i:Nat}
theorem cJ:∀(j:Nat) (cs:List CT) (ts:List TT) (ds:List DC) (us:List Value) (mb:List Nat),aZ w cs ts ds us mb→
  ∃E:List EN,(aI i j cs ts ds).2=E.map (fun x=>(x.id,x.o))∧E.flatMap (·.φ)=mb∧∀(av:Nat→Prop) (β:Env),(∀x∈E,β.da x.id=x.da∧β.val x.id=x.val∧β.nb x.id=x.nb)→
   ah w av β (aI i j cs ts ds).1 us∧∀x∈E,x.ok w av β
 | j,[],ts,ds,us,mb,hm=>by
  simp only[aZ] at hm
  obtain⟨rfl,rfl,rfl,rfl⟩:=hm
  exact⟨[],rfl,rfl,fun av β _=>⟨by simp [aI,ah],by simp⟩⟩
 | j,.int k::cs,ts,ds,us,mb,hm=>by
  simp only[aZ] at hm
  obtain⟨d,bc,v,aW,rfl,rfl,h1,hm⟩:=hm
  obtain⟨E,e1,e2,e3⟩:=cJ (j+1) cs ts bc aW mb hm
  refine⟨E,by simpa only[aI,List.tail_cons] using e1,e2,fun av β hb=> ?_⟩
  obtain⟨k1,k2⟩:=e3 av β hb
  refine⟨?_,k2⟩
  simp only[aI,List.headD_cons,List.tail_cons,ah]
  exact⟨v,aW,rfl,dG h1 (by simp),k1⟩
 | j,.bool::cs,ts,ds,us,mb,hm=>by
  simp only[aZ] at hm
  obtain⟨d,bc,v,aW,rfl,rfl,h1,hm⟩:=hm
  obtain⟨E,e1,e2,e3⟩:=cJ (j+1) cs ts bc aW mb hm
  refine⟨E,by simpa only[aI,List.tail_cons] using e1,e2,fun av β hb=> ?_⟩
  obtain⟨k1,k2⟩:=e3 av β hb
  refine⟨?_,k2⟩
  simp only[aI,List.headD_cons,List.tail_cons,ah]
  exact⟨v,aW,rfl,dG h1 (by simp),k1⟩
 | j,.str::cs,ts,ds,us,mb,hm=>by
  simp only[aZ] at hm
  obtain⟨d,bc,v,aW,rfl,rfl,h1,hm⟩:=hm
  obtain⟨E,e1,e2,e3⟩:=cJ (j+1) cs ts bc aW mb hm
  refine⟨E,by simpa only[aI,List.tail_cons] using e1,e2,fun av β hb=> ?_⟩
  obtain⟨k1,k2⟩:=e3 av β hb
  refine⟨?_,k2⟩
  simp only[aI,List.headD_cons,List.tail_cons,ah]
  exact⟨v,aW,rfl,dG h1 (by simp),k1⟩
 | j,.sl e::cs,ts,ds,us,mb,hm=>by
  simp only[aZ] at hm
  obtain⟨t,ea,rows,bc,v,aW,m1,gw,rfl,rfl,rfl,EF,hm,rfl⟩:=hm
  obtain⟨E,e1,e2,e3⟩:=cJ (j+1) cs ea bc aW gw hm
  have one:∃nb:List Nat,∀(av:Nat→Prop) (β:Env),β.val (pid i j)=v→β.nb (pid i j)=nb→f9 w av β (pid i j) (eU t e rows) m1∧ar β (pid i j) (eU t e rows)=m1:=by
   cases t with
   | flat t=>
    obtain⟨eF,vals,aE,h1,h2,rfl⟩:=EF
    refine⟨[],fun av β hv hn=>⟨⟨vals,aE,by rw[hv];exact h1,h2,by rw[gV eF h2];simp, ?_⟩, ?_⟩⟩
    ·rw[hv,gV eF h2]
     simp
    ·simp only[eU,ar,hv]
   | deep t its=>
    obtain⟨vals,a7,h1,h2,rfl⟩:=EF
    exact⟨a7.flatten,fun av β hv hn=>⟨⟨vals,a7,by rw[hv];exact h1,h2,hn,by rw[hv]⟩,by simp only[eU,ar,hv,hn]⟩⟩
  obtain⟨nb,one⟩:=one
  refine⟨⟨pid i j,eU t e rows,0,v,m1,nb⟩::E, ?_, ?_,fun av β hb=> ?_⟩
  ·simp only[aI,List.headD_cons,List.tail_cons,List.map_cons,e1,DC.cV]
  ·simp only[List.flatMap_cons,e2]
  ·obtain⟨k1,k2⟩:=e3 av β (fun x hx=>hb x (List.mem_cons_of_mem _ hx))
   have hv:=(hb _ (List.mem_cons_self ..)).2
   simp only at hv
   refine⟨?_,fun x hx=> ?_⟩
   ·simp only[aI,List.headD_cons,List.tail_cons,ah]
    refine⟨v,aW,rfl, ?_,k1⟩
    simp only[aq]
    exact⟨hv.1.symm,EF.one⟩
   ·rcases List.mem_cons.1 hx with rfl | hx
    ·exact one av β hv.1 hv.2
    ·exact k2 x hx
theorem gT.lt {t:TT} {e:List CT} {rows:List (List DC)} {v:Value} {mb:List Nat} (h:gT w t e rows v mb):∀b∈mb,b<w.heap.size:=by
 cases t with
 | flat t=>
  obtain⟨_,vals,aE,h1,_,rfl⟩:=h
  exact h1.lt
 | deep t its=>
  obtain⟨vals,a7,h1,h2,rfl⟩:=h
  intro b hb
  rcases List.mem_append.1 hb with hb | hb
  ·exact h1.lt b hb
  ·exact h2.lt b hb
theorem gT.reads {t:TT} {e:List CT} {rows:List (List DC)} {v:Value} {mb:List Nat} (h:gT w t e rows v mb):∃tt vals aE,cx w tt e.length false v rows.length vals∧dS w e rows vals aE:=by
 cases t with
 | flat t=>
  obtain⟨_,vals,aE,h1,h2,_⟩:=h
  exact⟨t,vals,aE,h1,h2⟩
 | deep t its=>
  obtain⟨vals,a7,h1,h2,_⟩:=h
  obtain⟨aE,h3,_⟩:=h2.reads
  exact⟨t,vals,aE,h1,h3⟩
theorem aZ.length:∀(cs:List CT) (ts:List TT) (ds:List DC) (us:List Value) (mb:List Nat),aZ w cs ts ds us mb→ds.length=cs.length
 | [],ts,ds,us,mb,h=>by simp only[aZ] at h;simp [h.2.1]
 | .sl e::cs,ts,ds,us,mb,h=>by
  simp only[aZ] at h
  obtain⟨t,ea,rows,bc,v,aW,m1,gw,rfl,rfl,rfl,_,h,_⟩:=h
  simp [aZ.length cs ea bc aW gw h]
 | .int k::cs,ts,ds,us,mb,h=>by
  simp only[aZ] at h
  obtain⟨d,bc,v,aW,rfl,rfl,_,h⟩:=h
  simp [aZ.length cs ts bc aW mb h]
 | .bool::cs,ts,ds,us,mb,h=>by
  simp only[aZ] at h
  obtain⟨d,bc,v,aW,rfl,rfl,_,h⟩:=h
  simp [aZ.length cs ts bc aW mb h]
 | .str::cs,ts,ds,us,mb,h=>by
  simp only[aZ] at h
  obtain⟨d,bc,v,aW,rfl,rfl,_,h⟩:=h
  simp [aZ.length cs ts bc aW mb h]
theorem eH:∀(j:Nat) (cs:List CT) (ts:List TT) (d1 d2:List DC),cs.length≤d1.length→aI i j cs ts (d1++d2)=aI i j cs ts d1
 | _,[],_,_,_,_=>rfl
 | j,c::cs,ts,d1,d2,hl=>by
  cases d1 with
  | nil=>simp at hl
  | cons x d1=>
   have D5:cs.length≤d1.length:=by simpa using hl
   cases c<;>simp only[List.cons_append,aI,List.headD_cons,List.tail_cons]<;>rw[eH _ cs _ d1 d2 D5]
theorem Dl:∀(i:Nat) (ks:List AK) (ms:List (Option MK)) (ds:List DC) (vs:List Value) (fp mb:List Nat),cO w ks ms ds vs fp mb→
  ∃E:List EN,(cG i ks ms ds).2=E.map (fun x=>(x.id,x.o))∧E.flatMap (·.φ)=mb∧∀(av:Nat→Prop) (β:Env),(∀x∈E,β.da x.id=x.da∧β.val x.id=x.val∧β.nb x.id=x.nb)→(∀b∈fp,¬av b)→
   (∀n,ji (cG i ks ms ds).1 n= .fG∨∃j v,n=i+j∧vs[j]? =some v∧aq w av β (ji (cG i ks ms ds).1 n) v)∧∀x∈E,x.ok w av β
 | i,[],ms,ds,vs,fp,mb,hm=>by
  simp only[cO] at hm
  obtain⟨rfl,rfl,rfl,rfl,rfl⟩:=hm
  exact⟨[],rfl,rfl,fun av β _ _=>⟨fun n=> .inl rfl,by simp⟩⟩
 | i,k::ks,ms,ds,vs,fp,mb,hm=>by
  simp only[cO] at hm
  obtain⟨m,ms,d1,d2,v,vs,f1,f2,b1,b2,rfl,rfl,rfl,ha,hm,rfl,rfl⟩:=hm
  obtain⟨E,e1,e2,e3⟩:=Dl (i+1) ks ms d2 vs f2 b2 hm
  have step:∀(av:Nat→Prop) (β:Env) (s:SV) (l:List (Nat×SV)),(∀n,ji l n= .fG∨∃j u,n=i+1+j∧vs[j]? =some u∧aq w av β (ji l n) u)→aq w av β s v→
    ∀n,ji ((i,s)::l) n= .fG∨∃j u,n=i+j∧(v::vs)[j]? =some u∧aq w av β (ji ((i,s)::l) n) u:=by
   intro av β s l hl hs n
   simp only[ji]
   cases hk:Nat.beq i n
   ·simp only[aQ]
    rcases hl n with h3 | ⟨j,u,hn,hj,hu⟩
    ·exact .inl h3
    ·exact .inr ⟨j+1,u,by omega,by simpa using hj,hu⟩
   ·have:=aM hk
    subst this
    simp only[aj]
    exact .inr ⟨0,v,rfl,rfl,hs⟩
  cases m with
  | none=>
   simp only[gx] at ha
   obtain⟨ha,rfl⟩:=ha
   have hl:d1.length=k.bI.length:=by
    obtain⟨us,_,_,hr,_⟩:=ha
    exact bf.length _ _ _ _ hr
   have mV:(d1++d2).drop k.bI.length=d2:=by rw[←hl,List.drop_left]
   refine⟨E,by simp only[cG,List.headD_cons,List.tail_cons,mV,e1],by simpa using e2,fun av β hb Bp=> ?_⟩
   obtain⟨k1,k2⟩:=e3 av β hb (fun b hb=>Bp b (aK _ hb))
   refine⟨?_,k2⟩
   simp only[cG,List.headD_cons,List.tail_cons,mV]
   refine step av β _ _ k1 ?_
   rw[iJ _ _ _ _ (by omega)]
   exact Ee ha (fun b hb=>Bp b (aT _ hb))
  | some m=>
   cases m with
   | box t=>
    simp only[gx] at ha
    obtain⟨g,us,rfl,hg,bk,hr,M4,rfl⟩:=ha
    have hl:d1.length=k.bI.length:=bf.length _ _ _ _ hr
    have mV:(d1++d2).drop k.bI.length=d2:=by rw[←hl,List.drop_left]
    refine⟨⟨pid i 0,.box t (cr k.bI d1 0),g,undef,[g],[]⟩::E, ?_,by simp [e2],fun av β hb Bp=> ?_⟩
    ·simp only[cG,List.headD_cons,List.tail_cons,mV,e1,List.map_cons]
     rw[iJ _ _ _ _ (by omega)]
    ·obtain⟨k1,k2⟩:=e3 av β (fun x hx=>hb x (List.mem_cons_of_mem _ hx)) (fun b hb=>Bp b (aK _ hb))
     have Aj:=(hb _ (List.mem_cons_self ..)).1
     simp only at Aj
     refine⟨?_,fun x hx=> ?_⟩
     ·simp only[cG,List.headD_cons,List.tail_cons,mV]
      refine step av β _ _ k1 ?_
      simp only[aq,Aj]
     ·rcases List.mem_cons.1 hx with rfl | hx
      ·obtain⟨cR,l1,l2,l3,l4⟩:=bf.bT (β:=β) (av:=av) hr (fun b hb=>Bp b (aT _ hb)) k.bI.length 0 (by omega)
       have ee:cR=us:=by
        apply List.ext_getElem?
        intro j
        by_cases hj:j<cR.length
        ·have:=l2 j cR[j] (by simp)
         simp only[Nat.zero_add] at this
         rw[this]
         simp
        ·rw[List.getElem?_eq_none (by omega),List.getElem?_eq_none (by omega)]
       subst ee
       simp only[List.drop_zero,List.take_length] at l3
       exact⟨⟨cR,by rw[Aj];exact hg,l3,bk,by simp only[Aj]⟩,by simp only[ar,Aj]⟩
      ·exact k2 x hx
   | rows ts=>
    simp only[gx] at ha
    obtain⟨us,gu,bk,kW,rfl⟩:=ha
    obtain⟨E1,a1,a2,a3⟩:=cJ (i:=i) 0 k.bI ts d1 us b1 kW
    have hl:d1.length=k.bI.length:=aZ.length _ _ _ _ _ kW
    have mV:(d1++d2).drop k.bI.length=d2:=by rw[←hl,List.drop_left]
    have GH:aI i 0 k.bI ts (d1++d2)=aI i 0 k.bI ts d1:=eH _ _ _ _ _ (by omega)
    refine⟨E1++E, ?_,by simp [a2,e2],fun av β hb Bp=> ?_⟩
    ·simp only[cG,List.headD_cons,List.tail_cons,mV,GH,e1,a1,List.map_append]
    ·obtain⟨k1,k2⟩:=e3 av β (fun x hx=>hb x (aK _ hx)) (fun b hb=>Bp b (by simpa using hb))
     obtain⟨c1,c2⟩:=a3 av β (fun x hx=>hb x (aT _ hx))
     refine⟨?_,fun x hx=> ?_⟩
     ·simp only[cG,List.headD_cons,List.tail_cons,mV,GH]
      refine step av β _ _ k1 ?_
      cases hk:k.agg with
      | true=>
       rw[hk] at gu
       simp only[aj] at gu ⊢
       simp only[aq]
       exact⟨us,gu,c1,bk⟩
      | false=>
       rw[hk] at gu
       simp only[aQ] at gu ⊢
       rw[gu.1] at c1
       generalize (aI i 0 k.bI ts d1).1=q at c1
       cases q with
       | nil=>simp [ah] at c1
       | cons y l=>
        simp only[ah] at c1
        obtain⟨v',l',e0,e5,_⟩:=c1
        injection e0 with e0
        subst e0
        simpa using e5
     ·rcases List.mem_append.1 hx with hx | hx
      ·exact c2 x hx
      ·exact k2 x hx
   | jD ts=>
    simp only[gx] at ha
    obtain⟨us,gu,bk,kW,rfl⟩:=ha
    obtain⟨E1,a1,a2,a3⟩:=cJ (i:=i) 0 k.bI ts d1 us b1 kW
    have hl:d1.length=k.bI.length:=aZ.length _ _ _ _ _ kW
    have mV:(d1++d2).drop k.bI.length=d2:=by rw[←hl,List.drop_left]
    have GH:aI i 0 k.bI ts (d1++d2)=aI i 0 k.bI ts d1:=eH _ _ _ _ _ (by omega)
    refine⟨E1++E, ?_,by simp [a2,e2],fun av β hb Bp=> ?_⟩
    ·simp only[cG,List.headD_cons,List.tail_cons,mV,GH,e1,a1,List.map_append]
    ·obtain⟨k1,k2⟩:=e3 av β (fun x hx=>hb x (aK _ hx)) (fun b hb=>Bp b (by simpa using hb))
     obtain⟨c1,c2⟩:=a3 av β (fun x hx=>hb x (aT _ hx))
     refine⟨?_,fun x hx=> ?_⟩
     ·simp only[cG,List.headD_cons,List.tail_cons,mV,GH]
      refine step av β _ _ k1 ?_
      cases hk:k.agg with
      | true=>
       rw[hk] at gu
       simp only[aj] at gu ⊢
       simp only[aq]
       exact⟨us,gu,c1,bk⟩
      | false=>
       rw[hk] at gu
       simp only[aQ] at gu ⊢
       rw[gu.1] at c1
       generalize (aI i 0 k.bI ts d1).1=q at c1
       cases q with
       | nil=>simp [ah] at c1
       | cons y l=>
        simp only[ah] at c1
        obtain⟨v',l',e0,e5,_⟩:=c1
        injection e0 with e0
        subst e0
        simpa using e5
     ·rcases List.mem_append.1 hx with hx | hx
      ·exact c2 x hx
      ·exact k2 x hx
   | cP t ts=>
    simp only[gx] at ha
    obtain⟨g,us,mm,rfl,hg,bk,kW,rfl,rfl⟩:=ha
    obtain⟨E1,a1,a2,a3⟩:=cJ (i:=i) 0 k.bI ts d1 us mm kW
    have hl:d1.length=k.bI.length:=aZ.length _ _ _ _ _ kW
    have mV:(d1++d2).drop k.bI.length=d2:=by rw[←hl,List.drop_left]
    have GH:aI i 0 k.bI ts (d1++d2)=aI i 0 k.bI ts d1:=eH _ _ _ _ _ (by omega)
    refine⟨⟨pid i 62,.box t (aI i 0 k.bI ts d1).1,g,undef,[g],[]⟩::(E1++E), ?_,by simp [a2,e2],fun av β hb Bp=> ?_⟩
    ·simp only[cG,List.headD_cons,List.tail_cons,mV,GH,e1,a1,List.map_append,List.map_cons]
    ·obtain⟨k1,k2⟩:=e3 av β (fun x hx=>hb x (List.mem_cons_of_mem _ (aK _ hx))) (fun b hb=>Bp b (by simpa using hb))
     obtain⟨c1,c2⟩:=a3 av β (fun x hx=>hb x (List.mem_cons_of_mem _ (aT _ hx)))
     have Aj:=(hb _ (List.mem_cons_self ..)).1
     simp only at Aj
     refine⟨?_,fun x hx=> ?_⟩
     ·simp only[cG,List.headD_cons,List.tail_cons,mV,GH]
      refine step av β _ _ k1 ?_
      simp only[aq,Aj]
     ·rcases List.mem_cons.1 hx with rfl | hx
      ·exact⟨⟨us,by rw[Aj];exact hg,c1,bk,by simp only[Aj]⟩,by simp only[ar,Aj]⟩
      ·rcases List.mem_append.1 hx with hx | hx
       ·exact c2 x hx
       ·exact k2 x hx
theorem aZ.lt:∀(cs:List CT) (ts:List TT) (ds:List DC) (us:List Value) (mb:List Nat),aZ w cs ts ds us mb→∀b∈mb,b<w.heap.size
 | [],ts,ds,us,mb,h=>by simp only[aZ] at h;simp [h.2.2.2]
 | .sl e::cs,ts,ds,us,mb,h=>by
  simp only[aZ] at h
  obtain⟨t,ea,rows,bc,v,aW,m1,gw,rfl,rfl,rfl,h1,h,rfl⟩:=h
  intro b hb
  rcases List.mem_append.1 hb with hb | hb
  ·exact h1.lt b hb
  ·exact aZ.lt cs ea bc aW gw h b hb
 | .int k::cs,ts,ds,us,mb,h=>by
  simp only[aZ] at h
  obtain⟨d,bc,v,aW,rfl,rfl,_,h⟩:=h
  exact aZ.lt cs ts bc aW mb h
 | .bool::cs,ts,ds,us,mb,h=>by
  simp only[aZ] at h
  obtain⟨d,bc,v,aW,rfl,rfl,_,h⟩:=h
  exact aZ.lt cs ts bc aW mb h
 | .str::cs,ts,ds,us,mb,h=>by
  simp only[aZ] at h
  obtain⟨d,bc,v,aW,rfl,rfl,_,h⟩:=h
  exact aZ.lt cs ts bc aW mb h
theorem cO.facts:∀(ks:List AK) (ms:List (Option MK)) (ds:List DC) (vs:List Value) (fp mb:List Nat),cO w ks ms ds vs fp mb→(∀b∈mb,b<w.heap.size)∧(∀b∈fp,b<w.heap.size)∧vs.length=ks.length
 | [],ms,ds,vs,fp,mb,h=>by
  simp only[cO] at h
  obtain⟨_,_,rfl,rfl,rfl⟩:=h
  simp
 | k::ks,ms,ds,vs,fp,mb,h=>by
  simp only[cO] at h
  obtain⟨m,D7,d1,d2,v,cR,f1,f2,b1,b2,rfl,rfl,rfl,ha,h,rfl,rfl⟩:=h
  obtain⟨k1,k2,k3⟩:=cO.facts ks D7 d2 cR f2 b2 h
  have one:(∀b∈b1,b<w.heap.size)∧∀b∈f1,b<w.heap.size:=by
   cases m with
   | none=>
    simp only[gx] at ha
    obtain⟨⟨us,_,_,hr,_⟩,rfl⟩:=ha
    exact⟨by simp,bf.lt _ _ _ _ hr⟩
   | some m=>
    cases m with
    | box t=>
     simp only[gx] at ha
     obtain⟨g,us,_,hg,_,hr,_,rfl⟩:=ha
     refine⟨fun b hb=> ?_,bf.lt _ _ _ _ hr⟩
     simp only[List.mem_singleton] at hb
     subst hb
     exact (Array.getElem?_eq_some_iff.1 hg).1
    | rows ts=>
     simp only[gx] at ha
     obtain⟨us,_,_,kW,rfl⟩:=ha
     exact⟨aZ.lt _ _ _ _ _ kW,by simp⟩
    | jD ts=>
     simp only[gx] at ha
     obtain⟨us,_,_,kW,rfl⟩:=ha
     exact⟨aZ.lt _ _ _ _ _ kW,by simp⟩
    | cP t ts=>
     simp only[gx] at ha
     obtain⟨g,us,mm,_,hg,_,kW,rfl,rfl⟩:=ha
     refine⟨fun b hb=> ?_,by simp⟩
     rcases List.mem_cons.1 hb with rfl | hb
     ·exact (Array.getElem?_eq_some_iff.1 hg).1
     ·exact aZ.lt _ _ _ _ _ kW b hb
  refine⟨fun b hb=> ?_,fun b hb=> ?_,by simp [k3]⟩
  ·rcases List.mem_append.1 hb with hb | hb
   ·exact one.1 b hb
   ·exact k1 b hb
  ·rcases List.mem_append.1 hb with hb | hb
   ·exact one.2 b hb
   ·exact k2 b hb
theorem mc {E:List EN} (h:(E.flatMap (·.φ)).Nodup):(∀x∈E,x.φ.Nodup)∧∀x∈E,∀y∈E,x≠y→∀b∈x.φ,b ∉ y.φ:=by
 induction E with
 | nil=>simp
 | cons z l ih=>
  rw[List.flatMap_cons,List.nodup_append] at h
  obtain⟨h1,h2,h3⟩:=h
  obtain⟨i1,i2⟩:=ih h2
  refine⟨fun x hx=> ?_,fun x hx y hy Aq b hb aB=> ?_⟩
  ·rcases List.mem_cons.1 hx with rfl | hx
   ·exact h1
   ·exact i1 x hx
  ·rcases List.mem_cons.1 hx with BQ | BQ<;>rcases List.mem_cons.1 hy with BR | BR
   ·exact Aq (BQ.trans BR.symm)
   ·subst BQ
    exact h3 b hb b (List.mem_flatMap.2 ⟨y,BR,aB⟩) rfl
   ·subst BR
    exact h3 b aB b (List.mem_flatMap.2 ⟨x,BQ,hb⟩) rfl
   ·exact i2 x BQ y BR Aq b hb aB
theorem fu.count {w:World} :∀(BZ:List RK) (ds:List DC) (vs:List Value) (φ im tp:List Nat),fu w BZ ds vs φ im tp→ds.length=cv BZ
 | [],ds,vs,φ,im,tp,h=>by simp only[fu] at h;simp [h.1,cv]
 | r::rs,ds,vs,φ,im,tp,h=>by
  simp only[fu] at h
  obtain⟨d1,d2,v,cR,us,D1,Bl,i1,i2,t1,t2,rfl,rfl,_,_,h1,h2,_⟩:=h
  simp only[fv,cv,dr.length _ _ _ _ _ _ h1,fu.count rs d2 cR _ _ _ h2]
theorem aZ.wt:∀(cs:List CT) (ts:List TT) (ds:List DC) (us:List Value) (mb:List Nat),aZ w cs ts ds us mb→kd cs ds
 | [],ts,ds,us,mb,h=>by simp only[aZ] at h;simp only[kd];exact h.2.1
 | .sl e::cs,ts,ds,us,mb,h=>by
  simp only[aZ] at h
  obtain⟨t,ea,rows,bc,v,aW,m1,gw,rfl,rfl,rfl,EF,h,_⟩:=h
  obtain⟨tt,vals,aE,h1,h2⟩:=EF.reads
  simp only[kd,G5]
  refine⟨_,_,rfl,⟨rows,rfl, ?_,fun r hr=> ?_⟩,aZ.wt cs ea bc aW gw h⟩
  ·rcases h1.2 with ⟨_,hn,_⟩ | ⟨g,cap,cur,_,_,h3,h4,_⟩
   ·rw[hn];exact Nat.zero_le _
   ·omega
  ·obtain⟨i,hi,rfl⟩:=List.getElem_of_mem hr
   have dY:i<aE.length:=by have:=h2.1;omega
   exact bf.wt e _ _ _ (h2.2 i rows[i] aE[i] (by simp) (by simp [dY]))
 | .int k::cs,ts,ds,us,mb,h=>by
  simp only[aZ] at h
  obtain⟨d,bc,v,aW,rfl,rfl,h1,h⟩:=h
  simp only[kd]
  exact⟨d,bc,rfl,cd.wt _ _ _ _ h1,aZ.wt cs ts bc aW mb h⟩
 | .bool::cs,ts,ds,us,mb,h=>by
  simp only[aZ] at h
  obtain⟨d,bc,v,aW,rfl,rfl,h1,h⟩:=h
  simp only[kd]
  exact⟨d,bc,rfl,cd.wt _ _ _ _ h1,aZ.wt cs ts bc aW mb h⟩
 | .str::cs,ts,ds,us,mb,h=>by
  simp only[aZ] at h
  obtain⟨d,bc,v,aW,rfl,rfl,h1,h⟩:=h
  simp only[kd]
  exact⟨d,bc,rfl,cd.wt _ _ _ _ h1,aZ.wt cs ts bc aW mb h⟩
theorem cO.wt:∀(ks:List AK) (ms:List (Option MK)) (ds:List DC) (vs:List Value) (fp mb:List Nat),cO w ks ms ds vs fp mb→kd (hD ks) ds
 | [],ms,ds,vs,fp,mb,h=>by
  simp only[cO] at h
  simp only[hD,kd]
  exact h.2.1
 | k::ks,ms,ds,vs,fp,mb,h=>by
  simp only[cO] at h
  obtain⟨m,D7,d1,d2,v,cR,f1,f2,b1,b2,rfl,rfl,rfl,ha,h,_⟩:=h
  refine kd.append ?_ (cO.wt ks D7 d2 cR f2 b2 h)
  cases m with
  | none=>
   simp only[gx] at ha
   obtain⟨⟨us,_,_,hr,_⟩,_⟩:=ha
   exact bf.wt _ _ _ _ hr
  | some m=>
   cases m with
   | box t=>
    simp only[gx] at ha
    obtain⟨g,us,_,_,_,hr,_⟩:=ha
    exact bf.wt _ _ _ _ hr
   | rows ts=>
    simp only[gx] at ha
    obtain⟨us,_,_,kW,_⟩:=ha
    exact aZ.wt _ _ _ _ _ kW
   | jD ts=>
    simp only[gx] at ha
    obtain⟨us,_,_,kW,_⟩:=ha
    exact aZ.wt _ _ _ _ _ kW
   | cP t ts=>
    simp only[gx] at ha
    obtain⟨g,us,mm,_,_,_,kW,_⟩:=ha
    exact aZ.wt _ _ _ _ _ kW
def D6:List EN→Nat→Option EN
 | [],_=>none
 | x::l,i=>if i=x.id then some x else D6 l i
theorem jQ {E:List EN} {j:Nat} {x:EN} (h:D6 E j=some x):x∈E∧x.id=j:=by
 induction E with
 | nil=>simp [D6] at h
 | cons y l ih=>
  simp only[D6] at h
  split at h
  ·rename_i hj
   injection h with h
   subst h
   exact⟨List.mem_cons_self ..,hj.symm⟩
  ·obtain⟨h1,h2⟩:=ih h
   exact⟨List.mem_cons_of_mem _ h1,h2⟩
theorem Fi {E:List EN} {x:EN} (hx:x∈E) (hn:(E.map (·.id)).Nodup):D6 E x.id=some x:=by
 induction E with
 | nil=>simp at hx
 | cons y l ih=>
  simp only[List.map_cons,List.nodup_cons] at hn
  simp only[D6]
  rcases List.mem_cons.1 hx with rfl | hx
  ·simp
  ·have:x.id≠y.id:=fun e=>hn.1 (e ▸ List.mem_map_of_mem hx)
   rw[if_neg this]
   exact ih hx hn.2
theorem BT {E:List EN} {j:Nat} {o:ao} (h:dN (E.map fun x=>(x.id,x.o)) j=some o):∃x,D6 E j=some x∧x.o=o:=by
 induction E with
 | nil=>simp [dN] at h
 | cons y l ih=>
  simp only[List.map_cons,dN] at h
  simp only[D6]
  cases hb:Nat.beq y.id j
  ·rw[hb] at h
   rw[if_neg (fun e=>Nat.ne_of_beq_eq_false hb e.symm)]
   exact ih h
  ·rw[hb] at h
   have:=aM hb
   subst this
   simp only[aj,aa] at h
   exact⟨y,by simp,h⟩
theorem Dd {fn:Func} {s:Sum} {st:St} {r:List DC} (h:mQ P fn s st=(true,r)):st.ok=true:=by
 unfold mQ at h
 split at h
 ·simp only[Prod.mk.injEq,aw] at h
  exact h.1.1.1
 ·exact absurd h bO
theorem Ah {fn:Func} {s:Sum} {st:St} {r:List DC} {w w':World} {ds:List DC} {vals:List Value} {fp mb:List Nat} {a:Act} (A3:shares s=false) (hm:cO w s.ps s.ms ds vals fp mb)
  (h:mQ P fn s st=(true,r)) (hR:Rel w ⟨fun b=>b∈mb,fun b=>b<w.heap.size∧b ∉ fp∧b ∉ mb,(vals.zipIdx.filter (fun x=>Nat.blt x.2 (lA s.ms))).map (fun x=>(x.2,x.1))⟩ st a w'):
  a.defers=[]∧∃v,(results fn a.tmps).run P w'= .ok v w'∧∃vs φ im tp mO rd od ψ,Ending.returned v= .returned (pack vs)∧r=rd++od∧rd.length=cv s.rs∧Kept ⟨fun b=>b∈mb,fun _=>False,[]⟩ w w'∧fu w' s.rs rd vs φ im tp∧φ.Nodup∧
   (∀b∈φ,(b∈mb∨w.heap.size≤b)∧b<w'.heap.size)∧lR w' s.ps s.ms od vals mO ψ∧ψ.Nodup∧(∀b∈ψ,(b∈mb∨w.heap.size≤b)∧b<w'.heap.size∧b ∉ φ)∧∀b∈mO,(b∈fp∨w.heap.size≤b)∧b ∉ tp∧b ∉ ψ∧ff s.ms=false:=by
 obtain⟨_,_,A4⟩:=cO.facts _ _ _ _ _ _ hm
 unfold mQ at h
 split at h
 case h_2=>exact absurd h bO
 rename_i rd own im od ids x hr
 simp only[Prod.mk.injEq,aw] at h
 obtain⟨⟨⟨_,bd⟩,EV⟩,rfl⟩:=h
 obtain⟨β,φ,hc⟩:=hR.core
 have hval:=M.eE _ hr
 simp only[M.ag,af,M.ab,aa,Prod.mk.injEq] at hval
 obtain⟨ss,h1,q,h2,q2,h3,e1,e2⟩:=hval
 subst e1
 subst e2
 obtain⟨vs,g1,g2⟩:=iN hc _ _ h1
 obtain⟨φ',Fb,Bk,k1,k2,k3,k4,k5⟩:=jc hc _ _ _ _ g2 h2
 have Mp:∀(j:Nat) v m,vals[j]? =some v→s.ms[j]? =some (some m)→a.tmps.getD (0+j) undef=v:=by
  intro j v m hj hm
  have:=(hR.fx (j,v) (List.mem_map.2 ⟨(v,j),List.mem_filter.2 ⟨by rw[List.mem_zipIdx_iff_getElem?];exact hj,Nat.ble_eq_true_of_le (Dr hm)⟩,rfl⟩)).2
  simpa using this
 obtain⟨mO,ψ,o1,o2,o4,o5,o6,o3⟩:=iK hc 0 s.ps s.ms vals _ Mp A4 h3
 have hnd:=fB bd
 rw[List.nodup_append] at hnd
 have Jp:∀b∈ψ,∀i∈own,∀o,st.obj i=some o→b ∉ φ i:=by
  intro b hb i hi o Ci mi
  obtain⟨id,dZ,o',ec,jH⟩:=o5 b hb
  have cQ:i≠id:=fun e=>hnd.2.2 i hi id dZ e
  exact absurd (ak (hc.aC _ _ ec) b jH) (hc.sep i id o o' cQ Ci ec b mi)
 have HM:∀b∈ψ,b ∉ φ':=by
  intro b hb fK
  obtain⟨i,hi,⟨o,Ci⟩,mi⟩:=k2 b fK
  exact Jp b hb i hi o Ci mi
 have Jo:∀b∈ψ,Av st.obj β b:=fun b hb=>by
  obtain⟨id,dZ,o',ec,jH⟩:=o5 b hb
  exact .inl ⟨id,o',ec,jH⟩
 have AY:∀b∈mO,b<w.heap.size→b ∉ fp→False:=by
  intro b hb cz hf
  rcases Bool.or_eq_true_iff.1 EV with Kz | Kz
  ·have GK:∀b∈mb,∃id∈ids,∃o,st.obj id=some o∧b∈ar β id o:=o3 Kz w ds fp mb hm
   have cX:=o2 b hb
   have I1:b ∉ mb:=fun Iu=>by
    obtain⟨id,dZ,o',ec,jH⟩:=GK b Iu
    exact cX (.inl ⟨id,o',ec,jH⟩)
   refine absurd (.inr ?_) cX
   rw[hc.bars]
   exact⟨cz,hf,I1⟩
  ·rw[o4 Kz] at hb
   simp at hb
 refine⟨hR.defers,pack vs,lf g1,vs,φ',Fb,Bk,mO,rd,od,ψ,rfl,rfl,fu.count _ _ _ _ _ _ k1,⟨hR.kept.os,hR.kept.tape,hR.kept.output,hR.kept.size,hR.kept.block⟩,k1,k4 hnd.1, ?_,o1,o6 hnd.2.1, ?_, ?_⟩
 ·intro b hb
  obtain⟨i,hi,⟨o,Ci⟩,mi⟩:=k2 b hb
  have hf:=(hc.fresh i o Ci).2 b mi
  exact⟨hf.1.symm,hf.2⟩
 ·intro b hb
  obtain⟨id,dZ,o',ec,jH⟩:=o5 b hb
  have hf:=(hc.fresh id o' ec).2 b (ak (hc.aC _ _ ec) b jH)
  exact⟨hf.1.symm,hf.2,HM b hb⟩
 ·intro b hb
  have cX:=o2 b hb
  refine⟨?_,fun jH=> ?_,fun Kf=>cX (Jo b Kf), ?_⟩
  ·by_cases cz:b<w.heap.size
   ·by_cases hf:b∈fp
    ·exact .inl hf
    ·exact (AY b hb cz hf).elim
   ·exact .inr (by omega)
  ·obtain⟨j,oj,_,hj,bz⟩:=k3 b jH
   exact cX (.inl ⟨j,oj,hj,bz⟩)
  ·cases js:ff s.ms with
   | false=>rfl
   | true=>
    rw[o4 js] at hb
    simp at hb
theorem FL (fa:bN P Γ) {g:Nat} {fn:Func} {s:Sum} (hf:P.funcs[g]? =some fn) (Hi:fn.body.isSome=true) (hn:(fn.name== "runtime.NumGoroutine")=false) (hlen:s.ps.length≤fn.ntmps) (GN:fn.ntmps<1099511627776)
  (A3:shares s=false) (dZ:∀ds,fb ((cG 0 s.ps s.ms ds).2.map (·.1))=true)
  (h:∀ds,kd (hD s.ps) ds→(s.fn ds).1=true→∃N,G1 P Γ A N fn s ds=(true,(s.fn ds).2)):Cm P g s:=by
 refine⟨⟨fn,hf,Hi,hn⟩,fun w ds vals fp mb cD IQ KG aP=> ?_⟩
 obtain⟨N,bA⟩:=h ds (cO.wt _ _ _ _ _ _ cD) aP
 obtain⟨c,hc⟩:=Option.isSome_iff_exists.1 Hi
 unfold G1 at bA
 rw[hc] at bA
 simp only at bA
 obtain⟨KI,Mo,A4⟩:=cO.facts _ _ _ _ _ _ cD
 refine calls_of_wp hf hc ?_
 let S:Own:=⟨fun b=>b∈mb,fun b=>b<w.heap.size∧b ∉ fp∧b ∉ mb,(vals.zipIdx.filter (fun x=>Nat.blt x.2 (lA s.ms))).map (fun x=>(x.2,x.1))⟩
 obtain⟨E,e1,e2,e3⟩:=Dl 0 s.ps s.ms ds vals fp mb cD
 have Ku:(E.map (·.id)).Nodup:=by
  have:=fB (dZ ds)
  rw[e1,List.map_map] at this
  exact this
 let β:Env:=⟨fun j=>match D6 E j with | some x=>x.da | none=>0,fun j=>match D6 E j with | some x=>x.val | none=>undef,S.gN,fun j=>match D6 E j with | some x=>x.nb | none=>[]⟩
 have gv:∀x∈E,β.da x.id=x.da∧β.val x.id=x.val∧β.nb x.id=x.nb:=by
  intro x hx
  simp only[β,Fi hx Ku,and_self]
 have Fa:∀x∈E,∀b∈x.φ,b∈mb:=fun x hx b hb=>by rw[←e2];exact List.mem_flatMap.2 ⟨x,hx,hb⟩
 have An:∀x∈E,ar β x.id x.o=x.φ:=fun x hx=>((e3 (fun _=>False) β gv (fun _ _ h=>h)).2 x hx).2
 have Hz:∀b∈fp,¬Av (dN (cG 0 s.ps s.ms ds).2) β b:=by
  rintro b hb (⟨j,o,ho,jH⟩ | hx)
  ·rw[e1] at ho
   obtain⟨x,hx,rfl⟩:=BT ho
   obtain⟨hm,rfl⟩:=jQ hx
   rw[An x hm] at jH
   exact KG b (Fa x hm b jH) hb
  ·exact hx.2.1 hb
 obtain⟨kv,aS⟩:=e3 (Av (dN (cG 0 s.ps s.ms ds).2) β) β gv Hz
 have hR:Rel w S {n:=fn.ntmps+lA s.ms*1099511627776,sl:=(cG 0 s.ps s.ms ds).1,hp:=(cG 0 s.ps s.ms ds).2,ok:=true,ls:=[],lm:=[]} {tmps:=vals.toArray++Array.replicate (fn.ntmps - vals.toArray.size) undef,defers:=[]} w:=by
  have mW:∀(j:Nat) v,vals[j]? =some v→(vals.toArray++Array.replicate (fn.ntmps - vals.toArray.size) undef).getD j undef=v:=by
   intro j v hj
   have Hu:j<vals.length:=(List.getElem?_eq_some_iff.1 hj).1
   rw[Array.getD_eq_getD_getElem?,Array.getElem?_append_left (by simp;omega)]
   simp [hj]
  refine⟨by simp;omega, ?_,rfl,⟨rfl,rfl,rfl,Nat.le_refl _,fun _ _ _=>rfl⟩,β,fun j=>match D6 E j with | some x=>x.φ | none=>[], ?_⟩
  ·intro x hx
   obtain⟨⟨v,j⟩,Jh,rfl⟩:=List.mem_map.1 hx
   obtain⟨Jh,KB⟩:=List.mem_filter.1 Jh
   have KB:j<lA s.ms:=Nat.le_of_ble_eq_true KB
   rw[List.mem_zipIdx_iff_getElem?] at Jh
   have Hu:j<vals.length:=(List.getElem?_eq_some_iff.1 Jh).1
   exact⟨by simp only;omega,mW j v Jh⟩
  ·refine⟨fun i=> ?_,fun id o ho=> ?_,fun id o ho=> ?_,fun i j oi oj cQ hi hj b hb=> ?_,fun b hb=>⟨hb.1,hb.2.2⟩,rfl⟩
   ·rcases kv i with h1 | ⟨j,v,hi,hj,hs⟩
    ·show aq w _ _ (ji (cG 0 s.ps s.ms ds).1 i) _
     rw[h1]
     simp [aq]
    ·have:i=j:=by omega
     subst this
     rw[mW i v hj]
     exact hs
   ·have ec:dN (cG 0 s.ps s.ms ds).2 id=some o:=ho
    rw[e1] at ec
    obtain⟨x,hx,rfl⟩:=BT ec
    obtain⟨hm,rfl⟩:=jQ hx
    simp only[hx]
    exact (aS x hm).1
   ·have ec:dN (cG 0 s.ps s.ms ds).2 id=some o:=ho
    rw[e1] at ec
    obtain⟨x,hx,rfl⟩:=BT ec
    obtain⟨hm,rfl⟩:=jQ hx
    simp only[hx]
    refine⟨?_,fun b hb=>⟨.inr (Fa x hm b hb),KI b (Fa x hm b hb)⟩⟩
    exact (mc (E:=E) (by rw[e2];exact IQ)).1 x hm
   ·have dY:dN (cG 0 s.ps s.ms ds).2 i=some oi:=hi
    have gi:dN (cG 0 s.ps s.ms ds).2 j=some oj:=hj
    rw[e1] at dY gi
    obtain⟨x,hx,rfl⟩:=BT dY
    obtain⟨y,hy,rfl⟩:=BT gi
    simp only[hx] at hb
    simp only[hy]
    have Jj:=jQ hx
    have JX:=jQ hy
    have Aq:x≠y:=by
     rintro rfl
     exact cQ (Jj.2.symm.trans JX.2)
    exact (mc (E:=E) (by rw[e2];exact IQ)).2 x Jj.1 y JX.1 Aq b hb
 refine cU (r:=(s.fn ds).2) fa c _ {eW:=mQ P fn s,ext:=fun _ _=>kf,ret:=mQ P fn s} _ w _ ⟨fun st ic=>Dd ic,fun i st ic=>absurd ic bO,fun st ic=>Dd ic⟩ hR bA ⟨?_, ?_, ?_⟩
 ·intro st a w' eZ ic
  exact Ah A3 cD ic eZ
 ·intro i st a w' _ ic
  exact absurd ic bO
 ·intro st a w' eZ ic
  exact Ah A3 cD ic eZ
end
end Go.Proofs.YtnlkklmcfafgeaaGreat.Vm
namespace Go.Proofs.YtnlkklmcfafgeaaGreat.Vm
def Lm (P:Program) (Γ:Ctx) (A:List (Nat×lE)) (N:Nat) (fn:Func) (s:Sum) (p:List Bool) (is:List (St→kM)) (ih:St→kM) (st:St):kM:=
 match fn.body with
 | some c=>match focus P Γ A N p is c {eW:=mQ P fn s,ext:=fun _ _=>kf,ret:=mQ P fn s} with
  | (.loop a,K)=>match (dz a).bind (Jr A) with
   | some an=>run P Γ A N a st {eW:=fun s'=>ih (canon P an s'),ext:=K.ext,ret:=K.ret}
   | none=>kf
  | _=>kf
 | none=>kf
end Go.Proofs.YtnlkklmcfafgeaaGreat.Vm
