/- The value machine: runs, loops, contracts out of runs. Conditions: as each lemma says. -/
import Derived.Test.YtngbcccnjiaddaaGreatVc
import Derived.LoopN
set_option linter.unusedVariables false
set_option linter.unusedSimpArgs false
namespace Go.Proofs.YtngbcccnjiaddaaGreat.Vm
section
variable {P:Program} {Γ:Ctx} {w0:World} {S:Own} {ops:Array Oper} {gs:List Nat}
theorem gz {i:Nat} :∀ {l m:List Nat},i∈iA l m→i∈l∨i∈m
 | [],m,h=> .inr h
 | k::l,m,h=>by
  simp only[iA] at h
  cases hk:il k m
  ·simp only[hk,cond_false,List.mem_cons] at h
   rcases h with rfl | h
   ·exact .inl (List.mem_cons_self ..)
   ·exact (gz h).imp (List.mem_cons_of_mem _) id
  ·simp only[hk,cond_true] at h
   exact (gz h).imp (List.mem_cons_of_mem _) id
def lQ (ops:Array Oper) (L:Nat→Bool) (k:Nat):Prop:=∀o,ops[k]? =some o→∀e∈o.after,Region.binds .any e=true→L e.on=true
theorem km {acc:List (List Nat)} {j:Nat} :∀(l:List Edge),j∈l.foldr (fun e r=>bif Region.binds .any e then iA (iA [e.on] (acc.getD e.on [])) r else r) []→
  ∃e∈l,Region.binds .any e=true∧(j=e.on∨j∈acc.getD e.on [])
 | [],h=>by simp at h
 | e::l,h=>by
  simp only[List.foldr_cons] at h
  cases hb:Region.binds .any e
  ·simp only[hb,cond_false] at h
   obtain⟨x,hx,h1⟩:=km l h
   exact⟨x,List.mem_cons_of_mem _ hx,h1⟩
  ·simp only[hb,cond_true] at h
   rcases gz h with h | h
   ·refine⟨e,List.mem_cons_self ..,hb, ?_⟩
    rcases gz h with h | h
    ·exact .inl (by simpa using h)
    ·exact .inr h
   ·obtain⟨x,hx,h1⟩:=km l h
    exact⟨x,List.mem_cons_of_mem _ hx,h1⟩
theorem m8 {L:Nat→Bool} (Bm:∀k,L k=true→lQ ops L k):∀(l:List Oper) (acc:List (List Nat)) (pre:List Oper),ops.toList=pre++l→acc.length=pre.length→
  (∀k j,lQ ops L k→j∈acc.getD k []→L j=true)→∀k j,lQ ops L k→j∈(Cn l acc).getD k []→L j=true
 | [],acc,pre,_,_,h=>by simpa [Cn] using h
 | o::l,acc,pre,I2,hlen,h=>by
  rw[Cn]
  refine m8 Bm l _ (pre++[o]) (by simp [I2]) (by simp [hlen]) ?_
  intro k j hk hj
  rcases Nat.lt_trichotomy k acc.length with cn | heq | FV
  ·refine h k j hk ?_
   rw[List.getD_eq_getElem?_getD,List.getElem?_append_left cn] at hj
   rwa [List.getD_eq_getElem?_getD]
  ·subst heq
   rw[List.getD_eq_getElem?_getD,List.getElem?_append_right (Nat.le_refl _)] at hj
   simp only[Nat.sub_self,List.getElem?_cons_zero,Option.getD_some] at hj
   obtain⟨e,he,hb,hj⟩:=km _ hj
   have ho:ops[acc.length]? =some o:=by
    rw[←Array.getElem?_toList,I2,hlen]
    simp
   have hL:=hk o ho e (by simpa using he) hb
   rcases hj with rfl | hj
   ·exact hL
   ·exact h e.on j (Bm _ hL) hj
  ·rw[List.getD_eq_getElem?_getD,List.getElem?_eq_none (by simp;omega)] at hj
   simp at hj
theorem jz:∀(l:List Oper) (i:Nat),gr l i=true→∀k o,l[k]? =some o→∀e∈o.after,Region.binds .any e=true→e.on<i+k
 | [],_,_,k,o,h,_,_,_=>by simp at h
 | x::l,i,h,k,o,hk,e,he,hb=>by
  simp only[gr,Bool.and_eq_true,List.all_eq_true] at h
  cases k with
  | zero=>
   simp only[List.getElem?_cons_zero,Option.some.injEq] at hk
   subst hk
   have:=h.1 e (by simpa using he)
   rw[hb] at this
   simp only[Bool.not_true,Bool.false_or] at this
   exact Nat.le_of_ble_eq_true this
  | succ k=>
   simp only[List.getElem?_cons_succ] at hk
   have:=jz l (i+1) h.2 k o hk e he hb
   omega
theorem jX {an:List (List Nat)} {a:cu} :∀(l:List cu),lP an a l=true→∀b∈l,(dD a b=true→a.i∈an.getD b.i [])∧ki b a=false
 | [],_=>by simp
 | c::l,h=>by
  simp only[lP,Bool.and_eq_true,Bool.not_eq_true'] at h
  intro b hb
  rcases List.mem_cons.1 hb with rfl | hb
  ·refine⟨fun hc=> ?_,h.1.2⟩
   have:=h.1.1
   rw[hc] at this
   simp only[Bool.not_true,Bool.false_or] at this
   exact gb.1 this
  ·exact jX l h.2 b hb
theorem lT {an:List (List Nat)} :∀(l:List cu),lS an l=true→l.Pairwise (fun a b=>(dD a b=true→a.i∈an.getD b.i [])∧ki b a=false)
 | [],_=> .nil
 | a::l,h=>by
  simp only[lS,Bool.and_eq_true] at h
  exact .cons (jX l h.1) (lT l h.2)
theorem fW {l m:List Nat} {i:Nat} (h1:i∈l) (h2:i∈m):fV l m=true:=by
 induction m with
 | nil=>simp at h2
 | cons k m ih=>
  simp only[fV,Bool.or_eq_true]
  rcases List.mem_cons.1 h2 with rfl | h2
  ·exact .inl (gb.2 h1)
  ·exact .inr (ih h2)
theorem iv {rest:List Oper} {st:St} {l:List PS} {fin:St} (h:Path P Γ ops gs rest 0 st l fin) {p:PS} (hp:p∈l):l[p.i]? =some p∧rest[p.i]? =some p.o∧p.i<rest.length:=by
 obtain⟨k,hk,rfl⟩:=List.getElem_of_mem hp
 have h1:=(cr h).1
 have h2:=(cr h).2.1
 have hl:l.length=rest.length:=by rw[←h2];simp
 have e:l[k].i=k:=by
  have:(l.map (·.i))[k]? =(List.range' 0 rest.length)[k]? :=by rw[h1]
  rw[List.getElem?_map,List.getElem?_eq_getElem hk,List.getElem?_range' (by omega)] at this
  simpa using this
 rw[e]
 refine⟨List.getElem?_eq_getElem hk, ?_,by omega⟩
 rw[←h2,List.getElem?_map,List.getElem?_eq_getElem hk]
 rfl
theorem kC {rest:List Oper} {st:St} {l:List PS} {fin:St} {an:List (List Nat)} (h:Path P Γ ops gs rest 0 st l fin) (Cs:lS an (l.map (·.log))=true) {p q:PS} (hp:p∈l) (hq:q∈l) (cn:p.i<q.i):
  (dD p.log q.log=true→p.i∈an.getD q.i [])∧ki q.log p.log=false:=by
 have I7:=List.pairwise_map.1 (lT _ Cs)
 have gp:=(iv h hp).1
 have gq:=(iv h hq).1
 rw[List.pairwise_iff_getElem] at I7
 have lp:=(List.getElem?_eq_some_iff.1 gp).1
 have lq:=(List.getElem?_eq_some_iff.1 gq).1
 have:=I7 p.i q.i lp lq cn
 rw[(List.getElem?_eq_some_iff.1 gp).2,(List.getElem?_eq_some_iff.1 gq).2] at this
 have ei:=((cr h).2.2 p hp).1
 have ej:=((cr h).2.2 q hq).1
 rw[ei,ej] at this
 exact this
theorem A8 {p:PS} (hs:i7 P Γ ops p) {id:Nat} (ht:p.tH id):id∈p.log.wo:=by
 rcases hs with ⟨_,he,_,_⟩ | ⟨_,e,s,r,hr,_,hl,he⟩
 ·rw[PS.tH,he] at ht
  simp at ht
 ·rw[hl]
  simp only[bH,hr]
  have h1:p.e.ow=e.ow∧p.e.cw=e.cw:=by
   rcases he with rfl | ⟨d,g,_,_,he⟩
   ·exact⟨rfl,rfl⟩
   ·rw[he];exact⟨rfl,rfl⟩
  rw[PS.tH,h1.1,h1.2] at ht
  rcases ht with ht | ⟨off,bM,hc⟩
  ·exact List.mem_append_right _ ht
  ·rw[hc]
   exact List.mem_append_left _ (List.mem_singleton.2 rfl)
theorem HR {p:PS} (hs:i7 P Γ ops p) {j:Nat} (hj:j∈bU p.e.sv):j∈p.log.m:=by
 rcases hs with ⟨_,he,_,_⟩ | ⟨_,e,s,r,hr,_,hl,he⟩
 ·rw[he] at hj
  simp [bU] at hj
 ·rw[hl]
  simp only[bH,hr]
  rcases he with rfl | ⟨d,g,_,_,he⟩
  ·exact List.mem_append_left _ hj
  ·rw[he] at hj
   simp [bU] at hj
theorem Ge {ow:List (Nat×Option aj)} {id:Nat} {x:Option aj} (h:Gd ow id=some x):(id,x)∈ow:=by
 induction ow with
 | nil=>simp [Gd] at h
 | cons y l ih=>
  obtain⟨i,ob⟩:=y
  simp only[Gd] at h
  split at h
  ·rename_i hi
   subst hi
   simp only[Option.some.injEq] at h
   subst h
   exact List.mem_cons_self ..
  ·exact List.mem_cons_of_mem _ (ih h)
theorem HQ {p:PS} (hs:i7 P Γ ops p) {id:Nat} {ob:aj} (hj:(id,some ob)∈p.e.ow):id∈p.log.m∧∀j∈cD ob,j∈p.log.m:=by
 rcases hs with ⟨_,he,_,_⟩ | ⟨_,e,s,r,hr,_,hl,he⟩
 ·rw[he] at hj
  simp at hj
 ·rw[hl]
  simp only[bH,hr]
  have h1:p.e.ow=e.ow:=by
   rcases he with rfl | ⟨d,g,_,_,he⟩
   ·rfl
   ·rw[he]
  rw[h1] at hj
  unfold Cr
  constructor
  ·exact List.mem_append_right _ (List.mem_append_right _ (List.mem_flatMap.2 ⟨_,hj,List.mem_cons_self ..⟩))
  ·intro j f_
   exact List.mem_append_right _ (List.mem_append_right _ (List.mem_flatMap.2 ⟨_,hj,List.mem_cons_of_mem _ f_⟩))
theorem HP {p:PS} (hs:i7 P Γ ops p) {i off:Nat} {bM:List SV} (hc:p.e.cw=some (i,off,bM)):∀j∈bR bM,j∈p.log.m:=by
 rcases hs with ⟨_,he,_,_⟩ | ⟨_,e,s,r,hr,_,hl,he⟩
 ·rw[he] at hc
  simp at hc
 ·rw[hl]
  simp only[bH,hr]
  have h1:p.e.cw=e.cw:=by
   rcases he with rfl | ⟨d,g,_,_,he⟩
   ·rfl
   ·rw[he]
  rw[h1] at hc
  intro j hj
  unfold Cr
  refine List.mem_append_right _ (List.mem_append_left _ ?_)
  rw[hc]
  exact hj
theorem fR (a b:List SV):bR (a++b)=bR a++bR b:=by
 induction a with
 | nil=>rfl
 | cons x a ih=>simp [bR,ih]
theorem B_ {a:List SV} {n j:Nat} (h:j∈bR (a.take n)):j∈bR a:=by
 have:=List.take_append_drop n a
 rw[←this,fR]
 exact List.mem_append_left _ h
theorem B9 {a:List SV} {n j:Nat} (h:j∈bR (a.drop n)):j∈bR a:=by
 have:=List.take_append_drop n a
 rw[←this,fR]
 exact List.mem_append_right _ h
def D9 (ds:List Nat) (L:Nat→Bool) (l:List PS) (j:Nat):Prop:=j / 64 ∉ ds∨∃p∈l,L p.i=true∧j∈p.log.m
theorem mf {ds:List Nat} {L:Nat→Bool} {s:Nat} :∀(l l0:List PS) (v:SV),(∀p∈l,i7 P Γ ops p)→(∀p∈l,p∈l0)→(∀j∈bU v,D9 ds L l0 j)→∀j∈bU (kQ L l s v),D9 ds L l0 j
 | [],_,v,_,_,hv=>hv
 | p::l,l0,v,hs,ic,hv=>by
  unfold kQ
  simp only[List.foldl_cons]
  refine mf l l0 _ (fun q hq=>hs q (List.mem_cons_of_mem _ hq)) (fun q hq=>ic q (List.mem_cons_of_mem _ hq)) ?_
  intro j hj
  split at hj
  ·rename_i hL
   unfold PS.f at hj
   split at hj
   ·exact .inr ⟨p,ic p (List.mem_cons_self ..),hL,HR (hs p (List.mem_cons_self ..)) hj⟩
   ·exact hv j hj
  ·exact hv j hj
def D_ (ds:List Nat) (L:Nat→Bool) (l:List PS) (id:Nat) (o:Option aj):Prop:=∀ob,o=some ob→D9 ds L l id∧∀j∈cD ob,D9 ds L l j
theorem mg {ds:List Nat} {L:Nat→Bool} {id:Nat} :∀(l l0:List PS) (v:Option aj),(∀p∈l,i7 P Γ ops p)→(∀p∈l,p∈l0)→D_ ds L l0 id v→D_ ds L l0 id (kR L l id v)
 | [],_,v,_,_,hv=>hv
 | p::l,l0,v,hs,ic,hv=>by
  unfold kR
  simp only[List.foldl_cons]
  refine mg l l0 _ (fun q hq=>hs q (List.mem_cons_of_mem _ hq)) (fun q hq=>ic q (List.mem_cons_of_mem _ hq)) ?_
  split
  ·rename_i hL
   have lK:=hs p (List.mem_cons_self ..)
   have kr:=ic p (List.mem_cons_self ..)
   unfold PS.h
   split
   ·rename_i x hx
    rintro ob rfl
    have:=HQ lK (Ge hx)
    exact⟨.inr ⟨p,kr,hL,this.1⟩,fun j hj=> .inr ⟨p,kr,hL,this.2 j hj⟩⟩
   ·unfold Ep
    split
    ·rename_i i off bM kT
     split
     ·split
      ·rename_i t cells
       rintro ob aL
       simp only[Option.some.injEq] at aL
       subst aL
       have h0:=hv _ rfl
       refine⟨h0.1,fun j hj=> ?_⟩
       simp only[cD,cG,fR,List.mem_append] at hj
       rcases hj with hj | hj | hj
       ·exact h0.2 j (B_ hj)
       ·exact .inr ⟨p,kr,hL,HP lK kT j hj⟩
       ·exact h0.2 j (B9 hj)
      ·exact hv
     ·exact hv
    ·exact hv
  ·exact hv
theorem Eh {a b:cu} {s:Nat} (ha:a.d=some s) (hb:s∈b.rs):dD a b=true:=by
 have:fV (jW a.d) (b.rs++jW b.d)=true:=fW (i:=s) (by simp [ha,jW]) (List.mem_append_left _ hb)
 simp [dD,this]
theorem Ef {a b:cu} {s:Nat} (ha:a.d=some s) (hb:b.d=some s):dD a b=true:=by
 have:fV (jW a.d) (b.rs++jW b.d)=true:=fW (i:=s) (by simp [ha,jW]) (List.mem_append_right _ (by simp [hb,jW]))
 simp [dD,this]
theorem Ej {a b:cu} {s:Nat} (ha:s∈a.rs) (hb:b.d=some s):dD a b=true:=by
 have:fV a.rs (jW b.d)=true:=fW (i:=s) ha (by simp [hb,jW])
 simp [dD,this]
theorem El {a b:cu} {s:Nat} (ha:s∈a.wo) (hb:s∈b.wo):dD a b=true:=by
 have:fV a.wo (b.ro++b.wo)=true:=fW (i:=s) ha (List.mem_append_right _ hb)
 simp [dD,this]
theorem Ek {a b:cu} {s:Nat} (ha:s∈a.wo) (hb:s∈b.ro):dD a b=true:=by
 have:fV a.wo (b.ro++b.wo)=true:=fW (i:=s) ha (List.mem_append_left _ hb)
 simp [dD,this]
theorem Ei {a b:cu} {s:Nat} (ha:s∈a.ro) (hb:s∈b.wo):dD a b=true:=by
 have:fV a.ro b.wo=true:=fW (i:=s) ha hb
 simp [dD,this]
theorem Eg {a b:cu} {j:Nat} (ha:a.d=some (j / 64)) (hb:j∈b.m):dD a b=true:=by
 have:(b.m.any fun i=>Nat.beq (i / 64) (j / 64))=true:=by
  simp only[List.any_eq_true]
  exact⟨j,hb,Nat.beq_refl _⟩
 unfold dD
 rw[ha]
 simp only[this,Bool.or_true]
theorem DD {a b:cu} {j:Nat} (ha:b.d=some (j / 64)) (hb:j∈a.m):ki b a=true:=by
 unfold ki
 rw[ha]
 simp only[List.any_eq_true]
 exact⟨j,hb,Nat.beq_refl _⟩
theorem Ab {p q:Nat→Bool} :∀(l:List Nat),(∀k∈l,q k=true→p k=true)→(∃k∈l,p k=true∧q k=false)→l.countP q<l.countP p
 | [],_,h=>by simp at h
 | x::l,h,⟨k,hk,hp,hq⟩=>by
  have hle:l.countP q≤l.countP p:=List.countP_mono_left (fun y hy MB=>h y (List.mem_cons_of_mem _ hy) MB)
  simp only[List.countP_cons]
  rcases List.mem_cons.1 hk with rfl | hk
  ·rw[hp,hq]
   simp
   omega
  ·have:=Ab l (fun y hy=>h y (List.mem_cons_of_mem _ hy)) ⟨k,hk,hp,hq⟩
   have hx:=h x (List.mem_cons_self ..)
   cases MA:q x
   ·simp;omega
   ·rw[hx MA];simp;omega
def HX (ops:Array Oper) (listed:Array Bool):Nat:=(List.range ops.size).countP fun k=> !(listed.getD k true)
def Jy (w0:World) (S:Own) (st:St) (l:List PS) (L:Nat→Bool) (a:Act) (w:World):Prop:=
 ∃lh:St,Rel w0 S lh a w∧lh.n=st.n∧(∀s,lh.get s=kQ L l s (st.get s))∧∀id,lh.obj id=kR L l id (st.obj id)
theorem Ag {α:Type} {step:PS→α→α} {T:PS→Prop} (dR:∀p v,¬T p→step p v=v) {L:Nat→Bool} {l:List PS} {p:PS} (v:α)
  (h1:∀q∈l,T q→q.i<p.i→L q.i=true) (h2:∀q∈l,T q→p.i<q.i→L q.i=false) (h3:L p.i=false):
  l.foldl (fun v q=>if L q.i then step q v else v) v=l.foldl (fun v q=>if decide (q.i<p.i) then step q v else v) v:=by
 refine fold_congr step T dR (L:=L) (L':=fun k=>decide (k<p.i)) l v (fun q hq ht=> ?_)
 rcases Nat.lt_trichotomy q.i p.i with cn | heq | FV
 ·rw[h1 q hq ht cn];simp [cn]
 ·rw[heq,h3];simp
 ·rw[h2 q hq ht FV];simp;omega
theorem my {o:Oper} {d:Nat} :∀ {l:List Oper},o∈l→o.dst=some d→d∈lu l
 | [],hm,_=>by simp at hm
 | x::r,hm,Ch=>by
  simp only[lu]
  rcases List.mem_cons.1 hm with rfl | hm
  ·rw[Ch];exact List.mem_cons_self ..
  ·split
   ·exact List.mem_cons_of_mem _ (my hm Ch)
   ·exact my hm Ch
theorem Ft (eR:bF P Γ) {st:St} {l:List PS} {fin:St} (dE:Path P Γ ops gs ops.toList 0 st l fin) (Cs:lS (Cn ops.toList []) (l.map (·.log))=true)
  (bW:eD (lu ops.toList) st=true) {L:Nat→Bool} (Bm:∀k,L k=true→lQ ops L k) {p:PS} (hp:p∈l) (hg:lQ ops L p.i) (hL:L p.i=false)
  {Q:Exit→Act→World→Prop} {a:Act} {w:World} (DI:Jy w0 S st l L a w) {K:Act→World→Prop} (hK:∀a' w',Jy w0 S st l (fun k=>L k || k==p.i) a' w'→K a' w'):wpOp P ops Q p.i K a w:=by
 obtain⟨lh,hR,hn,mU,hE⟩:=DI
 have kv:=CO dE
 have iG:=lb dE
 have lK:=kv p hp
 have Ip:=m8 Bm ops.toList [] [] rfl rfl (by simp)
 have hd:∀q∈l,q.log.d=q.o.dst:=fun q hq=>((cr dE).2.2 q hq).2
 have hA:∀q∈l,q.i<p.i→dD q.log p.log=true→L q.i=true:=fun q hq cn hc=>Ip p.i q.i hg ((kC dE Cs hq hp cn).1 hc)
 have hB:∀q∈l,p.i<q.i→dD p.log q.log=true→L q.i=false:=by
  intro q hq cn hc
  cases HY:L q.i
  ·rfl
  ·have:=Ip q.i p.i (Bm _ HY) ((kC dE Cs hp hq cn).1 hc)
   rw[hL] at this
   cases this
 obtain⟨Ml,Mm,Ly⟩:=iG.1 p hp
 have dr:∀s∈p.log.rs,lh.get s=p.st.get s:=by
  intro s hs
  rw[mU s,Ml s]
  refine Ag (step:=fun q v=>PS.f q s v) (T:=fun q=>q.tF s) (fun q v h=>PS.Ie h v) _ (fun q hq ht cn=>hA q hq cn (Eh ((hd q hq).trans ht) hs)) (fun q hq ht cn=>hB q hq cn (Ej hs ((hd q hq).trans ht))) hL
 have aL:∀id∈p.log.ro,lh.obj id=p.st.obj id:=by
  intro id hs
  rw[hE id,Mm id]
  refine Ag (step:=fun q v=>PS.h q id v) (T:=fun q=>q.tH id) (fun q v h=>PS.Il h v) _ (fun q hq ht cn=>hA q hq cn (Ek (A8 (kv q hq) ht) hs)) (fun q hq ht cn=>hB q hq cn (Ei hs (A8 (kv q hq) ht))) hL
 have hnd:(l.map (·.i)).Nodup:=by
  rw[(cr dE).1]
  exact List.nodup_range'
 have I7:l.Pairwise (fun a b=>a.i<b.i):=by
  have:=List.pairwise_lt_range' (s:=0) (n:=ops.toList.length)
  rw[←(cr dE).1] at this
  exact List.pairwise_map.1 this
 have HM:∀s,kQ (fun k=>L k || k==p.i) l s (st.get s)=p.f s (lh.get s):=by
  intro s
  rw[mU s]
  exact gX (fun q v=>PS.f q s v) (fun q=>q.tF s) (fun q v h=>PS.Ie h v) (L:=L) (q:=p) l (st.get s) hp hnd hL I7 (fun q hq cn h1 h2=>hB q hq cn (Ef ((hd p hp).trans h1) ((hd q hq).trans h2)))
 have HN:∀id,kR (fun k=>L k || k==p.i) l id (st.obj id)=p.h id (lh.obj id):=by
  intro id
  rw[hE id]
  exact gX (fun q v=>PS.h q id v) (fun q=>q.tH id) (fun q v h=>PS.Il h v) (L:=L) (q:=p) l (st.obj id) hp hnd hL I7 (fun q hq cn h1 h2=>hB q hq cn (El (A8 lK h1) (A8 (kv q hq) h2)))
 have KR:ops[p.i]? =some p.o:=by
  rw[←Array.getElem?_toList]
  exact (iv dE hp).2.1
 have Mg:∀d,p.o.dst=some d→d∈lu ops.toList:=by
  intro d Ch
  have hm:p.o∈ops.toList:=List.mem_of_getElem? (iv dE hp).2.1
  exact my hm Ch
 have Hp:f0 ops p.o ⊆ p.log.rs:=by
  rcases lK with ⟨_,_,_,hl⟩ | ⟨_,e,s,r,hr,_,hl,_⟩
  ·rw[hl];exact fun _ h=>h
  ·rw[hl];simp only[bH,hr];exact fun _ h=>List.mem_append_left _ h
 have An:fy ops lh p.o=fy ops p.st p.o:=by
  unfold fy
  split
  ·rfl
  ·rename_i j want Mn
   split
   ·rfl
   ·rename_i s hs
    rw[dr s (Hp (by unfold f0;simp [Mn,hs,jW]))]
 unfold wpOp
 rw[KR]
 simp only
 have hw:fy ops lh p.o=some true∨fy ops lh p.o=some false:=by
  rw[An]
  rcases lK with ⟨h,_⟩ | ⟨h,_⟩
  ·exact .inr h
  ·exact .inl h
 rcases lK with ⟨Jf,he,aJ,hl⟩ | ⟨Jf,e,s,r,hr,aJ,hl,he⟩
 ·rw[←An] at Jf
  rw[if_neg (by rw[kL hR Jf];simp)]
  refine hK _ _ ⟨lh.skip p.o.dst, ?_,hn,fun s=> ?_,fun id=> ?_⟩
  ·have HA:∀d,p.o.dst=some d→bd lh.n d:=by
    intro d Ch
    simp only[St.skip,St.apply,gn] at aJ
    have:=aJ.2
    rw[Ch] at this
    have:=lG this
    rw[hn,←Ly]
    exact this
   obtain⟨β,φ,hc⟩:=hR.core
   exact iL (e:= {sv:= .undef}) hR HA hR.kept ⟨β,φ,hc,by simp [ak]⟩
  ·rw[HM s]
   unfold St.skip
   rw[←he]
   exact (lF lh p s)
  ·rw[HN id]
   unfold St.skip
   rw[←he]
   exact (ju lh p id)
 ·rw[←An] at Jf
  rw[if_pos (kL hR Jf)]
  refine .inl ?_
  have KZ:∀k∈s,lh.get k=p.st.get k:=fun k hk=>dr k (by rw[hl];simp only[bH,hr];exact List.mem_append_right _ hk)
  have A1:∀k∈r,lh.obj k=p.st.obj k:=fun k hk=>aL k (by rw[hl];simp only[bH,hr];exact List.mem_append_right _ hk)
  have bp:=M.kE (evalOp P Γ p.o) hr KZ A1
  simp only[St.apply,gn] at aJ
  have BH:=BW eR hR (M.eu _ bp) aJ.1.2 (fun d Ch=>by
    have:=aJ.2
    rw[Ch] at this
    have:=lG this
    rw[hn,←Ly]
    exact this) (fun _ d Ch=> ?_) Q
  ·refine Oper.wp_mono ?_ BH
   rintro a' w' ⟨v,rfl,eO⟩
   rcases he with he | ⟨d,g,Ch,fT,he⟩
   ·refine hK _ _ ⟨lh.apply p.o.dst e,eO,hn,fun s=> ?_,fun id=> ?_⟩
    ·rw[HM s,←he];exact lF lh p s
    ·rw[HN id,←he];exact ju lh p id
   ·have hb:(lh.apply p.o.dst e).get d= .bool g:=by
     rw[Ch,apply_get,fT]
     simp [aA]
    have HF:=eO.Ax hb
    refine hK _ _ ⟨(lh.apply p.o.dst e).reset.fN d g,eO.reset.fN HF,hn,fun s=> ?_,fun id=> ?_⟩
    ·rw[HM s];exact Fc Ch p rfl he s
    ·rw[HN id];exact Fe p rfl he id
  ·have key:∀j,D9 (lu ops.toList) L l j→j / 64≠d:=by
    rintro j (hj | ⟨q,hq,HY,hj⟩) rfl
    ·exact hj (Mg _ Ch)
    ·rcases Nat.lt_trichotomy q.i p.i with cn | heq | FV
     ·have:=(kC dE Cs hq hp cn).2
      rw[DD ((hd p hp).trans Ch) hj] at this
      cases this
     ·rw[heq,hL] at HY
      cases HY
     ·have:=hB q hq FV (Eg ((hd p hp).trans Ch) hj)
      rw[this] at HY
      cases HY
   have Ki:=fun d' Ix=>BD bW d' Ix
   constructor
   ·intro i j hj
    rw[mU i] at hj
    refine key j (mf l l _ kv (fun _ h=>h) (fun k hk=> .inl (fun hm=> ?_)) j hj)
    exact (Ki _ hm).slot i k hk rfl
   ·intro j ob jd
    rw[hE j] at jd
    have h0:D_ (lu ops.toList) L l j (st.obj j):=by
     intro Fq jK
     refine⟨.inl (fun hm=>((Ki _ hm).obj j Fq jK).1 rfl),fun k hk=> .inl (fun hm=>((Ki _ hm).obj j Fq jK).2 k hk rfl)⟩
    have:=mg l l _ kv (fun _ h=>h) h0 ob jd
    exact⟨key j this.1,fun k hk=>key k (this.2 k hk)⟩
theorem Cf (eR:bF P Γ) {st:St} {l:List PS} {fin:St} (dE:Path P Γ ops gs ops.toList 0 st l fin) (Cs:lS (Cn ops.toList []) (l.map (·.log))=true)
  (bW:eD (lu ops.toList) st=true) (Mh:gr ops.toList 0=true) {Q:Exit→Act→World→Prop} (hQ:∀a w,Rel w0 S fin a w→Q .normal a w):
  ∀(fuel:Nat) (listed:Array Bool) (a:Act) (w:World),listed.size=ops.size→(∀k,listed.getD k false=true→lQ ops (fun k=>listed.getD k false) k)→HX ops listed≤fuel→
   Jy w0 S st l (fun k=>listed.getD k false) a w→wpAny P .any ops Q fuel listed a w:=by
 have iG:=lb dE
 have hlen:l.length=ops.size:=by
  have:(l.map (·.o)).length=ops.toList.length:=by rw[(cr dE).2.1]
  simpa using this
 have done:∀(listed:Array Bool) (a:Act) (w:World),listed.size=ops.size→Region.ready .any ops listed=[]→Jy w0 S st l (fun k=>listed.getD k false) a w→Q .normal a w:=by
  intro listed a w dx hr ⟨lh,hR,hn,mU,hE⟩
  have Io:∀k,k<ops.size→listed.getD k false=true:=by
   intro k
   induction k using Nat.strongRecOn with
   | ind k ih=>
    intro hk
    cases L5:listed.getD k false
    ·have:k∈Region.ready .any ops listed:=by
      rw[mem_ready]
      refine⟨?_,ops[k],Array.getElem?_eq_getElem hk,fun e he hb=> ?_⟩
      ·rw[←L5]
       simp only[Array.getD_eq_getD_getElem?,Array.getElem?_eq_getElem (show k<listed.size by omega),Option.getD_some]
      ·have:=jz ops.toList 0 Mh k ops[k] (by simp [Array.getElem?_toList,hk]) e he hb
       exact ih e.on (by omega) (by omega)
     rw[hr] at this
     cases this
    ·rfl
  refine hQ a w ?_
  have Lr:∀q∈l,listed.getD q.i false=true:=by
   intro q hq
   have:=(iv dE hq).2.2
   exact Io q.i (by simpa using this)
  have e1:lh.get=fin.get:=by
   funext s
   rw[mU s,iG.2.1 s]
   exact fold_congr (fun q v=>PS.f q s v) (fun _=>True) (fun _ _ h=>absurd trivial h) (L:=fun k=>listed.getD k false) (L':=fun _=>true) l _ (fun q hq _=>Lr q hq)
  have e2:lh.obj=fin.obj:=by
   funext s
   rw[hE s,iG.2.2.1 s]
   exact fold_congr (fun q v=>PS.h q s v) (fun _=>True) (fun _ _ h=>absurd trivial h) (L:=fun k=>listed.getD k false) (L':=fun _=>true) l _ (fun q hq _=>Lr q hq)
  obtain⟨β,φ,hc⟩:=hR.core
  refine⟨?_,fun x hx=>by rw[iG.2.2.2,←hn];exact hR.fx x hx,hR.defers,hR.kept,β,φ, ?_⟩
  ·rw[hR.size,hn,iG.2.2.2]
  ·rw[←e1,←e2];exact hc
 intro fuel
 induction fuel with
 | zero=>
  intro listed a w dx Bm Jd DI
  have hr:Region.ready .any ops listed=[]:=by
   cases MD:Region.ready .any ops listed with
   | nil=>rfl
   | cons x xs=>
    have hx:x∈Region.ready .any ops listed:=by rw[MD];exact List.mem_cons_self ..
    obtain⟨h1,o,ho,_⟩:=mem_ready.1 hx
    have cn:=(Array.getElem?_eq_some_iff.1 ho).1
    have:0<HX ops listed:=by
     unfold HX
     rw[List.countP_pos_iff]
     exact⟨x,List.mem_range.2 cn,by simp only[h1];rfl⟩
    omega
  exact⟨hr,done listed a w dx hr DI⟩
 | succ fuel ih=>
  intro listed a w dx Bm Jd DI
  refine⟨fun hr=>done listed a w dx hr DI,fun i hi=> ?_⟩
  obtain⟨h1,o,ho,Kg⟩:=mem_ready.1 hi
  have cn:=(Array.getElem?_eq_some_iff.1 ho).1
  have EK:i<l.length:=by omega
  have JR:l[i].i=i:=by
   have:(l.map (·.i))[i]? =(List.range' 0 ops.toList.length)[i]? :=by rw[(cr dE).1]
   rw[List.getElem?_map,List.getElem?_eq_getElem EK,List.getElem?_range' (by simpa using cn)] at this
   simpa using this
  have Ja:∀k,(listed.setIfInBounds i true).getD k false=(listed.getD k false || k==i):=by
   intro k
   simp only[Array.getD_eq_getD_getElem?,Array.getElem?_setIfInBounds]
   by_cases hk:i=k
   ·subst hk
    simp [show i<listed.size by omega]
   ·have:(k==i)=false:=by simpa using fun h=>hk h.symm
    simp [hk,this]
  have L4:listed.getD i false=false:=by
   rw[←h1]
   simp only[Array.getD_eq_getD_getElem?,Array.getElem?_eq_getElem (show i<listed.size by omega),Option.getD_some]
  have LA:lQ ops (fun k=>listed.getD k false) i:=by
   intro o' d6 e he hb
   rw[ho] at d6
   injection d6 with d6
   subst d6
   exact Kg e he hb
  have:=Ft (w0:=w0) (S:=S) (Q:=Q) eR dE Cs bW Bm (p:=l[i]) (List.getElem_mem EK) (by rw[JR];exact LA) (by rw[JR];exact L4) DI
   (K:=wpAny P .any ops Q fuel (listed.setIfInBounds i true)) (fun a' w' hc=> ?_)
  ·rw[JR] at this
   exact this
  ·refine ih _ a' w' (by simpa using dx) (fun k hk=> ?_) ?_ ?_
   ·intro o' d6 e he hb
    show (listed.setIfInBounds i true).getD e.on false=true
    rw[Ja] at hk ⊢
    simp only[Bool.or_eq_true,beq_iff_eq] at hk ⊢
    rcases hk with hk | rfl
    ·exact .inl (Bm k hk o' d6 e he hb)
    ·exact .inl (LA o' d6 e he hb)
   ·have:HX ops (listed.setIfInBounds i true)<HX ops listed:=by
     unfold HX
     refine Ab _ (fun k hk hq=> ?_) ⟨i,List.mem_range.2 cn,by simp only[h1];rfl, ?_⟩
     ·simp only[Bool.not_eq_true',Array.getD_eq_getD_getElem?,Array.getElem?_setIfInBounds] at hq ⊢
      split at hq
      ·split at hq<;>simp at hq
      ·exact hq
     ·simp [Array.getElem?_setIfInBounds,show i<listed.size by omega]
    omega
   ·have e:(fun k=>(listed.setIfInBounds i true).getD k false)=(fun k=>listed.getD k false || k==i):=funext Ja
    rw[e]
    rw[JR] at hc
    exact hc
theorem Rel.drew {st:St} {a:Act} {w:World} (hR:Rel w0 S st a w):Rel w0 S st a {w with drawn:=w.drawn+1} :=by
 obtain⟨β,φ,hc⟩:=hR.core
 refine⟨hR.size,hR.fx,hR.defers,⟨hR.kept.os,hR.kept.tape,hR.kept.output,hR.kept.size,hR.kept.block⟩,β,φ, ?_⟩
 exact hc.step (h':=st.obj) (β':=β) (φ':=φ) (w':= {w with drawn:=w.drawn+1}) (fun _=>False) (Nat.le_refl _) (fun _ _ _=>rfl) (fun b hb=> .inl hb) (fun _ _ _ h=>h) (fun _ _=>⟨rfl,rfl⟩)
  (fun id o ho=> .inl ⟨fun h=>h,ho,rfl,fun _ _ h=>h,fun _ _=>rfl⟩) hc.sep
theorem jY (eR:bF P Γ) {st:St} {a:Act} {w:World} {id:Nat} {draw:Bool} {Q:Exit→Act→World→Prop} (hR:Rel w0 S st a w) (h:(bX P Γ ops draw st).ok=true)
  (hQ:∀a' w',Rel w0 S (bX P Γ ops draw st) a' w'→Q .normal a' w'):(Code.region id ops draw).wp P Q a w:=by
 cases draw with
 | false=>exact CQ eR hR h hQ
 | true=>
  unfold bX at h hQ
  simp only[cond_true] at h hQ
  cases hf:eD (lu ops.toList) st && gr ops.toList 0 && P.follows .mixedOrders
  ·simp [hf,bb] at h
  ·simp only[hf,cond_true] at h hQ
   simp only[Bool.and_eq_true] at hf
   obtain⟨l,fin,dE,_,Kd,KY⟩:=eX _ _ _ _ h
   refine wp_region_any hf.2 (Cf eR dE (by simpa using Kd) hf.1.1 hf.1.2 (fun a' w' eO=>hQ a' w' (KY w0 S a' w' eO)) _ _ a _ (by simp) (fun k hk=> ?_) ?_ ?_)
   ·rw[Array.getD_eq_getD_getElem?,Array.getElem?_replicate] at hk
    split at hk<;>simp at hk
   ·unfold HX
    have:=List.countP_le_length (p:=fun k=> !((Array.replicate ops.size false).getD k true)) (l:=List.range ops.size)
    simpa using this
   ·refine⟨st,hR.drew,rfl,fun s=> ?_,fun o=> ?_⟩
    ·refine (ff (fun q v=>PS.f q s v) (L:=fun k=>(Array.replicate ops.size false).getD k false) l (st.get s) (fun q _=> ?_)).symm
     rw[Array.getD_eq_getD_getElem?,Array.getElem?_replicate]
     split<;>rfl
    ·refine (ff (fun q v=>PS.h q o v) (L:=fun k=>(Array.replicate ops.size false).getD k false) l (st.obj o) (fun q _=> ?_)).symm
     rw[Array.getD_eq_getD_getElem?,Array.getElem?_replicate]
     split<;>rfl
end
end Go.Proofs.YtngbcccnjiaddaaGreat.Vm
namespace Go.Proofs.YtngbcccnjiaddaaGreat.Vm
section
variable {P:Program} {Γ:Ctx} {w0:World} {S:Own}
theorem eG {st:St} {c:Operand} {b:Bool} :(st.dg c b).ok=st.ok:=by
 unfold St.dg
 split<;>rfl
theorem Cc {st:St} {c:Operand} {b:Bool} (h:st.ok=true):Tr st (st.dg c b):=by
 unfold St.dg
 split
 ·exact j9 h
 ·exact Tr.refl h
theorem iK {st:St} {a:Act} {w:World} {c:Operand} {b:Bool} (hR:Rel w0 S st a w) (hc:a.eval c= .bool b):Rel w0 S (st.dg c b) a w:=by
 unfold St.dg
 split
 ·exact hR.fN hc
 ·exact hR
theorem Gu {st:St} {a:Act} {w:World} (hR:Rel w0 S st a w) (c:Operand):∃β,ak w (Av st.obj β) β (ev st c) (a.eval c):=by
 obtain⟨β,φ,hc⟩:=hR.core
 refine⟨β, ?_⟩
 cases c with
 | tmp t=>exact hc.ca t
 | const v=>exact jm v
 | global g=>simp [ev,ak]
 | func g=>simp [ev,ak]
theorem Gt {st:St} {a:Act} {w:World} (hR:Rel w0 S st a w) {c:Operand} {t:Bool} (h:ev st c= .kb t):a.eval c= .bool t:=by
 obtain⟨β,hv⟩:=Gu hR c
 rw[h] at hv
 simpa only[ak] using hv
theorem Dc {st:St} {a:Act} {w:World} (hR:Rel w0 S st a w) {c:Operand} {t:Bool} (h:ev st c= .bool t):a.eval c= .bool t:=by
 obtain⟨β,hv⟩:=Gu hR c
 rw[h] at hv
 simpa only[ak] using hv
theorem dZ:∀(c:Code) (st:St),(exec P Γ c st).ok=true→Tr st (exec P Γ c st)
 | .skip,st,h=>by
  simp only[exec] at h ⊢
  exact Tr.refl h
 | .region id ops draw,st,h=>by
  simp only[exec] at h ⊢
  exact AA h
 | .seq a b,st,h=>by
  simp only[exec] at h ⊢
  have h2:=dZ b _ h
  exact (dZ a _ h2.ok).trans h2
 | .cond c a b,st,h=>by
  simp only[exec] at h ⊢
  split
  ·rename_i t Ai
   simp only[Ai] at h
   cases t with
   | true=>simp only[cond_true] at h ⊢;exact dZ a _ h
   | false=>simp only[cond_false] at h ⊢;exact dZ b _ h
  ·rename_i g Ai
   simp only[Ai] at h
   have lK:=cX h
   have aJ:st.ok=true:=by
    cases g with
    | true=>
     have:=(dZ a _ (lK.1 rfl)).ok
     rw[eG] at this
     exact this
    | false=>
     have:=(dZ b _ (lK.2 rfl)).ok
     rw[eG] at this
     exact this
   exact Cd aJ h
  ·rename_i h1 h2
   exfalso
   revert h
   split
   ·rename_i t Ai;exact absurd Ai (h1 t)
   ·rename_i g Ai;exact absurd Ai (h2 g)
   ·simp [bb]
 | .block ..,st,h=>by simp [exec,bb] at h
 | .loop ..,st,h=>by simp [exec,bb] at h
 | .exit ..,st,h=>by simp [exec,bb] at h
 | .goto ..,st,h=>by simp [exec,bb] at h
 | .label ..,st,h=>by simp [exec,bb] at h
 | .ret,st,h=>by simp [exec,bb] at h
theorem gu (eR:bF P Γ):∀(c:Code) (st:St) (a:Act) (w:World) (Q:Exit→Act→World→Prop),Rel w0 S st a w→(exec P Γ c st).ok=true→
  (∀a' w',Rel w0 S (exec P Γ c st) a' w'→Q .normal a' w')→c.wp P Q a w
 | .skip,st,a,w,Q,hR,h,hQ=>by
  simp only[exec] at h hQ
  exact wp_skip (hQ a w hR)
 | .region id ops draw,st,a,w,Q,hR,h,hQ=>by
  simp only[exec] at h hQ
  exact jY eR hR h hQ
 | .seq x y,st,a,w,Q,hR,h,hQ=>by
  simp only[exec] at h hQ
  have h2:=dZ y _ h
  refine wp_seq (gu eR x st a w _ hR h2.ok (fun a' w' eO=> ?_))
  exact gu eR y _ a' w' Q eO h hQ
 | .cond c x y,st,a,w,Q,hR,h,hQ=>by
  simp only[exec] at h hQ
  split at h
  ·rename_i t Ai
   simp only[Ai] at hQ
   refine wp_cond (Gt hR Ai) ?_
   cases t with
   | true=>simp only[cond_true] at h hQ;exact gu eR x st a w Q hR h hQ
   | false=>simp only[cond_false] at h hQ;exact gu eR y st a w Q hR h hQ
  ·rename_i g Ai
   simp only[Ai] at hQ
   have lK:=cX h
   have hb:=Dc hR Ai
   refine wp_cond hb ?_
   cases g with
   | true=>
    have hy:=lK.1 rfl
    have ht:=dZ x _ hy
    refine gu eR x _ a w Q (iK hR.reset hb) hy (fun a' w' eO=>hQ a' w' ?_)
    have aJ:st.reset.ok=true:=by have:=ht.ok;rwa [eG] at this
    exact gf (fun _=>⟨(Cc aJ).trans ht,eO⟩) (by simp) h
   | false=>
    have hy:=lK.2 rfl
    have ht:=dZ y _ hy
    refine gu eR y _ a w Q (iK hR.reset hb) hy (fun a' w' eO=>hQ a' w' ?_)
    have aJ:st.reset.ok=true:=by have:=ht.ok;rwa [eG] at this
    exact gf (by simp) (fun _=>⟨(Cc aJ).trans ht,eO⟩) h
  ·simp [bb] at h
 | .block ..,st,_,_,_,_,h,_=>by simp [exec,bb] at h
 | .loop ..,st,_,_,_,_,h,_=>by simp [exec,bb] at h
 | .rangeFunc ..,st,_,_,_,_,h,_=>by simp [exec,bb] at h
 | .exit ..,st,_,_,_,_,h,_=>by simp [exec,bb] at h
 | .scope ..,st,_,_,_,_,h,_=>by simp [exec,bb] at h
 | .goto ..,st,_,_,_,_,h,_=>by simp [exec,bb] at h
 | .label ..,st,_,_,_,_,h,_=>by simp [exec,bb] at h
 | .ret,st,_,_,_,_,h,_=>by simp [exec,bb] at h
 | .refuse ..,st,_,_,_,_,h,_=>by simp [exec,bb] at h
abbrev Rn:=List (Nat×aj×Option Nat)
def A7:Rn→Nat→Option (aj×Option Nat)
 | [],_=>none
 | (i,x)::l,j=>if j=i then some x else A7 l j
def Env.iT (β:Env) (R:Rn):Env:=
 ⟨β.cU,fun j=>match A7 R j with | some (_,some id)=>β.val id | some (_,none)=> .slice none 0 0 | none=>β.val j,β.gH,
  fun j=>match A7 R j with | some (_,some id)=>β.nb id | some (_,none)=>[] | none=>β.nb j⟩
def Bs (o:aj):Prop:=(∃t e,o= .row t e [] false true)∨(∃t e ts,o= .deep t e ts [] none)
def fD (o:aj):Prop:=(∃t e r fz u,o= .row t e r fz u)∨(∃t e ts r,o= .deep t e ts r none)
def iY (φ:Nat→List Nat) (R:Rn) (j:Nat):List Nat:=
 match A7 R j with | some (_,some id)=>φ id | some (_,none)=>[] | none=>φ j
def Bt (h:Nat→Option aj) (x:Nat×aj×Option Nat):Prop:=
 (∃id,fD x.2.1∧x.2.2=some id∧h id=some x.2.1)∨(Bs x.2.1∧x.2.2=none)
theorem lU {w:World} {av av':Nat→Prop} {β:Env} {R:Rn} :∀(cs:List SV) (l:List Value),kd cs=true→af w av β cs l→af w av' (β.iT R) cs l
 | [],l,_,h=>by simpa only[af] using h
 | s::cs,l,hp,h=>by
  simp only[af] at h ⊢
  obtain⟨v,l',rfl,h1,h2⟩:=h
  cases s with
  | ptr id off=>
   refine⟨v,l',rfl, ?_,lU cs l' hp h2⟩
   simp only[ak] at h1 ⊢
   exact h1
  | _=>simp [kd] at hp
theorem jw {hp:List (Nat×aj)} {f:Nat→SV} {β:Env} {φ:Nat→List Nat} {tm:Array Value} {w:World} (hc:Core w0 S f (dF hp) β φ tm w) {ck:CK} {nid:Nat} {s:SV} {v:Value} {av':Nat→Prop}
  (hv:ak w (Av (dF hp) β) β s v) (cP:∀b,av' b→Av (dF hp) β b) {R:Rn} (hR:∀x∈(au P hp ck nid s).2,A7 R x.1=some x.2):
  ak w av' (β.iT R) (au P hp ck nid s).1 v∧∀x∈(au P hp ck nid s).2,Bt (dF hp) x:=by
 have mono:∀s',bU s'=[]→ak w (Av (dF hp) β) β s' v→ak w av' (β.iT R) s' v:=fun s' BL h'=>
  ak.mono (Nat.le_refl _) (fun _ _ _=>rfl) (fun b hb=> .inl (cP b hb)) s' v h' (by rw[BL];simp)
 cases s with
 | own id=>
  simp only[au] at hR ⊢
  simp only[ak] at hv
  cases hl:dF hp id with
  | none=>simp [ak]
  | some o=>
   cases o with
   | box=>simp [ak]
   | row t e r fz u=>
    simp only[hl] at hR
    simp only
    cases ck with
    | d7=>simp [ak]
    | mN=>
     have:=hR _ (List.mem_singleton.2 rfl)
     simp only at this
     refine⟨?_, ?_⟩
     ·simp only[ak,Env.iT,this]
      exact hv
     ·intro x hx
      rw[List.mem_singleton] at hx
      subst hx
      exact .inl ⟨id,.inl ⟨t,e,r,fz,u,rfl⟩,rfl,hl⟩
    | own=>
     have:=hR _ (List.mem_singleton.2 rfl)
     simp only at this
     refine⟨?_, ?_⟩
     ·simp only[ak,Env.iT,this]
      exact hv
     ·intro x hx
      rw[List.mem_singleton] at hx
      subst hx
      exact .inl ⟨id,.inl ⟨t,e,r,fz,u,rfl⟩,rfl,hl⟩
    | deep=>
     have:=hR _ (List.mem_singleton.2 rfl)
     simp only at this
     refine⟨?_, ?_⟩
     ·simp only[ak,Env.iT,this]
      exact hv
     ·intro x hx
      rw[List.mem_singleton] at hx
      subst hx
      exact .inl ⟨id,.inl ⟨t,e,r,fz,u,rfl⟩,rfl,hl⟩
   | deep t e ts r j_=>
    cases j_ with
    | some q=>simp [ak]
    | none=>
    simp only[hl] at hR
    simp only
    cases ck with
    | d7=>simp [ak]
    | mN=>
     have:=hR _ (List.mem_singleton.2 rfl)
     simp only at this
     refine⟨?_, ?_⟩
     ·simp only[ak,Env.iT,this]
      exact hv
     ·intro x hx
      rw[List.mem_singleton] at hx
      subst hx
      exact .inl ⟨id,.inr ⟨t,e,ts,r,rfl⟩,rfl,hl⟩
    | own=>
     have:=hR _ (List.mem_singleton.2 rfl)
     simp only at this
     refine⟨?_, ?_⟩
     ·simp only[ak,Env.iT,this]
      exact hv
     ·intro x hx
      rw[List.mem_singleton] at hx
      subst hx
      exact .inl ⟨id,.inr ⟨t,e,ts,r,rfl⟩,rfl,hl⟩
    | deep=>
     have:=hR _ (List.mem_singleton.2 rfl)
     simp only at this
     refine⟨?_, ?_⟩
     ·simp only[ak,Env.iT,this]
      exact hv
     ·intro x hx
      rw[List.mem_singleton] at hx
      subst hx
      exact .inl ⟨id,.inr ⟨t,e,ts,r,rfl⟩,rfl,hl⟩
   | d7 e r=>
    simp only
    refine⟨?_,by simp⟩
    have h1:=(hc.ay id _ hl).1
    rw[←hv.1] at h1
    exact mono _ rfl h1
 | nil=>
  simp only[au] at hR ⊢
  simp only[ak] at hv
  cases ck with
  | mN=>
   refine⟨?_,by simp⟩
   simp only[ak]
   exact hv
  | own t=>
   simp only at hR ⊢
   cases BF:fE P 16 t with
   | none=>simp [ak]
   | some e=>
    simp only[BF] at hR
    have:=hR _ (List.mem_singleton.2 rfl)
    simp only at this
    refine⟨?_, ?_⟩
    ·simp only[ak,Env.iT,this]
     rw[hv]
     exact⟨rfl,rfl⟩
    ·intro x hx
     rw[List.mem_singleton] at hx
     subst hx
     exact .inr ⟨.inl ⟨t,e,rfl⟩,rfl⟩
  | deep t ts=>
   simp only at hR ⊢
   cases BF:fE P 16 t with
   | none=>simp [ak]
   | some e=>
    simp only[BF] at hR
    have:=hR _ (List.mem_singleton.2 rfl)
    simp only at this
    refine⟨?_, ?_⟩
    ·simp only[ak,Env.iT,this]
     rw[hv]
     exact⟨rfl,rfl⟩
    ·intro x hx
     rw[List.mem_singleton] at hx
     subst hx
     exact .inr ⟨.inr ⟨t,e,ts,rfl⟩,rfl⟩
  | d7 t=>
   simp only at hR ⊢
   cases BF:fE P 16 t with
   | none=>simp [ak]
   | some e=>
    refine⟨?_,by simp⟩
    simp only[ak,bV]
    exact⟨[],⟨[],none,0,0,rfl,hv,rfl,Nat.le_refl _,Nat.zero_le _,.inl ⟨rfl,rfl⟩⟩,by simp⟩
 | kb b=>
  simp only[au]
  refine⟨?_,by simp⟩
  simp only[ak] at hv ⊢
  exact hv
 | agg=>simp [au,ak]
 | Dz=>simp [au,ak]
 | ec=>simp [au,ak]
 | FL=>simp [au,ak]
 | FP g cs=>
  simp only[au]
  cases hp:kd cs
  ·simp [ak]
  ·simp only[cond_true]
   refine⟨?_,by simp⟩
   simp only[ak] at hv ⊢
   obtain⟨l,rfl,hl⟩:=hv
   exact⟨l,rfl,lU cs l hp hl⟩
 | ptr id off=>
  simp only[au]
  refine⟨?_,by simp⟩
  simp only[ak] at hv ⊢
  exact hv
 | fw=>exact⟨mono _ rfl hv,by simp [au]⟩
 | undef=>exact⟨mono _ rfl hv,by simp [au]⟩
 | int=>exact⟨mono _ rfl hv,by simp [au]⟩
 | bool=>exact⟨mono _ rfl hv,by simp [au]⟩
 | str=>exact⟨mono _ rfl hv,by simp [au]⟩
 | sl=>exact⟨mono _ rfl hv,by simp [au]⟩
 | gM=>exact⟨mono _ rfl hv,by simp [au]⟩
theorem iW {hp:List (Nat×aj)} {f:Nat→SV} {β:Env} {φ:Nat→List Nat} {tm:Array Value} {w:World} (hc:Core w0 S f (dF hp) β φ tm w) {lX:List (Nat×CK)} {b:Nat} {av':Nat→Prop}
  (cP:∀b,av' b→Av (dF hp) β b) {R:Rn} :∀(l:List SV) (k:Nat) (vs:List Value),af w (Av (dF hp) β) β l vs→(∀x∈(bD P hp lX b k l).2,A7 R x.1=some x.2)→
  af w av' (β.iT R) (bD P hp lX b k l).1 vs∧∀x∈(bD P hp lX b k l).2,Bt (dF hp) x
 | [],k,vs,hl,_=>by
  simp only[bD,af] at hl ⊢
  exact⟨hl,by simp⟩
 | s::l,k,vs,hl,hR=>by
  simp only[af] at hl
  obtain⟨v,l',rfl,h1,h2⟩:=hl
  simp only[bD] at hR ⊢
  have c1:=jw (P:=P) hc (ck:=Li lX k) (nid:=ag (20000+b*4) k) h1 cP (R:=R) (fun x hx=>hR x (List.mem_append_left _ hx))
  have c2:=iW hc cP l (k+1) l' h2 (fun x hx=>hR x (List.mem_append_right _ hx))
  refine⟨?_,fun x hx=> ?_⟩
  ·simp only[af]
   exact⟨v,l',rfl,c1.1,c2.1⟩
  ·rcases List.mem_append.1 hx with hx | hx
   ·exact c1.2 x hx
   ·exact c2.2 x hx
end
end Go.Proofs.YtngbcccnjiaddaaGreat.Vm
set_option linter.unusedVariables false
set_option linter.unusedSimpArgs false
namespace Go.Proofs.YtngbcccnjiaddaaGreat.Vm
section
variable {P:Program} {Γ:Ctx} {w0:World} {S:Own}
theorem fm {l:List Nat} (h:eS l=true):l.Nodup:=by
 induction l with
 | nil=>simp
 | cons i l ih=>
  simp only[eS,Bool.and_eq_true,Bool.not_eq_true'] at h
  rw[List.nodup_cons]
  refine⟨fun hm=> ?_,ih h.2⟩
  rw[gb.2 hm] at h
  simp at h
theorem Dp {R:Rn} {j:Nat} {x:aj×Option Nat} (h:A7 R j=some x):(j,x)∈R:=by
 induction R with
 | nil=>simp [A7] at h
 | cons y l ih=>
  obtain⟨i,z⟩:=y
  simp only[A7] at h
  split at h
  ·rename_i hj
   injection h with h
   subst h hj
   exact List.mem_cons_self ..
  ·exact List.mem_cons_of_mem _ (ih h)
theorem Fi {R:Rn} {x:Nat×aj×Option Nat} (hx:x∈R) (hn:(R.map (·.1)).Nodup):A7 R x.1=some x.2:=by
 induction R with
 | nil=>simp at hx
 | cons y l ih=>
  obtain⟨i,z⟩:=y
  simp only[List.map_cons,List.nodup_cons] at hn
  simp only[A7]
  rcases List.mem_cons.1 hx with rfl | hx
  ·simp
  ·have:x.1≠i:=fun e=>hn.1 (e ▸ List.mem_map_of_mem hx)
   rw[if_neg this]
   exact ih hx hn.2
theorem Fh {R:Rn} {j:Nat} (h:j ∉ R.map (·.1)):A7 R j=none:=by
 induction R with
 | nil=>rfl
 | cons y l ih=>
  obtain⟨i,z⟩:=y
  simp only[List.map_cons,List.mem_cons,not_or] at h
  simp only[A7]
  rw[if_neg h.1]
  exact ih h.2
theorem Gh {R:Rn} (h:(ep R).Nodup) {x y:Nat×aj×Option Nat} {id:Nat} (hx:x∈R) (hy:y∈R) (h1:x.2.2=some id) (h2:y.2.2=some id):x=y:=by
 have mem:∀(R:Rn) (z:Nat×aj×Option Nat),z∈R→z.2.2=some id→id∈ep R:=by
  intro R
  induction R with
  | nil=>simp
  | cons u l ih=>
   obtain⟨i,o,lN⟩:=u
   intro z hz Lf
   rcases List.mem_cons.1 hz with rfl | Ji
   ·simp only at Lf
    subst Lf
    simp [ep]
   ·have:=ih z Ji Lf
    cases lN with
    | none=>simpa [ep] using this
    | some k=>simp [ep,this]
 induction R with
 | nil=>simp at hx
 | cons u l ih=>
  obtain⟨i,o,lN⟩:=u
  cases lN with
  | none=>
   simp only[ep] at h
   rcases List.mem_cons.1 hx with rfl | hx
   ·cases h1
   ·rcases List.mem_cons.1 hy with rfl | hy
    ·cases h2
    ·exact ih h hx hy
  | some k=>
   simp only[ep,List.nodup_cons] at h
   rcases List.mem_cons.1 hx with rfl | hx
   ·simp only[Option.some.injEq] at h1
    rcases List.mem_cons.1 hy with rfl | hy
    ·rfl
    ·exact absurd (h1 ▸ mem l y hy h2) h.1
   ·rcases List.mem_cons.1 hy with rfl | hy
    ·simp only[Option.some.injEq] at h2
     exact absurd (h2 ▸ mem l x hx h1) h.1
    ·exact ih h.2 hx hy
theorem gU {st:St} {i:Nat} :∀(l:List (Nat×CK)),jh (aW P st l).1 i= .fw∨
  ∃ck,jh (aW P st l).1 i=(au P st.hp ck (ag (10000+i) 0) (st.get i)).1∧∀x∈(au P st.hp ck (ag (10000+i) 0) (st.get i)).2,x∈(aW P st l).2
 | []=> .inl rfl
 | (k,ck)::l=>by
  simp only[aW,jh]
  cases hk:Nat.beq k i
  ·simp only[cond_false]
   rcases gU l with h | ⟨LZ,h1,h2⟩
   ·exact .inl h
   ·exact .inr ⟨LZ,h1,fun x hx=>List.mem_append_right _ (h2 x hx)⟩
  ·have:=Nat.eq_of_beq_eq_true hk
   subst this
   simp only[cond_true]
   exact .inr ⟨ck,rfl,fun x hx=>List.mem_append_left _ hx⟩
theorem gT {st:St} {x:Nat×aj×Option Nat} :∀(l:List (Nat×CK)),x∈(aW P st l).2→∃i ck,x∈(au P st.hp ck (ag (10000+i) 0) (st.get i)).2
 | [],h=>by simp [aW] at h
 | (k,ck)::l,h=>by
  simp only[aW] at h
  rcases List.mem_append.1 h with h | h
  ·exact⟨k,ck,h⟩
  ·exact gT l h
theorem dL {hp:List (Nat×aj)} {j:Nat} {o:aj} :∀(l:List (Nat×List (Nat×CK))),(j,o)∈(aN P hp l).1→
  ∃lX t cells,dF hp j=some (.box t cells)∧o= .box t (bD P hp lX j 0 cells).1∧∀x∈(bD P hp lX j 0 cells).2,x∈(aN P hp l).2
 | [],h=>by simp [aN] at h
 | (b,lX)::l,h=>by
  simp only[aN] at h ⊢
  split at h
  ·rename_i t cells hb
   simp only at h ⊢
   rcases List.mem_cons.1 h with h | h
   ·simp only[Prod.mk.injEq] at h
    obtain⟨rfl,rfl⟩:=h
    refine⟨lX,t,cells,hb,rfl,fun x hx=> ?_⟩
    exact List.mem_append_left _ hx
   ·obtain⟨J4,t',eN,h1,h2,h3⟩:=dL l h
    exact⟨J4,t',eN,h1,h2,fun x hx=>List.mem_append_right _ (h3 x hx)⟩
  ·rename_i hb
   exact dL l h
theorem fi {hp:List (Nat×aj)} {x:Nat×aj×Option Nat} :∀(l:List (Nat×List (Nat×CK))),x∈(aN P hp l).2→
  ∃lX j t cells,dF hp j=some (.box t cells)∧x∈(bD P hp lX j 0 cells).2
 | [],h=>by simp [aN] at h
 | (b,lX)::l,h=>by
  simp only[aN] at h
  split at h
  ·rename_i t cells hb
   simp only at h
   rcases List.mem_append.1 h with h | h
   ·exact⟨lX,b,t,cells,hb,h⟩
   ·exact fi l h
  ·exact fi l h
theorem iV {hp:List (Nat×aj)} {ck:CK} {nid:Nat} {s:SV} :∀x∈(au P hp ck nid s).2,Bt (dF hp) x:=by
 intro x hx
 cases s with
 | own id=>
  simp only[au] at hx
  cases hl:dF hp id with
  | none=>simp [hl] at hx
  | some o=>
   cases o with
   | box=>simp [hl] at hx
   | d7=>simp [hl] at hx
   | deep t e ts r j_=>
    cases j_ with
    | some q=>simp [hl] at hx
    | none=>
    simp only[hl] at hx
    cases ck with
    | d7=>simp at hx
    | mN=>
     rw[List.mem_singleton] at hx
     subst hx
     exact .inl ⟨id,.inr ⟨t,e,ts,r,rfl⟩,rfl,hl⟩
    | own=>
     rw[List.mem_singleton] at hx
     subst hx
     exact .inl ⟨id,.inr ⟨t,e,ts,r,rfl⟩,rfl,hl⟩
    | deep=>
     rw[List.mem_singleton] at hx
     subst hx
     exact .inl ⟨id,.inr ⟨t,e,ts,r,rfl⟩,rfl,hl⟩
   | row t e r fz u=>
    simp only[hl] at hx
    cases ck with
    | d7=>simp at hx
    | mN=>
     rw[List.mem_singleton] at hx
     subst hx
     exact .inl ⟨id,.inl ⟨t,e,r,fz,u,rfl⟩,rfl,hl⟩
    | own=>
     rw[List.mem_singleton] at hx
     subst hx
     exact .inl ⟨id,.inl ⟨t,e,r,fz,u,rfl⟩,rfl,hl⟩
    | deep=>
     rw[List.mem_singleton] at hx
     subst hx
     exact .inl ⟨id,.inl ⟨t,e,r,fz,u,rfl⟩,rfl,hl⟩
 | nil=>
  simp only[au] at hx
  cases ck with
  | mN=>simp at hx
  | d7 t=>
   simp only at hx
   split at hx<;>simp at hx
  | own t=>
   simp only at hx
   split at hx
   ·rename_i e he
    rw[List.mem_singleton] at hx
    subst hx
    exact .inr ⟨.inl ⟨t,e,rfl⟩,rfl⟩
   ·simp at hx
  | deep t ts=>
   simp only at hx
   split at hx
   ·rename_i e he
    rw[List.mem_singleton] at hx
    subst hx
    exact .inr ⟨.inr ⟨t,e,ts,rfl⟩,rfl⟩
   ·simp at hx
 | kb=>simp [au] at hx
 | agg=>simp [au] at hx
 | Dz=>simp [au] at hx
 | ec=>simp [au] at hx
 | ptr=>simp [au] at hx
 | fw=>simp [au] at hx
 | undef=>simp [au] at hx
 | int=>simp [au] at hx
 | bool=>simp [au] at hx
 | str=>simp [au] at hx
 | sl=>simp [au] at hx
 | gM=>simp [au] at hx
 | FL=>simp [au] at hx
 | FP g cs=>
  simp only[au] at hx
  cases hp:kd cs<;>simp [hp] at hx
theorem gS {hp:List (Nat×aj)} {lX:List (Nat×CK)} {b:Nat} :∀(l:List SV) (k:Nat),∀x∈(bD P hp lX b k l).2,Bt (dF hp) x
 | [],_,x,hx=>by simp [bD] at hx
 | s::l,k,x,hx=>by
  simp only[bD] at hx
  rcases List.mem_append.1 hx with hx | hx
  ·exact iV x hx
  ·exact gS l (k+1) x hx
def H8 (h:Nat→Option aj) (R:Rn) (β:Env) (φ:Nat→List Nat) (j:Nat) (o:aj):Prop:=
 (A7 R j=none∧∃t cells,h j=some (.box t cells)∧∃eN,o= .box t eN)∨
 (∃id,A7 R j=some (o,some id)∧h id=some o∧fD o)∨
 (A7 R j=some (o,none)∧Bs o)
theorem fD.FD {o:aj} (ho:fD o) {β:Env} {R:Rn} {j id:Nat} {o':aj} (h1:A7 R j=some (o',some id)):al (β.iT R) j o=al β id o:=by
 rcases ho with ⟨t,e,r,fz,u,rfl⟩ | ⟨t,e,ts,r,rfl⟩<;>simp [al,Env.iT,h1]
theorem fD.Gg {o:aj} (ho:fD o) {w:World} {av av':Nat→Prop} {β:Env} {R:Rn} {j id:Nat} {o':aj} {φ:List Nat} (h1:A7 R j=some (o',some id)) (cP:∀b,av' b→av b) (h:fU w av β id o φ):fU w av' (β.iT R) j o φ:=by
 have hval:(β.iT R).val j=β.val id:=by simp [Env.iT,h1]
 have jr:(β.iT R).nb j=β.nb id:=by simp [Env.iT,h1]
 rcases ho with ⟨t,e,r,fz,u,rfl⟩ | ⟨t,e,ts,r,rfl⟩
 ·obtain⟨vals,az,g1,g2,g3,g4⟩:=h
  exact⟨vals,az,by rw[hval];exact g1,g2,fun b hb hx=>g3 b hb (cP b hx),by rw[hval];exact g4⟩
 ·obtain⟨vals,aT,g1,g2,g3,g4⟩:=h
  exact⟨vals,aT,by rw[hval];exact g1,g2,by rw[jr];exact g3,by rw[hval];exact g4⟩
theorem fD.CM {o:aj} (ho:fD o) {t:TypeId} {cs:List SV} (h:o= .box t cs):False:=by
 rcases ho with ⟨_,_,_,_,_,rfl⟩ | ⟨_,_,_,_,rfl⟩<;>cases h
theorem Cp {f f':Nat→SV} {h h':Nat→Option aj} {β:Env} {φ:Nat→List Nat} {tm:Array Value} {w:World} (hc:Core w0 S f h β φ tm w) {R:Rn} (hold:(ep R).Nodup)
  (bE:∀j o,h' j=some o→H8 h R β φ j o)
  (cP:(∀b,Av h' (β.iT R) b→Av h β b)→(∀i,ak w (Av h' (β.iT R)) (β.iT R) (f' i) (tm.getD i undef))∧
   ∀j t cells eN,h' j=some (.box t eN)→h j=some (.box t cells)→∀vs,af w (Av h β) β cells vs→af w (Av h' (β.iT R)) (β.iT R) eN vs):
  Core w0 S f' h' (β.iT R) (iY φ R) tm w:=by
 have hA:∀b,Av h' (β.iT R) b→Av h β b:=by
  rintro b (⟨j,o,hj,hb⟩ | hb)
  ·rcases bE j o hj with ⟨h1,t,cells,h2,eN,rfl⟩ | ⟨id,h1,h2,ho⟩ | ⟨h1,he⟩
   ·exact .inl ⟨j,_,h2,by simpa [al,Env.iT] using hb⟩
   ·refine .inl ⟨id,_,h2, ?_⟩
    rw[ho.FD h1] at hb
    exact hb
   ·rcases he with ⟨t,e,rfl⟩ | ⟨t,e,ts,rfl⟩<;>simp [al,Env.iT,h1,Value.ownBlock] at hb
  ·exact .inr hb
 obtain⟨ku,ko⟩:=cP hA
 refine⟨ku,fun j o hj=> ?_,fun j o hj=> ?_,fun i j oi oj cJ hi hj b hb=> ?_,hc.gH,hc.bars⟩
 ·rcases bE j o hj with ⟨h1,t,cells,h2,eN,rfl⟩ | ⟨id,h1,h2,ho⟩ | ⟨h1,he⟩
  ·obtain⟨vs,g1,g2,g3,g4⟩:=hc.ay j _ h2
   refine⟨vs,g1,ko j t cells eN hj h2 vs g2,g3, ?_⟩
   simp only[iY,h1]
   exact g4
  ·simp only[iY,h1]
   exact ho.Gg h1 hA (hc.ay id _ h2)
  ·have hval:(β.iT R).val j= .slice none 0 0:=by simp [Env.iT,h1]
   have jr:(β.iT R).nb j=[]:=by simp [Env.iT,h1]
   rcases he with ⟨t,e,rfl⟩ | ⟨t,e,ts,rfl⟩
   ·refine⟨[],[],⟨by simp,.inl ⟨hval,rfl,rfl⟩⟩,⟨rfl,by simp⟩,by simp, ?_⟩
    simp [iY,h1,hval,Value.ownBlock]
   ·refine⟨[],[],⟨by simp,.inl ⟨hval,rfl,rfl⟩⟩,⟨rfl,by simp⟩,by rw[jr];rfl, ?_⟩
    simp [iY,h1,hval,Value.ownBlock]
 ·rcases bE j o hj with ⟨h1,t,cells,h2,eN,rfl⟩ | ⟨id,h1,h2,ho⟩ | ⟨h1,he⟩
  ·simp only[iY,h1];exact hc.fresh j _ h2
  ·simp only[iY,h1];exact hc.fresh id _ h2
  ·simp [iY,h1]
 ·rcases bE i oi hi with ⟨h1,t,cells,h2,eN,rfl⟩ | ⟨id,h1,h2,ho⟩ | ⟨h1,he⟩<;>
   rcases bE j oj hj with ⟨k1,t',G4,k2,Jz,rfl⟩ | ⟨LP,k1,k2,d6⟩ | ⟨k1,JG⟩<;>
   simp only[iY,h1,k1] at hb ⊢
  ·exact hc.sep i j _ _ cJ h2 k2 b hb
  ·refine hc.sep i LP _ _ (fun e=> ?_) h2 k2 b hb
   rw[e,k2,Option.some.injEq] at h2
   exact d6.CM h2
  ·simp
  ·refine hc.sep id j _ _ (fun e'=> ?_) h2 k2 b hb
   rw[e',k2,Option.some.injEq] at h2
   exact ho.CM h2.symm
  ·refine hc.sep id LP _ _ (fun e'=> ?_) h2 k2 b hb
   subst e'
   have:=Gh hold (Dp h1) (Dp k1) rfl rfl
   simp only[Prod.mk.injEq] at this
   exact cJ this.1
  ·simp
  ·simp at hb
  ·simp at hb
  ·simp at hb
theorem Co {an:lE} {st:St} {a:Act} {w:World} (hR:Rel w0 S st a w) (aJ:(kg P an st).ok=true):Rel w0 S (kg P an st) a w∧st.ok=true:=by
 unfold kg at aJ ⊢
 simp only at aJ ⊢
 cases hnd:eS (ep ((aW P st an.ca).2++(aN P st.hp an.boxes).2)) &&
   eS ((aN P st.hp an.boxes).1.map (·.1)++((aW P st an.ca).2++(aN P st.hp an.boxes).2).map (·.1))
 ·rw[hnd] at aJ
  simp [bb] at aJ
 rw[hnd] at aJ
 simp only[cond_true] at aJ ⊢
 refine⟨?_,aJ⟩
 simp only[Bool.and_eq_true] at hnd
 obtain⟨β,φ,hc⟩:=hR.core
 have hold:=fm hnd.1
 have GF:=fm hnd.2
 rw[List.nodup_append] at GF
 obtain⟨MV,Ms,Hi⟩:=GF
 have jM:∀x∈(aW P st an.ca).2,x∈(aW P st an.ca).2++(aN P st.hp an.boxes).2:=fun x hx=>List.mem_append_left _ hx
 have Ak:∀x∈(aN P st.hp an.boxes).2,x∈(aW P st an.ca).2++(aN P st.hp an.boxes).2:=fun x hx=>List.mem_append_right _ hx
 have GA:∀x∈(aW P st an.ca).2++(aN P st.hp an.boxes).2,Bt (dF st.hp) x:=by
  intro x hx
  rcases List.mem_append.1 hx with hx | hx
  ·obtain⟨i,ck,h1⟩:=gT _ hx
   exact iV x h1
  ·obtain⟨lX,j,t,cells,h1,h2⟩:=fi _ hx
   exact gS cells 0 x h2
 generalize (aW P st an.ca).2++(aN P st.hp an.boxes).2=R at*
 have jJ:∀x∈R,A7 R x.1=some x.2:=fun x hx=>Fi hx Ms
 have gZ:Core w0 S st.get (dF st.hp) β φ a.tmps w:=hc
 refine⟨hR.size,hR.fx,hR.defers,hR.kept,β.iT R,iY φ R, ?_⟩
 have kr:∀j o,dF ((aN P st.hp an.boxes).1++R.map (fun x=>(x.1,x.2.1))) j=some o→(j,o)∈(aN P st.hp an.boxes).1∨∃lN,(j,o,lN)∈R:=by
  intro j o hj
  rcases List.mem_append.1 (Dn hj) with h1 | h1
  ·exact .inl h1
  ·obtain⟨x,hx,he⟩:=List.mem_map.1 h1
   obtain⟨k,o',lN⟩:=x
   simp only[Prod.mk.injEq] at he
   obtain⟨rfl,rfl⟩:=he
   exact .inr ⟨lN,hx⟩
 refine Cp gZ hold (fun j o hj=> ?_) (fun hA=>⟨fun i=> ?_,fun j t cells eN hj hh vs MJ=> ?_⟩)
 ·rcases kr j o hj with h1 | ⟨lN,h1⟩
  ·obtain⟨lX,t,cells,h2,h3,_⟩:=dL _ h1
   refine .inl ⟨Fh (fun hm=>Hi j (List.mem_map_of_mem (f:=(·.1)) h1) j hm rfl),t,cells,h2,_,h3⟩
  ·rcases GA _ h1 with ⟨id,g1,g2,g3⟩ | ⟨g1,g2⟩
   ·simp only at g1 g2 g3
    subst g2
    exact .inr (.inl ⟨id,jJ _ h1,g3,g1⟩)
   ·simp only at g1 g2
    subst g2
    exact .inr (.inr ⟨jJ _ h1,g1⟩)
 ·show ak w _ _ (jh (aW P st an.ca).1 i) _
  rcases gU (P:=P) (st:=st) (i:=i) an.ca with h1 | ⟨ck,h1,h2⟩
  ·rw[h1];simp [ak]
  ·rw[h1]
   exact (jw gZ (hc.ca i) hA (fun x hx=>jJ x (jM x (h2 x hx)))).1
 ·rcases kr j _ hj with h1 | ⟨lN,h1⟩
  ·obtain⟨lX,t',G4,h2,h3,h4⟩:=dL _ h1
   rw[hh] at h2
   simp only[Option.some.injEq,aj.box.injEq] at h2
   obtain⟨rfl,rfl⟩:=h2
   simp only[aj.box.injEq,true_and] at h3
   rw[h3]
   exact (iW gZ hA cells 0 vs MJ (fun x hx=>jJ x (Ak x (h4 x hx)))).1
  ·rcases GA _ h1 with ⟨id,g1,g2,g3⟩ | ⟨g1,g2⟩
   ·exact (g1.CM rfl).elim
   ·rcases g1 with ⟨_,_,g1⟩ | ⟨_,_,_,g1⟩<;>cases g1
theorem Du (st:St):st.DQ.ok=st.ok:=by
 unfold St.DQ
 split
 ·split
  ·split
   ·rename_i r _ _
    generalize (Nat.beq _ _ && _ && _ && _ && _:Bool)=c
    cases c<;>rfl
   ·rfl
  ·rfl
 ·rfl
theorem Fu {st:St} {a:Act} {w:World} (hR:Rel w0 S st a w):Rel w0 S st.DQ a w:=by
 unfold St.DQ
 split
 ·rename_i id hh
  split
  ·rename_i t e t1 rows i nid aL
   split
   ·rename_i t2 e2 r u hn
    cases hb:Nat.beq t2 t1 && HU e e2 && Nat.beq (aF e) 1 && !(Nat.beq nid id) && aq e2
    ·exact hR
    ·simp only[cond_true]
     simp only[Bool.and_eq_true,Bool.not_eq_true'] at hb
     obtain⟨⟨⟨⟨b1,b2⟩,b3⟩,b4⟩,b5⟩:=hb
     have b1:=Nat.eq_of_beq_eq_true b1
     subst b1
     have ku:∃e',e[d8 e]? =some (.sl e')∧e'=e2:=by
      unfold HU at b2
      split at b2
      ·rename_i e' he
       exact⟨e',he,aK _ _ b2⟩
      ·cases b2
     have cJ:nid≠id:=Nat.ne_of_beq_eq_false b4
     obtain⟨β,φ,hc⟩:=hR.core
     obtain⟨β',φ',gZ⟩:=DR hc (h':=dF (kD [(id,some (.deep t e [t2] (rows.set i (bQ (rows.getD i []) (d8 e) [.sl r])) none)),(nid,none)] st.hp)) aL hn ku (Nat.eq_of_beq_eq_true b3) cJ b5
      (by rw[ij];simp [fo,aA]) (fun j hj=>by rw[ij];simp [fo,aA,hj];rfl)
     exact⟨hR.size,hR.fx,hR.defers,hR.kept,β',φ',gZ⟩
   ·exact hR
  ·exact hR
 ·exact hR
theorem fZ (st:St):∀(l:List (Nat×CK)),bS st.obj (di st l)∧aM (di st l)=true
 | []=>⟨by simp [di,bS],rfl⟩
 | (i,.mN)::l=>fZ st l
 | (i,.own _)::l=>fZ st l
 | (i,.deep _ _)::l=>fZ st l
 | (i,.d7 _)::l=>by
  have ih:=fZ st l
  simp only[di]
  split
  ·rename_i id hg
   split
   ·rename_i t e r fz u aL
    cases hm:bP id (di st l)
    ·exact ih
    ·refine⟨fun x hx=> ?_,by simp only[cond_true,aM,hm,ih.2,Bool.and_self]⟩
     simp only[cond_true] at hx
     rcases List.mem_cons.1 hx with rfl | hx
     ·exact⟨_,aL,.inl ⟨t,fz,rfl⟩⟩
     ·exact ih.1 x hx
   ·exact ih
  ·exact ih
theorem FT {an:lE} {st:St} {a:Act} {w:World} (hR:Rel w0 S st a w):Rel w0 S (st.J6 an) a w:=by
 obtain⟨β,φ,hc⟩:=hR.core
 obtain⟨h1,h2⟩:=fZ st an.ca
 refine⟨hR.size,hR.fx,hR.defers,hR.kept,β,bm φ (di st an.ca), ?_⟩
 have:=hc.gw _ h1 h2
 show Core w0 S st.get (dF (kD (ai (di st an.ca)) st.hp)) _ _ _ _
 rw[ij]
 exact this
theorem Aa {an:lE} {st:St} {a:Act} {w:World} (hR:Rel w0 S st a w) (aJ:(canon P an st).ok=true):Rel w0 S (canon P an st) a w∧st.ok=true:=by
 have:=Co (FT (an:=an) (Fu hR)) aJ
 have h2:=this.2
 simp only[St.J6] at h2
 rw[Du] at h2
 exact⟨this.1,h2⟩
end
end Go.Proofs.YtngbcccnjiaddaaGreat.Vm
namespace Go.Proofs.YtngbcccnjiaddaaGreat.Vm
section
variable {P:Program} {Γ:Ctx} {w0:World} {S:Own} {A:List (Nat×lE)} {N:Nat} {r:List DC}
structure Lo (K:AD) (r:List DC):Prop where
 eM:∀st,K.eM st=(true,r)→st.ok=true
 ext:∀i st,K.ext i st=(true,r)→st.ok=true
 ret:∀st,K.ret st=(true,r)→st.ok=true
theorem DB {an:lE} {st:St} (h:(kg P an st).ok=true):st.ok=true:=by
 unfold kg at h
 simp only at h
 cases hnd:eS (ep ((aW P st an.ca).2++(aN P st.hp an.boxes).2)) &&
   eS ((aN P st.hp an.boxes).1.map (·.1)++((aW P st an.ca).2++(aN P st.hp an.boxes).2).map (·.1))
 ·rw[hnd] at h
  simp [bb] at h
 ·rw[hnd] at h
  exact h
theorem jx {an:lE} {st:St} (h:(canon P an st).ok=true):st.ok=true:=by
 have:=DB h
 have h2:st.DQ.ok=true:=this
 rwa [Du] at h2
theorem bG:ke≠(true,r):=by simp [ke]
theorem A9 {st:St} {c:Operand} {x y:Code} {g:Bool} (h:(merge st g (exec P Γ x (st.reset.dg c true)) (exec P Γ y (st.reset.dg c false))).ok=true):st.ok=true:=by
 have lK:=cX h
 cases g with
 | true=>have:=(dZ x _ (lK.1 rfl)).ok;rwa [eG] at this
 | false=>have:=(dZ y _ (lK.2 rfl)).ok;rwa [eG] at this
def kY (P:Program) (Γ:Ctx) (A:List (Nat×lE)) (N:Nat) (x:Code) (an:lE) (K:AD) (n:Nat):St→kM:=
 Nat.rec (motive:=fun _=>St→kM) (fun _=>ke) (fun _ ih s=>run P Γ A N x s {eM:=fun s'=>ih (canon P an s'),ext:=K.ext,ret:=K.ret}) n
theorem ji {x:Code} {an:lE} {K:AD} {n:Nat} {s:St} :kY P Γ A N x an K (n+1) s=run P Γ A N x s {eM:=fun s'=>kY P Γ A N x an K n (canon P an s'),ext:=K.ext,ret:=K.ret} :=rfl
theorem fO:∀(c:Code) (st:St) (K:AD),Lo K r→run P Γ A N c st K=(true,r)→st.ok=true
 | .skip,st,K,hK,h=>hK.eM st (by simpa only[run] using h)
 | .region id ops draw,st,K,hK,h=>by
  simp only[run] at h
  exact (AA (hK.eM _ (Df h))).ok
 | .seq x y,st,K,hK,h=>by
  simp only[run] at h
  exact fO x st {eM:=fun s=>run P Γ A N y s K,ext:=K.ext,ret:=K.ret} ⟨fun s hs=>fO y s K hK hs,hK.ext,hK.ret⟩ h
 | .cond c x y,st,K,hK,h=>by
  simp only[run] at h
  split at h
  ·rename_i t Ai
   cases t with
   | true=>exact fO x st K hK h
   | false=>exact fO y st K hK h
  ·rename_i g Ai
   cases hm:simple x && simple y && kB st g (exec P Γ x (st.reset.dg c true)) (exec P Γ y (st.reset.dg c false))
   ·rw[hm] at h
    simp only[cond_false] at h
    cases g with
    | true=>
     have:=fO x _ K hK h
     rwa [eG] at this
    | false=>
     have:=fO y _ K hK h
     rwa [eG] at this
   ·rw[hm] at h
    simp only[cond_true] at h
    exact A9 (hK.eM _ (Df h))
  ·exact absurd h bG
 | .block id x,st,K,hK,h=>by
  simp only[run] at h
  refine fO x st {eM:=K.eM,ext:=fun i s=>bif Nat.beq i id then K.eM s else K.ext i s,ret:=K.ret} ⟨hK.eM,fun i s hs=> ?_,hK.ret⟩ h
  simp only at hs
  cases hb:Nat.beq i id
  ·rw[hb] at hs;exact hK.ext i s hs
  ·rw[hb] at hs;exact hK.eM s hs
 | .loop x,st,K,hK,h=>by
  simp only[run] at h
  split at h
  ·rename_i an L9
   have key:∀n s,kY P Γ A N x an K n s=(true,r)→s.ok=true:=by
    intro n
    induction n with
    | zero=>intro s hs;exact absurd hs bG
    | succ n ih=>
     intro s hs
     rw[ji] at hs
     exact fO x s {eM:=fun s'=>kY P Γ A N x an K n (canon P an s'),ext:=K.ext,ret:=K.ret} ⟨fun s' BL=>jx (ih _ BL),hK.ext,hK.ret⟩ hs
   exact jx (key N _ h)
  ·exact absurd h bG
 | .exit id,st,K,hK,h=>hK.ext id st (by simpa only[run] using h)
 | .ret,st,K,hK,h=>hK.ret st (by simpa only[run] using h)
 | .rangeFunc ..,st,_,_,h=>by simp only[run] at h;exact absurd h bG
 | .scope ..,st,_,_,h=>by simp only[run] at h;exact absurd h bG
 | .goto ..,st,_,_,h=>by simp only[run] at h;exact absurd h bG
 | .label ..,st,_,_,h=>by simp only[run] at h;exact absurd h bG
 | .refuse ..,st,_,_,h=>by simp only[run] at h;exact absurd h bG
structure KQ (w0:World) (S:Own) (K:AD) (r:List DC) (Q:Exit→Act→World→Prop):Prop where
 eM:∀st a w,Rel w0 S st a w→K.eM st=(true,r)→Q .normal a w
 ext:∀i st a w,Rel w0 S st a w→K.ext i st=(true,r)→Q (.exit i) a w
 ret:∀st a w,Rel w0 S st a w→K.ret st=(true,r)→Q .ret a w
theorem cN (eR:bF P Γ):∀(c:Code) (st:St) (K:AD) (a:Act) (w:World) (Q:Exit→Act→World→Prop),Lo K r→Rel w0 S st a w→run P Γ A N c st K=(true,r)→KQ w0 S K r Q→c.wp P Q a w
 | .skip,st,K,a,w,Q,hK,hR,h,hQ=>wp_skip (hQ.eM st a w hR (by simpa only[run] using h))
 | .region id ops draw,st,K,a,w,Q,hK,hR,h,hQ=>by
  simp only[run] at h
  have h:=Df h
  exact jY eR hR (hK.eM _ h) (fun a' w' eO=>hQ.eM _ a' w' eO h)
 | .seq x y,st,K,a,w,Q,hK,hR,h,hQ=>by
  simp only[run] at h
  refine wp_seq (cN eR x st {eM:=fun s=>run P Γ A N y s K,ext:=K.ext,ret:=K.ret} a w _ ⟨fun s hs=>fO y s K hK hs,hK.ext,hK.ret⟩ hR h ⟨fun s a' w' eO hs=> ?_,fun i s a' w' eO hs=> ?_,fun s a' w' eO hs=> ?_⟩)
  ·exact cN eR y s K a' w' Q hK eO hs hQ
  ·exact hQ.ext i s a' w' eO hs
  ·exact hQ.ret s a' w' eO hs
 | .cond c x y,st,K,a,w,Q,hK,hR,h,hQ=>by
  simp only[run] at h
  split at h
  ·rename_i t Ai
   refine wp_cond (Gt hR Ai) ?_
   cases t with
   | true=>exact cN eR x st K a w Q hK hR h hQ
   | false=>exact cN eR y st K a w Q hK hR h hQ
  ·rename_i g Ai
   have hb:=Dc hR Ai
   cases hm:simple x && simple y && kB st g (exec P Γ x (st.reset.dg c true)) (exec P Γ y (st.reset.dg c false))
   ·rw[hm] at h
    simp only[cond_false] at h
    refine wp_cond hb ?_
    cases g with
    | true=>exact cN eR x _ K a w Q hK (iK hR hb) h hQ
    | false=>exact cN eR y _ K a w Q hK (iK hR hb) h hQ
   ·rw[hm] at h
    simp only[cond_true] at h
    have h:=Df h
    have aJ:=hK.eM _ h
    have he:exec P Γ (.cond c x y) st=merge st g (exec P Γ x (st.reset.dg c true)) (exec P Γ y (st.reset.dg c false)):=by
     simp only[exec,Ai]
    exact gu eR (.cond c x y) st a w Q hR (by rw[he];exact aJ) (fun a' w' eO=>hQ.eM _ a' w' eO (by rw[he];exact h))
  ·exact absurd h bG
 | .block id x,st,K,a,w,Q,hK,hR,h,hQ=>by
  simp only[run] at h
  refine wp_block (cN eR x st {eM:=K.eM,ext:=fun i s=>bif Nat.beq i id then K.eM s else K.ext i s,ret:=K.ret} a w _ ⟨hK.eM,fun i s hs=> ?_,hK.ret⟩ hR h ⟨fun s a' w' eO hs=>hQ.eM s a' w' eO hs,fun i s a' w' eO hs=> ?_,fun s a' w' eO hs=>hQ.ret s a' w' eO hs⟩)
  ·simp only at hs
   cases hb:Nat.beq i id
   ·rw[hb] at hs;exact hK.ext i s hs
   ·rw[hb] at hs;exact hK.eM s hs
  ·simp only at hs
   simp only[Exit.inBlock]
   cases hb:Nat.beq i id
   ·rw[hb] at hs
    rw[if_neg (Nat.ne_of_beq_eq_false hb)]
    exact hQ.ext i s a' w' eO hs
   ·rw[hb] at hs
    rw[if_pos (Nat.eq_of_beq_eq_true hb)]
    exact hQ.eM s a' w' eO hs
 | .loop x,st,K,a,w,Q,hK,hR,h,hQ=>by
  simp only[run] at h
  split at h
  ·rename_i an L9
   have HB:∀n s,kY P Γ A N x an K n s=(true,r)→s.ok=true:=by
    intro n
    induction n with
    | zero=>intro s hs;exact absurd hs bG
    | succ n ih=>
     intro s hs
     rw[ji] at hs
     exact fO x s {eM:=fun s'=>kY P Γ A N x an K n (canon P an s'),ext:=K.ext,ret:=K.ret} ⟨fun s' BL=>jx (ih _ BL),hK.ext,hK.ret⟩ hs
   have key:∀n s a w,Rel w0 S s a w→kY P Γ A N x an K n s=(true,r)→Code.rounds P x Q n a w:=by
    intro n
    induction n with
    | zero=>intro s a w _ hs;exact absurd hs bG
    | succ n ih=>
     intro s a w hR hs
     rw[ji] at hs
     rw[rounds_succ]
     refine cN eR x s {eM:=fun s'=>kY P Γ A N x an K n (canon P an s'),ext:=K.ext,ret:=K.ret} a w _ ⟨fun s' BL=>jx (HB _ _ BL),hK.ext,hK.ret⟩ hR hs ⟨fun s' a' w' eO BL=> ?_,fun i s' a' w' eO BL=> ?_,fun s' a' w' eO BL=> ?_⟩
     ·exact ih _ a' w' (Aa eO (HB _ _ BL)).1 BL
     ·exact hQ.ext i s' a' w' eO BL
     ·exact hQ.ret s' a' w' eO BL
   exact wp_loop_rounds N (key N _ a w (Aa hR (HB _ _ h)).1 h)
  ·exact absurd h bG
 | .exit id,st,K,a,w,Q,hK,hR,h,hQ=>wp_exit (hQ.ext id st a w hR (by simpa only[run] using h))
 | .ret,st,K,a,w,Q,hK,hR,h,hQ=>wp_ret (hQ.ret st a w hR (by simpa only[run] using h))
 | .rangeFunc ..,st,_,_,_,_,_,_,h,_=>by simp only[run] at h;exact absurd h bG
 | .scope ..,st,_,_,_,_,_,_,h,_=>by simp only[run] at h;exact absurd h bG
 | .goto ..,st,_,_,_,_,_,_,h,_=>by simp only[run] at h;exact absurd h bG
 | .label ..,st,_,_,_,_,_,_,h,_=>by simp only[run] at h;exact absurd h bG
 | .refuse ..,st,_,_,_,_,_,_,h,_=>by simp only[run] at h;exact absurd h bG
end
end Go.Proofs.YtngbcccnjiaddaaGreat.Vm
namespace Go.Proofs.YtngbcccnjiaddaaGreat.Vm
section
variable {P:Program} {Γ:Ctx} {w0:World} {S:Own} {A:List (Nat×lE)} {N:Nat}
variable {f:Nat→SV} {h:Nat→Option aj} {β:Env} {φ:Nat→List Nat} {tm:Array Value} {w:World}
def mC (tmps:Array Value):ResultVar→Sem Value
 | .tmp t=>pure (tmps.getD t undef)
 | .cell a t=>do loadVar t (←asAddr (tmps.getD a undef))
theorem Fm (hc:Core w0 S f h β φ tm w) {id off:Nat} {t:TypeId} {e:cL} (he:(mw P t (.ptr id off)).val f h=some e) {v:Value} (hv:v= .pointer (some ⟨β.cU id,off,none⟩)):
  ∃u,(do loadVar t (←asAddr v):Sem Value).run P w= .ok u w∧ak w (Av h β) β e.sv u:=by
 have conv:∀u,(Instr.loadAt t v).run P w= .ok u w→(do loadVar t (←asAddr v):Sem Value).run P w= .ok u w:=by
  intro u hu
  subst hv
  exact hu
 unfold mw at he
 split at he
 case h_2=>simp at he
 rename_i td hu
 simp only[CH,M.aU,Option.bind_eq_some_iff] at he
 obtain⟨ob,aL,he⟩:=he
 split at he
 ·rename_i t' cells
  cases ha:bq P t
  ·simp only[ha,cond_false] at he
   split at he
   ·rename_i s hs
    simp only[M.aa,Option.some.injEq] at he
    subst he
    obtain⟨vs,hh,hr,_,_⟩:=hc.ay id _ aL
    obtain⟨u,CE,fT⟩:=af.get _ _ _ _ hr hs
    refine⟨u,conv u ?_,fT⟩
    rw[hv]
    exact dU ha hu (by rw[jy hh];exact CE)
   ·simp at he
  ·simp only[ha,cond_true] at he
   split at he
   ·rename_i i hi
    cases hz:Nat.ble (off+i.size) cells.length
    ·simp [hz] at he
    ·simp only[hz,cond_true,M.aa,Option.some.injEq] at he
     subst he
     have hle:=Nat.le_of_ble_eq_true hz
     obtain⟨vs,hh,hr,bg,_⟩:=hc.ay id _ aL
     have hlen:=af.length _ _ hr
     refine⟨.agg ((vs.drop off).take i.size).toArray,conv _ ?_, ?_⟩
     ·rw[hv]
      refine fu (vs:=(vs.drop off).take i.size) ha hi (by simp;omega) (fun j v hj=> ?_)
      rw[jy hh]
      rw[List.getElem?_take] at hj
      split at hj
      ·simpa using hj
      ·cases hj
     ·simp only[ak]
      exact⟨_,rfl,af.take _ _ _ (af.drop _ _ _ hr),fun y hy=>bg y (List.mem_of_mem_drop (List.mem_of_mem_take hy))⟩
   ·simp at he
 ·simp at he
theorem iM (hc:Core w0 S f h β φ tm w):∀(l:List ResultVar) (ss:List SV),(gF P l).val f h=some ss→∃vs,(l.mapM (mC tm)).run P w= .ok vs w∧af w (Av h β) β ss vs
 | [],ss,hs=>by
  simp only[gF,M.aa,Option.some.injEq] at hs
  subst hs
  exact⟨[],by simp,by simp [af]⟩
 | .tmp t::l,ss,hs=>by
  simp only[gF,M.iB,M.ae,Option.bind_eq_some_iff,M.aa,Option.some.injEq] at hs
  obtain⟨r,hr,rfl⟩:=hs
  obtain⟨vs,h1,h2⟩:=iM hc l r hr
  refine⟨tm.getD t undef::vs, ?_, ?_⟩
  ·simp only[List.mapM_cons,mC,Sem.run_bind,Sem.run_pure,Result.andThen_ok,h1]
  ·simp only[af]
   exact⟨_,_,rfl,hc.ca t,h2⟩
 | .cell p t::l,ss,hs=>by
  simp only[gF,M.iB,M.ae,Option.bind_eq_some_iff,M.aa,Option.some.injEq] at hs
  obtain⟨e,he,r,hr,rfl⟩:=hs
  obtain⟨vs,h1,h2⟩:=iM hc l r hr
  have ku:=hc.ca p
  split at he
  ·rename_i id off hp
   rw[hp] at ku
   simp only[ak] at ku
   obtain⟨u,g1,g2⟩:=Fm hc he ku
   refine⟨u::vs, ?_, ?_⟩
   ·simp only[List.mapM_cons,Sem.run_bind,Sem.run_pure]
    have:(mC tm (.cell p t)).run P w= .ok u w:=g1
    simp only[this,Result.andThen_ok,h1]
   ·simp only[af]
    exact⟨_,_,rfl,g2,h2⟩
  ·simp at he
theorem CR {fn:Func} :results fn tm=(do let vs ←fn.results.mapM (mC tm);pure (if h:vs.size=1 then vs[0] else .tuple vs)):=by
 unfold results
 congr 1
theorem Gi (l:List Value):(if h:l.toArray.size=1 then l.toArray[0] else .tuple l.toArray)=pack l:=by
 cases l with
 | nil=>rfl
 | cons x l=>
  cases l with
  | nil=>rfl
  | cons y l=>simp [pack]
theorem lf {fn:Func} {vs:List Value} (hr:(fn.results.toList.mapM (mC tm)).run P w= .ok vs w):(results fn tm).run P w= .ok (pack vs) w:=by
 rw[CR,Array.mapM_eq_mapM_toList]
 simp only[Sem.run_bind,map_eq_pure_bind,Sem.run_pure,hr,Result.andThen_ok,bind_assoc,pure_bind]
 rw[Gi]
theorem gW (hc:Core w0 S f h β φ tm w):∀(CP:List RC) (ss:List SV) (vs:List Value) (q:List DC×List Nat×List Nat),af w (Av h β) β ss vs→(dN CP ss).val f h=some q→
  ∃φ' im tp,dh w CP q.1 vs φ' im tp∧(∀b∈φ',∃i∈q.2.1,(∃o,h i=some o)∧b∈φ i)∧(∀b∈tp,∃i o,i∈q.2.1∧h i=some o∧b∈al β i o)∧(q.2.1.Nodup→φ'.Nodup)∧
   (∀b∈im,¬Av h β b∨∃i∈q.2.2,(∃o,h i=some o)∧b∈φ i)
 | [],[],vs,q,hs,hq=>by
  simp only[dN,M.aa,Option.some.injEq] at hq
  subst hq
  simp only[af] at hs
  exact⟨[],[],[],⟨rfl,hs,rfl,rfl,rfl⟩,by simp,by simp,by simp,by simp⟩
 | [],_::_,vs,q,hs,hq=>by simp [dN] at hq
 | _::_,[],vs,q,hs,hq=>by simp [dN] at hq
 | rc::CP,s::ss,vs,q,hs,hq=>by
  simp only[af] at hs
  obtain⟨v,l,rfl,h1,h2⟩:=hs
  simp only[dN,M.ae,Option.bind_eq_some_iff,M.aa,Option.some.injEq] at hq
  obtain⟨q1,aG,q2,cx,rfl⟩:=hq
  obtain⟨Bk,mL,D6,g1,g2,g3,g4,g5⟩:=gW hc CP ss l q2 h2 cx
  cases rc with
  | d7 ct=>
   simp only[fF,M.ae,Option.bind_eq_some_iff,M.aa,Option.some.injEq] at aG
   obtain⟨p,hp,rfl⟩:=aG
   obtain⟨fp,r1,r2,_,r4,_⟩:=dz hc h1 hp
   refine⟨Bk,fp++mL,D6,⟨p.1,q2.1,v,l,fp,mL,rfl,rfl,r1,g1,rfl⟩, ?_, ?_, ?_, ?_⟩
   ·simpa using g2
   ·simpa using g3
   ·simpa using g4
   ·intro b hb
    rcases List.mem_append.1 hb with hb | hb
    ·rcases r4 b hb with h3 | ⟨x,hx,h3⟩
     ·exact .inl h3
     ·obtain⟨_,Ck,_⟩:=r2 x hx
      exact .inr ⟨x.1,List.mem_append_left _ (List.mem_map_of_mem hx),⟨_,Ck⟩,ah (hc.ay _ _ Ck) b (by rw[fg Ck] at h3;exact h3)⟩
    ·rcases g5 b hb with h3 | ⟨i,hi,h3⟩
     ·exact .inl h3
     ·exact .inr ⟨i,List.mem_append_right _ hi,h3⟩
  | own t e=>
   cases s with
   | nil=>
    simp only[fF,M.aa,Option.some.injEq] at aG
    subst aG
    simp only[ak] at h1
    subst h1
    refine⟨Bk,mL,D6,⟨[],q2.1,_,l,[],[],Bk,D6,rfl,rfl,⟨by simp,.inl ⟨rfl,rfl,rfl⟩⟩,⟨rfl,by simp⟩,g1,by simp [Value.ownBlock],by simp [Value.ownBlock]⟩, ?_, ?_, ?_, ?_⟩
    ·simpa using g2
    ·simpa using g3
    ·simpa using g4
    ·simpa using g5
   | own id=>
    simp only[fF,M.aU,Option.bind_eq_some_iff] at aG
    obtain⟨ob,aL,aG⟩:=aG
    split at aG
    ·rename_i t' e' r u
     cases aI:Nat.beq t t' && aE e e' && u
     ·simp [aI] at aG
     ·simp only[aI,cond_true,M.aa,Option.some.injEq] at aG
      subst aG
      simp only[Bool.and_eq_true] at aI
      obtain⟨⟨ht,he⟩,hu⟩:=aI
      have Lb:=Nat.eq_of_beq_eq_true ht
      have JG:=aK _ _ he
      subst Lb JG hu
      simp only[ak] at h1
      obtain⟨vals,az,o1,o2,o3,o4⟩:=hc.ay id _ aL
      rw[←h1.1] at o1
      simp only[cond_true] at o4
      rw[←h1.1] at o4
      refine⟨(v.ownBlock.toList++az.flatten)++Bk,mL,v.ownBlock.toList++D6,⟨r,q2.1,v,l,vals,az,Bk,D6,rfl,rfl,o1,o2,g1,rfl,rfl⟩, ?_, ?_, ?_, ?_⟩
      ·intro b hb
       rcases List.mem_append.1 hb with hb | hb
       ·exact⟨id,List.mem_append_left _ (List.mem_singleton.2 rfl),⟨_,aL⟩,by rw[o4];exact hb⟩
       ·obtain⟨i,hi,h3⟩:=g2 b hb
        exact⟨i,List.mem_append_right _ hi,h3⟩
      ·intro b hb
       rcases List.mem_append.1 hb with hb | hb
       ·exact⟨id,_,List.mem_append_left _ (List.mem_singleton.2 rfl),aL,by rw[h1.1] at hb;simpa [al] using hb⟩
       ·obtain⟨i,o,hi,h3⟩:=g3 b hb
        exact⟨i,o,List.mem_append_right _ hi,h3⟩
      ·intro hnd
       simp only[List.singleton_append,List.nodup_cons] at hnd
       rw[List.nodup_append]
       refine⟨o4 ▸ (hc.fresh id _ aL).1,g4 hnd.2,fun b hb b' ax e=> ?_⟩
       subst e
       obtain⟨i,hi,⟨o,Ci⟩,h3⟩:=g2 b ax
       have cJ:id≠i:=fun e=>hnd.1 (e ▸ hi)
       exact hc.sep id i _ _ cJ aL Ci b (o4 ▸ hb) h3
      ·simpa using g5
    ·simp at aG
   | _=>simp [fF] at aG
  | deep t e ts=>
   cases s with
   | nil=>
    simp only[fF,M.aa,Option.some.injEq] at aG
    subst aG
    simp only[ak] at h1
    subst h1
    refine⟨Bk,mL,D6,⟨[],q2.1,_,l,[],[],Bk,D6,rfl,rfl,⟨by simp,.inl ⟨rfl,rfl,rfl⟩⟩,⟨rfl,by simp⟩,g1,by simp [Value.ownBlock],by simp [Value.ownBlock]⟩, ?_, ?_, ?_, ?_⟩
    ·simpa using g2
    ·simpa using g3
    ·simpa using g4
    ·simpa using g5
   | own id=>
    simp only[fF,M.aU,Option.bind_eq_some_iff] at aG
    obtain⟨ob,aL,aG⟩:=aG
    split at aG
    ·rename_i t' e' d5 r
     cases aI:Nat.beq t t' && aE e e' && fJ ts d5
     ·simp [aI] at aG
     ·simp only[aI,cond_true,M.aa,Option.some.injEq] at aG
      subst aG
      simp only[Bool.and_eq_true] at aI
      obtain⟨⟨ht,he⟩,hu⟩:=aI
      have Lb:=Nat.eq_of_beq_eq_true ht
      have JG:=aK _ _ he
      have CE:=gi _ _ hu
      subst Lb JG CE
      simp only[ak] at h1
      obtain⟨vals,aT,o1,o2,o3,o4⟩:=hc.ay id _ aL
      rw[←h1.1] at o1
      rw[←h1.1] at o4
      have bW:∀b∈(v.ownBlock.toList++aT.flatten),b∈al β id (.deep t e ts r none):=fun b hb=>by
       rw[h1.1] at hb
       simpa only[al,o3] using hb
      refine⟨(v.ownBlock.toList++aT.flatten)++Bk,mL,(v.ownBlock.toList++aT.flatten)++D6,⟨r,q2.1,v,l,vals,aT,Bk,D6,rfl,rfl,o1,o2,g1,rfl,rfl⟩, ?_, ?_, ?_, ?_⟩
      ·intro b hb
       rcases List.mem_append.1 hb with hb | hb
       ·exact⟨id,List.mem_append_left _ (List.mem_singleton.2 rfl),⟨_,aL⟩,by rw[o4];exact hb⟩
       ·obtain⟨i,hi,h3⟩:=g2 b hb
        exact⟨i,List.mem_append_right _ hi,h3⟩
      ·intro b hb
       rcases List.mem_append.1 hb with hb | hb
       ·exact⟨id,_,List.mem_append_left _ (List.mem_singleton.2 rfl),aL,bW b hb⟩
       ·obtain⟨i,o,hi,h3⟩:=g3 b hb
        exact⟨i,o,List.mem_append_right _ hi,h3⟩
      ·intro hnd
       simp only[List.singleton_append,List.nodup_cons] at hnd
       rw[List.nodup_append]
       refine⟨o4 ▸ (hc.fresh id _ aL).1,g4 hnd.2,fun b hb b' ax e=> ?_⟩
       subst e
       obtain⟨i,hi,⟨o,Ci⟩,h3⟩:=g2 b ax
       have cJ:id≠i:=fun e=>hnd.1 (e ▸ hi)
       exact hc.sep id i _ _ cJ aL Ci b (o4 ▸ hb) h3
      ·simpa using g5
    ·simp at aG
   | _=>simp [fF] at aG
theorem jb (hc:Core w0 S f h β φ tm w):∀(BZ:List RK) (ss:List SV) (vs:List Value) (q:List DC×List Nat×List Nat),af w (Av h β) β ss vs→(fG BZ ss).val f h=some q→
  ∃φ' im tp,fh w BZ q.1 vs φ' im tp∧(∀b∈φ',∃i∈q.2.1,(∃o,h i=some o)∧b∈φ i)∧(∀b∈tp,∃i o,i∈q.2.1∧h i=some o∧b∈al β i o)∧(q.2.1.Nodup→φ'.Nodup)∧
   (∀b∈im,¬Av h β b∨∃i∈q.2.2,(∃o,h i=some o)∧b∈φ i)
 | [],[],vs,q,hs,hq=>by
  simp only[fG,M.aa,Option.some.injEq] at hq
  subst hq
  simp only[af] at hs
  exact⟨[],[],[],⟨rfl,hs,rfl,rfl,rfl⟩,by simp,by simp,by simp,by simp⟩
 | [],_::_,vs,q,hs,hq=>by simp [fG] at hq
 | _::_,[],vs,q,hs,hq=>by simp [fG] at hq
 | k::ks,s::ss,vs,q,hs,hq=>by
  simp only[af] at hs
  obtain⟨v,l,rfl,h1,h2⟩:=hs
  simp only[fG,M.ae,Option.bind_eq_some_iff,M.aa,Option.some.injEq] at hq
  obtain⟨q1,aG,q2,cx,rfl⟩:=hq
  obtain⟨Bk,mL,D6,g1,g2,g3,g4,g5⟩:=jb hc ks ss l q2 h2 cx
  have one:∃us:List Value,(bif k.agg then v= .agg us.toArray else us=[v])∧(∀x∈us,x.oneCell'=true)∧∃DZ Jn Jv,dh w k.cells q1.1 us DZ Jn Jv∧(∀b∈DZ,∃i∈q1.2.1,(∃o,h i=some o)∧b∈φ i)∧
    (∀b∈Jv,∃i o,i∈q1.2.1∧h i=some o∧b∈al β i o)∧(q1.2.1.Nodup→DZ.Nodup)∧(∀b∈Jn,¬Av h β b∨∃i∈q1.2.2,(∃o,h i=some o)∧b∈φ i):=by
   cases hk:k.agg with
   | true=>
    cases s with
    | agg cs=>
     simp only[hk] at aG
     simp only[ak] at h1
     obtain⟨us,rfl,gj,bg⟩:=h1
     exact⟨us,rfl,bg,gW hc k.cells cs us q1 gj aG⟩
    | _=>simp [hk] at aG
   | false=>
    have lz:(dN k.cells [s]).val f h=some q1:=by
     cases s<;>simp only[hk] at aG<;>first | exact aG | (simp at aG)
    have ia:af w (Av h β) β [s] [v]:=by simp only[af];exact⟨v,[],rfl,h1,rfl⟩
    have A0:=gW hc k.cells [s] [v] q1 ia lz
    refine⟨[v],rfl, ?_,A0⟩
    obtain⟨_,_,_,hr,_⟩:=A0
    intro x hx
    rw[List.mem_singleton] at hx
    subst hx
    cases fA:k.cells with
    | nil=>rw[fA] at hr;simp [dh] at hr
    | cons c cs=>
     rw[fA] at hr
     cases c with
     | d7 ct=>
      obtain⟨d,aZ,v',cK,f1,E8,_,hv,h3,_⟩:=hr
      simp only[List.cons.injEq] at hv
      rw[hv.1]
      exact h3.one
     | own t e=>
      obtain⟨rows,aZ,v',cK,vals,az,φ',Bj,_,hv,h3,_⟩:=hr
      simp only[List.cons.injEq] at hv
      rw[hv.1]
      exact h3.one
     | deep t e ts=>
      obtain⟨rows,aZ,v',cK,vals,az,φ',Bj,_,hv,h3,_⟩:=hr
      simp only[List.cons.injEq] at hv
      rw[hv.1]
      exact h3.one
  obtain⟨us,gj,bg,DZ,Jn,Jv,k1,k2,k3,k4,k5⟩:=one
  refine⟨DZ++Bk,Jn++mL,Jv++D6,⟨q1.1,q2.1,v,l,us,DZ,Bk,Jn,mL,Jv,D6,rfl,rfl,gj,bg,k1,g1,rfl,rfl,rfl⟩, ?_, ?_, ?_, ?_⟩
  ·intro b hb
   rcases List.mem_append.1 hb with hb | hb
   ·obtain⟨i,hi,h3⟩:=k2 b hb
    exact⟨i,List.mem_append_left _ hi,h3⟩
   ·obtain⟨i,hi,h3⟩:=g2 b hb
    exact⟨i,List.mem_append_right _ hi,h3⟩
  ·intro b hb
   rcases List.mem_append.1 hb with hb | hb
   ·obtain⟨i,o,hi,h3⟩:=k3 b hb
    exact⟨i,o,List.mem_append_left _ hi,h3⟩
   ·obtain⟨i,o,hi,h3⟩:=g3 b hb
    exact⟨i,o,List.mem_append_right _ hi,h3⟩
  ·intro hnd
   rw[List.nodup_append] at hnd ⊢
   refine⟨k4 hnd.1,g4 hnd.2.1,fun b hb b' ax e=> ?_⟩
   subst e
   obtain⟨i,hi,⟨o,Ci⟩,h3⟩:=k2 b hb
   obtain⟨j,hj,⟨o',jd⟩,h4⟩:=g2 b ax
   exact hc.sep i j _ _ (hnd.2.2 i hi j hj) Ci jd b h3 h4
  ·intro b hb
   rcases List.mem_append.1 hb with hb | hb
   ·rcases k5 b hb with h3 | ⟨i,hi,h3⟩
    ·exact .inl h3
    ·exact .inr ⟨i,List.mem_append_left _ hi,h3⟩
   ·rcases g5 b hb with h3 | ⟨i,hi,h3⟩
    ·exact .inl h3
    ·exact .inr ⟨i,List.mem_append_right _ hi,h3⟩
end
end Go.Proofs.YtngbcccnjiaddaaGreat.Vm
set_option linter.unusedVariables false
namespace Go.Proofs.YtngbcccnjiaddaaGreat.Vm
mutual
def G1:CT→DC→Prop
 | .int k,d=>∃n,d= .int n∧BS k n=true
 | .bool,d=>∃b,d= .bool b
 | .str,d=>∃s:List UInt8,d= .str s∧s.length≤maxLen
 | .sl e,d=>∃rows:List (List DC),d= .sl rows∧rows.length≤maxLen∧∀r∈rows,kc e r
def kc:List CT→List DC→Prop
 | [],r=>r=[]
 | c::cs,r=>∃d r',r=d::r'∧G1 c d∧kc cs r'
end
mutual
theorem bV.wt {w:World} :∀(c:CT) (d:DC) (v:Value) (fp:List Nat),bV w c d v fp→G1 c d
 | .int k,_,_,_,h=>by
  simp only[bV,G1] at h ⊢
  obtain⟨n,h1,_,h2,_⟩:=h
  exact⟨n,h1,h2⟩
 | .bool,_,_,_,h=>by
  simp only[bV,G1] at h ⊢
  obtain⟨n,h1,_⟩:=h
  exact⟨n,h1⟩
 | .str,_,_,_,h=>by
  simp only[bV,G1] at h ⊢
  obtain⟨s,h1,_,h2,_⟩:=h
  exact⟨s,h1,h2⟩
 | .sl e,_,_,_,h=>by
  simp only[bV,G1] at h ⊢
  obtain⟨rows,a,n,c,rfl,_,hn,hc,hm,hr⟩:=h
  refine⟨rows,rfl,by omega,fun r EY=> ?_⟩
  rcases hr with ⟨h0,_⟩ | ⟨_,b,o,az,_,_,hl,_,hr⟩
  ·rw[h0] at hn
   rw[List.length_eq_zero_iff.1 hn] at EY
   simp at EY
  ·obtain⟨i,hi,rfl⟩:=List.getElem_of_mem EY
   exact a8.wt e _ _ _ (hr i rows[i] az[i] (by simp) (by simp))
theorem a8.wt {w:World} :∀(cs:List CT) (r:List DC) (f:Nat→Option Value) (fp:List Nat),a8 w cs r f fp→kc cs r
 | [],_,_,_,h=>by
  simp only[a8,kc] at h ⊢
  exact h.1
 | c::cs,_,_,_,h=>by
  simp only[a8,kc] at h ⊢
  obtain⟨d,r',v,f1,f2,h0,_,h1,h2,_⟩:=h
  exact⟨d,r',h0,bV.wt c d v f1 h1,a8.wt cs r' _ f2 h2⟩
end
def gV:List AK→List CT
 | []=>[]
 | k::ks=>k.bB++gV ks
theorem kc.append:∀ {cs Bw:List CT} {r r':List DC},kc cs r→kc Bw r'→kc (cs++Bw) (r++r')
 | [],_,_,_,h,h'=>by
  simp only[kc] at h
  subst h
  exact h'
 | c::cs,_,_,_,h,h'=>by
  simp only[kc] at h
  obtain⟨d,r1,rfl,h1,h2⟩:=h
  simp only[List.cons_append,kc]
  exact⟨d,r1++_,rfl,h1,h2.append h'⟩
theorem dk.wt {w:World} :∀(ks:List AK) (ds:List DC) (vs:List Value) (fp:List Nat),dk w ks ds vs fp→kc (gV ks) ds
 | [],_,_,_,h=>by
  simp only[gV,kc]
  exact h.1
 | k::ks,_,_,_,h=>by
  obtain⟨d1,d2,v,cK,f1,f2,rfl,rfl,⟨us,_,_,hr,_⟩,h2,rfl⟩:=h
  exact kc.append (a8.wt _ _ _ _ hr) (dk.wt ks d2 cK f2 h2)
section
variable {P:Program} {Γ:Ctx} {A:List (Nat×lE)} {w:World}
theorem jU:∀(cs:List CT) (d1 d2:List DC) (k:Nat),k+cs.length≤d1.length→cg cs (d1++d2) k=cg cs d1 k
 | [],_,_,_,_=>rfl
 | c::cs,d1,d2,k,h=>by
  simp only[cg]
  simp only[List.length_cons] at h
  rw[jU cs d1 d2 (k+1) (by omega)]
  congr 2
  simp only[List.getD_eq_getElem?_getD]
  rw[List.getElem?_append_left (by omega)]
theorem Ec {av:Nat→Prop} {β:Env} {k:AK} {ds:List DC} {v:Value} {fp:List Nat} (h:FO w k ds v fp) (cP:∀b∈fp,¬av b):
  ak w av β (bif k.agg then .agg (cg k.bB ds 0) else (cg k.bB ds 0).headD .fw) v:=by
 obtain⟨us,h1,h2,h3,h4⟩:=h
 obtain⟨vs,l1,l2,l3,l4⟩:=a8.bM (β:=β) h3 cP k.bB.length 0 (by omega)
 have e:vs=us:=by
  apply List.ext_getElem?
  intro j
  by_cases hj:j<vs.length
  ·have:=l2 j vs[j] (by simp)
   simp only[Nat.zero_add] at this
   rw[this]
   simp
  ·rw[List.getElem?_eq_none (by omega),List.getElem?_eq_none (by omega)]
 subst e
 simp only[List.drop_zero,List.take_length] at l3
 cases hk:k.agg with
 | true=>
  rw[hk] at h1
  simp only[cond_true] at h1 ⊢
  simp only[ak]
  exact⟨vs,h1,l3,l4⟩
 | false=>
  rw[hk] at h1
  simp only[cond_false] at h1 ⊢
  rw[h1.1] at l3
  cases hd:cg k.bB ds 0 with
  | nil=>simp [ak]
  | cons s ss=>
   rw[hd] at l3
   simp only[af] at l3
   obtain⟨v',l',e1,e2,_⟩:=l3
   simp only[List.cons.injEq] at e1
   rw[e1.1]
   exact e2
theorem Dm {av:Nat→Prop} {β:Env} :∀(ks:List AK) (ds:List DC) (vs:List Value) (fp:List Nat) (i0:Nat),dk w ks ds vs fp→(∀b∈fp,¬av b)→∀i,
  jh (jg i0 ks ds) i= .fw∨∃j v,i=i0+j∧vs[j]? =some v∧ak w av β (jh (jg i0 ks ds) i) v
 | [],_,_,_,_,_,_,i=> .inl rfl
 | k::ks,_,_,_,i0,h,cP,i=>by
  obtain⟨d1,d2,v,cK,f1,f2,rfl,rfl,ha,h2,rfl⟩:=h
  have hl:d1.length=k.bB.length:=by
   obtain⟨us,_,_,hr,_⟩:=ha
   exact a8.length _ _ _ _ hr
  simp only[jg,jh]
  rw[jU _ _ _ _ (by omega)]
  cases hk:Nat.beq i0 i
  ·simp only[cond_false]
   rw[←hl,List.drop_left]
   rcases Dm (av:=av) (β:=β) ks d2 cK f2 (i0+1) h2 (fun b hb=>cP b (List.mem_append_right _ hb)) i with h3 | ⟨j,v',hi,hj,hs⟩
   ·exact .inl h3
   ·exact .inr ⟨j+1,v',by omega,by simpa using hj,hs⟩
  ·have:=Nat.eq_of_beq_eq_true hk
   subst this
   simp only[cond_true]
   exact .inr ⟨0,v,rfl,rfl,Ec ha (fun b hb=>cP b (List.mem_append_left _ hb))⟩
theorem dk.length:∀(ks:List AK) (ds:List DC) (vs:List Value) (fp:List Nat),dk w ks ds vs fp→vs.length=ks.length
 | [],_,_,_,h=>by rw[h.2.1];rfl
 | k::ks,_,_,_,h=>by
  obtain⟨d1,d2,v,cK,f1,f2,rfl,rfl,ha,h2,rfl⟩:=h
  simp [dk.length ks d2 cK f2 h2]
theorem Ev {fn:Func} {s:Sum} {st:St} {r:List DC} (h:fin P fn s st=(true,r)):st.ok=true:=by
 unfold fin at h
 split at h
 ·split at h
  ·simp only[Prod.mk.injEq] at h
   exact h.1
  ·exact absurd h bG
 split at h
 ·simp only[Prod.mk.injEq,Bool.and_eq_true] at h
  exact h.1.1.1
 ·exact absurd h bG
theorem Ew {fn:Func} {s:Sum} (GM:s.pt=none) {st:St} {r:List DC} {w w':World} {fp:List Nat} {a:Act} (h:fin P fn s st=(true,r)) (hR:Rel w ⟨fun _=>False,fun b=>b<w.heap.size∧b ∉ fp,[]⟩ st a w'):
  a.defers=[]∧∃v,(results fn a.tmps).run P w'= .ok v w'∧∃vs φ im tp,Ending.returned v= .returned (pack vs)∧Kept Own.none w w'∧fh w' s.rs r vs φ im tp∧φ.Nodup∧
   (∀b∈φ,w.heap.size≤b∧b<w'.heap.size)∧∀b∈im,(b∈fp∨w.heap.size≤b)∧b ∉ tp:=by
 unfold fin at h
 rw[GM] at h
 simp only at h
 split at h
 case h_2=>exact absurd h bG
 rename_i ds own im x hr
 simp only[Prod.mk.injEq,Bool.and_eq_true,List.all_eq_true,Bool.not_eq_true'] at h
 obtain⟨⟨⟨_,a7⟩,kp⟩,rfl⟩:=h
 obtain⟨β,φ,hc⟩:=hR.core
 have hval:=M.eu _ hr
 simp only[M.ae,Option.bind_eq_some_iff] at hval
 obtain⟨ss,h1,h2⟩:=hval
 obtain⟨vs,g1,g2⟩:=iM hc _ _ h1
 obtain⟨φ',E8,Bj,k1,k2,k3,k4,k5⟩:=jb hc _ _ _ _ g2 h2
 refine⟨hR.defers,pack vs,lf g1,vs,φ',E8,Bj,rfl,⟨hR.kept.os,hR.kept.tape,hR.kept.output,hR.kept.size,fun k hk hn=>hR.kept.block k hk (fun h=>h)⟩,k1,k4 (fm a7), ?_, ?_⟩
 ·intro b hb
  obtain⟨i,_,⟨o,Ci⟩,mh⟩:=k2 b hb
  have:=(hc.fresh i o Ci).2 b mh
  rcases this.1 with h3 | h3
  ·exact⟨h3,this.2⟩
  ·exact h3.elim
 ·intro b hb
  rcases k5 b hb with h3 | ⟨i,hi,⟨o,Ci⟩,mh⟩
  ·refine⟨?_,fun hx=> ?_⟩
   ·by_cases cn:b<w.heap.size
    ·by_cases hm:b∈fp
     ·exact .inl hm
     ·refine absurd (.inr ?_) h3
      rw[hc.bars]
      exact⟨cn,hm⟩
    ·exact .inr (by omega)
   ·obtain⟨j,oj,_,hj,bo⟩:=k3 b hx
    exact h3 (.inl ⟨j,oj,hj,bo⟩)
  ·refine⟨?_,fun hx=> ?_⟩
   ·rcases ((hc.fresh i o Ci).2 b mh).1 with h3 | h3
    ·exact .inr h3
    ·exact h3.elim
   ·obtain⟨j,oj,BI,hj,bo⟩:=k3 b hx
    have cJ:i≠j:=by
     rintro rfl
     have:=kp i hi
     rw[gb.2 BI] at this
     cases this
    exact hc.sep i j o oj cJ Ci hj b mh (ah (hc.ay j oj hj) b bo)
theorem DS (eR:bF P Γ) {g:Nat} {fn:Func} {s:Sum} (hf:P.funcs[g]? =some fn) (He:fn.body.isSome=true) (hn:(fn.name== "runtime.NumGoroutine")=false) (hlen:s.ps.length≤fn.ntmps) (GK:fn.ntmps<1099511627776)
  (h:∀ds,kc (gV s.ps) ds→(s.fn ds).1=true→∃N,HT P Γ A N fn s ds=(true,(s.fn ds).2)) {w:World} {ds:List DC} {vals:List Value} {fp:List Nat} (cv:dk w s.ps ds vals fp) (aJ:(s.fn ds).1=true) {Q:Ending→World→Prop}
  (hQ:∀(st:St) (a:Act) (w':World),Rel w ⟨fun _=>False,fun b=>b<w.heap.size∧b ∉ fp,[]⟩ st a w'→fin P fn s st=(true,(s.fn ds).2)→a.defers=[]∧∃v,(results fn a.tmps).run P w'= .ok v w'∧Q (.returned v) w'):Calls P g vals.toArray w Q:=by
 obtain⟨N,bp⟩:=h ds (dk.wt _ _ _ _ cv) aJ
 obtain⟨c,hc⟩:=Option.isSome_iff_exists.1 He
 unfold HT at bp
 rw[hc] at bp
 simp only at bp
 have A3:=dk.length _ _ _ _ cv
 refine calls_of_wp hf hc ?_
 let S:Own:=⟨fun _=>False,fun b=>b<w.heap.size∧b ∉ fp,[]⟩
 let β:Env:=⟨fun _=>0,fun _=>undef,S.gH,fun _=>[]⟩
 have Bo:=dk.lt _ _ _ _ cv
 have hR:Rel w S {n:=fn.ntmps,sl:=jg 0 s.ps ds,hp:=[],ok:=true,ls:=[],lm:=[]} {tmps:=vals.toArray++Array.replicate (fn.ntmps - vals.toArray.size) undef,defers:=[]} w:=by
  refine⟨by simp only[Array.size_append,List.size_toArray,Array.size_replicate];rw[Nat.mod_eq_of_lt GK];omega,fun x hx=>by simp [S] at hx,rfl,⟨rfl,rfl,rfl,Nat.le_refl _,fun _ _ _=>rfl⟩,β,fun _=>[], ?_⟩
  refine⟨fun i=> ?_,fun id o ho=>by simp [St.obj,dF] at ho,fun id o ho=>by simp [St.obj,dF] at ho,fun i j o p _ ho=>by simp [St.obj,dF] at ho,fun b hb=>⟨hb.1,fun h=>h⟩,rfl⟩
  have Hw:∀b∈fp,¬Av (dF []) β b:=by
   intro b hb hx
   rcases hx with ⟨id,o,ho,_⟩ | hx
   ·simp [dF] at ho
   ·exact hx.2 hb
  rcases Dm (av:=Av (dF []) β) (β:=β) s.ps ds vals fp 0 cv Hw i with h1 | ⟨j,v,hi,hj,hs⟩
  ·show ak w _ _ (jh (jg 0 s.ps ds) i) _
   rw[h1]
   simp [ak]
  ·have hv:(vals.toArray++Array.replicate (fn.ntmps - vals.toArray.size) undef).getD i undef=v:=by
    have Hr:j<vals.length:=(List.getElem?_eq_some_iff.1 hj).1
    rw[Array.getD_eq_getD_getElem?,Array.getElem?_append_left (by simp;omega)]
    have:i=j:=by omega
    subst this
    simp [hj]
   rw[hv]
   exact hs
 refine cN (r:=(s.fn ds).2) eR c _ {eM:=fin P fn s,ext:=fun _ _=>ke,ret:=fin P fn s} _ w _ ⟨fun st ib=>Ev ib,fun i st ib=>absurd ib bG,fun st ib=>Ev ib⟩ hR bp ⟨?_, ?_, ?_⟩
 ·intro st a w' eO ib
  exact hQ st a w' eO ib
 ·intro i st a w' _ ib
  exact absurd ib bG
 ·intro st a w' eO ib
  exact hQ st a w' eO ib
theorem F3 (eR:bF P Γ) {g:Nat} {fn:Func} {s:Sum} (hf:P.funcs[g]? =some fn) (He:fn.body.isSome=true) (hn:(fn.name== "runtime.NumGoroutine")=false) (hlen:s.ps.length≤fn.ntmps) (GK:fn.ntmps<1099511627776)
  (h:∀ds,kc (gV s.ps) ds→(s.fn ds).1=true→∃N,HT P Γ A N fn s ds=(true,(s.fn ds).2)) (GM:s.pt=none:=by rfl):D8 P g s:=
 ⟨⟨fn,hf,He,hn⟩,fun w ds vals fp cv aJ=>DS eR hf He hn hlen GK h cv aJ fun st a w' hR ib=>Ew GM ib hR⟩
end
end Go.Proofs.YtngbcccnjiaddaaGreat.Vm
namespace Go.Proofs.YtngbcccnjiaddaaGreat.Vm
def focus (P:Program) (Γ:Ctx) (A:List (Nat×lE)) (N:Nat):List Bool→List (St→kM)→Code→AD→Code×AD
 | [],_,c,K=>(c,K)
 | x::p,is,c,K=>
  match c with
  | .seq a b=>bif x then focus P Γ A N p is b K else focus P Γ A N p is a {eM:=fun s=>run P Γ A N b s K,ext:=K.ext,ret:=K.ret}
  | .cond _ a b=>bif x then focus P Γ A N p is b K else focus P Γ A N p is a K
  | .block id a=>focus P Γ A N p is a {eM:=K.eM,ext:=fun i s=>bif Nat.beq i id then K.eM s else K.ext i s,ret:=K.ret}
  | .loop a=>match is,(dq a).bind (Jo A) with
   | ih::MN,some an=>focus P Γ A N p MN a {eM:=fun s'=>ih (canon P an s'),ext:=K.ext,ret:=K.ret}
   | _,_=>(c,K)
  | _=>(c,K)
def LQ (P:Program) (Γ:Ctx) (A:List (Nat×lE)) (N:Nat) (fn:Func) (s:Sum) (p:List Bool) (is:List (St→kM)) (ih:St→kM) (st:St):kM:=
 match fn.body with
 | some c=>match focus P Γ A N p is c {eM:=fin P fn s,ext:=fun _ _=>ke,ret:=fin P fn s} with
  | (.loop a,K)=>match (dq a).bind (Jo A) with
   | some an=>run P Γ A N a st {eM:=fun s'=>ih (canon P an s'),ext:=K.ext,ret:=K.ret}
   | none=>ke
  | _=>ke
 | none=>ke
def LR (B:(St→kM)→St→kM) (n:Nat):St→kM:=Nat.rec (motive:=fun _=>St→kM) (fun _=>ke) (fun _ ih s=>B ih s) n
theorem J5 {α β:Type} {c:Bool} {x y:α} {a b:β} {K:β→α} (h1:x=K a) (h2:y=K b):(bif c then x else y)=K (bif c then a else b):=by
 cases c
 ·exact h2
 ·exact h1
def J3:Sum:= {ps:=[],rs:=[],fn:=fun _=>(false,[]),G2:=true}
theorem Lq {P:Program} {g:Nat} :gO P g J3:=trivial
theorem JA {P:Program} :bF P []:=fun _ _ h=>by simp [Gb] at h
theorem Ic {P:Program} {g:Nat} {s:Sum} {Γ:Ctx} (h:gO P g s) (eR:bF P Γ):bF P ((g,s)::Γ):=by
 intro g' s' h'
 simp only[Gb] at h'
 cases hb:Nat.beq g g'
 ·rw[hb] at h';exact eR g' s' h'
 ·rw[hb] at h'
  have:=Nat.eq_of_beq_eq_true hb
  subst this
  simp only[cond_true,Option.some.injEq] at h'
  subst h'
  exact h
end Go.Proofs.YtngbcccnjiaddaaGreat.Vm
set_option linter.unusedVariables false
set_option linter.unusedSimpArgs false
namespace Go.Proofs.YtngbcccnjiaddaaGreat.Vm
def pid (i j:Nat):Nat:=ag (5000000+i) j
def aD (i:Nat):Nat→List CT→List TT→List DC→List SV×List (Nat×aj)
 | _,[],_,_=>([],[])
 | j,.sl e::cs,ts,ds=>
  let q:=aD i (j+1) cs ts.tail ds.tail
  (.own (pid i j)::q.1,(pid i j,eJ (ts.headD (.flat 0)) e (ds.headD default).cT)::q.2)
 | j,.int k::cs,ts,ds=>let q:=aD i (j+1) cs ts ds.tail;(iS (.int k) (ds.headD default)::q.1,q.2)
 | j,.bool::cs,ts,ds=>let q:=aD i (j+1) cs ts ds.tail;(iS .bool (ds.headD default)::q.1,q.2)
 | j,.str::cs,ts,ds=>let q:=aD i (j+1) cs ts ds.tail;(iS .str (ds.headD default)::q.1,q.2)
def cz:Nat→List AK→List (Option MK)→List DC→List (Nat×SV)×List (Nat×aj)
 | _,[],_,_=>([],[])
 | i,k::ks,ms,ds=>
  let q:=cz (i+1) ks ms.tail (ds.drop k.bB.length)
  match ms.headD none with
  | none=>((i,bif k.agg then .agg (cg k.bB ds 0) else (cg k.bB ds 0).headD .fw)::q.1,q.2)
  | some (.box t)=>((i,.ptr (pid i 0) 0)::q.1,(pid i 0,.box t (cg k.bB ds 0))::q.2)
  | some (.rows ts)=>
   let c:=aD i 0 k.bB ts ds
   ((i,bif k.agg then .agg c.1 else c.1.headD .fw)::q.1,c.2++q.2)
  | some (.jC ts)=>
   let c:=aD i 0 k.bB ts ds
   ((i,bif k.agg then .agg c.1 else c.1.headD .fw)::q.1,c.2++q.2)
  | some (.cI t ts)=>
   let c:=aD i 0 k.bB ts ds
   ((i,.ptr (pid i 62) 0)::q.1,(pid i 62,.box t c.1)::(c.2++q.2))
def lO (e:List CT) (t:TT) (s:SV):M (DC×Nat):=
 match s with
 | .own id=> .obj id fun
  | .row t' e' r false _=>match t with
   | .flat t=>bif Nat.beq t' t && aE e' e && aq e then .pure (.sl r,id) else .fail
   | .deep _ _=> .fail
  | .deep t' e' d5 r none=>match t with
   | .flat _=> .fail
   | .deep t its=>bif Nat.beq t' t && aE e' e && fJ d5 its then .pure (.sl r,id) else .fail
  | _=> .fail
 | _=> .fail
def bw:List CT→List TT→List SV→M (List DC×List Nat)
 | [],_,[]=> .pure ([],[])
 | .sl e::cs,t::ts,s::ss=>(lO e t s).bind fun q=>(bw cs ts ss).bind fun r=> .pure (q.1::r.1,q.2::r.2)
 | .int _::cs,ts,_::ss=>bw cs ts ss
 | .bool::cs,ts,_::ss=>bw cs ts ss
 | .str::cs,ts,_::ss=>bw cs ts ss
 | _,_,_=> .fail
def bk:List CT→List TT→List SV→M (List DC×List Nat)
 | [],[],[]=> .pure ([],[])
 | .sl e::cs,t::ts,s::ss=>(lO e t s).bind fun q=>(bk cs ts ss).bind fun r=> .pure (q.1::r.1,q.2::r.2)
 | .int k::cs,ts,s::ss=>(eK (.int k) s).bind fun q=>(bk cs ts ss).bind fun r=> .pure (q.1::r.1,r.2)
 | .bool::cs,ts,s::ss=>(eK .bool s).bind fun q=>(bk cs ts ss).bind fun r=> .pure (q.1::r.1,r.2)
 | .str::cs,ts,s::ss=>(eK .str s).bind fun q=>(bk cs ts ss).bind fun r=> .pure (q.1::r.1,r.2)
 | _,_,_=> .fail
def fq:Nat→List AK→List (Option MK)→M (List DC×List Nat)
 | _,[],[]=> .pure ([],[])
 | i,_::ks,none::ms=>fq (i+1) ks ms
 | i,k::ks,some (.box t)::ms=> .slot i fun
  | .ptr id 0=> .obj id fun
   | .box t' cells=>bif Nat.beq t' t then
     (cf k.bB cells).bind fun r=>bif r.2.1.isEmpty then (fq (i+1) ks ms).bind fun q=> .pure (r.1++q.1,id::q.2) else .fail
    else .fail
   | _=> .fail
  | _=> .fail
 | i,k::ks,some (.rows ts)::ms=> .slot i fun s=>
  (match k.agg,s with
   | true,.agg cs=>bw k.bB ts cs
   | true,_=> .fail
   | false,.agg _=> .fail
   | false,s=>bw k.bB ts [s]).bind fun r=>(fq (i+1) ks ms).bind fun q=> .pure (r.1++q.1,r.2++q.2)
 | i,_::ks,some (.jC _)::ms=>fq (i+1) ks ms
 | i,k::ks,some (.cI t ts)::ms=> .slot i fun
  | .ptr id 0=> .obj id fun
   | .box t' cells=>bif Nat.beq t' t then
     (bk k.bB ts cells).bind fun r=>(fq (i+1) ks ms).bind fun q=> .pure (r.1++q.1,id::(r.2++q.2))
    else .fail
   | _=> .fail
  | _=> .fail
 | _,_,_=> .fail
def fH:List TT→Bool
 | []=>true
 | .flat _::l=>fH l
 | .deep _ _::_=>false
def ir:List (Option MK)→Bool
 | []=>true
 | some (.rows ts)::l=>fH ts && ir l
 | some (.jC _)::_=>false
 | some (.cI _ _)::_=>false
 | some (.box _)::l=>ir l
 | none::l=>ir l
def mO (P:Program) (fn:Func) (s:Sum) (st:St):kM:=
 match ((gF P fn.results.toList).bind fun l=>(fG s.rs l).bind fun q=>(fq 0 s.ps s.ms).bind fun r=> .pure (q,r)).run st.get st.obj with
 | some (((ds,own,im),(od,ids)),_)=>(st.ok && eS (own++ids) && (ir s.ms || eV s.ms),ds++od)
 | none=>ke
def lA:List (Option MK)→Nat
 | []=>0
 | m::l=>bif Nat.blt 0 (lA l) then lA l+1 else bif m.isSome then 1 else 0
theorem Dq:∀ {l:List (Option MK)} {j:Nat} {m:MK},l[j]? =some (some m)→j<lA l
 | [],j,m,h=>by simp at h
 | x::l,0,m,h=>by
  simp only[List.getElem?_cons_zero,Option.some.injEq] at h
  subst h
  simp only[lA]
  cases Nat.blt 0 (lA l)<;>simp
 | x::l,j+1,m,h=>by
  have:=Dq (l:=l) (j:=j) (m:=m) (by simpa using h)
  simp only[lA]
  have h0:Nat.blt 0 (lA l)=true:=Nat.ble_eq_true_of_le (by omega)
  rw[h0]
  simp only[cond_true]
  omega
def GX (P:Program) (Γ:Ctx) (A:List (Nat×lE)) (N:Nat) (fn:Func) (s:Sum) (ds:List DC):kM:=
 match fn.body with
 | some c=>run P Γ A N c {n:=fn.ntmps+lA s.ms*1099511627776,sl:=(cz 0 s.ps s.ms ds).1,hp:=(cz 0 s.ps s.ms ds).2,ok:=true,ls:=[],lm:=[]} {eM:=mO P fn s,ext:=fun _ _=>ke,ret:=mO P fn s}
 | none=>ke
section
variable {P:Program} {Γ:Ctx} {w0:World} {S:Own} {A:List (Nat×lE)} {N:Nat}
variable {f:Nat→SV} {h:Nat→Option aj} {β:Env} {φ:Nat→List Nat} {tm:Array Value} {w:World}
theorem mB (hc:Core w0 S f h β φ tm w) {el:List CT} {t:TT} {s:SV} {v:Value} {q:DC×Nat} (hs:ak w (Av h β) β s v) (hq:(lO el t s).val f h=some q):
  ∃rows mb o,q.1= .sl rows∧gN w t el rows v mb∧h q.2=some o∧mb=al β q.2 o∧mb.Nodup∧(fH [t]=true→mb=v.ownBlock.toList):=by
 have F7:v.ownBlock.toList.Nodup:=by cases v.ownBlock<;>simp
 unfold lO at hq
 cases s with
 | own id=>
  simp only[M.aU,Option.bind_eq_some_iff] at hq
  obtain⟨ob,aL,hq⟩:=hq
  simp only[ak] at hs
  split at hq
  ·rename_i t' e' r u
   cases t with
   | deep t its=>simp at hq
   | flat t=>
    simp only at hq
    cases aI:Nat.beq t' t && aE e' el && aq el
    ·simp [aI] at hq
    ·simp only[aI,cond_true,M.aa,Option.some.injEq] at hq
     subst hq
     simp only[Bool.and_eq_true] at aI
     have ht:=Nat.eq_of_beq_eq_true aI.1.1
     have he:=aK _ _ aI.1.2
     subst ht he
     obtain⟨vals,az,g1,g2,_,_⟩:=hc.ay id _ aL
     rw[←hs.1] at g1
     exact⟨r,v.ownBlock.toList,_,rfl,⟨aI.2,vals,az,g1,g2,rfl⟩,aL,by simp only[al,hs.1],F7,fun _=>rfl⟩
  ·rename_i t' e' d5 r
   cases t with
   | flat t=>simp at hq
   | deep t its=>
    simp only at hq
    cases aI:Nat.beq t' t && aE e' el && fJ d5 its
    ·simp [aI] at hq
    ·simp only[aI,cond_true,M.aa,Option.some.injEq] at hq
     subst hq
     simp only[Bool.and_eq_true] at aI
     have ht:=Nat.eq_of_beq_eq_true aI.1.1
     have he:=aK _ _ aI.1.2
     have hi:=gi _ _ aI.2
     subst ht he hi
     have bW:=(hc.fresh id _ aL).1
     obtain⟨vals,aT,g1,g2,g3,g4⟩:=hc.ay id _ aL
     rw[g4] at bW
     rw[←hs.1] at g1 bW
     exact⟨r,v.ownBlock.toList++aT.flatten,_,rfl,⟨vals,aT,g1,g2,rfl⟩,aL,by simp only[al,g3,hs.1],bW,fun h=>by simp [fH] at h⟩
  ·simp at hq
 | _=>simp at hq
theorem dH (hc:Core w0 S f h β φ tm w):∀(cs:List CT) (ts:List TT) (ss:List SV) (us:List Value) (q:List DC×List Nat),af w (Av h β) β ss us→(bw cs ts ss).val f h=some q→
  ∃ψ,i6 w cs ts q.1 us ψ∧(∀b∈ψ,∃id∈q.2,∃o,h id=some o∧b∈al β id o)∧(q.2.Nodup→ψ.Nodup)∧
   (fH ts=true→∀(w1:World) (ds:List DC) (mb:List Nat),aS w1 cs ts ds us mb→∀b∈mb,∃id∈q.2,∃o,h id=some o∧b∈al β id o)
 | [],ts,ss,us,q,hs,hq=>by
  cases ss with
  | nil=>
   simp only[bw,M.aa,Option.some.injEq] at hq
   subst hq
   simp only[af] at hs
   refine⟨[],⟨rfl,hs,rfl⟩,by simp,by simp,fun _ w1 ds mb hm b hb=> ?_⟩
   simp only[aS] at hm
   rw[hm.2.2.2] at hb
   simp at hb
  | cons s ss=>simp [bw] at hq
 | .int k::cs,ts,ss,us,q,hs,hq=>by
  cases ss with
  | nil=>simp [bw] at hq
  | cons s ss=>
   simp only[af] at hs
   obtain⟨v,aO,rfl,h1,h2⟩:=hs
   simp only[bw] at hq
   obtain⟨ψ,k1,k2,k3,k4⟩:=dH hc cs ts ss aO q h2 hq
   refine⟨ψ, ?_,k2,k3,fun hnd w1 ds mb hm b hb=> ?_⟩
   ·simp only[i6]
    exact⟨v,aO,rfl,k1⟩
   ·simp only[aS] at hm
    obtain⟨d,aZ,v',FM,rfl,e0,_,hm⟩:=hm
    simp only[List.cons.injEq] at e0
    obtain⟨rfl,rfl⟩:=e0
    exact k4 hnd w1 aZ mb hm b hb
 | .bool::cs,ts,ss,us,q,hs,hq=>by
  cases ss with
  | nil=>simp [bw] at hq
  | cons s ss=>
   simp only[af] at hs
   obtain⟨v,aO,rfl,h1,h2⟩:=hs
   simp only[bw] at hq
   obtain⟨ψ,k1,k2,k3,k4⟩:=dH hc cs ts ss aO q h2 hq
   refine⟨ψ, ?_,k2,k3,fun hnd w1 ds mb hm b hb=> ?_⟩
   ·simp only[i6]
    exact⟨v,aO,rfl,k1⟩
   ·simp only[aS] at hm
    obtain⟨d,aZ,v',FM,rfl,e0,_,hm⟩:=hm
    simp only[List.cons.injEq] at e0
    obtain⟨rfl,rfl⟩:=e0
    exact k4 hnd w1 aZ mb hm b hb
 | .str::cs,ts,ss,us,q,hs,hq=>by
  cases ss with
  | nil=>simp [bw] at hq
  | cons s ss=>
   simp only[af] at hs
   obtain⟨v,aO,rfl,h1,h2⟩:=hs
   simp only[bw] at hq
   obtain⟨ψ,k1,k2,k3,k4⟩:=dH hc cs ts ss aO q h2 hq
   refine⟨ψ, ?_,k2,k3,fun hnd w1 ds mb hm b hb=> ?_⟩
   ·simp only[i6]
    exact⟨v,aO,rfl,k1⟩
   ·simp only[aS] at hm
    obtain⟨d,aZ,v',FM,rfl,e0,_,hm⟩:=hm
    simp only[List.cons.injEq] at e0
    obtain⟨rfl,rfl⟩:=e0
    exact k4 hnd w1 aZ mb hm b hb
 | .sl el::cs,ts,ss,us,q,hs,hq=>by
  cases ts with
  | nil=>cases ss<;>simp [bw] at hq
  | cons t ts=>
   cases ss with
   | nil=>simp [bw] at hq
   | cons s ss=>
    simp only[af] at hs
    obtain⟨v,aO,rfl,h1,h2⟩:=hs
    simp only[bw,M.ae,Option.bind_eq_some_iff,M.aa,Option.some.injEq] at hq
    obtain⟨q1,aG,q2,cx,rfl⟩:=hq
    obtain⟨ψ,k1,k2,k3,k4⟩:=dH hc cs ts ss aO q2 h2 cx
    obtain⟨rows,Jp,o,r1,r2,r3,r4,r5,r6⟩:=mB hc h1 aG
    refine⟨Jp++ψ, ?_,fun b hb=> ?_,fun hnd=> ?_,fun hnd w1 ds mb hm b hb=> ?_⟩
    ·simp only[i6]
     exact⟨t,ts,rows,q2.1,v,aO,Jp,ψ,rfl,by rw[r1],rfl,r2,k1,rfl⟩
    ·rcases List.mem_append.1 hb with hb | hb
     ·exact⟨q1.2,List.mem_cons_self ..,o,r3,r4 ▸ hb⟩
     ·obtain⟨i,hi,o',ho⟩:=k2 b hb
      exact⟨i,List.mem_cons_of_mem _ hi,o',ho⟩
    ·simp only[List.nodup_cons] at hnd
     rw[List.nodup_append]
     refine⟨r5,k3 hnd.2,fun b hb b' ax e=> ?_⟩
     subst e
     obtain⟨i,hi,o',d6,mh⟩:=k2 b ax
     rw[r4] at hb
     exact hc.sep q1.2 i o o' (fun e=>hnd.1 (e ▸ hi)) r3 d6 b (ah (hc.ay _ _ r3) b hb) (ah (hc.ay _ _ d6) b mh)
    ·simp only[aS] at hm
     obtain⟨t1,Gm,LW,aZ,v1,FM,m1,gl,e1,rfl,e2,ED,hm,rfl⟩:=hm
     simp only[List.cons.injEq] at e1 e2
     obtain⟨rfl,rfl⟩:=e1
     obtain⟨rfl,rfl⟩:=e2
     cases t with
     | deep t its=>simp [fH] at hnd
     | flat t=>
      obtain⟨_,vals,az,_,_,rfl⟩:=ED
      rcases List.mem_append.1 hb with hb | hb
      ·refine⟨q1.2,List.mem_cons_self ..,o,r3, ?_⟩
       rw[←r4,r6 rfl]
       exact hb
      ·obtain⟨i,hi,o,ho⟩:=k4 (by simpa only[fH] using hnd) w1 aZ gl hm b hb
       exact⟨i,List.mem_cons_of_mem _ hi,o,ho⟩
theorem dT (hc:Core w0 S f h β φ tm w):∀(cs:List CT) (ts:List TT) (ss:List SV) (us:List Value) (q:List DC×List Nat),af w (Av h β) β ss us→(bk cs ts ss).val f h=some q→
  ∃ψ,aS w cs ts q.1 us ψ∧(∀b∈ψ,∃id∈q.2,∃o,h id=some o∧b∈al β id o)∧(q.2.Nodup→ψ.Nodup)
 | [],ts,ss,us,q,hs,hq=>by
  cases ts with
  | cons _ _=>cases ss<;>simp [bk] at hq
  | nil=>
  cases ss with
  | nil=>
   simp only[bk,M.aa,Option.some.injEq] at hq
   subst hq
   simp only[af] at hs
   exact⟨[],⟨rfl,rfl,hs,rfl⟩,by simp,by simp⟩
  | cons s ss=>simp [bk] at hq
 | .int k::cs,ts,ss,us,q,hs,hq=>by
  cases ss with
  | nil=>simp [bk] at hq
  | cons s ss=>
   simp only[af] at hs
   obtain⟨v,aO,rfl,h1,h2⟩:=hs
   simp only[bk,M.ae,Option.bind_eq_some_iff,M.aa,Option.some.injEq] at hq
   obtain⟨q1,aG,q2,cx,rfl⟩:=hq
   obtain⟨fp,hr,_⟩:=dz hc h1 aG
   obtain⟨ψ,k1,k2,k3⟩:=dT hc cs ts ss aO q2 h2 cx
   refine⟨ψ, ?_,k2,k3⟩
   simp only[aS]
   refine⟨q1.1,q2.1,v,aO,rfl,rfl, ?_,k1⟩
   simp only[bV] at hr ⊢
   obtain⟨n,a,b,c,_⟩:=hr
   exact⟨n,a,b,c,trivial⟩
 | .bool::cs,ts,ss,us,q,hs,hq=>by
  cases ss with
  | nil=>simp [bk] at hq
  | cons s ss=>
   simp only[af] at hs
   obtain⟨v,aO,rfl,h1,h2⟩:=hs
   simp only[bk,M.ae,Option.bind_eq_some_iff,M.aa,Option.some.injEq] at hq
   obtain⟨q1,aG,q2,cx,rfl⟩:=hq
   obtain⟨fp,hr,_⟩:=dz hc h1 aG
   obtain⟨ψ,k1,k2,k3⟩:=dT hc cs ts ss aO q2 h2 cx
   refine⟨ψ, ?_,k2,k3⟩
   simp only[aS]
   refine⟨q1.1,q2.1,v,aO,rfl,rfl, ?_,k1⟩
   simp only[bV] at hr ⊢
   obtain⟨n,a,b,_⟩:=hr
   exact⟨n,a,b,trivial⟩
 | .str::cs,ts,ss,us,q,hs,hq=>by
  cases ss with
  | nil=>simp [bk] at hq
  | cons s ss=>
   simp only[af] at hs
   obtain⟨v,aO,rfl,h1,h2⟩:=hs
   simp only[bk,M.ae,Option.bind_eq_some_iff,M.aa,Option.some.injEq] at hq
   obtain⟨q1,aG,q2,cx,rfl⟩:=hq
   obtain⟨fp,hr,_⟩:=dz hc h1 aG
   obtain⟨ψ,k1,k2,k3⟩:=dT hc cs ts ss aO q2 h2 cx
   refine⟨ψ, ?_,k2,k3⟩
   simp only[aS]
   refine⟨q1.1,q2.1,v,aO,rfl,rfl, ?_,k1⟩
   simp only[bV] at hr ⊢
   obtain⟨n,a,b,c,_⟩:=hr
   exact⟨n,a,b,c,trivial⟩
 | .sl el::cs,ts,ss,us,q,hs,hq=>by
  cases ts with
  | nil=>cases ss<;>simp [bk] at hq
  | cons t ts=>
   cases ss with
   | nil=>simp [bk] at hq
   | cons s ss=>
    simp only[af] at hs
    obtain⟨v,aO,rfl,h1,h2⟩:=hs
    simp only[bk,M.ae,Option.bind_eq_some_iff,M.aa,Option.some.injEq] at hq
    obtain⟨q1,aG,q2,cx,rfl⟩:=hq
    obtain⟨ψ,k1,k2,k3⟩:=dT hc cs ts ss aO q2 h2 cx
    obtain⟨rows,Jp,o,r1,r2,r3,r4,r5,r6⟩:=mB hc h1 aG
    refine⟨Jp++ψ, ?_,fun b hb=> ?_,fun hnd=> ?_⟩
    ·simp only[aS]
     exact⟨t,ts,rows,q2.1,v,aO,Jp,ψ,rfl,by rw[r1],rfl,r2,k1,rfl⟩
    ·rcases List.mem_append.1 hb with hb | hb
     ·exact⟨q1.2,List.mem_cons_self ..,o,r3,r4 ▸ hb⟩
     ·obtain⟨i,hi,o',ho⟩:=k2 b hb
      exact⟨i,List.mem_cons_of_mem _ hi,o',ho⟩
    ·simp only[List.nodup_cons] at hnd
     rw[List.nodup_append]
     refine⟨r5,k3 hnd.2,fun b hb b' ax e=> ?_⟩
     subst e
     obtain⟨i,hi,o',d6,mh⟩:=k2 b ax
     rw[r4] at hb
     exact hc.sep q1.2 i o o' (fun e=>hnd.1 (e ▸ hi)) r3 d6 b (ah (hc.ay _ _ r3) b hb) (ah (hc.ay _ _ d6) b mh)
theorem iJ (hc:Core w0 S f h β φ tm w):∀(i:Nat) (ks:List AK) (ms:List (Option MK)) (vs:List Value) (q:List DC×List Nat),(∀(j:Nat) v m,vs[j]? =some v→ms[j]? =some (some m)→tm.getD (i+j) undef=v)→vs.length=ks.length→(fq i ks ms).val f h=some q→
  ∃im ψ,lR w ks ms q.1 vs im ψ∧(∀b∈im,¬Av h β b)∧(eV ms=true→im=[])∧(∀b∈ψ,∃id∈q.2,∃o,h id=some o∧b∈al β id o)∧(q.2.Nodup→ψ.Nodup)∧
   (ir ms=true→∀(w1:World) (ds:List DC) (fp mb:List Nat),cH w1 ks ms ds vs fp mb→∀b∈mb,∃id∈q.2,∃o,h id=some o∧b∈al β id o)
 | i,[],ms,vs,q,hv,hl,hq=>by
  cases ms with
  | nil=>
   simp only[fq,M.aa,Option.some.injEq] at hq
   subst hq
   have hl:vs=[]:=List.length_eq_zero_iff.1 hl
   subst hl
   refine⟨[],[],⟨rfl,rfl,rfl,rfl⟩,by simp,fun _=>rfl,by simp,by simp,fun _ w1 ds fp mb hm b hb=> ?_⟩
   simp only[cH] at hm
   rw[hm.2.2.2.2] at hb
   simp at hb
  | cons m ms=>simp [fq] at hq
 | i,k::ks,ms,vs,q,hv,hl,hq=>by
  cases ms with
  | nil=>simp [fq] at hq
  | cons m ms=>
   cases vs with
   | nil=>simp at hl
   | cons v vs=>
    have hv':∀(j:Nat) u m,vs[j]? =some u→ms[j]? =some (some m)→tm.getD (i+1+j) undef=u:=fun j u m' hu hm=>by
     have:=hv (j+1) u m' (by simpa using hu) (by simpa using hm)
     rw[show i+1+j=i+(j+1) by omega]
     exact this
    have D3:vs.length=ks.length:=by simpa using hl
    have dr:=hc.ca i
    cases m with
    | none=>
     simp only[fq] at hq
     obtain⟨im,ψ,k1,k2,k4,k5,k6,k3⟩:=iJ hc (i+1) ks ms vs q hv' D3 hq
     refine⟨im,ψ,⟨none,ms,[],q.1,v,vs,[],im,[],ψ,rfl,rfl,rfl,⟨rfl,rfl,rfl⟩,k1,rfl,rfl⟩,k2,k4,k5,k6,fun hnd w1 ds fp mb hm b hb=> ?_⟩
     simp only[cH] at hm
     obtain⟨m',D5,d1,d2,v',cK,f1,f2,b1,b2,e1,rfl,e2,ha,hm,rfl,rfl⟩:=hm
     simp only[List.cons.injEq] at e1 e2
     obtain⟨rfl,rfl⟩:=e1
     obtain⟨rfl,rfl⟩:=e2
     simp only[gm] at ha
     rw[ha.2] at hb
     exact k3 hnd w1 d2 f2 b2 hm b (by simpa using hb)
    | some m=>
     have JT:tm.getD i undef=v:=hv 0 v m rfl rfl
     rw[JT] at dr
     cases m with
     | box t=>
      simp only[fq,M.iB] at hq
      cases fT:f i with
      | ptr id off=>
       rw[fT] at hq dr
       cases off with
       | succ off=>simp at hq
       | zero=>
        simp only[M.aU,Option.bind_eq_some_iff] at hq
        obtain⟨ob,aL,hq⟩:=hq
        cases ob with
        | box t' cells=>
         simp only at hq
         cases kx:Nat.beq t' t
         ·simp [kx] at hq
         ·have ky:=Nat.eq_of_beq_eq_true kx
          subst ky
          simp only[kx,cond_true,M.ae,Option.bind_eq_some_iff] at hq
          obtain⟨q1,aG,hq⟩:=hq
          cases FE:q1.2.1.isEmpty
          ·simp [FE] at hq
          ·simp only[FE,cond_true,M.ae,Option.bind_eq_some_iff,M.aa,Option.some.injEq] at hq
           obtain⟨q2,cx,rfl⟩:=hq
           obtain⟨im,ψ,k1,k2,k4,k5,k6,k3⟩:=iJ hc (i+1) ks ms vs q2 hv' D3 cx
           obtain⟨us,g1,g2,g3,_⟩:=hc.ay id _ aL
           obtain⟨lI,hr,F0,jE,_⟩:=dY hc k.bB cells us q1 g2 aG
           have MW:=af.length _ _ g2
           have j_:=cE _ _ _ aG
           simp only[ak] at dr
           have KD:q1.2.1=[]:=List.isEmpty_iff.1 FE
           refine⟨lI++im,[β.cU id]++ψ,⟨some (.box t'),ms,q1.1,q2.1,v,vs,lI,im,[β.cU id],ψ,rfl,rfl,rfl,⟨β.cU id,us,dr,g1,g3,hr,by omega,rfl⟩,k1,rfl,rfl⟩, ?_,fun h=>by simp [eV] at h,fun b hb=> ?_,fun hnd=> ?_,fun hnd w1 ds fp mb hm b hb=> ?_⟩
           ·intro b hb
            rcases List.mem_append.1 hb with hb | hb
            ·rcases jE b hb with h3 | ⟨x,hx,h3⟩
             ·exact h3
             ·rw[KD] at hx
              simp at hx
            ·exact k2 b hb
           ·rcases List.mem_append.1 hb with hb | hb
            ·exact⟨id,List.mem_cons_self ..,_,aL,by simpa only[al] using hb⟩
            ·obtain⟨j,hj,o,ho⟩:=k5 b hb
             exact⟨j,List.mem_cons_of_mem _ hj,o,ho⟩
           ·simp only[List.nodup_cons] at hnd
            rw[List.nodup_append]
            refine⟨by simp,k6 hnd.2,fun b hb b' ax e=> ?_⟩
            subst e
            obtain⟨j,hj,o',d6,bo⟩:=k5 b ax
            exact hc.sep id j _ o' (fun e=>hnd.1 (e ▸ hj)) aL d6 b (ah (hc.ay _ _ aL) b (by simpa only[al] using hb)) (ah (hc.ay _ _ d6) b bo)
           ·simp only[cH] at hm
            obtain⟨m',D5,d1,d2,v',cK,f1,f2,b1,b2,e1,rfl,e2,ha,hm,rfl,rfl⟩:=hm
            simp only[List.cons.injEq] at e1 e2
            obtain⟨rfl,rfl⟩:=e1
            obtain⟨rfl,rfl⟩:=e2
            simp only[gm] at ha
            obtain⟨g,FM,ev,_,_,_,_,rfl⟩:=ha
            rcases List.mem_append.1 hb with hb | hb
            ·refine⟨id,List.mem_cons_self ..,_,aL, ?_⟩
             rw[dr] at ev
             simp only[Value.pointer.injEq,Option.some.injEq,Addr.mk.injEq,and_true] at ev
             simp only[al]
             rw[ev]
             exact hb
            ·obtain⟨j,hj,o,ho⟩:=k3 hnd w1 d2 f2 b2 hm b hb
             exact⟨j,List.mem_cons_of_mem _ hj,o,ho⟩
        | row _ _ _ _ _=>simp at hq
        | d7 _ _=>simp at hq
        | deep _ _ _ _ _=>simp at hq
      | _=>rw[fT] at hq;simp at hq
     | rows ts=>
      simp only[fq,M.iB,M.ae,Option.bind_eq_some_iff,M.aa,Option.some.injEq] at hq
      obtain⟨q1,aG,q2,cx,rfl⟩:=hq
      obtain⟨im,ψ,k1,k2,k4,k5,k6,k3⟩:=iJ hc (i+1) ks ms vs q2 hv' D3 cx
      have one:∃us:List Value,(bif k.agg then v= .agg us.toArray else us=[v])∧∃FN,i6 w k.bB ts q1.1 us FN∧(∀b∈FN,∃id∈q1.2,∃o,h id=some o∧b∈al β id o)∧(q1.2.Nodup→FN.Nodup)∧
        (fH ts=true→∀(w1:World) (ds:List DC) (mb:List Nat),aS w1 k.bB ts ds us mb→∀b∈mb,∃id∈q1.2,∃o,h id=some o∧b∈al β id o):=by
       cases hk:k.agg with
       | true=>
        generalize f i=s at aG dr
        cases s with
        | agg cs=>
         simp only[hk] at aG
         simp only[ak] at dr
         obtain⟨us,rfl,gj,bg⟩:=dr
         exact⟨us,rfl,dH hc k.bB ts cs us q1 gj aG⟩
        | _=>simp [hk] at aG
       | false=>
        generalize f i=s at aG dr
        have lz:(bw k.bB ts [s]).val f h=some q1:=by
         cases s<;>simp only[hk] at aG<;>first | exact aG | (simp at aG)
        have ia:af w (Av h β) β [s] [v]:=by simp only[af];exact⟨v,[],rfl,dr,rfl⟩
        exact⟨[v],rfl,dH hc k.bB ts [s] [v] q1 ia lz⟩
      obtain⟨us,gj,FN,r1,r3,r4,r2⟩:=one
      refine⟨im,FN++ψ,⟨some (.rows ts),ms,q1.1,q2.1,v,vs,[],im,FN,ψ,rfl,rfl,rfl,⟨us,gj,r1,rfl⟩,k1,rfl,rfl⟩,k2,fun h=>k4 (by simpa only[eV] using h),fun b hb=> ?_,fun hnd=> ?_,fun hnd w1 ds fp mb hm b hb=> ?_⟩
      ·rcases List.mem_append.1 hb with hb | hb
       ·obtain⟨j,hj,o,ho⟩:=r3 b hb
        exact⟨j,List.mem_append_left _ hj,o,ho⟩
       ·obtain⟨j,hj,o,ho⟩:=k5 b hb
        exact⟨j,List.mem_append_right _ hj,o,ho⟩
      ·rw[List.nodup_append] at hnd
       obtain⟨n1,n2,n3⟩:=hnd
       rw[List.nodup_append]
       refine⟨r4 n1,k6 n2,fun b hb b' ax e=> ?_⟩
       subst e
       obtain⟨i1,JK,o1,GL,Gy⟩:=r3 b hb
       obtain⟨j,hj,o',d6,bo⟩:=k5 b ax
       exact hc.sep i1 j o1 o' (fun e=>n3 i1 JK j hj e) GL d6 b (ah (hc.ay _ _ GL) b Gy) (ah (hc.ay _ _ d6) b bo)
      simp only[ir,Bool.and_eq_true] at hnd
      simp only[cH] at hm
      obtain⟨m',D5,d1,d2,v',cK,f1,f2,b1,b2,e1,rfl,e2,ha,hm,rfl,rfl⟩:=hm
      simp only[List.cons.injEq] at e1 e2
      obtain⟨rfl,rfl⟩:=e1
      obtain⟨rfl,rfl⟩:=e2
      simp only[gm] at ha
      obtain⟨FM,BO,_,ha,_⟩:=ha
      have MG:FM=us:=by
       cases hk:k.agg with
       | true=>
        rw[hk] at gj BO
        simp only[cond_true] at gj BO
        rw[gj] at BO
        simp only[Value.agg.injEq] at BO
        simpa using (congrArg Array.toList BO).symm
       | false=>
        rw[hk] at gj BO
        simp only[cond_false] at gj BO
        rw[gj,BO.1]
      subst MG
      rcases List.mem_append.1 hb with hb | hb
      ·obtain⟨j,hj,o,ho⟩:=r2 hnd.1 w1 d1 b1 ha b hb
       exact⟨j,List.mem_append_left _ hj,o,ho⟩
      ·obtain⟨j,hj,o,ho⟩:=k3 hnd.2 w1 d2 f2 b2 hm b hb
       exact⟨j,List.mem_append_right _ hj,o,ho⟩
     | jC ts=>
      simp only[fq] at hq
      obtain⟨im,ψ,k1,k2,k4,k5,k6,k3⟩:=iJ hc (i+1) ks ms vs q hv' D3 hq
      exact⟨im,ψ,⟨some (.jC ts),ms,[],q.1,v,vs,[],im,[],ψ,rfl,rfl,rfl,⟨rfl,rfl,rfl⟩,k1,rfl,rfl⟩,k2,fun h=>k4 (by simpa only[eV] using h),k5,k6,fun hnd=>by simp [ir] at hnd⟩
     | cI t ts=>
      simp only[fq,M.iB] at hq
      cases fT:f i with
      | ptr id off=>
       rw[fT] at hq dr
       cases off with
       | succ off=>simp at hq
       | zero=>
        simp only[M.aU,Option.bind_eq_some_iff] at hq
        obtain⟨ob,aL,hq⟩:=hq
        cases ob with
        | box t' cells=>
         simp only at hq
         cases kx:Nat.beq t' t
         ·simp [kx] at hq
         ·have ky:=Nat.eq_of_beq_eq_true kx
          subst ky
          simp only[kx,cond_true,M.ae,Option.bind_eq_some_iff,M.aa,Option.some.injEq] at hq
          obtain⟨q1,aG,q2,cx,rfl⟩:=hq
          obtain⟨im,ψ,k1,k2,k4,k5,k6,k3⟩:=iJ hc (i+1) ks ms vs q2 hv' D3 cx
          obtain⟨us,g1,g2,g3,_⟩:=hc.ay id _ aL
          obtain⟨FN,r1,r2,r3⟩:=dT hc k.bB ts cells us q1 g2 aG
          simp only[ak] at dr
          refine⟨im,(β.cU id::FN)++ψ,⟨some (.cI t' ts),ms,q1.1,q2.1,v,vs,[],im,β.cU id::FN,ψ,rfl,rfl,rfl,⟨β.cU id,us,FN,dr,g1,g3,r1,rfl,rfl⟩,k1,rfl,rfl⟩,k2,fun h=>k4 (by simpa only[eV] using h),fun b hb=> ?_,fun hnd=> ?_,fun hnd=>by simp [ir] at hnd⟩
          ·simp only[List.cons_append,List.mem_cons,List.mem_append] at hb
           rcases hb with rfl | hb | hb
           ·exact⟨id,List.mem_cons_self ..,_,aL,by simp only[al];exact List.mem_singleton.2 rfl⟩
           ·obtain⟨j,hj,o,ho⟩:=r2 b hb
            exact⟨j,List.mem_cons_of_mem _ (List.mem_append_left _ hj),o,ho⟩
           ·obtain⟨j,hj,o,ho⟩:=k5 b hb
            exact⟨j,List.mem_cons_of_mem _ (List.mem_append_right _ hj),o,ho⟩
          ·simp only[List.nodup_cons,List.mem_append,not_or,List.nodup_append] at hnd
           obtain⟨⟨n1,n2⟩,n3,n4,n5⟩:=hnd
           have Ah:∀j o',j≠id→h j=some o'→β.cU id ∉ al β j o':=by
            intro j o' hj d6 hb
            exact hc.sep id j _ o' (Ne.symm hj) aL d6 _ (ah (hc.ay _ _ aL) _ (by simp only[al];exact List.mem_singleton.2 rfl)) (ah (hc.ay _ _ d6) _ hb)
           rw[List.cons_append,List.nodup_cons,List.nodup_append]
           refine⟨fun hb=> ?_,r3 n3,k6 n4,fun b hb b' ax e=> ?_⟩
           ·rcases List.mem_append.1 hb with hb | hb
            ·obtain⟨j,hj,o,ho,bo⟩:=r2 _ hb
             exact Ah j o (fun e=>n1 (e ▸ hj)) ho bo
            ·obtain⟨j,hj,o,ho,bo⟩:=k5 _ hb
             exact Ah j o (fun e=>n2 (e ▸ hj)) ho bo
           ·subst e
            obtain⟨i1,JK,o1,GL,Gy⟩:=r2 b hb
            obtain⟨j,hj,o',d6,bo⟩:=k5 b ax
            exact hc.sep i1 j o1 o' (fun e=>n5 i1 JK j hj e) GL d6 b (ah (hc.ay _ _ GL) b Gy) (ah (hc.ay _ _ d6) b bo)
        | row _ _ _ _ _=>simp at hq
        | d7 _ _=>simp at hq
        | deep _ _ _ _ _=>simp at hq
      | _=>rw[fT] at hq;simp at hq
end
end Go.Proofs.YtngbcccnjiaddaaGreat.Vm
set_option linter.unusedVariables false
set_option linter.unusedSimpArgs false
namespace Go.Proofs.YtngbcccnjiaddaaGreat.Vm
structure EN where
 id:Nat
 o:aj
 cU:Nat
 val:Value
 φ:List Nat
 nb:List Nat
def EN.ok (w:World) (av:Nat→Prop) (β:Env) (x:EN):Prop:=fU w av β x.id x.o x.φ∧al β x.id x.o=x.φ
section
variable {P:Program} {Γ:Ctx} {A:List (Nat×lE)} {w:World} {i:Nat}
theorem cC:∀(j:Nat) (cs:List CT) (ts:List TT) (ds:List DC) (us:List Value) (mb:List Nat),aS w cs ts ds us mb→
  ∃E:List EN,(aD i j cs ts ds).2=E.map (fun x=>(x.id,x.o))∧E.flatMap (·.φ)=mb∧∀(av:Nat→Prop) (β:Env),(∀x∈E,β.cU x.id=x.cU∧β.val x.id=x.val∧β.nb x.id=x.nb)→
   af w av β (aD i j cs ts ds).1 us∧∀x∈E,x.ok w av β
 | j,[],ts,ds,us,mb,hm=>by
  simp only[aS] at hm
  obtain⟨rfl,rfl,rfl,rfl⟩:=hm
  exact⟨[],rfl,rfl,fun av β _=>⟨by simp [aD,af],by simp⟩⟩
 | j,.int k::cs,ts,ds,us,mb,hm=>by
  simp only[aS] at hm
  obtain⟨d,aZ,v,aO,rfl,rfl,h1,hm⟩:=hm
  obtain⟨E,e1,e2,e3⟩:=cC (j+1) cs ts aZ aO mb hm
  refine⟨E,by simpa only[aD,List.tail_cons] using e1,e2,fun av β hb=> ?_⟩
  obtain⟨k1,k2⟩:=e3 av β hb
  refine⟨?_,k2⟩
  simp only[aD,List.headD_cons,List.tail_cons,af]
  exact⟨v,aO,rfl,dy h1 (by simp),k1⟩
 | j,.bool::cs,ts,ds,us,mb,hm=>by
  simp only[aS] at hm
  obtain⟨d,aZ,v,aO,rfl,rfl,h1,hm⟩:=hm
  obtain⟨E,e1,e2,e3⟩:=cC (j+1) cs ts aZ aO mb hm
  refine⟨E,by simpa only[aD,List.tail_cons] using e1,e2,fun av β hb=> ?_⟩
  obtain⟨k1,k2⟩:=e3 av β hb
  refine⟨?_,k2⟩
  simp only[aD,List.headD_cons,List.tail_cons,af]
  exact⟨v,aO,rfl,dy h1 (by simp),k1⟩
 | j,.str::cs,ts,ds,us,mb,hm=>by
  simp only[aS] at hm
  obtain⟨d,aZ,v,aO,rfl,rfl,h1,hm⟩:=hm
  obtain⟨E,e1,e2,e3⟩:=cC (j+1) cs ts aZ aO mb hm
  refine⟨E,by simpa only[aD,List.tail_cons] using e1,e2,fun av β hb=> ?_⟩
  obtain⟨k1,k2⟩:=e3 av β hb
  refine⟨?_,k2⟩
  simp only[aD,List.headD_cons,List.tail_cons,af]
  exact⟨v,aO,rfl,dy h1 (by simp),k1⟩
 | j,.sl e::cs,ts,ds,us,mb,hm=>by
  simp only[aS] at hm
  obtain⟨t,d5,rows,aZ,v,aO,m1,gl,rfl,rfl,rfl,ED,hm,rfl⟩:=hm
  obtain⟨E,e1,e2,e3⟩:=cC (j+1) cs d5 aZ aO gl hm
  have one:∃nb:List Nat,∀(av:Nat→Prop) (β:Env),β.val (pid i j)=v→β.nb (pid i j)=nb→fU w av β (pid i j) (eJ t e rows) m1∧al β (pid i j) (eJ t e rows)=m1:=by
   cases t with
   | flat t=>
    obtain⟨ew,vals,az,h1,h2,rfl⟩:=ED
    refine⟨[],fun av β hv hn=>⟨⟨vals,az,by rw[hv];exact h1,h2,by rw[gP ew h2];simp, ?_⟩, ?_⟩⟩
    ·rw[hv,gP ew h2]
     simp
    ·simp only[eJ,al,hv]
   | deep t its=>
    obtain⟨vals,aT,h1,h2,rfl⟩:=ED
    exact⟨aT.flatten,fun av β hv hn=>⟨⟨vals,aT,by rw[hv];exact h1,h2,hn,by rw[hv]⟩,by simp only[eJ,al,hv,hn]⟩⟩
  obtain⟨nb,one⟩:=one
  refine⟨⟨pid i j,eJ t e rows,0,v,m1,nb⟩::E, ?_, ?_,fun av β hb=> ?_⟩
  ·simp only[aD,List.headD_cons,List.tail_cons,List.map_cons,e1,DC.cT]
  ·simp only[List.flatMap_cons,e2]
  ·obtain⟨k1,k2⟩:=e3 av β (fun x hx=>hb x (List.mem_cons_of_mem _ hx))
   have hv:=(hb _ (List.mem_cons_self ..)).2
   simp only at hv
   refine⟨?_,fun x hx=> ?_⟩
   ·simp only[aD,List.headD_cons,List.tail_cons,af]
    refine⟨v,aO,rfl, ?_,k1⟩
    simp only[ak]
    exact⟨hv.1.symm,ED.one⟩
   ·rcases List.mem_cons.1 hx with rfl | hx
    ·exact one av β hv.1 hv.2
    ·exact k2 x hx
theorem gN.lt {t:TT} {e:List CT} {rows:List (List DC)} {v:Value} {mb:List Nat} (h:gN w t e rows v mb):∀b∈mb,b<w.heap.size:=by
 cases t with
 | flat t=>
  obtain⟨_,vals,az,h1,_,rfl⟩:=h
  exact h1.lt
 | deep t its=>
  obtain⟨vals,aT,h1,h2,rfl⟩:=h
  intro b hb
  rcases List.mem_append.1 hb with hb | hb
  ·exact h1.lt b hb
  ·exact h2.lt b hb
theorem gN.reads {t:TT} {e:List CT} {rows:List (List DC)} {v:Value} {mb:List Nat} (h:gN w t e rows v mb):∃tt vals az,cl w tt e.length false v rows.length vals∧dK w e rows vals az:=by
 cases t with
 | flat t=>
  obtain⟨_,vals,az,h1,h2,_⟩:=h
  exact⟨t,vals,az,h1,h2⟩
 | deep t its=>
  obtain⟨vals,aT,h1,h2,_⟩:=h
  obtain⟨az,h3,_⟩:=h2.reads
  exact⟨t,vals,az,h1,h3⟩
theorem aS.length:∀(cs:List CT) (ts:List TT) (ds:List DC) (us:List Value) (mb:List Nat),aS w cs ts ds us mb→ds.length=cs.length
 | [],ts,ds,us,mb,h=>by simp only[aS] at h;simp [h.2.1]
 | .sl e::cs,ts,ds,us,mb,h=>by
  simp only[aS] at h
  obtain⟨t,d5,rows,aZ,v,aO,m1,gl,rfl,rfl,rfl,_,h,_⟩:=h
  simp [aS.length cs d5 aZ aO gl h]
 | .int k::cs,ts,ds,us,mb,h=>by
  simp only[aS] at h
  obtain⟨d,aZ,v,aO,rfl,rfl,_,h⟩:=h
  simp [aS.length cs ts aZ aO mb h]
 | .bool::cs,ts,ds,us,mb,h=>by
  simp only[aS] at h
  obtain⟨d,aZ,v,aO,rfl,rfl,_,h⟩:=h
  simp [aS.length cs ts aZ aO mb h]
 | .str::cs,ts,ds,us,mb,h=>by
  simp only[aS] at h
  obtain⟨d,aZ,v,aO,rfl,rfl,_,h⟩:=h
  simp [aS.length cs ts aZ aO mb h]
theorem eA:∀(j:Nat) (cs:List CT) (ts:List TT) (d1 d2:List DC),cs.length≤d1.length→aD i j cs ts (d1++d2)=aD i j cs ts d1
 | _,[],_,_,_,_=>rfl
 | j,c::cs,ts,d1,d2,hl=>by
  cases d1 with
  | nil=>simp at hl
  | cons x d1=>
   have D3:cs.length≤d1.length:=by simpa using hl
   cases c<;>simp only[List.cons_append,aD,List.headD_cons,List.tail_cons]<;>rw[eA _ cs _ d1 d2 D3]
theorem Dl:∀(i:Nat) (ks:List AK) (ms:List (Option MK)) (ds:List DC) (vs:List Value) (fp mb:List Nat),cH w ks ms ds vs fp mb→
  ∃E:List EN,(cz i ks ms ds).2=E.map (fun x=>(x.id,x.o))∧E.flatMap (·.φ)=mb∧∀(av:Nat→Prop) (β:Env),(∀x∈E,β.cU x.id=x.cU∧β.val x.id=x.val∧β.nb x.id=x.nb)→(∀b∈fp,¬av b)→
   (∀n,jh (cz i ks ms ds).1 n= .fw∨∃j v,n=i+j∧vs[j]? =some v∧ak w av β (jh (cz i ks ms ds).1 n) v)∧∀x∈E,x.ok w av β
 | i,[],ms,ds,vs,fp,mb,hm=>by
  simp only[cH] at hm
  obtain⟨rfl,rfl,rfl,rfl,rfl⟩:=hm
  exact⟨[],rfl,rfl,fun av β _ _=>⟨fun n=> .inl rfl,by simp⟩⟩
 | i,k::ks,ms,ds,vs,fp,mb,hm=>by
  simp only[cH] at hm
  obtain⟨m,ms,d1,d2,v,vs,f1,f2,b1,b2,rfl,rfl,rfl,ha,hm,rfl,rfl⟩:=hm
  obtain⟨E,e1,e2,e3⟩:=Dl (i+1) ks ms d2 vs f2 b2 hm
  have step:∀(av:Nat→Prop) (β:Env) (s:SV) (l:List (Nat×SV)),(∀n,jh l n= .fw∨∃j u,n=i+1+j∧vs[j]? =some u∧ak w av β (jh l n) u)→ak w av β s v→
    ∀n,jh ((i,s)::l) n= .fw∨∃j u,n=i+j∧(v::vs)[j]? =some u∧ak w av β (jh ((i,s)::l) n) u:=by
   intro av β s l hl hs n
   simp only[jh]
   cases hk:Nat.beq i n
   ·simp only[cond_false]
    rcases hl n with h3 | ⟨j,u,hn,hj,hu⟩
    ·exact .inl h3
    ·exact .inr ⟨j+1,u,by omega,by simpa using hj,hu⟩
   ·have:=Nat.eq_of_beq_eq_true hk
    subst this
    simp only[cond_true]
    exact .inr ⟨0,v,rfl,rfl,hs⟩
  cases m with
  | none=>
   simp only[gm] at ha
   obtain⟨ha,rfl⟩:=ha
   have hl:d1.length=k.bB.length:=by
    obtain⟨us,_,_,hr,_⟩:=ha
    exact a8.length _ _ _ _ hr
   have mT:(d1++d2).drop k.bB.length=d2:=by rw[←hl,List.drop_left]
   refine⟨E,by simp only[cz,List.headD_cons,List.tail_cons,mT,e1],by simpa using e2,fun av β hb Bo=> ?_⟩
   obtain⟨k1,k2⟩:=e3 av β hb (fun b hb=>Bo b (List.mem_append_right _ hb))
   refine⟨?_,k2⟩
   simp only[cz,List.headD_cons,List.tail_cons,mT]
   refine step av β _ _ k1 ?_
   rw[iI _ _ _ _ (by omega)]
   exact Ec ha (fun b hb=>Bo b (List.mem_append_left _ hb))
  | some m=>
   cases m with
   | box t=>
    simp only[gm] at ha
    obtain⟨g,us,rfl,hg,bg,hr,MY,rfl⟩:=ha
    have hl:d1.length=k.bB.length:=a8.length _ _ _ _ hr
    have mT:(d1++d2).drop k.bB.length=d2:=by rw[←hl,List.drop_left]
    refine⟨⟨pid i 0,.box t (cg k.bB d1 0),g,undef,[g],[]⟩::E, ?_,by simp [e2],fun av β hb Bo=> ?_⟩
    ·simp only[cz,List.headD_cons,List.tail_cons,mT,e1,List.map_cons]
     rw[iI _ _ _ _ (by omega)]
    ·obtain⟨k1,k2⟩:=e3 av β (fun x hx=>hb x (List.mem_cons_of_mem _ hx)) (fun b hb=>Bo b (List.mem_append_right _ hb))
     have Ah:=(hb _ (List.mem_cons_self ..)).1
     simp only at Ah
     refine⟨?_,fun x hx=> ?_⟩
     ·simp only[cz,List.headD_cons,List.tail_cons,mT]
      refine step av β _ _ k1 ?_
      simp only[ak,Ah]
     ·rcases List.mem_cons.1 hx with rfl | hx
      ·obtain⟨cK,l1,l2,l3,l4⟩:=a8.bM (β:=β) (av:=av) hr (fun b hb=>Bo b (List.mem_append_left _ hb)) k.bB.length 0 (by omega)
       have ee:cK=us:=by
        apply List.ext_getElem?
        intro j
        by_cases hj:j<cK.length
        ·have:=l2 j cK[j] (by simp)
         simp only[Nat.zero_add] at this
         rw[this]
         simp
        ·rw[List.getElem?_eq_none (by omega),List.getElem?_eq_none (by omega)]
       subst ee
       simp only[List.drop_zero,List.take_length] at l3
       exact⟨⟨cK,by rw[Ah];exact hg,l3,bg,by simp only[Ah]⟩,by simp only[al,Ah]⟩
      ·exact k2 x hx
   | rows ts=>
    simp only[gm] at ha
    obtain⟨us,gj,bg,kW,rfl⟩:=ha
    obtain⟨E1,a1,a2,a3⟩:=cC (i:=i) 0 k.bB ts d1 us b1 kW
    have hl:d1.length=k.bB.length:=aS.length _ _ _ _ _ kW
    have mT:(d1++d2).drop k.bB.length=d2:=by rw[←hl,List.drop_left]
    have GD:aD i 0 k.bB ts (d1++d2)=aD i 0 k.bB ts d1:=eA _ _ _ _ _ (by omega)
    refine⟨E1++E, ?_,by simp [a2,e2],fun av β hb Bo=> ?_⟩
    ·simp only[cz,List.headD_cons,List.tail_cons,mT,GD,e1,a1,List.map_append]
    ·obtain⟨k1,k2⟩:=e3 av β (fun x hx=>hb x (List.mem_append_right _ hx)) (fun b hb=>Bo b (by simpa using hb))
     obtain⟨c1,c2⟩:=a3 av β (fun x hx=>hb x (List.mem_append_left _ hx))
     refine⟨?_,fun x hx=> ?_⟩
     ·simp only[cz,List.headD_cons,List.tail_cons,mT,GD]
      refine step av β _ _ k1 ?_
      cases hk:k.agg with
      | true=>
       rw[hk] at gj
       simp only[cond_true] at gj ⊢
       simp only[ak]
       exact⟨us,gj,c1,bg⟩
      | false=>
       rw[hk] at gj
       simp only[cond_false] at gj ⊢
       rw[gj.1] at c1
       generalize (aD i 0 k.bB ts d1).1=q at c1
       cases q with
       | nil=>simp [af] at c1
       | cons y l=>
        simp only[af] at c1
        obtain⟨v',l',e0,e5,_⟩:=c1
        injection e0 with e0
        subst e0
        simpa using e5
     ·rcases List.mem_append.1 hx with hx | hx
      ·exact c2 x hx
      ·exact k2 x hx
   | jC ts=>
    simp only[gm] at ha
    obtain⟨us,gj,bg,kW,rfl⟩:=ha
    obtain⟨E1,a1,a2,a3⟩:=cC (i:=i) 0 k.bB ts d1 us b1 kW
    have hl:d1.length=k.bB.length:=aS.length _ _ _ _ _ kW
    have mT:(d1++d2).drop k.bB.length=d2:=by rw[←hl,List.drop_left]
    have GD:aD i 0 k.bB ts (d1++d2)=aD i 0 k.bB ts d1:=eA _ _ _ _ _ (by omega)
    refine⟨E1++E, ?_,by simp [a2,e2],fun av β hb Bo=> ?_⟩
    ·simp only[cz,List.headD_cons,List.tail_cons,mT,GD,e1,a1,List.map_append]
    ·obtain⟨k1,k2⟩:=e3 av β (fun x hx=>hb x (List.mem_append_right _ hx)) (fun b hb=>Bo b (by simpa using hb))
     obtain⟨c1,c2⟩:=a3 av β (fun x hx=>hb x (List.mem_append_left _ hx))
     refine⟨?_,fun x hx=> ?_⟩
     ·simp only[cz,List.headD_cons,List.tail_cons,mT,GD]
      refine step av β _ _ k1 ?_
      cases hk:k.agg with
      | true=>
       rw[hk] at gj
       simp only[cond_true] at gj ⊢
       simp only[ak]
       exact⟨us,gj,c1,bg⟩
      | false=>
       rw[hk] at gj
       simp only[cond_false] at gj ⊢
       rw[gj.1] at c1
       generalize (aD i 0 k.bB ts d1).1=q at c1
       cases q with
       | nil=>simp [af] at c1
       | cons y l=>
        simp only[af] at c1
        obtain⟨v',l',e0,e5,_⟩:=c1
        injection e0 with e0
        subst e0
        simpa using e5
     ·rcases List.mem_append.1 hx with hx | hx
      ·exact c2 x hx
      ·exact k2 x hx
   | cI t ts=>
    simp only[gm] at ha
    obtain⟨g,us,mm,rfl,hg,bg,kW,rfl,rfl⟩:=ha
    obtain⟨E1,a1,a2,a3⟩:=cC (i:=i) 0 k.bB ts d1 us mm kW
    have hl:d1.length=k.bB.length:=aS.length _ _ _ _ _ kW
    have mT:(d1++d2).drop k.bB.length=d2:=by rw[←hl,List.drop_left]
    have GD:aD i 0 k.bB ts (d1++d2)=aD i 0 k.bB ts d1:=eA _ _ _ _ _ (by omega)
    refine⟨⟨pid i 62,.box t (aD i 0 k.bB ts d1).1,g,undef,[g],[]⟩::(E1++E), ?_,by simp [a2,e2],fun av β hb Bo=> ?_⟩
    ·simp only[cz,List.headD_cons,List.tail_cons,mT,GD,e1,a1,List.map_append,List.map_cons]
    ·obtain⟨k1,k2⟩:=e3 av β (fun x hx=>hb x (List.mem_cons_of_mem _ (List.mem_append_right _ hx))) (fun b hb=>Bo b (by simpa using hb))
     obtain⟨c1,c2⟩:=a3 av β (fun x hx=>hb x (List.mem_cons_of_mem _ (List.mem_append_left _ hx)))
     have Ah:=(hb _ (List.mem_cons_self ..)).1
     simp only at Ah
     refine⟨?_,fun x hx=> ?_⟩
     ·simp only[cz,List.headD_cons,List.tail_cons,mT,GD]
      refine step av β _ _ k1 ?_
      simp only[ak,Ah]
     ·rcases List.mem_cons.1 hx with rfl | hx
      ·exact⟨⟨us,by rw[Ah];exact hg,c1,bg,by simp only[Ah]⟩,by simp only[al,Ah]⟩
      ·rcases List.mem_append.1 hx with hx | hx
       ·exact c2 x hx
       ·exact k2 x hx
theorem aS.lt:∀(cs:List CT) (ts:List TT) (ds:List DC) (us:List Value) (mb:List Nat),aS w cs ts ds us mb→∀b∈mb,b<w.heap.size
 | [],ts,ds,us,mb,h=>by simp only[aS] at h;simp [h.2.2.2]
 | .sl e::cs,ts,ds,us,mb,h=>by
  simp only[aS] at h
  obtain⟨t,d5,rows,aZ,v,aO,m1,gl,rfl,rfl,rfl,h1,h,rfl⟩:=h
  intro b hb
  rcases List.mem_append.1 hb with hb | hb
  ·exact h1.lt b hb
  ·exact aS.lt cs d5 aZ aO gl h b hb
 | .int k::cs,ts,ds,us,mb,h=>by
  simp only[aS] at h
  obtain⟨d,aZ,v,aO,rfl,rfl,_,h⟩:=h
  exact aS.lt cs ts aZ aO mb h
 | .bool::cs,ts,ds,us,mb,h=>by
  simp only[aS] at h
  obtain⟨d,aZ,v,aO,rfl,rfl,_,h⟩:=h
  exact aS.lt cs ts aZ aO mb h
 | .str::cs,ts,ds,us,mb,h=>by
  simp only[aS] at h
  obtain⟨d,aZ,v,aO,rfl,rfl,_,h⟩:=h
  exact aS.lt cs ts aZ aO mb h
theorem cH.facts:∀(ks:List AK) (ms:List (Option MK)) (ds:List DC) (vs:List Value) (fp mb:List Nat),cH w ks ms ds vs fp mb→(∀b∈mb,b<w.heap.size)∧(∀b∈fp,b<w.heap.size)∧vs.length=ks.length
 | [],ms,ds,vs,fp,mb,h=>by
  simp only[cH] at h
  obtain⟨_,_,rfl,rfl,rfl⟩:=h
  simp
 | k::ks,ms,ds,vs,fp,mb,h=>by
  simp only[cH] at h
  obtain⟨m,D5,d1,d2,v,cK,f1,f2,b1,b2,rfl,rfl,rfl,ha,h,rfl,rfl⟩:=h
  obtain⟨k1,k2,k3⟩:=cH.facts ks D5 d2 cK f2 b2 h
  have one:(∀b∈b1,b<w.heap.size)∧∀b∈f1,b<w.heap.size:=by
   cases m with
   | none=>
    simp only[gm] at ha
    obtain⟨⟨us,_,_,hr,_⟩,rfl⟩:=ha
    exact⟨by simp,a8.lt _ _ _ _ hr⟩
   | some m=>
    cases m with
    | box t=>
     simp only[gm] at ha
     obtain⟨g,us,_,hg,_,hr,_,rfl⟩:=ha
     refine⟨fun b hb=> ?_,a8.lt _ _ _ _ hr⟩
     simp only[List.mem_singleton] at hb
     subst hb
     exact (Array.getElem?_eq_some_iff.1 hg).1
    | rows ts=>
     simp only[gm] at ha
     obtain⟨us,_,_,kW,rfl⟩:=ha
     exact⟨aS.lt _ _ _ _ _ kW,by simp⟩
    | jC ts=>
     simp only[gm] at ha
     obtain⟨us,_,_,kW,rfl⟩:=ha
     exact⟨aS.lt _ _ _ _ _ kW,by simp⟩
    | cI t ts=>
     simp only[gm] at ha
     obtain⟨g,us,mm,_,hg,_,kW,rfl,rfl⟩:=ha
     refine⟨fun b hb=> ?_,by simp⟩
     rcases List.mem_cons.1 hb with rfl | hb
     ·exact (Array.getElem?_eq_some_iff.1 hg).1
     ·exact aS.lt _ _ _ _ _ kW b hb
  refine⟨fun b hb=> ?_,fun b hb=> ?_,by simp [k3]⟩
  ·rcases List.mem_append.1 hb with hb | hb
   ·exact one.1 b hb
   ·exact k1 b hb
  ·rcases List.mem_append.1 hb with hb | hb
   ·exact one.2 b hb
   ·exact k2 b hb
theorem ma {E:List EN} (h:(E.flatMap (·.φ)).Nodup):(∀x∈E,x.φ.Nodup)∧∀x∈E,∀y∈E,x≠y→∀b∈x.φ,b ∉ y.φ:=by
 induction E with
 | nil=>simp
 | cons z l ih=>
  rw[List.flatMap_cons,List.nodup_append] at h
  obtain⟨h1,h2,h3⟩:=h
  obtain⟨i1,i2⟩:=ih h2
  refine⟨fun x hx=> ?_,fun x hx y hy Ao b hb ax=> ?_⟩
  ·rcases List.mem_cons.1 hx with rfl | hx
   ·exact h1
   ·exact i1 x hx
  ·rcases List.mem_cons.1 hx with BQ | BQ<;>rcases List.mem_cons.1 hy with BR | BR
   ·exact Ao (BQ.trans BR.symm)
   ·subst BQ
    exact h3 b hb b (List.mem_flatMap.2 ⟨y,BR,ax⟩) rfl
   ·subst BR
    exact h3 b ax b (List.mem_flatMap.2 ⟨x,BQ,hb⟩) rfl
   ·exact i2 x BQ y BR Ao b hb ax
theorem fh.count {w:World} :∀(BZ:List RK) (ds:List DC) (vs:List Value) (φ im tp:List Nat),fh w BZ ds vs φ im tp→ds.length=cj BZ
 | [],ds,vs,φ,im,tp,h=>by simp only[fh] at h;simp [h.1,cj]
 | r::rs,ds,vs,φ,im,tp,h=>by
  simp only[fh] at h
  obtain⟨d1,d2,v,cK,us,DZ,Bk,i1,i2,t1,t2,rfl,rfl,_,_,h1,h2,_⟩:=h
  simp only[List.length_append,cj,dh.length _ _ _ _ _ _ h1,fh.count rs d2 cK _ _ _ h2]
theorem aS.wt:∀(cs:List CT) (ts:List TT) (ds:List DC) (us:List Value) (mb:List Nat),aS w cs ts ds us mb→kc cs ds
 | [],ts,ds,us,mb,h=>by simp only[aS] at h;simp only[kc];exact h.2.1
 | .sl e::cs,ts,ds,us,mb,h=>by
  simp only[aS] at h
  obtain⟨t,d5,rows,aZ,v,aO,m1,gl,rfl,rfl,rfl,ED,h,_⟩:=h
  obtain⟨tt,vals,az,h1,h2⟩:=ED.reads
  simp only[kc,G1]
  refine⟨_,_,rfl,⟨rows,rfl, ?_,fun r hr=> ?_⟩,aS.wt cs d5 aZ aO gl h⟩
  ·rcases h1.2 with ⟨_,hn,_⟩ | ⟨g,cap,cur,_,_,h3,h4,_⟩
   ·rw[hn];exact Nat.zero_le _
   ·omega
  ·obtain⟨i,hi,rfl⟩:=List.getElem_of_mem hr
   have dQ:i<az.length:=by have:=h2.1;omega
   exact a8.wt e _ _ _ (h2.2 i rows[i] az[i] (by simp) (by simp [dQ]))
 | .int k::cs,ts,ds,us,mb,h=>by
  simp only[aS] at h
  obtain⟨d,aZ,v,aO,rfl,rfl,h1,h⟩:=h
  simp only[kc]
  exact⟨d,aZ,rfl,bV.wt _ _ _ _ h1,aS.wt cs ts aZ aO mb h⟩
 | .bool::cs,ts,ds,us,mb,h=>by
  simp only[aS] at h
  obtain⟨d,aZ,v,aO,rfl,rfl,h1,h⟩:=h
  simp only[kc]
  exact⟨d,aZ,rfl,bV.wt _ _ _ _ h1,aS.wt cs ts aZ aO mb h⟩
 | .str::cs,ts,ds,us,mb,h=>by
  simp only[aS] at h
  obtain⟨d,aZ,v,aO,rfl,rfl,h1,h⟩:=h
  simp only[kc]
  exact⟨d,aZ,rfl,bV.wt _ _ _ _ h1,aS.wt cs ts aZ aO mb h⟩
theorem cH.wt:∀(ks:List AK) (ms:List (Option MK)) (ds:List DC) (vs:List Value) (fp mb:List Nat),cH w ks ms ds vs fp mb→kc (gV ks) ds
 | [],ms,ds,vs,fp,mb,h=>by
  simp only[cH] at h
  simp only[gV,kc]
  exact h.2.1
 | k::ks,ms,ds,vs,fp,mb,h=>by
  simp only[cH] at h
  obtain⟨m,D5,d1,d2,v,cK,f1,f2,b1,b2,rfl,rfl,rfl,ha,h,_⟩:=h
  refine kc.append ?_ (cH.wt ks D5 d2 cK f2 b2 h)
  cases m with
  | none=>
   simp only[gm] at ha
   obtain⟨⟨us,_,_,hr,_⟩,_⟩:=ha
   exact a8.wt _ _ _ _ hr
  | some m=>
   cases m with
   | box t=>
    simp only[gm] at ha
    obtain⟨g,us,_,_,_,hr,_⟩:=ha
    exact a8.wt _ _ _ _ hr
   | rows ts=>
    simp only[gm] at ha
    obtain⟨us,_,_,kW,_⟩:=ha
    exact aS.wt _ _ _ _ _ kW
   | jC ts=>
    simp only[gm] at ha
    obtain⟨us,_,_,kW,_⟩:=ha
    exact aS.wt _ _ _ _ _ kW
   | cI t ts=>
    simp only[gm] at ha
    obtain⟨g,us,mm,_,_,_,kW,_⟩:=ha
    exact aS.wt _ _ _ _ _ kW
def D4:List EN→Nat→Option EN
 | [],_=>none
 | x::l,i=>if i=x.id then some x else D4 l i
theorem jP {E:List EN} {j:Nat} {x:EN} (h:D4 E j=some x):x∈E∧x.id=j:=by
 induction E with
 | nil=>simp [D4] at h
 | cons y l ih=>
  simp only[D4] at h
  split at h
  ·rename_i hj
   injection h with h
   subst h
   exact⟨List.mem_cons_self ..,hj.symm⟩
  ·obtain⟨h1,h2⟩:=ih h
   exact⟨List.mem_cons_of_mem _ h1,h2⟩
theorem Ff {E:List EN} {x:EN} (hx:x∈E) (hn:(E.map (·.id)).Nodup):D4 E x.id=some x:=by
 induction E with
 | nil=>simp at hx
 | cons y l ih=>
  simp only[List.map_cons,List.nodup_cons] at hn
  simp only[D4]
  rcases List.mem_cons.1 hx with rfl | hx
  ·simp
  ·have:x.id≠y.id:=fun e=>hn.1 (e ▸ List.mem_map_of_mem hx)
   rw[if_neg this]
   exact ih hx hn.2
theorem BT {E:List EN} {j:Nat} {o:aj} (h:dF (E.map fun x=>(x.id,x.o)) j=some o):∃x,D4 E j=some x∧x.o=o:=by
 induction E with
 | nil=>simp [dF] at h
 | cons y l ih=>
  simp only[List.map_cons,dF] at h
  simp only[D4]
  cases hb:Nat.beq y.id j
  ·rw[hb] at h
   rw[if_neg (fun e=>Nat.ne_of_beq_eq_false hb e.symm)]
   exact ih h
  ·rw[hb] at h
   have:=Nat.eq_of_beq_eq_true hb
   subst this
   simp only[cond_true,Option.some.injEq] at h
   exact⟨y,by simp,h⟩
theorem Dd {fn:Func} {s:Sum} {st:St} {r:List DC} (h:mO P fn s st=(true,r)):st.ok=true:=by
 unfold mO at h
 split at h
 ·simp only[Prod.mk.injEq,Bool.and_eq_true] at h
  exact h.1.1.1
 ·exact absurd h bG
theorem Af {fn:Func} {s:Sum} {st:St} {r:List DC} {w w':World} {ds:List DC} {vals:List Value} {fp mb:List Nat} {a:Act} (A2:shares s=false) (hm:cH w s.ps s.ms ds vals fp mb)
  (h:mO P fn s st=(true,r)) (hR:Rel w ⟨fun b=>b∈mb,fun b=>b<w.heap.size∧b ∉ fp∧b ∉ mb,(vals.zipIdx.filter (fun x=>Nat.blt x.2 (lA s.ms))).map (fun x=>(x.2,x.1))⟩ st a w'):
  a.defers=[]∧∃v,(results fn a.tmps).run P w'= .ok v w'∧∃vs φ im tp mL rd od ψ,Ending.returned v= .returned (pack vs)∧r=rd++od∧rd.length=cj s.rs∧Kept ⟨fun b=>b∈mb,fun _=>False,[]⟩ w w'∧fh w' s.rs rd vs φ im tp∧φ.Nodup∧
   (∀b∈φ,(b∈mb∨w.heap.size≤b)∧b<w'.heap.size)∧lR w' s.ps s.ms od vals mL ψ∧ψ.Nodup∧(∀b∈ψ,(b∈mb∨w.heap.size≤b)∧b<w'.heap.size∧b ∉ φ)∧∀b∈mL,(b∈fp∨w.heap.size≤b)∧b ∉ tp∧b ∉ ψ∧eV s.ms=false:=by
 obtain⟨_,_,A3⟩:=cH.facts _ _ _ _ _ _ hm
 unfold mO at h
 split at h
 case h_2=>exact absurd h bG
 rename_i rd own im od ids x hr
 simp only[Prod.mk.injEq,Bool.and_eq_true] at h
 obtain⟨⟨⟨_,a7⟩,ER⟩,rfl⟩:=h
 obtain⟨β,φ,hc⟩:=hR.core
 have hval:=M.eu _ hr
 simp only[M.ae,Option.bind_eq_some_iff,M.aa,Option.some.injEq,Prod.mk.injEq] at hval
 obtain⟨ss,h1,q,h2,q2,h3,e1,e2⟩:=hval
 subst e1
 subst e2
 obtain⟨vs,g1,g2⟩:=iM hc _ _ h1
 obtain⟨φ',E8,Bj,k1,k2,k3,k4,k5⟩:=jb hc _ _ _ _ g2 h2
 have Mk:∀(j:Nat) v m,vals[j]? =some v→s.ms[j]? =some (some m)→a.tmps.getD (0+j) undef=v:=by
  intro j v m hj hm
  have:=(hR.fx (j,v) (List.mem_map.2 ⟨(v,j),List.mem_filter.2 ⟨by rw[List.mem_zipIdx_iff_getElem?];exact hj,Nat.ble_eq_true_of_le (Dq hm)⟩,rfl⟩)).2
  simpa using this
 obtain⟨mL,ψ,o1,o2,o4,o5,o6,o3⟩:=iJ hc 0 s.ps s.ms vals _ Mk A3 h3
 have hnd:=fm a7
 rw[List.nodup_append] at hnd
 have Jm:∀b∈ψ,∀i∈own,∀o,st.obj i=some o→b ∉ φ i:=by
  intro b hb i hi o Ci mh
  obtain⟨id,dR,o',d6,jG⟩:=o5 b hb
  have cJ:i≠id:=fun e=>hnd.2.2 i hi id dR e
  exact absurd (ah (hc.ay _ _ d6) b jG) (hc.sep i id o o' cJ Ci d6 b mh)
 have HJ:∀b∈ψ,b ∉ φ':=by
  intro b hb fC
  obtain⟨i,hi,⟨o,Ci⟩,mh⟩:=k2 b fC
  exact Jm b hb i hi o Ci mh
 have Jl:∀b∈ψ,Av st.obj β b:=fun b hb=>by
  obtain⟨id,dR,o',d6,jG⟩:=o5 b hb
  exact .inl ⟨id,o',d6,jG⟩
 have AW:∀b∈mL,b<w.heap.size→b ∉ fp→False:=by
  intro b hb cn hf
  rcases Bool.or_eq_true_iff.1 ER with Kv | Kv
  ·have GH:∀b∈mb,∃id∈ids,∃o,st.obj id=some o∧b∈al β id o:=o3 Kv w ds fp mb hm
   have cP:=o2 b hb
   have IZ:b ∉ mb:=fun Ir=>by
    obtain⟨id,dR,o',d6,jG⟩:=GH b Ir
    exact cP (.inl ⟨id,o',d6,jG⟩)
   refine absurd (.inr ?_) cP
   rw[hc.bars]
   exact⟨cn,hf,IZ⟩
  ·rw[o4 Kv] at hb
   simp at hb
 refine⟨hR.defers,pack vs,lf g1,vs,φ',E8,Bj,mL,rd,od,ψ,rfl,rfl,fh.count _ _ _ _ _ _ k1,⟨hR.kept.os,hR.kept.tape,hR.kept.output,hR.kept.size,hR.kept.block⟩,k1,k4 hnd.1, ?_,o1,o6 hnd.2.1, ?_, ?_⟩
 ·intro b hb
  obtain⟨i,hi,⟨o,Ci⟩,mh⟩:=k2 b hb
  have hf:=(hc.fresh i o Ci).2 b mh
  exact⟨hf.1.symm,hf.2⟩
 ·intro b hb
  obtain⟨id,dR,o',d6,jG⟩:=o5 b hb
  have hf:=(hc.fresh id o' d6).2 b (ah (hc.ay _ _ d6) b jG)
  exact⟨hf.1.symm,hf.2,HJ b hb⟩
 ·intro b hb
  have cP:=o2 b hb
  refine⟨?_,fun jG=> ?_,fun Kb=>cP (Jl b Kb), ?_⟩
  ·by_cases cn:b<w.heap.size
   ·by_cases hf:b∈fp
    ·exact .inl hf
    ·exact (AW b hb cn hf).elim
   ·exact .inr (by omega)
  ·obtain⟨j,oj,_,hj,bo⟩:=k3 b jG
   exact cP (.inl ⟨j,oj,hj,bo⟩)
  ·cases jr:eV s.ms with
   | false=>rfl
   | true=>
    rw[o4 jr] at hb
    simp at hb
theorem FH (eR:bF P Γ) {g:Nat} {fn:Func} {s:Sum} (hf:P.funcs[g]? =some fn) (He:fn.body.isSome=true) (hn:(fn.name== "runtime.NumGoroutine")=false) (hlen:s.ps.length≤fn.ntmps) (GK:fn.ntmps<1099511627776)
  (A2:shares s=false) (dR:∀ds,eS ((cz 0 s.ps s.ms ds).2.map (·.1))=true)
  (h:∀ds,kc (gV s.ps) ds→(s.fn ds).1=true→∃N,GX P Γ A N fn s ds=(true,(s.fn ds).2)):Cm P g s:=by
 refine⟨⟨fn,hf,He,hn⟩,fun w ds vals fp mb cv IM KC aJ=> ?_⟩
 obtain⟨N,bp⟩:=h ds (cH.wt _ _ _ _ _ _ cv) aJ
 obtain⟨c,hc⟩:=Option.isSome_iff_exists.1 He
 unfold GX at bp
 rw[hc] at bp
 simp only at bp
 obtain⟨KE,Mj,A3⟩:=cH.facts _ _ _ _ _ _ cv
 refine calls_of_wp hf hc ?_
 let S:Own:=⟨fun b=>b∈mb,fun b=>b<w.heap.size∧b ∉ fp∧b ∉ mb,(vals.zipIdx.filter (fun x=>Nat.blt x.2 (lA s.ms))).map (fun x=>(x.2,x.1))⟩
 obtain⟨E,e1,e2,e3⟩:=Dl 0 s.ps s.ms ds vals fp mb cv
 have Kq:(E.map (·.id)).Nodup:=by
  have:=fm (dR ds)
  rw[e1,List.map_map] at this
  exact this
 let β:Env:=⟨fun j=>match D4 E j with | some x=>x.cU | none=>0,fun j=>match D4 E j with | some x=>x.val | none=>undef,S.gH,fun j=>match D4 E j with | some x=>x.nb | none=>[]⟩
 have gk:∀x∈E,β.cU x.id=x.cU∧β.val x.id=x.val∧β.nb x.id=x.nb:=by
  intro x hx
  simp only[β,Ff hx Kq,and_self]
 have E7:∀x∈E,∀b∈x.φ,b∈mb:=fun x hx b hb=>by rw[←e2];exact List.mem_flatMap.2 ⟨x,hx,hb⟩
 have Al:∀x∈E,al β x.id x.o=x.φ:=fun x hx=>((e3 (fun _=>False) β gk (fun _ _ h=>h)).2 x hx).2
 have Hw:∀b∈fp,¬Av (dF (cz 0 s.ps s.ms ds).2) β b:=by
  rintro b hb (⟨j,o,ho,jG⟩ | hx)
  ·rw[e1] at ho
   obtain⟨x,hx,rfl⟩:=BT ho
   obtain⟨hm,rfl⟩:=jP hx
   rw[Al x hm] at jG
   exact KC b (E7 x hm b jG) hb
  ·exact hx.2.1 hb
 obtain⟨ku,aL⟩:=e3 (Av (dF (cz 0 s.ps s.ms ds).2) β) β gk Hw
 have hR:Rel w S {n:=fn.ntmps+lA s.ms*1099511627776,sl:=(cz 0 s.ps s.ms ds).1,hp:=(cz 0 s.ps s.ms ds).2,ok:=true,ls:=[],lm:=[]} {tmps:=vals.toArray++Array.replicate (fn.ntmps - vals.toArray.size) undef,defers:=[]} w:=by
  have mU:∀(j:Nat) v,vals[j]? =some v→(vals.toArray++Array.replicate (fn.ntmps - vals.toArray.size) undef).getD j undef=v:=by
   intro j v hj
   have Hr:j<vals.length:=(List.getElem?_eq_some_iff.1 hj).1
   rw[Array.getD_eq_getD_getElem?,Array.getElem?_append_left (by simp;omega)]
   simp [hj]
  refine⟨by simp;omega, ?_,rfl,⟨rfl,rfl,rfl,Nat.le_refl _,fun _ _ _=>rfl⟩,β,fun j=>match D4 E j with | some x=>x.φ | none=>[], ?_⟩
  ·intro x hx
   obtain⟨⟨v,j⟩,Je,rfl⟩:=List.mem_map.1 hx
   obtain⟨Je,Kx⟩:=List.mem_filter.1 Je
   have Kx:j<lA s.ms:=Nat.le_of_ble_eq_true Kx
   rw[List.mem_zipIdx_iff_getElem?] at Je
   have Hr:j<vals.length:=(List.getElem?_eq_some_iff.1 Je).1
   exact⟨by simp only;omega,mU j v Je⟩
  ·refine⟨fun i=> ?_,fun id o ho=> ?_,fun id o ho=> ?_,fun i j oi oj cJ hi hj b hb=> ?_,fun b hb=>⟨hb.1,hb.2.2⟩,rfl⟩
   ·rcases ku i with h1 | ⟨j,v,hi,hj,hs⟩
    ·show ak w _ _ (jh (cz 0 s.ps s.ms ds).1 i) _
     rw[h1]
     simp [ak]
    ·have:i=j:=by omega
     subst this
     rw[mU i v hj]
     exact hs
   ·have d6:dF (cz 0 s.ps s.ms ds).2 id=some o:=ho
    rw[e1] at d6
    obtain⟨x,hx,rfl⟩:=BT d6
    obtain⟨hm,rfl⟩:=jP hx
    simp only[hx]
    exact (aL x hm).1
   ·have d6:dF (cz 0 s.ps s.ms ds).2 id=some o:=ho
    rw[e1] at d6
    obtain⟨x,hx,rfl⟩:=BT d6
    obtain⟨hm,rfl⟩:=jP hx
    simp only[hx]
    refine⟨?_,fun b hb=>⟨.inr (E7 x hm b hb),KE b (E7 x hm b hb)⟩⟩
    exact (ma (E:=E) (by rw[e2];exact IM)).1 x hm
   ·have dQ:dF (cz 0 s.ps s.ms ds).2 i=some oi:=hi
    have f_:dF (cz 0 s.ps s.ms ds).2 j=some oj:=hj
    rw[e1] at dQ f_
    obtain⟨x,hx,rfl⟩:=BT dQ
    obtain⟨y,hy,rfl⟩:=BT f_
    simp only[hx] at hb
    simp only[hy]
    have Jg:=jP hx
    have JU:=jP hy
    have Ao:x≠y:=by
     rintro rfl
     exact cJ (Jg.2.symm.trans JU.2)
    exact (ma (E:=E) (by rw[e2];exact IM)).2 x Jg.1 y JU.1 Ao b hb
 refine cN (r:=(s.fn ds).2) eR c _ {eM:=mO P fn s,ext:=fun _ _=>ke,ret:=mO P fn s} _ w _ ⟨fun st ib=>Dd ib,fun i st ib=>absurd ib bG,fun st ib=>Dd ib⟩ hR bp ⟨?_, ?_, ?_⟩
 ·intro st a w' eO ib
  exact Af A2 cv ib eO
 ·intro i st a w' _ ib
  exact absurd ib bG
 ·intro st a w' eO ib
  exact Af A2 cv ib eO
end
end Go.Proofs.YtngbcccnjiaddaaGreat.Vm
namespace Go.Proofs.YtngbcccnjiaddaaGreat.Vm
def Lj (P:Program) (Γ:Ctx) (A:List (Nat×lE)) (N:Nat) (fn:Func) (s:Sum) (p:List Bool) (is:List (St→kM)) (ih:St→kM) (st:St):kM:=
 match fn.body with
 | some c=>match focus P Γ A N p is c {eM:=mO P fn s,ext:=fun _ _=>ke,ret:=mO P fn s} with
  | (.loop a,K)=>match (dq a).bind (Jo A) with
   | some an=>run P Γ A N a st {eM:=fun s'=>ih (canon P an s'),ext:=K.ext,ret:=K.ret}
   | none=>ke
  | _=>ke
 | none=>ke
end Go.Proofs.YtngbcccnjiaddaaGreat.Vm
