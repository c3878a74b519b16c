/- The value machine: runs, loops, contracts out of runs. Conditions: as each lemma says. -/
import Derived.Test.YtoaflbnkiobhdaaGreatVc
import Derived.LoopN
set_option linter.unusedVariables false
set_option linter.unusedSimpArgs false
namespace Go.Proofs.YtoaflbnkiobhdaaGreat.Vm
section
variable {P:Program} {Γ:Ctx} {w0:World} {S:Own} {ops:Array Oper} {gs:List Nat}
theorem gz {i:Nat} :∀ {l m:List Nat},i∈iw l m→i∈l∨i∈m
 | [],m,h=> .inr h
 | k::l,m,h=>by
  simp only[iw] at h
  cases hk:ic k m
  ·simp only[hk,cond_false,List.mem_cons] at h
   rcases h with rfl | h
   ·exact .inl (List.mem_cons_self ..)
   ·exact (gz h).imp (List.mem_cons_of_mem _) id
  ·simp only[hk,cond_true] at h
   exact (gz h).imp (List.mem_cons_of_mem _) id
def lN (ops:Array Oper) (L:Nat→Bool) (k:Nat):Prop:=∀o,ops[k]? =some o→∀e∈o.after,Region.binds .any e=true→L e.on=true
theorem kl {acc:List (List Nat)} {j:Nat} :∀(l:List Edge),j∈l.foldr (fun e r=>bif Region.binds .any e then iw (iw [e.on] (acc.getD e.on [])) r else r) []→
  ∃e∈l,Region.binds .any e=true∧(j=e.on∨j∈acc.getD e.on [])
 | [],h=>by simp at h
 | e::l,h=>by
  simp only[List.foldr_cons] at h
  cases hb:Region.binds .any e
  ·simp only[hb,cond_false] at h
   obtain⟨x,hx,h1⟩:=kl l h
   exact⟨x,List.mem_cons_of_mem _ hx,h1⟩
  ·simp only[hb,cond_true] at h
   rcases gz h with h | h
   ·refine⟨e,List.mem_cons_self ..,hb, ?_⟩
    rcases gz h with h | h
    ·exact .inl (by simpa using h)
    ·exact .inr h
   ·obtain⟨x,hx,h1⟩:=kl l h
    exact⟨x,List.mem_cons_of_mem _ hx,h1⟩
theorem m6 {L:Nat→Bool} (Bk:∀k,L k=true→lN ops L k):∀(l:List Oper) (acc:List (List Nat)) (pre:List Oper),ops.toList=pre++l→acc.length=pre.length→
  (∀k j,lN ops L k→j∈acc.getD k []→L j=true)→∀k j,lN ops L k→j∈(Cm l acc).getD k []→L j=true
 | [],acc,pre,_,_,h=>by simpa [Cm] using h
 | o::l,acc,pre,I2,hlen,h=>by
  rw[Cm]
  refine m6 Bk l _ (pre++[o]) (by simp [I2]) (by simp [hlen]) ?_
  intro k j hk hj
  rcases Nat.lt_trichotomy k acc.length with cm | heq | FW
  ·refine h k j hk ?_
   rw[List.getD_eq_getElem?_getD,List.getElem?_append_left cm] at hj
   rwa [List.getD_eq_getElem?_getD]
  ·subst heq
   rw[List.getD_eq_getElem?_getD,List.getElem?_append_right (Nat.le_refl _)] at hj
   simp only[Nat.sub_self,List.getElem?_cons_zero,Option.getD_some] at hj
   obtain⟨e,he,hb,hj⟩:=kl _ hj
   have ho:ops[acc.length]? =some o:=by
    rw[←Array.getElem?_toList,I2,hlen]
    simp
   have hL:=hk o ho e (by simpa using he) hb
   rcases hj with rfl | hj
   ·exact hL
   ·exact h e.on j (Bk _ hL) hj
  ·rw[List.getD_eq_getElem?_getD,List.getElem?_eq_none (by simp;omega)] at hj
   simp at hj
theorem jw:∀(l:List Oper) (i:Nat),gr l i=true→∀k o,l[k]? =some o→∀e∈o.after,Region.binds .any e=true→e.on<i+k
 | [],_,_,k,o,h,_,_,_=>by simp at h
 | x::l,i,h,k,o,hk,e,he,hb=>by
  simp only[gr,Bool.and_eq_true,List.all_eq_true] at h
  cases k with
  | zero=>
   simp only[List.getElem?_cons_zero,Option.some.injEq] at hk
   subst hk
   have:=h.1 e (by simpa using he)
   rw[hb] at this
   simp only[Bool.not_true,Bool.false_or] at this
   exact Nat.le_of_ble_eq_true this
  | succ k=>
   simp only[List.getElem?_cons_succ] at hk
   have:=jw l (i+1) h.2 k o hk e he hb
   omega
theorem jW {an:List (List Nat)} {a:cr} :∀(l:List cr),lM an a l=true→∀b∈l,(dC a b=true→a.i∈an.getD b.i [])∧kh b a=false
 | [],_=>by simp
 | c::l,h=>by
  simp only[lM,Bool.and_eq_true,Bool.not_eq_true'] at h
  intro b hb
  rcases List.mem_cons.1 hb with rfl | hb
  ·refine⟨fun hc=> ?_,h.1.2⟩
   have:=h.1.1
   rw[hc] at this
   simp only[Bool.not_true,Bool.false_or] at this
   exact gb.1 this
  ·exact jW l h.2 b hb
theorem lQ {an:List (List Nat)} :∀(l:List cr),lP an l=true→l.Pairwise (fun a b=>(dC a b=true→a.i∈an.getD b.i [])∧kh b a=false)
 | [],_=> .nil
 | a::l,h=>by
  simp only[lP,Bool.and_eq_true] at h
  exact .cons (jW l h.1) (lQ l h.2)
theorem fX {l m:List Nat} {i:Nat} (h1:i∈l) (h2:i∈m):fW l m=true:=by
 induction m with
 | nil=>simp at h2
 | cons k m ih=>
  simp only[fW,Bool.or_eq_true]
  rcases List.mem_cons.1 h2 with rfl | h2
  ·exact .inl (gb.2 h1)
  ·exact .inr (ih h2)
theorem il {rest:List Oper} {st:St} {l:List PS} {fin:St} (h:Path P Γ ops gs rest 0 st l fin) {p:PS} (hp:p∈l):l[p.i]? =some p∧rest[p.i]? =some p.o∧p.i<rest.length:=by
 obtain⟨k,hk,rfl⟩:=List.getElem_of_mem hp
 have h1:=(cq h).1
 have h2:=(cq h).2.1
 have hl:l.length=rest.length:=by rw[←h2];simp
 have e:l[k].i=k:=by
  have:(l.map (·.i))[k]? =(List.range' 0 rest.length)[k]? :=by rw[h1]
  rw[List.getElem?_map,List.getElem?_eq_getElem hk,List.getElem?_range' (by omega)] at this
  simpa using this
 rw[e]
 refine⟨List.getElem?_eq_getElem hk, ?_,by omega⟩
 rw[←h2,List.getElem?_map,List.getElem?_eq_getElem hk]
 rfl
theorem kA {rest:List Oper} {st:St} {l:List PS} {fin:St} {an:List (List Nat)} (h:Path P Γ ops gs rest 0 st l fin) (Cr:lP an (l.map (·.log))=true) {p q:PS} (hp:p∈l) (hq:q∈l) (cm:p.i<q.i):
  (dC p.log q.log=true→p.i∈an.getD q.i [])∧kh q.log p.log=false:=by
 have I8:=List.pairwise_map.1 (lQ _ Cr)
 have gp:=(il h hp).1
 have gq:=(il h hq).1
 rw[List.pairwise_iff_getElem] at I8
 have lp:=(List.getElem?_eq_some_iff.1 gp).1
 have lq:=(List.getElem?_eq_some_iff.1 gq).1
 have:=I8 p.i q.i lp lq cm
 rw[(List.getElem?_eq_some_iff.1 gp).2,(List.getElem?_eq_some_iff.1 gq).2] at this
 have ei:=((cq h).2.2 p hp).1
 have ej:=((cq h).2.2 q hq).1
 rw[ei,ej] at this
 exact this
theorem A6 {p:PS} (hs:iX P Γ ops p) {id:Nat} (ht:p.tH id):id∈p.log.wo:=by
 rcases hs with ⟨_,he,_,_⟩ | ⟨_,e,s,r,hr,_,hl,he⟩
 ·rw[PS.tH,he] at ht
  simp at ht
 ·rw[hl]
  simp only[bG,hr]
  have h1:p.e.ow=e.ow∧p.e.cw=e.cw:=by
   rcases he with rfl | ⟨d,g,_,_,he⟩
   ·exact⟨rfl,rfl⟩
   ·rw[he];exact⟨rfl,rfl⟩
  rw[PS.tH,h1.1,h1.2] at ht
  rcases ht with ht | ⟨off,bL,hc⟩
  ·exact List.mem_append_right _ ht
  ·rw[hc]
   exact List.mem_append_left _ (List.mem_singleton.2 rfl)
theorem HS {p:PS} (hs:iX P Γ ops p) {j:Nat} (hj:j∈bU p.e.sv):j∈p.log.m:=by
 rcases hs with ⟨_,he,_,_⟩ | ⟨_,e,s,r,hr,_,hl,he⟩
 ·rw[he] at hj
  simp [bU] at hj
 ·rw[hl]
  simp only[bG,hr]
  rcases he with rfl | ⟨d,g,_,_,he⟩
  ·exact List.mem_append_left _ hj
  ·rw[he] at hj
   simp [bU] at hj
theorem Gf {ow:List (Nat×Option aj)} {id:Nat} {x:Option aj} (h:Ge ow id=some x):(id,x)∈ow:=by
 induction ow with
 | nil=>simp [Ge] at h
 | cons y l ih=>
  obtain⟨i,ob⟩:=y
  simp only[Ge] at h
  split at h
  ·rename_i hi
   subst hi
   simp only[Option.some.injEq] at h
   subst h
   exact List.mem_cons_self ..
  ·exact List.mem_cons_of_mem _ (ih h)
theorem HR {p:PS} (hs:iX P Γ ops p) {id:Nat} {ob:aj} (hj:(id,some ob)∈p.e.ow):id∈p.log.m∧∀j∈cC ob,j∈p.log.m:=by
 rcases hs with ⟨_,he,_,_⟩ | ⟨_,e,s,r,hr,_,hl,he⟩
 ·rw[he] at hj
  simp at hj
 ·rw[hl]
  simp only[bG,hr]
  have h1:p.e.ow=e.ow:=by
   rcases he with rfl | ⟨d,g,_,_,he⟩
   ·rfl
   ·rw[he]
  rw[h1] at hj
  unfold Cq
  constructor
  ·exact List.mem_append_right _ (List.mem_append_right _ (List.mem_flatMap.2 ⟨_,hj,List.mem_cons_self ..⟩))
  ·intro j f9
   exact List.mem_append_right _ (List.mem_append_right _ (List.mem_flatMap.2 ⟨_,hj,List.mem_cons_of_mem _ f9⟩))
theorem HQ {p:PS} (hs:iX P Γ ops p) {i off:Nat} {bL:List SV} (hc:p.e.cw=some (i,off,bL)):∀j∈bR bL,j∈p.log.m:=by
 rcases hs with ⟨_,he,_,_⟩ | ⟨_,e,s,r,hr,_,hl,he⟩
 ·rw[he] at hc
  simp at hc
 ·rw[hl]
  simp only[bG,hr]
  have h1:p.e.cw=e.cw:=by
   rcases he with rfl | ⟨d,g,_,_,he⟩
   ·rfl
   ·rw[he]
  rw[h1] at hc
  intro j hj
  unfold Cq
  refine List.mem_append_right _ (List.mem_append_left _ ?_)
  rw[hc]
  exact hj
theorem fT (a b:List SV):bR (a++b)=bR a++bR b:=by
 induction a with
 | nil=>rfl
 | cons x a ih=>simp [bR,ih]
theorem B9 {a:List SV} {n j:Nat} (h:j∈bR (a.take n)):j∈bR a:=by
 have:=List.take_append_drop n a
 rw[←this,fT]
 exact List.mem_append_left _ h
theorem B8 {a:List SV} {n j:Nat} (h:j∈bR (a.drop n)):j∈bR a:=by
 have:=List.take_append_drop n a
 rw[←this,fT]
 exact List.mem_append_right _ h
def D_ (ds:List Nat) (L:Nat→Bool) (l:List PS) (j:Nat):Prop:=j / 64 ∉ ds∨∃p∈l,L p.i=true∧j∈p.log.m
theorem ma {ds:List Nat} {L:Nat→Bool} {s:Nat} :∀(l l0:List PS) (v:SV),(∀p∈l,iX P Γ ops p)→(∀p∈l,p∈l0)→(∀j∈bU v,D_ ds L l0 j)→∀j∈bU (kO L l s v),D_ ds L l0 j
 | [],_,v,_,_,hv=>hv
 | p::l,l0,v,hs,hX,hv=>by
  unfold kO
  simp only[List.foldl_cons]
  refine ma l l0 _ (fun q hq=>hs q (List.mem_cons_of_mem _ hq)) (fun q hq=>hX q (List.mem_cons_of_mem _ hq)) ?_
  intro j hj
  split at hj
  ·rename_i hL
   unfold PS.f at hj
   split at hj
   ·exact .inr ⟨p,hX p (List.mem_cons_self ..),hL,HS (hs p (List.mem_cons_self ..)) hj⟩
   ·exact hv j hj
  ·exact hv j hj
def Ea (ds:List Nat) (L:Nat→Bool) (l:List PS) (id:Nat) (o:Option aj):Prop:=∀ob,o=some ob→D_ ds L l id∧∀j∈cC ob,D_ ds L l j
theorem mc {ds:List Nat} {L:Nat→Bool} {id:Nat} :∀(l l0:List PS) (v:Option aj),(∀p∈l,iX P Γ ops p)→(∀p∈l,p∈l0)→Ea ds L l0 id v→Ea ds L l0 id (kP L l id v)
 | [],_,v,_,_,hv=>hv
 | p::l,l0,v,hs,hX,hv=>by
  unfold kP
  simp only[List.foldl_cons]
  refine mc l l0 _ (fun q hq=>hs q (List.mem_cons_of_mem _ hq)) (fun q hq=>hX q (List.mem_cons_of_mem _ hq)) ?_
  split
  ·rename_i hL
   have lH:=hs p (List.mem_cons_self ..)
   have kq:=hX p (List.mem_cons_self ..)
   unfold PS.h
   split
   ·rename_i x hx
    rintro ob rfl
    have:=HR lH (Gf hx)
    exact⟨.inr ⟨p,kq,hL,this.1⟩,fun j hj=> .inr ⟨p,kq,hL,this.2 j hj⟩⟩
   ·unfold Er
    split
    ·rename_i i off bL jF
     split
     ·split
      ·rename_i t cells
       rintro ob aK
       simp only[Option.some.injEq] at aK
       subst aK
       have h0:=hv _ rfl
       refine⟨h0.1,fun j hj=> ?_⟩
       simp only[cC,cF,fT,List.mem_append] at hj
       rcases hj with hj | hj | hj
       ·exact h0.2 j (B9 hj)
       ·exact .inr ⟨p,kq,hL,HQ lH jF j hj⟩
       ·exact h0.2 j (B8 hj)
      ·exact hv
     ·exact hv
    ·exact hv
  ·exact hv
theorem Ei {a b:cr} {s:Nat} (ha:a.d=some s) (hb:s∈b.rs):dC a b=true:=by
 have:fW (jV a.d) (b.rs++jV b.d)=true:=fX (i:=s) (by simp [ha,jV]) (List.mem_append_left _ hb)
 simp [dC,this]
theorem Eg {a b:cr} {s:Nat} (ha:a.d=some s) (hb:b.d=some s):dC a b=true:=by
 have:fW (jV a.d) (b.rs++jV b.d)=true:=fX (i:=s) (by simp [ha,jV]) (List.mem_append_right _ (by simp [hb,jV]))
 simp [dC,this]
theorem Ek {a b:cr} {s:Nat} (ha:s∈a.rs) (hb:b.d=some s):dC a b=true:=by
 have:fW a.rs (jV b.d)=true:=fX (i:=s) ha (by simp [hb,jV])
 simp [dC,this]
theorem Em {a b:cr} {s:Nat} (ha:s∈a.wo) (hb:s∈b.wo):dC a b=true:=by
 have:fW a.wo (b.ro++b.wo)=true:=fX (i:=s) ha (List.mem_append_right _ hb)
 simp [dC,this]
theorem El {a b:cr} {s:Nat} (ha:s∈a.wo) (hb:s∈b.ro):dC a b=true:=by
 have:fW a.wo (b.ro++b.wo)=true:=fX (i:=s) ha (List.mem_append_left _ hb)
 simp [dC,this]
theorem Ej {a b:cr} {s:Nat} (ha:s∈a.ro) (hb:s∈b.wo):dC a b=true:=by
 have:fW a.ro b.wo=true:=fX (i:=s) ha hb
 simp [dC,this]
theorem Eh {a b:cr} {j:Nat} (ha:a.d=some (j / 64)) (hb:j∈b.m):dC a b=true:=by
 have:(b.m.any fun i=>Nat.beq (i / 64) (j / 64))=true:=by
  simp only[List.any_eq_true]
  exact⟨j,hb,Nat.beq_refl _⟩
 unfold dC
 rw[ha]
 simp only[this,Bool.or_true]
theorem DD {a b:cr} {j:Nat} (ha:b.d=some (j / 64)) (hb:j∈a.m):kh b a=true:=by
 unfold kh
 rw[ha]
 simp only[List.any_eq_true]
 exact⟨j,hb,Nat.beq_refl _⟩
theorem m9 {p q:Nat→Bool} :∀(l:List Nat),(∀k∈l,q k=true→p k=true)→(∃k∈l,p k=true∧q k=false)→l.countP q<l.countP p
 | [],_,h=>by simp at h
 | x::l,h,⟨k,hk,hp,hq⟩=>by
  have hle:l.countP q≤l.countP p:=List.countP_mono_left (fun y hy MB=>h y (List.mem_cons_of_mem _ hy) MB)
  simp only[List.countP_cons]
  rcases List.mem_cons.1 hk with rfl | hk
  ·rw[hp,hq]
   simp
   omega
  ·have:=m9 l (fun y hy=>h y (List.mem_cons_of_mem _ hy)) ⟨k,hk,hp,hq⟩
   have hx:=h x (List.mem_cons_self ..)
   cases MA:q x
   ·simp;omega
   ·rw[hx MA];simp;omega
def HY (ops:Array Oper) (listed:Array Bool):Nat:=(List.range ops.size).countP fun k=> !(listed.getD k true)
def Jz (w0:World) (S:Own) (st:St) (l:List PS) (L:Nat→Bool) (a:Act) (w:World):Prop:=
 ∃ld:St,Rel w0 S ld a w∧ld.n=st.n∧(∀s,ld.get s=kO L l s (st.get s))∧∀id,ld.obj id=kP L l id (st.obj id)
theorem Ae {α:Type} {step:PS→α→α} {T:PS→Prop} (dR:∀p v,¬T p→step p v=v) {L:Nat→Bool} {l:List PS} {p:PS} (v:α)
  (h1:∀q∈l,T q→q.i<p.i→L q.i=true) (h2:∀q∈l,T q→p.i<q.i→L q.i=false) (h3:L p.i=false):
  l.foldl (fun v q=>if L q.i then step q v else v) v=l.foldl (fun v q=>if decide (q.i<p.i) then step q v else v) v:=by
 refine fold_congr step T dR (L:=L) (L':=fun k=>decide (k<p.i)) l v (fun q hq ht=> ?_)
 rcases Nat.lt_trichotomy q.i p.i with cm | heq | FW
 ·rw[h1 q hq ht cm];simp [cm]
 ·rw[heq,h3];simp
 ·rw[h2 q hq ht FW];simp;omega
theorem mu {o:Oper} {d:Nat} :∀ {l:List Oper},o∈l→o.dst=some d→d∈ll l
 | [],hm,_=>by simp at hm
 | x::r,hm,Cg=>by
  simp only[ll]
  rcases List.mem_cons.1 hm with rfl | hm
  ·rw[Cg];exact List.mem_cons_self ..
  ·split
   ·exact List.mem_cons_of_mem _ (mu hm Cg)
   ·exact mu hm Cg
theorem Fu (eV:bE P Γ) {st:St} {l:List PS} {fin:St} (dD:Path P Γ ops gs ops.toList 0 st l fin) (Cr:lP (Cm ops.toList []) (l.map (·.log))=true)
  (bM:eG (ll ops.toList) st=true) {L:Nat→Bool} (Bk:∀k,L k=true→lN ops L k) {p:PS} (hp:p∈l) (hg:lN ops L p.i) (hL:L p.i=false)
  {Q:Exit→Act→World→Prop} {a:Act} {w:World} (DI:Jz w0 S st l L a w) {K:Act→World→Prop} (hK:∀a' w',Jz w0 S st l (fun k=>L k || k==p.i) a' w'→K a' w'):wpOp P ops Q p.i K a w:=by
 obtain⟨ld,hR,hn,mR,hD⟩:=DI
 have ku:=CP dD
 have iC:=kY dD
 have lH:=ku p hp
 have Iq:=m6 Bk ops.toList [] [] rfl rfl (by simp)
 have hd:∀q∈l,q.log.d=q.o.dst:=fun q hq=>((cq dD).2.2 q hq).2
 have hA:∀q∈l,q.i<p.i→dC q.log p.log=true→L q.i=true:=fun q hq cm hc=>Iq p.i q.i hg ((kA dD Cr hq hp cm).1 hc)
 have hB:∀q∈l,p.i<q.i→dC p.log q.log=true→L q.i=false:=by
  intro q hq cm hc
  cases HZ:L q.i
  ·rfl
  ·have:=Iq q.i p.i (Bk _ HZ) ((kA dD Cr hp hq cm).1 hc)
   rw[hL] at this
   cases this
 obtain⟨Ml,Mm,Ly⟩:=iC.1 p hp
 have dr:∀s∈p.log.rs,ld.get s=p.st.get s:=by
  intro s hs
  rw[mR s,Ml s]
  refine Ae (step:=fun q v=>PS.f q s v) (T:=fun q=>q.tF s) (fun q v h=>PS.Ig h v) _ (fun q hq ht cm=>hA q hq cm (Ei ((hd q hq).trans ht) hs)) (fun q hq ht cm=>hB q hq cm (Ek hs ((hd q hq).trans ht))) hL
 have aK:∀id∈p.log.ro,ld.obj id=p.st.obj id:=by
  intro id hs
  rw[hD id,Mm id]
  refine Ae (step:=fun q v=>PS.h q id v) (T:=fun q=>q.tH id) (fun q v h=>PS.Im h v) _ (fun q hq ht cm=>hA q hq cm (El (A6 (ku q hq) ht) hs)) (fun q hq ht cm=>hB q hq cm (Ej hs (A6 (ku q hq) ht))) hL
 have hnd:(l.map (·.i)).Nodup:=by
  rw[(cq dD).1]
  exact List.nodup_range'
 have I8:l.Pairwise (fun a b=>a.i<b.i):=by
  have:=List.pairwise_lt_range' (s:=0) (n:=ops.toList.length)
  rw[←(cq dD).1] at this
  exact List.pairwise_map.1 this
 have HN:∀s,kO (fun k=>L k || k==p.i) l s (st.get s)=p.f s (ld.get s):=by
  intro s
  rw[mR s]
  exact gX (fun q v=>PS.f q s v) (fun q=>q.tF s) (fun q v h=>PS.Ig h v) (L:=L) (q:=p) l (st.get s) hp hnd hL I8 (fun q hq cm h1 h2=>hB q hq cm (Eg ((hd p hp).trans h1) ((hd q hq).trans h2)))
 have HO:∀id,kP (fun k=>L k || k==p.i) l id (st.obj id)=p.h id (ld.obj id):=by
  intro id
  rw[hD id]
  exact gX (fun q v=>PS.h q id v) (fun q=>q.tH id) (fun q v h=>PS.Im h v) (L:=L) (q:=p) l (st.obj id) hp hnd hL I8 (fun q hq cm h1 h2=>hB q hq cm (Em (A6 lH h1) (A6 (ku q hq) h2)))
 have KS:ops[p.i]? =some p.o:=by
  rw[←Array.getElem?_toList]
  exact (il dD hp).2.1
 have Mg:∀d,p.o.dst=some d→d∈ll ops.toList:=by
  intro d Cg
  have hm:p.o∈ops.toList:=List.mem_of_getElem? (il dD hp).2.1
  exact mu hm Cg
 have Hq:f8 ops p.o ⊆ p.log.rs:=by
  rcases lH with ⟨_,_,_,hl⟩ | ⟨_,e,s,r,hr,_,hl,_⟩
  ·rw[hl];exact fun _ h=>h
  ·rw[hl];simp only[bG,hr];exact fun _ h=>List.mem_append_left _ h
 have Al:fB ops ld p.o=fB ops p.st p.o:=by
  unfold fB
  split
  ·rfl
  ·rename_i j want Mn
   split
   ·rfl
   ·rename_i s hs
    rw[dr s (Hq (by unfold f8;simp [Mn,hs,jV]))]
 unfold wpOp
 rw[KS]
 simp only
 have hw:fB ops ld p.o=some true∨fB ops ld p.o=some false:=by
  rw[Al]
  rcases lH with ⟨h,_⟩ | ⟨h,_⟩
  ·exact .inr h
  ·exact .inl h
 rcases lH with ⟨Jg,he,aJ,hl⟩ | ⟨Jg,e,s,r,hr,aJ,hl,he⟩
 ·rw[←Al] at Jg
  rw[if_neg (by rw[kJ hR Jg];simp)]
  refine hK _ _ ⟨ld.skip p.o.dst, ?_,hn,fun s=> ?_,fun id=> ?_⟩
  ·have HB:∀d,p.o.dst=some d→ba ld.n d:=by
    intro d Cg
    simp only[St.skip,St.apply,gn] at aJ
    have:=aJ.2
    rw[Cg] at this
    have:=lD this
    rw[hn,←Ly]
    exact this
   obtain⟨β,φ,hc⟩:=hR.core
   exact iH (e:= {sv:= .undef}) hR HB hR.kept ⟨β,φ,hc,by simp [ak]⟩
  ·rw[HN s]
   unfold St.skip
   rw[←he]
   exact (lC ld p s)
  ·rw[HO id]
   unfold St.skip
   rw[←he]
   exact (jr ld p id)
 ·rw[←Al] at Jg
  rw[if_pos (kJ hR Jg)]
  refine .inl ?_
  have KZ:∀k∈s,ld.get k=p.st.get k:=fun k hk=>dr k (by rw[hl];simp only[bG,hr];exact List.mem_append_right _ hk)
  have AZ:∀k∈r,ld.obj k=p.st.obj k:=fun k hk=>aK k (by rw[hl];simp only[bG,hr];exact List.mem_append_right _ hk)
  have bp:=M.kC (evalOp P Γ p.o) hr KZ AZ
  simp only[St.apply,gn] at aJ
  have BG:=BU eV hR (M.eA _ bp) aJ.1.2 (fun d Cg=>by
    have:=aJ.2
    rw[Cg] at this
    have:=lD this
    rw[hn,←Ly]
    exact this) (fun _ d Cg=> ?_) Q
  ·refine Oper.wp_mono ?_ BG
   rintro a' w' ⟨v,rfl,eS⟩
   rcases he with he | ⟨d,g,Cg,fj,he⟩
   ·refine hK _ _ ⟨ld.apply p.o.dst e,eS,hn,fun s=> ?_,fun id=> ?_⟩
    ·rw[HN s,←he];exact lC ld p s
    ·rw[HO id,←he];exact jr ld p id
   ·have hb:(ld.apply p.o.dst e).get d= .bool g:=by
     rw[Cg,apply_get,fj]
     simp [az]
    have HG:=eS.Au hb
    refine hK _ _ ⟨(ld.apply p.o.dst e).reset.fP d g,eS.reset.fP HG,hn,fun s=> ?_,fun id=> ?_⟩
    ·rw[HN s];exact Fe Cg p rfl he s
    ·rw[HO id];exact Ff p rfl he id
  ·have key:∀j,D_ (ll ops.toList) L l j→j / 64≠d:=by
    rintro j (hj | ⟨q,hq,HZ,hj⟩) rfl
    ·exact hj (Mg _ Cg)
    ·rcases Nat.lt_trichotomy q.i p.i with cm | heq | FW
     ·have:=(kA dD Cr hq hp cm).2
      rw[DD ((hd p hp).trans Cg) hj] at this
      cases this
     ·rw[heq,hL] at HZ
      cases HZ
     ·have:=hB q hq FW (Eh ((hd p hp).trans Cg) hj)
      rw[this] at HZ
      cases HZ
   have Ki:=fun d' Ix=>BB bM d' Ix
   constructor
   ·intro i j hj
    rw[mR i] at hj
    refine key j (ma l l _ ku (fun _ h=>h) (fun k hk=> .inl (fun hm=> ?_)) j hj)
    exact (Ki _ hm).slot i k hk rfl
   ·intro j ob i_
    rw[hD j] at i_
    have h0:Ea (ll ops.toList) L l j (st.obj j):=by
     intro Fs jI
     refine⟨.inl (fun hm=>((Ki _ hm).obj j Fs jI).1 rfl),fun k hk=> .inl (fun hm=>((Ki _ hm).obj j Fs jI).2 k hk rfl)⟩
    have:=mc l l _ ku (fun _ h=>h) h0 ob i_
    exact⟨key j this.1,fun k hk=>key k (this.2 k hk)⟩
theorem Ce (eV:bE P Γ) {st:St} {l:List PS} {fin:St} (dD:Path P Γ ops gs ops.toList 0 st l fin) (Cr:lP (Cm ops.toList []) (l.map (·.log))=true)
  (bM:eG (ll ops.toList) st=true) (Mh:gr ops.toList 0=true) {Q:Exit→Act→World→Prop} (hQ:∀a w,Rel w0 S fin a w→Q .normal a w):
  ∀(fuel:Nat) (listed:Array Bool) (a:Act) (w:World),listed.size=ops.size→(∀k,listed.getD k false=true→lN ops (fun k=>listed.getD k false) k)→HY ops listed≤fuel→
   Jz w0 S st l (fun k=>listed.getD k false) a w→wpAny P .any ops Q fuel listed a w:=by
 have iC:=kY dD
 have hlen:l.length=ops.size:=by
  have:(l.map (·.o)).length=ops.toList.length:=by rw[(cq dD).2.1]
  simpa using this
 have done:∀(listed:Array Bool) (a:Act) (w:World),listed.size=ops.size→Region.ready .any ops listed=[]→Jz w0 S st l (fun k=>listed.getD k false) a w→Q .normal a w:=by
  intro listed a w dx hr ⟨ld,hR,hn,mR,hD⟩
  have Ip:∀k,k<ops.size→listed.getD k false=true:=by
   intro k
   induction k using Nat.strongRecOn with
   | ind k ih=>
    intro hk
    cases L5:listed.getD k false
    ·have:k∈Region.ready .any ops listed:=by
      rw[mem_ready]
      refine⟨?_,ops[k],Array.getElem?_eq_getElem hk,fun e he hb=> ?_⟩
      ·rw[←L5]
       simp only[Array.getD_eq_getD_getElem?,Array.getElem?_eq_getElem (show k<listed.size by omega),Option.getD_some]
      ·have:=jw ops.toList 0 Mh k ops[k] (by simp [Array.getElem?_toList,hk]) e he hb
       exact ih e.on (by omega) (by omega)
     rw[hr] at this
     cases this
    ·rfl
  refine hQ a w ?_
  have Lr:∀q∈l,listed.getD q.i false=true:=by
   intro q hq
   have:=(il dD hq).2.2
   exact Ip q.i (by simpa using this)
  have e1:ld.get=fin.get:=by
   funext s
   rw[mR s,iC.2.1 s]
   exact fold_congr (fun q v=>PS.f q s v) (fun _=>True) (fun _ _ h=>absurd trivial h) (L:=fun k=>listed.getD k false) (L':=fun _=>true) l _ (fun q hq _=>Lr q hq)
  have e2:ld.obj=fin.obj:=by
   funext s
   rw[hD s,iC.2.2.1 s]
   exact fold_congr (fun q v=>PS.h q s v) (fun _=>True) (fun _ _ h=>absurd trivial h) (L:=fun k=>listed.getD k false) (L':=fun _=>true) l _ (fun q hq _=>Lr q hq)
  obtain⟨β,φ,hc⟩:=hR.core
  refine⟨?_,fun x hx=>by rw[iC.2.2.2,←hn];exact hR.fx x hx,hR.defers,hR.kept,β,φ, ?_⟩
  ·rw[hR.size,hn,iC.2.2.2]
  ·rw[←e1,←e2];exact hc
 intro fuel
 induction fuel with
 | zero=>
  intro listed a w dx Bk Je DI
  have hr:Region.ready .any ops listed=[]:=by
   cases MD:Region.ready .any ops listed with
   | nil=>rfl
   | cons x xs=>
    have hx:x∈Region.ready .any ops listed:=by rw[MD];exact List.mem_cons_self ..
    obtain⟨h1,o,ho,_⟩:=mem_ready.1 hx
    have cm:=(Array.getElem?_eq_some_iff.1 ho).1
    have:0<HY ops listed:=by
     unfold HY
     rw[List.countP_pos_iff]
     exact⟨x,List.mem_range.2 cm,by simp only[h1];rfl⟩
    omega
  exact⟨hr,done listed a w dx hr DI⟩
 | succ fuel ih=>
  intro listed a w dx Bk Je DI
  refine⟨fun hr=>done listed a w dx hr DI,fun i hi=> ?_⟩
  obtain⟨h1,o,ho,Kg⟩:=mem_ready.1 hi
  have cm:=(Array.getElem?_eq_some_iff.1 ho).1
  have EL:i<l.length:=by omega
  have JS:l[i].i=i:=by
   have:(l.map (·.i))[i]? =(List.range' 0 ops.toList.length)[i]? :=by rw[(cq dD).1]
   rw[List.getElem?_map,List.getElem?_eq_getElem EL,List.getElem?_range' (by simpa using cm)] at this
   simpa using this
  have Jb:∀k,(listed.setIfInBounds i true).getD k false=(listed.getD k false || k==i):=by
   intro k
   simp only[Array.getD_eq_getD_getElem?,Array.getElem?_setIfInBounds]
   by_cases hk:i=k
   ·subst hk
    simp [show i<listed.size by omega]
   ·have:(k==i)=false:=by simpa using fun h=>hk h.symm
    simp [hk,this]
  have L4:listed.getD i false=false:=by
   rw[←h1]
   simp only[Array.getD_eq_getD_getElem?,Array.getElem?_eq_getElem (show i<listed.size by omega),Option.getD_some]
  have LA:lN ops (fun k=>listed.getD k false) i:=by
   intro o' d8 e he hb
   rw[ho] at d8
   injection d8 with d8
   subst d8
   exact Kg e he hb
  have:=Fu (w0:=w0) (S:=S) (Q:=Q) eV dD Cr bM Bk (p:=l[i]) (List.getElem_mem EL) (by rw[JS];exact LA) (by rw[JS];exact L4) DI
   (K:=wpAny P .any ops Q fuel (listed.setIfInBounds i true)) (fun a' w' hc=> ?_)
  ·rw[JS] at this
   exact this
  ·refine ih _ a' w' (by simpa using dx) (fun k hk=> ?_) ?_ ?_
   ·intro o' d8 e he hb
    show (listed.setIfInBounds i true).getD e.on false=true
    rw[Jb] at hk ⊢
    simp only[Bool.or_eq_true,beq_iff_eq] at hk ⊢
    rcases hk with hk | rfl
    ·exact .inl (Bk k hk o' d8 e he hb)
    ·exact .inl (LA o' d8 e he hb)
   ·have:HY ops (listed.setIfInBounds i true)<HY ops listed:=by
     unfold HY
     refine m9 _ (fun k hk hq=> ?_) ⟨i,List.mem_range.2 cm,by simp only[h1];rfl, ?_⟩
     ·simp only[Bool.not_eq_true',Array.getD_eq_getD_getElem?,Array.getElem?_setIfInBounds] at hq ⊢
      split at hq
      ·split at hq<;>simp at hq
      ·exact hq
     ·simp [Array.getElem?_setIfInBounds,show i<listed.size by omega]
    omega
   ·have e:(fun k=>(listed.setIfInBounds i true).getD k false)=(fun k=>listed.getD k false || k==i):=funext Jb
    rw[e]
    rw[JS] at hc
    exact hc
theorem Rel.drew {st:St} {a:Act} {w:World} (hR:Rel w0 S st a w):Rel w0 S st a {w with drawn:=w.drawn+1} :=by
 obtain⟨β,φ,hc⟩:=hR.core
 refine⟨hR.size,hR.fx,hR.defers,⟨hR.kept.os,hR.kept.tape,hR.kept.output,hR.kept.size,hR.kept.block⟩,β,φ, ?_⟩
 exact hc.step (h':=st.obj) (β':=β) (φ':=φ) (w':= {w with drawn:=w.drawn+1}) (fun _=>False) (Nat.le_refl _) (fun _ _ _=>rfl) (fun b hb=> .inl hb) (fun _ _ _ h=>h) (fun _ _=>⟨rfl,rfl⟩)
  (fun id o ho=> .inl ⟨fun h=>h,ho,rfl,fun _ _ h=>h,fun _ _=>rfl⟩) hc.sep
theorem jX (eV:bE P Γ) {st:St} {a:Act} {w:World} {id:Nat} {draw:Bool} {Q:Exit→Act→World→Prop} (hR:Rel w0 S st a w) (h:(bW P Γ ops draw st).ok=true)
  (hQ:∀a' w',Rel w0 S (bW P Γ ops draw st) a' w'→Q .normal a' w'):(Code.region id ops draw).wp P Q a w:=by
 cases draw with
 | false=>exact CR eV hR h hQ
 | true=>
  unfold bW at h hQ
  simp only[cond_true] at h hQ
  cases hf:eG (ll ops.toList) st && gr ops.toList 0 && P.follows .mixedOrders
  ·simp [hf,bc] at h
  ·simp only[hf,cond_true] at h hQ
   simp only[Bool.and_eq_true] at hf
   obtain⟨l,fin,dD,_,Kd,KY⟩:=e_ _ _ _ _ h
   refine wp_region_any hf.2 (Ce eV dD (by simpa using Kd) hf.1.1 hf.1.2 (fun a' w' eS=>hQ a' w' (KY w0 S a' w' eS)) _ _ a _ (by simp) (fun k hk=> ?_) ?_ ?_)
   ·rw[Array.getD_eq_getD_getElem?,Array.getElem?_replicate] at hk
    split at hk<;>simp at hk
   ·unfold HY
    have:=List.countP_le_length (p:=fun k=> !((Array.replicate ops.size false).getD k true)) (l:=List.range ops.size)
    simpa using this
   ·refine⟨st,hR.drew,rfl,fun s=> ?_,fun o=> ?_⟩
    ·refine (fi (fun q v=>PS.f q s v) (L:=fun k=>(Array.replicate ops.size false).getD k false) l (st.get s) (fun q _=> ?_)).symm
     rw[Array.getD_eq_getD_getElem?,Array.getElem?_replicate]
     split<;>rfl
    ·refine (fi (fun q v=>PS.h q o v) (L:=fun k=>(Array.replicate ops.size false).getD k false) l (st.obj o) (fun q _=> ?_)).symm
     rw[Array.getD_eq_getD_getElem?,Array.getElem?_replicate]
     split<;>rfl
end
end Go.Proofs.YtoaflbnkiobhdaaGreat.Vm
namespace Go.Proofs.YtoaflbnkiobhdaaGreat.Vm
section
variable {P:Program} {Γ:Ctx} {w0:World} {S:Own}
theorem eK {st:St} {c:Operand} {b:Bool} :(st.dh c b).ok=st.ok:=by
 unfold St.dh
 split<;>rfl
theorem Cb {st:St} {c:Operand} {b:Bool} (h:st.ok=true):Tr st (st.dh c b):=by
 unfold St.dh
 split
 ·exact j8 h
 ·exact Tr.refl h
theorem iG {st:St} {a:Act} {w:World} {c:Operand} {b:Bool} (hR:Rel w0 S st a w) (hc:a.eval c= .bool b):Rel w0 S (st.dh c b) a w:=by
 unfold St.dh
 split
 ·exact hR.fP hc
 ·exact hR
theorem Gv {st:St} {a:Act} {w:World} (hR:Rel w0 S st a w) (c:Operand):∃β,ak w (Av st.obj β) β (ev st c) (a.eval c):=by
 obtain⟨β,φ,hc⟩:=hR.core
 refine⟨β, ?_⟩
 cases c with
 | tmp t=>exact hc.bZ t
 | const v=>exact jj v
 | global g=>simp [ev,ak]
 | func g=>simp [ev,ak]
theorem Gu {st:St} {a:Act} {w:World} (hR:Rel w0 S st a w) {c:Operand} {t:Bool} (h:ev st c= .kb t):a.eval c= .bool t:=by
 obtain⟨β,hv⟩:=Gv hR c
 rw[h] at hv
 simpa only[ak] using hv
theorem Dd {st:St} {a:Act} {w:World} (hR:Rel w0 S st a w) {c:Operand} {t:Bool} (h:ev st c= .bool t):a.eval c= .bool t:=by
 obtain⟨β,hv⟩:=Gv hR c
 rw[h] at hv
 simpa only[ak] using hv
theorem d7:∀(c:Code) (st:St),(exec P Γ c st).ok=true→Tr st (exec P Γ c st)
 | .skip,st,h=>by
  simp only[exec] at h ⊢
  exact Tr.refl h
 | .region id ops draw,st,h=>by
  simp only[exec] at h ⊢
  exact Az h
 | .seq a b,st,h=>by
  simp only[exec] at h ⊢
  have h2:=d7 b _ h
  exact (d7 a _ h2.ok).trans h2
 | .cond c a b,st,h=>by
  simp only[exec] at h ⊢
  split
  ·rename_i t Ag
   simp only[Ag] at h
   cases t with
   | true=>simp only[cond_true] at h ⊢;exact d7 a _ h
   | false=>simp only[cond_false] at h ⊢;exact d7 b _ h
  ·rename_i g Ag
   simp only[Ag] at h
   have lH:=cX h
   have aJ:st.ok=true:=by
    cases g with
    | true=>
     have:=(d7 a _ (lH.1 rfl)).ok
     rw[eK] at this
     exact this
    | false=>
     have:=(d7 b _ (lH.2 rfl)).ok
     rw[eK] at this
     exact this
   exact Cc aJ h
  ·rename_i h1 h2
   exfalso
   revert h
   split
   ·rename_i t Ag;exact absurd Ag (h1 t)
   ·rename_i g Ag;exact absurd Ag (h2 g)
   ·simp [bc]
 | .block ..,st,h=>by simp [exec,bc] at h
 | .loop ..,st,h=>by simp [exec,bc] at h
 | .exit ..,st,h=>by simp [exec,bc] at h
 | .goto ..,st,h=>by simp [exec,bc] at h
 | .label ..,st,h=>by simp [exec,bc] at h
 | .ret,st,h=>by simp [exec,bc] at h
theorem gu (eV:bE P Γ):∀(c:Code) (st:St) (a:Act) (w:World) (Q:Exit→Act→World→Prop),Rel w0 S st a w→(exec P Γ c st).ok=true→
  (∀a' w',Rel w0 S (exec P Γ c st) a' w'→Q .normal a' w')→c.wp P Q a w
 | .skip,st,a,w,Q,hR,h,hQ=>by
  simp only[exec] at h hQ
  exact wp_skip (hQ a w hR)
 | .region id ops draw,st,a,w,Q,hR,h,hQ=>by
  simp only[exec] at h hQ
  exact jX eV hR h hQ
 | .seq x y,st,a,w,Q,hR,h,hQ=>by
  simp only[exec] at h hQ
  have h2:=d7 y _ h
  refine wp_seq (gu eV x st a w _ hR h2.ok (fun a' w' eS=> ?_))
  exact gu eV y _ a' w' Q eS h hQ
 | .cond c x y,st,a,w,Q,hR,h,hQ=>by
  simp only[exec] at h hQ
  split at h
  ·rename_i t Ag
   simp only[Ag] at hQ
   refine wp_cond (Gu hR Ag) ?_
   cases t with
   | true=>simp only[cond_true] at h hQ;exact gu eV x st a w Q hR h hQ
   | false=>simp only[cond_false] at h hQ;exact gu eV y st a w Q hR h hQ
  ·rename_i g Ag
   simp only[Ag] at hQ
   have lH:=cX h
   have hb:=Dd hR Ag
   refine wp_cond hb ?_
   cases g with
   | true=>
    have hy:=lH.1 rfl
    have ht:=d7 x _ hy
    refine gu eV x _ a w Q (iG hR.reset hb) hy (fun a' w' eS=>hQ a' w' ?_)
    have aJ:st.reset.ok=true:=by have:=ht.ok;rwa [eK] at this
    exact gg (fun _=>⟨(Cb aJ).trans ht,eS⟩) (by simp) h
   | false=>
    have hy:=lH.2 rfl
    have ht:=d7 y _ hy
    refine gu eV y _ a w Q (iG hR.reset hb) hy (fun a' w' eS=>hQ a' w' ?_)
    have aJ:st.reset.ok=true:=by have:=ht.ok;rwa [eK] at this
    exact gg (by simp) (fun _=>⟨(Cb aJ).trans ht,eS⟩) h
  ·simp [bc] at h
 | .block ..,st,_,_,_,_,h,_=>by simp [exec,bc] at h
 | .loop ..,st,_,_,_,_,h,_=>by simp [exec,bc] at h
 | .rangeFunc ..,st,_,_,_,_,h,_=>by simp [exec,bc] at h
 | .exit ..,st,_,_,_,_,h,_=>by simp [exec,bc] at h
 | .scope ..,st,_,_,_,_,h,_=>by simp [exec,bc] at h
 | .goto ..,st,_,_,_,_,h,_=>by simp [exec,bc] at h
 | .label ..,st,_,_,_,_,h,_=>by simp [exec,bc] at h
 | .ret,st,_,_,_,_,h,_=>by simp [exec,bc] at h
 | .refuse ..,st,_,_,_,_,h,_=>by simp [exec,bc] at h
abbrev Rn:=List (Nat×aj×Option Nat)
def A5:Rn→Nat→Option (aj×Option Nat)
 | [],_=>none
 | (i,x)::l,j=>if j=i then some x else A5 l j
def Env.iP (β:Env) (R:Rn):Env:=
 ⟨β.cT,fun j=>match A5 R j with | some (_,some id)=>β.val id | some (_,none)=> .slice none 0 0 | none=>β.val j,β.gH,
  fun j=>match A5 R j with | some (_,some id)=>β.nb id | some (_,none)=>[] | none=>β.nb j⟩
def Bp (o:aj):Prop:=(∃t e,o= .row t e [] false true)∨(∃t e ts,o= .deep t e ts [] none)
def fF (o:aj):Prop:=(∃t e r fz u,o= .row t e r fz u)∨(∃t e ts r,o= .deep t e ts r none)
def iU (φ:Nat→List Nat) (R:Rn) (j:Nat):List Nat:=
 match A5 R j with | some (_,some id)=>φ id | some (_,none)=>[] | none=>φ j
def Bq (h:Nat→Option aj) (x:Nat×aj×Option Nat):Prop:=
 (∃id,fF x.2.1∧x.2.2=some id∧h id=some x.2.1)∨(Bp x.2.1∧x.2.2=none)
theorem lR {w:World} {av av':Nat→Prop} {β:Env} {R:Rn} :∀(cs:List SV) (l:List Value),kc cs=true→af w av β cs l→af w av' (β.iP R) cs l
 | [],l,_,h=>by simpa only[af] using h
 | s::cs,l,hp,h=>by
  simp only[af] at h ⊢
  obtain⟨v,l',rfl,h1,h2⟩:=h
  cases s with
  | ptr id off=>
   refine⟨v,l',rfl, ?_,lR cs l' hp h2⟩
   simp only[ak] at h1 ⊢
   exact h1
  | _=>simp [kc] at hp
theorem jt {hp:List (Nat×aj)} {f:Nat→SV} {β:Env} {φ:Nat→List Nat} {tm:Array Value} {w:World} (hc:Core w0 S f (dE hp) β φ tm w) {ck:CK} {nid:Nat} {s:SV} {v:Value} {av':Nat→Prop}
  (hv:ak w (Av (dE hp) β) β s v) (cO:∀b,av' b→Av (dE hp) β b) {R:Rn} (hR:∀x∈(au P hp ck nid s).2,A5 R x.1=some x.2):
  ak w av' (β.iP R) (au P hp ck nid s).1 v∧∀x∈(au P hp ck nid s).2,Bq (dE hp) x:=by
 have mono:∀s',bU s'=[]→ak w (Av (dE hp) β) β s' v→ak w av' (β.iP R) s' v:=fun s' BK h'=>
  ak.mono (Nat.le_refl _) (fun _ _ _=>rfl) (fun b hb=> .inl (cO b hb)) s' v h' (by rw[BK];simp)
 cases s with
 | own id=>
  simp only[au] at hR ⊢
  simp only[ak] at hv
  cases hl:dE hp id with
  | none=>simp [ak]
  | some o=>
   cases o with
   | box=>simp [ak]
   | row t e r fz u=>
    simp only[hl] at hR
    simp only
    cases ck with
    | d_=>simp [ak]
    | mK=>
     have:=hR _ (List.mem_singleton.2 rfl)
     simp only at this
     refine⟨?_, ?_⟩
     ·simp only[ak,Env.iP,this]
      exact hv
     ·intro x hx
      rw[List.mem_singleton] at hx
      subst hx
      exact .inl ⟨id,.inl ⟨t,e,r,fz,u,rfl⟩,rfl,hl⟩
    | own=>
     have:=hR _ (List.mem_singleton.2 rfl)
     simp only at this
     refine⟨?_, ?_⟩
     ·simp only[ak,Env.iP,this]
      exact hv
     ·intro x hx
      rw[List.mem_singleton] at hx
      subst hx
      exact .inl ⟨id,.inl ⟨t,e,r,fz,u,rfl⟩,rfl,hl⟩
    | deep=>
     have:=hR _ (List.mem_singleton.2 rfl)
     simp only at this
     refine⟨?_, ?_⟩
     ·simp only[ak,Env.iP,this]
      exact hv
     ·intro x hx
      rw[List.mem_singleton] at hx
      subst hx
      exact .inl ⟨id,.inl ⟨t,e,r,fz,u,rfl⟩,rfl,hl⟩
   | deep t e ts r j9=>
    cases j9 with
    | some q=>simp [ak]
    | none=>
    simp only[hl] at hR
    simp only
    cases ck with
    | d_=>simp [ak]
    | mK=>
     have:=hR _ (List.mem_singleton.2 rfl)
     simp only at this
     refine⟨?_, ?_⟩
     ·simp only[ak,Env.iP,this]
      exact hv
     ·intro x hx
      rw[List.mem_singleton] at hx
      subst hx
      exact .inl ⟨id,.inr ⟨t,e,ts,r,rfl⟩,rfl,hl⟩
    | own=>
     have:=hR _ (List.mem_singleton.2 rfl)
     simp only at this
     refine⟨?_, ?_⟩
     ·simp only[ak,Env.iP,this]
      exact hv
     ·intro x hx
      rw[List.mem_singleton] at hx
      subst hx
      exact .inl ⟨id,.inr ⟨t,e,ts,r,rfl⟩,rfl,hl⟩
    | deep=>
     have:=hR _ (List.mem_singleton.2 rfl)
     simp only at this
     refine⟨?_, ?_⟩
     ·simp only[ak,Env.iP,this]
      exact hv
     ·intro x hx
      rw[List.mem_singleton] at hx
      subst hx
      exact .inl ⟨id,.inr ⟨t,e,ts,r,rfl⟩,rfl,hl⟩
   | d_ e r=>
    simp only
    refine⟨?_,by simp⟩
    have h1:=(hc.ay id _ hl).1
    rw[←hv.1] at h1
    exact mono _ rfl h1
 | nil=>
  simp only[au] at hR ⊢
  simp only[ak] at hv
  cases ck with
  | mK=>
   refine⟨?_,by simp⟩
   simp only[ak]
   exact hv
  | own t=>
   simp only at hR ⊢
   cases BD:fG P 16 t with
   | none=>simp [ak]
   | some e=>
    simp only[BD] at hR
    have:=hR _ (List.mem_singleton.2 rfl)
    simp only at this
    refine⟨?_, ?_⟩
    ·simp only[ak,Env.iP,this]
     rw[hv]
     exact⟨rfl,rfl⟩
    ·intro x hx
     rw[List.mem_singleton] at hx
     subst hx
     exact .inr ⟨.inl ⟨t,e,rfl⟩,rfl⟩
  | deep t ts=>
   simp only at hR ⊢
   cases BD:fG P 16 t with
   | none=>simp [ak]
   | some e=>
    simp only[BD] at hR
    have:=hR _ (List.mem_singleton.2 rfl)
    simp only at this
    refine⟨?_, ?_⟩
    ·simp only[ak,Env.iP,this]
     rw[hv]
     exact⟨rfl,rfl⟩
    ·intro x hx
     rw[List.mem_singleton] at hx
     subst hx
     exact .inr ⟨.inr ⟨t,e,ts,rfl⟩,rfl⟩
  | d_ t=>
   simp only at hR ⊢
   cases BD:fG P 16 t with
   | none=>simp [ak]
   | some e=>
    refine⟨?_,by simp⟩
    simp only[ak,bV]
    exact⟨[],⟨[],none,0,0,rfl,hv,rfl,Nat.le_refl _,Nat.zero_le _,.inl ⟨rfl,rfl⟩⟩,by simp⟩
 | kb b=>
  simp only[au]
  refine⟨?_,by simp⟩
  simp only[ak] at hv ⊢
  exact hv
 | agg=>simp [au,ak]
 | Dz=>simp [au,ak]
 | d9=>simp [au,ak]
 | FM=>simp [au,ak]
 | FQ g cs=>
  simp only[au]
  cases hp:kc cs
  ·simp [ak]
  ·simp only[cond_true]
   refine⟨?_,by simp⟩
   simp only[ak] at hv ⊢
   obtain⟨l,rfl,hl⟩:=hv
   exact⟨l,rfl,lR cs l hp hl⟩
 | ptr id off=>
  simp only[au]
  refine⟨?_,by simp⟩
  simp only[ak] at hv ⊢
  exact hv
 | fA=>exact⟨mono _ rfl hv,by simp [au]⟩
 | undef=>exact⟨mono _ rfl hv,by simp [au]⟩
 | int=>exact⟨mono _ rfl hv,by simp [au]⟩
 | bool=>exact⟨mono _ rfl hv,by simp [au]⟩
 | str=>exact⟨mono _ rfl hv,by simp [au]⟩
 | sl=>exact⟨mono _ rfl hv,by simp [au]⟩
 | gM=>exact⟨mono _ rfl hv,by simp [au]⟩
theorem iS {hp:List (Nat×aj)} {f:Nat→SV} {β:Env} {φ:Nat→List Nat} {tm:Array Value} {w:World} (hc:Core w0 S f (dE hp) β φ tm w) {lU:List (Nat×CK)} {b:Nat} {av':Nat→Prop}
  (cO:∀b,av' b→Av (dE hp) β b) {R:Rn} :∀(l:List SV) (k:Nat) (vs:List Value),af w (Av (dE hp) β) β l vs→(∀x∈(bC P hp lU b k l).2,A5 R x.1=some x.2)→
  af w av' (β.iP R) (bC P hp lU b k l).1 vs∧∀x∈(bC P hp lU b k l).2,Bq (dE hp) x
 | [],k,vs,hl,_=>by
  simp only[bC,af] at hl ⊢
  exact⟨hl,by simp⟩
 | s::l,k,vs,hl,hR=>by
  simp only[af] at hl
  obtain⟨v,l',rfl,h1,h2⟩:=hl
  simp only[bC] at hR ⊢
  have c1:=jt (P:=P) hc (ck:=Li lU k) (nid:=ag (20000+b*4) k) h1 cO (R:=R) (fun x hx=>hR x (List.mem_append_left _ hx))
  have c2:=iS hc cO l (k+1) l' h2 (fun x hx=>hR x (List.mem_append_right _ hx))
  refine⟨?_,fun x hx=> ?_⟩
  ·simp only[af]
   exact⟨v,l',rfl,c1.1,c2.1⟩
  ·rcases List.mem_append.1 hx with hx | hx
   ·exact c1.2 x hx
   ·exact c2.2 x hx
end
end Go.Proofs.YtoaflbnkiobhdaaGreat.Vm
set_option linter.unusedVariables false
set_option linter.unusedSimpArgs false
namespace Go.Proofs.YtoaflbnkiobhdaaGreat.Vm
section
variable {P:Program} {Γ:Ctx} {w0:World} {S:Own}
theorem fu {l:List Nat} (h:eW l=true):l.Nodup:=by
 induction l with
 | nil=>simp
 | cons i l ih=>
  simp only[eW,Bool.and_eq_true,Bool.not_eq_true'] at h
  rw[List.nodup_cons]
  refine⟨fun hm=> ?_,ih h.2⟩
  rw[gb.2 hm] at h
  simp at h
theorem Dp {R:Rn} {j:Nat} {x:aj×Option Nat} (h:A5 R j=some x):(j,x)∈R:=by
 induction R with
 | nil=>simp [A5] at h
 | cons y l ih=>
  obtain⟨i,z⟩:=y
  simp only[A5] at h
  split at h
  ·rename_i hj
   injection h with h
   subst h hj
   exact List.mem_cons_self ..
  ·exact List.mem_cons_of_mem _ (ih h)
theorem Fj {R:Rn} {x:Nat×aj×Option Nat} (hx:x∈R) (hn:(R.map (·.1)).Nodup):A5 R x.1=some x.2:=by
 induction R with
 | nil=>simp at hx
 | cons y l ih=>
  obtain⟨i,z⟩:=y
  simp only[List.map_cons,List.nodup_cons] at hn
  simp only[A5]
  rcases List.mem_cons.1 hx with rfl | hx
  ·simp
  ·have:x.1≠i:=fun e=>hn.1 (e ▸ List.mem_map_of_mem hx)
   rw[if_neg this]
   exact ih hx hn.2
theorem Fi {R:Rn} {j:Nat} (h:j ∉ R.map (·.1)):A5 R j=none:=by
 induction R with
 | nil=>rfl
 | cons y l ih=>
  obtain⟨i,z⟩:=y
  simp only[List.map_cons,List.mem_cons,not_or] at h
  simp only[A5]
  rw[if_neg h.1]
  exact ih h.2
theorem Gi {R:Rn} (h:(ey R).Nodup) {x y:Nat×aj×Option Nat} {id:Nat} (hx:x∈R) (hy:y∈R) (h1:x.2.2=some id) (h2:y.2.2=some id):x=y:=by
 have mem:∀(R:Rn) (z:Nat×aj×Option Nat),z∈R→z.2.2=some id→id∈ey R:=by
  intro R
  induction R with
  | nil=>simp
  | cons u l ih=>
   obtain⟨i,o,lK⟩:=u
   intro z hz Lf
   rcases List.mem_cons.1 hz with rfl | Jj
   ·simp only at Lf
    subst Lf
    simp [ey]
   ·have:=ih z Jj Lf
    cases lK with
    | none=>simpa [ey] using this
    | some k=>simp [ey,this]
 induction R with
 | nil=>simp at hx
 | cons u l ih=>
  obtain⟨i,o,lK⟩:=u
  cases lK with
  | none=>
   simp only[ey] at h
   rcases List.mem_cons.1 hx with rfl | hx
   ·cases h1
   ·rcases List.mem_cons.1 hy with rfl | hy
    ·cases h2
    ·exact ih h hx hy
  | some k=>
   simp only[ey,List.nodup_cons] at h
   rcases List.mem_cons.1 hx with rfl | hx
   ·simp only[Option.some.injEq] at h1
    rcases List.mem_cons.1 hy with rfl | hy
    ·rfl
    ·exact absurd (h1 ▸ mem l y hy h2) h.1
   ·rcases List.mem_cons.1 hy with rfl | hy
    ·simp only[Option.some.injEq] at h2
     exact absurd (h2 ▸ mem l x hx h1) h.1
    ·exact ih h.2 hx hy
theorem gU {st:St} {i:Nat} :∀(l:List (Nat×CK)),je (aV P st l).1 i= .fA∨
  ∃ck,je (aV P st l).1 i=(au P st.hp ck (ag (10000+i) 0) (st.get i)).1∧∀x∈(au P st.hp ck (ag (10000+i) 0) (st.get i)).2,x∈(aV P st l).2
 | []=> .inl rfl
 | (k,ck)::l=>by
  simp only[aV,je]
  cases hk:Nat.beq k i
  ·simp only[cond_false]
   rcases gU l with h | ⟨LZ,h1,h2⟩
   ·exact .inl h
   ·exact .inr ⟨LZ,h1,fun x hx=>List.mem_append_right _ (h2 x hx)⟩
  ·have:=Nat.eq_of_beq_eq_true hk
   subst this
   simp only[cond_true]
   exact .inr ⟨ck,rfl,fun x hx=>List.mem_append_left _ hx⟩
theorem gT {st:St} {x:Nat×aj×Option Nat} :∀(l:List (Nat×CK)),x∈(aV P st l).2→∃i ck,x∈(au P st.hp ck (ag (10000+i) 0) (st.get i)).2
 | [],h=>by simp [aV] at h
 | (k,ck)::l,h=>by
  simp only[aV] at h
  rcases List.mem_append.1 h with h | h
  ·exact⟨k,ck,h⟩
  ·exact gT l h
theorem dL {hp:List (Nat×aj)} {j:Nat} {o:aj} :∀(l:List (Nat×List (Nat×CK))),(j,o)∈(aP P hp l).1→
  ∃lU t cells,dE hp j=some (.box t cells)∧o= .box t (bC P hp lU j 0 cells).1∧∀x∈(bC P hp lU j 0 cells).2,x∈(aP P hp l).2
 | [],h=>by simp [aP] at h
 | (b,lU)::l,h=>by
  simp only[aP] at h ⊢
  split at h
  ·rename_i t cells hb
   simp only at h ⊢
   rcases List.mem_cons.1 h with h | h
   ·simp only[Prod.mk.injEq] at h
    obtain⟨rfl,rfl⟩:=h
    refine⟨lU,t,cells,hb,rfl,fun x hx=> ?_⟩
    exact List.mem_append_left _ hx
   ·obtain⟨J4,t',eR,h1,h2,h3⟩:=dL l h
    exact⟨J4,t',eR,h1,h2,fun x hx=>List.mem_append_right _ (h3 x hx)⟩
  ·rename_i hb
   exact dL l h
theorem fm {hp:List (Nat×aj)} {x:Nat×aj×Option Nat} :∀(l:List (Nat×List (Nat×CK))),x∈(aP P hp l).2→
  ∃lU j t cells,dE hp j=some (.box t cells)∧x∈(bC P hp lU j 0 cells).2
 | [],h=>by simp [aP] at h
 | (b,lU)::l,h=>by
  simp only[aP] at h
  split at h
  ·rename_i t cells hb
   simp only at h
   rcases List.mem_append.1 h with h | h
   ·exact⟨lU,b,t,cells,hb,h⟩
   ·exact fm l h
  ·exact fm l h
theorem iR {hp:List (Nat×aj)} {ck:CK} {nid:Nat} {s:SV} :∀x∈(au P hp ck nid s).2,Bq (dE hp) x:=by
 intro x hx
 cases s with
 | own id=>
  simp only[au] at hx
  cases hl:dE hp id with
  | none=>simp [hl] at hx
  | some o=>
   cases o with
   | box=>simp [hl] at hx
   | d_=>simp [hl] at hx
   | deep t e ts r j9=>
    cases j9 with
    | some q=>simp [hl] at hx
    | none=>
    simp only[hl] at hx
    cases ck with
    | d_=>simp at hx
    | mK=>
     rw[List.mem_singleton] at hx
     subst hx
     exact .inl ⟨id,.inr ⟨t,e,ts,r,rfl⟩,rfl,hl⟩
    | own=>
     rw[List.mem_singleton] at hx
     subst hx
     exact .inl ⟨id,.inr ⟨t,e,ts,r,rfl⟩,rfl,hl⟩
    | deep=>
     rw[List.mem_singleton] at hx
     subst hx
     exact .inl ⟨id,.inr ⟨t,e,ts,r,rfl⟩,rfl,hl⟩
   | row t e r fz u=>
    simp only[hl] at hx
    cases ck with
    | d_=>simp at hx
    | mK=>
     rw[List.mem_singleton] at hx
     subst hx
     exact .inl ⟨id,.inl ⟨t,e,r,fz,u,rfl⟩,rfl,hl⟩
    | own=>
     rw[List.mem_singleton] at hx
     subst hx
     exact .inl ⟨id,.inl ⟨t,e,r,fz,u,rfl⟩,rfl,hl⟩
    | deep=>
     rw[List.mem_singleton] at hx
     subst hx
     exact .inl ⟨id,.inl ⟨t,e,r,fz,u,rfl⟩,rfl,hl⟩
 | nil=>
  simp only[au] at hx
  cases ck with
  | mK=>simp at hx
  | d_ t=>
   simp only at hx
   split at hx<;>simp at hx
  | own t=>
   simp only at hx
   split at hx
   ·rename_i e he
    rw[List.mem_singleton] at hx
    subst hx
    exact .inr ⟨.inl ⟨t,e,rfl⟩,rfl⟩
   ·simp at hx
  | deep t ts=>
   simp only at hx
   split at hx
   ·rename_i e he
    rw[List.mem_singleton] at hx
    subst hx
    exact .inr ⟨.inr ⟨t,e,ts,rfl⟩,rfl⟩
   ·simp at hx
 | kb=>simp [au] at hx
 | agg=>simp [au] at hx
 | Dz=>simp [au] at hx
 | d9=>simp [au] at hx
 | ptr=>simp [au] at hx
 | fA=>simp [au] at hx
 | undef=>simp [au] at hx
 | int=>simp [au] at hx
 | bool=>simp [au] at hx
 | str=>simp [au] at hx
 | sl=>simp [au] at hx
 | gM=>simp [au] at hx
 | FM=>simp [au] at hx
 | FQ g cs=>
  simp only[au] at hx
  cases hp:kc cs<;>simp [hp] at hx
theorem gS {hp:List (Nat×aj)} {lU:List (Nat×CK)} {b:Nat} :∀(l:List SV) (k:Nat),∀x∈(bC P hp lU b k l).2,Bq (dE hp) x
 | [],_,x,hx=>by simp [bC] at hx
 | s::l,k,x,hx=>by
  simp only[bC] at hx
  rcases List.mem_append.1 hx with hx | hx
  ·exact iR x hx
  ·exact gS l (k+1) x hx
def H9 (h:Nat→Option aj) (R:Rn) (β:Env) (φ:Nat→List Nat) (j:Nat) (o:aj):Prop:=
 (A5 R j=none∧∃t cells,h j=some (.box t cells)∧∃eR,o= .box t eR)∨
 (∃id,A5 R j=some (o,some id)∧h id=some o∧fF o)∨
 (A5 R j=some (o,none)∧Bp o)
theorem fF.FE {o:aj} (ho:fF o) {β:Env} {R:Rn} {j id:Nat} {o':aj} (h1:A5 R j=some (o',some id)):al (β.iP R) j o=al β id o:=by
 rcases ho with ⟨t,e,r,fz,u,rfl⟩ | ⟨t,e,ts,r,rfl⟩<;>simp [al,Env.iP,h1]
theorem fF.Gh {o:aj} (ho:fF o) {w:World} {av av':Nat→Prop} {β:Env} {R:Rn} {j id:Nat} {o':aj} {φ:List Nat} (h1:A5 R j=some (o',some id)) (cO:∀b,av' b→av b) (h:fV w av β id o φ):fV w av' (β.iP R) j o φ:=by
 have hval:(β.iP R).val j=β.val id:=by simp [Env.iP,h1]
 have jn:(β.iP R).nb j=β.nb id:=by simp [Env.iP,h1]
 rcases ho with ⟨t,e,r,fz,u,rfl⟩ | ⟨t,e,ts,r,rfl⟩
 ·obtain⟨vals,aA,g1,g2,g3,g4⟩:=h
  exact⟨vals,aA,by rw[hval];exact g1,g2,fun b hb hx=>g3 b hb (cO b hx),by rw[hval];exact g4⟩
 ·obtain⟨vals,aS,g1,g2,g3,g4⟩:=h
  exact⟨vals,aS,by rw[hval];exact g1,g2,by rw[jn];exact g3,by rw[hval];exact g4⟩
theorem fF.CN {o:aj} (ho:fF o) {t:TypeId} {cs:List SV} (h:o= .box t cs):False:=by
 rcases ho with ⟨_,_,_,_,_,rfl⟩ | ⟨_,_,_,_,rfl⟩<;>cases h
theorem Co {f f':Nat→SV} {h h':Nat→Option aj} {β:Env} {φ:Nat→List Nat} {tm:Array Value} {w:World} (hc:Core w0 S f h β φ tm w) {R:Rn} (hold:(ey R).Nodup)
  (bD:∀j o,h' j=some o→H9 h R β φ j o)
  (cO:(∀b,Av h' (β.iP R) b→Av h β b)→(∀i,ak w (Av h' (β.iP R)) (β.iP R) (f' i) (tm.getD i undef))∧
   ∀j t cells eR,h' j=some (.box t eR)→h j=some (.box t cells)→∀vs,af w (Av h β) β cells vs→af w (Av h' (β.iP R)) (β.iP R) eR vs):
  Core w0 S f' h' (β.iP R) (iU φ R) tm w:=by
 have hA:∀b,Av h' (β.iP R) b→Av h β b:=by
  rintro b (⟨j,o,hj,hb⟩ | hb)
  ·rcases bD j o hj with ⟨h1,t,cells,h2,eR,rfl⟩ | ⟨id,h1,h2,ho⟩ | ⟨h1,he⟩
   ·exact .inl ⟨j,_,h2,by simpa [al,Env.iP] using hb⟩
   ·refine .inl ⟨id,_,h2, ?_⟩
    rw[ho.FE h1] at hb
    exact hb
   ·rcases he with ⟨t,e,rfl⟩ | ⟨t,e,ts,rfl⟩<;>simp [al,Env.iP,h1,Value.ownBlock] at hb
  ·exact .inr hb
 obtain⟨kt,kn⟩:=cO hA
 refine⟨kt,fun j o hj=> ?_,fun j o hj=> ?_,fun i j oi oj cJ hi hj b hb=> ?_,hc.gH,hc.bars⟩
 ·rcases bD j o hj with ⟨h1,t,cells,h2,eR,rfl⟩ | ⟨id,h1,h2,ho⟩ | ⟨h1,he⟩
  ·obtain⟨vs,g1,g2,g3,g4⟩:=hc.ay j _ h2
   refine⟨vs,g1,kn j t cells eR hj h2 vs g2,g3, ?_⟩
   simp only[iU,h1]
   exact g4
  ·simp only[iU,h1]
   exact ho.Gh h1 hA (hc.ay id _ h2)
  ·have hval:(β.iP R).val j= .slice none 0 0:=by simp [Env.iP,h1]
   have jn:(β.iP R).nb j=[]:=by simp [Env.iP,h1]
   rcases he with ⟨t,e,rfl⟩ | ⟨t,e,ts,rfl⟩
   ·refine⟨[],[],⟨by simp,.inl ⟨hval,rfl,rfl⟩⟩,⟨rfl,by simp⟩,by simp, ?_⟩
    simp [iU,h1,hval,Value.ownBlock]
   ·refine⟨[],[],⟨by simp,.inl ⟨hval,rfl,rfl⟩⟩,⟨rfl,by simp⟩,by rw[jn];rfl, ?_⟩
    simp [iU,h1,hval,Value.ownBlock]
 ·rcases bD j o hj with ⟨h1,t,cells,h2,eR,rfl⟩ | ⟨id,h1,h2,ho⟩ | ⟨h1,he⟩
  ·simp only[iU,h1];exact hc.fresh j _ h2
  ·simp only[iU,h1];exact hc.fresh id _ h2
  ·simp [iU,h1]
 ·rcases bD i oi hi with ⟨h1,t,cells,h2,eR,rfl⟩ | ⟨id,h1,h2,ho⟩ | ⟨h1,he⟩<;>
   rcases bD j oj hj with ⟨k1,t',G6,k2,JA,rfl⟩ | ⟨LP,k1,k2,d8⟩ | ⟨k1,JH⟩<;>
   simp only[iU,h1,k1] at hb ⊢
  ·exact hc.sep i j _ _ cJ h2 k2 b hb
  ·refine hc.sep i LP _ _ (fun e=> ?_) h2 k2 b hb
   rw[e,k2,Option.some.injEq] at h2
   exact d8.CN h2
  ·simp
  ·refine hc.sep id j _ _ (fun e'=> ?_) h2 k2 b hb
   rw[e',k2,Option.some.injEq] at h2
   exact ho.CN h2.symm
  ·refine hc.sep id LP _ _ (fun e'=> ?_) h2 k2 b hb
   subst e'
   have:=Gi hold (Dp h1) (Dp k1) rfl rfl
   simp only[Prod.mk.injEq] at this
   exact cJ this.1
  ·simp
  ·simp at hb
  ·simp at hb
  ·simp at hb
theorem Cn {an:lB} {st:St} {a:Act} {w:World} (hR:Rel w0 S st a w) (aJ:(kf P an st).ok=true):Rel w0 S (kf P an st) a w∧st.ok=true:=by
 unfold kf at aJ ⊢
 simp only at aJ ⊢
 cases hnd:eW (ey ((aV P st an.bZ).2++(aP P st.hp an.boxes).2)) &&
   eW ((aP P st.hp an.boxes).1.map (·.1)++((aV P st an.bZ).2++(aP P st.hp an.boxes).2).map (·.1))
 ·rw[hnd] at aJ
  simp [bc] at aJ
 rw[hnd] at aJ
 simp only[cond_true] at aJ ⊢
 refine⟨?_,aJ⟩
 simp only[Bool.and_eq_true] at hnd
 obtain⟨β,φ,hc⟩:=hR.core
 have hold:=fu hnd.1
 have GF:=fu hnd.2
 rw[List.nodup_append] at GF
 obtain⟨MV,Ms,Hj⟩:=GF
 have jK:∀x∈(aV P st an.bZ).2,x∈(aV P st an.bZ).2++(aP P st.hp an.boxes).2:=fun x hx=>List.mem_append_left _ hx
 have Ai:∀x∈(aP P st.hp an.boxes).2,x∈(aV P st an.bZ).2++(aP P st.hp an.boxes).2:=fun x hx=>List.mem_append_right _ hx
 have GA:∀x∈(aV P st an.bZ).2++(aP P st.hp an.boxes).2,Bq (dE st.hp) x:=by
  intro x hx
  rcases List.mem_append.1 hx with hx | hx
  ·obtain⟨i,ck,h1⟩:=gT _ hx
   exact iR x h1
  ·obtain⟨lU,j,t,cells,h1,h2⟩:=fm _ hx
   exact gS cells 0 x h2
 generalize (aV P st an.bZ).2++(aP P st.hp an.boxes).2=R at*
 have jH:∀x∈R,A5 R x.1=some x.2:=fun x hx=>Fj hx Ms
 have gZ:Core w0 S st.get (dE st.hp) β φ a.tmps w:=hc
 refine⟨hR.size,hR.fx,hR.defers,hR.kept,β.iP R,iU φ R, ?_⟩
 have kq:∀j o,dE ((aP P st.hp an.boxes).1++R.map (fun x=>(x.1,x.2.1))) j=some o→(j,o)∈(aP P st.hp an.boxes).1∨∃lK,(j,o,lK)∈R:=by
  intro j o hj
  rcases List.mem_append.1 (Dn hj) with h1 | h1
  ·exact .inl h1
  ·obtain⟨x,hx,he⟩:=List.mem_map.1 h1
   obtain⟨k,o',lK⟩:=x
   simp only[Prod.mk.injEq] at he
   obtain⟨rfl,rfl⟩:=he
   exact .inr ⟨lK,hx⟩
 refine Co gZ hold (fun j o hj=> ?_) (fun hA=>⟨fun i=> ?_,fun j t cells eR hj hh vs MJ=> ?_⟩)
 ·rcases kq j o hj with h1 | ⟨lK,h1⟩
  ·obtain⟨lU,t,cells,h2,h3,_⟩:=dL _ h1
   refine .inl ⟨Fi (fun hm=>Hj j (List.mem_map_of_mem (f:=(·.1)) h1) j hm rfl),t,cells,h2,_,h3⟩
  ·rcases GA _ h1 with ⟨id,g1,g2,g3⟩ | ⟨g1,g2⟩
   ·simp only at g1 g2 g3
    subst g2
    exact .inr (.inl ⟨id,jH _ h1,g3,g1⟩)
   ·simp only at g1 g2
    subst g2
    exact .inr (.inr ⟨jH _ h1,g1⟩)
 ·show ak w _ _ (je (aV P st an.bZ).1 i) _
  rcases gU (P:=P) (st:=st) (i:=i) an.bZ with h1 | ⟨ck,h1,h2⟩
  ·rw[h1];simp [ak]
  ·rw[h1]
   exact (jt gZ (hc.bZ i) hA (fun x hx=>jH x (jK x (h2 x hx)))).1
 ·rcases kq j _ hj with h1 | ⟨lK,h1⟩
  ·obtain⟨lU,t',G6,h2,h3,h4⟩:=dL _ h1
   rw[hh] at h2
   simp only[Option.some.injEq,aj.box.injEq] at h2
   obtain⟨rfl,rfl⟩:=h2
   simp only[aj.box.injEq,true_and] at h3
   rw[h3]
   exact (iS gZ hA cells 0 vs MJ (fun x hx=>jH x (Ai x (h4 x hx)))).1
  ·rcases GA _ h1 with ⟨id,g1,g2,g3⟩ | ⟨g1,g2⟩
   ·exact (g1.CN rfl).elim
   ·rcases g1 with ⟨_,_,g1⟩ | ⟨_,_,_,g1⟩<;>cases g1
theorem Du (st:St):st.DQ.ok=st.ok:=by
 unfold St.DQ
 split
 ·split
  ·split
   ·rename_i r _ _
    generalize (Nat.beq _ _ && _ && _ && _ && _:Bool)=c
    cases c<;>rfl
   ·rfl
  ·rfl
 ·rfl
theorem Fv {st:St} {a:Act} {w:World} (hR:Rel w0 S st a w):Rel w0 S st.DQ a w:=by
 unfold St.DQ
 split
 ·rename_i id hh
  split
  ·rename_i t e t1 rows i nid aK
   split
   ·rename_i t2 e2 r u hn
    cases hb:Nat.beq t2 t1 && HV e e2 && Nat.beq (aB e) 1 && !(Nat.beq nid id) && aq e2
    ·exact hR
    ·simp only[cond_true]
     simp only[Bool.and_eq_true,Bool.not_eq_true'] at hb
     obtain⟨⟨⟨⟨b1,b2⟩,b3⟩,b4⟩,b5⟩:=hb
     have b1:=Nat.eq_of_beq_eq_true b1
     subst b1
     have kt:∃e',e[ea e]? =some (.sl e')∧e'=e2:=by
      unfold HV at b2
      split at b2
      ·rename_i e' he
       exact⟨e',he,aN _ _ b2⟩
      ·cases b2
     have cJ:nid≠id:=Nat.ne_of_beq_eq_false b4
     obtain⟨β,φ,hc⟩:=hR.core
     obtain⟨β',φ',gZ⟩:=DR hc (h':=dE (kB [(id,some (.deep t e [t2] (rows.set i (bQ (rows.getD i []) (ea e) [.sl r])) none)),(nid,none)] st.hp)) aK hn kt (Nat.eq_of_beq_eq_true b3) cJ b5
      (by rw[ia];simp [fo,az]) (fun j hj=>by rw[ia];simp [fo,az,hj];rfl)
     exact⟨hR.size,hR.fx,hR.defers,hR.kept,β',φ',gZ⟩
   ·exact hR
  ·exact hR
 ·exact hR
theorem f0 (st:St):∀(l:List (Nat×CK)),bS st.obj (dj st l)∧aO (dj st l)=true
 | []=>⟨by simp [dj,bS],rfl⟩
 | (i,.mK)::l=>f0 st l
 | (i,.own _)::l=>f0 st l
 | (i,.deep _ _)::l=>f0 st l
 | (i,.d_ _)::l=>by
  have ih:=f0 st l
  simp only[dj]
  split
  ·rename_i id hg
   split
   ·rename_i t e r fz u aK
    cases hm:bP id (dj st l)
    ·exact ih
    ·refine⟨fun x hx=> ?_,by simp only[cond_true,aO,hm,ih.2,Bool.and_self]⟩
     simp only[cond_true] at hx
     rcases List.mem_cons.1 hx with rfl | hx
     ·exact⟨_,aK,.inl ⟨t,fz,rfl⟩⟩
     ·exact ih.1 x hx
   ·exact ih
  ·exact ih
theorem FU {an:lB} {st:St} {a:Act} {w:World} (hR:Rel w0 S st a w):Rel w0 S (st.J6 an) a w:=by
 obtain⟨β,φ,hc⟩:=hR.core
 obtain⟨h1,h2⟩:=f0 st an.bZ
 refine⟨hR.size,hR.fx,hR.defers,hR.kept,β,bm φ (dj st an.bZ), ?_⟩
 have:=hc.gw _ h1 h2
 show Core w0 S st.get (dE (kB (ai (dj st an.bZ)) st.hp)) _ _ _ _
 rw[ia]
 exact this
theorem m8 {an:lB} {st:St} {a:Act} {w:World} (hR:Rel w0 S st a w) (aJ:(canon P an st).ok=true):Rel w0 S (canon P an st) a w∧st.ok=true:=by
 have:=Cn (FU (an:=an) (Fv hR)) aJ
 have h2:=this.2
 simp only[St.J6] at h2
 rw[Du] at h2
 exact⟨this.1,h2⟩
end
end Go.Proofs.YtoaflbnkiobhdaaGreat.Vm
namespace Go.Proofs.YtoaflbnkiobhdaaGreat.Vm
section
variable {P:Program} {Γ:Ctx} {w0:World} {S:Own} {A:List (Nat×lB)} {N:Nat} {r:List DC}
structure Lo (K:AB) (r:List DC):Prop where
 eQ:∀st,K.eQ st=(true,r)→st.ok=true
 ext:∀i st,K.ext i st=(true,r)→st.ok=true
 ret:∀st,K.ret st=(true,r)→st.ok=true
theorem DB {an:lB} {st:St} (h:(kf P an st).ok=true):st.ok=true:=by
 unfold kf at h
 simp only at h
 cases hnd:eW (ey ((aV P st an.bZ).2++(aP P st.hp an.boxes).2)) &&
   eW ((aP P st.hp an.boxes).1.map (·.1)++((aV P st an.bZ).2++(aP P st.hp an.boxes).2).map (·.1))
 ·rw[hnd] at h
  simp [bc] at h
 ·rw[hnd] at h
  exact h
theorem ju {an:lB} {st:St} (h:(canon P an st).ok=true):st.ok=true:=by
 have:=DB h
 have h2:st.DQ.ok=true:=this
 rwa [Du] at h2
theorem bF:kd≠(true,r):=by simp [kd]
theorem A7 {st:St} {c:Operand} {x y:Code} {g:Bool} (h:(merge st g (exec P Γ x (st.reset.dh c true)) (exec P Γ y (st.reset.dh c false))).ok=true):st.ok=true:=by
 have lH:=cX h
 cases g with
 | true=>have:=(d7 x _ (lH.1 rfl)).ok;rwa [eK] at this
 | false=>have:=(d7 y _ (lH.2 rfl)).ok;rwa [eK] at this
def kV (P:Program) (Γ:Ctx) (A:List (Nat×lB)) (N:Nat) (x:Code) (an:lB) (K:AB) (n:Nat):St→kK:=
 Nat.rec (motive:=fun _=>St→kK) (fun _=>kd) (fun _ ih s=>run P Γ A N x s {eQ:=fun s'=>ih (canon P an s'),ext:=K.ext,ret:=K.ret}) n
theorem jf {x:Code} {an:lB} {K:AB} {n:Nat} {s:St} :kV P Γ A N x an K (n+1) s=run P Γ A N x s {eQ:=fun s'=>kV P Γ A N x an K n (canon P an s'),ext:=K.ext,ret:=K.ret} :=rfl
theorem fQ:∀(c:Code) (st:St) (K:AB),Lo K r→run P Γ A N c st K=(true,r)→st.ok=true
 | .skip,st,K,hK,h=>hK.eQ st (by simpa only[run] using h)
 | .region id ops draw,st,K,hK,h=>by
  simp only[run] at h
  exact (Az (hK.eQ _ (Dg h))).ok
 | .seq x y,st,K,hK,h=>by
  simp only[run] at h
  exact fQ x st {eQ:=fun s=>run P Γ A N y s K,ext:=K.ext,ret:=K.ret} ⟨fun s hs=>fQ y s K hK hs,hK.ext,hK.ret⟩ h
 | .cond c x y,st,K,hK,h=>by
  simp only[run] at h
  split at h
  ·rename_i t Ag
   cases t with
   | true=>exact fQ x st K hK h
   | false=>exact fQ y st K hK h
  ·rename_i g Ag
   cases hm:simple x && simple y && kz st g (exec P Γ x (st.reset.dh c true)) (exec P Γ y (st.reset.dh c false))
   ·rw[hm] at h
    simp only[cond_false] at h
    cases g with
    | true=>
     have:=fQ x _ K hK h
     rwa [eK] at this
    | false=>
     have:=fQ y _ K hK h
     rwa [eK] at this
   ·rw[hm] at h
    simp only[cond_true] at h
    exact A7 (hK.eQ _ (Dg h))
  ·exact absurd h bF
 | .block id x,st,K,hK,h=>by
  simp only[run] at h
  refine fQ x st {eQ:=K.eQ,ext:=fun i s=>bif Nat.beq i id then K.eQ s else K.ext i s,ret:=K.ret} ⟨hK.eQ,fun i s hs=> ?_,hK.ret⟩ h
  simp only at hs
  cases hb:Nat.beq i id
  ·rw[hb] at hs;exact hK.ext i s hs
  ·rw[hb] at hs;exact hK.eQ s hs
 | .loop x,st,K,hK,h=>by
  simp only[run] at h
  split at h
  ·rename_i an L9
   have key:∀n s,kV P Γ A N x an K n s=(true,r)→s.ok=true:=by
    intro n
    induction n with
    | zero=>intro s hs;exact absurd hs bF
    | succ n ih=>
     intro s hs
     rw[jf] at hs
     exact fQ x s {eQ:=fun s'=>kV P Γ A N x an K n (canon P an s'),ext:=K.ext,ret:=K.ret} ⟨fun s' BK=>ju (ih _ BK),hK.ext,hK.ret⟩ hs
   exact ju (key N _ h)
  ·exact absurd h bF
 | .exit id,st,K,hK,h=>hK.ext id st (by simpa only[run] using h)
 | .ret,st,K,hK,h=>hK.ret st (by simpa only[run] using h)
 | .rangeFunc ..,st,_,_,h=>by simp only[run] at h;exact absurd h bF
 | .scope ..,st,_,_,h=>by simp only[run] at h;exact absurd h bF
 | .goto ..,st,_,_,h=>by simp only[run] at h;exact absurd h bF
 | .label ..,st,_,_,h=>by simp only[run] at h;exact absurd h bF
 | .refuse ..,st,_,_,h=>by simp only[run] at h;exact absurd h bF
structure KQ (w0:World) (S:Own) (K:AB) (r:List DC) (Q:Exit→Act→World→Prop):Prop where
 eQ:∀st a w,Rel w0 S st a w→K.eQ st=(true,r)→Q .normal a w
 ext:∀i st a w,Rel w0 S st a w→K.ext i st=(true,r)→Q (.exit i) a w
 ret:∀st a w,Rel w0 S st a w→K.ret st=(true,r)→Q .ret a w
theorem cM (eV:bE P Γ):∀(c:Code) (st:St) (K:AB) (a:Act) (w:World) (Q:Exit→Act→World→Prop),Lo K r→Rel w0 S st a w→run P Γ A N c st K=(true,r)→KQ w0 S K r Q→c.wp P Q a w
 | .skip,st,K,a,w,Q,hK,hR,h,hQ=>wp_skip (hQ.eQ st a w hR (by simpa only[run] using h))
 | .region id ops draw,st,K,a,w,Q,hK,hR,h,hQ=>by
  simp only[run] at h
  have h:=Dg h
  exact jX eV hR (hK.eQ _ h) (fun a' w' eS=>hQ.eQ _ a' w' eS h)
 | .seq x y,st,K,a,w,Q,hK,hR,h,hQ=>by
  simp only[run] at h
  refine wp_seq (cM eV x st {eQ:=fun s=>run P Γ A N y s K,ext:=K.ext,ret:=K.ret} a w _ ⟨fun s hs=>fQ y s K hK hs,hK.ext,hK.ret⟩ hR h ⟨fun s a' w' eS hs=> ?_,fun i s a' w' eS hs=> ?_,fun s a' w' eS hs=> ?_⟩)
  ·exact cM eV y s K a' w' Q hK eS hs hQ
  ·exact hQ.ext i s a' w' eS hs
  ·exact hQ.ret s a' w' eS hs
 | .cond c x y,st,K,a,w,Q,hK,hR,h,hQ=>by
  simp only[run] at h
  split at h
  ·rename_i t Ag
   refine wp_cond (Gu hR Ag) ?_
   cases t with
   | true=>exact cM eV x st K a w Q hK hR h hQ
   | false=>exact cM eV y st K a w Q hK hR h hQ
  ·rename_i g Ag
   have hb:=Dd hR Ag
   cases hm:simple x && simple y && kz st g (exec P Γ x (st.reset.dh c true)) (exec P Γ y (st.reset.dh c false))
   ·rw[hm] at h
    simp only[cond_false] at h
    refine wp_cond hb ?_
    cases g with
    | true=>exact cM eV x _ K a w Q hK (iG hR hb) h hQ
    | false=>exact cM eV y _ K a w Q hK (iG hR hb) h hQ
   ·rw[hm] at h
    simp only[cond_true] at h
    have h:=Dg h
    have aJ:=hK.eQ _ h
    have he:exec P Γ (.cond c x y) st=merge st g (exec P Γ x (st.reset.dh c true)) (exec P Γ y (st.reset.dh c false)):=by
     simp only[exec,Ag]
    exact gu eV (.cond c x y) st a w Q hR (by rw[he];exact aJ) (fun a' w' eS=>hQ.eQ _ a' w' eS (by rw[he];exact h))
  ·exact absurd h bF
 | .block id x,st,K,a,w,Q,hK,hR,h,hQ=>by
  simp only[run] at h
  refine wp_block (cM eV x st {eQ:=K.eQ,ext:=fun i s=>bif Nat.beq i id then K.eQ s else K.ext i s,ret:=K.ret} a w _ ⟨hK.eQ,fun i s hs=> ?_,hK.ret⟩ hR h ⟨fun s a' w' eS hs=>hQ.eQ s a' w' eS hs,fun i s a' w' eS hs=> ?_,fun s a' w' eS hs=>hQ.ret s a' w' eS hs⟩)
  ·simp only at hs
   cases hb:Nat.beq i id
   ·rw[hb] at hs;exact hK.ext i s hs
   ·rw[hb] at hs;exact hK.eQ s hs
  ·simp only at hs
   simp only[Exit.inBlock]
   cases hb:Nat.beq i id
   ·rw[hb] at hs
    rw[if_neg (Nat.ne_of_beq_eq_false hb)]
    exact hQ.ext i s a' w' eS hs
   ·rw[hb] at hs
    rw[if_pos (Nat.eq_of_beq_eq_true hb)]
    exact hQ.eQ s a' w' eS hs
 | .loop x,st,K,a,w,Q,hK,hR,h,hQ=>by
  simp only[run] at h
  split at h
  ·rename_i an L9
   have HC:∀n s,kV P Γ A N x an K n s=(true,r)→s.ok=true:=by
    intro n
    induction n with
    | zero=>intro s hs;exact absurd hs bF
    | succ n ih=>
     intro s hs
     rw[jf] at hs
     exact fQ x s {eQ:=fun s'=>kV P Γ A N x an K n (canon P an s'),ext:=K.ext,ret:=K.ret} ⟨fun s' BK=>ju (ih _ BK),hK.ext,hK.ret⟩ hs
   have key:∀n s a w,Rel w0 S s a w→kV P Γ A N x an K n s=(true,r)→Code.rounds P x Q n a w:=by
    intro n
    induction n with
    | zero=>intro s a w _ hs;exact absurd hs bF
    | succ n ih=>
     intro s a w hR hs
     rw[jf] at hs
     rw[rounds_succ]
     refine cM eV x s {eQ:=fun s'=>kV P Γ A N x an K n (canon P an s'),ext:=K.ext,ret:=K.ret} a w _ ⟨fun s' BK=>ju (HC _ _ BK),hK.ext,hK.ret⟩ hR hs ⟨fun s' a' w' eS BK=> ?_,fun i s' a' w' eS BK=> ?_,fun s' a' w' eS BK=> ?_⟩
     ·exact ih _ a' w' (m8 eS (HC _ _ BK)).1 BK
     ·exact hQ.ext i s' a' w' eS BK
     ·exact hQ.ret s' a' w' eS BK
   exact wp_loop_rounds N (key N _ a w (m8 hR (HC _ _ h)).1 h)
  ·exact absurd h bF
 | .exit id,st,K,a,w,Q,hK,hR,h,hQ=>wp_exit (hQ.ext id st a w hR (by simpa only[run] using h))
 | .ret,st,K,a,w,Q,hK,hR,h,hQ=>wp_ret (hQ.ret st a w hR (by simpa only[run] using h))
 | .rangeFunc ..,st,_,_,_,_,_,_,h,_=>by simp only[run] at h;exact absurd h bF
 | .scope ..,st,_,_,_,_,_,_,h,_=>by simp only[run] at h;exact absurd h bF
 | .goto ..,st,_,_,_,_,_,_,h,_=>by simp only[run] at h;exact absurd h bF
 | .label ..,st,_,_,_,_,_,_,h,_=>by simp only[run] at h;exact absurd h bF
 | .refuse ..,st,_,_,_,_,_,_,h,_=>by simp only[run] at h;exact absurd h bF
end
end Go.Proofs.YtoaflbnkiobhdaaGreat.Vm
namespace Go.Proofs.YtoaflbnkiobhdaaGreat.Vm
section
variable {P:Program} {Γ:Ctx} {w0:World} {S:Own} {A:List (Nat×lB)} {N:Nat}
variable {f:Nat→SV} {h:Nat→Option aj} {β:Env} {φ:Nat→List Nat} {tm:Array Value} {w:World}
def mz (tmps:Array Value):ResultVar→Sem Value
 | .tmp t=>pure (tmps.getD t undef)
 | .cell a t=>do loadVar t (←asAddr (tmps.getD a undef))
theorem Fo (hc:Core w0 S f h β φ tm w) {id off:Nat} {t:TypeId} {e:cG} (he:(mr P t (.ptr id off)).val f h=some e) {v:Value} (hv:v= .pointer (some ⟨β.cT id,off,none⟩)):
  ∃u,(do loadVar t (←asAddr v):Sem Value).run P w= .ok u w∧ak w (Av h β) β e.sv u:=by
 have conv:∀u,(Instr.loadAt t v).run P w= .ok u w→(do loadVar t (←asAddr v):Sem Value).run P w= .ok u w:=by
  intro u hu
  subst hv
  exact hu
 unfold mr at he
 split at he
 case h_2=>simp at he
 rename_i td hu
 simp only[CI,M.aT,Option.bind_eq_some_iff] at he
 obtain⟨ob,aK,he⟩:=he
 split at he
 ·rename_i t' cells
  cases ha:bg P t
  ·simp only[ha,cond_false] at he
   split at he
   ·rename_i s hs
    simp only[M.aa,Option.some.injEq] at he
    subst he
    obtain⟨vs,hh,hr,_,_⟩:=hc.ay id _ aK
    obtain⟨u,CE,fj⟩:=af.get _ _ _ _ hr hs
    refine⟨u,conv u ?_,fj⟩
    rw[hv]
    exact dV ha hu (by rw[jv hh];exact CE)
   ·simp at he
  ·simp only[ha,cond_true] at he
   split at he
   ·rename_i i hi
    cases hz:Nat.ble (off+i.size) cells.length
    ·simp [hz] at he
    ·simp only[hz,cond_true,M.aa,Option.some.injEq] at he
     subst he
     have hle:=Nat.le_of_ble_eq_true hz
     obtain⟨vs,hh,hr,bb,_⟩:=hc.ay id _ aK
     have hlen:=af.length _ _ hr
     refine⟨.agg ((vs.drop off).take i.size).toArray,conv _ ?_, ?_⟩
     ·rw[hv]
      refine dU (vs:=(vs.drop off).take i.size) ha hi (by simp;omega) (fun j v hj=> ?_)
      rw[jv hh]
      rw[List.getElem?_take] at hj
      split at hj
      ·simpa using hj
      ·cases hj
     ·simp only[ak]
      exact⟨_,rfl,af.take _ _ _ (af.drop _ _ _ hr),fun y hy=>bb y (List.mem_of_mem_drop (List.mem_of_mem_take hy))⟩
   ·simp at he
 ·simp at he
theorem iI (hc:Core w0 S f h β φ tm w):∀(l:List ResultVar) (ss:List SV),(gF P l).val f h=some ss→∃vs,(l.mapM (mz tm)).run P w= .ok vs w∧af w (Av h β) β ss vs
 | [],ss,hs=>by
  simp only[gF,M.aa,Option.some.injEq] at hs
  subst hs
  exact⟨[],by simp,by simp [af]⟩
 | .tmp t::l,ss,hs=>by
  simp only[gF,M.ix,M.ae,Option.bind_eq_some_iff,M.aa,Option.some.injEq] at hs
  obtain⟨r,hr,rfl⟩:=hs
  obtain⟨vs,h1,h2⟩:=iI hc l r hr
  refine⟨tm.getD t undef::vs, ?_, ?_⟩
  ·simp only[List.mapM_cons,mz,Sem.run_bind,Sem.run_pure,Result.andThen_ok,h1]
  ·simp only[af]
   exact⟨_,_,rfl,hc.bZ t,h2⟩
 | .cell p t::l,ss,hs=>by
  simp only[gF,M.ix,M.ae,Option.bind_eq_some_iff,M.aa,Option.some.injEq] at hs
  obtain⟨e,he,r,hr,rfl⟩:=hs
  obtain⟨vs,h1,h2⟩:=iI hc l r hr
  have kt:=hc.bZ p
  split at he
  ·rename_i id off hp
   rw[hp] at kt
   simp only[ak] at kt
   obtain⟨u,g1,g2⟩:=Fo hc he kt
   refine⟨u::vs, ?_, ?_⟩
   ·simp only[List.mapM_cons,Sem.run_bind,Sem.run_pure]
    have:(mz tm (.cell p t)).run P w= .ok u w:=g1
    simp only[this,Result.andThen_ok,h1]
   ·simp only[af]
    exact⟨_,_,rfl,g2,h2⟩
  ·simp at he
theorem CS {fn:Func} :results fn tm=(do let vs ←fn.results.mapM (mz tm);pure (if h:vs.size=1 then vs[0] else .tuple vs)):=by
 unfold results
 congr 1
theorem Gj (l:List Value):(if h:l.toArray.size=1 then l.toArray[0] else .tuple l.toArray)=pack l:=by
 cases l with
 | nil=>rfl
 | cons x l=>
  cases l with
  | nil=>rfl
  | cons y l=>simp [pack]
theorem la {fn:Func} {vs:List Value} (hr:(fn.results.toList.mapM (mz tm)).run P w= .ok vs w):(results fn tm).run P w= .ok (pack vs) w:=by
 rw[CS,Array.mapM_eq_mapM_toList]
 simp only[Sem.run_bind,map_eq_pure_bind,Sem.run_pure,hr,Result.andThen_ok,bind_assoc,pure_bind]
 rw[Gj]
theorem gW (hc:Core w0 S f h β φ tm w):∀(CQ:List RC) (ss:List SV) (vs:List Value) (q:List DC×List Nat×List Nat),af w (Av h β) β ss vs→(dN CQ ss).val f h=some q→
  ∃φ' im tp,di w CQ q.1 vs φ' im tp∧(∀b∈φ',∃i∈q.2.1,(∃o,h i=some o)∧b∈φ i)∧(∀b∈tp,∃i o,i∈q.2.1∧h i=some o∧b∈al β i o)∧(q.2.1.Nodup→φ'.Nodup)∧
   (∀b∈im,¬Av h β b∨∃i∈q.2.2,(∃o,h i=some o)∧b∈φ i)
 | [],[],vs,q,hs,hq=>by
  simp only[dN,M.aa,Option.some.injEq] at hq
  subst hq
  simp only[af] at hs
  exact⟨[],[],[],⟨rfl,hs,rfl,rfl,rfl⟩,by simp,by simp,by simp,by simp⟩
 | [],_::_,vs,q,hs,hq=>by simp [dN] at hq
 | _::_,[],vs,q,hs,hq=>by simp [dN] at hq
 | rc::CQ,s::ss,vs,q,hs,hq=>by
  simp only[af] at hs
  obtain⟨v,l,rfl,h1,h2⟩:=hs
  simp only[dN,M.ae,Option.bind_eq_some_iff,M.aa,Option.some.injEq] at hq
  obtain⟨q1,aG,q2,cv,rfl⟩:=hq
  obtain⟨Bi,mI,D7,g1,g2,g3,g4,g5⟩:=gW hc CQ ss l q2 h2 cv
  cases rc with
  | d_ ct=>
   simp only[fH,M.ae,Option.bind_eq_some_iff,M.aa,Option.some.injEq] at aG
   obtain⟨p,hp,rfl⟩:=aG
   obtain⟨fp,r1,r2,_,r4,_⟩:=dy hc h1 hp
   refine⟨Bi,fp++mI,D7,⟨p.1,q2.1,v,l,fp,mI,rfl,rfl,r1,g1,rfl⟩, ?_, ?_, ?_, ?_⟩
   ·simpa using g2
   ·simpa using g3
   ·simpa using g4
   ·intro b hb
    rcases List.mem_append.1 hb with hb | hb
    ·rcases r4 b hb with h3 | ⟨x,hx,h3⟩
     ·exact .inl h3
     ·obtain⟨_,Cj,_⟩:=r2 x hx
      exact .inr ⟨x.1,List.mem_append_left _ (List.mem_map_of_mem hx),⟨_,Cj⟩,ah (hc.ay _ _ Cj) b (by rw[fk Cj] at h3;exact h3)⟩
    ·rcases g5 b hb with h3 | ⟨i,hi,h3⟩
     ·exact .inl h3
     ·exact .inr ⟨i,List.mem_append_right _ hi,h3⟩
  | own t e=>
   cases s with
   | nil=>
    simp only[fH,M.aa,Option.some.injEq] at aG
    subst aG
    simp only[ak] at h1
    subst h1
    refine⟨Bi,mI,D7,⟨[],q2.1,_,l,[],[],Bi,D7,rfl,rfl,⟨by simp,.inl ⟨rfl,rfl,rfl⟩⟩,⟨rfl,by simp⟩,g1,by simp [Value.ownBlock],by simp [Value.ownBlock]⟩, ?_, ?_, ?_, ?_⟩
    ·simpa using g2
    ·simpa using g3
    ·simpa using g4
    ·simpa using g5
   | own id=>
    simp only[fH,M.aT,Option.bind_eq_some_iff] at aG
    obtain⟨ob,aK,aG⟩:=aG
    split at aG
    ·rename_i t' e' r u
     cases aI:Nat.beq t t' && aF e e' && u
     ·simp [aI] at aG
     ·simp only[aI,cond_true,M.aa,Option.some.injEq] at aG
      subst aG
      simp only[Bool.and_eq_true] at aI
      obtain⟨⟨ht,he⟩,hu⟩:=aI
      have Lb:=Nat.eq_of_beq_eq_true ht
      have JH:=aN _ _ he
      subst Lb JH hu
      simp only[ak] at h1
      obtain⟨vals,aA,o1,o2,o3,o4⟩:=hc.ay id _ aK
      rw[←h1.1] at o1
      simp only[cond_true] at o4
      rw[←h1.1] at o4
      refine⟨(v.ownBlock.toList++aA.flatten)++Bi,mI,v.ownBlock.toList++D7,⟨r,q2.1,v,l,vals,aA,Bi,D7,rfl,rfl,o1,o2,g1,rfl,rfl⟩, ?_, ?_, ?_, ?_⟩
      ·intro b hb
       rcases List.mem_append.1 hb with hb | hb
       ·exact⟨id,List.mem_append_left _ (List.mem_singleton.2 rfl),⟨_,aK⟩,by rw[o4];exact hb⟩
       ·obtain⟨i,hi,h3⟩:=g2 b hb
        exact⟨i,List.mem_append_right _ hi,h3⟩
      ·intro b hb
       rcases List.mem_append.1 hb with hb | hb
       ·exact⟨id,_,List.mem_append_left _ (List.mem_singleton.2 rfl),aK,by rw[h1.1] at hb;simpa [al] using hb⟩
       ·obtain⟨i,o,hi,h3⟩:=g3 b hb
        exact⟨i,o,List.mem_append_right _ hi,h3⟩
      ·intro hnd
       simp only[List.singleton_append,List.nodup_cons] at hnd
       rw[List.nodup_append]
       refine⟨o4 ▸ (hc.fresh id _ aK).1,g4 hnd.2,fun b hb b' ax e=> ?_⟩
       subst e
       obtain⟨i,hi,⟨o,Ch⟩,h3⟩:=g2 b ax
       have cJ:id≠i:=fun e=>hnd.1 (e ▸ hi)
       exact hc.sep id i _ _ cJ aK Ch b (o4 ▸ hb) h3
      ·simpa using g5
    ·simp at aG
   | _=>simp [fH] at aG
  | deep t e ts=>
   cases s with
   | nil=>
    simp only[fH,M.aa,Option.some.injEq] at aG
    subst aG
    simp only[ak] at h1
    subst h1
    refine⟨Bi,mI,D7,⟨[],q2.1,_,l,[],[],Bi,D7,rfl,rfl,⟨by simp,.inl ⟨rfl,rfl,rfl⟩⟩,⟨rfl,by simp⟩,g1,by simp [Value.ownBlock],by simp [Value.ownBlock]⟩, ?_, ?_, ?_, ?_⟩
    ·simpa using g2
    ·simpa using g3
    ·simpa using g4
    ·simpa using g5
   | own id=>
    simp only[fH,M.aT,Option.bind_eq_some_iff] at aG
    obtain⟨ob,aK,aG⟩:=aG
    split at aG
    ·rename_i t' e' dJ r
     cases aI:Nat.beq t t' && aF e e' && fL ts dJ
     ·simp [aI] at aG
     ·simp only[aI,cond_true,M.aa,Option.some.injEq] at aG
      subst aG
      simp only[Bool.and_eq_true] at aI
      obtain⟨⟨ht,he⟩,hu⟩:=aI
      have Lb:=Nat.eq_of_beq_eq_true ht
      have JH:=aN _ _ he
      have CE:=gj _ _ hu
      subst Lb JH CE
      simp only[ak] at h1
      obtain⟨vals,aS,o1,o2,o3,o4⟩:=hc.ay id _ aK
      rw[←h1.1] at o1
      rw[←h1.1] at o4
      have bM:∀b∈(v.ownBlock.toList++aS.flatten),b∈al β id (.deep t e ts r none):=fun b hb=>by
       rw[h1.1] at hb
       simpa only[al,o3] using hb
      refine⟨(v.ownBlock.toList++aS.flatten)++Bi,mI,(v.ownBlock.toList++aS.flatten)++D7,⟨r,q2.1,v,l,vals,aS,Bi,D7,rfl,rfl,o1,o2,g1,rfl,rfl⟩, ?_, ?_, ?_, ?_⟩
      ·intro b hb
       rcases List.mem_append.1 hb with hb | hb
       ·exact⟨id,List.mem_append_left _ (List.mem_singleton.2 rfl),⟨_,aK⟩,by rw[o4];exact hb⟩
       ·obtain⟨i,hi,h3⟩:=g2 b hb
        exact⟨i,List.mem_append_right _ hi,h3⟩
      ·intro b hb
       rcases List.mem_append.1 hb with hb | hb
       ·exact⟨id,_,List.mem_append_left _ (List.mem_singleton.2 rfl),aK,bM b hb⟩
       ·obtain⟨i,o,hi,h3⟩:=g3 b hb
        exact⟨i,o,List.mem_append_right _ hi,h3⟩
      ·intro hnd
       simp only[List.singleton_append,List.nodup_cons] at hnd
       rw[List.nodup_append]
       refine⟨o4 ▸ (hc.fresh id _ aK).1,g4 hnd.2,fun b hb b' ax e=> ?_⟩
       subst e
       obtain⟨i,hi,⟨o,Ch⟩,h3⟩:=g2 b ax
       have cJ:id≠i:=fun e=>hnd.1 (e ▸ hi)
       exact hc.sep id i _ _ cJ aK Ch b (o4 ▸ hb) h3
      ·simpa using g5
    ·simp at aG
   | _=>simp [fH] at aG
theorem i7 (hc:Core w0 S f h β φ tm w):∀(BW:List RK) (ss:List SV) (vs:List Value) (q:List DC×List Nat×List Nat),af w (Av h β) β ss vs→(fI BW ss).val f h=some q→
  ∃φ' im tp,fl w BW q.1 vs φ' im tp∧(∀b∈φ',∃i∈q.2.1,(∃o,h i=some o)∧b∈φ i)∧(∀b∈tp,∃i o,i∈q.2.1∧h i=some o∧b∈al β i o)∧(q.2.1.Nodup→φ'.Nodup)∧
   (∀b∈im,¬Av h β b∨∃i∈q.2.2,(∃o,h i=some o)∧b∈φ i)
 | [],[],vs,q,hs,hq=>by
  simp only[fI,M.aa,Option.some.injEq] at hq
  subst hq
  simp only[af] at hs
  exact⟨[],[],[],⟨rfl,hs,rfl,rfl,rfl⟩,by simp,by simp,by simp,by simp⟩
 | [],_::_,vs,q,hs,hq=>by simp [fI] at hq
 | _::_,[],vs,q,hs,hq=>by simp [fI] at hq
 | k::ks,s::ss,vs,q,hs,hq=>by
  simp only[af] at hs
  obtain⟨v,l,rfl,h1,h2⟩:=hs
  simp only[fI,M.ae,Option.bind_eq_some_iff,M.aa,Option.some.injEq] at hq
  obtain⟨q1,aG,q2,cv,rfl⟩:=hq
  obtain⟨Bi,mI,D7,g1,g2,g3,g4,g5⟩:=i7 hc ks ss l q2 h2 cv
  have one:∃us:List Value,(bif k.agg then v= .agg us.toArray else us=[v])∧(∀x∈us,x.oneCell'=true)∧∃DZ Jo Jw,di w k.cells q1.1 us DZ Jo Jw∧(∀b∈DZ,∃i∈q1.2.1,(∃o,h i=some o)∧b∈φ i)∧
    (∀b∈Jw,∃i o,i∈q1.2.1∧h i=some o∧b∈al β i o)∧(q1.2.1.Nodup→DZ.Nodup)∧(∀b∈Jo,¬Av h β b∨∃i∈q1.2.2,(∃o,h i=some o)∧b∈φ i):=by
   cases hk:k.agg with
   | true=>
    cases s with
    | agg cs=>
     simp only[hk] at aG
     simp only[ak] at h1
     obtain⟨us,rfl,gk,bb⟩:=h1
     exact⟨us,rfl,bb,gW hc k.cells cs us q1 gk aG⟩
    | _=>simp [hk] at aG
   | false=>
    have lv:(dN k.cells [s]).val f h=some q1:=by
     cases s<;>simp only[hk] at aG<;>first | exact aG | (simp at aG)
    have hO:af w (Av h β) β [s] [v]:=by simp only[af];exact⟨v,[],rfl,h1,rfl⟩
    have AY:=gW hc k.cells [s] [v] q1 hO lv
    refine⟨[v],rfl, ?_,AY⟩
    obtain⟨_,_,_,hr,_⟩:=AY
    intro x hx
    rw[List.mem_singleton] at hx
    subst hx
    cases fC:k.cells with
    | nil=>rw[fC] at hr;simp [di] at hr
    | cons c cs=>
     rw[fC] at hr
     cases c with
     | d_ ct=>
      obtain⟨d,aX,v',cK,f1,E9,_,hv,h3,_⟩:=hr
      simp only[List.cons.injEq] at hv
      rw[hv.1]
      exact h3.one
     | own t e=>
      obtain⟨rows,aX,v',cK,vals,aA,φ',Bh,_,hv,h3,_⟩:=hr
      simp only[List.cons.injEq] at hv
      rw[hv.1]
      exact h3.one
     | deep t e ts=>
      obtain⟨rows,aX,v',cK,vals,aA,φ',Bh,_,hv,h3,_⟩:=hr
      simp only[List.cons.injEq] at hv
      rw[hv.1]
      exact h3.one
  obtain⟨us,gk,bb,DZ,Jo,Jw,k1,k2,k3,k4,k5⟩:=one
  refine⟨DZ++Bi,Jo++mI,Jw++D7,⟨q1.1,q2.1,v,l,us,DZ,Bi,Jo,mI,Jw,D7,rfl,rfl,gk,bb,k1,g1,rfl,rfl,rfl⟩, ?_, ?_, ?_, ?_⟩
  ·intro b hb
   rcases List.mem_append.1 hb with hb | hb
   ·obtain⟨i,hi,h3⟩:=k2 b hb
    exact⟨i,List.mem_append_left _ hi,h3⟩
   ·obtain⟨i,hi,h3⟩:=g2 b hb
    exact⟨i,List.mem_append_right _ hi,h3⟩
  ·intro b hb
   rcases List.mem_append.1 hb with hb | hb
   ·obtain⟨i,o,hi,h3⟩:=k3 b hb
    exact⟨i,o,List.mem_append_left _ hi,h3⟩
   ·obtain⟨i,o,hi,h3⟩:=g3 b hb
    exact⟨i,o,List.mem_append_right _ hi,h3⟩
  ·intro hnd
   rw[List.nodup_append] at hnd ⊢
   refine⟨k4 hnd.1,g4 hnd.2.1,fun b hb b' ax e=> ?_⟩
   subst e
   obtain⟨i,hi,⟨o,Ch⟩,h3⟩:=k2 b hb
   obtain⟨j,hj,⟨o',i_⟩,h4⟩:=g2 b ax
   exact hc.sep i j _ _ (hnd.2.2 i hi j hj) Ch i_ b h3 h4
  ·intro b hb
   rcases List.mem_append.1 hb with hb | hb
   ·rcases k5 b hb with h3 | ⟨i,hi,h3⟩
    ·exact .inl h3
    ·exact .inr ⟨i,List.mem_append_left _ hi,h3⟩
   ·rcases g5 b hb with h3 | ⟨i,hi,h3⟩
    ·exact .inl h3
    ·exact .inr ⟨i,List.mem_append_right _ hi,h3⟩
end
end Go.Proofs.YtoaflbnkiobhdaaGreat.Vm
set_option linter.unusedVariables false
namespace Go.Proofs.YtoaflbnkiobhdaaGreat.Vm
mutual
def G3:CT→DC→Prop
 | .int k,d=>∃n,d= .int n∧BQ k n=true
 | .bool,d=>∃b,d= .bool b
 | .str,d=>∃s:List UInt8,d= .str s∧s.length≤maxLen
 | .sl e,d=>∃rows:List (List DC),d= .sl rows∧rows.length≤maxLen∧∀r∈rows,ka e r
def ka:List CT→List DC→Prop
 | [],r=>r=[]
 | c::cs,r=>∃d r',r=d::r'∧G3 c d∧ka cs r'
end
mutual
theorem bV.wt {w:World} :∀(c:CT) (d:DC) (v:Value) (fp:List Nat),bV w c d v fp→G3 c d
 | .int k,_,_,_,h=>by
  simp only[bV,G3] at h ⊢
  obtain⟨n,h1,_,h2,_⟩:=h
  exact⟨n,h1,h2⟩
 | .bool,_,_,_,h=>by
  simp only[bV,G3] at h ⊢
  obtain⟨n,h1,_⟩:=h
  exact⟨n,h1⟩
 | .str,_,_,_,h=>by
  simp only[bV,G3] at h ⊢
  obtain⟨s,h1,_,h2,_⟩:=h
  exact⟨s,h1,h2⟩
 | .sl e,_,_,_,h=>by
  simp only[bV,G3] at h ⊢
  obtain⟨rows,a,n,c,rfl,_,hn,hc,hm,hr⟩:=h
  refine⟨rows,rfl,by omega,fun r EZ=> ?_⟩
  rcases hr with ⟨h0,_⟩ | ⟨_,b,o,aA,_,_,hl,_,hr⟩
  ·rw[h0] at hn
   rw[List.length_eq_zero_iff.1 hn] at EZ
   simp at EZ
  ·obtain⟨i,hi,rfl⟩:=List.getElem_of_mem EZ
   exact a7.wt e _ _ _ (hr i rows[i] aA[i] (by simp) (by simp))
theorem a7.wt {w:World} :∀(cs:List CT) (r:List DC) (f:Nat→Option Value) (fp:List Nat),a7 w cs r f fp→ka cs r
 | [],_,_,_,h=>by
  simp only[a7,ka] at h ⊢
  exact h.1
 | c::cs,_,_,_,h=>by
  simp only[a7,ka] at h ⊢
  obtain⟨d,r',v,f1,f2,h0,_,h1,h2,_⟩:=h
  exact⟨d,r',h0,bV.wt c d v f1 h1,a7.wt cs r' _ f2 h2⟩
end
def gV:List AK→List CT
 | []=>[]
 | k::ks=>k.bA++gV ks
theorem ka.append:∀ {cs Bu:List CT} {r r':List DC},ka cs r→ka Bu r'→ka (cs++Bu) (r++r')
 | [],_,_,_,h,h'=>by
  simp only[ka] at h
  subst h
  exact h'
 | c::cs,_,_,_,h,h'=>by
  simp only[ka] at h
  obtain⟨d,r1,rfl,h1,h2⟩:=h
  simp only[List.cons_append,ka]
  exact⟨d,r1++_,rfl,h1,h2.append h'⟩
theorem dm.wt {w:World} :∀(ks:List AK) (ds:List DC) (vs:List Value) (fp:List Nat),dm w ks ds vs fp→ka (gV ks) ds
 | [],_,_,_,h=>by
  simp only[gV,ka]
  exact h.1
 | k::ks,_,_,_,h=>by
  obtain⟨d1,d2,v,cK,f1,f2,rfl,rfl,⟨us,_,_,hr,_⟩,h2,rfl⟩:=h
  exact ka.append (a7.wt _ _ _ _ hr) (dm.wt ks d2 cK f2 h2)
section
variable {P:Program} {Γ:Ctx} {A:List (Nat×lB)} {w:World}
theorem jT:∀(cs:List CT) (d1 d2:List DC) (k:Nat),k+cs.length≤d1.length→cd cs (d1++d2) k=cd cs d1 k
 | [],_,_,_,_=>rfl
 | c::cs,d1,d2,k,h=>by
  simp only[cd]
  simp only[List.length_cons] at h
  rw[jT cs d1 d2 (k+1) (by omega)]
  congr 2
  simp only[List.getD_eq_getElem?_getD]
  rw[List.getElem?_append_left (by omega)]
theorem Ed {av:Nat→Prop} {β:Env} {k:AK} {ds:List DC} {v:Value} {fp:List Nat} (h:FP w k ds v fp) (cO:∀b∈fp,¬av b):
  ak w av β (bif k.agg then .agg (cd k.bA ds 0) else (cd k.bA ds 0).headD .fA) v:=by
 obtain⟨us,h1,h2,h3,h4⟩:=h
 obtain⟨vs,l1,l2,l3,l4⟩:=a7.bL (β:=β) h3 cO k.bA.length 0 (by omega)
 have e:vs=us:=by
  apply List.ext_getElem?
  intro j
  by_cases hj:j<vs.length
  ·have:=l2 j vs[j] (by simp)
   simp only[Nat.zero_add] at this
   rw[this]
   simp
  ·rw[List.getElem?_eq_none (by omega),List.getElem?_eq_none (by omega)]
 subst e
 simp only[List.drop_zero,List.take_length] at l3
 cases hk:k.agg with
 | true=>
  rw[hk] at h1
  simp only[cond_true] at h1 ⊢
  simp only[ak]
  exact⟨vs,h1,l3,l4⟩
 | false=>
  rw[hk] at h1
  simp only[cond_false] at h1 ⊢
  rw[h1.1] at l3
  cases hd:cd k.bA ds 0 with
  | nil=>simp [ak]
  | cons s ss=>
   rw[hd] at l3
   simp only[af] at l3
   obtain⟨v',l',e1,e2,_⟩:=l3
   simp only[List.cons.injEq] at e1
   rw[e1.1]
   exact e2
theorem Dm {av:Nat→Prop} {β:Env} :∀(ks:List AK) (ds:List DC) (vs:List Value) (fp:List Nat) (i0:Nat),dm w ks ds vs fp→(∀b∈fp,¬av b)→∀i,
  je (jd i0 ks ds) i= .fA∨∃j v,i=i0+j∧vs[j]? =some v∧ak w av β (je (jd i0 ks ds) i) v
 | [],_,_,_,_,_,_,i=> .inl rfl
 | k::ks,_,_,_,i0,h,cO,i=>by
  obtain⟨d1,d2,v,cK,f1,f2,rfl,rfl,ha,h2,rfl⟩:=h
  have hl:d1.length=k.bA.length:=by
   obtain⟨us,_,_,hr,_⟩:=ha
   exact a7.length _ _ _ _ hr
  simp only[jd,je]
  rw[jT _ _ _ _ (by omega)]
  cases hk:Nat.beq i0 i
  ·simp only[cond_false]
   rw[←hl,List.drop_left]
   rcases Dm (av:=av) (β:=β) ks d2 cK f2 (i0+1) h2 (fun b hb=>cO b (List.mem_append_right _ hb)) i with h3 | ⟨j,v',hi,hj,hs⟩
   ·exact .inl h3
   ·exact .inr ⟨j+1,v',by omega,by simpa using hj,hs⟩
  ·have:=Nat.eq_of_beq_eq_true hk
   subst this
   simp only[cond_true]
   exact .inr ⟨0,v,rfl,rfl,Ed ha (fun b hb=>cO b (List.mem_append_left _ hb))⟩
theorem dm.length:∀(ks:List AK) (ds:List DC) (vs:List Value) (fp:List Nat),dm w ks ds vs fp→vs.length=ks.length
 | [],_,_,_,h=>by rw[h.2.1];rfl
 | k::ks,_,_,_,h=>by
  obtain⟨d1,d2,v,cK,f1,f2,rfl,rfl,ha,h2,rfl⟩:=h
  simp [dm.length ks d2 cK f2 h2]
theorem Ew {fn:Func} {s:Sum} {st:St} {r:List DC} (h:fin P fn s st=(true,r)):st.ok=true:=by
 unfold fin at h
 split at h
 ·split at h
  ·simp only[Prod.mk.injEq] at h
   exact h.1
  ·exact absurd h bF
 split at h
 ·simp only[Prod.mk.injEq,Bool.and_eq_true] at h
  exact h.1.1.1
 ·exact absurd h bF
theorem Ex {fn:Func} {s:Sum} (GM:s.pt=none) {st:St} {r:List DC} {w w':World} {fp:List Nat} {a:Act} (h:fin P fn s st=(true,r)) (hR:Rel w ⟨fun _=>False,fun b=>b<w.heap.size∧b ∉ fp,[]⟩ st a w'):
  a.defers=[]∧∃v,(results fn a.tmps).run P w'= .ok v w'∧∃vs φ im tp,Ending.returned v= .returned (pack vs)∧Kept Own.none w w'∧fl w' s.rs r vs φ im tp∧φ.Nodup∧
   (∀b∈φ,w.heap.size≤b∧b<w'.heap.size)∧∀b∈im,(b∈fp∨w.heap.size≤b)∧b ∉ tp:=by
 unfold fin at h
 rw[GM] at h
 simp only at h
 split at h
 case h_2=>exact absurd h bF
 rename_i ds own im x hr
 simp only[Prod.mk.injEq,Bool.and_eq_true,List.all_eq_true,Bool.not_eq_true'] at h
 obtain⟨⟨⟨_,aZ⟩,ko⟩,rfl⟩:=h
 obtain⟨β,φ,hc⟩:=hR.core
 have hval:=M.eA _ hr
 simp only[M.ae,Option.bind_eq_some_iff] at hval
 obtain⟨ss,h1,h2⟩:=hval
 obtain⟨vs,g1,g2⟩:=iI hc _ _ h1
 obtain⟨φ',E9,Bh,k1,k2,k3,k4,k5⟩:=i7 hc _ _ _ _ g2 h2
 refine⟨hR.defers,pack vs,la g1,vs,φ',E9,Bh,rfl,⟨hR.kept.os,hR.kept.tape,hR.kept.output,hR.kept.size,fun k hk hn=>hR.kept.block k hk (fun h=>h)⟩,k1,k4 (fu aZ), ?_, ?_⟩
 ·intro b hb
  obtain⟨i,_,⟨o,Ch⟩,me⟩:=k2 b hb
  have:=(hc.fresh i o Ch).2 b me
  rcases this.1 with h3 | h3
  ·exact⟨h3,this.2⟩
  ·exact h3.elim
 ·intro b hb
  rcases k5 b hb with h3 | ⟨i,hi,⟨o,Ch⟩,me⟩
  ·refine⟨?_,fun hx=> ?_⟩
   ·by_cases cm:b<w.heap.size
    ·by_cases hm:b∈fp
     ·exact .inl hm
     ·refine absurd (.inr ?_) h3
      rw[hc.bars]
      exact⟨cm,hm⟩
    ·exact .inr (by omega)
   ·obtain⟨j,oj,_,hj,bo⟩:=k3 b hx
    exact h3 (.inl ⟨j,oj,hj,bo⟩)
  ·refine⟨?_,fun hx=> ?_⟩
   ·rcases ((hc.fresh i o Ch).2 b me).1 with h3 | h3
    ·exact .inr h3
    ·exact h3.elim
   ·obtain⟨j,oj,BH,hj,bo⟩:=k3 b hx
    have cJ:i≠j:=by
     rintro rfl
     have:=ko i hi
     rw[gb.2 BH] at this
     cases this
    exact hc.sep i j o oj cJ Ch hj b me (ah (hc.ay j oj hj) b bo)
theorem DS (eV:bE P Γ) {g:Nat} {fn:Func} {s:Sum} (hf:P.funcs[g]? =some fn) (Hg:fn.body.isSome=true) (hn:(fn.name== "runtime.NumGoroutine")=false) (hlen:s.ps.length≤fn.ntmps) (GK:fn.ntmps<1099511627776)
  (h:∀ds,ka (gV s.ps) ds→(s.fn ds).1=true→∃N,HU P Γ A N fn s ds=(true,(s.fn ds).2)) {w:World} {ds:List DC} {vals:List Value} {fp:List Nat} (cu:dm w s.ps ds vals fp) (aJ:(s.fn ds).1=true) {Q:Ending→World→Prop}
  (hQ:∀(st:St) (a:Act) (w':World),Rel w ⟨fun _=>False,fun b=>b<w.heap.size∧b ∉ fp,[]⟩ st a w'→fin P fn s st=(true,(s.fn ds).2)→a.defers=[]∧∃v,(results fn a.tmps).run P w'= .ok v w'∧Q (.returned v) w'):Calls P g vals.toArray w Q:=by
 obtain⟨N,bp⟩:=h ds (dm.wt _ _ _ _ cu) aJ
 obtain⟨c,hc⟩:=Option.isSome_iff_exists.1 Hg
 unfold HU at bp
 rw[hc] at bp
 simp only at bp
 have A1:=dm.length _ _ _ _ cu
 refine calls_of_wp hf hc ?_
 let S:Own:=⟨fun _=>False,fun b=>b<w.heap.size∧b ∉ fp,[]⟩
 let β:Env:=⟨fun _=>0,fun _=>undef,S.gH,fun _=>[]⟩
 have Bm:=dm.lt _ _ _ _ cu
 have hR:Rel w S {n:=fn.ntmps,sl:=jd 0 s.ps ds,hp:=[],ok:=true,ls:=[],lm:=[]} {tmps:=vals.toArray++Array.replicate (fn.ntmps - vals.toArray.size) undef,defers:=[]} w:=by
  refine⟨by simp only[Array.size_append,List.size_toArray,Array.size_replicate];rw[Nat.mod_eq_of_lt GK];omega,fun x hx=>by simp [S] at hx,rfl,⟨rfl,rfl,rfl,Nat.le_refl _,fun _ _ _=>rfl⟩,β,fun _=>[], ?_⟩
  refine⟨fun i=> ?_,fun id o ho=>by simp [St.obj,dE] at ho,fun id o ho=>by simp [St.obj,dE] at ho,fun i j o p _ ho=>by simp [St.obj,dE] at ho,fun b hb=>⟨hb.1,fun h=>h⟩,rfl⟩
  have Hx:∀b∈fp,¬Av (dE []) β b:=by
   intro b hb hx
   rcases hx with ⟨id,o,ho,_⟩ | hx
   ·simp [dE] at ho
   ·exact hx.2 hb
  rcases Dm (av:=Av (dE []) β) (β:=β) s.ps ds vals fp 0 cu Hx i with h1 | ⟨j,v,hi,hj,hs⟩
  ·show ak w _ _ (je (jd 0 s.ps ds) i) _
   rw[h1]
   simp [ak]
  ·have hv:(vals.toArray++Array.replicate (fn.ntmps - vals.toArray.size) undef).getD i undef=v:=by
    have Hs:j<vals.length:=(List.getElem?_eq_some_iff.1 hj).1
    rw[Array.getD_eq_getD_getElem?,Array.getElem?_append_left (by simp;omega)]
    have:i=j:=by omega
    subst this
    simp [hj]
   rw[hv]
   exact hs
 refine cM (r:=(s.fn ds).2) eV c _ {eQ:=fin P fn s,ext:=fun _ _=>kd,ret:=fin P fn s} _ w _ ⟨fun st hP=>Ew hP,fun i st hP=>absurd hP bF,fun st hP=>Ew hP⟩ hR bp ⟨?_, ?_, ?_⟩
 ·intro st a w' eS hP
  exact hQ st a w' eS hP
 ·intro i st a w' _ hP
  exact absurd hP bF
 ·intro st a w' eS hP
  exact hQ st a w' eS hP
theorem F4 (eV:bE P Γ) {g:Nat} {fn:Func} {s:Sum} (hf:P.funcs[g]? =some fn) (Hg:fn.body.isSome=true) (hn:(fn.name== "runtime.NumGoroutine")=false) (hlen:s.ps.length≤fn.ntmps) (GK:fn.ntmps<1099511627776)
  (h:∀ds,ka (gV s.ps) ds→(s.fn ds).1=true→∃N,HU P Γ A N fn s ds=(true,(s.fn ds).2)) (GM:s.pt=none:=by rfl):D9 P g s:=
 ⟨⟨fn,hf,Hg,hn⟩,fun w ds vals fp cu aJ=>DS eV hf Hg hn hlen GK h cu aJ fun st a w' hR hP=>Ex GM hP hR⟩
end
end Go.Proofs.YtoaflbnkiobhdaaGreat.Vm
namespace Go.Proofs.YtoaflbnkiobhdaaGreat.Vm
def focus (P:Program) (Γ:Ctx) (A:List (Nat×lB)) (N:Nat):List Bool→List (St→kK)→Code→AB→Code×AB
 | [],_,c,K=>(c,K)
 | x::p,is,c,K=>
  match c with
  | .seq a b=>bif x then focus P Γ A N p is b K else focus P Γ A N p is a {eQ:=fun s=>run P Γ A N b s K,ext:=K.ext,ret:=K.ret}
  | .cond _ a b=>bif x then focus P Γ A N p is b K else focus P Γ A N p is a K
  | .block id a=>focus P Γ A N p is a {eQ:=K.eQ,ext:=fun i s=>bif Nat.beq i id then K.eQ s else K.ext i s,ret:=K.ret}
  | .loop a=>match is,(dq a).bind (Jp A) with
   | ih::MN,some an=>focus P Γ A N p MN a {eQ:=fun s'=>ih (canon P an s'),ext:=K.ext,ret:=K.ret}
   | _,_=>(c,K)
  | _=>(c,K)
def LQ (P:Program) (Γ:Ctx) (A:List (Nat×lB)) (N:Nat) (fn:Func) (s:Sum) (p:List Bool) (is:List (St→kK)) (ih:St→kK) (st:St):kK:=
 match fn.body with
 | some c=>match focus P Γ A N p is c {eQ:=fin P fn s,ext:=fun _ _=>kd,ret:=fin P fn s} with
  | (.loop a,K)=>match (dq a).bind (Jp A) with
   | some an=>run P Γ A N a st {eQ:=fun s'=>ih (canon P an s'),ext:=K.ext,ret:=K.ret}
   | none=>kd
  | _=>kd
 | none=>kd
def LR (B:(St→kK)→St→kK) (n:Nat):St→kK:=Nat.rec (motive:=fun _=>St→kK) (fun _=>kd) (fun _ ih s=>B ih s) n
theorem J5 {α β:Type} {c:Bool} {x y:α} {a b:β} {K:β→α} (h1:x=K a) (h2:y=K b):(bif c then x else y)=K (bif c then a else b):=by
 cases c
 ·exact h2
 ·exact h1
def J3:Sum:= {ps:=[],rs:=[],fn:=fun _=>(false,[]),G4:=true}
theorem Lq {P:Program} {g:Nat} :gO P g J3:=trivial
theorem JB {P:Program} :bE P []:=fun _ _ h=>by simp [Gc] at h
theorem Ie {P:Program} {g:Nat} {s:Sum} {Γ:Ctx} (h:gO P g s) (eV:bE P Γ):bE P ((g,s)::Γ):=by
 intro g' s' h'
 simp only[Gc] at h'
 cases hb:Nat.beq g g'
 ·rw[hb] at h';exact eV g' s' h'
 ·rw[hb] at h'
  have:=Nat.eq_of_beq_eq_true hb
  subst this
  simp only[cond_true,Option.some.injEq] at h'
  subst h'
  exact h
end Go.Proofs.YtoaflbnkiobhdaaGreat.Vm
set_option linter.unusedVariables false
set_option linter.unusedSimpArgs false
namespace Go.Proofs.YtoaflbnkiobhdaaGreat.Vm
def pid (i j:Nat):Nat:=ag (5000000+i) j
def aE (i:Nat):Nat→List CT→List TT→List DC→List SV×List (Nat×aj)
 | _,[],_,_=>([],[])
 | j,.sl e::cs,ts,ds=>
  let q:=aE i (j+1) cs ts.tail ds.tail
  (.own (pid i j)::q.1,(pid i j,eO (ts.headD (.flat 0)) e (ds.headD default).cl)::q.2)
 | j,.int k::cs,ts,ds=>let q:=aE i (j+1) cs ts ds.tail;(gf (.int k) (ds.headD default)::q.1,q.2)
 | j,.bool::cs,ts,ds=>let q:=aE i (j+1) cs ts ds.tail;(gf .bool (ds.headD default)::q.1,q.2)
 | j,.str::cs,ts,ds=>let q:=aE i (j+1) cs ts ds.tail;(gf .str (ds.headD default)::q.1,q.2)
def cy:Nat→List AK→List (Option MK)→List DC→List (Nat×SV)×List (Nat×aj)
 | _,[],_,_=>([],[])
 | i,k::ks,ms,ds=>
  let q:=cy (i+1) ks ms.tail (ds.drop k.bA.length)
  match ms.headD none with
  | none=>((i,bif k.agg then .agg (cd k.bA ds 0) else (cd k.bA ds 0).headD .fA)::q.1,q.2)
  | some (.box t)=>((i,.ptr (pid i 0) 0)::q.1,(pid i 0,.box t (cd k.bA ds 0))::q.2)
  | some (.rows ts)=>
   let c:=aE i 0 k.bA ts ds
   ((i,bif k.agg then .agg c.1 else c.1.headD .fA)::q.1,c.2++q.2)
  | some (.jz ts)=>
   let c:=aE i 0 k.bA ts ds
   ((i,bif k.agg then .agg c.1 else c.1.headD .fA)::q.1,c.2++q.2)
  | some (.cI t ts)=>
   let c:=aE i 0 k.bA ts ds
   ((i,.ptr (pid i 62) 0)::q.1,(pid i 62,.box t c.1)::(c.2++q.2))
def lL (e:List CT) (t:TT) (s:SV):M (DC×Nat):=
 match s with
 | .own id=> .obj id fun
  | .row t' e' r false _=>match t with
   | .flat t=>bif Nat.beq t' t && aF e' e && aq e then .pure (.sl r,id) else .fail
   | .deep _ _=> .fail
  | .deep t' e' dJ r none=>match t with
   | .flat _=> .fail
   | .deep t its=>bif Nat.beq t' t && aF e' e && fL dJ its then .pure (.sl r,id) else .fail
  | _=> .fail
 | _=> .fail
def bt:List CT→List TT→List SV→M (List DC×List Nat)
 | [],_,[]=> .pure ([],[])
 | .sl e::cs,t::ts,s::ss=>(lL e t s).bind fun q=>(bt cs ts ss).bind fun r=> .pure (q.1::r.1,q.2::r.2)
 | .int _::cs,ts,_::ss=>bt cs ts ss
 | .bool::cs,ts,_::ss=>bt cs ts ss
 | .str::cs,ts,_::ss=>bt cs ts ss
 | _,_,_=> .fail
def bk:List CT→List TT→List SV→M (List DC×List Nat)
 | [],[],[]=> .pure ([],[])
 | .sl e::cs,t::ts,s::ss=>(lL e t s).bind fun q=>(bk cs ts ss).bind fun r=> .pure (q.1::r.1,q.2::r.2)
 | .int k::cs,ts,s::ss=>(eP (.int k) s).bind fun q=>(bk cs ts ss).bind fun r=> .pure (q.1::r.1,r.2)
 | .bool::cs,ts,s::ss=>(eP .bool s).bind fun q=>(bk cs ts ss).bind fun r=> .pure (q.1::r.1,r.2)
 | .str::cs,ts,s::ss=>(eP .str s).bind fun q=>(bk cs ts ss).bind fun r=> .pure (q.1::r.1,r.2)
 | _,_,_=> .fail
def fv:Nat→List AK→List (Option MK)→M (List DC×List Nat)
 | _,[],[]=> .pure ([],[])
 | i,_::ks,none::ms=>fv (i+1) ks ms
 | i,k::ks,some (.box t)::ms=> .slot i fun
  | .ptr id 0=> .obj id fun
   | .box t' cells=>bif Nat.beq t' t then
     (cb k.bA cells).bind fun r=>bif r.2.1.isEmpty then (fv (i+1) ks ms).bind fun q=> .pure (r.1++q.1,id::q.2) else .fail
    else .fail
   | _=> .fail
  | _=> .fail
 | i,k::ks,some (.rows ts)::ms=> .slot i fun s=>
  (match k.agg,s with
   | true,.agg cs=>bt k.bA ts cs
   | true,_=> .fail
   | false,.agg _=> .fail
   | false,s=>bt k.bA ts [s]).bind fun r=>(fv (i+1) ks ms).bind fun q=> .pure (r.1++q.1,r.2++q.2)
 | i,_::ks,some (.jz _)::ms=>fv (i+1) ks ms
 | i,k::ks,some (.cI t ts)::ms=> .slot i fun
  | .ptr id 0=> .obj id fun
   | .box t' cells=>bif Nat.beq t' t then
     (bk k.bA ts cells).bind fun r=>(fv (i+1) ks ms).bind fun q=> .pure (r.1++q.1,id::(r.2++q.2))
    else .fail
   | _=> .fail
  | _=> .fail
 | _,_,_=> .fail
def fJ:List TT→Bool
 | []=>true
 | .flat _::l=>fJ l
 | .deep _ _::_=>false
def ig:List (Option MK)→Bool
 | []=>true
 | some (.rows ts)::l=>fJ ts && ig l
 | some (.jz _)::_=>false
 | some (.cI _ _)::_=>false
 | some (.box _)::l=>ig l
 | none::l=>ig l
def mL (P:Program) (fn:Func) (s:Sum) (st:St):kK:=
 match ((gF P fn.results.toList).bind fun l=>(fI s.rs l).bind fun q=>(fv 0 s.ps s.ms).bind fun r=> .pure (q,r)).run st.get st.obj with
 | some (((ds,own,im),(od,ids)),_)=>(st.ok && eW (own++ids) && (ig s.ms || eY s.ms),ds++od)
 | none=>kd
def lx:List (Option MK)→Nat
 | []=>0
 | m::l=>bif Nat.blt 0 (lx l) then lx l+1 else bif m.isSome then 1 else 0
theorem Dq:∀ {l:List (Option MK)} {j:Nat} {m:MK},l[j]? =some (some m)→j<lx l
 | [],j,m,h=>by simp at h
 | x::l,0,m,h=>by
  simp only[List.getElem?_cons_zero,Option.some.injEq] at h
  subst h
  simp only[lx]
  cases Nat.blt 0 (lx l)<;>simp
 | x::l,j+1,m,h=>by
  have:=Dq (l:=l) (j:=j) (m:=m) (by simpa using h)
  simp only[lx]
  have h0:Nat.blt 0 (lx l)=true:=Nat.ble_eq_true_of_le (by omega)
  rw[h0]
  simp only[cond_true]
  omega
def GY (P:Program) (Γ:Ctx) (A:List (Nat×lB)) (N:Nat) (fn:Func) (s:Sum) (ds:List DC):kK:=
 match fn.body with
 | some c=>run P Γ A N c {n:=fn.ntmps+lx s.ms*1099511627776,sl:=(cy 0 s.ps s.ms ds).1,hp:=(cy 0 s.ps s.ms ds).2,ok:=true,ls:=[],lm:=[]} {eQ:=mL P fn s,ext:=fun _ _=>kd,ret:=mL P fn s}
 | none=>kd
section
variable {P:Program} {Γ:Ctx} {w0:World} {S:Own} {A:List (Nat×lB)} {N:Nat}
variable {f:Nat→SV} {h:Nat→Option aj} {β:Env} {φ:Nat→List Nat} {tm:Array Value} {w:World}
theorem my (hc:Core w0 S f h β φ tm w) {el:List CT} {t:TT} {s:SV} {v:Value} {q:DC×Nat} (hs:ak w (Av h β) β s v) (hq:(lL el t s).val f h=some q):
  ∃rows mb o,q.1= .sl rows∧gN w t el rows v mb∧h q.2=some o∧mb=al β q.2 o∧mb.Nodup∧(fJ [t]=true→mb=v.ownBlock.toList):=by
 have F8:v.ownBlock.toList.Nodup:=by cases v.ownBlock<;>simp
 unfold lL at hq
 cases s with
 | own id=>
  simp only[M.aT,Option.bind_eq_some_iff] at hq
  obtain⟨ob,aK,hq⟩:=hq
  simp only[ak] at hs
  split at hq
  ·rename_i t' e' r u
   cases t with
   | deep t its=>simp at hq
   | flat t=>
    simp only at hq
    cases aI:Nat.beq t' t && aF e' el && aq el
    ·simp [aI] at hq
    ·simp only[aI,cond_true,M.aa,Option.some.injEq] at hq
     subst hq
     simp only[Bool.and_eq_true] at aI
     have ht:=Nat.eq_of_beq_eq_true aI.1.1
     have he:=aN _ _ aI.1.2
     subst ht he
     obtain⟨vals,aA,g1,g2,_,_⟩:=hc.ay id _ aK
     rw[←hs.1] at g1
     exact⟨r,v.ownBlock.toList,_,rfl,⟨aI.2,vals,aA,g1,g2,rfl⟩,aK,by simp only[al,hs.1],F8,fun _=>rfl⟩
  ·rename_i t' e' dJ r
   cases t with
   | flat t=>simp at hq
   | deep t its=>
    simp only at hq
    cases aI:Nat.beq t' t && aF e' el && fL dJ its
    ·simp [aI] at hq
    ·simp only[aI,cond_true,M.aa,Option.some.injEq] at hq
     subst hq
     simp only[Bool.and_eq_true] at aI
     have ht:=Nat.eq_of_beq_eq_true aI.1.1
     have he:=aN _ _ aI.1.2
     have hi:=gj _ _ aI.2
     subst ht he hi
     have bM:=(hc.fresh id _ aK).1
     obtain⟨vals,aS,g1,g2,g3,g4⟩:=hc.ay id _ aK
     rw[g4] at bM
     rw[←hs.1] at g1 bM
     exact⟨r,v.ownBlock.toList++aS.flatten,_,rfl,⟨vals,aS,g1,g2,rfl⟩,aK,by simp only[al,g3,hs.1],bM,fun h=>by simp [fJ] at h⟩
  ·simp at hq
 | _=>simp at hq
theorem dG (hc:Core w0 S f h β φ tm w):∀(cs:List CT) (ts:List TT) (ss:List SV) (us:List Value) (q:List DC×List Nat),af w (Av h β) β ss us→(bt cs ts ss).val f h=some q→
  ∃ψ,iW w cs ts q.1 us ψ∧(∀b∈ψ,∃id∈q.2,∃o,h id=some o∧b∈al β id o)∧(q.2.Nodup→ψ.Nodup)∧
   (fJ ts=true→∀(w1:World) (ds:List DC) (mb:List Nat),aR w1 cs ts ds us mb→∀b∈mb,∃id∈q.2,∃o,h id=some o∧b∈al β id o)
 | [],ts,ss,us,q,hs,hq=>by
  cases ss with
  | nil=>
   simp only[bt,M.aa,Option.some.injEq] at hq
   subst hq
   simp only[af] at hs
   refine⟨[],⟨rfl,hs,rfl⟩,by simp,by simp,fun _ w1 ds mb hm b hb=> ?_⟩
   simp only[aR] at hm
   rw[hm.2.2.2] at hb
   simp at hb
  | cons s ss=>simp [bt] at hq
 | .int k::cs,ts,ss,us,q,hs,hq=>by
  cases ss with
  | nil=>simp [bt] at hq
  | cons s ss=>
   simp only[af] at hs
   obtain⟨v,aM,rfl,h1,h2⟩:=hs
   simp only[bt] at hq
   obtain⟨ψ,k1,k2,k3,k4⟩:=dG hc cs ts ss aM q h2 hq
   refine⟨ψ, ?_,k2,k3,fun hnd w1 ds mb hm b hb=> ?_⟩
   ·simp only[iW]
    exact⟨v,aM,rfl,k1⟩
   ·simp only[aR] at hm
    obtain⟨d,aX,v',FN,rfl,e0,_,hm⟩:=hm
    simp only[List.cons.injEq] at e0
    obtain⟨rfl,rfl⟩:=e0
    exact k4 hnd w1 aX mb hm b hb
 | .bool::cs,ts,ss,us,q,hs,hq=>by
  cases ss with
  | nil=>simp [bt] at hq
  | cons s ss=>
   simp only[af] at hs
   obtain⟨v,aM,rfl,h1,h2⟩:=hs
   simp only[bt] at hq
   obtain⟨ψ,k1,k2,k3,k4⟩:=dG hc cs ts ss aM q h2 hq
   refine⟨ψ, ?_,k2,k3,fun hnd w1 ds mb hm b hb=> ?_⟩
   ·simp only[iW]
    exact⟨v,aM,rfl,k1⟩
   ·simp only[aR] at hm
    obtain⟨d,aX,v',FN,rfl,e0,_,hm⟩:=hm
    simp only[List.cons.injEq] at e0
    obtain⟨rfl,rfl⟩:=e0
    exact k4 hnd w1 aX mb hm b hb
 | .str::cs,ts,ss,us,q,hs,hq=>by
  cases ss with
  | nil=>simp [bt] at hq
  | cons s ss=>
   simp only[af] at hs
   obtain⟨v,aM,rfl,h1,h2⟩:=hs
   simp only[bt] at hq
   obtain⟨ψ,k1,k2,k3,k4⟩:=dG hc cs ts ss aM q h2 hq
   refine⟨ψ, ?_,k2,k3,fun hnd w1 ds mb hm b hb=> ?_⟩
   ·simp only[iW]
    exact⟨v,aM,rfl,k1⟩
   ·simp only[aR] at hm
    obtain⟨d,aX,v',FN,rfl,e0,_,hm⟩:=hm
    simp only[List.cons.injEq] at e0
    obtain⟨rfl,rfl⟩:=e0
    exact k4 hnd w1 aX mb hm b hb
 | .sl el::cs,ts,ss,us,q,hs,hq=>by
  cases ts with
  | nil=>cases ss<;>simp [bt] at hq
  | cons t ts=>
   cases ss with
   | nil=>simp [bt] at hq
   | cons s ss=>
    simp only[af] at hs
    obtain⟨v,aM,rfl,h1,h2⟩:=hs
    simp only[bt,M.ae,Option.bind_eq_some_iff,M.aa,Option.some.injEq] at hq
    obtain⟨q1,aG,q2,cv,rfl⟩:=hq
    obtain⟨ψ,k1,k2,k3,k4⟩:=dG hc cs ts ss aM q2 h2 cv
    obtain⟨rows,Jq,o,r1,r2,r3,r4,r5,r6⟩:=my hc h1 aG
    refine⟨Jq++ψ, ?_,fun b hb=> ?_,fun hnd=> ?_,fun hnd w1 ds mb hm b hb=> ?_⟩
    ·simp only[iW]
     exact⟨t,ts,rows,q2.1,v,aM,Jq,ψ,rfl,by rw[r1],rfl,r2,k1,rfl⟩
    ·rcases List.mem_append.1 hb with hb | hb
     ·exact⟨q1.2,List.mem_cons_self ..,o,r3,r4 ▸ hb⟩
     ·obtain⟨i,hi,o',ho⟩:=k2 b hb
      exact⟨i,List.mem_cons_of_mem _ hi,o',ho⟩
    ·simp only[List.nodup_cons] at hnd
     rw[List.nodup_append]
     refine⟨r5,k3 hnd.2,fun b hb b' ax e=> ?_⟩
     subst e
     obtain⟨i,hi,o',d8,me⟩:=k2 b ax
     rw[r4] at hb
     exact hc.sep q1.2 i o o' (fun e=>hnd.1 (e ▸ hi)) r3 d8 b (ah (hc.ay _ _ r3) b hb) (ah (hc.ay _ _ d8) b me)
    ·simp only[aR] at hm
     obtain⟨t1,Gn,LW,aX,v1,FN,m1,ga,e1,rfl,e2,EE,hm,rfl⟩:=hm
     simp only[List.cons.injEq] at e1 e2
     obtain⟨rfl,rfl⟩:=e1
     obtain⟨rfl,rfl⟩:=e2
     cases t with
     | deep t its=>simp [fJ] at hnd
     | flat t=>
      obtain⟨_,vals,aA,_,_,rfl⟩:=EE
      rcases List.mem_append.1 hb with hb | hb
      ·refine⟨q1.2,List.mem_cons_self ..,o,r3, ?_⟩
       rw[←r4,r6 rfl]
       exact hb
      ·obtain⟨i,hi,o,ho⟩:=k4 (by simpa only[fJ] using hnd) w1 aX ga hm b hb
       exact⟨i,List.mem_cons_of_mem _ hi,o,ho⟩
theorem dT (hc:Core w0 S f h β φ tm w):∀(cs:List CT) (ts:List TT) (ss:List SV) (us:List Value) (q:List DC×List Nat),af w (Av h β) β ss us→(bk cs ts ss).val f h=some q→
  ∃ψ,aR w cs ts q.1 us ψ∧(∀b∈ψ,∃id∈q.2,∃o,h id=some o∧b∈al β id o)∧(q.2.Nodup→ψ.Nodup)
 | [],ts,ss,us,q,hs,hq=>by
  cases ts with
  | cons _ _=>cases ss<;>simp [bk] at hq
  | nil=>
  cases ss with
  | nil=>
   simp only[bk,M.aa,Option.some.injEq] at hq
   subst hq
   simp only[af] at hs
   exact⟨[],⟨rfl,rfl,hs,rfl⟩,by simp,by simp⟩
  | cons s ss=>simp [bk] at hq
 | .int k::cs,ts,ss,us,q,hs,hq=>by
  cases ss with
  | nil=>simp [bk] at hq
  | cons s ss=>
   simp only[af] at hs
   obtain⟨v,aM,rfl,h1,h2⟩:=hs
   simp only[bk,M.ae,Option.bind_eq_some_iff,M.aa,Option.some.injEq] at hq
   obtain⟨q1,aG,q2,cv,rfl⟩:=hq
   obtain⟨fp,hr,_⟩:=dy hc h1 aG
   obtain⟨ψ,k1,k2,k3⟩:=dT hc cs ts ss aM q2 h2 cv
   refine⟨ψ, ?_,k2,k3⟩
   simp only[aR]
   refine⟨q1.1,q2.1,v,aM,rfl,rfl, ?_,k1⟩
   simp only[bV] at hr ⊢
   obtain⟨n,a,b,c,_⟩:=hr
   exact⟨n,a,b,c,trivial⟩
 | .bool::cs,ts,ss,us,q,hs,hq=>by
  cases ss with
  | nil=>simp [bk] at hq
  | cons s ss=>
   simp only[af] at hs
   obtain⟨v,aM,rfl,h1,h2⟩:=hs
   simp only[bk,M.ae,Option.bind_eq_some_iff,M.aa,Option.some.injEq] at hq
   obtain⟨q1,aG,q2,cv,rfl⟩:=hq
   obtain⟨fp,hr,_⟩:=dy hc h1 aG
   obtain⟨ψ,k1,k2,k3⟩:=dT hc cs ts ss aM q2 h2 cv
   refine⟨ψ, ?_,k2,k3⟩
   simp only[aR]
   refine⟨q1.1,q2.1,v,aM,rfl,rfl, ?_,k1⟩
   simp only[bV] at hr ⊢
   obtain⟨n,a,b,_⟩:=hr
   exact⟨n,a,b,trivial⟩
 | .str::cs,ts,ss,us,q,hs,hq=>by
  cases ss with
  | nil=>simp [bk] at hq
  | cons s ss=>
   simp only[af] at hs
   obtain⟨v,aM,rfl,h1,h2⟩:=hs
   simp only[bk,M.ae,Option.bind_eq_some_iff,M.aa,Option.some.injEq] at hq
   obtain⟨q1,aG,q2,cv,rfl⟩:=hq
   obtain⟨fp,hr,_⟩:=dy hc h1 aG
   obtain⟨ψ,k1,k2,k3⟩:=dT hc cs ts ss aM q2 h2 cv
   refine⟨ψ, ?_,k2,k3⟩
   simp only[aR]
   refine⟨q1.1,q2.1,v,aM,rfl,rfl, ?_,k1⟩
   simp only[bV] at hr ⊢
   obtain⟨n,a,b,c,_⟩:=hr
   exact⟨n,a,b,c,trivial⟩
 | .sl el::cs,ts,ss,us,q,hs,hq=>by
  cases ts with
  | nil=>cases ss<;>simp [bk] at hq
  | cons t ts=>
   cases ss with
   | nil=>simp [bk] at hq
   | cons s ss=>
    simp only[af] at hs
    obtain⟨v,aM,rfl,h1,h2⟩:=hs
    simp only[bk,M.ae,Option.bind_eq_some_iff,M.aa,Option.some.injEq] at hq
    obtain⟨q1,aG,q2,cv,rfl⟩:=hq
    obtain⟨ψ,k1,k2,k3⟩:=dT hc cs ts ss aM q2 h2 cv
    obtain⟨rows,Jq,o,r1,r2,r3,r4,r5,r6⟩:=my hc h1 aG
    refine⟨Jq++ψ, ?_,fun b hb=> ?_,fun hnd=> ?_⟩
    ·simp only[aR]
     exact⟨t,ts,rows,q2.1,v,aM,Jq,ψ,rfl,by rw[r1],rfl,r2,k1,rfl⟩
    ·rcases List.mem_append.1 hb with hb | hb
     ·exact⟨q1.2,List.mem_cons_self ..,o,r3,r4 ▸ hb⟩
     ·obtain⟨i,hi,o',ho⟩:=k2 b hb
      exact⟨i,List.mem_cons_of_mem _ hi,o',ho⟩
    ·simp only[List.nodup_cons] at hnd
     rw[List.nodup_append]
     refine⟨r5,k3 hnd.2,fun b hb b' ax e=> ?_⟩
     subst e
     obtain⟨i,hi,o',d8,me⟩:=k2 b ax
     rw[r4] at hb
     exact hc.sep q1.2 i o o' (fun e=>hnd.1 (e ▸ hi)) r3 d8 b (ah (hc.ay _ _ r3) b hb) (ah (hc.ay _ _ d8) b me)
theorem iF (hc:Core w0 S f h β φ tm w):∀(i:Nat) (ks:List AK) (ms:List (Option MK)) (vs:List Value) (q:List DC×List Nat),(∀(j:Nat) v m,vs[j]? =some v→ms[j]? =some (some m)→tm.getD (i+j) undef=v)→vs.length=ks.length→(fv i ks ms).val f h=some q→
  ∃im ψ,lO w ks ms q.1 vs im ψ∧(∀b∈im,¬Av h β b)∧(eY ms=true→im=[])∧(∀b∈ψ,∃id∈q.2,∃o,h id=some o∧b∈al β id o)∧(q.2.Nodup→ψ.Nodup)∧
   (ig ms=true→∀(w1:World) (ds:List DC) (fp mb:List Nat),cH w1 ks ms ds vs fp mb→∀b∈mb,∃id∈q.2,∃o,h id=some o∧b∈al β id o)
 | i,[],ms,vs,q,hv,hl,hq=>by
  cases ms with
  | nil=>
   simp only[fv,M.aa,Option.some.injEq] at hq
   subst hq
   have hl:vs=[]:=List.length_eq_zero_iff.1 hl
   subst hl
   refine⟨[],[],⟨rfl,rfl,rfl,rfl⟩,by simp,fun _=>rfl,by simp,by simp,fun _ w1 ds fp mb hm b hb=> ?_⟩
   simp only[cH] at hm
   rw[hm.2.2.2.2] at hb
   simp at hb
  | cons m ms=>simp [fv] at hq
 | i,k::ks,ms,vs,q,hv,hl,hq=>by
  cases ms with
  | nil=>simp [fv] at hq
  | cons m ms=>
   cases vs with
   | nil=>simp at hl
   | cons v vs=>
    have hv':∀(j:Nat) u m,vs[j]? =some u→ms[j]? =some (some m)→tm.getD (i+1+j) undef=u:=fun j u m' hu hm=>by
     have:=hv (j+1) u m' (by simpa using hu) (by simpa using hm)
     rw[show i+1+j=i+(j+1) by omega]
     exact this
    have D4:vs.length=ks.length:=by simpa using hl
    have dr:=hc.bZ i
    cases m with
    | none=>
     simp only[fv] at hq
     obtain⟨im,ψ,k1,k2,k4,k5,k6,k3⟩:=iF hc (i+1) ks ms vs q hv' D4 hq
     refine⟨im,ψ,⟨none,ms,[],q.1,v,vs,[],im,[],ψ,rfl,rfl,rfl,⟨rfl,rfl,rfl⟩,k1,rfl,rfl⟩,k2,k4,k5,k6,fun hnd w1 ds fp mb hm b hb=> ?_⟩
     simp only[cH] at hm
     obtain⟨m',D6,d1,d2,v',cK,f1,f2,b1,b2,e1,rfl,e2,ha,hm,rfl,rfl⟩:=hm
     simp only[List.cons.injEq] at e1 e2
     obtain⟨rfl,rfl⟩:=e1
     obtain⟨rfl,rfl⟩:=e2
     simp only[gm] at ha
     rw[ha.2] at hb
     exact k3 hnd w1 d2 f2 b2 hm b (by simpa using hb)
    | some m=>
     have GP:tm.getD i undef=v:=hv 0 v m rfl rfl
     rw[GP] at dr
     cases m with
     | box t=>
      simp only[fv,M.ix] at hq
      cases fj:f i with
      | ptr id off=>
       rw[fj] at hq dr
       cases off with
       | succ off=>simp at hq
       | zero=>
        simp only[M.aT,Option.bind_eq_some_iff] at hq
        obtain⟨ob,aK,hq⟩:=hq
        cases ob with
        | box t' cells=>
         simp only at hq
         cases kv:Nat.beq t' t
         ·simp [kv] at hq
         ·have kx:=Nat.eq_of_beq_eq_true kv
          subst kx
          simp only[kv,cond_true,M.ae,Option.bind_eq_some_iff] at hq
          obtain⟨q1,aG,hq⟩:=hq
          cases FF:q1.2.1.isEmpty
          ·simp [FF] at hq
          ·simp only[FF,cond_true,M.ae,Option.bind_eq_some_iff,M.aa,Option.some.injEq] at hq
           obtain⟨q2,cv,rfl⟩:=hq
           obtain⟨im,ψ,k1,k2,k4,k5,k6,k3⟩:=iF hc (i+1) ks ms vs q2 hv' D4 cv
           obtain⟨us,g1,g2,g3,_⟩:=hc.ay id _ aK
           obtain⟨lF,hr,F1,jB,_⟩:=dZ hc k.bA cells us q1 g2 aG
           have MW:=af.length _ _ g2
           have j9:=cD _ _ _ aG
           simp only[ak] at dr
           have KE:q1.2.1=[]:=List.isEmpty_iff.1 FF
           refine⟨lF++im,[β.cT id]++ψ,⟨some (.box t'),ms,q1.1,q2.1,v,vs,lF,im,[β.cT id],ψ,rfl,rfl,rfl,⟨β.cT id,us,dr,g1,g3,hr,by omega,rfl⟩,k1,rfl,rfl⟩, ?_,fun h=>by simp [eY] at h,fun b hb=> ?_,fun hnd=> ?_,fun hnd w1 ds fp mb hm b hb=> ?_⟩
           ·intro b hb
            rcases List.mem_append.1 hb with hb | hb
            ·rcases jB b hb with h3 | ⟨x,hx,h3⟩
             ·exact h3
             ·rw[KE] at hx
              simp at hx
            ·exact k2 b hb
           ·rcases List.mem_append.1 hb with hb | hb
            ·exact⟨id,List.mem_cons_self ..,_,aK,by simpa only[al] using hb⟩
            ·obtain⟨j,hj,o,ho⟩:=k5 b hb
             exact⟨j,List.mem_cons_of_mem _ hj,o,ho⟩
           ·simp only[List.nodup_cons] at hnd
            rw[List.nodup_append]
            refine⟨by simp,k6 hnd.2,fun b hb b' ax e=> ?_⟩
            subst e
            obtain⟨j,hj,o',d8,bo⟩:=k5 b ax
            exact hc.sep id j _ o' (fun e=>hnd.1 (e ▸ hj)) aK d8 b (ah (hc.ay _ _ aK) b (by simpa only[al] using hb)) (ah (hc.ay _ _ d8) b bo)
           ·simp only[cH] at hm
            obtain⟨m',D6,d1,d2,v',cK,f1,f2,b1,b2,e1,rfl,e2,ha,hm,rfl,rfl⟩:=hm
            simp only[List.cons.injEq] at e1 e2
            obtain⟨rfl,rfl⟩:=e1
            obtain⟨rfl,rfl⟩:=e2
            simp only[gm] at ha
            obtain⟨g,FN,ev,_,_,_,_,rfl⟩:=ha
            rcases List.mem_append.1 hb with hb | hb
            ·refine⟨id,List.mem_cons_self ..,_,aK, ?_⟩
             rw[dr] at ev
             simp only[Value.pointer.injEq,Option.some.injEq,Addr.mk.injEq,and_true] at ev
             simp only[al]
             rw[ev]
             exact hb
            ·obtain⟨j,hj,o,ho⟩:=k3 hnd w1 d2 f2 b2 hm b hb
             exact⟨j,List.mem_cons_of_mem _ hj,o,ho⟩
        | row _ _ _ _ _=>simp at hq
        | d_ _ _=>simp at hq
        | deep _ _ _ _ _=>simp at hq
      | _=>rw[fj] at hq;simp at hq
     | rows ts=>
      simp only[fv,M.ix,M.ae,Option.bind_eq_some_iff,M.aa,Option.some.injEq] at hq
      obtain⟨q1,aG,q2,cv,rfl⟩:=hq
      obtain⟨im,ψ,k1,k2,k4,k5,k6,k3⟩:=iF hc (i+1) ks ms vs q2 hv' D4 cv
      have one:∃us:List Value,(bif k.agg then v= .agg us.toArray else us=[v])∧∃FO,iW w k.bA ts q1.1 us FO∧(∀b∈FO,∃id∈q1.2,∃o,h id=some o∧b∈al β id o)∧(q1.2.Nodup→FO.Nodup)∧
        (fJ ts=true→∀(w1:World) (ds:List DC) (mb:List Nat),aR w1 k.bA ts ds us mb→∀b∈mb,∃id∈q1.2,∃o,h id=some o∧b∈al β id o):=by
       cases hk:k.agg with
       | true=>
        generalize f i=s at aG dr
        cases s with
        | agg cs=>
         simp only[hk] at aG
         simp only[ak] at dr
         obtain⟨us,rfl,gk,bb⟩:=dr
         exact⟨us,rfl,dG hc k.bA ts cs us q1 gk aG⟩
        | _=>simp [hk] at aG
       | false=>
        generalize f i=s at aG dr
        have lv:(bt k.bA ts [s]).val f h=some q1:=by
         cases s<;>simp only[hk] at aG<;>first | exact aG | (simp at aG)
        have hO:af w (Av h β) β [s] [v]:=by simp only[af];exact⟨v,[],rfl,dr,rfl⟩
        exact⟨[v],rfl,dG hc k.bA ts [s] [v] q1 hO lv⟩
      obtain⟨us,gk,FO,r1,r3,r4,r2⟩:=one
      refine⟨im,FO++ψ,⟨some (.rows ts),ms,q1.1,q2.1,v,vs,[],im,FO,ψ,rfl,rfl,rfl,⟨us,gk,r1,rfl⟩,k1,rfl,rfl⟩,k2,fun h=>k4 (by simpa only[eY] using h),fun b hb=> ?_,fun hnd=> ?_,fun hnd w1 ds fp mb hm b hb=> ?_⟩
      ·rcases List.mem_append.1 hb with hb | hb
       ·obtain⟨j,hj,o,ho⟩:=r3 b hb
        exact⟨j,List.mem_append_left _ hj,o,ho⟩
       ·obtain⟨j,hj,o,ho⟩:=k5 b hb
        exact⟨j,List.mem_append_right _ hj,o,ho⟩
      ·rw[List.nodup_append] at hnd
       obtain⟨n1,n2,n3⟩:=hnd
       rw[List.nodup_append]
       refine⟨r4 n1,k6 n2,fun b hb b' ax e=> ?_⟩
       subst e
       obtain⟨i1,JL,o1,GL,Gy⟩:=r3 b hb
       obtain⟨j,hj,o',d8,bo⟩:=k5 b ax
       exact hc.sep i1 j o1 o' (fun e=>n3 i1 JL j hj e) GL d8 b (ah (hc.ay _ _ GL) b Gy) (ah (hc.ay _ _ d8) b bo)
      simp only[ig,Bool.and_eq_true] at hnd
      simp only[cH] at hm
      obtain⟨m',D6,d1,d2,v',cK,f1,f2,b1,b2,e1,rfl,e2,ha,hm,rfl,rfl⟩:=hm
      simp only[List.cons.injEq] at e1 e2
      obtain⟨rfl,rfl⟩:=e1
      obtain⟨rfl,rfl⟩:=e2
      simp only[gm] at ha
      obtain⟨FN,BN,_,ha,_⟩:=ha
      have MG:FN=us:=by
       cases hk:k.agg with
       | true=>
        rw[hk] at gk BN
        simp only[cond_true] at gk BN
        rw[gk] at BN
        simp only[Value.agg.injEq] at BN
        simpa using (congrArg Array.toList BN).symm
       | false=>
        rw[hk] at gk BN
        simp only[cond_false] at gk BN
        rw[gk,BN.1]
      subst MG
      rcases List.mem_append.1 hb with hb | hb
      ·obtain⟨j,hj,o,ho⟩:=r2 hnd.1 w1 d1 b1 ha b hb
       exact⟨j,List.mem_append_left _ hj,o,ho⟩
      ·obtain⟨j,hj,o,ho⟩:=k3 hnd.2 w1 d2 f2 b2 hm b hb
       exact⟨j,List.mem_append_right _ hj,o,ho⟩
     | jz ts=>
      simp only[fv] at hq
      obtain⟨im,ψ,k1,k2,k4,k5,k6,k3⟩:=iF hc (i+1) ks ms vs q hv' D4 hq
      exact⟨im,ψ,⟨some (.jz ts),ms,[],q.1,v,vs,[],im,[],ψ,rfl,rfl,rfl,⟨rfl,rfl,rfl⟩,k1,rfl,rfl⟩,k2,fun h=>k4 (by simpa only[eY] using h),k5,k6,fun hnd=>by simp [ig] at hnd⟩
     | cI t ts=>
      simp only[fv,M.ix] at hq
      cases fj:f i with
      | ptr id off=>
       rw[fj] at hq dr
       cases off with
       | succ off=>simp at hq
       | zero=>
        simp only[M.aT,Option.bind_eq_some_iff] at hq
        obtain⟨ob,aK,hq⟩:=hq
        cases ob with
        | box t' cells=>
         simp only at hq
         cases kv:Nat.beq t' t
         ·simp [kv] at hq
         ·have kx:=Nat.eq_of_beq_eq_true kv
          subst kx
          simp only[kv,cond_true,M.ae,Option.bind_eq_some_iff,M.aa,Option.some.injEq] at hq
          obtain⟨q1,aG,q2,cv,rfl⟩:=hq
          obtain⟨im,ψ,k1,k2,k4,k5,k6,k3⟩:=iF hc (i+1) ks ms vs q2 hv' D4 cv
          obtain⟨us,g1,g2,g3,_⟩:=hc.ay id _ aK
          obtain⟨FO,r1,r2,r3⟩:=dT hc k.bA ts cells us q1 g2 aG
          simp only[ak] at dr
          refine⟨im,(β.cT id::FO)++ψ,⟨some (.cI t' ts),ms,q1.1,q2.1,v,vs,[],im,β.cT id::FO,ψ,rfl,rfl,rfl,⟨β.cT id,us,FO,dr,g1,g3,r1,rfl,rfl⟩,k1,rfl,rfl⟩,k2,fun h=>k4 (by simpa only[eY] using h),fun b hb=> ?_,fun hnd=> ?_,fun hnd=>by simp [ig] at hnd⟩
          ·simp only[List.cons_append,List.mem_cons,List.mem_append] at hb
           rcases hb with rfl | hb | hb
           ·exact⟨id,List.mem_cons_self ..,_,aK,by simp only[al];exact List.mem_singleton.2 rfl⟩
           ·obtain⟨j,hj,o,ho⟩:=r2 b hb
            exact⟨j,List.mem_cons_of_mem _ (List.mem_append_left _ hj),o,ho⟩
           ·obtain⟨j,hj,o,ho⟩:=k5 b hb
            exact⟨j,List.mem_cons_of_mem _ (List.mem_append_right _ hj),o,ho⟩
          ·simp only[List.nodup_cons,List.mem_append,not_or,List.nodup_append] at hnd
           obtain⟨⟨n1,n2⟩,n3,n4,n5⟩:=hnd
           have Af:∀j o',j≠id→h j=some o'→β.cT id ∉ al β j o':=by
            intro j o' hj d8 hb
            exact hc.sep id j _ o' (Ne.symm hj) aK d8 _ (ah (hc.ay _ _ aK) _ (by simp only[al];exact List.mem_singleton.2 rfl)) (ah (hc.ay _ _ d8) _ hb)
           rw[List.cons_append,List.nodup_cons,List.nodup_append]
           refine⟨fun hb=> ?_,r3 n3,k6 n4,fun b hb b' ax e=> ?_⟩
           ·rcases List.mem_append.1 hb with hb | hb
            ·obtain⟨j,hj,o,ho,bo⟩:=r2 _ hb
             exact Af j o (fun e=>n1 (e ▸ hj)) ho bo
            ·obtain⟨j,hj,o,ho,bo⟩:=k5 _ hb
             exact Af j o (fun e=>n2 (e ▸ hj)) ho bo
           ·subst e
            obtain⟨i1,JL,o1,GL,Gy⟩:=r2 b hb
            obtain⟨j,hj,o',d8,bo⟩:=k5 b ax
            exact hc.sep i1 j o1 o' (fun e=>n5 i1 JL j hj e) GL d8 b (ah (hc.ay _ _ GL) b Gy) (ah (hc.ay _ _ d8) b bo)
        | row _ _ _ _ _=>simp at hq
        | d_ _ _=>simp at hq
        | deep _ _ _ _ _=>simp at hq
      | _=>rw[fj] at hq;simp at hq
end
end Go.Proofs.YtoaflbnkiobhdaaGreat.Vm
set_option linter.unusedVariables false
set_option linter.unusedSimpArgs false
namespace Go.Proofs.YtoaflbnkiobhdaaGreat.Vm
structure EN where
 id:Nat
 o:aj
 cT:Nat
 val:Value
 φ:List Nat
 nb:List Nat
def EN.ok (w:World) (av:Nat→Prop) (β:Env) (x:EN):Prop:=fV w av β x.id x.o x.φ∧al β x.id x.o=x.φ
section
variable {P:Program} {Γ:Ctx} {A:List (Nat×lB)} {w:World} {i:Nat}
theorem cB:∀(j:Nat) (cs:List CT) (ts:List TT) (ds:List DC) (us:List Value) (mb:List Nat),aR w cs ts ds us mb→
  ∃E:List EN,(aE i j cs ts ds).2=E.map (fun x=>(x.id,x.o))∧E.flatMap (·.φ)=mb∧∀(av:Nat→Prop) (β:Env),(∀x∈E,β.cT x.id=x.cT∧β.val x.id=x.val∧β.nb x.id=x.nb)→
   af w av β (aE i j cs ts ds).1 us∧∀x∈E,x.ok w av β
 | j,[],ts,ds,us,mb,hm=>by
  simp only[aR] at hm
  obtain⟨rfl,rfl,rfl,rfl⟩:=hm
  exact⟨[],rfl,rfl,fun av β _=>⟨by simp [aE,af],by simp⟩⟩
 | j,.int k::cs,ts,ds,us,mb,hm=>by
  simp only[aR] at hm
  obtain⟨d,aX,v,aM,rfl,rfl,h1,hm⟩:=hm
  obtain⟨E,e1,e2,e3⟩:=cB (j+1) cs ts aX aM mb hm
  refine⟨E,by simpa only[aE,List.tail_cons] using e1,e2,fun av β hb=> ?_⟩
  obtain⟨k1,k2⟩:=e3 av β hb
  refine⟨?_,k2⟩
  simp only[aE,List.headD_cons,List.tail_cons,af]
  exact⟨v,aM,rfl,dc h1 (by simp),k1⟩
 | j,.bool::cs,ts,ds,us,mb,hm=>by
  simp only[aR] at hm
  obtain⟨d,aX,v,aM,rfl,rfl,h1,hm⟩:=hm
  obtain⟨E,e1,e2,e3⟩:=cB (j+1) cs ts aX aM mb hm
  refine⟨E,by simpa only[aE,List.tail_cons] using e1,e2,fun av β hb=> ?_⟩
  obtain⟨k1,k2⟩:=e3 av β hb
  refine⟨?_,k2⟩
  simp only[aE,List.headD_cons,List.tail_cons,af]
  exact⟨v,aM,rfl,dc h1 (by simp),k1⟩
 | j,.str::cs,ts,ds,us,mb,hm=>by
  simp only[aR] at hm
  obtain⟨d,aX,v,aM,rfl,rfl,h1,hm⟩:=hm
  obtain⟨E,e1,e2,e3⟩:=cB (j+1) cs ts aX aM mb hm
  refine⟨E,by simpa only[aE,List.tail_cons] using e1,e2,fun av β hb=> ?_⟩
  obtain⟨k1,k2⟩:=e3 av β hb
  refine⟨?_,k2⟩
  simp only[aE,List.headD_cons,List.tail_cons,af]
  exact⟨v,aM,rfl,dc h1 (by simp),k1⟩
 | j,.sl e::cs,ts,ds,us,mb,hm=>by
  simp only[aR] at hm
  obtain⟨t,dJ,rows,aX,v,aM,m1,ga,rfl,rfl,rfl,EE,hm,rfl⟩:=hm
  obtain⟨E,e1,e2,e3⟩:=cB (j+1) cs dJ aX aM ga hm
  have one:∃nb:List Nat,∀(av:Nat→Prop) (β:Env),β.val (pid i j)=v→β.nb (pid i j)=nb→fV w av β (pid i j) (eO t e rows) m1∧al β (pid i j) (eO t e rows)=m1:=by
   cases t with
   | flat t=>
    obtain⟨eB,vals,aA,h1,h2,rfl⟩:=EE
    refine⟨[],fun av β hv hn=>⟨⟨vals,aA,by rw[hv];exact h1,h2,by rw[gP eB h2];simp, ?_⟩, ?_⟩⟩
    ·rw[hv,gP eB h2]
     simp
    ·simp only[eO,al,hv]
   | deep t its=>
    obtain⟨vals,aS,h1,h2,rfl⟩:=EE
    exact⟨aS.flatten,fun av β hv hn=>⟨⟨vals,aS,by rw[hv];exact h1,h2,hn,by rw[hv]⟩,by simp only[eO,al,hv,hn]⟩⟩
  obtain⟨nb,one⟩:=one
  refine⟨⟨pid i j,eO t e rows,0,v,m1,nb⟩::E, ?_, ?_,fun av β hb=> ?_⟩
  ·simp only[aE,List.headD_cons,List.tail_cons,List.map_cons,e1,DC.cl]
  ·simp only[List.flatMap_cons,e2]
  ·obtain⟨k1,k2⟩:=e3 av β (fun x hx=>hb x (List.mem_cons_of_mem _ hx))
   have hv:=(hb _ (List.mem_cons_self ..)).2
   simp only at hv
   refine⟨?_,fun x hx=> ?_⟩
   ·simp only[aE,List.headD_cons,List.tail_cons,af]
    refine⟨v,aM,rfl, ?_,k1⟩
    simp only[ak]
    exact⟨hv.1.symm,EE.one⟩
   ·rcases List.mem_cons.1 hx with rfl | hx
    ·exact one av β hv.1 hv.2
    ·exact k2 x hx
theorem gN.lt {t:TT} {e:List CT} {rows:List (List DC)} {v:Value} {mb:List Nat} (h:gN w t e rows v mb):∀b∈mb,b<w.heap.size:=by
 cases t with
 | flat t=>
  obtain⟨_,vals,aA,h1,_,rfl⟩:=h
  exact h1.lt
 | deep t its=>
  obtain⟨vals,aS,h1,h2,rfl⟩:=h
  intro b hb
  rcases List.mem_append.1 hb with hb | hb
  ·exact h1.lt b hb
  ·exact h2.lt b hb
theorem gN.reads {t:TT} {e:List CT} {rows:List (List DC)} {v:Value} {mb:List Nat} (h:gN w t e rows v mb):∃tt vals aA,ch w tt e.length false v rows.length vals∧dK w e rows vals aA:=by
 cases t with
 | flat t=>
  obtain⟨_,vals,aA,h1,h2,_⟩:=h
  exact⟨t,vals,aA,h1,h2⟩
 | deep t its=>
  obtain⟨vals,aS,h1,h2,_⟩:=h
  obtain⟨aA,h3,_⟩:=h2.reads
  exact⟨t,vals,aA,h1,h3⟩
theorem aR.length:∀(cs:List CT) (ts:List TT) (ds:List DC) (us:List Value) (mb:List Nat),aR w cs ts ds us mb→ds.length=cs.length
 | [],ts,ds,us,mb,h=>by simp only[aR] at h;simp [h.2.1]
 | .sl e::cs,ts,ds,us,mb,h=>by
  simp only[aR] at h
  obtain⟨t,dJ,rows,aX,v,aM,m1,ga,rfl,rfl,rfl,_,h,_⟩:=h
  simp [aR.length cs dJ aX aM ga h]
 | .int k::cs,ts,ds,us,mb,h=>by
  simp only[aR] at h
  obtain⟨d,aX,v,aM,rfl,rfl,_,h⟩:=h
  simp [aR.length cs ts aX aM mb h]
 | .bool::cs,ts,ds,us,mb,h=>by
  simp only[aR] at h
  obtain⟨d,aX,v,aM,rfl,rfl,_,h⟩:=h
  simp [aR.length cs ts aX aM mb h]
 | .str::cs,ts,ds,us,mb,h=>by
  simp only[aR] at h
  obtain⟨d,aX,v,aM,rfl,rfl,_,h⟩:=h
  simp [aR.length cs ts aX aM mb h]
theorem eD:∀(j:Nat) (cs:List CT) (ts:List TT) (d1 d2:List DC),cs.length≤d1.length→aE i j cs ts (d1++d2)=aE i j cs ts d1
 | _,[],_,_,_,_=>rfl
 | j,c::cs,ts,d1,d2,hl=>by
  cases d1 with
  | nil=>simp at hl
  | cons x d1=>
   have D4:cs.length≤d1.length:=by simpa using hl
   cases c<;>simp only[List.cons_append,aE,List.headD_cons,List.tail_cons]<;>rw[eD _ cs _ d1 d2 D4]
theorem Dl:∀(i:Nat) (ks:List AK) (ms:List (Option MK)) (ds:List DC) (vs:List Value) (fp mb:List Nat),cH w ks ms ds vs fp mb→
  ∃E:List EN,(cy i ks ms ds).2=E.map (fun x=>(x.id,x.o))∧E.flatMap (·.φ)=mb∧∀(av:Nat→Prop) (β:Env),(∀x∈E,β.cT x.id=x.cT∧β.val x.id=x.val∧β.nb x.id=x.nb)→(∀b∈fp,¬av b)→
   (∀n,je (cy i ks ms ds).1 n= .fA∨∃j v,n=i+j∧vs[j]? =some v∧ak w av β (je (cy i ks ms ds).1 n) v)∧∀x∈E,x.ok w av β
 | i,[],ms,ds,vs,fp,mb,hm=>by
  simp only[cH] at hm
  obtain⟨rfl,rfl,rfl,rfl,rfl⟩:=hm
  exact⟨[],rfl,rfl,fun av β _ _=>⟨fun n=> .inl rfl,by simp⟩⟩
 | i,k::ks,ms,ds,vs,fp,mb,hm=>by
  simp only[cH] at hm
  obtain⟨m,ms,d1,d2,v,vs,f1,f2,b1,b2,rfl,rfl,rfl,ha,hm,rfl,rfl⟩:=hm
  obtain⟨E,e1,e2,e3⟩:=Dl (i+1) ks ms d2 vs f2 b2 hm
  have step:∀(av:Nat→Prop) (β:Env) (s:SV) (l:List (Nat×SV)),(∀n,je l n= .fA∨∃j u,n=i+1+j∧vs[j]? =some u∧ak w av β (je l n) u)→ak w av β s v→
    ∀n,je ((i,s)::l) n= .fA∨∃j u,n=i+j∧(v::vs)[j]? =some u∧ak w av β (je ((i,s)::l) n) u:=by
   intro av β s l hl hs n
   simp only[je]
   cases hk:Nat.beq i n
   ·simp only[cond_false]
    rcases hl n with h3 | ⟨j,u,hn,hj,hu⟩
    ·exact .inl h3
    ·exact .inr ⟨j+1,u,by omega,by simpa using hj,hu⟩
   ·have:=Nat.eq_of_beq_eq_true hk
    subst this
    simp only[cond_true]
    exact .inr ⟨0,v,rfl,rfl,hs⟩
  cases m with
  | none=>
   simp only[gm] at ha
   obtain⟨ha,rfl⟩:=ha
   have hl:d1.length=k.bA.length:=by
    obtain⟨us,_,_,hr,_⟩:=ha
    exact a7.length _ _ _ _ hr
   have mQ:(d1++d2).drop k.bA.length=d2:=by rw[←hl,List.drop_left]
   refine⟨E,by simp only[cy,List.headD_cons,List.tail_cons,mQ,e1],by simpa using e2,fun av β hb Bm=> ?_⟩
   obtain⟨k1,k2⟩:=e3 av β hb (fun b hb=>Bm b (List.mem_append_right _ hb))
   refine⟨?_,k2⟩
   simp only[cy,List.headD_cons,List.tail_cons,mQ]
   refine step av β _ _ k1 ?_
   rw[iE _ _ _ _ (by omega)]
   exact Ed ha (fun b hb=>Bm b (List.mem_append_left _ hb))
  | some m=>
   cases m with
   | box t=>
    simp only[gm] at ha
    obtain⟨g,us,rfl,hg,bb,hr,MY,rfl⟩:=ha
    have hl:d1.length=k.bA.length:=a7.length _ _ _ _ hr
    have mQ:(d1++d2).drop k.bA.length=d2:=by rw[←hl,List.drop_left]
    refine⟨⟨pid i 0,.box t (cd k.bA d1 0),g,undef,[g],[]⟩::E, ?_,by simp [e2],fun av β hb Bm=> ?_⟩
    ·simp only[cy,List.headD_cons,List.tail_cons,mQ,e1,List.map_cons]
     rw[iE _ _ _ _ (by omega)]
    ·obtain⟨k1,k2⟩:=e3 av β (fun x hx=>hb x (List.mem_cons_of_mem _ hx)) (fun b hb=>Bm b (List.mem_append_right _ hb))
     have Af:=(hb _ (List.mem_cons_self ..)).1
     simp only at Af
     refine⟨?_,fun x hx=> ?_⟩
     ·simp only[cy,List.headD_cons,List.tail_cons,mQ]
      refine step av β _ _ k1 ?_
      simp only[ak,Af]
     ·rcases List.mem_cons.1 hx with rfl | hx
      ·obtain⟨cK,l1,l2,l3,l4⟩:=a7.bL (β:=β) (av:=av) hr (fun b hb=>Bm b (List.mem_append_left _ hb)) k.bA.length 0 (by omega)
       have ee:cK=us:=by
        apply List.ext_getElem?
        intro j
        by_cases hj:j<cK.length
        ·have:=l2 j cK[j] (by simp)
         simp only[Nat.zero_add] at this
         rw[this]
         simp
        ·rw[List.getElem?_eq_none (by omega),List.getElem?_eq_none (by omega)]
       subst ee
       simp only[List.drop_zero,List.take_length] at l3
       exact⟨⟨cK,by rw[Af];exact hg,l3,bb,by simp only[Af]⟩,by simp only[al,Af]⟩
      ·exact k2 x hx
   | rows ts=>
    simp only[gm] at ha
    obtain⟨us,gk,bb,kT,rfl⟩:=ha
    obtain⟨E1,a1,a2,a3⟩:=cB (i:=i) 0 k.bA ts d1 us b1 kT
    have hl:d1.length=k.bA.length:=aR.length _ _ _ _ _ kT
    have mQ:(d1++d2).drop k.bA.length=d2:=by rw[←hl,List.drop_left]
    have GD:aE i 0 k.bA ts (d1++d2)=aE i 0 k.bA ts d1:=eD _ _ _ _ _ (by omega)
    refine⟨E1++E, ?_,by simp [a2,e2],fun av β hb Bm=> ?_⟩
    ·simp only[cy,List.headD_cons,List.tail_cons,mQ,GD,e1,a1,List.map_append]
    ·obtain⟨k1,k2⟩:=e3 av β (fun x hx=>hb x (List.mem_append_right _ hx)) (fun b hb=>Bm b (by simpa using hb))
     obtain⟨c1,c2⟩:=a3 av β (fun x hx=>hb x (List.mem_append_left _ hx))
     refine⟨?_,fun x hx=> ?_⟩
     ·simp only[cy,List.headD_cons,List.tail_cons,mQ,GD]
      refine step av β _ _ k1 ?_
      cases hk:k.agg with
      | true=>
       rw[hk] at gk
       simp only[cond_true] at gk ⊢
       simp only[ak]
       exact⟨us,gk,c1,bb⟩
      | false=>
       rw[hk] at gk
       simp only[cond_false] at gk ⊢
       rw[gk.1] at c1
       generalize (aE i 0 k.bA ts d1).1=q at c1
       cases q with
       | nil=>simp [af] at c1
       | cons y l=>
        simp only[af] at c1
        obtain⟨v',l',e0,e5,_⟩:=c1
        injection e0 with e0
        subst e0
        simpa using e5
     ·rcases List.mem_append.1 hx with hx | hx
      ·exact c2 x hx
      ·exact k2 x hx
   | jz ts=>
    simp only[gm] at ha
    obtain⟨us,gk,bb,kT,rfl⟩:=ha
    obtain⟨E1,a1,a2,a3⟩:=cB (i:=i) 0 k.bA ts d1 us b1 kT
    have hl:d1.length=k.bA.length:=aR.length _ _ _ _ _ kT
    have mQ:(d1++d2).drop k.bA.length=d2:=by rw[←hl,List.drop_left]
    have GD:aE i 0 k.bA ts (d1++d2)=aE i 0 k.bA ts d1:=eD _ _ _ _ _ (by omega)
    refine⟨E1++E, ?_,by simp [a2,e2],fun av β hb Bm=> ?_⟩
    ·simp only[cy,List.headD_cons,List.tail_cons,mQ,GD,e1,a1,List.map_append]
    ·obtain⟨k1,k2⟩:=e3 av β (fun x hx=>hb x (List.mem_append_right _ hx)) (fun b hb=>Bm b (by simpa using hb))
     obtain⟨c1,c2⟩:=a3 av β (fun x hx=>hb x (List.mem_append_left _ hx))
     refine⟨?_,fun x hx=> ?_⟩
     ·simp only[cy,List.headD_cons,List.tail_cons,mQ,GD]
      refine step av β _ _ k1 ?_
      cases hk:k.agg with
      | true=>
       rw[hk] at gk
       simp only[cond_true] at gk ⊢
       simp only[ak]
       exact⟨us,gk,c1,bb⟩
      | false=>
       rw[hk] at gk
       simp only[cond_false] at gk ⊢
       rw[gk.1] at c1
       generalize (aE i 0 k.bA ts d1).1=q at c1
       cases q with
       | nil=>simp [af] at c1
       | cons y l=>
        simp only[af] at c1
        obtain⟨v',l',e0,e5,_⟩:=c1
        injection e0 with e0
        subst e0
        simpa using e5
     ·rcases List.mem_append.1 hx with hx | hx
      ·exact c2 x hx
      ·exact k2 x hx
   | cI t ts=>
    simp only[gm] at ha
    obtain⟨g,us,mm,rfl,hg,bb,kT,rfl,rfl⟩:=ha
    obtain⟨E1,a1,a2,a3⟩:=cB (i:=i) 0 k.bA ts d1 us mm kT
    have hl:d1.length=k.bA.length:=aR.length _ _ _ _ _ kT
    have mQ:(d1++d2).drop k.bA.length=d2:=by rw[←hl,List.drop_left]
    have GD:aE i 0 k.bA ts (d1++d2)=aE i 0 k.bA ts d1:=eD _ _ _ _ _ (by omega)
    refine⟨⟨pid i 62,.box t (aE i 0 k.bA ts d1).1,g,undef,[g],[]⟩::(E1++E), ?_,by simp [a2,e2],fun av β hb Bm=> ?_⟩
    ·simp only[cy,List.headD_cons,List.tail_cons,mQ,GD,e1,a1,List.map_append,List.map_cons]
    ·obtain⟨k1,k2⟩:=e3 av β (fun x hx=>hb x (List.mem_cons_of_mem _ (List.mem_append_right _ hx))) (fun b hb=>Bm b (by simpa using hb))
     obtain⟨c1,c2⟩:=a3 av β (fun x hx=>hb x (List.mem_cons_of_mem _ (List.mem_append_left _ hx)))
     have Af:=(hb _ (List.mem_cons_self ..)).1
     simp only at Af
     refine⟨?_,fun x hx=> ?_⟩
     ·simp only[cy,List.headD_cons,List.tail_cons,mQ,GD]
      refine step av β _ _ k1 ?_
      simp only[ak,Af]
     ·rcases List.mem_cons.1 hx with rfl | hx
      ·exact⟨⟨us,by rw[Af];exact hg,c1,bb,by simp only[Af]⟩,by simp only[al,Af]⟩
      ·rcases List.mem_append.1 hx with hx | hx
       ·exact c2 x hx
       ·exact k2 x hx
theorem aR.lt:∀(cs:List CT) (ts:List TT) (ds:List DC) (us:List Value) (mb:List Nat),aR w cs ts ds us mb→∀b∈mb,b<w.heap.size
 | [],ts,ds,us,mb,h=>by simp only[aR] at h;simp [h.2.2.2]
 | .sl e::cs,ts,ds,us,mb,h=>by
  simp only[aR] at h
  obtain⟨t,dJ,rows,aX,v,aM,m1,ga,rfl,rfl,rfl,h1,h,rfl⟩:=h
  intro b hb
  rcases List.mem_append.1 hb with hb | hb
  ·exact h1.lt b hb
  ·exact aR.lt cs dJ aX aM ga h b hb
 | .int k::cs,ts,ds,us,mb,h=>by
  simp only[aR] at h
  obtain⟨d,aX,v,aM,rfl,rfl,_,h⟩:=h
  exact aR.lt cs ts aX aM mb h
 | .bool::cs,ts,ds,us,mb,h=>by
  simp only[aR] at h
  obtain⟨d,aX,v,aM,rfl,rfl,_,h⟩:=h
  exact aR.lt cs ts aX aM mb h
 | .str::cs,ts,ds,us,mb,h=>by
  simp only[aR] at h
  obtain⟨d,aX,v,aM,rfl,rfl,_,h⟩:=h
  exact aR.lt cs ts aX aM mb h
theorem cH.facts:∀(ks:List AK) (ms:List (Option MK)) (ds:List DC) (vs:List Value) (fp mb:List Nat),cH w ks ms ds vs fp mb→(∀b∈mb,b<w.heap.size)∧(∀b∈fp,b<w.heap.size)∧vs.length=ks.length
 | [],ms,ds,vs,fp,mb,h=>by
  simp only[cH] at h
  obtain⟨_,_,rfl,rfl,rfl⟩:=h
  simp
 | k::ks,ms,ds,vs,fp,mb,h=>by
  simp only[cH] at h
  obtain⟨m,D6,d1,d2,v,cK,f1,f2,b1,b2,rfl,rfl,rfl,ha,h,rfl,rfl⟩:=h
  obtain⟨k1,k2,k3⟩:=cH.facts ks D6 d2 cK f2 b2 h
  have one:(∀b∈b1,b<w.heap.size)∧∀b∈f1,b<w.heap.size:=by
   cases m with
   | none=>
    simp only[gm] at ha
    obtain⟨⟨us,_,_,hr,_⟩,rfl⟩:=ha
    exact⟨by simp,a7.lt _ _ _ _ hr⟩
   | some m=>
    cases m with
    | box t=>
     simp only[gm] at ha
     obtain⟨g,us,_,hg,_,hr,_,rfl⟩:=ha
     refine⟨fun b hb=> ?_,a7.lt _ _ _ _ hr⟩
     simp only[List.mem_singleton] at hb
     subst hb
     exact (Array.getElem?_eq_some_iff.1 hg).1
    | rows ts=>
     simp only[gm] at ha
     obtain⟨us,_,_,kT,rfl⟩:=ha
     exact⟨aR.lt _ _ _ _ _ kT,by simp⟩
    | jz ts=>
     simp only[gm] at ha
     obtain⟨us,_,_,kT,rfl⟩:=ha
     exact⟨aR.lt _ _ _ _ _ kT,by simp⟩
    | cI t ts=>
     simp only[gm] at ha
     obtain⟨g,us,mm,_,hg,_,kT,rfl,rfl⟩:=ha
     refine⟨fun b hb=> ?_,by simp⟩
     rcases List.mem_cons.1 hb with rfl | hb
     ·exact (Array.getElem?_eq_some_iff.1 hg).1
     ·exact aR.lt _ _ _ _ _ kT b hb
  refine⟨fun b hb=> ?_,fun b hb=> ?_,by simp [k3]⟩
  ·rcases List.mem_append.1 hb with hb | hb
   ·exact one.1 b hb
   ·exact k1 b hb
  ·rcases List.mem_append.1 hb with hb | hb
   ·exact one.2 b hb
   ·exact k2 b hb
theorem lY {E:List EN} (h:(E.flatMap (·.φ)).Nodup):(∀x∈E,x.φ.Nodup)∧∀x∈E,∀y∈E,x≠y→∀b∈x.φ,b ∉ y.φ:=by
 induction E with
 | nil=>simp
 | cons z l ih=>
  rw[List.flatMap_cons,List.nodup_append] at h
  obtain⟨h1,h2,h3⟩:=h
  obtain⟨i1,i2⟩:=ih h2
  refine⟨fun x hx=> ?_,fun x hx y hy Am b hb ax=> ?_⟩
  ·rcases List.mem_cons.1 hx with rfl | hx
   ·exact h1
   ·exact i1 x hx
  ·rcases List.mem_cons.1 hx with BO | BO<;>rcases List.mem_cons.1 hy with BP | BP
   ·exact Am (BO.trans BP.symm)
   ·subst BO
    exact h3 b hb b (List.mem_flatMap.2 ⟨y,BP,ax⟩) rfl
   ·subst BP
    exact h3 b ax b (List.mem_flatMap.2 ⟨x,BO,hb⟩) rfl
   ·exact i2 x BO y BP Am b hb ax
theorem fl.count {w:World} :∀(BW:List RK) (ds:List DC) (vs:List Value) (φ im tp:List Nat),fl w BW ds vs φ im tp→ds.length=cg BW
 | [],ds,vs,φ,im,tp,h=>by simp only[fl] at h;simp [h.1,cg]
 | r::rs,ds,vs,φ,im,tp,h=>by
  simp only[fl] at h
  obtain⟨d1,d2,v,cK,us,DZ,Bi,i1,i2,t1,t2,rfl,rfl,_,_,h1,h2,_⟩:=h
  simp only[List.length_append,cg,di.length _ _ _ _ _ _ h1,fl.count rs d2 cK _ _ _ h2]
theorem aR.wt:∀(cs:List CT) (ts:List TT) (ds:List DC) (us:List Value) (mb:List Nat),aR w cs ts ds us mb→ka cs ds
 | [],ts,ds,us,mb,h=>by simp only[aR] at h;simp only[ka];exact h.2.1
 | .sl e::cs,ts,ds,us,mb,h=>by
  simp only[aR] at h
  obtain⟨t,dJ,rows,aX,v,aM,m1,ga,rfl,rfl,rfl,EE,h,_⟩:=h
  obtain⟨tt,vals,aA,h1,h2⟩:=EE.reads
  simp only[ka,G3]
  refine⟨_,_,rfl,⟨rows,rfl, ?_,fun r hr=> ?_⟩,aR.wt cs dJ aX aM ga h⟩
  ·rcases h1.2 with ⟨_,hn,_⟩ | ⟨g,cap,cur,_,_,h3,h4,_⟩
   ·rw[hn];exact Nat.zero_le _
   ·omega
  ·obtain⟨i,hi,rfl⟩:=List.getElem_of_mem hr
   have dQ:i<aA.length:=by have:=h2.1;omega
   exact a7.wt e _ _ _ (h2.2 i rows[i] aA[i] (by simp) (by simp [dQ]))
 | .int k::cs,ts,ds,us,mb,h=>by
  simp only[aR] at h
  obtain⟨d,aX,v,aM,rfl,rfl,h1,h⟩:=h
  simp only[ka]
  exact⟨d,aX,rfl,bV.wt _ _ _ _ h1,aR.wt cs ts aX aM mb h⟩
 | .bool::cs,ts,ds,us,mb,h=>by
  simp only[aR] at h
  obtain⟨d,aX,v,aM,rfl,rfl,h1,h⟩:=h
  simp only[ka]
  exact⟨d,aX,rfl,bV.wt _ _ _ _ h1,aR.wt cs ts aX aM mb h⟩
 | .str::cs,ts,ds,us,mb,h=>by
  simp only[aR] at h
  obtain⟨d,aX,v,aM,rfl,rfl,h1,h⟩:=h
  simp only[ka]
  exact⟨d,aX,rfl,bV.wt _ _ _ _ h1,aR.wt cs ts aX aM mb h⟩
theorem cH.wt:∀(ks:List AK) (ms:List (Option MK)) (ds:List DC) (vs:List Value) (fp mb:List Nat),cH w ks ms ds vs fp mb→ka (gV ks) ds
 | [],ms,ds,vs,fp,mb,h=>by
  simp only[cH] at h
  simp only[gV,ka]
  exact h.2.1
 | k::ks,ms,ds,vs,fp,mb,h=>by
  simp only[cH] at h
  obtain⟨m,D6,d1,d2,v,cK,f1,f2,b1,b2,rfl,rfl,rfl,ha,h,_⟩:=h
  refine ka.append ?_ (cH.wt ks D6 d2 cK f2 b2 h)
  cases m with
  | none=>
   simp only[gm] at ha
   obtain⟨⟨us,_,_,hr,_⟩,_⟩:=ha
   exact a7.wt _ _ _ _ hr
  | some m=>
   cases m with
   | box t=>
    simp only[gm] at ha
    obtain⟨g,us,_,_,_,hr,_⟩:=ha
    exact a7.wt _ _ _ _ hr
   | rows ts=>
    simp only[gm] at ha
    obtain⟨us,_,_,kT,_⟩:=ha
    exact aR.wt _ _ _ _ _ kT
   | jz ts=>
    simp only[gm] at ha
    obtain⟨us,_,_,kT,_⟩:=ha
    exact aR.wt _ _ _ _ _ kT
   | cI t ts=>
    simp only[gm] at ha
    obtain⟨g,us,mm,_,_,_,kT,_⟩:=ha
    exact aR.wt _ _ _ _ _ kT
def D5:List EN→Nat→Option EN
 | [],_=>none
 | x::l,i=>if i=x.id then some x else D5 l i
theorem jO {E:List EN} {j:Nat} {x:EN} (h:D5 E j=some x):x∈E∧x.id=j:=by
 induction E with
 | nil=>simp [D5] at h
 | cons y l ih=>
  simp only[D5] at h
  split at h
  ·rename_i hj
   injection h with h
   subst h
   exact⟨List.mem_cons_self ..,hj.symm⟩
  ·obtain⟨h1,h2⟩:=ih h
   exact⟨List.mem_cons_of_mem _ h1,h2⟩
theorem Fg {E:List EN} {x:EN} (hx:x∈E) (hn:(E.map (·.id)).Nodup):D5 E x.id=some x:=by
 induction E with
 | nil=>simp at hx
 | cons y l ih=>
  simp only[List.map_cons,List.nodup_cons] at hn
  simp only[D5]
  rcases List.mem_cons.1 hx with rfl | hx
  ·simp
  ·have:x.id≠y.id:=fun e=>hn.1 (e ▸ List.mem_map_of_mem hx)
   rw[if_neg this]
   exact ih hx hn.2
theorem BR {E:List EN} {j:Nat} {o:aj} (h:dE (E.map fun x=>(x.id,x.o)) j=some o):∃x,D5 E j=some x∧x.o=o:=by
 induction E with
 | nil=>simp [dE] at h
 | cons y l ih=>
  simp only[List.map_cons,dE] at h
  simp only[D5]
  cases hb:Nat.beq y.id j
  ·rw[hb] at h
   rw[if_neg (fun e=>Nat.ne_of_beq_eq_false hb e.symm)]
   exact ih h
  ·rw[hb] at h
   have:=Nat.eq_of_beq_eq_true hb
   subst this
   simp only[cond_true,Option.some.injEq] at h
   exact⟨y,by simp,h⟩
theorem De {fn:Func} {s:Sum} {st:St} {r:List DC} (h:mL P fn s st=(true,r)):st.ok=true:=by
 unfold mL at h
 split at h
 ·simp only[Prod.mk.injEq,Bool.and_eq_true] at h
  exact h.1.1.1
 ·exact absurd h bF
theorem Ad {fn:Func} {s:Sum} {st:St} {r:List DC} {w w':World} {ds:List DC} {vals:List Value} {fp mb:List Nat} {a:Act} (A0:shares s=false) (hm:cH w s.ps s.ms ds vals fp mb)
  (h:mL P fn s st=(true,r)) (hR:Rel w ⟨fun b=>b∈mb,fun b=>b<w.heap.size∧b ∉ fp∧b ∉ mb,(vals.zipIdx.filter (fun x=>Nat.blt x.2 (lx s.ms))).map (fun x=>(x.2,x.1))⟩ st a w'):
  a.defers=[]∧∃v,(results fn a.tmps).run P w'= .ok v w'∧∃vs φ im tp mI rd od ψ,Ending.returned v= .returned (pack vs)∧r=rd++od∧rd.length=cg s.rs∧Kept ⟨fun b=>b∈mb,fun _=>False,[]⟩ w w'∧fl w' s.rs rd vs φ im tp∧φ.Nodup∧
   (∀b∈φ,(b∈mb∨w.heap.size≤b)∧b<w'.heap.size)∧lO w' s.ps s.ms od vals mI ψ∧ψ.Nodup∧(∀b∈ψ,(b∈mb∨w.heap.size≤b)∧b<w'.heap.size∧b ∉ φ)∧∀b∈mI,(b∈fp∨w.heap.size≤b)∧b ∉ tp∧b ∉ ψ∧eY s.ms=false:=by
 obtain⟨_,_,A1⟩:=cH.facts _ _ _ _ _ _ hm
 unfold mL at h
 split at h
 case h_2=>exact absurd h bF
 rename_i rd own im od ids x hr
 simp only[Prod.mk.injEq,Bool.and_eq_true] at h
 obtain⟨⟨⟨_,aZ⟩,ES⟩,rfl⟩:=h
 obtain⟨β,φ,hc⟩:=hR.core
 have hval:=M.eA _ hr
 simp only[M.ae,Option.bind_eq_some_iff,M.aa,Option.some.injEq,Prod.mk.injEq] at hval
 obtain⟨ss,h1,q,h2,q2,h3,e1,e2⟩:=hval
 subst e1
 subst e2
 obtain⟨vs,g1,g2⟩:=iI hc _ _ h1
 obtain⟨φ',E9,Bh,k1,k2,k3,k4,k5⟩:=i7 hc _ _ _ _ g2 h2
 have Mk:∀(j:Nat) v m,vals[j]? =some v→s.ms[j]? =some (some m)→a.tmps.getD (0+j) undef=v:=by
  intro j v m hj hm
  have:=(hR.fx (j,v) (List.mem_map.2 ⟨(v,j),List.mem_filter.2 ⟨by rw[List.mem_zipIdx_iff_getElem?];exact hj,Nat.ble_eq_true_of_le (Dq hm)⟩,rfl⟩)).2
  simpa using this
 obtain⟨mI,ψ,o1,o2,o4,o5,o6,o3⟩:=iF hc 0 s.ps s.ms vals _ Mk A1 h3
 have hnd:=fu aZ
 rw[List.nodup_append] at hnd
 have Jn:∀b∈ψ,∀i∈own,∀o,st.obj i=some o→b ∉ φ i:=by
  intro b hb i hi o Ch me
  obtain⟨id,dR,o',d8,jD⟩:=o5 b hb
  have cJ:i≠id:=fun e=>hnd.2.2 i hi id dR e
  exact absurd (ah (hc.ay _ _ d8) b jD) (hc.sep i id o o' cJ Ch d8 b me)
 have HK:∀b∈ψ,b ∉ φ':=by
  intro b hb fE
  obtain⟨i,hi,⟨o,Ch⟩,me⟩:=k2 b fE
  exact Jn b hb i hi o Ch me
 have Jm:∀b∈ψ,Av st.obj β b:=fun b hb=>by
  obtain⟨id,dR,o',d8,jD⟩:=o5 b hb
  exact .inl ⟨id,o',d8,jD⟩
 have AV:∀b∈mI,b<w.heap.size→b ∉ fp→False:=by
  intro b hb cm hf
  rcases Bool.or_eq_true_iff.1 ES with Kw | Kw
  ·have GH:∀b∈mb,∃id∈ids,∃o,st.obj id=some o∧b∈al β id o:=o3 Kw w ds fp mb hm
   have cO:=o2 b hb
   have IZ:b ∉ mb:=fun Is=>by
    obtain⟨id,dR,o',d8,jD⟩:=GH b Is
    exact cO (.inl ⟨id,o',d8,jD⟩)
   refine absurd (.inr ?_) cO
   rw[hc.bars]
   exact⟨cm,hf,IZ⟩
  ·rw[o4 Kw] at hb
   simp at hb
 refine⟨hR.defers,pack vs,la g1,vs,φ',E9,Bh,mI,rd,od,ψ,rfl,rfl,fl.count _ _ _ _ _ _ k1,⟨hR.kept.os,hR.kept.tape,hR.kept.output,hR.kept.size,hR.kept.block⟩,k1,k4 hnd.1, ?_,o1,o6 hnd.2.1, ?_, ?_⟩
 ·intro b hb
  obtain⟨i,hi,⟨o,Ch⟩,me⟩:=k2 b hb
  have hf:=(hc.fresh i o Ch).2 b me
  exact⟨hf.1.symm,hf.2⟩
 ·intro b hb
  obtain⟨id,dR,o',d8,jD⟩:=o5 b hb
  have hf:=(hc.fresh id o' d8).2 b (ah (hc.ay _ _ d8) b jD)
  exact⟨hf.1.symm,hf.2,HK b hb⟩
 ·intro b hb
  have cO:=o2 b hb
  refine⟨?_,fun jD=> ?_,fun Kb=>cO (Jm b Kb), ?_⟩
  ·by_cases cm:b<w.heap.size
   ·by_cases hf:b∈fp
    ·exact .inl hf
    ·exact (AV b hb cm hf).elim
   ·exact .inr (by omega)
  ·obtain⟨j,oj,_,hj,bo⟩:=k3 b jD
   exact cO (.inl ⟨j,oj,hj,bo⟩)
  ·cases jn:eY s.ms with
   | false=>rfl
   | true=>
    rw[o4 jn] at hb
    simp at hb
theorem FI (eV:bE P Γ) {g:Nat} {fn:Func} {s:Sum} (hf:P.funcs[g]? =some fn) (Hg:fn.body.isSome=true) (hn:(fn.name== "runtime.NumGoroutine")=false) (hlen:s.ps.length≤fn.ntmps) (GK:fn.ntmps<1099511627776)
  (A0:shares s=false) (dR:∀ds,eW ((cy 0 s.ps s.ms ds).2.map (·.1))=true)
  (h:∀ds,ka (gV s.ps) ds→(s.fn ds).1=true→∃N,GY P Γ A N fn s ds=(true,(s.fn ds).2)):Cl P g s:=by
 refine⟨⟨fn,hf,Hg,hn⟩,fun w ds vals fp mb cu IM KD aJ=> ?_⟩
 obtain⟨N,bp⟩:=h ds (cH.wt _ _ _ _ _ _ cu) aJ
 obtain⟨c,hc⟩:=Option.isSome_iff_exists.1 Hg
 unfold GY at bp
 rw[hc] at bp
 simp only at bp
 obtain⟨KF,Mj,A1⟩:=cH.facts _ _ _ _ _ _ cu
 refine calls_of_wp hf hc ?_
 let S:Own:=⟨fun b=>b∈mb,fun b=>b<w.heap.size∧b ∉ fp∧b ∉ mb,(vals.zipIdx.filter (fun x=>Nat.blt x.2 (lx s.ms))).map (fun x=>(x.2,x.1))⟩
 obtain⟨E,e1,e2,e3⟩:=Dl 0 s.ps s.ms ds vals fp mb cu
 have Kq:(E.map (·.id)).Nodup:=by
  have:=fu (dR ds)
  rw[e1,List.map_map] at this
  exact this
 let β:Env:=⟨fun j=>match D5 E j with | some x=>x.cT | none=>0,fun j=>match D5 E j with | some x=>x.val | none=>undef,S.gH,fun j=>match D5 E j with | some x=>x.nb | none=>[]⟩
 have gl:∀x∈E,β.cT x.id=x.cT∧β.val x.id=x.val∧β.nb x.id=x.nb:=by
  intro x hx
  simp only[β,Fg hx Kq,and_self]
 have E8:∀x∈E,∀b∈x.φ,b∈mb:=fun x hx b hb=>by rw[←e2];exact List.mem_flatMap.2 ⟨x,hx,hb⟩
 have Aj:∀x∈E,al β x.id x.o=x.φ:=fun x hx=>((e3 (fun _=>False) β gl (fun _ _ h=>h)).2 x hx).2
 have Hx:∀b∈fp,¬Av (dE (cy 0 s.ps s.ms ds).2) β b:=by
  rintro b hb (⟨j,o,ho,jD⟩ | hx)
  ·rw[e1] at ho
   obtain⟨x,hx,rfl⟩:=BR ho
   obtain⟨hm,rfl⟩:=jO hx
   rw[Aj x hm] at jD
   exact KD b (E8 x hm b jD) hb
  ·exact hx.2.1 hb
 obtain⟨kt,aK⟩:=e3 (Av (dE (cy 0 s.ps s.ms ds).2) β) β gl Hx
 have hR:Rel w S {n:=fn.ntmps+lx s.ms*1099511627776,sl:=(cy 0 s.ps s.ms ds).1,hp:=(cy 0 s.ps s.ms ds).2,ok:=true,ls:=[],lm:=[]} {tmps:=vals.toArray++Array.replicate (fn.ntmps - vals.toArray.size) undef,defers:=[]} w:=by
  have mR:∀(j:Nat) v,vals[j]? =some v→(vals.toArray++Array.replicate (fn.ntmps - vals.toArray.size) undef).getD j undef=v:=by
   intro j v hj
   have Hs:j<vals.length:=(List.getElem?_eq_some_iff.1 hj).1
   rw[Array.getD_eq_getD_getElem?,Array.getElem?_append_left (by simp;omega)]
   simp [hj]
  refine⟨by simp;omega, ?_,rfl,⟨rfl,rfl,rfl,Nat.le_refl _,fun _ _ _=>rfl⟩,β,fun j=>match D5 E j with | some x=>x.φ | none=>[], ?_⟩
  ·intro x hx
   obtain⟨⟨v,j⟩,Jf,rfl⟩:=List.mem_map.1 hx
   obtain⟨Jf,Ky⟩:=List.mem_filter.1 Jf
   have Ky:j<lx s.ms:=Nat.le_of_ble_eq_true Ky
   rw[List.mem_zipIdx_iff_getElem?] at Jf
   have Hs:j<vals.length:=(List.getElem?_eq_some_iff.1 Jf).1
   exact⟨by simp only;omega,mR j v Jf⟩
  ·refine⟨fun i=> ?_,fun id o ho=> ?_,fun id o ho=> ?_,fun i j oi oj cJ hi hj b hb=> ?_,fun b hb=>⟨hb.1,hb.2.2⟩,rfl⟩
   ·rcases kt i with h1 | ⟨j,v,hi,hj,hs⟩
    ·show ak w _ _ (je (cy 0 s.ps s.ms ds).1 i) _
     rw[h1]
     simp [ak]
    ·have:i=j:=by omega
     subst this
     rw[mR i v hj]
     exact hs
   ·have d8:dE (cy 0 s.ps s.ms ds).2 id=some o:=ho
    rw[e1] at d8
    obtain⟨x,hx,rfl⟩:=BR d8
    obtain⟨hm,rfl⟩:=jO hx
    simp only[hx]
    exact (aK x hm).1
   ·have d8:dE (cy 0 s.ps s.ms ds).2 id=some o:=ho
    rw[e1] at d8
    obtain⟨x,hx,rfl⟩:=BR d8
    obtain⟨hm,rfl⟩:=jO hx
    simp only[hx]
    refine⟨?_,fun b hb=>⟨.inr (E8 x hm b hb),KF b (E8 x hm b hb)⟩⟩
    exact (lY (E:=E) (by rw[e2];exact IM)).1 x hm
   ·have dQ:dE (cy 0 s.ps s.ms ds).2 i=some oi:=hi
    have f9:dE (cy 0 s.ps s.ms ds).2 j=some oj:=hj
    rw[e1] at dQ f9
    obtain⟨x,hx,rfl⟩:=BR dQ
    obtain⟨y,hy,rfl⟩:=BR f9
    simp only[hx] at hb
    simp only[hy]
    have Jh:=jO hx
    have JU:=jO hy
    have Am:x≠y:=by
     rintro rfl
     exact cJ (Jh.2.symm.trans JU.2)
    exact (lY (E:=E) (by rw[e2];exact IM)).2 x Jh.1 y JU.1 Am b hb
 refine cM (r:=(s.fn ds).2) eV c _ {eQ:=mL P fn s,ext:=fun _ _=>kd,ret:=mL P fn s} _ w _ ⟨fun st hP=>De hP,fun i st hP=>absurd hP bF,fun st hP=>De hP⟩ hR bp ⟨?_, ?_, ?_⟩
 ·intro st a w' eS hP
  exact Ad A0 cu hP eS
 ·intro i st a w' _ hP
  exact absurd hP bF
 ·intro st a w' eS hP
  exact Ad A0 cu hP eS
end
end Go.Proofs.YtoaflbnkiobhdaaGreat.Vm
namespace Go.Proofs.YtoaflbnkiobhdaaGreat.Vm
def Lj (P:Program) (Γ:Ctx) (A:List (Nat×lB)) (N:Nat) (fn:Func) (s:Sum) (p:List Bool) (is:List (St→kK)) (ih:St→kK) (st:St):kK:=
 match fn.body with
 | some c=>match focus P Γ A N p is c {eQ:=mL P fn s,ext:=fun _ _=>kd,ret:=mL P fn s} with
  | (.loop a,K)=>match (dq a).bind (Jp A) with
   | some an=>run P Γ A N a st {eQ:=fun s'=>ih (canon P an s'),ext:=K.ext,ret:=K.ret}
   | none=>kd
  | _=>kd
 | none=>kd
end Go.Proofs.YtoaflbnkiobhdaaGreat.Vm
