/- The value machine: runs, loops, contracts out of runs. Conditions: as each lemma says. -/
import Derived.Test.YtnlkklmcfafgeaaGreatVc
import Derived.LoopN
set_option linter.unusedVariables false
set_option linter.unusedSimpArgs false
namespace Go.Proofs.YtnlkklmcfafgeaaGreat.Vm
section
variable {P:Program} {Γ:Ctx} {w0:World} {S:Own} {ops:Array Oper} {gs:List Nat}
theorem gA {i:Nat} :∀ {l m:List Nat},i∈ix l m→i∈l∨i∈m
 | [],m,h=> .inr h
 | k::l,m,h=>by
  simp only[ix] at h
  cases hk:ie k m
  ·simp only[hk,cond_false,List.mem_cons] at h
   rcases h with rfl | h
   ·exact .inl (List.mem_cons_self ..)
   ·exact (gA h).imp (List.mem_cons_of_mem _) id
  ·simp only[hk,cond_true] at h
   exact (gA h).imp (List.mem_cons_of_mem _) id
def lO (ops:Array Oper) (L:Nat→Bool) (k:Nat):Prop:=∀o,ops[k]? =some o→∀e∈o.after,Region.binds .any e=true→L e.on=true
theorem km {acc:List (List Nat)} {j:Nat} :∀(l:List Edge),j∈l.foldr (fun e r=>bif Region.binds .any e then ix (ix [e.on] (acc.getD e.on [])) r else r) []→
  ∃e∈l,Region.binds .any e=true∧(j=e.on∨j∈acc.getD e.on [])
 | [],h=>by simp at h
 | e::l,h=>by
  simp only[List.foldr_cons] at h
  cases hb:Region.binds .any e
  ·simp only[hb,cond_false] at h
   obtain⟨x,hx,h1⟩:=km l h
   exact⟨x,List.mem_cons_of_mem _ hx,h1⟩
  ·simp only[hb,cond_true] at h
   rcases gA h with h | h
   ·refine⟨e,List.mem_cons_self ..,hb, ?_⟩
    rcases gA h with h | h
    ·exact .inl (by simpa using h)
    ·exact .inr h
   ·obtain⟨x,hx,h1⟩:=km l h
    exact⟨x,List.mem_cons_of_mem _ hx,h1⟩
theorem Ab {L:Nat→Bool} (Bp:∀k,L k=true→lO ops L k):∀(l:List Oper) (acc:List (List Nat)) (pre:List Oper),ops.toList=pre++l→acc.length=pre.length→
  (∀k j,lO ops L k→j∈acc.getD k []→L j=true)→∀k j,lO ops L k→j∈(Cr l acc).getD k []→L j=true
 | [],acc,pre,_,_,h=>by simpa [Cr] using h
 | o::l,acc,pre,I8,hlen,h=>by
  rw[Cr]
  refine Ab Bp l _ (pre++[o]) (by simp [I8]) (by simp [hlen]) ?_
  intro k j hk hj
  rcases Nat.lt_trichotomy k acc.length with cr | heq | F1
  ·refine h k j hk ?_
   rw[List.getD_eq_getElem?_getD,List.getElem?_append_left cr] at hj
   rwa [List.getD_eq_getElem?_getD]
  ·subst heq
   rw[List.getD_eq_getElem?_getD,List.getElem?_append_right (Nat.le_refl _)] at hj
   simp only[Nat.sub_self,List.getElem?_cons_zero,Option.getD_some] at hj
   obtain⟨e,he,hb,hj⟩:=km _ hj
   have ho:ops[acc.length]? =some o:=by
    rw[←Array.getElem?_toList,I8,hlen]
    simp
   have hL:=hk o ho e (by simpa using he) hb
   rcases hj with rfl | hj
   ·exact hL
   ·exact h e.on j (Bp _ hL) hj
  ·rw[List.getD_eq_getElem?_getD,List.getElem?_eq_none (by simp;omega)] at hj
   simp at hj
theorem jx:∀(l:List Oper) (i:Nat),gu l i=true→∀k o,l[k]? =some o→∀e∈o.after,Region.binds .any e=true→e.on<i+k
 | [],_,_,k,o,h,_,_,_=>by simp at h
 | x::l,i,h,k,o,hk,e,he,hb=>by
  simp only[gu,Bool.and_eq_true,List.all_eq_true] at h
  cases k with
  | zero=>
   simp only[List.getElem?_cons_zero,Option.some.injEq] at hk
   subst hk
   have:=h.1 e (by simpa using he)
   rw[hb] at this
   simp only[Bool.not_true,Bool.false_or] at this
   exact Nat.le_of_ble_eq_true this
  | succ k=>
   simp only[List.getElem?_cons_succ] at hk
   have:=jx l (i+1) h.2 k o hk e he hb
   omega
theorem jX {an:List (List Nat)} {a:cx} :∀(l:List cx),lN an a l=true→∀b∈l,(dG a b=true→a.i∈an.getD b.i [])∧ki b a=false
 | [],_=>by simp
 | c::l,h=>by
  simp only[lN,Bool.and_eq_true,Bool.not_eq_true'] at h
  intro b hb
  rcases List.mem_cons.1 hb with rfl | hb
  ·refine⟨fun hc=> ?_,h.1.2⟩
   have:=h.1.1
   rw[hc] at this
   simp only[Bool.not_true,Bool.false_or] at this
   exact gf.1 this
  ·exact jX l h.2 b hb
theorem lR {an:List (List Nat)} :∀(l:List cx),lQ an l=true→l.Pairwise (fun a b=>(dG a b=true→a.i∈an.getD b.i [])∧ki b a=false)
 | [],_=> .nil
 | a::l,h=>by
  simp only[lQ,Bool.and_eq_true] at h
  exact .cons (jX l h.1) (lR l h.2)
theorem fW {l m:List Nat} {i:Nat} (h1:i∈l) (h2:i∈m):fV l m=true:=by
 induction m with
 | nil=>simp at h2
 | cons k m ih=>
  simp only[fV,Bool.or_eq_true]
  rcases List.mem_cons.1 h2 with rfl | h2
  ·exact .inl (gf.2 h1)
  ·exact .inr (ih h2)
theorem iq {rest:List Oper} {st:St} {l:List PS} {fin:St} (h:Path P Γ ops gs rest 0 st l fin) {p:PS} (hp:p∈l):l[p.i]? =some p∧rest[p.i]? =some p.o∧p.i<rest.length:=by
 obtain⟨k,hk,rfl⟩:=List.getElem_of_mem hp
 have h1:=(cv h).1
 have h2:=(cv h).2.1
 have hl:l.length=rest.length:=by rw[←h2];simp
 have e:l[k].i=k:=by
  have:(l.map (·.i))[k]? =(List.range' 0 rest.length)[k]? :=by rw[h1]
  rw[List.getElem?_map,List.getElem?_eq_getElem hk,List.getElem?_range' (by omega)] at this
  simpa using this
 rw[e]
 refine⟨List.getElem?_eq_getElem hk, ?_,by omega⟩
 rw[←h2,List.getElem?_map,List.getElem?_eq_getElem hk]
 rfl
theorem kB {rest:List Oper} {st:St} {l:List PS} {fin:St} {an:List (List Nat)} (h:Path P Γ ops gs rest 0 st l fin) (Cw:lQ an (l.map (·.log))=true) {p q:PS} (hp:p∈l) (hq:q∈l) (cr:p.i<q.i):
  (dG p.log q.log=true→p.i∈an.getD q.i [])∧ki q.log p.log=false:=by
 have Jd:=List.pairwise_map.1 (lR _ Cw)
 have gp:=(iq h hp).1
 have gq:=(iq h hq).1
 rw[List.pairwise_iff_getElem] at Jd
 have lp:=(List.getElem?_eq_some_iff.1 gp).1
 have lq:=(List.getElem?_eq_some_iff.1 gq).1
 have:=Jd p.i q.i lp lq cr
 rw[(List.getElem?_eq_some_iff.1 gp).2,(List.getElem?_eq_some_iff.1 gq).2] at this
 have ei:=((cv h).2.2 p hp).1
 have ej:=((cv h).2.2 q hq).1
 rw[ei,ej] at this
 exact this
theorem Ba {p:PS} (hs:iY P Γ ops p) {id:Nat} (ht:p.tH id):id∈p.log.wo:=by
 rcases hs with ⟨_,he,_,_⟩ | ⟨_,e,s,r,hr,_,hl,he⟩
 ·rw[PS.tH,he] at ht
  simp at ht
 ·rw[hl]
  simp only[bJ,hr]
  have h1:p.e.ow=e.ow∧p.e.cw=e.cw:=by
   rcases he with rfl | ⟨d,g,_,_,he⟩
   ·exact⟨rfl,rfl⟩
   ·rw[he];exact⟨rfl,rfl⟩
  rw[PS.tH,h1.1,h1.2] at ht
  rcases ht with ht | ⟨off,bO,hc⟩
  ·exact List.mem_append_right _ ht
  ·rw[hc]
   exact List.mem_append_left _ (List.mem_singleton.2 rfl)
theorem HY {p:PS} (hs:iY P Γ ops p) {j:Nat} (hj:j∈bX p.e.sv):j∈p.log.m:=by
 rcases hs with ⟨_,he,_,_⟩ | ⟨_,e,s,r,hr,_,hl,he⟩
 ·rw[he] at hj
  simp [bX] at hj
 ·rw[hl]
  simp only[bJ,hr]
  rcases he with rfl | ⟨d,g,_,_,he⟩
  ·exact List.mem_append_left _ hj
  ·rw[he] at hj
   simp [bX] at hj
theorem Gk {ow:List (Nat×Option aj)} {id:Nat} {x:Option aj} (h:Gj ow id=some x):(id,x)∈ow:=by
 induction ow with
 | nil=>simp [Gj] at h
 | cons y l ih=>
  obtain⟨i,ob⟩:=y
  simp only[Gj] at h
  split at h
  ·rename_i hi
   subst hi
   simp only[Option.some.injEq] at h
   subst h
   exact List.mem_cons_self ..
  ·exact List.mem_cons_of_mem _ (ih h)
theorem HX {p:PS} (hs:iY P Γ ops p) {id:Nat} {ob:aj} (hj:(id,some ob)∈p.e.ow):id∈p.log.m∧∀j∈cF ob,j∈p.log.m:=by
 rcases hs with ⟨_,he,_,_⟩ | ⟨_,e,s,r,hr,_,hl,he⟩
 ·rw[he] at hj
  simp at hj
 ·rw[hl]
  simp only[bJ,hr]
  have h1:p.e.ow=e.ow:=by
   rcases he with rfl | ⟨d,g,_,_,he⟩
   ·rfl
   ·rw[he]
  rw[h1] at hj
  unfold Cv
  constructor
  ·exact List.mem_append_right _ (List.mem_append_right _ (List.mem_flatMap.2 ⟨_,hj,List.mem_cons_self ..⟩))
  ·intro j f_
   exact List.mem_append_right _ (List.mem_append_right _ (List.mem_flatMap.2 ⟨_,hj,List.mem_cons_of_mem _ f_⟩))
theorem HW {p:PS} (hs:iY P Γ ops p) {i off:Nat} {bO:List SV} (hc:p.e.cw=some (i,off,bO)):∀j∈bU bO,j∈p.log.m:=by
 rcases hs with ⟨_,he,_,_⟩ | ⟨_,e,s,r,hr,_,hl,he⟩
 ·rw[he] at hc
  simp at hc
 ·rw[hl]
  simp only[bJ,hr]
  have h1:p.e.cw=e.cw:=by
   rcases he with rfl | ⟨d,g,_,_,he⟩
   ·rfl
   ·rw[he]
  rw[h1] at hc
  intro j hj
  unfold Cv
  refine List.mem_append_right _ (List.mem_append_left _ ?_)
  rw[hc]
  exact hj
theorem fS (a b:List SV):bU (a++b)=bU a++bU b:=by
 induction a with
 | nil=>rfl
 | cons x a ih=>simp [bU,ih]
theorem Cd {a:List SV} {n j:Nat} (h:j∈bU (a.take n)):j∈bU a:=by
 have:=List.take_append_drop n a
 rw[←this,fS]
 exact List.mem_append_left _ h
theorem Cc {a:List SV} {n j:Nat} (h:j∈bU (a.drop n)):j∈bU a:=by
 have:=List.take_append_drop n a
 rw[←this,fS]
 exact List.mem_append_right _ h
def Ef (ds:List Nat) (L:Nat→Bool) (l:List PS) (j:Nat):Prop:=j / 64 ∉ ds∨∃p∈l,L p.i=true∧j∈p.log.m
theorem me {ds:List Nat} {L:Nat→Bool} {s:Nat} :∀(l l0:List PS) (v:SV),(∀p∈l,iY P Γ ops p)→(∀p∈l,p∈l0)→(∀j∈bX v,Ef ds L l0 j)→∀j∈bX (kP L l s v),Ef ds L l0 j
 | [],_,v,_,_,hv=>hv
 | p::l,l0,v,hs,hY,hv=>by
  unfold kP
  simp only[List.foldl_cons]
  refine me l l0 _ (fun q hq=>hs q (List.mem_cons_of_mem _ hq)) (fun q hq=>hY q (List.mem_cons_of_mem _ hq)) ?_
  intro j hj
  split at hj
  ·rename_i hL
   unfold PS.f at hj
   split at hj
   ·exact .inr ⟨p,hY p (List.mem_cons_self ..),hL,HY (hs p (List.mem_cons_self ..)) hj⟩
   ·exact hv j hj
  ·exact hv j hj
def Eg (ds:List Nat) (L:Nat→Bool) (l:List PS) (id:Nat) (o:Option aj):Prop:=∀ob,o=some ob→Ef ds L l id∧∀j∈cF ob,Ef ds L l j
theorem mf {ds:List Nat} {L:Nat→Bool} {id:Nat} :∀(l l0:List PS) (v:Option aj),(∀p∈l,iY P Γ ops p)→(∀p∈l,p∈l0)→Eg ds L l0 id v→Eg ds L l0 id (kQ L l id v)
 | [],_,v,_,_,hv=>hv
 | p::l,l0,v,hs,hY,hv=>by
  unfold kQ
  simp only[List.foldl_cons]
  refine mf l l0 _ (fun q hq=>hs q (List.mem_cons_of_mem _ hq)) (fun q hq=>hY q (List.mem_cons_of_mem _ hq)) ?_
  split
  ·rename_i hL
   have lI:=hs p (List.mem_cons_self ..)
   have kr:=hY p (List.mem_cons_self ..)
   unfold PS.h
   split
   ·rename_i x hx
    rintro ob rfl
    have:=HX lI (Gk hx)
    exact⟨.inr ⟨p,kr,hL,this.1⟩,fun j hj=> .inr ⟨p,kr,hL,this.2 j hj⟩⟩
   ·unfold Ex
    split
    ·rename_i i off bO jG
     split
     ·split
      ·rename_i t cells
       rintro ob aK
       simp only[Option.some.injEq] at aK
       subst aK
       have h0:=hv _ rfl
       refine⟨h0.1,fun j hj=> ?_⟩
       simp only[cF,cI,fS,List.mem_append] at hj
       rcases hj with hj | hj | hj
       ·exact h0.2 j (Cd hj)
       ·exact .inr ⟨p,kr,hL,HW lI jG j hj⟩
       ·exact h0.2 j (Cc hj)
      ·exact hv
     ·exact hv
    ·exact hv
  ·exact hv
theorem Eo {a b:cx} {s:Nat} (ha:a.d=some s) (hb:s∈b.rs):dG a b=true:=by
 have:fV (jW a.d) (b.rs++jW b.d)=true:=fW (i:=s) (by simp [ha,jW]) (List.mem_append_left _ hb)
 simp [dG,this]
theorem Em {a b:cx} {s:Nat} (ha:a.d=some s) (hb:b.d=some s):dG a b=true:=by
 have:fV (jW a.d) (b.rs++jW b.d)=true:=fW (i:=s) (by simp [ha,jW]) (List.mem_append_right _ (by simp [hb,jW]))
 simp [dG,this]
theorem Er {a b:cx} {s:Nat} (ha:s∈a.rs) (hb:b.d=some s):dG a b=true:=by
 have:fV a.rs (jW b.d)=true:=fW (i:=s) ha (by simp [hb,jW])
 simp [dG,this]
theorem Et {a b:cx} {s:Nat} (ha:s∈a.wo) (hb:s∈b.wo):dG a b=true:=by
 have:fV a.wo (b.ro++b.wo)=true:=fW (i:=s) ha (List.mem_append_right _ hb)
 simp [dG,this]
theorem Es {a b:cx} {s:Nat} (ha:s∈a.wo) (hb:s∈b.ro):dG a b=true:=by
 have:fV a.wo (b.ro++b.wo)=true:=fW (i:=s) ha (List.mem_append_left _ hb)
 simp [dG,this]
theorem Ep {a b:cx} {s:Nat} (ha:s∈a.ro) (hb:s∈b.wo):dG a b=true:=by
 have:fV a.ro b.wo=true:=fW (i:=s) ha hb
 simp [dG,this]
theorem En {a b:cx} {j:Nat} (ha:a.d=some (j / 64)) (hb:j∈b.m):dG a b=true:=by
 have:(b.m.any fun i=>Nat.beq (i / 64) (j / 64))=true:=by
  simp only[List.any_eq_true]
  exact⟨j,hb,Nat.beq_refl _⟩
 unfold dG
 rw[ha]
 simp only[this,Bool.or_true]
theorem DJ {a b:cx} {j:Nat} (ha:b.d=some (j / 64)) (hb:j∈a.m):ki b a=true:=by
 unfold ki
 rw[ha]
 simp only[List.any_eq_true]
 exact⟨j,hb,Nat.beq_refl _⟩
theorem Ae {p q:Nat→Bool} :∀(l:List Nat),(∀k∈l,q k=true→p k=true)→(∃k∈l,p k=true∧q k=false)→l.countP q<l.countP p
 | [],_,h=>by simp at h
 | x::l,h,⟨k,hk,hp,hq⟩=>by
  have hle:l.countP q≤l.countP p:=List.countP_mono_left (fun y hy MH=>h y (List.mem_cons_of_mem _ hy) MH)
  simp only[List.countP_cons]
  rcases List.mem_cons.1 hk with rfl | hk
  ·rw[hp,hq]
   simp
   omega
  ·have:=Ae l (fun y hy=>h y (List.mem_cons_of_mem _ hy)) ⟨k,hk,hp,hq⟩
   have hx:=h x (List.mem_cons_self ..)
   cases MG:q x
   ·simp;omega
   ·rw[hx MG];simp;omega
def H5 (ops:Array Oper) (listed:Array Bool):Nat:=(List.range ops.size).countP fun k=> !(listed.getD k true)
def JF (w0:World) (S:Own) (st:St) (l:List PS) (L:Nat→Bool) (a:Act) (w:World):Prop:=
 ∃lf:St,Rel w0 S lf a w∧lf.n=st.n∧(∀s,lf.get s=kP L l s (st.get s))∧∀id,lf.obj id=kQ L l id (st.obj id)
theorem Aj {α:Type} {step:PS→α→α} {T:PS→Prop} (dV:∀p v,¬T p→step p v=v) {L:Nat→Bool} {l:List PS} {p:PS} (v:α)
  (h1:∀q∈l,T q→q.i<p.i→L q.i=true) (h2:∀q∈l,T q→p.i<q.i→L q.i=false) (h3:L p.i=false):
  l.foldl (fun v q=>if L q.i then step q v else v) v=l.foldl (fun v q=>if decide (q.i<p.i) then step q v else v) v:=by
 refine fold_congr step T dV (L:=L) (L':=fun k=>decide (k<p.i)) l v (fun q hq ht=> ?_)
 rcases Nat.lt_trichotomy q.i p.i with cr | heq | F1
 ·rw[h1 q hq ht cr];simp [cr]
 ·rw[heq,h3];simp
 ·rw[h2 q hq ht F1];simp;omega
theorem mw {o:Oper} {d:Nat} :∀ {l:List Oper},o∈l→o.dst=some d→d∈ln l
 | [],hm,_=>by simp at hm
 | x::r,hm,Cl=>by
  simp only[ln]
  rcases List.mem_cons.1 hm with rfl | hm
  ·rw[Cl];exact List.mem_cons_self ..
  ·split
   ·exact List.mem_cons_of_mem _ (mw hm Cl)
   ·exact mw hm Cl
theorem Fz (eV:bH P Γ) {st:St} {l:List PS} {fin:St} (dH:Path P Γ ops gs ops.toList 0 st l fin) (Cw:lQ (Cr ops.toList []) (l.map (·.log))=true)
  (bP:eG (ln ops.toList) st=true) {L:Nat→Bool} (Bp:∀k,L k=true→lO ops L k) {p:PS} (hp:p∈l) (hg:lO ops L p.i) (hL:L p.i=false)
  {Q:Exit→Act→World→Prop} {a:Act} {w:World} (DP:JF w0 S st l L a w) {K:Act→World→Prop} (hK:∀a' w',JF w0 S st l (fun k=>L k || k==p.i) a' w'→K a' w'):wpOp P ops Q p.i K a w:=by
 obtain⟨lf,hR,hn,mS,hE⟩:=DP
 have kv:=CV dH
 have iD:=kZ dH
 have lI:=kv p hp
 have Iw:=Ab Bp ops.toList [] [] rfl rfl (by simp)
 have hd:∀q∈l,q.log.d=q.o.dst:=fun q hq=>((cv dH).2.2 q hq).2
 have hA:∀q∈l,q.i<p.i→dG q.log p.log=true→L q.i=true:=fun q hq cr hc=>Iw p.i q.i hg ((kB dH Cw hq hp cr).1 hc)
 have hB:∀q∈l,p.i<q.i→dG p.log q.log=true→L q.i=false:=by
  intro q hq cr hc
  cases H6:L q.i
  ·rfl
  ·have:=Iw q.i p.i (Bp _ H6) ((kB dH Cw hp hq cr).1 hc)
   rw[hL] at this
   cases this
 obtain⟨Mr,Ms,LF⟩:=iD.1 p hp
 have dw:∀s∈p.log.rs,lf.get s=p.st.get s:=by
  intro s hs
  rw[mS s,Mr s]
  refine Aj (step:=fun q v=>PS.f q s v) (T:=fun q=>q.tF s) (fun q v h=>PS.Im h v) _ (fun q hq ht cr=>hA q hq cr (Eo ((hd q hq).trans ht) hs)) (fun q hq ht cr=>hB q hq cr (Er hs ((hd q hq).trans ht))) hL
 have aK:∀id∈p.log.ro,lf.obj id=p.st.obj id:=by
  intro id hs
  rw[hE id,Ms id]
  refine Aj (step:=fun q v=>PS.h q id v) (T:=fun q=>q.tH id) (fun q v h=>PS.It h v) _ (fun q hq ht cr=>hA q hq cr (Es (Ba (kv q hq) ht) hs)) (fun q hq ht cr=>hB q hq cr (Ep hs (Ba (kv q hq) ht))) hL
 have hnd:(l.map (·.i)).Nodup:=by
  rw[(cv dH).1]
  exact List.nodup_range'
 have Jd:l.Pairwise (fun a b=>a.i<b.i):=by
  have:=List.pairwise_lt_range' (s:=0) (n:=ops.toList.length)
  rw[←(cv dH).1] at this
  exact List.pairwise_map.1 this
 have HT:∀s,kP (fun k=>L k || k==p.i) l s (st.get s)=p.f s (lf.get s):=by
  intro s
  rw[mS s]
  exact gY (fun q v=>PS.f q s v) (fun q=>q.tF s) (fun q v h=>PS.Im h v) (L:=L) (q:=p) l (st.get s) hp hnd hL Jd (fun q hq cr h1 h2=>hB q hq cr (Em ((hd p hp).trans h1) ((hd q hq).trans h2)))
 have HU:∀id,kQ (fun k=>L k || k==p.i) l id (st.obj id)=p.h id (lf.obj id):=by
  intro id
  rw[hE id]
  exact gY (fun q v=>PS.h q id v) (fun q=>q.tH id) (fun q v h=>PS.It h v) (L:=L) (q:=p) l (st.obj id) hp hnd hL Jd (fun q hq cr h1 h2=>hB q hq cr (Et (Ba lI h1) (Ba (kv q hq) h2)))
 have KY:ops[p.i]? =some p.o:=by
  rw[←Array.getElem?_toList]
  exact (iq dH hp).2.1
 have Mm:∀d,p.o.dst=some d→d∈ln ops.toList:=by
  intro d Cl
  have hm:p.o∈ops.toList:=List.mem_of_getElem? (iq dH hp).2.1
  exact mw hm Cl
 have Hw:f0 ops p.o ⊆ p.log.rs:=by
  rcases lI with ⟨_,_,_,hl⟩ | ⟨_,e,s,r,hr,_,hl,_⟩
  ·rw[hl];exact fun _ h=>h
  ·rw[hl];simp only[bJ,hr];exact fun _ h=>List.mem_append_left _ h
 have Aq:fA ops lf p.o=fA ops p.st p.o:=by
  unfold fA
  split
  ·rfl
  ·rename_i j want Mt
   split
   ·rfl
   ·rename_i s hs
    rw[dw s (Hw (by unfold f0;simp [Mt,hs,jW]))]
 unfold wpOp
 rw[KY]
 simp only
 have hw:fA ops lf p.o=some true∨fA ops lf p.o=some false:=by
  rw[Aq]
  rcases lI with ⟨h,_⟩ | ⟨h,_⟩
  ·exact .inr h
  ·exact .inl h
 rcases lI with ⟨Jm,he,aJ,hl⟩ | ⟨Jm,e,s,r,hr,aJ,hl,he⟩
 ·rw[←Aq] at Jm
  rw[if_neg (by rw[kK hR Jm];simp)]
  refine hK _ _ ⟨lf.skip p.o.dst, ?_,hn,fun s=> ?_,fun id=> ?_⟩
  ·have HH:∀d,p.o.dst=some d→bc lf.n d:=by
    intro d Cl
    simp only[St.skip,St.apply,gr] at aJ
    have:=aJ.2
    rw[Cl] at this
    have:=lE this
    rw[hn,←LF]
    exact this
   obtain⟨β,φ,hc⟩:=hR.core
   exact iI (e:= {sv:= .undef}) hR HH hR.kept ⟨β,φ,hc,by simp [ak]⟩
  ·rw[HT s]
   unfold St.skip
   rw[←he]
   exact (lD lf p s)
  ·rw[HU id]
   unfold St.skip
   rw[←he]
   exact (js lf p id)
 ·rw[←Aq] at Jm
  rw[if_pos (kK hR Jm)]
  refine .inl ?_
  have Le:∀k∈s,lf.get k=p.st.get k:=fun k hk=>dw k (by rw[hl];simp only[bJ,hr];exact List.mem_append_right _ hk)
  have A4:∀k∈r,lf.obj k=p.st.obj k:=fun k hk=>aK k (by rw[hl];simp only[bJ,hr];exact List.mem_append_right _ hk)
  have bs:=M.kD (evalOp P Γ p.o) hr Le A4
  simp only[St.apply,gr] at aJ
  have BL:=B0 eV hR (M.ey _ bs) aJ.1.2 (fun d Cl=>by
    have:=aJ.2
    rw[Cl] at this
    have:=lE this
    rw[hn,←LF]
    exact this) (fun _ d Cl=> ?_) Q
  ·refine Oper.wp_mono ?_ BL
   rintro a' w' ⟨v,rfl,eS⟩
   rcases he with he | ⟨d,g,Cl,fi,he⟩
   ·refine hK _ _ ⟨lf.apply p.o.dst e,eS,hn,fun s=> ?_,fun id=> ?_⟩
    ·rw[HT s,←he];exact lD lf p s
    ·rw[HU id,←he];exact js lf p id
   ·have hb:(lf.apply p.o.dst e).get d= .bool g:=by
     rw[Cl,apply_get,fi]
     simp [az]
    have HM:=eS.AA hb
    refine hK _ _ ⟨(lf.apply p.o.dst e).reset.fO d g,eS.reset.fO HM,hn,fun s=> ?_,fun id=> ?_⟩
    ·rw[HT s];exact Fj Cl p rfl he s
    ·rw[HU id];exact Fk p rfl he id
  ·have key:∀j,Ef (ln ops.toList) L l j→j / 64≠d:=by
    rintro j (hj | ⟨q,hq,H6,hj⟩) rfl
    ·exact hj (Mm _ Cl)
    ·rcases Nat.lt_trichotomy q.i p.i with cr | heq | F1
     ·have:=(kB dH Cw hq hp cr).2
      rw[DJ ((hd p hp).trans Cl) hj] at this
      cases this
     ·rw[heq,hL] at H6
      cases H6
     ·have:=hB q hq F1 (En ((hd p hp).trans Cl) hj)
      rw[this] at H6
      cases H6
   have Ko:=fun d' ID=>BH bP d' ID
   constructor
   ·intro i j hj
    rw[mS i] at hj
    refine key j (me l l _ kv (fun _ h=>h) (fun k hk=> .inl (fun hm=> ?_)) j hj)
    exact (Ko _ hm).slot i k hk rfl
   ·intro j ob ja
    rw[hE j] at ja
    have h0:Eg (ln ops.toList) L l j (st.obj j):=by
     intro Fx jJ
     refine⟨.inl (fun hm=>((Ko _ hm).obj j Fx jJ).1 rfl),fun k hk=> .inl (fun hm=>((Ko _ hm).obj j Fx jJ).2 k hk rfl)⟩
    have:=mf l l _ kv (fun _ h=>h) h0 ob ja
    exact⟨key j this.1,fun k hk=>key k (this.2 k hk)⟩
theorem Cj (eV:bH P Γ) {st:St} {l:List PS} {fin:St} (dH:Path P Γ ops gs ops.toList 0 st l fin) (Cw:lQ (Cr ops.toList []) (l.map (·.log))=true)
  (bP:eG (ln ops.toList) st=true) (Mn:gu ops.toList 0=true) {Q:Exit→Act→World→Prop} (hQ:∀a w,Rel w0 S fin a w→Q .normal a w):
  ∀(fuel:Nat) (listed:Array Bool) (a:Act) (w:World),listed.size=ops.size→(∀k,listed.getD k false=true→lO ops (fun k=>listed.getD k false) k)→H5 ops listed≤fuel→
   JF w0 S st l (fun k=>listed.getD k false) a w→wpAny P .any ops Q fuel listed a w:=by
 have iD:=kZ dH
 have hlen:l.length=ops.size:=by
  have:(l.map (·.o)).length=ops.toList.length:=by rw[(cv dH).2.1]
  simpa using this
 have done:∀(listed:Array Bool) (a:Act) (w:World),listed.size=ops.size→Region.ready .any ops listed=[]→JF w0 S st l (fun k=>listed.getD k false) a w→Q .normal a w:=by
  intro listed a w dB hr ⟨lf,hR,hn,mS,hE⟩
  have Iv:∀k,k<ops.size→listed.getD k false=true:=by
   intro k
   induction k using Nat.strongRecOn with
   | ind k ih=>
    intro hk
    cases Ma:listed.getD k false
    ·have:k∈Region.ready .any ops listed:=by
      rw[mem_ready]
      refine⟨?_,ops[k],Array.getElem?_eq_getElem hk,fun e he hb=> ?_⟩
      ·rw[←Ma]
       simp only[Array.getD_eq_getD_getElem?,Array.getElem?_eq_getElem (show k<listed.size by omega),Option.getD_some]
      ·have:=jx ops.toList 0 Mn k ops[k] (by simp [Array.getElem?_toList,hk]) e he hb
       exact ih e.on (by omega) (by omega)
     rw[hr] at this
     cases this
    ·rfl
  refine hQ a w ?_
  have Lx:∀q∈l,listed.getD q.i false=true:=by
   intro q hq
   have:=(iq dH hq).2.2
   exact Iv q.i (by simpa using this)
  have e1:lf.get=fin.get:=by
   funext s
   rw[mS s,iD.2.1 s]
   exact fold_congr (fun q v=>PS.f q s v) (fun _=>True) (fun _ _ h=>absurd trivial h) (L:=fun k=>listed.getD k false) (L':=fun _=>true) l _ (fun q hq _=>Lx q hq)
  have e2:lf.obj=fin.obj:=by
   funext s
   rw[hE s,iD.2.2.1 s]
   exact fold_congr (fun q v=>PS.h q s v) (fun _=>True) (fun _ _ h=>absurd trivial h) (L:=fun k=>listed.getD k false) (L':=fun _=>true) l _ (fun q hq _=>Lx q hq)
  obtain⟨β,φ,hc⟩:=hR.core
  refine⟨?_,fun x hx=>by rw[iD.2.2.2,←hn];exact hR.fx x hx,hR.defers,hR.kept,β,φ, ?_⟩
  ·rw[hR.size,hn,iD.2.2.2]
  ·rw[←e1,←e2];exact hc
 intro fuel
 induction fuel with
 | zero=>
  intro listed a w dB Bp Jk DP
  have hr:Region.ready .any ops listed=[]:=by
   cases MJ:Region.ready .any ops listed with
   | nil=>rfl
   | cons x xs=>
    have hx:x∈Region.ready .any ops listed:=by rw[MJ];exact List.mem_cons_self ..
    obtain⟨h1,o,ho,_⟩:=mem_ready.1 hx
    have cr:=(Array.getElem?_eq_some_iff.1 ho).1
    have:0<H5 ops listed:=by
     unfold H5
     rw[List.countP_pos_iff]
     exact⟨x,List.mem_range.2 cr,by simp only[h1];rfl⟩
    omega
  exact⟨hr,done listed a w dB hr DP⟩
 | succ fuel ih=>
  intro listed a w dB Bp Jk DP
  refine⟨fun hr=>done listed a w dB hr DP,fun i hi=> ?_⟩
  obtain⟨h1,o,ho,Km⟩:=mem_ready.1 hi
  have cr:=(Array.getElem?_eq_some_iff.1 ho).1
  have ET:i<l.length:=by omega
  have JY:l[i].i=i:=by
   have:(l.map (·.i))[i]? =(List.range' 0 ops.toList.length)[i]? :=by rw[(cv dH).1]
   rw[List.getElem?_map,List.getElem?_eq_getElem ET,List.getElem?_range' (by simpa using cr)] at this
   simpa using this
  have Jh:∀k,(listed.setIfInBounds i true).getD k false=(listed.getD k false || k==i):=by
   intro k
   simp only[Array.getD_eq_getD_getElem?,Array.getElem?_setIfInBounds]
   by_cases hk:i=k
   ·subst hk
    simp [show i<listed.size by omega]
   ·have:(k==i)=false:=by simpa using fun h=>hk h.symm
    simp [hk,this]
  have L_:listed.getD i false=false:=by
   rw[←h1]
   simp only[Array.getD_eq_getD_getElem?,Array.getElem?_eq_getElem (show i<listed.size by omega),Option.getD_some]
  have LH:lO ops (fun k=>listed.getD k false) i:=by
   intro o' d8 e he hb
   rw[ho] at d8
   injection d8 with d8
   subst d8
   exact Km e he hb
  have:=Fz (w0:=w0) (S:=S) (Q:=Q) eV dH Cw bP Bp (p:=l[i]) (List.getElem_mem ET) (by rw[JY];exact LH) (by rw[JY];exact L_) DP
   (K:=wpAny P .any ops Q fuel (listed.setIfInBounds i true)) (fun a' w' hc=> ?_)
  ·rw[JY] at this
   exact this
  ·refine ih _ a' w' (by simpa using dB) (fun k hk=> ?_) ?_ ?_
   ·intro o' d8 e he hb
    show (listed.setIfInBounds i true).getD e.on false=true
    rw[Jh] at hk ⊢
    simp only[Bool.or_eq_true,beq_iff_eq] at hk ⊢
    rcases hk with hk | rfl
    ·exact .inl (Bp k hk o' d8 e he hb)
    ·exact .inl (LH o' d8 e he hb)
   ·have:H5 ops (listed.setIfInBounds i true)<H5 ops listed:=by
     unfold H5
     refine Ae _ (fun k hk hq=> ?_) ⟨i,List.mem_range.2 cr,by simp only[h1];rfl, ?_⟩
     ·simp only[Bool.not_eq_true',Array.getD_eq_getD_getElem?,Array.getElem?_setIfInBounds] at hq ⊢
      split at hq
      ·split at hq<;>simp at hq
      ·exact hq
     ·simp [Array.getElem?_setIfInBounds,show i<listed.size by omega]
    omega
   ·have e:(fun k=>(listed.setIfInBounds i true).getD k false)=(fun k=>listed.getD k false || k==i):=funext Jh
    rw[e]
    rw[JY] at hc
    exact hc
theorem Rel.drew {st:St} {a:Act} {w:World} (hR:Rel w0 S st a w):Rel w0 S st a {w with drawn:=w.drawn+1} :=by
 obtain⟨β,φ,hc⟩:=hR.core
 refine⟨hR.size,hR.fx,hR.defers,⟨hR.kept.os,hR.kept.tape,hR.kept.output,hR.kept.size,hR.kept.block⟩,β,φ, ?_⟩
 exact hc.step (h':=st.obj) (β':=β) (φ':=φ) (w':= {w with drawn:=w.drawn+1}) (fun _=>False) (Nat.le_refl _) (fun _ _ _=>rfl) (fun b hb=> .inl hb) (fun _ _ _ h=>h) (fun _ _=>⟨rfl,rfl⟩)
  (fun id o ho=> .inl ⟨fun h=>h,ho,rfl,fun _ _ h=>h,fun _ _=>rfl⟩) hc.sep
theorem jY (eV:bH P Γ) {st:St} {a:Act} {w:World} {id:Nat} {draw:Bool} {Q:Exit→Act→World→Prop} (hR:Rel w0 S st a w) (h:(bZ P Γ ops draw st).ok=true)
  (hQ:∀a' w',Rel w0 S (bZ P Γ ops draw st) a' w'→Q .normal a' w'):(Code.region id ops draw).wp P Q a w:=by
 cases draw with
 | false=>exact CX eV hR h hQ
 | true=>
  unfold bZ at h hQ
  simp only[cond_true] at h hQ
  cases hf:eG (ln ops.toList) st && gu ops.toList 0 && P.follows .mixedOrders
  ·simp [hf,bf] at h
  ·simp only[hf,cond_true] at h hQ
   simp only[Bool.and_eq_true] at hf
   obtain⟨l,fin,dH,_,Kj,Ld⟩:=e_ _ _ _ _ h
   refine wp_region_any hf.2 (Cj eV dH (by simpa using Kj) hf.1.1 hf.1.2 (fun a' w' eS=>hQ a' w' (Ld w0 S a' w' eS)) _ _ a _ (by simp) (fun k hk=> ?_) ?_ ?_)
   ·rw[Array.getD_eq_getD_getElem?,Array.getElem?_replicate] at hk
    split at hk<;>simp at hk
   ·unfold H5
    have:=List.countP_le_length (p:=fun k=> !((Array.replicate ops.size false).getD k true)) (l:=List.range ops.size)
    simpa using this
   ·refine⟨st,hR.drew,rfl,fun s=> ?_,fun o=> ?_⟩
    ·refine (fh (fun q v=>PS.f q s v) (L:=fun k=>(Array.replicate ops.size false).getD k false) l (st.get s) (fun q _=> ?_)).symm
     rw[Array.getD_eq_getD_getElem?,Array.getElem?_replicate]
     split<;>rfl
    ·refine (fh (fun q v=>PS.h q o v) (L:=fun k=>(Array.replicate ops.size false).getD k false) l (st.obj o) (fun q _=> ?_)).symm
     rw[Array.getD_eq_getD_getElem?,Array.getElem?_replicate]
     split<;>rfl
end
end Go.Proofs.YtnlkklmcfafgeaaGreat.Vm
namespace Go.Proofs.YtnlkklmcfafgeaaGreat.Vm
section
variable {P:Program} {Γ:Ctx} {w0:World} {S:Own}
theorem eK {st:St} {c:Operand} {b:Bool} :(st.dk c b).ok=st.ok:=by
 unfold St.dk
 split<;>rfl
theorem Cg {st:St} {c:Operand} {b:Bool} (h:st.ok=true):Tr st (st.dk c b):=by
 unfold St.dk
 split
 ·exact j9 h
 ·exact Tr.refl h
theorem iH {st:St} {a:Act} {w:World} {c:Operand} {b:Bool} (hR:Rel w0 S st a w) (hc:a.eval c= .bool b):Rel w0 S (st.dk c b) a w:=by
 unfold St.dk
 split
 ·exact hR.fO hc
 ·exact hR
theorem GA {st:St} {a:Act} {w:World} (hR:Rel w0 S st a w) (c:Operand):∃β,ak w (Av st.obj β) β (ev st c) (a.eval c):=by
 obtain⟨β,φ,hc⟩:=hR.core
 refine⟨β, ?_⟩
 cases c with
 | tmp t=>exact hc.cb t
 | const v=>exact jk v
 | global g=>simp [ev,ak]
 | func g=>simp [ev,ak]
theorem Gz {st:St} {a:Act} {w:World} (hR:Rel w0 S st a w) {c:Operand} {t:Bool} (h:ev st c= .kb t):a.eval c= .bool t:=by
 obtain⟨β,hv⟩:=GA hR c
 rw[h] at hv
 simpa only[ak] using hv
theorem Di {st:St} {a:Act} {w:World} (hR:Rel w0 S st a w) {c:Operand} {t:Bool} (h:ev st c= .bool t):a.eval c= .bool t:=by
 obtain⟨β,hv⟩:=GA hR c
 rw[h] at hv
 simpa only[ak] using hv
theorem d7:∀(c:Code) (st:St),(exec P Γ c st).ok=true→Tr st (exec P Γ c st)
 | .skip,st,h=>by
  simp only[exec] at h ⊢
  exact Tr.refl h
 | .region id ops draw,st,h=>by
  simp only[exec] at h ⊢
  exact AF h
 | .seq a b,st,h=>by
  simp only[exec] at h ⊢
  have h2:=d7 b _ h
  exact (d7 a _ h2.ok).trans h2
 | .cond c a b,st,h=>by
  simp only[exec] at h ⊢
  split
  ·rename_i t Al
   simp only[Al] at h
   cases t with
   | true=>simp only[cond_true] at h ⊢;exact d7 a _ h
   | false=>simp only[cond_false] at h ⊢;exact d7 b _ h
  ·rename_i g Al
   simp only[Al] at h
   have lI:=c_ h
   have aJ:st.ok=true:=by
    cases g with
    | true=>
     have:=(d7 a _ (lI.1 rfl)).ok
     rw[eK] at this
     exact this
    | false=>
     have:=(d7 b _ (lI.2 rfl)).ok
     rw[eK] at this
     exact this
   exact Ch aJ h
  ·rename_i h1 h2
   exfalso
   revert h
   split
   ·rename_i t Al;exact absurd Al (h1 t)
   ·rename_i g Al;exact absurd Al (h2 g)
   ·simp [bf]
 | .block ..,st,h=>by simp [exec,bf] at h
 | .loop ..,st,h=>by simp [exec,bf] at h
 | .exit ..,st,h=>by simp [exec,bf] at h
 | .goto ..,st,h=>by simp [exec,bf] at h
 | .label ..,st,h=>by simp [exec,bf] at h
 | .ret,st,h=>by simp [exec,bf] at h
theorem gv (eV:bH P Γ):∀(c:Code) (st:St) (a:Act) (w:World) (Q:Exit→Act→World→Prop),Rel w0 S st a w→(exec P Γ c st).ok=true→
  (∀a' w',Rel w0 S (exec P Γ c st) a' w'→Q .normal a' w')→c.wp P Q a w
 | .skip,st,a,w,Q,hR,h,hQ=>by
  simp only[exec] at h hQ
  exact wp_skip (hQ a w hR)
 | .region id ops draw,st,a,w,Q,hR,h,hQ=>by
  simp only[exec] at h hQ
  exact jY eV hR h hQ
 | .seq x y,st,a,w,Q,hR,h,hQ=>by
  simp only[exec] at h hQ
  have h2:=d7 y _ h
  refine wp_seq (gv eV x st a w _ hR h2.ok (fun a' w' eS=> ?_))
  exact gv eV y _ a' w' Q eS h hQ
 | .cond c x y,st,a,w,Q,hR,h,hQ=>by
  simp only[exec] at h hQ
  split at h
  ·rename_i t Al
   simp only[Al] at hQ
   refine wp_cond (Gz hR Al) ?_
   cases t with
   | true=>simp only[cond_true] at h hQ;exact gv eV x st a w Q hR h hQ
   | false=>simp only[cond_false] at h hQ;exact gv eV y st a w Q hR h hQ
  ·rename_i g Al
   simp only[Al] at hQ
   have lI:=c_ h
   have hb:=Di hR Al
   refine wp_cond hb ?_
   cases g with
   | true=>
    have hy:=lI.1 rfl
    have ht:=d7 x _ hy
    refine gv eV x _ a w Q (iH hR.reset hb) hy (fun a' w' eS=>hQ a' w' ?_)
    have aJ:st.reset.ok=true:=by have:=ht.ok;rwa [eK] at this
    exact gh (fun _=>⟨(Cg aJ).trans ht,eS⟩) (by simp) h
   | false=>
    have hy:=lI.2 rfl
    have ht:=d7 y _ hy
    refine gv eV y _ a w Q (iH hR.reset hb) hy (fun a' w' eS=>hQ a' w' ?_)
    have aJ:st.reset.ok=true:=by have:=ht.ok;rwa [eK] at this
    exact gh (by simp) (fun _=>⟨(Cg aJ).trans ht,eS⟩) h
  ·simp [bf] at h
 | .block ..,st,_,_,_,_,h,_=>by simp [exec,bf] at h
 | .loop ..,st,_,_,_,_,h,_=>by simp [exec,bf] at h
 | .rangeFunc ..,st,_,_,_,_,h,_=>by simp [exec,bf] at h
 | .exit ..,st,_,_,_,_,h,_=>by simp [exec,bf] at h
 | .scope ..,st,_,_,_,_,h,_=>by simp [exec,bf] at h
 | .goto ..,st,_,_,_,_,h,_=>by simp [exec,bf] at h
 | .label ..,st,_,_,_,_,h,_=>by simp [exec,bf] at h
 | .ret,st,_,_,_,_,h,_=>by simp [exec,bf] at h
 | .refuse ..,st,_,_,_,_,h,_=>by simp [exec,bf] at h
abbrev Rn:=List (Nat×aj×Option Nat)
def A_:Rn→Nat→Option (aj×Option Nat)
 | [],_=>none
 | (i,x)::l,j=>if j=i then some x else A_ l j
def Env.iQ (β:Env) (R:Rn):Env:=
 ⟨β.cW,fun j=>match A_ R j with | some (_,some id)=>β.val id | some (_,none)=> .slice none 0 0 | none=>β.val j,β.gI,
  fun j=>match A_ R j with | some (_,some id)=>β.nb id | some (_,none)=>[] | none=>β.nb j⟩
def Bv (o:aj):Prop:=(∃t e,o= .row t e [] false true)∨(∃t e ts,o= .deep t e ts [] none)
def fE (o:aj):Prop:=(∃t e r fz u,o= .row t e r fz u)∨(∃t e ts r,o= .deep t e ts r none)
def iV (φ:Nat→List Nat) (R:Rn) (j:Nat):List Nat:=
 match A_ R j with | some (_,some id)=>φ id | some (_,none)=>[] | none=>φ j
def Bw (h:Nat→Option aj) (x:Nat×aj×Option Nat):Prop:=
 (∃id,fE x.2.1∧x.2.2=some id∧h id=some x.2.1)∨(Bv x.2.1∧x.2.2=none)
theorem lS {w:World} {av av':Nat→Prop} {β:Env} {R:Rn} :∀(cs:List SV) (l:List Value),kd cs=true→af w av β cs l→af w av' (β.iQ R) cs l
 | [],l,_,h=>by simpa only[af] using h
 | s::cs,l,hp,h=>by
  simp only[af] at h ⊢
  obtain⟨v,l',rfl,h1,h2⟩:=h
  cases s with
  | ptr id off=>
   refine⟨v,l',rfl, ?_,lS cs l' hp h2⟩
   simp only[ak] at h1 ⊢
   exact h1
  | _=>simp [kd] at hp
theorem ju {hp:List (Nat×aj)} {f:Nat→SV} {β:Env} {φ:Nat→List Nat} {tm:Array Value} {w:World} (hc:Core w0 S f (dI hp) β φ tm w) {ck:CK} {nid:Nat} {s:SV} {v:Value} {av':Nat→Prop}
  (hv:ak w (Av (dI hp) β) β s v) (cR:∀b,av' b→Av (dI hp) β b) {R:Rn} (hR:∀x∈(au P hp ck nid s).2,A_ R x.1=some x.2):
  ak w av' (β.iQ R) (au P hp ck nid s).1 v∧∀x∈(au P hp ck nid s).2,Bw (dI hp) x:=by
 have mono:∀s',bX s'=[]→ak w (Av (dI hp) β) β s' v→ak w av' (β.iQ R) s' v:=fun s' BP h'=>
  ak.mono (Nat.le_refl _) (fun _ _ _=>rfl) (fun b hb=> .inl (cR b hb)) s' v h' (by rw[BP];simp)
 cases s with
 | own id=>
  simp only[au] at hR ⊢
  simp only[ak] at hv
  cases hl:dI hp id with
  | none=>simp [ak]
  | some o=>
   cases o with
   | box=>simp [ak]
   | row t e r fz u=>
    simp only[hl] at hR
    simp only
    cases ck with
    | d_=>simp [ak]
    | mL=>
     have:=hR _ (List.mem_singleton.2 rfl)
     simp only at this
     refine⟨?_, ?_⟩
     ·simp only[ak,Env.iQ,this]
      exact hv
     ·intro x hx
      rw[List.mem_singleton] at hx
      subst hx
      exact .inl ⟨id,.inl ⟨t,e,r,fz,u,rfl⟩,rfl,hl⟩
    | own=>
     have:=hR _ (List.mem_singleton.2 rfl)
     simp only at this
     refine⟨?_, ?_⟩
     ·simp only[ak,Env.iQ,this]
      exact hv
     ·intro x hx
      rw[List.mem_singleton] at hx
      subst hx
      exact .inl ⟨id,.inl ⟨t,e,r,fz,u,rfl⟩,rfl,hl⟩
    | deep=>
     have:=hR _ (List.mem_singleton.2 rfl)
     simp only at this
     refine⟨?_, ?_⟩
     ·simp only[ak,Env.iQ,this]
      exact hv
     ·intro x hx
      rw[List.mem_singleton] at hx
      subst hx
      exact .inl ⟨id,.inl ⟨t,e,r,fz,u,rfl⟩,rfl,hl⟩
   | deep t e ts r j_=>
    cases j_ with
    | some q=>simp [ak]
    | none=>
    simp only[hl] at hR
    simp only
    cases ck with
    | d_=>simp [ak]
    | mL=>
     have:=hR _ (List.mem_singleton.2 rfl)
     simp only at this
     refine⟨?_, ?_⟩
     ·simp only[ak,Env.iQ,this]
      exact hv
     ·intro x hx
      rw[List.mem_singleton] at hx
      subst hx
      exact .inl ⟨id,.inr ⟨t,e,ts,r,rfl⟩,rfl,hl⟩
    | own=>
     have:=hR _ (List.mem_singleton.2 rfl)
     simp only at this
     refine⟨?_, ?_⟩
     ·simp only[ak,Env.iQ,this]
      exact hv
     ·intro x hx
      rw[List.mem_singleton] at hx
      subst hx
      exact .inl ⟨id,.inr ⟨t,e,ts,r,rfl⟩,rfl,hl⟩
    | deep=>
     have:=hR _ (List.mem_singleton.2 rfl)
     simp only at this
     refine⟨?_, ?_⟩
     ·simp only[ak,Env.iQ,this]
      exact hv
     ·intro x hx
      rw[List.mem_singleton] at hx
      subst hx
      exact .inl ⟨id,.inr ⟨t,e,ts,r,rfl⟩,rfl,hl⟩
   | d_ e r=>
    simp only
    refine⟨?_,by simp⟩
    have h1:=(hc.ay id _ hl).1
    rw[←hv.1] at h1
    exact mono _ rfl h1
 | nil=>
  simp only[au] at hR ⊢
  simp only[ak] at hv
  cases ck with
  | mL=>
   refine⟨?_,by simp⟩
   simp only[ak]
   exact hv
  | own t=>
   simp only at hR ⊢
   cases BJ:fF P 16 t with
   | none=>simp [ak]
   | some e=>
    simp only[BJ] at hR
    have:=hR _ (List.mem_singleton.2 rfl)
    simp only at this
    refine⟨?_, ?_⟩
    ·simp only[ak,Env.iQ,this]
     rw[hv]
     exact⟨rfl,rfl⟩
    ·intro x hx
     rw[List.mem_singleton] at hx
     subst hx
     exact .inr ⟨.inl ⟨t,e,rfl⟩,rfl⟩
  | deep t ts=>
   simp only at hR ⊢
   cases BJ:fF P 16 t with
   | none=>simp [ak]
   | some e=>
    simp only[BJ] at hR
    have:=hR _ (List.mem_singleton.2 rfl)
    simp only at this
    refine⟨?_, ?_⟩
    ·simp only[ak,Env.iQ,this]
     rw[hv]
     exact⟨rfl,rfl⟩
    ·intro x hx
     rw[List.mem_singleton] at hx
     subst hx
     exact .inr ⟨.inr ⟨t,e,ts,rfl⟩,rfl⟩
  | d_ t=>
   simp only at hR ⊢
   cases BJ:fF P 16 t with
   | none=>simp [ak]
   | some e=>
    refine⟨?_,by simp⟩
    simp only[ak,bY]
    exact⟨[],⟨[],none,0,0,rfl,hv,rfl,Nat.le_refl _,Nat.zero_le _,.inl ⟨rfl,rfl⟩⟩,by simp⟩
 | kb b=>
  simp only[au]
  refine⟨?_,by simp⟩
  simp only[ak] at hv ⊢
  exact hv
 | agg=>simp [au,ak]
 | DG=>simp [au,ak]
 | d9=>simp [au,ak]
 | FR=>simp [au,ak]
 | FW g cs=>
  simp only[au]
  cases hp:kd cs
  ·simp [ak]
  ·simp only[cond_true]
   refine⟨?_,by simp⟩
   simp only[ak] at hv ⊢
   obtain⟨l,rfl,hl⟩:=hv
   exact⟨l,rfl,lS cs l hp hl⟩
 | ptr id off=>
  simp only[au]
  refine⟨?_,by simp⟩
  simp only[ak] at hv ⊢
  exact hv
 | fy=>exact⟨mono _ rfl hv,by simp [au]⟩
 | undef=>exact⟨mono _ rfl hv,by simp [au]⟩
 | int=>exact⟨mono _ rfl hv,by simp [au]⟩
 | bool=>exact⟨mono _ rfl hv,by simp [au]⟩
 | str=>exact⟨mono _ rfl hv,by simp [au]⟩
 | sl=>exact⟨mono _ rfl hv,by simp [au]⟩
 | gN=>exact⟨mono _ rfl hv,by simp [au]⟩
theorem iT {hp:List (Nat×aj)} {f:Nat→SV} {β:Env} {φ:Nat→List Nat} {tm:Array Value} {w:World} (hc:Core w0 S f (dI hp) β φ tm w) {lW:List (Nat×CK)} {b:Nat} {av':Nat→Prop}
  (cR:∀b,av' b→Av (dI hp) β b) {R:Rn} :∀(l:List SV) (k:Nat) (vs:List Value),af w (Av (dI hp) β) β l vs→(∀x∈(bF P hp lW b k l).2,A_ R x.1=some x.2)→
  af w av' (β.iQ R) (bF P hp lW b k l).1 vs∧∀x∈(bF P hp lW b k l).2,Bw (dI hp) x
 | [],k,vs,hl,_=>by
  simp only[bF,af] at hl ⊢
  exact⟨hl,by simp⟩
 | s::l,k,vs,hl,hR=>by
  simp only[af] at hl
  obtain⟨v,l',rfl,h1,h2⟩:=hl
  simp only[bF] at hR ⊢
  have c1:=ju (P:=P) hc (ck:=Lo lW k) (nid:=ag (20000+b*4) k) h1 cR (R:=R) (fun x hx=>hR x (List.mem_append_left _ hx))
  have c2:=iT hc cR l (k+1) l' h2 (fun x hx=>hR x (List.mem_append_right _ hx))
  refine⟨?_,fun x hx=> ?_⟩
  ·simp only[af]
   exact⟨v,l',rfl,c1.1,c2.1⟩
  ·rcases List.mem_append.1 hx with hx | hx
   ·exact c1.2 x hx
   ·exact c2.2 x hx
end
end Go.Proofs.YtnlkklmcfafgeaaGreat.Vm
set_option linter.unusedVariables false
set_option linter.unusedSimpArgs false
namespace Go.Proofs.YtnlkklmcfafgeaaGreat.Vm
section
variable {P:Program} {Γ:Ctx} {w0:World} {S:Own}
theorem ft {l:List Nat} (h:eW l=true):l.Nodup:=by
 induction l with
 | nil=>simp
 | cons i l ih=>
  simp only[eW,Bool.and_eq_true,Bool.not_eq_true'] at h
  rw[List.nodup_cons]
  refine⟨fun hm=> ?_,ih h.2⟩
  rw[gf.2 hm] at h
  simp at h
theorem Dv {R:Rn} {j:Nat} {x:aj×Option Nat} (h:A_ R j=some x):(j,x)∈R:=by
 induction R with
 | nil=>simp [A_] at h
 | cons y l ih=>
  obtain⟨i,z⟩:=y
  simp only[A_] at h
  split at h
  ·rename_i hj
   injection h with h
   subst h hj
   exact List.mem_cons_self ..
  ·exact List.mem_cons_of_mem _ (ih h)
theorem Fp {R:Rn} {x:Nat×aj×Option Nat} (hx:x∈R) (hn:(R.map (·.1)).Nodup):A_ R x.1=some x.2:=by
 induction R with
 | nil=>simp at hx
 | cons y l ih=>
  obtain⟨i,z⟩:=y
  simp only[List.map_cons,List.nodup_cons] at hn
  simp only[A_]
  rcases List.mem_cons.1 hx with rfl | hx
  ·simp
  ·have:x.1≠i:=fun e=>hn.1 (e ▸ List.mem_map_of_mem hx)
   rw[if_neg this]
   exact ih hx hn.2
theorem Fo {R:Rn} {j:Nat} (h:j ∉ R.map (·.1)):A_ R j=none:=by
 induction R with
 | nil=>rfl
 | cons y l ih=>
  obtain⟨i,z⟩:=y
  simp only[List.map_cons,List.mem_cons,not_or] at h
  simp only[A_]
  rw[if_neg h.1]
  exact ih h.2
theorem Gn {R:Rn} (h:(ew R).Nodup) {x y:Nat×aj×Option Nat} {id:Nat} (hx:x∈R) (hy:y∈R) (h1:x.2.2=some id) (h2:y.2.2=some id):x=y:=by
 have mem:∀(R:Rn) (z:Nat×aj×Option Nat),z∈R→z.2.2=some id→id∈ew R:=by
  intro R
  induction R with
  | nil=>simp
  | cons u l ih=>
   obtain⟨i,o,lL⟩:=u
   intro z hz Ll
   rcases List.mem_cons.1 hz with rfl | Jp
   ·simp only at Ll
    subst Ll
    simp [ew]
   ·have:=ih z Jp Ll
    cases lL with
    | none=>simpa [ew] using this
    | some k=>simp [ew,this]
 induction R with
 | nil=>simp at hx
 | cons u l ih=>
  obtain⟨i,o,lL⟩:=u
  cases lL with
  | none=>
   simp only[ew] at h
   rcases List.mem_cons.1 hx with rfl | hx
   ·cases h1
   ·rcases List.mem_cons.1 hy with rfl | hy
    ·cases h2
    ·exact ih h hx hy
  | some k=>
   simp only[ew,List.nodup_cons] at h
   rcases List.mem_cons.1 hx with rfl | hx
   ·simp only[Option.some.injEq] at h1
    rcases List.mem_cons.1 hy with rfl | hy
    ·rfl
    ·exact absurd (h1 ▸ mem l y hy h2) h.1
   ·rcases List.mem_cons.1 hy with rfl | hy
    ·simp only[Option.some.injEq] at h2
     exact absurd (h2 ▸ mem l x hx h1) h.1
    ·exact ih h.2 hx hy
theorem gV {st:St} {i:Nat} :∀(l:List (Nat×CK)),jf (aV P st l).1 i= .fy∨
  ∃ck,jf (aV P st l).1 i=(au P st.hp ck (ag (10000+i) 0) (st.get i)).1∧∀x∈(au P st.hp ck (ag (10000+i) 0) (st.get i)).2,x∈(aV P st l).2
 | []=> .inl rfl
 | (k,ck)::l=>by
  simp only[aV,jf]
  cases hk:Nat.beq k i
  ·simp only[cond_false]
   rcases gV l with h | ⟨L5,h1,h2⟩
   ·exact .inl h
   ·exact .inr ⟨L5,h1,fun x hx=>List.mem_append_right _ (h2 x hx)⟩
  ·have:=Nat.eq_of_beq_eq_true hk
   subst this
   simp only[cond_true]
   exact .inr ⟨ck,rfl,fun x hx=>List.mem_append_left _ hx⟩
theorem gU {st:St} {x:Nat×aj×Option Nat} :∀(l:List (Nat×CK)),x∈(aV P st l).2→∃i ck,x∈(au P st.hp ck (ag (10000+i) 0) (st.get i)).2
 | [],h=>by simp [aV] at h
 | (k,ck)::l,h=>by
  simp only[aV] at h
  rcases List.mem_append.1 h with h | h
  ·exact⟨k,ck,h⟩
  ·exact gU l h
theorem dP {hp:List (Nat×aj)} {j:Nat} {o:aj} :∀(l:List (Nat×List (Nat×CK))),(j,o)∈(aP P hp l).1→
  ∃lW t cells,dI hp j=some (.box t cells)∧o= .box t (bF P hp lW j 0 cells).1∧∀x∈(bF P hp lW j 0 cells).2,x∈(aP P hp l).2
 | [],h=>by simp [aP] at h
 | (b,lW)::l,h=>by
  simp only[aP] at h ⊢
  split at h
  ·rename_i t cells hb
   simp only at h ⊢
   rcases List.mem_cons.1 h with h | h
   ·simp only[Prod.mk.injEq] at h
    obtain⟨rfl,rfl⟩:=h
    refine⟨lW,t,cells,hb,rfl,fun x hx=> ?_⟩
    exact List.mem_append_left _ hx
   ·obtain⟨J_,t',eR,h1,h2,h3⟩:=dP l h
    exact⟨J_,t',eR,h1,h2,fun x hx=>List.mem_append_right _ (h3 x hx)⟩
  ·rename_i hb
   exact dP l h
theorem fl {hp:List (Nat×aj)} {x:Nat×aj×Option Nat} :∀(l:List (Nat×List (Nat×CK))),x∈(aP P hp l).2→
  ∃lW j t cells,dI hp j=some (.box t cells)∧x∈(bF P hp lW j 0 cells).2
 | [],h=>by simp [aP] at h
 | (b,lW)::l,h=>by
  simp only[aP] at h
  split at h
  ·rename_i t cells hb
   simp only at h
   rcases List.mem_append.1 h with h | h
   ·exact⟨lW,b,t,cells,hb,h⟩
   ·exact fl l h
  ·exact fl l h
theorem iS {hp:List (Nat×aj)} {ck:CK} {nid:Nat} {s:SV} :∀x∈(au P hp ck nid s).2,Bw (dI hp) x:=by
 intro x hx
 cases s with
 | own id=>
  simp only[au] at hx
  cases hl:dI hp id with
  | none=>simp [hl] at hx
  | some o=>
   cases o with
   | box=>simp [hl] at hx
   | d_=>simp [hl] at hx
   | deep t e ts r j_=>
    cases j_ with
    | some q=>simp [hl] at hx
    | none=>
    simp only[hl] at hx
    cases ck with
    | d_=>simp at hx
    | mL=>
     rw[List.mem_singleton] at hx
     subst hx
     exact .inl ⟨id,.inr ⟨t,e,ts,r,rfl⟩,rfl,hl⟩
    | own=>
     rw[List.mem_singleton] at hx
     subst hx
     exact .inl ⟨id,.inr ⟨t,e,ts,r,rfl⟩,rfl,hl⟩
    | deep=>
     rw[List.mem_singleton] at hx
     subst hx
     exact .inl ⟨id,.inr ⟨t,e,ts,r,rfl⟩,rfl,hl⟩
   | row t e r fz u=>
    simp only[hl] at hx
    cases ck with
    | d_=>simp at hx
    | mL=>
     rw[List.mem_singleton] at hx
     subst hx
     exact .inl ⟨id,.inl ⟨t,e,r,fz,u,rfl⟩,rfl,hl⟩
    | own=>
     rw[List.mem_singleton] at hx
     subst hx
     exact .inl ⟨id,.inl ⟨t,e,r,fz,u,rfl⟩,rfl,hl⟩
    | deep=>
     rw[List.mem_singleton] at hx
     subst hx
     exact .inl ⟨id,.inl ⟨t,e,r,fz,u,rfl⟩,rfl,hl⟩
 | nil=>
  simp only[au] at hx
  cases ck with
  | mL=>simp at hx
  | d_ t=>
   simp only at hx
   split at hx<;>simp at hx
  | own t=>
   simp only at hx
   split at hx
   ·rename_i e he
    rw[List.mem_singleton] at hx
    subst hx
    exact .inr ⟨.inl ⟨t,e,rfl⟩,rfl⟩
   ·simp at hx
  | deep t ts=>
   simp only at hx
   split at hx
   ·rename_i e he
    rw[List.mem_singleton] at hx
    subst hx
    exact .inr ⟨.inr ⟨t,e,ts,rfl⟩,rfl⟩
   ·simp at hx
 | kb=>simp [au] at hx
 | agg=>simp [au] at hx
 | DG=>simp [au] at hx
 | d9=>simp [au] at hx
 | ptr=>simp [au] at hx
 | fy=>simp [au] at hx
 | undef=>simp [au] at hx
 | int=>simp [au] at hx
 | bool=>simp [au] at hx
 | str=>simp [au] at hx
 | sl=>simp [au] at hx
 | gN=>simp [au] at hx
 | FR=>simp [au] at hx
 | FW g cs=>
  simp only[au] at hx
  cases hp:kd cs<;>simp [hp] at hx
theorem gT {hp:List (Nat×aj)} {lW:List (Nat×CK)} {b:Nat} :∀(l:List SV) (k:Nat),∀x∈(bF P hp lW b k l).2,Bw (dI hp) x
 | [],_,x,hx=>by simp [bF] at hx
 | s::l,k,x,hx=>by
  simp only[bF] at hx
  rcases List.mem_append.1 hx with hx | hx
  ·exact iS x hx
  ·exact gT l (k+1) x hx
def Ig (h:Nat→Option aj) (R:Rn) (β:Env) (φ:Nat→List Nat) (j:Nat) (o:aj):Prop:=
 (A_ R j=none∧∃t cells,h j=some (.box t cells)∧∃eR,o= .box t eR)∨
 (∃id,A_ R j=some (o,some id)∧h id=some o∧fE o)∨
 (A_ R j=some (o,none)∧Bv o)
theorem fE.FJ {o:aj} (ho:fE o) {β:Env} {R:Rn} {j id:Nat} {o':aj} (h1:A_ R j=some (o',some id)):al (β.iQ R) j o=al β id o:=by
 rcases ho with ⟨t,e,r,fz,u,rfl⟩ | ⟨t,e,ts,r,rfl⟩<;>simp [al,Env.iQ,h1]
theorem fE.Gm {o:aj} (ho:fE o) {w:World} {av av':Nat→Prop} {β:Env} {R:Rn} {j id:Nat} {o':aj} {φ:List Nat} (h1:A_ R j=some (o',some id)) (cR:∀b,av' b→av b) (h:fU w av β id o φ):fU w av' (β.iQ R) j o φ:=by
 have hval:(β.iQ R).val j=β.val id:=by simp [Env.iQ,h1]
 have jo:(β.iQ R).nb j=β.nb id:=by simp [Env.iQ,h1]
 rcases ho with ⟨t,e,r,fz,u,rfl⟩ | ⟨t,e,ts,r,rfl⟩
 ·obtain⟨vals,aA,g1,g2,g3,g4⟩:=h
  exact⟨vals,aA,by rw[hval];exact g1,g2,fun b hb hx=>g3 b hb (cR b hx),by rw[hval];exact g4⟩
 ·obtain⟨vals,aS,g1,g2,g3,g4⟩:=h
  exact⟨vals,aS,by rw[hval];exact g1,g2,by rw[jo];exact g3,by rw[hval];exact g4⟩
theorem fE.CS {o:aj} (ho:fE o) {t:TypeId} {cs:List SV} (h:o= .box t cs):False:=by
 rcases ho with ⟨_,_,_,_,_,rfl⟩ | ⟨_,_,_,_,rfl⟩<;>cases h
theorem Ct {f f':Nat→SV} {h h':Nat→Option aj} {β:Env} {φ:Nat→List Nat} {tm:Array Value} {w:World} (hc:Core w0 S f h β φ tm w) {R:Rn} (hold:(ew R).Nodup)
  (bG:∀j o,h' j=some o→Ig h R β φ j o)
  (cR:(∀b,Av h' (β.iQ R) b→Av h β b)→(∀i,ak w (Av h' (β.iQ R)) (β.iQ R) (f' i) (tm.getD i undef))∧
   ∀j t cells eR,h' j=some (.box t eR)→h j=some (.box t cells)→∀vs,af w (Av h β) β cells vs→af w (Av h' (β.iQ R)) (β.iQ R) eR vs):
  Core w0 S f' h' (β.iQ R) (iV φ R) tm w:=by
 have hA:∀b,Av h' (β.iQ R) b→Av h β b:=by
  rintro b (⟨j,o,hj,hb⟩ | hb)
  ·rcases bG j o hj with ⟨h1,t,cells,h2,eR,rfl⟩ | ⟨id,h1,h2,ho⟩ | ⟨h1,he⟩
   ·exact .inl ⟨j,_,h2,by simpa [al,Env.iQ] using hb⟩
   ·refine .inl ⟨id,_,h2, ?_⟩
    rw[ho.FJ h1] at hb
    exact hb
   ·rcases he with ⟨t,e,rfl⟩ | ⟨t,e,ts,rfl⟩<;>simp [al,Env.iQ,h1,Value.ownBlock] at hb
  ·exact .inr hb
 obtain⟨ku,ko⟩:=cR hA
 refine⟨ku,fun j o hj=> ?_,fun j o hj=> ?_,fun i j oi oj cM hi hj b hb=> ?_,hc.gI,hc.bars⟩
 ·rcases bG j o hj with ⟨h1,t,cells,h2,eR,rfl⟩ | ⟨id,h1,h2,ho⟩ | ⟨h1,he⟩
  ·obtain⟨vs,g1,g2,g3,g4⟩:=hc.ay j _ h2
   refine⟨vs,g1,ko j t cells eR hj h2 vs g2,g3, ?_⟩
   simp only[iV,h1]
   exact g4
  ·simp only[iV,h1]
   exact ho.Gm h1 hA (hc.ay id _ h2)
  ·have hval:(β.iQ R).val j= .slice none 0 0:=by simp [Env.iQ,h1]
   have jo:(β.iQ R).nb j=[]:=by simp [Env.iQ,h1]
   rcases he with ⟨t,e,rfl⟩ | ⟨t,e,ts,rfl⟩
   ·refine⟨[],[],⟨by simp,.inl ⟨hval,rfl,rfl⟩⟩,⟨rfl,by simp⟩,by simp, ?_⟩
    simp [iV,h1,hval,Value.ownBlock]
   ·refine⟨[],[],⟨by simp,.inl ⟨hval,rfl,rfl⟩⟩,⟨rfl,by simp⟩,by rw[jo];rfl, ?_⟩
    simp [iV,h1,hval,Value.ownBlock]
 ·rcases bG j o hj with ⟨h1,t,cells,h2,eR,rfl⟩ | ⟨id,h1,h2,ho⟩ | ⟨h1,he⟩
  ·simp only[iV,h1];exact hc.fresh j _ h2
  ·simp only[iV,h1];exact hc.fresh id _ h2
  ·simp [iV,h1]
 ·rcases bG i oi hi with ⟨h1,t,cells,h2,eR,rfl⟩ | ⟨id,h1,h2,ho⟩ | ⟨h1,he⟩<;>
   rcases bG j oj hj with ⟨k1,t',Hb,k2,JG,rfl⟩ | ⟨LW,k1,k2,d8⟩ | ⟨k1,JN⟩<;>
   simp only[iV,h1,k1] at hb ⊢
  ·exact hc.sep i j _ _ cM h2 k2 b hb
  ·refine hc.sep i LW _ _ (fun e=> ?_) h2 k2 b hb
   rw[e,k2,Option.some.injEq] at h2
   exact d8.CS h2
  ·simp
  ·refine hc.sep id j _ _ (fun e'=> ?_) h2 k2 b hb
   rw[e',k2,Option.some.injEq] at h2
   exact ho.CS h2.symm
  ·refine hc.sep id LW _ _ (fun e'=> ?_) h2 k2 b hb
   subst e'
   have:=Gn hold (Dv h1) (Dv k1) rfl rfl
   simp only[Prod.mk.injEq] at this
   exact cM this.1
  ·simp
  ·simp at hb
  ·simp at hb
  ·simp at hb
theorem Cs {an:lC} {st:St} {a:Act} {w:World} (hR:Rel w0 S st a w) (aJ:(kg P an st).ok=true):Rel w0 S (kg P an st) a w∧st.ok=true:=by
 unfold kg at aJ ⊢
 simp only at aJ ⊢
 cases hnd:eW (ew ((aV P st an.cb).2++(aP P st.hp an.boxes).2)) &&
   eW ((aP P st.hp an.boxes).1.map (·.1)++((aV P st an.cb).2++(aP P st.hp an.boxes).2).map (·.1))
 ·rw[hnd] at aJ
  simp [bf] at aJ
 rw[hnd] at aJ
 simp only[cond_true] at aJ ⊢
 refine⟨?_,aJ⟩
 simp only[Bool.and_eq_true] at hnd
 obtain⟨β,φ,hc⟩:=hR.core
 have hold:=ft hnd.1
 have GK:=ft hnd.2
 rw[List.nodup_append] at GK
 obtain⟨M1,My,Hp⟩:=GK
 have jL:∀x∈(aV P st an.cb).2,x∈(aV P st an.cb).2++(aP P st.hp an.boxes).2:=fun x hx=>List.mem_append_left _ hx
 have An:∀x∈(aP P st.hp an.boxes).2,x∈(aV P st an.cb).2++(aP P st.hp an.boxes).2:=fun x hx=>List.mem_append_right _ hx
 have GH:∀x∈(aV P st an.cb).2++(aP P st.hp an.boxes).2,Bw (dI st.hp) x:=by
  intro x hx
  rcases List.mem_append.1 hx with hx | hx
  ·obtain⟨i,ck,h1⟩:=gU _ hx
   exact iS x h1
  ·obtain⟨lW,j,t,cells,h1,h2⟩:=fl _ hx
   exact gT cells 0 x h2
 generalize (aV P st an.cb).2++(aP P st.hp an.boxes).2=R at*
 have jI:∀x∈R,A_ R x.1=some x.2:=fun x hx=>Fp hx My
 have g_:Core w0 S st.get (dI st.hp) β φ a.tmps w:=hc
 refine⟨hR.size,hR.fx,hR.defers,hR.kept,β.iQ R,iV φ R, ?_⟩
 have kr:∀j o,dI ((aP P st.hp an.boxes).1++R.map (fun x=>(x.1,x.2.1))) j=some o→(j,o)∈(aP P st.hp an.boxes).1∨∃lL,(j,o,lL)∈R:=by
  intro j o hj
  rcases List.mem_append.1 (Du hj) with h1 | h1
  ·exact .inl h1
  ·obtain⟨x,hx,he⟩:=List.mem_map.1 h1
   obtain⟨k,o',lL⟩:=x
   simp only[Prod.mk.injEq] at he
   obtain⟨rfl,rfl⟩:=he
   exact .inr ⟨lL,hx⟩
 refine Ct g_ hold (fun j o hj=> ?_) (fun hA=>⟨fun i=> ?_,fun j t cells eR hj hh vs MQ=> ?_⟩)
 ·rcases kr j o hj with h1 | ⟨lL,h1⟩
  ·obtain⟨lW,t,cells,h2,h3,_⟩:=dP _ h1
   refine .inl ⟨Fo (fun hm=>Hp j (List.mem_map_of_mem (f:=(·.1)) h1) j hm rfl),t,cells,h2,_,h3⟩
  ·rcases GH _ h1 with ⟨id,g1,g2,g3⟩ | ⟨g1,g2⟩
   ·simp only at g1 g2 g3
    subst g2
    exact .inr (.inl ⟨id,jI _ h1,g3,g1⟩)
   ·simp only at g1 g2
    subst g2
    exact .inr (.inr ⟨jI _ h1,g1⟩)
 ·show ak w _ _ (jf (aV P st an.cb).1 i) _
  rcases gV (P:=P) (st:=st) (i:=i) an.cb with h1 | ⟨ck,h1,h2⟩
  ·rw[h1];simp [ak]
  ·rw[h1]
   exact (ju g_ (hc.cb i) hA (fun x hx=>jI x (jL x (h2 x hx)))).1
 ·rcases kr j _ hj with h1 | ⟨lL,h1⟩
  ·obtain⟨lW,t',Hb,h2,h3,h4⟩:=dP _ h1
   rw[hh] at h2
   simp only[Option.some.injEq,aj.box.injEq] at h2
   obtain⟨rfl,rfl⟩:=h2
   simp only[aj.box.injEq,true_and] at h3
   rw[h3]
   exact (iT g_ hA cells 0 vs MQ (fun x hx=>jI x (An x (h4 x hx)))).1
  ·rcases GH _ h1 with ⟨id,g1,g2,g3⟩ | ⟨g1,g2⟩
   ·exact (g1.CS rfl).elim
   ·rcases g1 with ⟨_,_,g1⟩ | ⟨_,_,_,g1⟩<;>cases g1
theorem DA (st:St):st.DW.ok=st.ok:=by
 unfold St.DW
 split
 ·split
  ·split
   ·rename_i r _ _
    generalize (Nat.beq _ _ && _ && _ && _ && _:Bool)=c
    cases c<;>rfl
   ·rfl
  ·rfl
 ·rfl
theorem FA {st:St} {a:Act} {w:World} (hR:Rel w0 S st a w):Rel w0 S st.DW a w:=by
 unfold St.DW
 split
 ·rename_i id hh
  split
  ·rename_i t e t1 rows i nid aK
   split
   ·rename_i t2 e2 r u hn
    cases hb:Nat.beq t2 t1 && H2 e e2 && Nat.beq (aB e) 1 && !(Nat.beq nid id) && aq e2
    ·exact hR
    ·simp only[cond_true]
     simp only[Bool.and_eq_true,Bool.not_eq_true'] at hb
     obtain⟨⟨⟨⟨b1,b2⟩,b3⟩,b4⟩,b5⟩:=hb
     have b1:=Nat.eq_of_beq_eq_true b1
     subst b1
     have ku:∃e',e[ea e]? =some (.sl e')∧e'=e2:=by
      unfold H2 at b2
      split at b2
      ·rename_i e' he
       exact⟨e',he,aN _ _ b2⟩
      ·cases b2
     have cM:nid≠id:=Nat.ne_of_beq_eq_false b4
     obtain⟨β,φ,hc⟩:=hR.core
     obtain⟨β',φ',g_⟩:=DX hc (h':=dI (kC [(id,some (.deep t e [t2] (rows.set i (bT (rows.getD i []) (ea e) [.sl r])) none)),(nid,none)] st.hp)) aK hn ku (Nat.eq_of_beq_eq_true b3) cM b5
      (by rw[ib];simp [fo,az]) (fun j hj=>by rw[ib];simp [fo,az,hj];rfl)
     exact⟨hR.size,hR.fx,hR.defers,hR.kept,β',φ',g_⟩
   ·exact hR
  ·exact hR
 ·exact hR
theorem fZ (st:St):∀(l:List (Nat×CK)),bV st.obj (dn st l)∧aO (dn st l)=true
 | []=>⟨by simp [dn,bV],rfl⟩
 | (i,.mL)::l=>fZ st l
 | (i,.own _)::l=>fZ st l
 | (i,.deep _ _)::l=>fZ st l
 | (i,.d_ _)::l=>by
  have ih:=fZ st l
  simp only[dn]
  split
  ·rename_i id hg
   split
   ·rename_i t e r fz u aK
    cases hm:bS id (dn st l)
    ·exact ih
    ·refine⟨fun x hx=> ?_,by simp only[cond_true,aO,hm,ih.2,Bool.and_self]⟩
     simp only[cond_true] at hx
     rcases List.mem_cons.1 hx with rfl | hx
     ·exact⟨_,aK,.inl ⟨t,fz,rfl⟩⟩
     ·exact ih.1 x hx
   ·exact ih
  ·exact ih
theorem FZ {an:lC} {st:St} {a:Act} {w:World} (hR:Rel w0 S st a w):Rel w0 S (st.Kb an) a w:=by
 obtain⟨β,φ,hc⟩:=hR.core
 obtain⟨h1,h2⟩:=fZ st an.cb
 refine⟨hR.size,hR.fx,hR.defers,hR.kept,β,bo φ (dn st an.cb), ?_⟩
 have:=hc.gx _ h1 h2
 show Core w0 S st.get (dI (kC (ai (dn st an.cb)) st.hp)) _ _ _ _
 rw[ib]
 exact this
theorem Ad {an:lC} {st:St} {a:Act} {w:World} (hR:Rel w0 S st a w) (aJ:(canon P an st).ok=true):Rel w0 S (canon P an st) a w∧st.ok=true:=by
 have:=Cs (FZ (an:=an) (FA hR)) aJ
 have h2:=this.2
 simp only[St.Kb] at h2
 rw[DA] at h2
 exact⟨this.1,h2⟩
end
end Go.Proofs.YtnlkklmcfafgeaaGreat.Vm
namespace Go.Proofs.YtnlkklmcfafgeaaGreat.Vm
section
variable {P:Program} {Γ:Ctx} {w0:World} {S:Own} {A:List (Nat×lC)} {N:Nat} {r:List DC}
structure Lu (K:AH) (r:List DC):Prop where
 eQ:∀st,K.eQ st=(true,r)→st.ok=true
 ext:∀i st,K.ext i st=(true,r)→st.ok=true
 ret:∀st,K.ret st=(true,r)→st.ok=true
theorem DI {an:lC} {st:St} (h:(kg P an st).ok=true):st.ok=true:=by
 unfold kg at h
 simp only at h
 cases hnd:eW (ew ((aV P st an.cb).2++(aP P st.hp an.boxes).2)) &&
   eW ((aP P st.hp an.boxes).1.map (·.1)++((aV P st an.cb).2++(aP P st.hp an.boxes).2).map (·.1))
 ·rw[hnd] at h
  simp [bf] at h
 ·rw[hnd] at h
  exact h
theorem jv {an:lC} {st:St} (h:(canon P an st).ok=true):st.ok=true:=by
 have:=DI h
 have h2:st.DW.ok=true:=this
 rwa [DA] at h2
theorem bI:ke≠(true,r):=by simp [ke]
theorem Bb {st:St} {c:Operand} {x y:Code} {g:Bool} (h:(merge st g (exec P Γ x (st.reset.dk c true)) (exec P Γ y (st.reset.dk c false))).ok=true):st.ok=true:=by
 have lI:=c_ h
 cases g with
 | true=>have:=(d7 x _ (lI.1 rfl)).ok;rwa [eK] at this
 | false=>have:=(d7 y _ (lI.2 rfl)).ok;rwa [eK] at this
def kW (P:Program) (Γ:Ctx) (A:List (Nat×lC)) (N:Nat) (x:Code) (an:lC) (K:AH) (n:Nat):St→kL:=
 Nat.rec (motive:=fun _=>St→kL) (fun _=>ke) (fun _ ih s=>run P Γ A N x s {eQ:=fun s'=>ih (canon P an s'),ext:=K.ext,ret:=K.ret}) n
theorem jg {x:Code} {an:lC} {K:AH} {n:Nat} {s:St} :kW P Γ A N x an K (n+1) s=run P Γ A N x s {eQ:=fun s'=>kW P Γ A N x an K n (canon P an s'),ext:=K.ext,ret:=K.ret} :=rfl
theorem fP:∀(c:Code) (st:St) (K:AH),Lu K r→run P Γ A N c st K=(true,r)→st.ok=true
 | .skip,st,K,hK,h=>hK.eQ st (by simpa only[run] using h)
 | .region id ops draw,st,K,hK,h=>by
  simp only[run] at h
  exact (AF (hK.eQ _ (Dl h))).ok
 | .seq x y,st,K,hK,h=>by
  simp only[run] at h
  exact fP x st {eQ:=fun s=>run P Γ A N y s K,ext:=K.ext,ret:=K.ret} ⟨fun s hs=>fP y s K hK hs,hK.ext,hK.ret⟩ h
 | .cond c x y,st,K,hK,h=>by
  simp only[run] at h
  split at h
  ·rename_i t Al
   cases t with
   | true=>exact fP x st K hK h
   | false=>exact fP y st K hK h
  ·rename_i g Al
   cases hm:simple x && simple y && kA Γ st g (exec P Γ x (st.reset.dk c true)) (exec P Γ y (st.reset.dk c false))
   ·rw[hm] at h
    simp only[cond_false] at h
    cases g with
    | true=>
     have:=fP x _ K hK h
     rwa [eK] at this
    | false=>
     have:=fP y _ K hK h
     rwa [eK] at this
   ·rw[hm] at h
    simp only[cond_true] at h
    exact Bb (hK.eQ _ (Dl h))
  ·exact absurd h bI
 | .block id x,st,K,hK,h=>by
  simp only[run] at h
  refine fP x st {eQ:=K.eQ,ext:=fun i s=>bif Nat.beq i id then K.eQ s else K.ext i s,ret:=K.ret} ⟨hK.eQ,fun i s hs=> ?_,hK.ret⟩ h
  simp only at hs
  cases hb:Nat.beq i id
  ·rw[hb] at hs;exact hK.ext i s hs
  ·rw[hb] at hs;exact hK.eQ s hs
 | .loop x,st,K,hK,h=>by
  simp only[run] at h
  split at h
  ·rename_i an Me
   have key:∀n s,kW P Γ A N x an K n s=(true,r)→s.ok=true:=by
    intro n
    induction n with
    | zero=>intro s hs;exact absurd hs bI
    | succ n ih=>
     intro s hs
     rw[jg] at hs
     exact fP x s {eQ:=fun s'=>kW P Γ A N x an K n (canon P an s'),ext:=K.ext,ret:=K.ret} ⟨fun s' BP=>jv (ih _ BP),hK.ext,hK.ret⟩ hs
   exact jv (key N _ h)
  ·exact absurd h bI
 | .exit id,st,K,hK,h=>hK.ext id st (by simpa only[run] using h)
 | .ret,st,K,hK,h=>hK.ret st (by simpa only[run] using h)
 | .rangeFunc ..,st,_,_,h=>by simp only[run] at h;exact absurd h bI
 | .scope ..,st,_,_,h=>by simp only[run] at h;exact absurd h bI
 | .goto ..,st,_,_,h=>by simp only[run] at h;exact absurd h bI
 | .label ..,st,_,_,h=>by simp only[run] at h;exact absurd h bI
 | .refuse ..,st,_,_,h=>by simp only[run] at h;exact absurd h bI
structure KQ (w0:World) (S:Own) (K:AH) (r:List DC) (Q:Exit→Act→World→Prop):Prop where
 eQ:∀st a w,Rel w0 S st a w→K.eQ st=(true,r)→Q .normal a w
 ext:∀i st a w,Rel w0 S st a w→K.ext i st=(true,r)→Q (.exit i) a w
 ret:∀st a w,Rel w0 S st a w→K.ret st=(true,r)→Q .ret a w
theorem cP (eV:bH P Γ):∀(c:Code) (st:St) (K:AH) (a:Act) (w:World) (Q:Exit→Act→World→Prop),Lu K r→Rel w0 S st a w→run P Γ A N c st K=(true,r)→KQ w0 S K r Q→c.wp P Q a w
 | .skip,st,K,a,w,Q,hK,hR,h,hQ=>wp_skip (hQ.eQ st a w hR (by simpa only[run] using h))
 | .region id ops draw,st,K,a,w,Q,hK,hR,h,hQ=>by
  simp only[run] at h
  have h:=Dl h
  exact jY eV hR (hK.eQ _ h) (fun a' w' eS=>hQ.eQ _ a' w' eS h)
 | .seq x y,st,K,a,w,Q,hK,hR,h,hQ=>by
  simp only[run] at h
  refine wp_seq (cP eV x st {eQ:=fun s=>run P Γ A N y s K,ext:=K.ext,ret:=K.ret} a w _ ⟨fun s hs=>fP y s K hK hs,hK.ext,hK.ret⟩ hR h ⟨fun s a' w' eS hs=> ?_,fun i s a' w' eS hs=> ?_,fun s a' w' eS hs=> ?_⟩)
  ·exact cP eV y s K a' w' Q hK eS hs hQ
  ·exact hQ.ext i s a' w' eS hs
  ·exact hQ.ret s a' w' eS hs
 | .cond c x y,st,K,a,w,Q,hK,hR,h,hQ=>by
  simp only[run] at h
  split at h
  ·rename_i t Al
   refine wp_cond (Gz hR Al) ?_
   cases t with
   | true=>exact cP eV x st K a w Q hK hR h hQ
   | false=>exact cP eV y st K a w Q hK hR h hQ
  ·rename_i g Al
   have hb:=Di hR Al
   cases hm:simple x && simple y && kA Γ st g (exec P Γ x (st.reset.dk c true)) (exec P Γ y (st.reset.dk c false))
   ·rw[hm] at h
    simp only[cond_false] at h
    refine wp_cond hb ?_
    cases g with
    | true=>exact cP eV x _ K a w Q hK (iH hR hb) h hQ
    | false=>exact cP eV y _ K a w Q hK (iH hR hb) h hQ
   ·rw[hm] at h
    simp only[cond_true] at h
    have h:=Dl h
    have aJ:=hK.eQ _ h
    have he:exec P Γ (.cond c x y) st=merge st g (exec P Γ x (st.reset.dk c true)) (exec P Γ y (st.reset.dk c false)):=by
     simp only[exec,Al]
    exact gv eV (.cond c x y) st a w Q hR (by rw[he];exact aJ) (fun a' w' eS=>hQ.eQ _ a' w' eS (by rw[he];exact h))
  ·exact absurd h bI
 | .block id x,st,K,a,w,Q,hK,hR,h,hQ=>by
  simp only[run] at h
  refine wp_block (cP eV x st {eQ:=K.eQ,ext:=fun i s=>bif Nat.beq i id then K.eQ s else K.ext i s,ret:=K.ret} a w _ ⟨hK.eQ,fun i s hs=> ?_,hK.ret⟩ hR h ⟨fun s a' w' eS hs=>hQ.eQ s a' w' eS hs,fun i s a' w' eS hs=> ?_,fun s a' w' eS hs=>hQ.ret s a' w' eS hs⟩)
  ·simp only at hs
   cases hb:Nat.beq i id
   ·rw[hb] at hs;exact hK.ext i s hs
   ·rw[hb] at hs;exact hK.eQ s hs
  ·simp only at hs
   simp only[Exit.inBlock]
   cases hb:Nat.beq i id
   ·rw[hb] at hs
    rw[if_neg (Nat.ne_of_beq_eq_false hb)]
    exact hQ.ext i s a' w' eS hs
   ·rw[hb] at hs
    rw[if_pos (Nat.eq_of_beq_eq_true hb)]
    exact hQ.eQ s a' w' eS hs
 | .loop x,st,K,a,w,Q,hK,hR,h,hQ=>by
  simp only[run] at h
  split at h
  ·rename_i an Me
   have HI:∀n s,kW P Γ A N x an K n s=(true,r)→s.ok=true:=by
    intro n
    induction n with
    | zero=>intro s hs;exact absurd hs bI
    | succ n ih=>
     intro s hs
     rw[jg] at hs
     exact fP x s {eQ:=fun s'=>kW P Γ A N x an K n (canon P an s'),ext:=K.ext,ret:=K.ret} ⟨fun s' BP=>jv (ih _ BP),hK.ext,hK.ret⟩ hs
   have key:∀n s a w,Rel w0 S s a w→kW P Γ A N x an K n s=(true,r)→Code.rounds P x Q n a w:=by
    intro n
    induction n with
    | zero=>intro s a w _ hs;exact absurd hs bI
    | succ n ih=>
     intro s a w hR hs
     rw[jg] at hs
     rw[rounds_succ]
     refine cP eV x s {eQ:=fun s'=>kW P Γ A N x an K n (canon P an s'),ext:=K.ext,ret:=K.ret} a w _ ⟨fun s' BP=>jv (HI _ _ BP),hK.ext,hK.ret⟩ hR hs ⟨fun s' a' w' eS BP=> ?_,fun i s' a' w' eS BP=> ?_,fun s' a' w' eS BP=> ?_⟩
     ·exact ih _ a' w' (Ad eS (HI _ _ BP)).1 BP
     ·exact hQ.ext i s' a' w' eS BP
     ·exact hQ.ret s' a' w' eS BP
   exact wp_loop_rounds N (key N _ a w (Ad hR (HI _ _ h)).1 h)
  ·exact absurd h bI
 | .exit id,st,K,a,w,Q,hK,hR,h,hQ=>wp_exit (hQ.ext id st a w hR (by simpa only[run] using h))
 | .ret,st,K,a,w,Q,hK,hR,h,hQ=>wp_ret (hQ.ret st a w hR (by simpa only[run] using h))
 | .rangeFunc ..,st,_,_,_,_,_,_,h,_=>by simp only[run] at h;exact absurd h bI
 | .scope ..,st,_,_,_,_,_,_,h,_=>by simp only[run] at h;exact absurd h bI
 | .goto ..,st,_,_,_,_,_,_,h,_=>by simp only[run] at h;exact absurd h bI
 | .label ..,st,_,_,_,_,_,_,h,_=>by simp only[run] at h;exact absurd h bI
 | .refuse ..,st,_,_,_,_,_,_,h,_=>by simp only[run] at h;exact absurd h bI
end
end Go.Proofs.YtnlkklmcfafgeaaGreat.Vm
namespace Go.Proofs.YtnlkklmcfafgeaaGreat.Vm
section
variable {P:Program} {Γ:Ctx} {w0:World} {S:Own} {A:List (Nat×lC)} {N:Nat}
variable {f:Nat→SV} {h:Nat→Option aj} {β:Env} {φ:Nat→List Nat} {tm:Array Value} {w:World}
def mB (tmps:Array Value):ResultVar→Sem Value
 | .tmp t=>pure (tmps.getD t undef)
 | .cell a t=>do loadVar t (←asAddr (tmps.getD a undef))
theorem Fu (hc:Core w0 S f h β φ tm w) {id off:Nat} {t:TypeId} {e:cJ} (he:(mv P t (.ptr id off)).val f h=some e) {v:Value} (hv:v= .pointer (some ⟨β.cW id,off,none⟩)):
  ∃u,(do loadVar t (←asAddr v):Sem Value).run P w= .ok u w∧ak w (Av h β) β e.sv u:=by
 have conv:∀u,(Instr.loadAt t v).run P w= .ok u w→(do loadVar t (←asAddr v):Sem Value).run P w= .ok u w:=by
  intro u hu
  subst hv
  exact hu
 unfold mv at he
 split at he
 case h_2=>simp at he
 rename_i td hu
 simp only[CO,M.aT,Option.bind_eq_some_iff] at he
 obtain⟨ob,aK,he⟩:=he
 split at he
 ·rename_i t' cells
  cases ha:bj P t
  ·simp only[ha,cond_false] at he
   split at he
   ·rename_i s hs
    simp only[M.aa,Option.some.injEq] at he
    subst he
    obtain⟨vs,hh,hr,_,_⟩:=hc.ay id _ aK
    obtain⟨u,CJ,fi⟩:=af.get _ _ _ _ hr hs
    refine⟨u,conv u ?_,fi⟩
    rw[hv]
    exact dZ ha hu (by rw[jw hh];exact CJ)
   ·simp at he
  ·simp only[ha,cond_true] at he
   split at he
   ·rename_i i hi
    cases hz:Nat.ble (off+i.size) cells.length
    ·simp [hz] at he
    ·simp only[hz,cond_true,M.aa,Option.some.injEq] at he
     subst he
     have hle:=Nat.le_of_ble_eq_true hz
     obtain⟨vs,hh,hr,bd,_⟩:=hc.ay id _ aK
     have hlen:=af.length _ _ hr
     refine⟨.agg ((vs.drop off).take i.size).toArray,conv _ ?_, ?_⟩
     ·rw[hv]
      refine dY (vs:=(vs.drop off).take i.size) ha hi (by simp;omega) (fun j v hj=> ?_)
      rw[jw hh]
      rw[List.getElem?_take] at hj
      split at hj
      ·simpa using hj
      ·cases hj
     ·simp only[ak]
      exact⟨_,rfl,af.take _ _ _ (af.drop _ _ _ hr),fun y hy=>bd y (List.mem_of_mem_drop (List.mem_of_mem_take hy))⟩
   ·simp at he
 ·simp at he
theorem iJ (hc:Core w0 S f h β φ tm w):∀(l:List ResultVar) (ss:List SV),(gG P l).val f h=some ss→∃vs,(l.mapM (mB tm)).run P w= .ok vs w∧af w (Av h β) β ss vs
 | [],ss,hs=>by
  simp only[gG,M.aa,Option.some.injEq] at hs
  subst hs
  exact⟨[],by simp,by simp [af]⟩
 | .tmp t::l,ss,hs=>by
  simp only[gG,M.iy,M.ae,Option.bind_eq_some_iff,M.aa,Option.some.injEq] at hs
  obtain⟨r,hr,rfl⟩:=hs
  obtain⟨vs,h1,h2⟩:=iJ hc l r hr
  refine⟨tm.getD t undef::vs, ?_, ?_⟩
  ·simp only[List.mapM_cons,mB,Sem.run_bind,Sem.run_pure,Result.andThen_ok,h1]
  ·simp only[af]
   exact⟨_,_,rfl,hc.cb t,h2⟩
 | .cell p t::l,ss,hs=>by
  simp only[gG,M.iy,M.ae,Option.bind_eq_some_iff,M.aa,Option.some.injEq] at hs
  obtain⟨e,he,r,hr,rfl⟩:=hs
  obtain⟨vs,h1,h2⟩:=iJ hc l r hr
  have ku:=hc.cb p
  split at he
  ·rename_i id off hp
   rw[hp] at ku
   simp only[ak] at ku
   obtain⟨u,g1,g2⟩:=Fu hc he ku
   refine⟨u::vs, ?_, ?_⟩
   ·simp only[List.mapM_cons,Sem.run_bind,Sem.run_pure]
    have:(mB tm (.cell p t)).run P w= .ok u w:=g1
    simp only[this,Result.andThen_ok,h1]
   ·simp only[af]
    exact⟨_,_,rfl,g2,h2⟩
  ·simp at he
theorem CY {fn:Func} :results fn tm=(do let vs ←fn.results.mapM (mB tm);pure (if h:vs.size=1 then vs[0] else .tuple vs)):=by
 unfold results
 congr 1
theorem Gp (l:List Value):(if h:l.toArray.size=1 then l.toArray[0] else .tuple l.toArray)=pack l:=by
 cases l with
 | nil=>rfl
 | cons x l=>
  cases l with
  | nil=>rfl
  | cons y l=>simp [pack]
theorem lb {fn:Func} {vs:List Value} (hr:(fn.results.toList.mapM (mB tm)).run P w= .ok vs w):(results fn tm).run P w= .ok (pack vs) w:=by
 rw[CY,Array.mapM_eq_mapM_toList]
 simp only[Sem.run_bind,map_eq_pure_bind,Sem.run_pure,hr,Result.andThen_ok,bind_assoc,pure_bind]
 rw[Gp]
theorem gX (hc:Core w0 S f h β φ tm w):∀(CW:List RC) (ss:List SV) (vs:List Value) (q:List DC×List Nat×List Nat),af w (Av h β) β ss vs→(dR CW ss).val f h=some q→
  ∃φ' im tp,dm w CW q.1 vs φ' im tp∧(∀b∈φ',∃i∈q.2.1,(∃o,h i=some o)∧b∈φ i)∧(∀b∈tp,∃i o,i∈q.2.1∧h i=some o∧b∈al β i o)∧(q.2.1.Nodup→φ'.Nodup)∧
   (∀b∈im,¬Av h β b∨∃i∈q.2.2,(∃o,h i=some o)∧b∈φ i)
 | [],[],vs,q,hs,hq=>by
  simp only[dR,M.aa,Option.some.injEq] at hq
  subst hq
  simp only[af] at hs
  exact⟨[],[],[],⟨rfl,hs,rfl,rfl,rfl⟩,by simp,by simp,by simp,by simp⟩
 | [],_::_,vs,q,hs,hq=>by simp [dR] at hq
 | _::_,[],vs,q,hs,hq=>by simp [dR] at hq
 | rc::CW,s::ss,vs,q,hs,hq=>by
  simp only[af] at hs
  obtain⟨v,l,rfl,h1,h2⟩:=hs
  simp only[dR,M.ae,Option.bind_eq_some_iff,M.aa,Option.some.injEq] at hq
  obtain⟨q1,aG,q2,cz,rfl⟩:=hq
  obtain⟨Bn,mK,Ec,g1,g2,g3,g4,g5⟩:=gX hc CW ss l q2 h2 cz
  cases rc with
  | d_ ct=>
   simp only[fG,M.ae,Option.bind_eq_some_iff,M.aa,Option.some.injEq] at aG
   obtain⟨p,hp,rfl⟩:=aG
   obtain⟨fp,r1,r2,_,r4,_⟩:=dC hc h1 hp
   refine⟨Bn,fp++mK,Ec,⟨p.1,q2.1,v,l,fp,mK,rfl,rfl,r1,g1,rfl⟩, ?_, ?_, ?_, ?_⟩
   ·simpa using g2
   ·simpa using g3
   ·simpa using g4
   ·intro b hb
    rcases List.mem_append.1 hb with hb | hb
    ·rcases r4 b hb with h3 | ⟨x,hx,h3⟩
     ·exact .inl h3
     ·obtain⟨_,Co,_⟩:=r2 x hx
      exact .inr ⟨x.1,List.mem_append_left _ (List.mem_map_of_mem hx),⟨_,Co⟩,ah (hc.ay _ _ Co) b (by rw[fj Co] at h3;exact h3)⟩
    ·rcases g5 b hb with h3 | ⟨i,hi,h3⟩
     ·exact .inl h3
     ·exact .inr ⟨i,List.mem_append_right _ hi,h3⟩
  | own t e=>
   cases s with
   | nil=>
    simp only[fG,M.aa,Option.some.injEq] at aG
    subst aG
    simp only[ak] at h1
    subst h1
    refine⟨Bn,mK,Ec,⟨[],q2.1,_,l,[],[],Bn,Ec,rfl,rfl,⟨by simp,.inl ⟨rfl,rfl,rfl⟩⟩,⟨rfl,by simp⟩,g1,by simp [Value.ownBlock],by simp [Value.ownBlock]⟩, ?_, ?_, ?_, ?_⟩
    ·simpa using g2
    ·simpa using g3
    ·simpa using g4
    ·simpa using g5
   | own id=>
    simp only[fG,M.aT,Option.bind_eq_some_iff] at aG
    obtain⟨ob,aK,aG⟩:=aG
    split at aG
    ·rename_i t' e' r u
     cases aI:Nat.beq t t' && aF e e' && u
     ·simp [aI] at aG
     ·simp only[aI,cond_true,M.aa,Option.some.injEq] at aG
      subst aG
      simp only[Bool.and_eq_true] at aI
      obtain⟨⟨ht,he⟩,hu⟩:=aI
      have Lh:=Nat.eq_of_beq_eq_true ht
      have JN:=aN _ _ he
      subst Lh JN hu
      simp only[ak] at h1
      obtain⟨vals,aA,o1,o2,o3,o4⟩:=hc.ay id _ aK
      rw[←h1.1] at o1
      simp only[cond_true] at o4
      rw[←h1.1] at o4
      refine⟨(v.ownBlock.toList++aA.flatten)++Bn,mK,v.ownBlock.toList++Ec,⟨r,q2.1,v,l,vals,aA,Bn,Ec,rfl,rfl,o1,o2,g1,rfl,rfl⟩, ?_, ?_, ?_, ?_⟩
      ·intro b hb
       rcases List.mem_append.1 hb with hb | hb
       ·exact⟨id,List.mem_append_left _ (List.mem_singleton.2 rfl),⟨_,aK⟩,by rw[o4];exact hb⟩
       ·obtain⟨i,hi,h3⟩:=g2 b hb
        exact⟨i,List.mem_append_right _ hi,h3⟩
      ·intro b hb
       rcases List.mem_append.1 hb with hb | hb
       ·exact⟨id,_,List.mem_append_left _ (List.mem_singleton.2 rfl),aK,by rw[h1.1] at hb;simpa [al] using hb⟩
       ·obtain⟨i,o,hi,h3⟩:=g3 b hb
        exact⟨i,o,List.mem_append_right _ hi,h3⟩
      ·intro hnd
       simp only[List.singleton_append,List.nodup_cons] at hnd
       rw[List.nodup_append]
       refine⟨o4 ▸ (hc.fresh id _ aK).1,g4 hnd.2,fun b hb b' ax e=> ?_⟩
       subst e
       obtain⟨i,hi,⟨o,Cm⟩,h3⟩:=g2 b ax
       have cM:id≠i:=fun e=>hnd.1 (e ▸ hi)
       exact hc.sep id i _ _ cM aK Cm b (o4 ▸ hb) h3
      ·simpa using g5
    ·simp at aG
   | _=>simp [fG] at aG
  | deep t e ts=>
   cases s with
   | nil=>
    simp only[fG,M.aa,Option.some.injEq] at aG
    subst aG
    simp only[ak] at h1
    subst h1
    refine⟨Bn,mK,Ec,⟨[],q2.1,_,l,[],[],Bn,Ec,rfl,rfl,⟨by simp,.inl ⟨rfl,rfl,rfl⟩⟩,⟨rfl,by simp⟩,g1,by simp [Value.ownBlock],by simp [Value.ownBlock]⟩, ?_, ?_, ?_, ?_⟩
    ·simpa using g2
    ·simpa using g3
    ·simpa using g4
    ·simpa using g5
   | own id=>
    simp only[fG,M.aT,Option.bind_eq_some_iff] at aG
    obtain⟨ob,aK,aG⟩:=aG
    split at aG
    ·rename_i t' e' dN r
     cases aI:Nat.beq t t' && aF e e' && fK ts dN
     ·simp [aI] at aG
     ·simp only[aI,cond_true,M.aa,Option.some.injEq] at aG
      subst aG
      simp only[Bool.and_eq_true] at aI
      obtain⟨⟨ht,he⟩,hu⟩:=aI
      have Lh:=Nat.eq_of_beq_eq_true ht
      have JN:=aN _ _ he
      have CJ:=gk _ _ hu
      subst Lh JN CJ
      simp only[ak] at h1
      obtain⟨vals,aS,o1,o2,o3,o4⟩:=hc.ay id _ aK
      rw[←h1.1] at o1
      rw[←h1.1] at o4
      have bP:∀b∈(v.ownBlock.toList++aS.flatten),b∈al β id (.deep t e ts r none):=fun b hb=>by
       rw[h1.1] at hb
       simpa only[al,o3] using hb
      refine⟨(v.ownBlock.toList++aS.flatten)++Bn,mK,(v.ownBlock.toList++aS.flatten)++Ec,⟨r,q2.1,v,l,vals,aS,Bn,Ec,rfl,rfl,o1,o2,g1,rfl,rfl⟩, ?_, ?_, ?_, ?_⟩
      ·intro b hb
       rcases List.mem_append.1 hb with hb | hb
       ·exact⟨id,List.mem_append_left _ (List.mem_singleton.2 rfl),⟨_,aK⟩,by rw[o4];exact hb⟩
       ·obtain⟨i,hi,h3⟩:=g2 b hb
        exact⟨i,List.mem_append_right _ hi,h3⟩
      ·intro b hb
       rcases List.mem_append.1 hb with hb | hb
       ·exact⟨id,_,List.mem_append_left _ (List.mem_singleton.2 rfl),aK,bP b hb⟩
       ·obtain⟨i,o,hi,h3⟩:=g3 b hb
        exact⟨i,o,List.mem_append_right _ hi,h3⟩
      ·intro hnd
       simp only[List.singleton_append,List.nodup_cons] at hnd
       rw[List.nodup_append]
       refine⟨o4 ▸ (hc.fresh id _ aK).1,g4 hnd.2,fun b hb b' ax e=> ?_⟩
       subst e
       obtain⟨i,hi,⟨o,Cm⟩,h3⟩:=g2 b ax
       have cM:id≠i:=fun e=>hnd.1 (e ▸ hi)
       exact hc.sep id i _ _ cM aK Cm b (o4 ▸ hb) h3
      ·simpa using g5
    ·simp at aG
   | _=>simp [fG] at aG
theorem i9 (hc:Core w0 S f h β φ tm w):∀(B2:List RK) (ss:List SV) (vs:List Value) (q:List DC×List Nat×List Nat),af w (Av h β) β ss vs→(fH B2 ss).val f h=some q→
  ∃φ' im tp,fk w B2 q.1 vs φ' im tp∧(∀b∈φ',∃i∈q.2.1,(∃o,h i=some o)∧b∈φ i)∧(∀b∈tp,∃i o,i∈q.2.1∧h i=some o∧b∈al β i o)∧(q.2.1.Nodup→φ'.Nodup)∧
   (∀b∈im,¬Av h β b∨∃i∈q.2.2,(∃o,h i=some o)∧b∈φ i)
 | [],[],vs,q,hs,hq=>by
  simp only[fH,M.aa,Option.some.injEq] at hq
  subst hq
  simp only[af] at hs
  exact⟨[],[],[],⟨rfl,hs,rfl,rfl,rfl⟩,by simp,by simp,by simp,by simp⟩
 | [],_::_,vs,q,hs,hq=>by simp [fH] at hq
 | _::_,[],vs,q,hs,hq=>by simp [fH] at hq
 | k::ks,s::ss,vs,q,hs,hq=>by
  simp only[af] at hs
  obtain⟨v,l,rfl,h1,h2⟩:=hs
  simp only[fH,M.ae,Option.bind_eq_some_iff,M.aa,Option.some.injEq] at hq
  obtain⟨q1,aG,q2,cz,rfl⟩:=hq
  obtain⟨Bn,mK,Ec,g1,g2,g3,g4,g5⟩:=i9 hc ks ss l q2 h2 cz
  have one:∃us:List Value,(bif k.agg then v= .agg us.toArray else us=[v])∧(∀x∈us,x.oneCell'=true)∧∃D5 Ju JC,dm w k.cells q1.1 us D5 Ju JC∧(∀b∈D5,∃i∈q1.2.1,(∃o,h i=some o)∧b∈φ i)∧
    (∀b∈JC,∃i o,i∈q1.2.1∧h i=some o∧b∈al β i o)∧(q1.2.1.Nodup→D5.Nodup)∧(∀b∈Ju,¬Av h β b∨∃i∈q1.2.2,(∃o,h i=some o)∧b∈φ i):=by
   cases hk:k.agg with
   | true=>
    cases s with
    | agg cs=>
     simp only[hk] at aG
     simp only[ak] at h1
     obtain⟨us,rfl,gl,bd⟩:=h1
     exact⟨us,rfl,bd,gX hc k.cells cs us q1 gl aG⟩
    | _=>simp [hk] at aG
   | false=>
    have lx:(dR k.cells [s]).val f h=some q1:=by
     cases s<;>simp only[hk] at aG<;>first | exact aG | (simp at aG)
    have hO:af w (Av h β) β [s] [v]:=by simp only[af];exact⟨v,[],rfl,h1,rfl⟩
    have A3:=gX hc k.cells [s] [v] q1 hO lx
    refine⟨[v],rfl, ?_,A3⟩
    obtain⟨_,_,_,hr,_⟩:=A3
    intro x hx
    rw[List.mem_singleton] at hx
    subst hx
    cases fB:k.cells with
    | nil=>rw[fB] at hr;simp [dm] at hr
    | cons c cs=>
     rw[fB] at hr
     cases c with
     | d_ ct=>
      obtain⟨d,aX,v',cN,f1,Ff,_,hv,h3,_⟩:=hr
      simp only[List.cons.injEq] at hv
      rw[hv.1]
      exact h3.one
     | own t e=>
      obtain⟨rows,aX,v',cN,vals,aA,φ',Bm,_,hv,h3,_⟩:=hr
      simp only[List.cons.injEq] at hv
      rw[hv.1]
      exact h3.one
     | deep t e ts=>
      obtain⟨rows,aX,v',cN,vals,aA,φ',Bm,_,hv,h3,_⟩:=hr
      simp only[List.cons.injEq] at hv
      rw[hv.1]
      exact h3.one
  obtain⟨us,gl,bd,D5,Ju,JC,k1,k2,k3,k4,k5⟩:=one
  refine⟨D5++Bn,Ju++mK,JC++Ec,⟨q1.1,q2.1,v,l,us,D5,Bn,Ju,mK,JC,Ec,rfl,rfl,gl,bd,k1,g1,rfl,rfl,rfl⟩, ?_, ?_, ?_, ?_⟩
  ·intro b hb
   rcases List.mem_append.1 hb with hb | hb
   ·obtain⟨i,hi,h3⟩:=k2 b hb
    exact⟨i,List.mem_append_left _ hi,h3⟩
   ·obtain⟨i,hi,h3⟩:=g2 b hb
    exact⟨i,List.mem_append_right _ hi,h3⟩
  ·intro b hb
   rcases List.mem_append.1 hb with hb | hb
   ·obtain⟨i,o,hi,h3⟩:=k3 b hb
    exact⟨i,o,List.mem_append_left _ hi,h3⟩
   ·obtain⟨i,o,hi,h3⟩:=g3 b hb
    exact⟨i,o,List.mem_append_right _ hi,h3⟩
  ·intro hnd
   rw[List.nodup_append] at hnd ⊢
   refine⟨k4 hnd.1,g4 hnd.2.1,fun b hb b' ax e=> ?_⟩
   subst e
   obtain⟨i,hi,⟨o,Cm⟩,h3⟩:=k2 b hb
   obtain⟨j,hj,⟨o',ja⟩,h4⟩:=g2 b ax
   exact hc.sep i j _ _ (hnd.2.2 i hi j hj) Cm ja b h3 h4
  ·intro b hb
   rcases List.mem_append.1 hb with hb | hb
   ·rcases k5 b hb with h3 | ⟨i,hi,h3⟩
    ·exact .inl h3
    ·exact .inr ⟨i,List.mem_append_left _ hi,h3⟩
   ·rcases g5 b hb with h3 | ⟨i,hi,h3⟩
    ·exact .inl h3
    ·exact .inr ⟨i,List.mem_append_right _ hi,h3⟩
end
end Go.Proofs.YtnlkklmcfafgeaaGreat.Vm
set_option linter.unusedVariables false
namespace Go.Proofs.YtnlkklmcfafgeaaGreat.Vm
mutual
def G9:CT→DC→Prop
 | .int k,d=>∃n,d= .int n∧BV k n=true
 | .bool,d=>∃b,d= .bool b
 | .str,d=>∃s:List UInt8,d= .str s∧s.length≤maxLen
 | .sl e,d=>∃rows:List (List DC),d= .sl rows∧rows.length≤maxLen∧∀r∈rows,kc e r
def kc:List CT→List DC→Prop
 | [],r=>r=[]
 | c::cs,r=>∃d r',r=d::r'∧G9 c d∧kc cs r'
end
mutual
theorem bY.wt {w:World} :∀(c:CT) (d:DC) (v:Value) (fp:List Nat),bY w c d v fp→G9 c d
 | .int k,_,_,_,h=>by
  simp only[bY,G9] at h ⊢
  obtain⟨n,h1,_,h2,_⟩:=h
  exact⟨n,h1,h2⟩
 | .bool,_,_,_,h=>by
  simp only[bY,G9] at h ⊢
  obtain⟨n,h1,_⟩:=h
  exact⟨n,h1⟩
 | .str,_,_,_,h=>by
  simp only[bY,G9] at h ⊢
  obtain⟨s,h1,_,h2,_⟩:=h
  exact⟨s,h1,h2⟩
 | .sl e,_,_,_,h=>by
  simp only[bY,G9] at h ⊢
  obtain⟨rows,a,n,c,rfl,_,hn,hc,hm,hr⟩:=h
  refine⟨rows,rfl,by omega,fun r E6=> ?_⟩
  rcases hr with ⟨h0,_⟩ | ⟨_,b,o,aA,_,_,hl,_,hr⟩
  ·rw[h0] at hn
   rw[List.length_eq_zero_iff.1 hn] at E6
   simp at E6
  ·obtain⟨i,hi,rfl⟩:=List.getElem_of_mem E6
   exact a9.wt e _ _ _ (hr i rows[i] aA[i] (by simp) (by simp))
theorem a9.wt {w:World} :∀(cs:List CT) (r:List DC) (f:Nat→Option Value) (fp:List Nat),a9 w cs r f fp→kc cs r
 | [],_,_,_,h=>by
  simp only[a9,kc] at h ⊢
  exact h.1
 | c::cs,_,_,_,h=>by
  simp only[a9,kc] at h ⊢
  obtain⟨d,r',v,f1,f2,h0,_,h1,h2,_⟩:=h
  exact⟨d,r',h0,bY.wt c d v f1 h1,a9.wt cs r' _ f2 h2⟩
end
def gW:List AK→List CT
 | []=>[]
 | k::ks=>k.bD++gW ks
theorem kc.append:∀ {cs BA:List CT} {r r':List DC},kc cs r→kc BA r'→kc (cs++BA) (r++r')
 | [],_,_,_,h,h'=>by
  simp only[kc] at h
  subst h
  exact h'
 | c::cs,_,_,_,h,h'=>by
  simp only[kc] at h
  obtain⟨d,r1,rfl,h1,h2⟩:=h
  simp only[List.cons_append,kc]
  exact⟨d,r1++_,rfl,h1,h2.append h'⟩
theorem dr.wt {w:World} :∀(ks:List AK) (ds:List DC) (vs:List Value) (fp:List Nat),dr w ks ds vs fp→kc (gW ks) ds
 | [],_,_,_,h=>by
  simp only[gW,kc]
  exact h.1
 | k::ks,_,_,_,h=>by
  obtain⟨d1,d2,v,cN,f1,f2,rfl,rfl,⟨us,_,_,hr,_⟩,h2,rfl⟩:=h
  exact kc.append (a9.wt _ _ _ _ hr) (dr.wt ks d2 cN f2 h2)
section
variable {P:Program} {Γ:Ctx} {A:List (Nat×lC)} {w:World}
theorem jU:∀(cs:List CT) (d1 d2:List DC) (k:Nat),k+cs.length≤d1.length→ch cs (d1++d2) k=ch cs d1 k
 | [],_,_,_,_=>rfl
 | c::cs,d1,d2,k,h=>by
  simp only[ch]
  simp only[List.length_cons] at h
  rw[jU cs d1 d2 (k+1) (by omega)]
  congr 2
  simp only[List.getD_eq_getElem?_getD]
  rw[List.getElem?_append_left (by omega)]
theorem Ej {av:Nat→Prop} {β:Env} {k:AK} {ds:List DC} {v:Value} {fp:List Nat} (h:FV w k ds v fp) (cR:∀b∈fp,¬av b):
  ak w av β (bif k.agg then .agg (ch k.bD ds 0) else (ch k.bD ds 0).headD .fy) v:=by
 obtain⟨us,h1,h2,h3,h4⟩:=h
 obtain⟨vs,l1,l2,l3,l4⟩:=a9.bO (β:=β) h3 cR k.bD.length 0 (by omega)
 have e:vs=us:=by
  apply List.ext_getElem?
  intro j
  by_cases hj:j<vs.length
  ·have:=l2 j vs[j] (by simp)
   simp only[Nat.zero_add] at this
   rw[this]
   simp
  ·rw[List.getElem?_eq_none (by omega),List.getElem?_eq_none (by omega)]
 subst e
 simp only[List.drop_zero,List.take_length] at l3
 cases hk:k.agg with
 | true=>
  rw[hk] at h1
  simp only[cond_true] at h1 ⊢
  simp only[ak]
  exact⟨vs,h1,l3,l4⟩
 | false=>
  rw[hk] at h1
  simp only[cond_false] at h1 ⊢
  rw[h1.1] at l3
  cases hd:ch k.bD ds 0 with
  | nil=>simp [ak]
  | cons s ss=>
   rw[hd] at l3
   simp only[af] at l3
   obtain⟨v',l',e1,e2,_⟩:=l3
   simp only[List.cons.injEq] at e1
   rw[e1.1]
   exact e2
theorem Ds {av:Nat→Prop} {β:Env} :∀(ks:List AK) (ds:List DC) (vs:List Value) (fp:List Nat) (i0:Nat),dr w ks ds vs fp→(∀b∈fp,¬av b)→∀i,
  jf (je i0 ks ds) i= .fy∨∃j v,i=i0+j∧vs[j]? =some v∧ak w av β (jf (je i0 ks ds) i) v
 | [],_,_,_,_,_,_,i=> .inl rfl
 | k::ks,_,_,_,i0,h,cR,i=>by
  obtain⟨d1,d2,v,cN,f1,f2,rfl,rfl,ha,h2,rfl⟩:=h
  have hl:d1.length=k.bD.length:=by
   obtain⟨us,_,_,hr,_⟩:=ha
   exact a9.length _ _ _ _ hr
  simp only[je,jf]
  rw[jU _ _ _ _ (by omega)]
  cases hk:Nat.beq i0 i
  ·simp only[cond_false]
   rw[←hl,List.drop_left]
   rcases Ds (av:=av) (β:=β) ks d2 cN f2 (i0+1) h2 (fun b hb=>cR b (List.mem_append_right _ hb)) i with h3 | ⟨j,v',hi,hj,hs⟩
   ·exact .inl h3
   ·exact .inr ⟨j+1,v',by omega,by simpa using hj,hs⟩
  ·have:=Nat.eq_of_beq_eq_true hk
   subst this
   simp only[cond_true]
   exact .inr ⟨0,v,rfl,rfl,Ej ha (fun b hb=>cR b (List.mem_append_left _ hb))⟩
theorem dr.length:∀(ks:List AK) (ds:List DC) (vs:List Value) (fp:List Nat),dr w ks ds vs fp→vs.length=ks.length
 | [],_,_,_,h=>by rw[h.2.1];rfl
 | k::ks,_,_,_,h=>by
  obtain⟨d1,d2,v,cN,f1,f2,rfl,rfl,ha,h2,rfl⟩:=h
  simp [dr.length ks d2 cN f2 h2]
theorem EC {fn:Func} {s:Sum} {st:St} {r:List DC} (h:fin P fn s st=(true,r)):st.ok=true:=by
 unfold fin at h
 split at h
 ·split at h
  ·simp only[Prod.mk.injEq] at h
   exact h.1
  ·exact absurd h bI
 split at h
 ·simp only[Prod.mk.injEq,Bool.and_eq_true] at h
  exact h.1.1.1
 ·exact absurd h bI
theorem ED {fn:Func} {s:Sum} (GR:s.pt=none) {st:St} {r:List DC} {w w':World} {fp:List Nat} {a:Act} (h:fin P fn s st=(true,r)) (hR:Rel w ⟨fun _=>False,fun b=>b<w.heap.size∧b ∉ fp,[]⟩ st a w'):
  a.defers=[]∧∃v,(results fn a.tmps).run P w'= .ok v w'∧∃vs φ im tp,Ending.returned v= .returned (pack vs)∧Kept Own.none w w'∧fk w' s.rs r vs φ im tp∧φ.Nodup∧
   (∀b∈φ,w.heap.size≤b∧b<w'.heap.size)∧∀b∈im,(b∈fp∨w.heap.size≤b)∧b ∉ tp:=by
 unfold fin at h
 rw[GR] at h
 simp only at h
 split at h
 case h_2=>exact absurd h bI
 rename_i ds own im x hr
 simp only[Prod.mk.injEq,Bool.and_eq_true,List.all_eq_true,Bool.not_eq_true'] at h
 obtain⟨⟨⟨_,aZ⟩,kp⟩,rfl⟩:=h
 obtain⟨β,φ,hc⟩:=hR.core
 have hval:=M.ey _ hr
 simp only[M.ae,Option.bind_eq_some_iff] at hval
 obtain⟨ss,h1,h2⟩:=hval
 obtain⟨vs,g1,g2⟩:=iJ hc _ _ h1
 obtain⟨φ',Ff,Bm,k1,k2,k3,k4,k5⟩:=i9 hc _ _ _ _ g2 h2
 refine⟨hR.defers,pack vs,lb g1,vs,φ',Ff,Bm,rfl,⟨hR.kept.os,hR.kept.tape,hR.kept.output,hR.kept.size,fun k hk hn=>hR.kept.block k hk (fun h=>h)⟩,k1,k4 (ft aZ), ?_, ?_⟩
 ·intro b hb
  obtain⟨i,_,⟨o,Cm⟩,mg⟩:=k2 b hb
  have:=(hc.fresh i o Cm).2 b mg
  rcases this.1 with h3 | h3
  ·exact⟨h3,this.2⟩
  ·exact h3.elim
 ·intro b hb
  rcases k5 b hb with h3 | ⟨i,hi,⟨o,Cm⟩,mg⟩
  ·refine⟨?_,fun hx=> ?_⟩
   ·by_cases cr:b<w.heap.size
    ·by_cases hm:b∈fp
     ·exact .inl hm
     ·refine absurd (.inr ?_) h3
      rw[hc.bars]
      exact⟨cr,hm⟩
    ·exact .inr (by omega)
   ·obtain⟨j,oj,_,hj,br⟩:=k3 b hx
    exact h3 (.inl ⟨j,oj,hj,br⟩)
  ·refine⟨?_,fun hx=> ?_⟩
   ·rcases ((hc.fresh i o Cm).2 b mg).1 with h3 | h3
    ·exact .inr h3
    ·exact h3.elim
   ·obtain⟨j,oj,BM,hj,br⟩:=k3 b hx
    have cM:i≠j:=by
     rintro rfl
     have:=kp i hi
     rw[gf.2 BM] at this
     cases this
    exact hc.sep i j o oj cM Cm hj b mg (ah (hc.ay j oj hj) b br)
theorem DY (eV:bH P Γ) {g:Nat} {fn:Func} {s:Sum} (hf:P.funcs[g]? =some fn) (Hm:fn.body.isSome=true) (hn:(fn.name== "runtime.NumGoroutine")=false) (hlen:s.ps.length≤fn.ntmps) (GP:fn.ntmps<1099511627776)
  (h:∀ds,kc (gW s.ps) ds→(s.fn ds).1=true→∃N,H0 P Γ A N fn s ds=(true,(s.fn ds).2)) {w:World} {ds:List DC} {vals:List Value} {fp:List Nat} (cy:dr w s.ps ds vals fp) (aJ:(s.fn ds).1=true) {Q:Ending→World→Prop}
  (hQ:∀(st:St) (a:Act) (w':World),Rel w ⟨fun _=>False,fun b=>b<w.heap.size∧b ∉ fp,[]⟩ st a w'→fin P fn s st=(true,(s.fn ds).2)→a.defers=[]∧∃v,(results fn a.tmps).run P w'= .ok v w'∧Q (.returned v) w'):Calls P g vals.toArray w Q:=by
 obtain⟨N,bs⟩:=h ds (dr.wt _ _ _ _ cy) aJ
 obtain⟨c,hc⟩:=Option.isSome_iff_exists.1 Hm
 unfold H0 at bs
 rw[hc] at bs
 simp only at bs
 have A6:=dr.length _ _ _ _ cy
 refine calls_of_wp hf hc ?_
 let S:Own:=⟨fun _=>False,fun b=>b<w.heap.size∧b ∉ fp,[]⟩
 let β:Env:=⟨fun _=>0,fun _=>undef,S.gI,fun _=>[]⟩
 have Bs:=dr.lt _ _ _ _ cy
 have hR:Rel w S {n:=fn.ntmps,sl:=je 0 s.ps ds,hp:=[],ok:=true,ls:=[],lm:=[]} {tmps:=vals.toArray++Array.replicate (fn.ntmps - vals.toArray.size) undef,defers:=[]} w:=by
  refine⟨by simp only[Array.size_append,List.size_toArray,Array.size_replicate];rw[Nat.mod_eq_of_lt GP];omega,fun x hx=>by simp [S] at hx,rfl,⟨rfl,rfl,rfl,Nat.le_refl _,fun _ _ _=>rfl⟩,β,fun _=>[], ?_⟩
  refine⟨fun i=> ?_,fun id o ho=>by simp [St.obj,dI] at ho,fun id o ho=>by simp [St.obj,dI] at ho,fun i j o p _ ho=>by simp [St.obj,dI] at ho,fun b hb=>⟨hb.1,fun h=>h⟩,rfl⟩
  have HD:∀b∈fp,¬Av (dI []) β b:=by
   intro b hb hx
   rcases hx with ⟨id,o,ho,_⟩ | hx
   ·simp [dI] at ho
   ·exact hx.2 hb
  rcases Ds (av:=Av (dI []) β) (β:=β) s.ps ds vals fp 0 cy HD i with h1 | ⟨j,v,hi,hj,hs⟩
  ·show ak w _ _ (jf (je 0 s.ps ds) i) _
   rw[h1]
   simp [ak]
  ·have hv:(vals.toArray++Array.replicate (fn.ntmps - vals.toArray.size) undef).getD i undef=v:=by
    have Hy:j<vals.length:=(List.getElem?_eq_some_iff.1 hj).1
    rw[Array.getD_eq_getD_getElem?,Array.getElem?_append_left (by simp;omega)]
    have:i=j:=by omega
    subst this
    simp [hj]
   rw[hv]
   exact hs
 refine cP (r:=(s.fn ds).2) eV c _ {eQ:=fin P fn s,ext:=fun _ _=>ke,ret:=fin P fn s} _ w _ ⟨fun st hX=>EC hX,fun i st hX=>absurd hX bI,fun st hX=>EC hX⟩ hR bs ⟨?_, ?_, ?_⟩
 ·intro st a w' eS hX
  exact hQ st a w' eS hX
 ·intro i st a w' _ hX
  exact absurd hX bI
 ·intro st a w' eS hX
  exact hQ st a w' eS hX
theorem F9 (eV:bH P Γ) {g:Nat} {fn:Func} {s:Sum} (hf:P.funcs[g]? =some fn) (Hm:fn.body.isSome=true) (hn:(fn.name== "runtime.NumGoroutine")=false) (hlen:s.ps.length≤fn.ntmps) (GP:fn.ntmps<1099511627776)
  (h:∀ds,kc (gW s.ps) ds→(s.fn ds).1=true→∃N,H0 P Γ A N fn s ds=(true,(s.fn ds).2)) (GR:s.pt=none:=by rfl):Ee P g s:=
 ⟨⟨fn,hf,Hm,hn⟩,fun w ds vals fp cy aJ=>DY eV hf Hm hn hlen GP h cy aJ fun st a w' hR hX=>ED GR hX hR⟩
end
end Go.Proofs.YtnlkklmcfafgeaaGreat.Vm
namespace Go.Proofs.YtnlkklmcfafgeaaGreat.Vm
def focus (P:Program) (Γ:Ctx) (A:List (Nat×lC)) (N:Nat):List Bool→List (St→kL)→Code→AH→Code×AH
 | [],_,c,K=>(c,K)
 | x::p,is,c,K=>
  match c with
  | .seq a b=>bif x then focus P Γ A N p is b K else focus P Γ A N p is a {eQ:=fun s=>run P Γ A N b s K,ext:=K.ext,ret:=K.ret}
  | .cond _ a b=>bif x then focus P Γ A N p is b K else focus P Γ A N p is a K
  | .block id a=>focus P Γ A N p is a {eQ:=K.eQ,ext:=fun i s=>bif Nat.beq i id then K.eQ s else K.ext i s,ret:=K.ret}
  | .loop a=>match is,(du a).bind (Jv A) with
   | ih::MT,some an=>focus P Γ A N p MT a {eQ:=fun s'=>ih (canon P an s'),ext:=K.ext,ret:=K.ret}
   | _,_=>(c,K)
  | _=>(c,K)
def LX (P:Program) (Γ:Ctx) (A:List (Nat×lC)) (N:Nat) (fn:Func) (s:Sum) (p:List Bool) (is:List (St→kL)) (ih:St→kL) (st:St):kL:=
 match fn.body with
 | some c=>match focus P Γ A N p is c {eQ:=fin P fn s,ext:=fun _ _=>ke,ret:=fin P fn s} with
  | (.loop a,K)=>match (du a).bind (Jv A) with
   | some an=>run P Γ A N a st {eQ:=fun s'=>ih (canon P an s'),ext:=K.ext,ret:=K.ret}
   | none=>ke
  | _=>ke
 | none=>ke
def LY (B:(St→kL)→St→kL) (n:Nat):St→kL:=Nat.rec (motive:=fun _=>St→kL) (fun _=>ke) (fun _ ih s=>B ih s) n
theorem Ka {α β:Type} {c:Bool} {x y:α} {a b:β} {K:β→α} (h1:x=K a) (h2:y=K b):(bif c then x else y)=K (bif c then a else b):=by
 cases c
 ·exact h2
 ·exact h1
def J9:Sum:= {ps:=[],rs:=[],fn:=fun _=>(false,[]),G_:=true}
theorem Lw {P:Program} {g:Nat} :gP P g J9:=trivial
theorem JH {P:Program} :bH P []:=fun _ _ h=>by simp [Gh] at h
theorem Il {P:Program} {g:Nat} {s:Sum} {Γ:Ctx} (h:gP P g s) (eV:bH P Γ):bH P ((g,s)::Γ):=by
 intro g' s' h'
 simp only[Gh] at h'
 cases hb:Nat.beq g g'
 ·rw[hb] at h';exact eV g' s' h'
 ·rw[hb] at h'
  have:=Nat.eq_of_beq_eq_true hb
  subst this
  simp only[cond_true,Option.some.injEq] at h'
  subst h'
  exact h
end Go.Proofs.YtnlkklmcfafgeaaGreat.Vm
set_option linter.unusedVariables false
set_option linter.unusedSimpArgs false
namespace Go.Proofs.YtnlkklmcfafgeaaGreat.Vm
def pid (i j:Nat):Nat:=ag (5000000+i) j
def aE (i:Nat):Nat→List CT→List TT→List DC→List SV×List (Nat×aj)
 | _,[],_,_=>([],[])
 | j,.sl e::cs,ts,ds=>
  let q:=aE i (j+1) cs ts.tail ds.tail
  (.own (pid i j)::q.1,(pid i j,eO (ts.headD (.flat 0)) e (ds.headD default).cq)::q.2)
 | j,.int k::cs,ts,ds=>let q:=aE i (j+1) cs ts ds.tail;(gg (.int k) (ds.headD default)::q.1,q.2)
 | j,.bool::cs,ts,ds=>let q:=aE i (j+1) cs ts ds.tail;(gg .bool (ds.headD default)::q.1,q.2)
 | j,.str::cs,ts,ds=>let q:=aE i (j+1) cs ts ds.tail;(gg .str (ds.headD default)::q.1,q.2)
def cB:Nat→List AK→List (Option MK)→List DC→List (Nat×SV)×List (Nat×aj)
 | _,[],_,_=>([],[])
 | i,k::ks,ms,ds=>
  let q:=cB (i+1) ks ms.tail (ds.drop k.bD.length)
  match ms.headD none with
  | none=>((i,bif k.agg then .agg (ch k.bD ds 0) else (ch k.bD ds 0).headD .fy)::q.1,q.2)
  | some (.box t)=>((i,.ptr (pid i 0) 0)::q.1,(pid i 0,.box t (ch k.bD ds 0))::q.2)
  | some (.rows ts)=>
   let c:=aE i 0 k.bD ts ds
   ((i,bif k.agg then .agg c.1 else c.1.headD .fy)::q.1,c.2++q.2)
  | some (.jA ts)=>
   let c:=aE i 0 k.bD ts ds
   ((i,bif k.agg then .agg c.1 else c.1.headD .fy)::q.1,c.2++q.2)
  | some (.cL t ts)=>
   let c:=aE i 0 k.bD ts ds
   ((i,.ptr (pid i 62) 0)::q.1,(pid i 62,.box t c.1)::(c.2++q.2))
def lM (e:List CT) (t:TT) (s:SV):M (DC×Nat):=
 match s with
 | .own id=> .obj id fun
  | .row t' e' r false _=>match t with
   | .flat t=>bif Nat.beq t' t && aF e' e && aq e then .pure (.sl r,id) else .fail
   | .deep _ _=> .fail
  | .deep t' e' dN r none=>match t with
   | .flat _=> .fail
   | .deep t its=>bif Nat.beq t' t && aF e' e && fK dN its then .pure (.sl r,id) else .fail
  | _=> .fail
 | _=> .fail
def bz:List CT→List TT→List SV→M (List DC×List Nat)
 | [],_,[]=> .pure ([],[])
 | .sl e::cs,t::ts,s::ss=>(lM e t s).bind fun q=>(bz cs ts ss).bind fun r=> .pure (q.1::r.1,q.2::r.2)
 | .int _::cs,ts,_::ss=>bz cs ts ss
 | .bool::cs,ts,_::ss=>bz cs ts ss
 | .str::cs,ts,_::ss=>bz cs ts ss
 | _,_,_=> .fail
def bm:List CT→List TT→List SV→M (List DC×List Nat)
 | [],[],[]=> .pure ([],[])
 | .sl e::cs,t::ts,s::ss=>(lM e t s).bind fun q=>(bm cs ts ss).bind fun r=> .pure (q.1::r.1,q.2::r.2)
 | .int k::cs,ts,s::ss=>(eP (.int k) s).bind fun q=>(bm cs ts ss).bind fun r=> .pure (q.1::r.1,r.2)
 | .bool::cs,ts,s::ss=>(eP .bool s).bind fun q=>(bm cs ts ss).bind fun r=> .pure (q.1::r.1,r.2)
 | .str::cs,ts,s::ss=>(eP .str s).bind fun q=>(bm cs ts ss).bind fun r=> .pure (q.1::r.1,r.2)
 | _,_,_=> .fail
def fu:Nat→List AK→List (Option MK)→M (List DC×List Nat)
 | _,[],[]=> .pure ([],[])
 | i,_::ks,none::ms=>fu (i+1) ks ms
 | i,k::ks,some (.box t)::ms=> .slot i fun
  | .ptr id 0=> .obj id fun
   | .box t' cells=>bif Nat.beq t' t then
     (cg k.bD cells).bind fun r=>bif r.2.1.isEmpty then (fu (i+1) ks ms).bind fun q=> .pure (r.1++q.1,id::q.2) else .fail
    else .fail
   | _=> .fail
  | _=> .fail
 | i,k::ks,some (.rows ts)::ms=> .slot i fun s=>
  (match k.agg,s with
   | true,.agg cs=>bz k.bD ts cs
   | true,_=> .fail
   | false,.agg _=> .fail
   | false,s=>bz k.bD ts [s]).bind fun r=>(fu (i+1) ks ms).bind fun q=> .pure (r.1++q.1,r.2++q.2)
 | i,_::ks,some (.jA _)::ms=>fu (i+1) ks ms
 | i,k::ks,some (.cL t ts)::ms=> .slot i fun
  | .ptr id 0=> .obj id fun
   | .box t' cells=>bif Nat.beq t' t then
     (bm k.bD ts cells).bind fun r=>(fu (i+1) ks ms).bind fun q=> .pure (r.1++q.1,id::(r.2++q.2))
    else .fail
   | _=> .fail
  | _=> .fail
 | _,_,_=> .fail
def fI:List TT→Bool
 | []=>true
 | .flat _::l=>fI l
 | .deep _ _::_=>false
def ij:List (Option MK)→Bool
 | []=>true
 | some (.rows ts)::l=>fI ts && ij l
 | some (.jA _)::_=>false
 | some (.cL _ _)::_=>false
 | some (.box _)::l=>ij l
 | none::l=>ij l
def mM (P:Program) (fn:Func) (s:Sum) (st:St):kL:=
 match ((gG P fn.results.toList).bind fun l=>(fH s.rs l).bind fun q=>(fu 0 s.ps s.ms).bind fun r=> .pure (q,r)).run st.get st.obj with
 | some (((ds,own,im),(od,ids)),_)=>(st.ok && eW (own++ids) && (ij s.ms || eY s.ms),ds++od)
 | none=>ke
def ly:List (Option MK)→Nat
 | []=>0
 | m::l=>bif Nat.blt 0 (ly l) then ly l+1 else bif m.isSome then 1 else 0
theorem Dw:∀ {l:List (Option MK)} {j:Nat} {m:MK},l[j]? =some (some m)→j<ly l
 | [],j,m,h=>by simp at h
 | x::l,0,m,h=>by
  simp only[List.getElem?_cons_zero,Option.some.injEq] at h
  subst h
  simp only[ly]
  cases Nat.blt 0 (ly l)<;>simp
 | x::l,j+1,m,h=>by
  have:=Dw (l:=l) (j:=j) (m:=m) (by simpa using h)
  simp only[ly]
  have h0:Nat.blt 0 (ly l)=true:=Nat.ble_eq_true_of_le (by omega)
  rw[h0]
  simp only[cond_true]
  omega
def G4 (P:Program) (Γ:Ctx) (A:List (Nat×lC)) (N:Nat) (fn:Func) (s:Sum) (ds:List DC):kL:=
 match fn.body with
 | some c=>run P Γ A N c {n:=fn.ntmps+ly s.ms*1099511627776,sl:=(cB 0 s.ps s.ms ds).1,hp:=(cB 0 s.ps s.ms ds).2,ok:=true,ls:=[],lm:=[]} {eQ:=mM P fn s,ext:=fun _ _=>ke,ret:=mM P fn s}
 | none=>ke
section
variable {P:Program} {Γ:Ctx} {w0:World} {S:Own} {A:List (Nat×lC)} {N:Nat}
variable {f:Nat→SV} {h:Nat→Option aj} {β:Env} {φ:Nat→List Nat} {tm:Array Value} {w:World}
theorem mA (hc:Core w0 S f h β φ tm w) {el:List CT} {t:TT} {s:SV} {v:Value} {q:DC×Nat} (hs:ak w (Av h β) β s v) (hq:(lM el t s).val f h=some q):
  ∃rows mb o,q.1= .sl rows∧gO w t el rows v mb∧h q.2=some o∧mb=al β q.2 o∧mb.Nodup∧(fI [t]=true→mb=v.ownBlock.toList):=by
 have Gc:v.ownBlock.toList.Nodup:=by cases v.ownBlock<;>simp
 unfold lM at hq
 cases s with
 | own id=>
  simp only[M.aT,Option.bind_eq_some_iff] at hq
  obtain⟨ob,aK,hq⟩:=hq
  simp only[ak] at hs
  split at hq
  ·rename_i t' e' r u
   cases t with
   | deep t its=>simp at hq
   | flat t=>
    simp only at hq
    cases aI:Nat.beq t' t && aF e' el && aq el
    ·simp [aI] at hq
    ·simp only[aI,cond_true,M.aa,Option.some.injEq] at hq
     subst hq
     simp only[Bool.and_eq_true] at aI
     have ht:=Nat.eq_of_beq_eq_true aI.1.1
     have he:=aN _ _ aI.1.2
     subst ht he
     obtain⟨vals,aA,g1,g2,_,_⟩:=hc.ay id _ aK
     rw[←hs.1] at g1
     exact⟨r,v.ownBlock.toList,_,rfl,⟨aI.2,vals,aA,g1,g2,rfl⟩,aK,by simp only[al,hs.1],Gc,fun _=>rfl⟩
  ·rename_i t' e' dN r
   cases t with
   | flat t=>simp at hq
   | deep t its=>
    simp only at hq
    cases aI:Nat.beq t' t && aF e' el && fK dN its
    ·simp [aI] at hq
    ·simp only[aI,cond_true,M.aa,Option.some.injEq] at hq
     subst hq
     simp only[Bool.and_eq_true] at aI
     have ht:=Nat.eq_of_beq_eq_true aI.1.1
     have he:=aN _ _ aI.1.2
     have hi:=gk _ _ aI.2
     subst ht he hi
     have bP:=(hc.fresh id _ aK).1
     obtain⟨vals,aS,g1,g2,g3,g4⟩:=hc.ay id _ aK
     rw[g4] at bP
     rw[←hs.1] at g1 bP
     exact⟨r,v.ownBlock.toList++aS.flatten,_,rfl,⟨vals,aS,g1,g2,rfl⟩,aK,by simp only[al,g3,hs.1],bP,fun h=>by simp [fI] at h⟩
  ·simp at hq
 | _=>simp at hq
theorem dK (hc:Core w0 S f h β φ tm w):∀(cs:List CT) (ts:List TT) (ss:List SV) (us:List Value) (q:List DC×List Nat),af w (Av h β) β ss us→(bz cs ts ss).val f h=some q→
  ∃ψ,iX w cs ts q.1 us ψ∧(∀b∈ψ,∃id∈q.2,∃o,h id=some o∧b∈al β id o)∧(q.2.Nodup→ψ.Nodup)∧
   (fI ts=true→∀(w1:World) (ds:List DC) (mb:List Nat),aR w1 cs ts ds us mb→∀b∈mb,∃id∈q.2,∃o,h id=some o∧b∈al β id o)
 | [],ts,ss,us,q,hs,hq=>by
  cases ss with
  | nil=>
   simp only[bz,M.aa,Option.some.injEq] at hq
   subst hq
   simp only[af] at hs
   refine⟨[],⟨rfl,hs,rfl⟩,by simp,by simp,fun _ w1 ds mb hm b hb=> ?_⟩
   simp only[aR] at hm
   rw[hm.2.2.2] at hb
   simp at hb
  | cons s ss=>simp [bz] at hq
 | .int k::cs,ts,ss,us,q,hs,hq=>by
  cases ss with
  | nil=>simp [bz] at hq
  | cons s ss=>
   simp only[af] at hs
   obtain⟨v,aM,rfl,h1,h2⟩:=hs
   simp only[bz] at hq
   obtain⟨ψ,k1,k2,k3,k4⟩:=dK hc cs ts ss aM q h2 hq
   refine⟨ψ, ?_,k2,k3,fun hnd w1 ds mb hm b hb=> ?_⟩
   ·simp only[iX]
    exact⟨v,aM,rfl,k1⟩
   ·simp only[aR] at hm
    obtain⟨d,aX,v',FT,rfl,e0,_,hm⟩:=hm
    simp only[List.cons.injEq] at e0
    obtain⟨rfl,rfl⟩:=e0
    exact k4 hnd w1 aX mb hm b hb
 | .bool::cs,ts,ss,us,q,hs,hq=>by
  cases ss with
  | nil=>simp [bz] at hq
  | cons s ss=>
   simp only[af] at hs
   obtain⟨v,aM,rfl,h1,h2⟩:=hs
   simp only[bz] at hq
   obtain⟨ψ,k1,k2,k3,k4⟩:=dK hc cs ts ss aM q h2 hq
   refine⟨ψ, ?_,k2,k3,fun hnd w1 ds mb hm b hb=> ?_⟩
   ·simp only[iX]
    exact⟨v,aM,rfl,k1⟩
   ·simp only[aR] at hm
    obtain⟨d,aX,v',FT,rfl,e0,_,hm⟩:=hm
    simp only[List.cons.injEq] at e0
    obtain⟨rfl,rfl⟩:=e0
    exact k4 hnd w1 aX mb hm b hb
 | .str::cs,ts,ss,us,q,hs,hq=>by
  cases ss with
  | nil=>simp [bz] at hq
  | cons s ss=>
   simp only[af] at hs
   obtain⟨v,aM,rfl,h1,h2⟩:=hs
   simp only[bz] at hq
   obtain⟨ψ,k1,k2,k3,k4⟩:=dK hc cs ts ss aM q h2 hq
   refine⟨ψ, ?_,k2,k3,fun hnd w1 ds mb hm b hb=> ?_⟩
   ·simp only[iX]
    exact⟨v,aM,rfl,k1⟩
   ·simp only[aR] at hm
    obtain⟨d,aX,v',FT,rfl,e0,_,hm⟩:=hm
    simp only[List.cons.injEq] at e0
    obtain⟨rfl,rfl⟩:=e0
    exact k4 hnd w1 aX mb hm b hb
 | .sl el::cs,ts,ss,us,q,hs,hq=>by
  cases ts with
  | nil=>cases ss<;>simp [bz] at hq
  | cons t ts=>
   cases ss with
   | nil=>simp [bz] at hq
   | cons s ss=>
    simp only[af] at hs
    obtain⟨v,aM,rfl,h1,h2⟩:=hs
    simp only[bz,M.ae,Option.bind_eq_some_iff,M.aa,Option.some.injEq] at hq
    obtain⟨q1,aG,q2,cz,rfl⟩:=hq
    obtain⟨ψ,k1,k2,k3,k4⟩:=dK hc cs ts ss aM q2 h2 cz
    obtain⟨rows,Jw,o,r1,r2,r3,r4,r5,r6⟩:=mA hc h1 aG
    refine⟨Jw++ψ, ?_,fun b hb=> ?_,fun hnd=> ?_,fun hnd w1 ds mb hm b hb=> ?_⟩
    ·simp only[iX]
     exact⟨t,ts,rows,q2.1,v,aM,Jw,ψ,rfl,by rw[r1],rfl,r2,k1,rfl⟩
    ·rcases List.mem_append.1 hb with hb | hb
     ·exact⟨q1.2,List.mem_cons_self ..,o,r3,r4 ▸ hb⟩
     ·obtain⟨i,hi,o',ho⟩:=k2 b hb
      exact⟨i,List.mem_cons_of_mem _ hi,o',ho⟩
    ·simp only[List.nodup_cons] at hnd
     rw[List.nodup_append]
     refine⟨r5,k3 hnd.2,fun b hb b' ax e=> ?_⟩
     subst e
     obtain⟨i,hi,o',d8,mg⟩:=k2 b ax
     rw[r4] at hb
     exact hc.sep q1.2 i o o' (fun e=>hnd.1 (e ▸ hi)) r3 d8 b (ah (hc.ay _ _ r3) b hb) (ah (hc.ay _ _ d8) b mg)
    ·simp only[aR] at hm
     obtain⟨t1,Gt,L2,aX,v1,FT,m1,gb,e1,rfl,e2,EK,hm,rfl⟩:=hm
     simp only[List.cons.injEq] at e1 e2
     obtain⟨rfl,rfl⟩:=e1
     obtain⟨rfl,rfl⟩:=e2
     cases t with
     | deep t its=>simp [fI] at hnd
     | flat t=>
      obtain⟨_,vals,aA,_,_,rfl⟩:=EK
      rcases List.mem_append.1 hb with hb | hb
      ·refine⟨q1.2,List.mem_cons_self ..,o,r3, ?_⟩
       rw[←r4,r6 rfl]
       exact hb
      ·obtain⟨i,hi,o,ho⟩:=k4 (by simpa only[fI] using hnd) w1 aX gb hm b hb
       exact⟨i,List.mem_cons_of_mem _ hi,o,ho⟩
theorem dX (hc:Core w0 S f h β φ tm w):∀(cs:List CT) (ts:List TT) (ss:List SV) (us:List Value) (q:List DC×List Nat),af w (Av h β) β ss us→(bm cs ts ss).val f h=some q→
  ∃ψ,aR w cs ts q.1 us ψ∧(∀b∈ψ,∃id∈q.2,∃o,h id=some o∧b∈al β id o)∧(q.2.Nodup→ψ.Nodup)
 | [],ts,ss,us,q,hs,hq=>by
  cases ts with
  | cons _ _=>cases ss<;>simp [bm] at hq
  | nil=>
  cases ss with
  | nil=>
   simp only[bm,M.aa,Option.some.injEq] at hq
   subst hq
   simp only[af] at hs
   exact⟨[],⟨rfl,rfl,hs,rfl⟩,by simp,by simp⟩
  | cons s ss=>simp [bm] at hq
 | .int k::cs,ts,ss,us,q,hs,hq=>by
  cases ss with
  | nil=>simp [bm] at hq
  | cons s ss=>
   simp only[af] at hs
   obtain⟨v,aM,rfl,h1,h2⟩:=hs
   simp only[bm,M.ae,Option.bind_eq_some_iff,M.aa,Option.some.injEq] at hq
   obtain⟨q1,aG,q2,cz,rfl⟩:=hq
   obtain⟨fp,hr,_⟩:=dC hc h1 aG
   obtain⟨ψ,k1,k2,k3⟩:=dX hc cs ts ss aM q2 h2 cz
   refine⟨ψ, ?_,k2,k3⟩
   simp only[aR]
   refine⟨q1.1,q2.1,v,aM,rfl,rfl, ?_,k1⟩
   simp only[bY] at hr ⊢
   obtain⟨n,a,b,c,_⟩:=hr
   exact⟨n,a,b,c,trivial⟩
 | .bool::cs,ts,ss,us,q,hs,hq=>by
  cases ss with
  | nil=>simp [bm] at hq
  | cons s ss=>
   simp only[af] at hs
   obtain⟨v,aM,rfl,h1,h2⟩:=hs
   simp only[bm,M.ae,Option.bind_eq_some_iff,M.aa,Option.some.injEq] at hq
   obtain⟨q1,aG,q2,cz,rfl⟩:=hq
   obtain⟨fp,hr,_⟩:=dC hc h1 aG
   obtain⟨ψ,k1,k2,k3⟩:=dX hc cs ts ss aM q2 h2 cz
   refine⟨ψ, ?_,k2,k3⟩
   simp only[aR]
   refine⟨q1.1,q2.1,v,aM,rfl,rfl, ?_,k1⟩
   simp only[bY] at hr ⊢
   obtain⟨n,a,b,_⟩:=hr
   exact⟨n,a,b,trivial⟩
 | .str::cs,ts,ss,us,q,hs,hq=>by
  cases ss with
  | nil=>simp [bm] at hq
  | cons s ss=>
   simp only[af] at hs
   obtain⟨v,aM,rfl,h1,h2⟩:=hs
   simp only[bm,M.ae,Option.bind_eq_some_iff,M.aa,Option.some.injEq] at hq
   obtain⟨q1,aG,q2,cz,rfl⟩:=hq
   obtain⟨fp,hr,_⟩:=dC hc h1 aG
   obtain⟨ψ,k1,k2,k3⟩:=dX hc cs ts ss aM q2 h2 cz
   refine⟨ψ, ?_,k2,k3⟩
   simp only[aR]
   refine⟨q1.1,q2.1,v,aM,rfl,rfl, ?_,k1⟩
   simp only[bY] at hr ⊢
   obtain⟨n,a,b,c,_⟩:=hr
   exact⟨n,a,b,c,trivial⟩
 | .sl el::cs,ts,ss,us,q,hs,hq=>by
  cases ts with
  | nil=>cases ss<;>simp [bm] at hq
  | cons t ts=>
   cases ss with
   | nil=>simp [bm] at hq
   | cons s ss=>
    simp only[af] at hs
    obtain⟨v,aM,rfl,h1,h2⟩:=hs
    simp only[bm,M.ae,Option.bind_eq_some_iff,M.aa,Option.some.injEq] at hq
    obtain⟨q1,aG,q2,cz,rfl⟩:=hq
    obtain⟨ψ,k1,k2,k3⟩:=dX hc cs ts ss aM q2 h2 cz
    obtain⟨rows,Jw,o,r1,r2,r3,r4,r5,r6⟩:=mA hc h1 aG
    refine⟨Jw++ψ, ?_,fun b hb=> ?_,fun hnd=> ?_⟩
    ·simp only[aR]
     exact⟨t,ts,rows,q2.1,v,aM,Jw,ψ,rfl,by rw[r1],rfl,r2,k1,rfl⟩
    ·rcases List.mem_append.1 hb with hb | hb
     ·exact⟨q1.2,List.mem_cons_self ..,o,r3,r4 ▸ hb⟩
     ·obtain⟨i,hi,o',ho⟩:=k2 b hb
      exact⟨i,List.mem_cons_of_mem _ hi,o',ho⟩
    ·simp only[List.nodup_cons] at hnd
     rw[List.nodup_append]
     refine⟨r5,k3 hnd.2,fun b hb b' ax e=> ?_⟩
     subst e
     obtain⟨i,hi,o',d8,mg⟩:=k2 b ax
     rw[r4] at hb
     exact hc.sep q1.2 i o o' (fun e=>hnd.1 (e ▸ hi)) r3 d8 b (ah (hc.ay _ _ r3) b hb) (ah (hc.ay _ _ d8) b mg)
theorem iG (hc:Core w0 S f h β φ tm w):∀(i:Nat) (ks:List AK) (ms:List (Option MK)) (vs:List Value) (q:List DC×List Nat),(∀(j:Nat) v m,vs[j]? =some v→ms[j]? =some (some m)→tm.getD (i+j) undef=v)→vs.length=ks.length→(fu i ks ms).val f h=some q→
  ∃im ψ,lP w ks ms q.1 vs im ψ∧(∀b∈im,¬Av h β b)∧(eY ms=true→im=[])∧(∀b∈ψ,∃id∈q.2,∃o,h id=some o∧b∈al β id o)∧(q.2.Nodup→ψ.Nodup)∧
   (ij ms=true→∀(w1:World) (ds:List DC) (fp mb:List Nat),cK w1 ks ms ds vs fp mb→∀b∈mb,∃id∈q.2,∃o,h id=some o∧b∈al β id o)
 | i,[],ms,vs,q,hv,hl,hq=>by
  cases ms with
  | nil=>
   simp only[fu,M.aa,Option.some.injEq] at hq
   subst hq
   have hl:vs=[]:=List.length_eq_zero_iff.1 hl
   subst hl
   refine⟨[],[],⟨rfl,rfl,rfl,rfl⟩,by simp,fun _=>rfl,by simp,by simp,fun _ w1 ds fp mb hm b hb=> ?_⟩
   simp only[cK] at hm
   rw[hm.2.2.2.2] at hb
   simp at hb
  | cons m ms=>simp [fu] at hq
 | i,k::ks,ms,vs,q,hv,hl,hq=>by
  cases ms with
  | nil=>simp [fu] at hq
  | cons m ms=>
   cases vs with
   | nil=>simp at hl
   | cons v vs=>
    have hv':∀(j:Nat) u m,vs[j]? =some u→ms[j]? =some (some m)→tm.getD (i+1+j) undef=u:=fun j u m' hu hm=>by
     have:=hv (j+1) u m' (by simpa using hu) (by simpa using hm)
     rw[show i+1+j=i+(j+1) by omega]
     exact this
    have D_:vs.length=ks.length:=by simpa using hl
    have dw:=hc.cb i
    cases m with
    | none=>
     simp only[fu] at hq
     obtain⟨im,ψ,k1,k2,k4,k5,k6,k3⟩:=iG hc (i+1) ks ms vs q hv' D_ hq
     refine⟨im,ψ,⟨none,ms,[],q.1,v,vs,[],im,[],ψ,rfl,rfl,rfl,⟨rfl,rfl,rfl⟩,k1,rfl,rfl⟩,k2,k4,k5,k6,fun hnd w1 ds fp mb hm b hb=> ?_⟩
     simp only[cK] at hm
     obtain⟨m',Eb,d1,d2,v',cN,f1,f2,b1,b2,e1,rfl,e2,ha,hm,rfl,rfl⟩:=hm
     simp only[List.cons.injEq] at e1 e2
     obtain⟨rfl,rfl⟩:=e1
     obtain⟨rfl,rfl⟩:=e2
     simp only[gn] at ha
     rw[ha.2] at hb
     exact k3 hnd w1 d2 f2 b2 hm b (by simpa using hb)
    | some m=>
     have GV:tm.getD i undef=v:=hv 0 v m rfl rfl
     rw[GV] at dw
     cases m with
     | box t=>
      simp only[fu,M.iy] at hq
      cases fi:f i with
      | ptr id off=>
       rw[fi] at hq dw
       cases off with
       | succ off=>simp at hq
       | zero=>
        simp only[M.aT,Option.bind_eq_some_iff] at hq
        obtain⟨ob,aK,hq⟩:=hq
        cases ob with
        | box t' cells=>
         simp only at hq
         cases kx:Nat.beq t' t
         ·simp [kx] at hq
         ·have ky:=Nat.eq_of_beq_eq_true kx
          subst ky
          simp only[kx,cond_true,M.ae,Option.bind_eq_some_iff] at hq
          obtain⟨q1,aG,hq⟩:=hq
          cases FL:q1.2.1.isEmpty
          ·simp [FL] at hq
          ·simp only[FL,cond_true,M.ae,Option.bind_eq_some_iff,M.aa,Option.some.injEq] at hq
           obtain⟨q2,cz,rfl⟩:=hq
           obtain⟨im,ψ,k1,k2,k4,k5,k6,k3⟩:=iG hc (i+1) ks ms vs q2 hv' D_ cz
           obtain⟨us,g1,g2,g3,_⟩:=hc.ay id _ aK
           obtain⟨lG,hr,F6,jC,_⟩:=d6 hc k.bD cells us q1 g2 aG
           have M3:=af.length _ _ g2
           have j_:=cG _ _ _ aG
           simp only[ak] at dw
           have KK:q1.2.1=[]:=List.isEmpty_iff.1 FL
           refine⟨lG++im,[β.cW id]++ψ,⟨some (.box t'),ms,q1.1,q2.1,v,vs,lG,im,[β.cW id],ψ,rfl,rfl,rfl,⟨β.cW id,us,dw,g1,g3,hr,by omega,rfl⟩,k1,rfl,rfl⟩, ?_,fun h=>by simp [eY] at h,fun b hb=> ?_,fun hnd=> ?_,fun hnd w1 ds fp mb hm b hb=> ?_⟩
           ·intro b hb
            rcases List.mem_append.1 hb with hb | hb
            ·rcases jC b hb with h3 | ⟨x,hx,h3⟩
             ·exact h3
             ·rw[KK] at hx
              simp at hx
            ·exact k2 b hb
           ·rcases List.mem_append.1 hb with hb | hb
            ·exact⟨id,List.mem_cons_self ..,_,aK,by simpa only[al] using hb⟩
            ·obtain⟨j,hj,o,ho⟩:=k5 b hb
             exact⟨j,List.mem_cons_of_mem _ hj,o,ho⟩
           ·simp only[List.nodup_cons] at hnd
            rw[List.nodup_append]
            refine⟨by simp,k6 hnd.2,fun b hb b' ax e=> ?_⟩
            subst e
            obtain⟨j,hj,o',d8,br⟩:=k5 b ax
            exact hc.sep id j _ o' (fun e=>hnd.1 (e ▸ hj)) aK d8 b (ah (hc.ay _ _ aK) b (by simpa only[al] using hb)) (ah (hc.ay _ _ d8) b br)
           ·simp only[cK] at hm
            obtain⟨m',Eb,d1,d2,v',cN,f1,f2,b1,b2,e1,rfl,e2,ha,hm,rfl,rfl⟩:=hm
            simp only[List.cons.injEq] at e1 e2
            obtain⟨rfl,rfl⟩:=e1
            obtain⟨rfl,rfl⟩:=e2
            simp only[gn] at ha
            obtain⟨g,FT,ev,_,_,_,_,rfl⟩:=ha
            rcases List.mem_append.1 hb with hb | hb
            ·refine⟨id,List.mem_cons_self ..,_,aK, ?_⟩
             rw[dw] at ev
             simp only[Value.pointer.injEq,Option.some.injEq,Addr.mk.injEq,and_true] at ev
             simp only[al]
             rw[ev]
             exact hb
            ·obtain⟨j,hj,o,ho⟩:=k3 hnd w1 d2 f2 b2 hm b hb
             exact⟨j,List.mem_cons_of_mem _ hj,o,ho⟩
        | row _ _ _ _ _=>simp at hq
        | d_ _ _=>simp at hq
        | deep _ _ _ _ _=>simp at hq
      | _=>rw[fi] at hq;simp at hq
     | rows ts=>
      simp only[fu,M.iy,M.ae,Option.bind_eq_some_iff,M.aa,Option.some.injEq] at hq
      obtain⟨q1,aG,q2,cz,rfl⟩:=hq
      obtain⟨im,ψ,k1,k2,k4,k5,k6,k3⟩:=iG hc (i+1) ks ms vs q2 hv' D_ cz
      have one:∃us:List Value,(bif k.agg then v= .agg us.toArray else us=[v])∧∃FU,iX w k.bD ts q1.1 us FU∧(∀b∈FU,∃id∈q1.2,∃o,h id=some o∧b∈al β id o)∧(q1.2.Nodup→FU.Nodup)∧
        (fI ts=true→∀(w1:World) (ds:List DC) (mb:List Nat),aR w1 k.bD ts ds us mb→∀b∈mb,∃id∈q1.2,∃o,h id=some o∧b∈al β id o):=by
       cases hk:k.agg with
       | true=>
        generalize f i=s at aG dw
        cases s with
        | agg cs=>
         simp only[hk] at aG
         simp only[ak] at dw
         obtain⟨us,rfl,gl,bd⟩:=dw
         exact⟨us,rfl,dK hc k.bD ts cs us q1 gl aG⟩
        | _=>simp [hk] at aG
       | false=>
        generalize f i=s at aG dw
        have lx:(bz k.bD ts [s]).val f h=some q1:=by
         cases s<;>simp only[hk] at aG<;>first | exact aG | (simp at aG)
        have hO:af w (Av h β) β [s] [v]:=by simp only[af];exact⟨v,[],rfl,dw,rfl⟩
        exact⟨[v],rfl,dK hc k.bD ts [s] [v] q1 hO lx⟩
      obtain⟨us,gl,FU,r1,r3,r4,r2⟩:=one
      refine⟨im,FU++ψ,⟨some (.rows ts),ms,q1.1,q2.1,v,vs,[],im,FU,ψ,rfl,rfl,rfl,⟨us,gl,r1,rfl⟩,k1,rfl,rfl⟩,k2,fun h=>k4 (by simpa only[eY] using h),fun b hb=> ?_,fun hnd=> ?_,fun hnd w1 ds fp mb hm b hb=> ?_⟩
      ·rcases List.mem_append.1 hb with hb | hb
       ·obtain⟨j,hj,o,ho⟩:=r3 b hb
        exact⟨j,List.mem_append_left _ hj,o,ho⟩
       ·obtain⟨j,hj,o,ho⟩:=k5 b hb
        exact⟨j,List.mem_append_right _ hj,o,ho⟩
      ·rw[List.nodup_append] at hnd
       obtain⟨n1,n2,n3⟩:=hnd
       rw[List.nodup_append]
       refine⟨r4 n1,k6 n2,fun b hb b' ax e=> ?_⟩
       subst e
       obtain⟨i1,JR,o1,GQ,GF⟩:=r3 b hb
       obtain⟨j,hj,o',d8,br⟩:=k5 b ax
       exact hc.sep i1 j o1 o' (fun e=>n3 i1 JR j hj e) GQ d8 b (ah (hc.ay _ _ GQ) b GF) (ah (hc.ay _ _ d8) b br)
      simp only[ij,Bool.and_eq_true] at hnd
      simp only[cK] at hm
      obtain⟨m',Eb,d1,d2,v',cN,f1,f2,b1,b2,e1,rfl,e2,ha,hm,rfl,rfl⟩:=hm
      simp only[List.cons.injEq] at e1 e2
      obtain⟨rfl,rfl⟩:=e1
      obtain⟨rfl,rfl⟩:=e2
      simp only[gn] at ha
      obtain⟨FT,BS,_,ha,_⟩:=ha
      have MN:FT=us:=by
       cases hk:k.agg with
       | true=>
        rw[hk] at gl BS
        simp only[cond_true] at gl BS
        rw[gl] at BS
        simp only[Value.agg.injEq] at BS
        simpa using (congrArg Array.toList BS).symm
       | false=>
        rw[hk] at gl BS
        simp only[cond_false] at gl BS
        rw[gl,BS.1]
      subst MN
      rcases List.mem_append.1 hb with hb | hb
      ·obtain⟨j,hj,o,ho⟩:=r2 hnd.1 w1 d1 b1 ha b hb
       exact⟨j,List.mem_append_left _ hj,o,ho⟩
      ·obtain⟨j,hj,o,ho⟩:=k3 hnd.2 w1 d2 f2 b2 hm b hb
       exact⟨j,List.mem_append_right _ hj,o,ho⟩
     | jA ts=>
      simp only[fu] at hq
      obtain⟨im,ψ,k1,k2,k4,k5,k6,k3⟩:=iG hc (i+1) ks ms vs q hv' D_ hq
      exact⟨im,ψ,⟨some (.jA ts),ms,[],q.1,v,vs,[],im,[],ψ,rfl,rfl,rfl,⟨rfl,rfl,rfl⟩,k1,rfl,rfl⟩,k2,fun h=>k4 (by simpa only[eY] using h),k5,k6,fun hnd=>by simp [ij] at hnd⟩
     | cL t ts=>
      simp only[fu,M.iy] at hq
      cases fi:f i with
      | ptr id off=>
       rw[fi] at hq dw
       cases off with
       | succ off=>simp at hq
       | zero=>
        simp only[M.aT,Option.bind_eq_some_iff] at hq
        obtain⟨ob,aK,hq⟩:=hq
        cases ob with
        | box t' cells=>
         simp only at hq
         cases kx:Nat.beq t' t
         ·simp [kx] at hq
         ·have ky:=Nat.eq_of_beq_eq_true kx
          subst ky
          simp only[kx,cond_true,M.ae,Option.bind_eq_some_iff,M.aa,Option.some.injEq] at hq
          obtain⟨q1,aG,q2,cz,rfl⟩:=hq
          obtain⟨im,ψ,k1,k2,k4,k5,k6,k3⟩:=iG hc (i+1) ks ms vs q2 hv' D_ cz
          obtain⟨us,g1,g2,g3,_⟩:=hc.ay id _ aK
          obtain⟨FU,r1,r2,r3⟩:=dX hc k.bD ts cells us q1 g2 aG
          simp only[ak] at dw
          refine⟨im,(β.cW id::FU)++ψ,⟨some (.cL t' ts),ms,q1.1,q2.1,v,vs,[],im,β.cW id::FU,ψ,rfl,rfl,rfl,⟨β.cW id,us,FU,dw,g1,g3,r1,rfl,rfl⟩,k1,rfl,rfl⟩,k2,fun h=>k4 (by simpa only[eY] using h),fun b hb=> ?_,fun hnd=> ?_,fun hnd=>by simp [ij] at hnd⟩
          ·simp only[List.cons_append,List.mem_cons,List.mem_append] at hb
           rcases hb with rfl | hb | hb
           ·exact⟨id,List.mem_cons_self ..,_,aK,by simp only[al];exact List.mem_singleton.2 rfl⟩
           ·obtain⟨j,hj,o,ho⟩:=r2 b hb
            exact⟨j,List.mem_cons_of_mem _ (List.mem_append_left _ hj),o,ho⟩
           ·obtain⟨j,hj,o,ho⟩:=k5 b hb
            exact⟨j,List.mem_cons_of_mem _ (List.mem_append_right _ hj),o,ho⟩
          ·simp only[List.nodup_cons,List.mem_append,not_or,List.nodup_append] at hnd
           obtain⟨⟨n1,n2⟩,n3,n4,n5⟩:=hnd
           have Ak:∀j o',j≠id→h j=some o'→β.cW id ∉ al β j o':=by
            intro j o' hj d8 hb
            exact hc.sep id j _ o' (Ne.symm hj) aK d8 _ (ah (hc.ay _ _ aK) _ (by simp only[al];exact List.mem_singleton.2 rfl)) (ah (hc.ay _ _ d8) _ hb)
           rw[List.cons_append,List.nodup_cons,List.nodup_append]
           refine⟨fun hb=> ?_,r3 n3,k6 n4,fun b hb b' ax e=> ?_⟩
           ·rcases List.mem_append.1 hb with hb | hb
            ·obtain⟨j,hj,o,ho,br⟩:=r2 _ hb
             exact Ak j o (fun e=>n1 (e ▸ hj)) ho br
            ·obtain⟨j,hj,o,ho,br⟩:=k5 _ hb
             exact Ak j o (fun e=>n2 (e ▸ hj)) ho br
           ·subst e
            obtain⟨i1,JR,o1,GQ,GF⟩:=r2 b hb
            obtain⟨j,hj,o',d8,br⟩:=k5 b ax
            exact hc.sep i1 j o1 o' (fun e=>n5 i1 JR j hj e) GQ d8 b (ah (hc.ay _ _ GQ) b GF) (ah (hc.ay _ _ d8) b br)
        | row _ _ _ _ _=>simp at hq
        | d_ _ _=>simp at hq
        | deep _ _ _ _ _=>simp at hq
      | _=>rw[fi] at hq;simp at hq
end
end Go.Proofs.YtnlkklmcfafgeaaGreat.Vm
set_option linter.unusedVariables false
set_option linter.unusedSimpArgs false
namespace Go.Proofs.YtnlkklmcfafgeaaGreat.Vm
structure EN where
 id:Nat
 o:aj
 cW:Nat
 val:Value
 φ:List Nat
 nb:List Nat
def EN.ok (w:World) (av:Nat→Prop) (β:Env) (x:EN):Prop:=fU w av β x.id x.o x.φ∧al β x.id x.o=x.φ
section
variable {P:Program} {Γ:Ctx} {A:List (Nat×lC)} {w:World} {i:Nat}
theorem cE:∀(j:Nat) (cs:List CT) (ts:List TT) (ds:List DC) (us:List Value) (mb:List Nat),aR w cs ts ds us mb→
  ∃E:List EN,(aE i j cs ts ds).2=E.map (fun x=>(x.id,x.o))∧E.flatMap (·.φ)=mb∧∀(av:Nat→Prop) (β:Env),(∀x∈E,β.cW x.id=x.cW∧β.val x.id=x.val∧β.nb x.id=x.nb)→
   af w av β (aE i j cs ts ds).1 us∧∀x∈E,x.ok w av β
 | j,[],ts,ds,us,mb,hm=>by
  simp only[aR] at hm
  obtain⟨rfl,rfl,rfl,rfl⟩:=hm
  exact⟨[],rfl,rfl,fun av β _=>⟨by simp [aE,af],by simp⟩⟩
 | j,.int k::cs,ts,ds,us,mb,hm=>by
  simp only[aR] at hm
  obtain⟨d,aX,v,aM,rfl,rfl,h1,hm⟩:=hm
  obtain⟨E,e1,e2,e3⟩:=cE (j+1) cs ts aX aM mb hm
  refine⟨E,by simpa only[aE,List.tail_cons] using e1,e2,fun av β hb=> ?_⟩
  obtain⟨k1,k2⟩:=e3 av β hb
  refine⟨?_,k2⟩
  simp only[aE,List.headD_cons,List.tail_cons,af]
  exact⟨v,aM,rfl,dg h1 (by simp),k1⟩
 | j,.bool::cs,ts,ds,us,mb,hm=>by
  simp only[aR] at hm
  obtain⟨d,aX,v,aM,rfl,rfl,h1,hm⟩:=hm
  obtain⟨E,e1,e2,e3⟩:=cE (j+1) cs ts aX aM mb hm
  refine⟨E,by simpa only[aE,List.tail_cons] using e1,e2,fun av β hb=> ?_⟩
  obtain⟨k1,k2⟩:=e3 av β hb
  refine⟨?_,k2⟩
  simp only[aE,List.headD_cons,List.tail_cons,af]
  exact⟨v,aM,rfl,dg h1 (by simp),k1⟩
 | j,.str::cs,ts,ds,us,mb,hm=>by
  simp only[aR] at hm
  obtain⟨d,aX,v,aM,rfl,rfl,h1,hm⟩:=hm
  obtain⟨E,e1,e2,e3⟩:=cE (j+1) cs ts aX aM mb hm
  refine⟨E,by simpa only[aE,List.tail_cons] using e1,e2,fun av β hb=> ?_⟩
  obtain⟨k1,k2⟩:=e3 av β hb
  refine⟨?_,k2⟩
  simp only[aE,List.headD_cons,List.tail_cons,af]
  exact⟨v,aM,rfl,dg h1 (by simp),k1⟩
 | j,.sl e::cs,ts,ds,us,mb,hm=>by
  simp only[aR] at hm
  obtain⟨t,dN,rows,aX,v,aM,m1,gb,rfl,rfl,rfl,EK,hm,rfl⟩:=hm
  obtain⟨E,e1,e2,e3⟩:=cE (j+1) cs dN aX aM gb hm
  have one:∃nb:List Nat,∀(av:Nat→Prop) (β:Env),β.val (pid i j)=v→β.nb (pid i j)=nb→fU w av β (pid i j) (eO t e rows) m1∧al β (pid i j) (eO t e rows)=m1:=by
   cases t with
   | flat t=>
    obtain⟨eA,vals,aA,h1,h2,rfl⟩:=EK
    refine⟨[],fun av β hv hn=>⟨⟨vals,aA,by rw[hv];exact h1,h2,by rw[gQ eA h2];simp, ?_⟩, ?_⟩⟩
    ·rw[hv,gQ eA h2]
     simp
    ·simp only[eO,al,hv]
   | deep t its=>
    obtain⟨vals,aS,h1,h2,rfl⟩:=EK
    exact⟨aS.flatten,fun av β hv hn=>⟨⟨vals,aS,by rw[hv];exact h1,h2,hn,by rw[hv]⟩,by simp only[eO,al,hv,hn]⟩⟩
  obtain⟨nb,one⟩:=one
  refine⟨⟨pid i j,eO t e rows,0,v,m1,nb⟩::E, ?_, ?_,fun av β hb=> ?_⟩
  ·simp only[aE,List.headD_cons,List.tail_cons,List.map_cons,e1,DC.cq]
  ·simp only[List.flatMap_cons,e2]
  ·obtain⟨k1,k2⟩:=e3 av β (fun x hx=>hb x (List.mem_cons_of_mem _ hx))
   have hv:=(hb _ (List.mem_cons_self ..)).2
   simp only at hv
   refine⟨?_,fun x hx=> ?_⟩
   ·simp only[aE,List.headD_cons,List.tail_cons,af]
    refine⟨v,aM,rfl, ?_,k1⟩
    simp only[ak]
    exact⟨hv.1.symm,EK.one⟩
   ·rcases List.mem_cons.1 hx with rfl | hx
    ·exact one av β hv.1 hv.2
    ·exact k2 x hx
theorem gO.lt {t:TT} {e:List CT} {rows:List (List DC)} {v:Value} {mb:List Nat} (h:gO w t e rows v mb):∀b∈mb,b<w.heap.size:=by
 cases t with
 | flat t=>
  obtain⟨_,vals,aA,h1,_,rfl⟩:=h
  exact h1.lt
 | deep t its=>
  obtain⟨vals,aS,h1,h2,rfl⟩:=h
  intro b hb
  rcases List.mem_append.1 hb with hb | hb
  ·exact h1.lt b hb
  ·exact h2.lt b hb
theorem gO.reads {t:TT} {e:List CT} {rows:List (List DC)} {v:Value} {mb:List Nat} (h:gO w t e rows v mb):∃tt vals aA,cm w tt e.length false v rows.length vals∧dO w e rows vals aA:=by
 cases t with
 | flat t=>
  obtain⟨_,vals,aA,h1,h2,_⟩:=h
  exact⟨t,vals,aA,h1,h2⟩
 | deep t its=>
  obtain⟨vals,aS,h1,h2,_⟩:=h
  obtain⟨aA,h3,_⟩:=h2.reads
  exact⟨t,vals,aA,h1,h3⟩
theorem aR.length:∀(cs:List CT) (ts:List TT) (ds:List DC) (us:List Value) (mb:List Nat),aR w cs ts ds us mb→ds.length=cs.length
 | [],ts,ds,us,mb,h=>by simp only[aR] at h;simp [h.2.1]
 | .sl e::cs,ts,ds,us,mb,h=>by
  simp only[aR] at h
  obtain⟨t,dN,rows,aX,v,aM,m1,gb,rfl,rfl,rfl,_,h,_⟩:=h
  simp [aR.length cs dN aX aM gb h]
 | .int k::cs,ts,ds,us,mb,h=>by
  simp only[aR] at h
  obtain⟨d,aX,v,aM,rfl,rfl,_,h⟩:=h
  simp [aR.length cs ts aX aM mb h]
 | .bool::cs,ts,ds,us,mb,h=>by
  simp only[aR] at h
  obtain⟨d,aX,v,aM,rfl,rfl,_,h⟩:=h
  simp [aR.length cs ts aX aM mb h]
 | .str::cs,ts,ds,us,mb,h=>by
  simp only[aR] at h
  obtain⟨d,aX,v,aM,rfl,rfl,_,h⟩:=h
  simp [aR.length cs ts aX aM mb h]
theorem eC:∀(j:Nat) (cs:List CT) (ts:List TT) (d1 d2:List DC),cs.length≤d1.length→aE i j cs ts (d1++d2)=aE i j cs ts d1
 | _,[],_,_,_,_=>rfl
 | j,c::cs,ts,d1,d2,hl=>by
  cases d1 with
  | nil=>simp at hl
  | cons x d1=>
   have D_:cs.length≤d1.length:=by simpa using hl
   cases c<;>simp only[List.cons_append,aE,List.headD_cons,List.tail_cons]<;>rw[eC _ cs _ d1 d2 D_]
theorem Dr:∀(i:Nat) (ks:List AK) (ms:List (Option MK)) (ds:List DC) (vs:List Value) (fp mb:List Nat),cK w ks ms ds vs fp mb→
  ∃E:List EN,(cB i ks ms ds).2=E.map (fun x=>(x.id,x.o))∧E.flatMap (·.φ)=mb∧∀(av:Nat→Prop) (β:Env),(∀x∈E,β.cW x.id=x.cW∧β.val x.id=x.val∧β.nb x.id=x.nb)→(∀b∈fp,¬av b)→
   (∀n,jf (cB i ks ms ds).1 n= .fy∨∃j v,n=i+j∧vs[j]? =some v∧ak w av β (jf (cB i ks ms ds).1 n) v)∧∀x∈E,x.ok w av β
 | i,[],ms,ds,vs,fp,mb,hm=>by
  simp only[cK] at hm
  obtain⟨rfl,rfl,rfl,rfl,rfl⟩:=hm
  exact⟨[],rfl,rfl,fun av β _ _=>⟨fun n=> .inl rfl,by simp⟩⟩
 | i,k::ks,ms,ds,vs,fp,mb,hm=>by
  simp only[cK] at hm
  obtain⟨m,ms,d1,d2,v,vs,f1,f2,b1,b2,rfl,rfl,rfl,ha,hm,rfl,rfl⟩:=hm
  obtain⟨E,e1,e2,e3⟩:=Dr (i+1) ks ms d2 vs f2 b2 hm
  have step:∀(av:Nat→Prop) (β:Env) (s:SV) (l:List (Nat×SV)),(∀n,jf l n= .fy∨∃j u,n=i+1+j∧vs[j]? =some u∧ak w av β (jf l n) u)→ak w av β s v→
    ∀n,jf ((i,s)::l) n= .fy∨∃j u,n=i+j∧(v::vs)[j]? =some u∧ak w av β (jf ((i,s)::l) n) u:=by
   intro av β s l hl hs n
   simp only[jf]
   cases hk:Nat.beq i n
   ·simp only[cond_false]
    rcases hl n with h3 | ⟨j,u,hn,hj,hu⟩
    ·exact .inl h3
    ·exact .inr ⟨j+1,u,by omega,by simpa using hj,hu⟩
   ·have:=Nat.eq_of_beq_eq_true hk
    subst this
    simp only[cond_true]
    exact .inr ⟨0,v,rfl,rfl,hs⟩
  cases m with
  | none=>
   simp only[gn] at ha
   obtain⟨ha,rfl⟩:=ha
   have hl:d1.length=k.bD.length:=by
    obtain⟨us,_,_,hr,_⟩:=ha
    exact a9.length _ _ _ _ hr
   have mR:(d1++d2).drop k.bD.length=d2:=by rw[←hl,List.drop_left]
   refine⟨E,by simp only[cB,List.headD_cons,List.tail_cons,mR,e1],by simpa using e2,fun av β hb Bs=> ?_⟩
   obtain⟨k1,k2⟩:=e3 av β hb (fun b hb=>Bs b (List.mem_append_right _ hb))
   refine⟨?_,k2⟩
   simp only[cB,List.headD_cons,List.tail_cons,mR]
   refine step av β _ _ k1 ?_
   rw[iF _ _ _ _ (by omega)]
   exact Ej ha (fun b hb=>Bs b (List.mem_append_left _ hb))
  | some m=>
   cases m with
   | box t=>
    simp only[gn] at ha
    obtain⟨g,us,rfl,hg,bd,hr,M5,rfl⟩:=ha
    have hl:d1.length=k.bD.length:=a9.length _ _ _ _ hr
    have mR:(d1++d2).drop k.bD.length=d2:=by rw[←hl,List.drop_left]
    refine⟨⟨pid i 0,.box t (ch k.bD d1 0),g,undef,[g],[]⟩::E, ?_,by simp [e2],fun av β hb Bs=> ?_⟩
    ·simp only[cB,List.headD_cons,List.tail_cons,mR,e1,List.map_cons]
     rw[iF _ _ _ _ (by omega)]
    ·obtain⟨k1,k2⟩:=e3 av β (fun x hx=>hb x (List.mem_cons_of_mem _ hx)) (fun b hb=>Bs b (List.mem_append_right _ hb))
     have Ak:=(hb _ (List.mem_cons_self ..)).1
     simp only at Ak
     refine⟨?_,fun x hx=> ?_⟩
     ·simp only[cB,List.headD_cons,List.tail_cons,mR]
      refine step av β _ _ k1 ?_
      simp only[ak,Ak]
     ·rcases List.mem_cons.1 hx with rfl | hx
      ·obtain⟨cN,l1,l2,l3,l4⟩:=a9.bO (β:=β) (av:=av) hr (fun b hb=>Bs b (List.mem_append_left _ hb)) k.bD.length 0 (by omega)
       have ee:cN=us:=by
        apply List.ext_getElem?
        intro j
        by_cases hj:j<cN.length
        ·have:=l2 j cN[j] (by simp)
         simp only[Nat.zero_add] at this
         rw[this]
         simp
        ·rw[List.getElem?_eq_none (by omega),List.getElem?_eq_none (by omega)]
       subst ee
       simp only[List.drop_zero,List.take_length] at l3
       exact⟨⟨cN,by rw[Ak];exact hg,l3,bd,by simp only[Ak]⟩,by simp only[al,Ak]⟩
      ·exact k2 x hx
   | rows ts=>
    simp only[gn] at ha
    obtain⟨us,gl,bd,kU,rfl⟩:=ha
    obtain⟨E1,a1,a2,a3⟩:=cE (i:=i) 0 k.bD ts d1 us b1 kU
    have hl:d1.length=k.bD.length:=aR.length _ _ _ _ _ kU
    have mR:(d1++d2).drop k.bD.length=d2:=by rw[←hl,List.drop_left]
    have GJ:aE i 0 k.bD ts (d1++d2)=aE i 0 k.bD ts d1:=eC _ _ _ _ _ (by omega)
    refine⟨E1++E, ?_,by simp [a2,e2],fun av β hb Bs=> ?_⟩
    ·simp only[cB,List.headD_cons,List.tail_cons,mR,GJ,e1,a1,List.map_append]
    ·obtain⟨k1,k2⟩:=e3 av β (fun x hx=>hb x (List.mem_append_right _ hx)) (fun b hb=>Bs b (by simpa using hb))
     obtain⟨c1,c2⟩:=a3 av β (fun x hx=>hb x (List.mem_append_left _ hx))
     refine⟨?_,fun x hx=> ?_⟩
     ·simp only[cB,List.headD_cons,List.tail_cons,mR,GJ]
      refine step av β _ _ k1 ?_
      cases hk:k.agg with
      | true=>
       rw[hk] at gl
       simp only[cond_true] at gl ⊢
       simp only[ak]
       exact⟨us,gl,c1,bd⟩
      | false=>
       rw[hk] at gl
       simp only[cond_false] at gl ⊢
       rw[gl.1] at c1
       generalize (aE i 0 k.bD ts d1).1=q at c1
       cases q with
       | nil=>simp [af] at c1
       | cons y l=>
        simp only[af] at c1
        obtain⟨v',l',e0,e5,_⟩:=c1
        injection e0 with e0
        subst e0
        simpa using e5
     ·rcases List.mem_append.1 hx with hx | hx
      ·exact c2 x hx
      ·exact k2 x hx
   | jA ts=>
    simp only[gn] at ha
    obtain⟨us,gl,bd,kU,rfl⟩:=ha
    obtain⟨E1,a1,a2,a3⟩:=cE (i:=i) 0 k.bD ts d1 us b1 kU
    have hl:d1.length=k.bD.length:=aR.length _ _ _ _ _ kU
    have mR:(d1++d2).drop k.bD.length=d2:=by rw[←hl,List.drop_left]
    have GJ:aE i 0 k.bD ts (d1++d2)=aE i 0 k.bD ts d1:=eC _ _ _ _ _ (by omega)
    refine⟨E1++E, ?_,by simp [a2,e2],fun av β hb Bs=> ?_⟩
    ·simp only[cB,List.headD_cons,List.tail_cons,mR,GJ,e1,a1,List.map_append]
    ·obtain⟨k1,k2⟩:=e3 av β (fun x hx=>hb x (List.mem_append_right _ hx)) (fun b hb=>Bs b (by simpa using hb))
     obtain⟨c1,c2⟩:=a3 av β (fun x hx=>hb x (List.mem_append_left _ hx))
     refine⟨?_,fun x hx=> ?_⟩
     ·simp only[cB,List.headD_cons,List.tail_cons,mR,GJ]
      refine step av β _ _ k1 ?_
      cases hk:k.agg with
      | true=>
       rw[hk] at gl
       simp only[cond_true] at gl ⊢
       simp only[ak]
       exact⟨us,gl,c1,bd⟩
      | false=>
       rw[hk] at gl
       simp only[cond_false] at gl ⊢
       rw[gl.1] at c1
       generalize (aE i 0 k.bD ts d1).1=q at c1
       cases q with
       | nil=>simp [af] at c1
       | cons y l=>
        simp only[af] at c1
        obtain⟨v',l',e0,e5,_⟩:=c1
        injection e0 with e0
        subst e0
        simpa using e5
     ·rcases List.mem_append.1 hx with hx | hx
      ·exact c2 x hx
      ·exact k2 x hx
   | cL t ts=>
    simp only[gn] at ha
    obtain⟨g,us,mm,rfl,hg,bd,kU,rfl,rfl⟩:=ha
    obtain⟨E1,a1,a2,a3⟩:=cE (i:=i) 0 k.bD ts d1 us mm kU
    have hl:d1.length=k.bD.length:=aR.length _ _ _ _ _ kU
    have mR:(d1++d2).drop k.bD.length=d2:=by rw[←hl,List.drop_left]
    have GJ:aE i 0 k.bD ts (d1++d2)=aE i 0 k.bD ts d1:=eC _ _ _ _ _ (by omega)
    refine⟨⟨pid i 62,.box t (aE i 0 k.bD ts d1).1,g,undef,[g],[]⟩::(E1++E), ?_,by simp [a2,e2],fun av β hb Bs=> ?_⟩
    ·simp only[cB,List.headD_cons,List.tail_cons,mR,GJ,e1,a1,List.map_append,List.map_cons]
    ·obtain⟨k1,k2⟩:=e3 av β (fun x hx=>hb x (List.mem_cons_of_mem _ (List.mem_append_right _ hx))) (fun b hb=>Bs b (by simpa using hb))
     obtain⟨c1,c2⟩:=a3 av β (fun x hx=>hb x (List.mem_cons_of_mem _ (List.mem_append_left _ hx)))
     have Ak:=(hb _ (List.mem_cons_self ..)).1
     simp only at Ak
     refine⟨?_,fun x hx=> ?_⟩
     ·simp only[cB,List.headD_cons,List.tail_cons,mR,GJ]
      refine step av β _ _ k1 ?_
      simp only[ak,Ak]
     ·rcases List.mem_cons.1 hx with rfl | hx
      ·exact⟨⟨us,by rw[Ak];exact hg,c1,bd,by simp only[Ak]⟩,by simp only[al,Ak]⟩
      ·rcases List.mem_append.1 hx with hx | hx
       ·exact c2 x hx
       ·exact k2 x hx
theorem aR.lt:∀(cs:List CT) (ts:List TT) (ds:List DC) (us:List Value) (mb:List Nat),aR w cs ts ds us mb→∀b∈mb,b<w.heap.size
 | [],ts,ds,us,mb,h=>by simp only[aR] at h;simp [h.2.2.2]
 | .sl e::cs,ts,ds,us,mb,h=>by
  simp only[aR] at h
  obtain⟨t,dN,rows,aX,v,aM,m1,gb,rfl,rfl,rfl,h1,h,rfl⟩:=h
  intro b hb
  rcases List.mem_append.1 hb with hb | hb
  ·exact h1.lt b hb
  ·exact aR.lt cs dN aX aM gb h b hb
 | .int k::cs,ts,ds,us,mb,h=>by
  simp only[aR] at h
  obtain⟨d,aX,v,aM,rfl,rfl,_,h⟩:=h
  exact aR.lt cs ts aX aM mb h
 | .bool::cs,ts,ds,us,mb,h=>by
  simp only[aR] at h
  obtain⟨d,aX,v,aM,rfl,rfl,_,h⟩:=h
  exact aR.lt cs ts aX aM mb h
 | .str::cs,ts,ds,us,mb,h=>by
  simp only[aR] at h
  obtain⟨d,aX,v,aM,rfl,rfl,_,h⟩:=h
  exact aR.lt cs ts aX aM mb h
theorem cK.facts:∀(ks:List AK) (ms:List (Option MK)) (ds:List DC) (vs:List Value) (fp mb:List Nat),cK w ks ms ds vs fp mb→(∀b∈mb,b<w.heap.size)∧(∀b∈fp,b<w.heap.size)∧vs.length=ks.length
 | [],ms,ds,vs,fp,mb,h=>by
  simp only[cK] at h
  obtain⟨_,_,rfl,rfl,rfl⟩:=h
  simp
 | k::ks,ms,ds,vs,fp,mb,h=>by
  simp only[cK] at h
  obtain⟨m,Eb,d1,d2,v,cN,f1,f2,b1,b2,rfl,rfl,rfl,ha,h,rfl,rfl⟩:=h
  obtain⟨k1,k2,k3⟩:=cK.facts ks Eb d2 cN f2 b2 h
  have one:(∀b∈b1,b<w.heap.size)∧∀b∈f1,b<w.heap.size:=by
   cases m with
   | none=>
    simp only[gn] at ha
    obtain⟨⟨us,_,_,hr,_⟩,rfl⟩:=ha
    exact⟨by simp,a9.lt _ _ _ _ hr⟩
   | some m=>
    cases m with
    | box t=>
     simp only[gn] at ha
     obtain⟨g,us,_,hg,_,hr,_,rfl⟩:=ha
     refine⟨fun b hb=> ?_,a9.lt _ _ _ _ hr⟩
     simp only[List.mem_singleton] at hb
     subst hb
     exact (Array.getElem?_eq_some_iff.1 hg).1
    | rows ts=>
     simp only[gn] at ha
     obtain⟨us,_,_,kU,rfl⟩:=ha
     exact⟨aR.lt _ _ _ _ _ kU,by simp⟩
    | jA ts=>
     simp only[gn] at ha
     obtain⟨us,_,_,kU,rfl⟩:=ha
     exact⟨aR.lt _ _ _ _ _ kU,by simp⟩
    | cL t ts=>
     simp only[gn] at ha
     obtain⟨g,us,mm,_,hg,_,kU,rfl,rfl⟩:=ha
     refine⟨fun b hb=> ?_,by simp⟩
     rcases List.mem_cons.1 hb with rfl | hb
     ·exact (Array.getElem?_eq_some_iff.1 hg).1
     ·exact aR.lt _ _ _ _ _ kU b hb
  refine⟨fun b hb=> ?_,fun b hb=> ?_,by simp [k3]⟩
  ·rcases List.mem_append.1 hb with hb | hb
   ·exact one.1 b hb
   ·exact k1 b hb
  ·rcases List.mem_append.1 hb with hb | hb
   ·exact one.2 b hb
   ·exact k2 b hb
theorem l5 {E:List EN} (h:(E.flatMap (·.φ)).Nodup):(∀x∈E,x.φ.Nodup)∧∀x∈E,∀y∈E,x≠y→∀b∈x.φ,b ∉ y.φ:=by
 induction E with
 | nil=>simp
 | cons z l ih=>
  rw[List.flatMap_cons,List.nodup_append] at h
  obtain⟨h1,h2,h3⟩:=h
  obtain⟨i1,i2⟩:=ih h2
  refine⟨fun x hx=> ?_,fun x hx y hy Ar b hb ax=> ?_⟩
  ·rcases List.mem_cons.1 hx with rfl | hx
   ·exact h1
   ·exact i1 x hx
  ·rcases List.mem_cons.1 hx with BT | BT<;>rcases List.mem_cons.1 hy with BU | BU
   ·exact Ar (BT.trans BU.symm)
   ·subst BT
    exact h3 b hb b (List.mem_flatMap.2 ⟨y,BU,ax⟩) rfl
   ·subst BU
    exact h3 b ax b (List.mem_flatMap.2 ⟨x,BT,hb⟩) rfl
   ·exact i2 x BT y BU Ar b hb ax
theorem fk.count {w:World} :∀(B2:List RK) (ds:List DC) (vs:List Value) (φ im tp:List Nat),fk w B2 ds vs φ im tp→ds.length=cl B2
 | [],ds,vs,φ,im,tp,h=>by simp only[fk] at h;simp [h.1,cl]
 | r::rs,ds,vs,φ,im,tp,h=>by
  simp only[fk] at h
  obtain⟨d1,d2,v,cN,us,D5,Bn,i1,i2,t1,t2,rfl,rfl,_,_,h1,h2,_⟩:=h
  simp only[List.length_append,cl,dm.length _ _ _ _ _ _ h1,fk.count rs d2 cN _ _ _ h2]
theorem aR.wt:∀(cs:List CT) (ts:List TT) (ds:List DC) (us:List Value) (mb:List Nat),aR w cs ts ds us mb→kc cs ds
 | [],ts,ds,us,mb,h=>by simp only[aR] at h;simp only[kc];exact h.2.1
 | .sl e::cs,ts,ds,us,mb,h=>by
  simp only[aR] at h
  obtain⟨t,dN,rows,aX,v,aM,m1,gb,rfl,rfl,rfl,EK,h,_⟩:=h
  obtain⟨tt,vals,aA,h1,h2⟩:=EK.reads
  simp only[kc,G9]
  refine⟨_,_,rfl,⟨rows,rfl, ?_,fun r hr=> ?_⟩,aR.wt cs dN aX aM gb h⟩
  ·rcases h1.2 with ⟨_,hn,_⟩ | ⟨g,cap,cur,_,_,h3,h4,_⟩
   ·rw[hn];exact Nat.zero_le _
   ·omega
  ·obtain⟨i,hi,rfl⟩:=List.getElem_of_mem hr
   have dU:i<aA.length:=by have:=h2.1;omega
   exact a9.wt e _ _ _ (h2.2 i rows[i] aA[i] (by simp) (by simp [dU]))
 | .int k::cs,ts,ds,us,mb,h=>by
  simp only[aR] at h
  obtain⟨d,aX,v,aM,rfl,rfl,h1,h⟩:=h
  simp only[kc]
  exact⟨d,aX,rfl,bY.wt _ _ _ _ h1,aR.wt cs ts aX aM mb h⟩
 | .bool::cs,ts,ds,us,mb,h=>by
  simp only[aR] at h
  obtain⟨d,aX,v,aM,rfl,rfl,h1,h⟩:=h
  simp only[kc]
  exact⟨d,aX,rfl,bY.wt _ _ _ _ h1,aR.wt cs ts aX aM mb h⟩
 | .str::cs,ts,ds,us,mb,h=>by
  simp only[aR] at h
  obtain⟨d,aX,v,aM,rfl,rfl,h1,h⟩:=h
  simp only[kc]
  exact⟨d,aX,rfl,bY.wt _ _ _ _ h1,aR.wt cs ts aX aM mb h⟩
theorem cK.wt:∀(ks:List AK) (ms:List (Option MK)) (ds:List DC) (vs:List Value) (fp mb:List Nat),cK w ks ms ds vs fp mb→kc (gW ks) ds
 | [],ms,ds,vs,fp,mb,h=>by
  simp only[cK] at h
  simp only[gW,kc]
  exact h.2.1
 | k::ks,ms,ds,vs,fp,mb,h=>by
  simp only[cK] at h
  obtain⟨m,Eb,d1,d2,v,cN,f1,f2,b1,b2,rfl,rfl,rfl,ha,h,_⟩:=h
  refine kc.append ?_ (cK.wt ks Eb d2 cN f2 b2 h)
  cases m with
  | none=>
   simp only[gn] at ha
   obtain⟨⟨us,_,_,hr,_⟩,_⟩:=ha
   exact a9.wt _ _ _ _ hr
  | some m=>
   cases m with
   | box t=>
    simp only[gn] at ha
    obtain⟨g,us,_,_,_,hr,_⟩:=ha
    exact a9.wt _ _ _ _ hr
   | rows ts=>
    simp only[gn] at ha
    obtain⟨us,_,_,kU,_⟩:=ha
    exact aR.wt _ _ _ _ _ kU
   | jA ts=>
    simp only[gn] at ha
    obtain⟨us,_,_,kU,_⟩:=ha
    exact aR.wt _ _ _ _ _ kU
   | cL t ts=>
    simp only[gn] at ha
    obtain⟨g,us,mm,_,_,_,kU,_⟩:=ha
    exact aR.wt _ _ _ _ _ kU
def Ea:List EN→Nat→Option EN
 | [],_=>none
 | x::l,i=>if i=x.id then some x else Ea l i
theorem jP {E:List EN} {j:Nat} {x:EN} (h:Ea E j=some x):x∈E∧x.id=j:=by
 induction E with
 | nil=>simp [Ea] at h
 | cons y l ih=>
  simp only[Ea] at h
  split at h
  ·rename_i hj
   injection h with h
   subst h
   exact⟨List.mem_cons_self ..,hj.symm⟩
  ·obtain⟨h1,h2⟩:=ih h
   exact⟨List.mem_cons_of_mem _ h1,h2⟩
theorem Fl {E:List EN} {x:EN} (hx:x∈E) (hn:(E.map (·.id)).Nodup):Ea E x.id=some x:=by
 induction E with
 | nil=>simp at hx
 | cons y l ih=>
  simp only[List.map_cons,List.nodup_cons] at hn
  simp only[Ea]
  rcases List.mem_cons.1 hx with rfl | hx
  ·simp
  ·have:x.id≠y.id:=fun e=>hn.1 (e ▸ List.mem_map_of_mem hx)
   rw[if_neg this]
   exact ih hx hn.2
theorem BW {E:List EN} {j:Nat} {o:aj} (h:dI (E.map fun x=>(x.id,x.o)) j=some o):∃x,Ea E j=some x∧x.o=o:=by
 induction E with
 | nil=>simp [dI] at h
 | cons y l ih=>
  simp only[List.map_cons,dI] at h
  simp only[Ea]
  cases hb:Nat.beq y.id j
  ·rw[hb] at h
   rw[if_neg (fun e=>Nat.ne_of_beq_eq_false hb e.symm)]
   exact ih h
  ·rw[hb] at h
   have:=Nat.eq_of_beq_eq_true hb
   subst this
   simp only[cond_true,Option.some.injEq] at h
   exact⟨y,by simp,h⟩
theorem Dj {fn:Func} {s:Sum} {st:St} {r:List DC} (h:mM P fn s st=(true,r)):st.ok=true:=by
 unfold mM at h
 split at h
 ·simp only[Prod.mk.injEq,Bool.and_eq_true] at h
  exact h.1.1.1
 ·exact absurd h bI
theorem Ai {fn:Func} {s:Sum} {st:St} {r:List DC} {w w':World} {ds:List DC} {vals:List Value} {fp mb:List Nat} {a:Act} (A5:shares s=false) (hm:cK w s.ps s.ms ds vals fp mb)
  (h:mM P fn s st=(true,r)) (hR:Rel w ⟨fun b=>b∈mb,fun b=>b<w.heap.size∧b ∉ fp∧b ∉ mb,(vals.zipIdx.filter (fun x=>Nat.blt x.2 (ly s.ms))).map (fun x=>(x.2,x.1))⟩ st a w'):
  a.defers=[]∧∃v,(results fn a.tmps).run P w'= .ok v w'∧∃vs φ im tp mK rd od ψ,Ending.returned v= .returned (pack vs)∧r=rd++od∧rd.length=cl s.rs∧Kept ⟨fun b=>b∈mb,fun _=>False,[]⟩ w w'∧fk w' s.rs rd vs φ im tp∧φ.Nodup∧
   (∀b∈φ,(b∈mb∨w.heap.size≤b)∧b<w'.heap.size)∧lP w' s.ps s.ms od vals mK ψ∧ψ.Nodup∧(∀b∈ψ,(b∈mb∨w.heap.size≤b)∧b<w'.heap.size∧b ∉ φ)∧∀b∈mK,(b∈fp∨w.heap.size≤b)∧b ∉ tp∧b ∉ ψ∧eY s.ms=false:=by
 obtain⟨_,_,A6⟩:=cK.facts _ _ _ _ _ _ hm
 unfold mM at h
 split at h
 case h_2=>exact absurd h bI
 rename_i rd own im od ids x hr
 simp only[Prod.mk.injEq,Bool.and_eq_true] at h
 obtain⟨⟨⟨_,aZ⟩,EY⟩,rfl⟩:=h
 obtain⟨β,φ,hc⟩:=hR.core
 have hval:=M.ey _ hr
 simp only[M.ae,Option.bind_eq_some_iff,M.aa,Option.some.injEq,Prod.mk.injEq] at hval
 obtain⟨ss,h1,q,h2,q2,h3,e1,e2⟩:=hval
 subst e1
 subst e2
 obtain⟨vs,g1,g2⟩:=iJ hc _ _ h1
 obtain⟨φ',Ff,Bm,k1,k2,k3,k4,k5⟩:=i9 hc _ _ _ _ g2 h2
 have Mq:∀(j:Nat) v m,vals[j]? =some v→s.ms[j]? =some (some m)→a.tmps.getD (0+j) undef=v:=by
  intro j v m hj hm
  have:=(hR.fx (j,v) (List.mem_map.2 ⟨(v,j),List.mem_filter.2 ⟨by rw[List.mem_zipIdx_iff_getElem?];exact hj,Nat.ble_eq_true_of_le (Dw hm)⟩,rfl⟩)).2
  simpa using this
 obtain⟨mK,ψ,o1,o2,o4,o5,o6,o3⟩:=iG hc 0 s.ps s.ms vals _ Mq A6 h3
 have hnd:=ft aZ
 rw[List.nodup_append] at hnd
 have Jt:∀b∈ψ,∀i∈own,∀o,st.obj i=some o→b ∉ φ i:=by
  intro b hb i hi o Cm mg
  obtain⟨id,dV,o',d8,jE⟩:=o5 b hb
  have cM:i≠id:=fun e=>hnd.2.2 i hi id dV e
  exact absurd (ah (hc.ay _ _ d8) b jE) (hc.sep i id o o' cM Cm d8 b mg)
 have HQ:∀b∈ψ,b ∉ φ':=by
  intro b hb fD
  obtain⟨i,hi,⟨o,Cm⟩,mg⟩:=k2 b fD
  exact Jt b hb i hi o Cm mg
 have Js:∀b∈ψ,Av st.obj β b:=fun b hb=>by
  obtain⟨id,dV,o',d8,jE⟩:=o5 b hb
  exact .inl ⟨id,o',d8,jE⟩
 have A0:∀b∈mK,b<w.heap.size→b ∉ fp→False:=by
  intro b hb cr hf
  rcases Bool.or_eq_true_iff.1 EY with KC | KC
  ·have GM:∀b∈mb,∃id∈ids,∃o,st.obj id=some o∧b∈al β id o:=o3 KC w ds fp mb hm
   have cR:=o2 b hb
   have I5:b ∉ mb:=fun Iy=>by
    obtain⟨id,dV,o',d8,jE⟩:=GM b Iy
    exact cR (.inl ⟨id,o',d8,jE⟩)
   refine absurd (.inr ?_) cR
   rw[hc.bars]
   exact⟨cr,hf,I5⟩
  ·rw[o4 KC] at hb
   simp at hb
 refine⟨hR.defers,pack vs,lb g1,vs,φ',Ff,Bm,mK,rd,od,ψ,rfl,rfl,fk.count _ _ _ _ _ _ k1,⟨hR.kept.os,hR.kept.tape,hR.kept.output,hR.kept.size,hR.kept.block⟩,k1,k4 hnd.1, ?_,o1,o6 hnd.2.1, ?_, ?_⟩
 ·intro b hb
  obtain⟨i,hi,⟨o,Cm⟩,mg⟩:=k2 b hb
  have hf:=(hc.fresh i o Cm).2 b mg
  exact⟨hf.1.symm,hf.2⟩
 ·intro b hb
  obtain⟨id,dV,o',d8,jE⟩:=o5 b hb
  have hf:=(hc.fresh id o' d8).2 b (ah (hc.ay _ _ d8) b jE)
  exact⟨hf.1.symm,hf.2,HQ b hb⟩
 ·intro b hb
  have cR:=o2 b hb
  refine⟨?_,fun jE=> ?_,fun Kh=>cR (Js b Kh), ?_⟩
  ·by_cases cr:b<w.heap.size
   ·by_cases hf:b∈fp
    ·exact .inl hf
    ·exact (A0 b hb cr hf).elim
   ·exact .inr (by omega)
  ·obtain⟨j,oj,_,hj,br⟩:=k3 b jE
   exact cR (.inl ⟨j,oj,hj,br⟩)
  ·cases jo:eY s.ms with
   | false=>rfl
   | true=>
    rw[o4 jo] at hb
    simp at hb
theorem FO (eV:bH P Γ) {g:Nat} {fn:Func} {s:Sum} (hf:P.funcs[g]? =some fn) (Hm:fn.body.isSome=true) (hn:(fn.name== "runtime.NumGoroutine")=false) (hlen:s.ps.length≤fn.ntmps) (GP:fn.ntmps<1099511627776)
  (A5:shares s=false) (dV:∀ds,eW ((cB 0 s.ps s.ms ds).2.map (·.1))=true)
  (h:∀ds,kc (gW s.ps) ds→(s.fn ds).1=true→∃N,G4 P Γ A N fn s ds=(true,(s.fn ds).2)):Cq P g s:=by
 refine⟨⟨fn,hf,Hm,hn⟩,fun w ds vals fp mb cy IX KJ aJ=> ?_⟩
 obtain⟨N,bs⟩:=h ds (cK.wt _ _ _ _ _ _ cy) aJ
 obtain⟨c,hc⟩:=Option.isSome_iff_exists.1 Hm
 unfold G4 at bs
 rw[hc] at bs
 simp only at bs
 obtain⟨KL,Mp,A6⟩:=cK.facts _ _ _ _ _ _ cy
 refine calls_of_wp hf hc ?_
 let S:Own:=⟨fun b=>b∈mb,fun b=>b<w.heap.size∧b ∉ fp∧b ∉ mb,(vals.zipIdx.filter (fun x=>Nat.blt x.2 (ly s.ms))).map (fun x=>(x.2,x.1))⟩
 obtain⟨E,e1,e2,e3⟩:=Dr 0 s.ps s.ms ds vals fp mb cy
 have Kw:(E.map (·.id)).Nodup:=by
  have:=ft (dV ds)
  rw[e1,List.map_map] at this
  exact this
 let β:Env:=⟨fun j=>match Ea E j with | some x=>x.cW | none=>0,fun j=>match Ea E j with | some x=>x.val | none=>undef,S.gI,fun j=>match Ea E j with | some x=>x.nb | none=>[]⟩
 have gm:∀x∈E,β.cW x.id=x.cW∧β.val x.id=x.val∧β.nb x.id=x.nb:=by
  intro x hx
  simp only[β,Fl hx Kw,and_self]
 have Fe:∀x∈E,∀b∈x.φ,b∈mb:=fun x hx b hb=>by rw[←e2];exact List.mem_flatMap.2 ⟨x,hx,hb⟩
 have Ao:∀x∈E,al β x.id x.o=x.φ:=fun x hx=>((e3 (fun _=>False) β gm (fun _ _ h=>h)).2 x hx).2
 have HD:∀b∈fp,¬Av (dI (cB 0 s.ps s.ms ds).2) β b:=by
  rintro b hb (⟨j,o,ho,jE⟩ | hx)
  ·rw[e1] at ho
   obtain⟨x,hx,rfl⟩:=BW ho
   obtain⟨hm,rfl⟩:=jP hx
   rw[Ao x hm] at jE
   exact KJ b (Fe x hm b jE) hb
  ·exact hx.2.1 hb
 obtain⟨ku,aK⟩:=e3 (Av (dI (cB 0 s.ps s.ms ds).2) β) β gm HD
 have hR:Rel w S {n:=fn.ntmps+ly s.ms*1099511627776,sl:=(cB 0 s.ps s.ms ds).1,hp:=(cB 0 s.ps s.ms ds).2,ok:=true,ls:=[],lm:=[]} {tmps:=vals.toArray++Array.replicate (fn.ntmps - vals.toArray.size) undef,defers:=[]} w:=by
  have mS:∀(j:Nat) v,vals[j]? =some v→(vals.toArray++Array.replicate (fn.ntmps - vals.toArray.size) undef).getD j undef=v:=by
   intro j v hj
   have Hy:j<vals.length:=(List.getElem?_eq_some_iff.1 hj).1
   rw[Array.getD_eq_getD_getElem?,Array.getElem?_append_left (by simp;omega)]
   simp [hj]
  refine⟨by simp;omega, ?_,rfl,⟨rfl,rfl,rfl,Nat.le_refl _,fun _ _ _=>rfl⟩,β,fun j=>match Ea E j with | some x=>x.φ | none=>[], ?_⟩
  ·intro x hx
   obtain⟨⟨v,j⟩,Jl,rfl⟩:=List.mem_map.1 hx
   obtain⟨Jl,KE⟩:=List.mem_filter.1 Jl
   have KE:j<ly s.ms:=Nat.le_of_ble_eq_true KE
   rw[List.mem_zipIdx_iff_getElem?] at Jl
   have Hy:j<vals.length:=(List.getElem?_eq_some_iff.1 Jl).1
   exact⟨by simp only;omega,mS j v Jl⟩
  ·refine⟨fun i=> ?_,fun id o ho=> ?_,fun id o ho=> ?_,fun i j oi oj cM hi hj b hb=> ?_,fun b hb=>⟨hb.1,hb.2.2⟩,rfl⟩
   ·rcases ku i with h1 | ⟨j,v,hi,hj,hs⟩
    ·show ak w _ _ (jf (cB 0 s.ps s.ms ds).1 i) _
     rw[h1]
     simp [ak]
    ·have:i=j:=by omega
     subst this
     rw[mS i v hj]
     exact hs
   ·have d8:dI (cB 0 s.ps s.ms ds).2 id=some o:=ho
    rw[e1] at d8
    obtain⟨x,hx,rfl⟩:=BW d8
    obtain⟨hm,rfl⟩:=jP hx
    simp only[hx]
    exact (aK x hm).1
   ·have d8:dI (cB 0 s.ps s.ms ds).2 id=some o:=ho
    rw[e1] at d8
    obtain⟨x,hx,rfl⟩:=BW d8
    obtain⟨hm,rfl⟩:=jP hx
    simp only[hx]
    refine⟨?_,fun b hb=>⟨.inr (Fe x hm b hb),KL b (Fe x hm b hb)⟩⟩
    exact (l5 (E:=E) (by rw[e2];exact IX)).1 x hm
   ·have dU:dI (cB 0 s.ps s.ms ds).2 i=some oi:=hi
    have f_:dI (cB 0 s.ps s.ms ds).2 j=some oj:=hj
    rw[e1] at dU f_
    obtain⟨x,hx,rfl⟩:=BW dU
    obtain⟨y,hy,rfl⟩:=BW f_
    simp only[hx] at hb
    simp only[hy]
    have Jn:=jP hx
    have J0:=jP hy
    have Ar:x≠y:=by
     rintro rfl
     exact cM (Jn.2.symm.trans J0.2)
    exact (l5 (E:=E) (by rw[e2];exact IX)).2 x Jn.1 y J0.1 Ar b hb
 refine cP (r:=(s.fn ds).2) eV c _ {eQ:=mM P fn s,ext:=fun _ _=>ke,ret:=mM P fn s} _ w _ ⟨fun st hX=>Dj hX,fun i st hX=>absurd hX bI,fun st hX=>Dj hX⟩ hR bs ⟨?_, ?_, ?_⟩
 ·intro st a w' eS hX
  exact Ai A5 cy hX eS
 ·intro i st a w' _ hX
  exact absurd hX bI
 ·intro st a w' eS hX
  exact Ai A5 cy hX eS
end
end Go.Proofs.YtnlkklmcfafgeaaGreat.Vm
namespace Go.Proofs.YtnlkklmcfafgeaaGreat.Vm
def Lp (P:Program) (Γ:Ctx) (A:List (Nat×lC)) (N:Nat) (fn:Func) (s:Sum) (p:List Bool) (is:List (St→kL)) (ih:St→kL) (st:St):kL:=
 match fn.body with
 | some c=>match focus P Γ A N p is c {eQ:=mM P fn s,ext:=fun _ _=>ke,ret:=mM P fn s} with
  | (.loop a,K)=>match (du a).bind (Jv A) with
   | some an=>run P Γ A N a st {eQ:=fun s'=>ih (canon P an s'),ext:=K.ext,ret:=K.ret}
   | none=>ke
  | _=>ke
 | none=>ke
end Go.Proofs.YtnlkklmcfafgeaaGreat.Vm
