/- The value machine: runs, loops, contracts out of runs. Conditions: as each lemma says. -/
import Derived.Test.YthpmalpdnnbkgaaGreatVc
import Derived.LoopN
set_option linter.unusedVariables false
set_option linter.unusedSimpArgs false
namespace Go.Proofs.YthpmalpdnnbkgaaGreat.Vm
section
variable {P:Program} {Γ:Ctx} {w0:World} {S:Own} {ops:Array Oper} {gs:List Nat}
theorem M_ {i:Nat} :∀ {l m:List Nat},i∈PM l m→i∈l∨i∈m
 | [],m,h=> .inr h
 | k::l,m,h=>by
  simp only[PM] at h
  cases hk:PL k m
  ·simp only[hk,cond_false,List.mem_cons] at h
   rcases h with rfl | h
   ·exact .inl (List.mem_cons_self ..)
   ·exact (M_ h).imp (List.mem_cons_of_mem _) id
  ·simp only[hk,cond_true] at h
   exact (M_ h).imp (List.mem_cons_of_mem _) id
def ajh (ops:Array Oper) (L:Nat→Bool) (k:Nat):Prop:=∀o,ops[k]? =some o→∀e∈o.after,Region.binds .any e=true→L e.on=true
theorem abp {acc:List (List Nat)} {j:Nat} :∀(l:List Edge),j∈l.foldr (fun e r=>bif Region.binds .any e then PM (PM [e.on] (acc.getD e.on [])) r else r) []→
  ∃e∈l,Region.binds .any e=true∧(j=e.on∨j∈acc.getD e.on [])
 | [],h=>by simp at h
 | e::l,h=>by
  simp only[List.foldr_cons] at h
  cases hb:Region.binds .any e
  ·simp only[hb,cond_false] at h
   obtain⟨x,hx,h1⟩:=abp l h
   exact⟨x,List.mem_cons_of_mem _ hx,h1⟩
  ·simp only[hb,cond_true] at h
   rcases M_ h with h | h
   ·refine⟨e,List.mem_cons_self ..,hb, ?_⟩
    rcases M_ h with h | h
    ·exact .inl (by simpa using h)
    ·exact .inr h
   ·obtain⟨x,hx,h1⟩:=abp l h
    exact⟨x,List.mem_cons_of_mem _ hx,h1⟩
theorem alP {L:Nat→Bool} (hcl:∀k,L k=true→ajh ops L k):∀(l:List Oper) (acc:List (List Nat)) (pre:List Oper),ops.toList=pre++l→acc.length=pre.length→
  (∀k j,ajh ops L k→j∈acc.getD k []→L j=true)→∀k j,ajh ops L k→j∈(aob l acc).getD k []→L j=true
 | [],acc,pre,_,_,h=>by simpa [aob] using h
 | o::l,acc,pre,atv,hlen,h=>by
  rw[aob]
  refine alP hcl l _ (pre++[o]) (by simp [atv]) (by simp [hlen]) ?_
  intro k j hk hj
  rcases Nat.lt_trichotomy k acc.length with hlt | heq | hgt
  ·refine h k j hk ?_
   rw[List.getD_eq_getElem?_getD,List.getElem?_append_left hlt] at hj
   rwa [List.getD_eq_getElem?_getD]
  ·subst heq
   rw[List.getD_eq_getElem?_getD,List.getElem?_append_right (Nat.le_refl _)] at hj
   simp only[Nat.sub_self,List.getElem?_cons_zero,Option.getD_some] at hj
   obtain⟨e,he,hb,hj⟩:=abp _ hj
   have ho:ops[acc.length]? =some o:=by
    rw[←Array.getElem?_toList,atv,hlen]
    simp
   have hL:=hk o ho e (by simpa using he) hb
   rcases hj with rfl | hj
   ·exact hL
   ·exact h e.on j (hcl _ hL) hj
  ·rw[List.getD_eq_getElem?_getD,List.getElem?_eq_none (by simp;omega)] at hj
   simp at hj
theorem Ya:∀(l:List Oper) (i:Nat),M1 l i=true→∀k o,l[k]? =some o→∀e∈o.after,Region.binds .any e=true→e.on<i+k
 | [],_,_,k,o,h,_,_,_=>by simp at h
 | x::l,i,h,k,o,hk,e,he,hb=>by
  simp only[M1,Bool.and_eq_true,List.all_eq_true] at h
  cases k with
  | zero=>
   simp only[List.getElem?_cons_zero,Option.some.injEq] at hk
   subst hk
   have:=h.1 e (by simpa using he)
   rw[hb] at this
   simp only[Bool.not_true,Bool.false_or] at this
   exact Nat.le_of_ble_eq_true this
  | succ k=>
   simp only[List.getElem?_cons_succ] at hk
   have:=Ya l (i+1) h.2 k o hk e he hb
   omega
theorem Yb {an:List (List Nat)} {a:sP} :∀(l:List sP),afD an a l=true→∀b∈l,(Bm a b=true→a.i∈an.getD b.i [])∧abb b a=false
 | [],_=>by simp
 | c::l,h=>by
  simp only[afD,Bool.and_eq_true,Bool.not_eq_true'] at h
  intro b hb
  rcases List.mem_cons.1 hb with rfl | hb
  ·refine⟨fun hc=> ?_,h.1.2⟩
   have:=h.1.1
   rw[hc] at this
   simp only[Bool.not_true,Bool.false_or] at this
   exact MB.1 this
  ·exact Yb l h.2 b hb
theorem aji {an:List (List Nat)} :∀(l:List sP),aiS an l=true→l.Pairwise (fun a b=>(Bm a b=true→a.i∈an.getD b.i [])∧abb b a=false)
 | [],_=> .nil
 | a::l,h=>by
  simp only[aiS,Bool.and_eq_true] at h
  exact .cons (Yb l h.1) (aji l h.2)
theorem MD {l m:List Nat} {i:Nat} (h1:i∈l) (h2:i∈m):Mr l m=true:=by
 induction m with
 | nil=>simp at h2
 | cons k m ih=>
  simp only[Mr,Bool.or_eq_true]
  rcases List.mem_cons.1 h2 with rfl | h2
  ·exact .inl (MB.2 h1)
  ·exact .inr (ih h2)
theorem Qi {rest:List Oper} {st:St} {l:List PS} {fin:St} (h:Path P Γ ops gs rest 0 st l fin) {p:PS} (hp:p∈l):l[p.i]? =some p∧rest[p.i]? =some p.o∧p.i<rest.length:=by
 obtain⟨k,hk,rfl⟩:=List.getElem_of_mem hp
 have h1:=(qT h).1
 have h2:=(qT h).2.1
 have hl:l.length=rest.length:=by rw[←h2];simp
 have e:l[k].i=k:=by
  have:(l.map (·.i))[k]? =(List.range' 0 rest.length)[k]? :=by rw[h1]
  rw[List.getElem?_map,List.getElem?_eq_getElem hk,List.getElem?_range' (by omega)] at this
  simpa using this
 rw[e]
 refine⟨List.getElem?_eq_getElem hk, ?_,by omega⟩
 rw[←h2,List.getElem?_map,List.getElem?_eq_getElem hk]
 rfl
theorem abq {rest:List Oper} {st:St} {l:List PS} {fin:St} {an:List (List Nat)} (h:Path P Γ ops gs rest 0 st l fin) (hall:aiS an (l.map (·.log))=true) {p q:PS} (hp:p∈l) (hq:q∈l) (hlt:p.i<q.i):
  (Bm p.log q.log=true→p.i∈an.getD q.i [])∧abb q.log p.log=false:=by
 have hpw:=List.pairwise_map.1 (aji _ hall)
 have gp:=(Qi h hp).1
 have gq:=(Qi h hq).1
 rw[List.pairwise_iff_getElem] at hpw
 have lp:=(List.getElem?_eq_some_iff.1 gp).1
 have lq:=(List.getElem?_eq_some_iff.1 gq).1
 have:=hpw p.i q.i lp lq hlt
 rw[(List.getElem?_eq_some_iff.1 gp).2,(List.getElem?_eq_some_iff.1 gq).2] at this
 have ei:=((qT h).2.2 p hp).1
 have ej:=((qT h).2.2 q hq).1
 rw[ei,ej] at this
 exact this
theorem amE {p:PS} (hs:U5 P Γ ops p) {id:Nat} (ht:p.tH id):id∈p.log.wo:=by
 rcases hs with ⟨_,he,_,_⟩ | ⟨_,e,s,r,hr,_,hl,he⟩
 ·rw[PS.tH,he] at ht
  simp at ht
 ·rw[hl]
  simp only[jJ,hr]
  have h1:p.e.ow=e.ow∧p.e.cw=e.cw:=by
   rcases he with rfl | ⟨d,g,_,_,he⟩
   ·exact⟨rfl,rfl⟩
   ·rw[he];exact⟨rfl,rfl⟩
  rw[PS.tH,h1.1,h1.2] at ht
  rcases ht with ht | ⟨off,lE,hc⟩
  ·exact List.mem_append_right _ ht
  ·rw[hc]
   exact List.mem_append_left _ (List.mem_singleton.2 rfl)
theorem asI {p:PS} (hs:U5 P Γ ops p) {j:Nat} (hj:j∈l5 p.e.sv):j∈p.log.m:=by
 rcases hs with ⟨_,he,_,_⟩ | ⟨_,e,s,r,hr,_,hl,he⟩
 ·rw[he] at hj
  simp [l5] at hj
 ·rw[hl]
  simp only[jJ,hr]
  rcases he with rfl | ⟨d,g,_,_,he⟩
  ·exact List.mem_append_left _ hj
  ·rw[he] at hj
   simp [l5] at hj
theorem arF {ow:List (Nat×Option bP)} {id:Nat} {x:Option bP} (h:lkW ow id=some x):(id,x)∈ow:=by
 induction ow with
 | nil=>simp [lkW] at h
 | cons y l ih=>
  obtain⟨i,ob⟩:=y
  simp only[lkW] at h
  split at h
  ·rename_i hi
   subst hi
   simp only[Option.some.injEq] at h
   subst h
   exact List.mem_cons_self ..
  ·exact List.mem_cons_of_mem _ (ih h)
theorem asJ {p:PS} (hs:U5 P Γ ops p) {id:Nat} {ob:bP} (hj:(id,some ob)∈p.e.ow):id∈p.log.m∧∀j∈oy ob,j∈p.log.m:=by
 rcases hs with ⟨_,he,_,_⟩ | ⟨_,e,s,r,hr,_,hl,he⟩
 ·rw[he] at hj
  simp at hj
 ·rw[hl]
  simp only[jJ,hr]
  have h1:p.e.ow=e.ow:=by
   rcases he with rfl | ⟨d,g,_,_,he⟩
   ·rfl
   ·rw[he]
  rw[h1] at hj
  unfold aoa
  constructor
  ·exact List.mem_append_right _ (List.mem_append_right _ (List.mem_flatMap.2 ⟨_,hj,List.mem_cons_self ..⟩))
  ·intro j hj'
   exact List.mem_append_right _ (List.mem_append_right _ (List.mem_flatMap.2 ⟨_,hj,List.mem_cons_of_mem _ hj'⟩))
theorem asK {p:PS} (hs:U5 P Γ ops p) {i off:Nat} {lE:List SV} (hc:p.e.cw=some (i,off,lE)):∀j∈jI lE,j∈p.log.m:=by
 rcases hs with ⟨_,he,_,_⟩ | ⟨_,e,s,r,hr,_,hl,he⟩
 ·rw[he] at hc
  simp at hc
 ·rw[hl]
  simp only[jJ,hr]
  have h1:p.e.cw=e.cw:=by
   rcases he with rfl | ⟨d,g,_,_,he⟩
   ·rfl
   ·rw[he]
  rw[h1] at hc
  intro j hj
  unfold aoa
  refine List.mem_append_right _ (List.mem_append_left _ ?_)
  rw[hc]
  exact hj
theorem Lt (a b:List SV):jI (a++b)=jI a++jI b:=by
 induction a with
 | nil=>rfl
 | cons x a ih=>simp [jI,ih]
theorem anM {a:List SV} {n j:Nat} (h:j∈jI (a.take n)):j∈jI a:=by
 have:=List.take_append_drop n a
 rw[←this,Lt]
 exact List.mem_append_left _ h
theorem anN {a:List SV} {n j:Nat} (h:j∈jI (a.drop n)):j∈jI a:=by
 have:=List.take_append_drop n a
 rw[←this,Lt]
 exact List.mem_append_right _ h
def aqI (ds:List Nat) (L:Nat→Bool) (l:List PS) (j:Nat):Prop:=j / 64 ∉ ds∨∃p∈l,L p.i=true∧j∈p.log.m
theorem ajj {ds:List Nat} {L:Nat→Bool} {s:Nat} :∀(l l0:List PS) (v:SV),(∀p∈l,U5 P Γ ops p)→(∀p∈l,p∈l0)→(∀j∈l5 v,aqI ds L l0 j)→∀j∈l5 (abT L l s v),aqI ds L l0 j
 | [],_,v,_,_,hv=>hv
 | p::l,l0,v,hs,Ji,hv=>by
  unfold abT
  simp only[List.foldl_cons]
  refine ajj l l0 _ (fun q hq=>hs q (List.mem_cons_of_mem _ hq)) (fun q hq=>Ji q (List.mem_cons_of_mem _ hq)) ?_
  intro j hj
  split at hj
  ·rename_i hL
   unfold PS.f at hj
   split at hj
   ·exact .inr ⟨p,Ji p (List.mem_cons_self ..),hL,asI (hs p (List.mem_cons_self ..)) hj⟩
   ·exact hv j hj
  ·exact hv j hj
def aqJ (ds:List Nat) (L:Nat→Bool) (l:List PS) (id:Nat) (o:Option bP):Prop:=∀ob,o=some ob→aqI ds L l id∧∀j∈oy ob,aqI ds L l j
theorem ajk {ds:List Nat} {L:Nat→Bool} {id:Nat} :∀(l l0:List PS) (v:Option bP),(∀p∈l,U5 P Γ ops p)→(∀p∈l,p∈l0)→aqJ ds L l0 id v→aqJ ds L l0 id (abU L l id v)
 | [],_,v,_,_,hv=>hv
 | p::l,l0,v,hs,Ji,hv=>by
  unfold abU
  simp only[List.foldl_cons]
  refine ajk l l0 _ (fun q hq=>hs q (List.mem_cons_of_mem _ hq)) (fun q hq=>Ji q (List.mem_cons_of_mem _ hq)) ?_
  split
  ·rename_i hL
   have hsp:=hs p (List.mem_cons_self ..)
   have abm:=Ji p (List.mem_cons_self ..)
   unfold PS.h
   split
   ·rename_i x hx
    rintro ob rfl
    have:=asJ hsp (arF hx)
    exact⟨.inr ⟨p,abm,hL,this.1⟩,fun j hj=> .inr ⟨p,abm,hL,this.2 j hj⟩⟩
   ·unfold aqD
    split
    ·rename_i i off lE XO
     split
     ·split
      ·rename_i t cells
       rintro ob dT
       simp only[Option.some.injEq] at dT
       subst dT
       have h0:=hv _ rfl
       refine⟨h0.1,fun j hj=> ?_⟩
       simp only[oy,tR,Lt,List.mem_append] at hj
       rcases hj with hj | hj | hj
       ·exact h0.2 j (anM hj)
       ·exact .inr ⟨p,abm,hL,asK hsp XO j hj⟩
       ·exact h0.2 j (anN hj)
      ·exact hv
     ·exact hv
    ·exact hv
  ·exact hv
theorem aqK {a b:sP} {s:Nat} (ha:a.d=some s) (hb:s∈b.rs):Bm a b=true:=by
 have:Mr (XL a.d) (b.rs++XL b.d)=true:=MD (i:=s) (by simp [ha,XL]) (List.mem_append_left _ hb)
 simp [Bm,this]
theorem aqL {a b:sP} {s:Nat} (ha:a.d=some s) (hb:b.d=some s):Bm a b=true:=by
 have:Mr (XL a.d) (b.rs++XL b.d)=true:=MD (i:=s) (by simp [ha,XL]) (List.mem_append_right _ (by simp [hb,XL]))
 simp [Bm,this]
theorem aqM {a b:sP} {s:Nat} (ha:s∈a.rs) (hb:b.d=some s):Bm a b=true:=by
 have:Mr a.rs (XL b.d)=true:=MD (i:=s) ha (by simp [hb,XL])
 simp [Bm,this]
theorem aqN {a b:sP} {s:Nat} (ha:s∈a.wo) (hb:s∈b.wo):Bm a b=true:=by
 have:Mr a.wo (b.ro++b.wo)=true:=MD (i:=s) ha (List.mem_append_right _ hb)
 simp [Bm,this]
theorem aqO {a b:sP} {s:Nat} (ha:s∈a.wo) (hb:s∈b.ro):Bm a b=true:=by
 have:Mr a.wo (b.ro++b.wo)=true:=MD (i:=s) ha (List.mem_append_left _ hb)
 simp [Bm,this]
theorem aqP {a b:sP} {s:Nat} (ha:s∈a.ro) (hb:s∈b.wo):Bm a b=true:=by
 have:Mr a.ro b.wo=true:=MD (i:=s) ha hb
 simp [Bm,this]
theorem aqQ {a b:sP} {j:Nat} (ha:a.d=some (j / 64)) (hb:j∈b.m):Bm a b=true:=by
 have:(b.m.any fun i=>Nat.beq (i / 64) (j / 64))=true:=by
  simp only[List.any_eq_true]
  exact⟨j,hb,Nat.beq_refl _⟩
 unfold Bm
 rw[ha]
 simp only[this,Bool.or_true]
theorem apF {a b:sP} {j:Nat} (ha:b.d=some (j / 64)) (hb:j∈a.m):abb b a=true:=by
 unfold abb
 rw[ha]
 simp only[List.any_eq_true]
 exact⟨j,hb,Nat.beq_refl _⟩
theorem alQ {p q:Nat→Bool} :∀(l:List Nat),(∀k∈l,q k=true→p k=true)→(∃k∈l,p k=true∧q k=false)→l.countP q<l.countP p
 | [],_,h=>by simp at h
 | x::l,h,⟨k,hk,hp,hq⟩=>by
  have hle:l.countP q≤l.countP p:=List.countP_mono_left (fun y hy hqy=>h y (List.mem_cons_of_mem _ hy) hqy)
  simp only[List.countP_cons]
  rcases List.mem_cons.1 hk with rfl | hk
  ·rw[hp,hq]
   simp
   omega
  ·have:=alQ l (fun y hy=>h y (List.mem_cons_of_mem _ hy)) ⟨k,hk,hp,hq⟩
   have hx:=h x (List.mem_cons_self ..)
   cases hqx:q x
   ·simp;omega
   ·rw[hx hqx];simp;omega
def unl (ops:Array Oper) (listed:Array Bool):Nat:=(List.range ops.size).countP fun k=> !(listed.getD k true)
def Cur (w0:World) (S:Own) (st:St) (l:List PS) (L:Nat→Bool) (a:Act) (w:World):Prop:=
 ∃stS:St,Rel w0 S stS a w∧stS.n=st.n∧(∀s,stS.get s=abT L l s (st.get s))∧∀id,stS.obj id=abU L l id (st.obj id)
theorem alR {α:Type} {step:PS→α→α} {T:PS→Prop} (Bo:∀p v,¬T p→step p v=v) {L:Nat→Bool} {l:List PS} {p:PS} (v:α)
  (h1:∀q∈l,T q→q.i<p.i→L q.i=true) (h2:∀q∈l,T q→p.i<q.i→L q.i=false) (h3:L p.i=false):
  l.foldl (fun v q=>if L q.i then step q v else v) v=l.foldl (fun v q=>if decide (q.i<p.i) then step q v else v) v:=by
 refine fold_congr step T Bo (L:=L) (L':=fun k=>decide (k<p.i)) l v (fun q hq ht=> ?_)
 rcases Nat.lt_trichotomy q.i p.i with hlt | heq | hgt
 ·rw[h1 q hq ht hlt];simp [hlt]
 ·rw[heq,h3];simp
 ·rw[h2 q hq ht hgt];simp;omega
theorem ajl {o:Oper} {d:Nat} :∀ {l:List Oper},o∈l→o.dst=some d→d∈afq l
 | [],hm,_=>by simp at hm
 | x::r,hm,hdd=>by
  simp only[afq]
  rcases List.mem_cons.1 hm with rfl | hm
  ·rw[hdd];exact List.mem_cons_self ..
  ·split
   ·exact List.mem_cons_of_mem _ (ajl hm hdd)
   ·exact ajl hm hdd
theorem aqR (DQ:ai P Γ) {st:St} {l:List PS} {fin:St} (Bp:Path P Γ ops gs ops.toList 0 st l fin) (hall:aiS (aob ops.toList []) (l.map (·.log))=true)
  (lR:FZ (afq ops.toList) st=true) {L:Nat→Bool} (hcl:∀k,L k=true→ajh ops L k) {p:PS} (hp:p∈l) (hg:ajh ops L p.i) (hL:L p.i=false)
  {Q:Exit→Act→World→Prop} {a:Act} {w:World} (apG:Cur w0 S st l L a w) {K:Act→World→Prop} (hK:∀a' w',Cur w0 S st l (fun k=>L k || k==p.i) a' w'→K a' w'):wpOp P ops Q p.i K a w:=by
 obtain⟨stS,hR,hn,hget,PU⟩:=apG
 have abr:=aoD Bp
 have QF:=abV Bp
 have hsp:=abr p hp
 have atw:=alP hcl ops.toList [] [] rfl rfl (by simp)
 have hd:∀q∈l,q.log.d=q.o.dst:=fun q hq=>((qT Bp).2.2 q hq).2
 have hA:∀q∈l,q.i<p.i→Bm q.log p.log=true→L q.i=true:=fun q hq hlt hc=>atw p.i q.i hg ((abq Bp hall hq hp hlt).1 hc)
 have hB:∀q∈l,p.i<q.i→Bm p.log q.log=true→L q.i=false:=by
  intro q hq hlt hc
  cases hLq:L q.i
  ·rfl
  ·have:=atw q.i p.i (hcl _ hLq) ((abq Bp hall hp hq hlt).1 hc)
   rw[hL] at this
   cases this
 obtain⟨hg1,hg2,hg3⟩:=QF.1 p hp
 have D2:∀s∈p.log.rs,stS.get s=p.st.get s:=by
  intro s hs
  rw[hget s,hg1 s]
  refine alR (step:=fun q v=>PS.f q s v) (T:=fun q=>q.tF s) (fun q v h=>PS.atr h v) _ (fun q hq ht hlt=>hA q hq hlt (aqK ((hd q hq).trans ht) hs)) (fun q hq ht hlt=>hB q hq hlt (aqM hs ((hd q hq).trans ht))) hL
 have dT:∀id∈p.log.ro,stS.obj id=p.st.obj id:=by
  intro id hs
  rw[PU id,hg2 id]
  refine alR (step:=fun q v=>PS.h q id v) (T:=fun q=>q.tH id) (fun q v h=>PS.ats h v) _ (fun q hq ht hlt=>hA q hq hlt (aqO (amE (abr q hq) ht) hs)) (fun q hq ht hlt=>hB q hq hlt (aqP hs (amE (abr q hq) ht))) hL
 have hnd:(l.map (·.i)).Nodup:=by
  rw[(qT Bp).1]
  exact List.nodup_range'
 have hpw:l.Pairwise (fun a b=>a.i<b.i):=by
  have:=List.pairwise_lt_range' (s:=0) (n:=ops.toList.length)
  rw[←(qT Bp).1] at this
  exact List.pairwise_map.1 this
 have asL:∀s,abT (fun k=>L k || k==p.i) l s (st.get s)=p.f s (stS.get s):=by
  intro s
  rw[hget s]
  exact Qh (fun q v=>PS.f q s v) (fun q=>q.tF s) (fun q v h=>PS.atr h v) (L:=L) (q:=p) l (st.get s) hp hnd hL hpw (fun q hq hlt h1 h2=>hB q hq hlt (aqL ((hd p hp).trans h1) ((hd q hq).trans h2)))
 have asM:∀id,abU (fun k=>L k || k==p.i) l id (st.obj id)=p.h id (stS.obj id):=by
  intro id
  rw[PU id]
  exact Qh (fun q v=>PS.h q id v) (fun q=>q.tH id) (fun q v h=>PS.ats h v) (L:=L) (q:=p) l (st.obj id) hp hnd hL hpw (fun q hq hlt h1 h2=>hB q hq hlt (aqN (amE hsp h1) (amE (abr q hq) h2)))
 have auf:ops[p.i]? =some p.o:=by
  rw[←Array.getElem?_toList]
  exact (Qi Bp hp).2.1
 have hds:∀d,p.o.dst=some d→d∈afq ops.toList:=by
  intro d hdd
  have hm:p.o∈ops.toList:=List.mem_of_getElem? (Qi Bp hp).2.1
  exact ajl hm hdd
 have asN:Ms ops p.o ⊆ p.log.rs:=by
  rcases hsp with ⟨_,_,_,hl⟩ | ⟨_,e,s,r,hr,_,hl,_⟩
  ·rw[hl];exact fun _ h=>h
  ·rw[hl];simp only[jJ,hr];exact fun _ h=>List.mem_append_left _ h
 have alN:Jf ops stS p.o=Jf ops p.st p.o:=by
  unfold Jf
  split
  ·rfl
  ·rename_i j want hgd
   split
   ·rfl
   ·rename_i s hs
    rw[D2 s (asN (by unfold Ms;simp [hgd,hs,XL]))]
 unfold wpOp
 rw[auf]
 simp only
 have hw:Jf ops stS p.o=some true∨Jf ops stS p.o=some false:=by
  rw[alN]
  rcases hsp with ⟨h,_⟩ | ⟨h,_⟩
  ·exact .inr h
  ·exact .inl h
 rcases hsp with ⟨hw0,he,hok,hl⟩ | ⟨hw0,e,s,r,hr,hok,hl,he⟩
 ·rw[←alN] at hw0
  rw[if_neg (by rw[abn hR hw0];simp)]
  refine hK _ _ ⟨stS.skip p.o.dst, ?_,hn,fun s=> ?_,fun id=> ?_⟩
  ·have om:∀d,p.o.dst=some d→eD stS.n d:=by
    intro d hdd
    simp only[St.skip,St.apply,Kk] at hok
    have:=hok.2
    rw[hdd] at this
    have:=afC this
    rw[hn,←hg3]
    exact this
   obtain⟨β,φ,hc⟩:=hR.core
   exact M4 (e:= {sv:= .undef}) hR om hR.kept ⟨β,φ,hc,by simp [bX]⟩
  ·rw[asL s]
   unfold St.skip
   rw[←he]
   exact (afI stS p s)
  ·rw[asM id]
   unfold St.skip
   rw[←he]
   exact (X_ stS p id)
 ·rw[←alN] at hw0
  rw[if_pos (abn hR hw0)]
  refine .inl ?_
  have hrs:∀k∈s,stS.get k=p.st.get k:=fun k hk=>D2 k (by rw[hl];simp only[jJ,hr];exact List.mem_append_right _ hk)
  have hro:∀k∈r,stS.obj k=p.st.obj k:=fun k hk=>dT k (by rw[hl];simp only[jJ,hr];exact List.mem_append_right _ hk)
  have fa:=M.abo (evalOp P Γ p.o) hr hrs hro
  simp only[St.apply,Kk] at hok
  have anA:=anI DQ hR (M.EG _ fa) hok.1.2 (fun d hdd=>by
    have:=hok.2
    rw[hdd] at this
    have:=afC this
    rw[hn,←hg3]
    exact this) (fun _ d hdd=> ?_) Q
  ·refine Oper.wp_mono ?_ anA
   rintro a' w' ⟨v,rfl,GW⟩
   rcases he with he | ⟨d,g,hdd,Mv,he⟩
   ·refine hK _ _ ⟨stS.apply p.o.dst e,GW,hn,fun s=> ?_,fun id=> ?_⟩
    ·rw[asL s,←he];exact afI stS p s
    ·rw[asM id,←he];exact X_ stS p id
   ·have hb:(stS.apply p.o.dst e).get d= .bool g:=by
     rw[hdd,apply_get,Mv]
     simp [dB]
    have asO:=GW.alL hb
    refine hK _ _ ⟨(stS.apply p.o.dst e).reset.Lp d g,GW.reset.Lp asO,hn,fun s=> ?_,fun id=> ?_⟩
    ·rw[asL s];exact aqG hdd p rfl he s
    ·rw[asM id];exact aqH p rfl he id
  ·have key:∀j,aqI (afq ops.toList) L l j→j / 64≠d:=by
    rintro j (hj | ⟨q,hq,hLq,hj⟩) rfl
    ·exact hj (hds _ hdd)
    ·rcases Nat.lt_trichotomy q.i p.i with hlt | heq | hgt
     ·have:=(abq Bp hall hq hp hlt).2
      rw[apF ((hd p hp).trans hdd) hj] at this
      cases this
     ·rw[heq,hL] at hLq
      cases hLq
     ·have:=hB q hq hgt (aqQ ((hd p hp).trans hdd) hj)
      rw[this] at hLq
      cases hLq
   have hf0:=fun d' hd'=>anL lR d' hd'
   constructor
   ·intro i j hj
    rw[hget i] at hj
    refine key j (ajj l l _ abr (fun _ h=>h) (fun k hk=> .inl (fun hm=> ?_)) j hj)
    exact (hf0 _ hm).slot i k hk rfl
   ·intro j ob Yh
    rw[PU j] at Yh
    have h0:aqJ (afq ops.toList) L l j (st.obj j):=by
     intro ob' ans
     refine⟨.inl (fun hm=>((hf0 _ hm).obj j ob' ans).1 rfl),fun k hk=> .inl (fun hm=>((hf0 _ hm).obj j ob' ans).2 k hk rfl)⟩
    have:=ajk l l _ abr (fun _ h=>h) h0 ob Yh
    exact⟨key j this.1,fun k hk=>key k (this.2 k hk)⟩
theorem anO (DQ:ai P Γ) {st:St} {l:List PS} {fin:St} (Bp:Path P Γ ops gs ops.toList 0 st l fin) (hall:aiS (aob ops.toList []) (l.map (·.log))=true)
  (lR:FZ (afq ops.toList) st=true) (hed:M1 ops.toList 0=true) {Q:Exit→Act→World→Prop} (hQ:∀a w,Rel w0 S fin a w→Q .normal a w):
  ∀(fuel:Nat) (listed:Array Bool) (a:Act) (w:World),listed.size=ops.size→(∀k,listed.getD k false=true→ajh ops (fun k=>listed.getD k false) k)→unl ops listed≤fuel→
   Cur w0 S st l (fun k=>listed.getD k false) a w→wpAny P .any ops Q fuel listed a w:=by
 have QF:=abV Bp
 have hlen:l.length=ops.size:=by
  have:(l.map (·.o)).length=ops.toList.length:=by rw[(qT Bp).2.1]
  simpa using this
 have done:∀(listed:Array Bool) (a:Act) (w:World),listed.size=ops.size→Region.ready .any ops listed=[]→Cur w0 S st l (fun k=>listed.getD k false) a w→Q .normal a w:=by
  intro listed a w hsz hr ⟨stS,hR,hn,hget,PU⟩
  have atx:∀k,k<ops.size→listed.getD k false=true:=by
   intro k
   induction k using Nat.strongRecOn with
   | ind k ih=>
    intro hk
    cases hLk:listed.getD k false
    ·have:k∈Region.ready .any ops listed:=by
      rw[mem_ready]
      refine⟨?_,ops[k],Array.getElem?_eq_getElem hk,fun e he hb=> ?_⟩
      ·rw[←hLk]
       simp only[Array.getD_eq_getD_getElem?,Array.getElem?_eq_getElem (show k<listed.size by omega),Option.getD_some]
      ·have:=Ya ops.toList 0 hed k ops[k] (by simp [Array.getElem?_toList,hk]) e he hb
       exact ih e.on (by omega) (by omega)
     rw[hr] at this
     cases this
    ·rfl
  refine hQ a w ?_
  have hLl:∀q∈l,listed.getD q.i false=true:=by
   intro q hq
   have:=(Qi Bp hq).2.2
   exact atx q.i (by simpa using this)
  have e1:stS.get=fin.get:=by
   funext s
   rw[hget s,QF.2.1 s]
   exact fold_congr (fun q v=>PS.f q s v) (fun _=>True) (fun _ _ h=>absurd trivial h) (L:=fun k=>listed.getD k false) (L':=fun _=>true) l _ (fun q hq _=>hLl q hq)
  have e2:stS.obj=fin.obj:=by
   funext s
   rw[PU s,QF.2.2.1 s]
   exact fold_congr (fun q v=>PS.h q s v) (fun _=>True) (fun _ _ h=>absurd trivial h) (L:=fun k=>listed.getD k false) (L':=fun _=>true) l _ (fun q hq _=>hLl q hq)
  obtain⟨β,φ,hc⟩:=hR.core
  refine⟨?_,fun x hx=>by rw[QF.2.2.2,←hn];exact hR.fx x hx,hR.defers,hR.kept,β,φ, ?_⟩
  ·rw[hR.size,hn,QF.2.2.2]
  ·rw[←e1,←e2];exact hc
 intro fuel
 induction fuel with
 | zero=>
  intro listed a w hsz hcl hun apG
  have hr:Region.ready .any ops listed=[]:=by
   cases hrr:Region.ready .any ops listed with
   | nil=>rfl
   | cons x xs=>
    have hx:x∈Region.ready .any ops listed:=by rw[hrr];exact List.mem_cons_self ..
    obtain⟨h1,o,ho,_⟩:=mem_ready.1 hx
    have hlt:=(Array.getElem?_eq_some_iff.1 ho).1
    have:0<unl ops listed:=by
     unfold unl
     rw[List.countP_pos_iff]
     exact⟨x,List.mem_range.2 hlt,by simp only[h1];rfl⟩
    omega
  exact⟨hr,done listed a w hsz hr apG⟩
 | succ fuel ih=>
  intro listed a w hsz hcl hun apG
  refine⟨fun hr=>done listed a w hsz hr apG,fun i hi=> ?_⟩
  obtain⟨h1,o,ho,aug⟩:=mem_ready.1 hi
  have hlt:=(Array.getElem?_eq_some_iff.1 ho).1
  have hil:i<l.length:=by omega
  have hpi:l[i].i=i:=by
   have:(l.map (·.i))[i]? =(List.range' 0 ops.toList.length)[i]? :=by rw[(qT Bp).1]
   rw[List.getElem?_map,List.getElem?_eq_getElem hil,List.getElem?_range' (by simpa using hlt)] at this
   simpa using this
  have aty:∀k,(listed.setIfInBounds i true).getD k false=(listed.getD k false || k==i):=by
   intro k
   simp only[Array.getD_eq_getD_getElem?,Array.getElem?_setIfInBounds]
   by_cases hk:i=k
   ·subst hk
    simp [show i<listed.size by omega]
   ·have:(k==i)=false:=by simpa using fun h=>hk h.symm
    simp [hk,this]
  have hLi:listed.getD i false=false:=by
   rw[←h1]
   simp only[Array.getD_eq_getD_getElem?,Array.getElem?_eq_getElem (show i<listed.size by omega),Option.getD_some]
  have hgi:ajh ops (fun k=>listed.getD k false) i:=by
   intro o' Js e he hb
   rw[ho] at Js
   injection Js with Js
   subst Js
   exact aug e he hb
  have:=aqR (w0:=w0) (S:=S) (Q:=Q) DQ Bp hall lR hcl (p:=l[i]) (List.getElem_mem hil) (by rw[hpi];exact hgi) (by rw[hpi];exact hLi) apG
   (K:=wpAny P .any ops Q fuel (listed.setIfInBounds i true)) (fun a' w' hc=> ?_)
  ·rw[hpi] at this
   exact this
  ·refine ih _ a' w' (by simpa using hsz) (fun k hk=> ?_) ?_ ?_
   ·intro o' Js e he hb
    show (listed.setIfInBounds i true).getD e.on false=true
    rw[aty] at hk ⊢
    simp only[Bool.or_eq_true,beq_iff_eq] at hk ⊢
    rcases hk with hk | rfl
    ·exact .inl (hcl k hk o' Js e he hb)
    ·exact .inl (hgi o' Js e he hb)
   ·have:unl ops (listed.setIfInBounds i true)<unl ops listed:=by
     unfold unl
     refine alQ _ (fun k hk hq=> ?_) ⟨i,List.mem_range.2 hlt,by simp only[h1];rfl, ?_⟩
     ·simp only[Bool.not_eq_true',Array.getD_eq_getD_getElem?,Array.getElem?_setIfInBounds] at hq ⊢
      split at hq
      ·split at hq<;>simp at hq
      ·exact hq
     ·simp [Array.getElem?_setIfInBounds,show i<listed.size by omega]
    omega
   ·have e:(fun k=>(listed.setIfInBounds i true).getD k false)=(fun k=>listed.getD k false || k==i):=funext aty
    rw[e]
    rw[hpi] at hc
    exact hc
theorem Rel.drew {st:St} {a:Act} {w:World} (hR:Rel w0 S st a w):Rel w0 S st a {w with drawn:=w.drawn+1} :=by
 obtain⟨β,φ,hc⟩:=hR.core
 refine⟨hR.size,hR.fx,hR.defers,⟨hR.kept.os,hR.kept.tape,hR.kept.output,hR.kept.size,hR.kept.block⟩,β,φ, ?_⟩
 exact hc.step (h':=st.obj) (β':=β) (φ':=φ) (w':= {w with drawn:=w.drawn+1}) (fun _=>False) (Nat.le_refl _) (fun _ _ _=>rfl) (fun b hb=> .inl hb) (fun _ _ _ h=>h) (fun _ _=>⟨rfl,rfl⟩)
  (fun id o ho=> .inl ⟨fun h=>h,ho,rfl,fun _ _ h=>h,fun _ _=>rfl⟩) hc.sep
theorem Yc (DQ:ai P Γ) {st:St} {a:Act} {w:World} {id:Nat} {draw:Bool} {Q:Exit→Act→World→Prop} (hR:Rel w0 S st a w) (h:(oc P Γ ops draw st).ok=true)
  (hQ:∀a' w',Rel w0 S (oc P Γ ops draw st) a' w'→Q .normal a' w'):(Code.region id ops draw).wp P Q a w:=by
 cases draw with
 | false=>exact aoC DQ hR h hQ
 | true=>
  unfold oc at h hQ
  simp only[cond_true] at h hQ
  cases hf:FZ (afq ops.toList) st && M1 ops.toList 0 && P.follows .mixedOrders
  ·simp [hf,eR] at h
  ·simp only[hf,cond_true] at h hQ
   simp only[Bool.and_eq_true] at hf
   obtain⟨l,fin,Bp,_,auh,aui⟩:=HD _ _ _ _ h
   refine wp_region_any hf.2 (anO DQ Bp (by simpa using auh) hf.1.1 hf.1.2 (fun a' w' GW=>hQ a' w' (aui w0 S a' w' GW)) _ _ a _ (by simp) (fun k hk=> ?_) ?_ ?_)
   ·rw[Array.getD_eq_getD_getElem?,Array.getElem?_replicate] at hk
    split at hk<;>simp at hk
   ·unfold unl
    have:=List.countP_le_length (p:=fun k=> !((Array.replicate ops.size false).getD k true)) (l:=List.range ops.size)
    simpa using this
   ·refine⟨st,hR.drew,rfl,fun s=> ?_,fun o=> ?_⟩
    ·refine (HN (fun q v=>PS.f q s v) (L:=fun k=>(Array.replicate ops.size false).getD k false) l (st.get s) (fun q _=> ?_)).symm
     rw[Array.getD_eq_getD_getElem?,Array.getElem?_replicate]
     split<;>rfl
    ·refine (HN (fun q v=>PS.h q o v) (L:=fun k=>(Array.replicate ops.size false).getD k false) l (st.obj o) (fun q _=> ?_)).symm
     rw[Array.getD_eq_getD_getElem?,Array.getElem?_replicate]
     split<;>rfl
end
end Go.Proofs.YthpmalpdnnbkgaaGreat.Vm
namespace Go.Proofs.YthpmalpdnnbkgaaGreat.Vm
section
variable {P:Program} {Γ:Ctx} {w0:World} {S:Own}
theorem F4 {st:St} {c:Operand} {b:Bool} :(st.yK c b).ok=st.ok:=by
 unfold St.yK
 split<;>rfl
theorem anP {st:St} {c:Operand} {b:Bool} (h:st.ok=true):Tr st (st.yK c b):=by
 unfold St.yK
 split
 ·exact X9 h
 ·exact Tr.refl h
theorem QG {st:St} {a:Act} {w:World} {c:Operand} {b:Bool} (hR:Rel w0 S st a w) (hc:a.eval c= .bool b):Rel w0 S (st.yK c b) a w:=by
 unfold St.yK
 split
 ·exact hR.Lp hc
 ·exact hR
theorem arZ {st:St} {a:Act} {w:World} (hR:Rel w0 S st a w) (c:Operand):∃β,bX w (Av st.obj β) β (ev st c) (a.eval c):=by
 obtain⟨β,φ,hc⟩:=hR.core
 refine⟨β, ?_⟩
 cases c with
 | tmp t=>exact hc.bJ t
 | const v=>exact UT v
 | global g=>simp [ev,bX]
 | func g=>simp [ev,bX]
theorem ar0 {st:St} {a:Act} {w:World} (hR:Rel w0 S st a w) {c:Operand} {t:Bool} (h:ev st c= .kb t):a.eval c= .bool t:=by
 obtain⟨β,hv⟩:=arZ hR c
 rw[h] at hv
 simpa only[bX] using hv
theorem apf {st:St} {a:Act} {w:World} (hR:Rel w0 S st a w) {c:Operand} {t:Bool} (h:ev st c= .bool t):a.eval c= .bool t:=by
 obtain⟨β,hv⟩:=arZ hR c
 rw[h] at hv
 simpa only[bX] using hv
theorem DK:∀(c:Code) (st:St),(exec P Γ c st).ok=true→Tr st (exec P Γ c st)
 | .skip,st,h=>by
  simp only[exec] at h ⊢
  exact Tr.refl h
 | .region id ops draw,st,h=>by
  simp only[exec] at h ⊢
  exact alO h
 | .seq a b,st,h=>by
  simp only[exec] at h ⊢
  have h2:=DK b _ h
  exact (DK a _ h2.ok).trans h2
 | .cond c a b,st,h=>by
  simp only[exec] at h ⊢
  split
  ·rename_i t hev
   simp only[hev] at h
   cases t with
   | true=>simp only[cond_true] at h ⊢;exact DK a _ h
   | false=>simp only[cond_false] at h ⊢;exact DK b _ h
  ·rename_i g hev
   simp only[hev] at h
   have hsp:=wV h
   have hok:st.ok=true:=by
    cases g with
    | true=>
     have:=(DK a _ (hsp.1 rfl)).ok
     rw[F4] at this
     exact this
    | false=>
     have:=(DK b _ (hsp.2 rfl)).ok
     rw[F4] at this
     exact this
   exact anK hok h
  ·rename_i h1 h2
   exfalso
   revert h
   split
   ·rename_i t hev;exact absurd hev (h1 t)
   ·rename_i g hev;exact absurd hev (h2 g)
   ·simp [eR]
 | .block ..,st,h=>by simp [exec,eR] at h
 | .loop ..,st,h=>by simp [exec,eR] at h
 | .exit ..,st,h=>by simp [exec,eR] at h
 | .goto ..,st,h=>by simp [exec,eR] at h
 | .label ..,st,h=>by simp [exec,eR] at h
 | .ret,st,h=>by simp [exec,eR] at h
theorem Na (DQ:ai P Γ):∀(c:Code) (st:St) (a:Act) (w:World) (Q:Exit→Act→World→Prop),Rel w0 S st a w→(exec P Γ c st).ok=true→
  (∀a' w',Rel w0 S (exec P Γ c st) a' w'→Q .normal a' w')→c.wp P Q a w
 | .skip,st,a,w,Q,hR,h,hQ=>by
  simp only[exec] at h hQ
  exact wp_skip (hQ a w hR)
 | .region id ops draw,st,a,w,Q,hR,h,hQ=>by
  simp only[exec] at h hQ
  exact Yc DQ hR h hQ
 | .seq x y,st,a,w,Q,hR,h,hQ=>by
  simp only[exec] at h hQ
  have h2:=DK y _ h
  refine wp_seq (Na DQ x st a w _ hR h2.ok (fun a' w' GW=> ?_))
  exact Na DQ y _ a' w' Q GW h hQ
 | .cond c x y,st,a,w,Q,hR,h,hQ=>by
  simp only[exec] at h hQ
  split at h
  ·rename_i t hev
   simp only[hev] at hQ
   refine wp_cond (ar0 hR hev) ?_
   cases t with
   | true=>simp only[cond_true] at h hQ;exact Na DQ x st a w Q hR h hQ
   | false=>simp only[cond_false] at h hQ;exact Na DQ y st a w Q hR h hQ
  ·rename_i g hev
   simp only[hev] at hQ
   have hsp:=wV h
   have hb:=apf hR hev
   refine wp_cond hb ?_
   cases g with
   | true=>
    have hy:=hsp.1 rfl
    have ht:=DK x _ hy
    refine Na DQ x _ a w Q (QG hR.reset hb) hy (fun a' w' GW=>hQ a' w' ?_)
    have hok:st.reset.ok=true:=by have:=ht.ok;rwa [F4] at this
    exact MC (fun _=>⟨(anP hok).trans ht,GW⟩) (by simp) h
   | false=>
    have hy:=hsp.2 rfl
    have ht:=DK y _ hy
    refine Na DQ y _ a w Q (QG hR.reset hb) hy (fun a' w' GW=>hQ a' w' ?_)
    have hok:st.reset.ok=true:=by have:=ht.ok;rwa [F4] at this
    exact MC (by simp) (fun _=>⟨(anP hok).trans ht,GW⟩) h
  ·simp [eR] at h
 | .block ..,st,_,_,_,_,h,_=>by simp [exec,eR] at h
 | .loop ..,st,_,_,_,_,h,_=>by simp [exec,eR] at h
 | .rangeFunc ..,st,_,_,_,_,h,_=>by simp [exec,eR] at h
 | .exit ..,st,_,_,_,_,h,_=>by simp [exec,eR] at h
 | .scope ..,st,_,_,_,_,h,_=>by simp [exec,eR] at h
 | .goto ..,st,_,_,_,_,h,_=>by simp [exec,eR] at h
 | .label ..,st,_,_,_,_,h,_=>by simp [exec,eR] at h
 | .ret,st,_,_,_,_,h,_=>by simp [exec,eR] at h
 | .refuse ..,st,_,_,_,_,h,_=>by simp [exec,eR] at h
abbrev Rn:=List (Nat×bP×Option Nat)
def lkR:Rn→Nat→Option (bP×Option Nat)
 | [],_=>none
 | (i,x)::l,j=>if j=i then some x else lkR l j
def Env.RM (β:Env) (R:Rn):Env:=
 ⟨β.Bn,fun j=>match lkR R j with | some (_,some id)=>β.val id | some (_,none)=> .slice none 0 0 | none=>β.val j,β.Ol,
  fun j=>match lkR R j with | some (_,some id)=>β.nb id | some (_,none)=>[] | none=>β.nb j⟩
def anQ (o:bP):Prop:=(∃t e,o= .row t e [] false true)∨(∃t e ts,o= .deep t e ts [] none)
def KH (o:bP):Prop:=(∃t e r fz u,o= .row t e r fz u)∨(∃t e ts r,o= .deep t e ts r none)
def S7 (φ:Nat→List Nat) (R:Rn) (j:Nat):List Nat:=
 match lkR R j with | some (_,some id)=>φ id | some (_,none)=>[] | none=>φ j
def anR (h:Nat→Option bP) (x:Nat×bP×Option Nat):Prop:=
 (∃id,KH x.2.1∧x.2.2=some id∧h id=some x.2.1)∨(anQ x.2.1∧x.2.2=none)
theorem ajm {w:World} {av av':Nat→Prop} {β:Env} {R:Rn} :∀(cs:List SV) (l:List Value),abc cs=true→bt w av β cs l→bt w av' (β.RM R) cs l
 | [],l,_,h=>by simpa only[bt] using h
 | s::cs,l,hp,h=>by
  simp only[bt] at h ⊢
  obtain⟨v,l',rfl,h1,h2⟩:=h
  cases s with
  | ptr id off=>
   refine⟨v,l',rfl, ?_,ajm cs l' hp h2⟩
   simp only[bX] at h1 ⊢
   exact h1
  | _=>simp [abc] at hp
theorem Yd {hp:List (Nat×bP)} {f:Nat→SV} {β:Env} {φ:Nat→List Nat} {tm:Array Value} {w:World} (hc:Core w0 S f (Bt hp) β φ tm w) {ck:CK} {nid:Nat} {s:SV} {v:Value} {av':Nat→Prop}
  (hv:bX w (Av (Bt hp) β) β s v) (tU:∀b,av' b→Av (Bt hp) β b) {R:Rn} (hR:∀x∈(cR P hp ck nid s).2,lkR R x.1=some x.2):
  bX w av' (β.RM R) (cR P hp ck nid s).1 v∧∀x∈(cR P hp ck nid s).2,anR (Bt hp) x:=by
 have mono:∀s',l5 s'=[]→bX w (Av (Bt hp) β) β s' v→bX w av' (β.RM R) s' v:=fun s' hs' h'=>
  bX.mono (Nat.le_refl _) (fun _ _ _=>rfl) (fun b hb=> .inl (tU b hb)) s' v h' (by rw[hs'];simp)
 cases s with
 | own id=>
  simp only[cR] at hR ⊢
  simp only[bX] at hv
  cases hl:Bt hp id with
  | none=>simp [bX]
  | some o=>
   cases o with
   | box=>simp [bX]
   | row t e r fz u=>
    simp only[hl] at hR
    simp only
    cases ck with
    | imm=>simp [bX]
    | aU=>
     have:=hR _ (List.mem_singleton.2 rfl)
     simp only at this
     refine⟨?_, ?_⟩
     ·simp only[bX,Env.RM,this]
      exact hv
     ·intro x hx
      rw[List.mem_singleton] at hx
      subst hx
      exact .inl ⟨id,.inl ⟨t,e,r,fz,u,rfl⟩,rfl,hl⟩
    | own=>
     have:=hR _ (List.mem_singleton.2 rfl)
     simp only at this
     refine⟨?_, ?_⟩
     ·simp only[bX,Env.RM,this]
      exact hv
     ·intro x hx
      rw[List.mem_singleton] at hx
      subst hx
      exact .inl ⟨id,.inl ⟨t,e,r,fz,u,rfl⟩,rfl,hl⟩
    | deep=>
     have:=hR _ (List.mem_singleton.2 rfl)
     simp only at this
     refine⟨?_, ?_⟩
     ·simp only[bX,Env.RM,this]
      exact hv
     ·intro x hx
      rw[List.mem_singleton] at hx
      subst hx
      exact .inl ⟨id,.inl ⟨t,e,r,fz,u,rfl⟩,rfl,hl⟩
   | deep t e ts r S0=>
    cases S0 with
    | some q=>simp [bX]
    | none=>
    simp only[hl] at hR
    simp only
    cases ck with
    | imm=>simp [bX]
    | aU=>
     have:=hR _ (List.mem_singleton.2 rfl)
     simp only at this
     refine⟨?_, ?_⟩
     ·simp only[bX,Env.RM,this]
      exact hv
     ·intro x hx
      rw[List.mem_singleton] at hx
      subst hx
      exact .inl ⟨id,.inr ⟨t,e,ts,r,rfl⟩,rfl,hl⟩
    | own=>
     have:=hR _ (List.mem_singleton.2 rfl)
     simp only at this
     refine⟨?_, ?_⟩
     ·simp only[bX,Env.RM,this]
      exact hv
     ·intro x hx
      rw[List.mem_singleton] at hx
      subst hx
      exact .inl ⟨id,.inr ⟨t,e,ts,r,rfl⟩,rfl,hl⟩
    | deep=>
     have:=hR _ (List.mem_singleton.2 rfl)
     simp only at this
     refine⟨?_, ?_⟩
     ·simp only[bX,Env.RM,this]
      exact hv
     ·intro x hx
      rw[List.mem_singleton] at hx
      subst hx
      exact .inl ⟨id,.inr ⟨t,e,ts,r,rfl⟩,rfl,hl⟩
   | imm e r=>
    simp only
    refine⟨?_,by simp⟩
    have h1:=(hc.dA id _ hl).1
    rw[←hv.1] at h1
    exact mono _ rfl h1
 | nil=>
  simp only[cR] at hR ⊢
  simp only[bX] at hv
  cases ck with
  | aU=>
   refine⟨?_,by simp⟩
   simp only[bX]
   exact hv
  | own t=>
   simp only at hR ⊢
   cases hct:ctsOf P 16 t with
   | none=>simp [bX]
   | some e=>
    simp only[hct] at hR
    have:=hR _ (List.mem_singleton.2 rfl)
    simp only at this
    refine⟨?_, ?_⟩
    ·simp only[bX,Env.RM,this]
     rw[hv]
     exact⟨rfl,rfl⟩
    ·intro x hx
     rw[List.mem_singleton] at hx
     subst hx
     exact .inr ⟨.inl ⟨t,e,rfl⟩,rfl⟩
  | deep t ts=>
   simp only at hR ⊢
   cases hct:ctsOf P 16 t with
   | none=>simp [bX]
   | some e=>
    simp only[hct] at hR
    have:=hR _ (List.mem_singleton.2 rfl)
    simp only at this
    refine⟨?_, ?_⟩
    ·simp only[bX,Env.RM,this]
     rw[hv]
     exact⟨rfl,rfl⟩
    ·intro x hx
     rw[List.mem_singleton] at hx
     subst hx
     exact .inr ⟨.inr ⟨t,e,ts,rfl⟩,rfl⟩
  | imm t=>
   simp only at hR ⊢
   cases hct:ctsOf P 16 t with
   | none=>simp [bX]
   | some e=>
    refine⟨?_,by simp⟩
    simp only[bX,RdC]
    exact⟨[],⟨[],none,0,0,rfl,hv,rfl,Nat.le_refl _,Nat.zero_le _,.inl ⟨rfl,rfl⟩⟩,by simp⟩
 | kb b=>
  simp only[cR]
  refine⟨?_,by simp⟩
  simp only[bX] at hv ⊢
  exact hv
 | agg=>simp [cR,bX]
 | tup=>simp [cR,bX]
 | EC=>simp [cR,bX]
 | osl=>simp [cR,bX]
 | clo g cs=>
  simp only[cR]
  cases hp:abc cs
  ·simp [bX]
  ·simp only[cond_true]
   refine⟨?_,by simp⟩
   simp only[bX] at hv ⊢
   obtain⟨l,rfl,hl⟩:=hv
   exact⟨l,rfl,ajm cs l hp hl⟩
 | ptr id off=>
  simp only[cR]
  refine⟨?_,by simp⟩
  simp only[bX] at hv ⊢
  exact hv
 | Jq=>exact⟨mono _ rfl hv,by simp [cR]⟩
 | undef=>exact⟨mono _ rfl hv,by simp [cR]⟩
 | int=>exact⟨mono _ rfl hv,by simp [cR]⟩
 | bool=>exact⟨mono _ rfl hv,by simp [cR]⟩
 | str=>exact⟨mono _ rfl hv,by simp [cR]⟩
 | sl=>exact⟨mono _ rfl hv,by simp [cR]⟩
 | Ou=>exact⟨mono _ rfl hv,by simp [cR]⟩
theorem S8 {hp:List (Nat×bP)} {f:Nat→SV} {β:Env} {φ:Nat→List Nat} {tm:Array Value} {w:World} (hc:Core w0 S f (Bt hp) β φ tm w) {cks:List (Nat×CK)} {b:Nat} {av':Nat→Prop}
  (tU:∀b,av' b→Av (Bt hp) β b) {R:Rn} :∀(l:List SV) (k:Nat) (vs:List Value),bt w (Av (Bt hp) β) β l vs→(∀x∈(ji P hp cks b k l).2,lkR R x.1=some x.2)→
  bt w av' (β.RM R) (ji P hp cks b k l).1 vs∧∀x∈(ji P hp cks b k l).2,anR (Bt hp) x
 | [],k,vs,hl,_=>by
  simp only[ji,bt] at hl ⊢
  exact⟨hl,by simp⟩
 | s::l,k,vs,hl,hR=>by
  simp only[bt] at hl
  obtain⟨v,l',rfl,h1,h2⟩:=hl
  simp only[ji] at hR ⊢
  have c1:=Yd (P:=P) hc (ck:=lkK cks k) (nid:=bD (20000+b*4) k) h1 tU (R:=R) (fun x hx=>hR x (List.mem_append_left _ hx))
  have c2:=S8 hc tU l (k+1) l' h2 (fun x hx=>hR x (List.mem_append_right _ hx))
  refine⟨?_,fun x hx=> ?_⟩
  ·simp only[bt]
   exact⟨v,l',rfl,c1.1,c2.1⟩
  ·rcases List.mem_append.1 hx with hx | hx
   ·exact c1.2 x hx
   ·exact c2.2 x hx
end
end Go.Proofs.YthpmalpdnnbkgaaGreat.Vm
set_option linter.unusedVariables false
set_option linter.unusedSimpArgs false
namespace Go.Proofs.YthpmalpdnnbkgaaGreat.Vm
section
variable {P:Program} {Γ:Ctx} {w0:World} {S:Own}
theorem Jo {l:List Nat} (h:GQ l=true):l.Nodup:=by
 induction l with
 | nil=>simp
 | cons i l ih=>
  simp only[GQ,Bool.and_eq_true,Bool.not_eq_true'] at h
  rw[List.nodup_cons]
  refine⟨fun hm=> ?_,ih h.2⟩
  rw[MB.2 hm] at h
  simp at h
theorem apg {R:Rn} {j:Nat} {x:bP×Option Nat} (h:lkR R j=some x):(j,x)∈R:=by
 induction R with
 | nil=>simp [lkR] at h
 | cons y l ih=>
  obtain⟨i,z⟩:=y
  simp only[lkR] at h
  split at h
  ·rename_i hj
   injection h with h
   subst h hj
   exact List.mem_cons_self ..
  ·exact List.mem_cons_of_mem _ (ih h)
theorem aqS {R:Rn} {x:Nat×bP×Option Nat} (hx:x∈R) (hn:(R.map (·.1)).Nodup):lkR R x.1=some x.2:=by
 induction R with
 | nil=>simp at hx
 | cons y l ih=>
  obtain⟨i,z⟩:=y
  simp only[List.map_cons,List.nodup_cons] at hn
  simp only[lkR]
  rcases List.mem_cons.1 hx with rfl | hx
  ·simp
  ·have:x.1≠i:=fun e=>hn.1 (e ▸ List.mem_map_of_mem hx)
   rw[if_neg this]
   exact ih hx hn.2
theorem aqT {R:Rn} {j:Nat} (h:j ∉ R.map (·.1)):lkR R j=none:=by
 induction R with
 | nil=>rfl
 | cons y l ih=>
  obtain⟨i,z⟩:=y
  simp only[List.map_cons,List.mem_cons,not_or] at h
  simp only[lkR]
  rw[if_neg h.1]
  exact ih h.2
theorem arG {R:Rn} (h:(EF R).Nodup) {x y:Nat×bP×Option Nat} {id:Nat} (hx:x∈R) (hy:y∈R) (h1:x.2.2=some id) (h2:y.2.2=some id):x=y:=by
 have mem:∀(R:Rn) (z:Nat×bP×Option Nat),z∈R→z.2.2=some id→id∈EF R:=by
  intro R
  induction R with
  | nil=>simp
  | cons u l ih=>
   obtain⟨i,o,old⟩:=u
   intro z hz hzi
   rcases List.mem_cons.1 hz with rfl | hz'
   ·simp only at hzi
    subst hzi
    simp [EF]
   ·have:=ih z hz' hzi
    cases old with
    | none=>simpa [EF] using this
    | some k=>simp [EF,this]
 induction R with
 | nil=>simp at hx
 | cons u l ih=>
  obtain⟨i,o,old⟩:=u
  cases old with
  | none=>
   simp only[EF] at h
   rcases List.mem_cons.1 hx with rfl | hx
   ·cases h1
   ·rcases List.mem_cons.1 hy with rfl | hy
    ·cases h2
    ·exact ih h hx hy
  | some k=>
   simp only[EF,List.nodup_cons] at h
   rcases List.mem_cons.1 hx with rfl | hx
   ·simp only[Option.some.injEq] at h1
    rcases List.mem_cons.1 hy with rfl | hy
    ·rfl
    ·exact absurd (h1 ▸ mem l y hy h2) h.1
   ·rcases List.mem_cons.1 hy with rfl | hy
    ·simp only[Option.some.injEq] at h2
     exact absurd (h2 ▸ mem l x hx h1) h.1
    ·exact ih h.2 hx hy
theorem Qj {st:St} {i:Nat} :∀(l:List (Nat×CK)),UQ (en P st l).1 i= .Jq∨
  ∃ck,UQ (en P st l).1 i=(cR P st.hp ck (bD (10000+i) 0) (st.get i)).1∧∀x∈(cR P st.hp ck (bD (10000+i) 0) (st.get i)).2,x∈(en P st l).2
 | []=> .inl rfl
 | (k,ck)::l=>by
  simp only[en,UQ]
  cases hk:Nat.beq k i
  ·simp only[cond_false]
   rcases Qj l with h | ⟨ck',h1,h2⟩
   ·exact .inl h
   ·exact .inr ⟨ck',h1,fun x hx=>List.mem_append_right _ (h2 x hx)⟩
  ·have:=Nat.eq_of_beq_eq_true hk
   subst this
   simp only[cond_true]
   exact .inr ⟨ck,rfl,fun x hx=>List.mem_append_left _ hx⟩
theorem Qk {st:St} {x:Nat×bP×Option Nat} :∀(l:List (Nat×CK)),x∈(en P st l).2→∃i ck,x∈(cR P st.hp ck (bD (10000+i) 0) (st.get i)).2
 | [],h=>by simp [en] at h
 | (k,ck)::l,h=>by
  simp only[en] at h
  rcases List.mem_append.1 h with h | h
  ·exact⟨k,ck,h⟩
  ·exact Qk l h
theorem DL {hp:List (Nat×bP)} {j:Nat} {o:bP} :∀(l:List (Nat×List (Nat×CK))),(j,o)∈(dV P hp l).1→
  ∃cks t cells,Bt hp j=some (.box t cells)∧o= .box t (ji P hp cks j 0 cells).1∧∀x∈(ji P hp cks j 0 cells).2,x∈(dV P hp l).2
 | [],h=>by simp [dV] at h
 | (b,cks)::l,h=>by
  simp only[dV] at h ⊢
  split at h
  ·rename_i t cells hb
   simp only at h ⊢
   rcases List.mem_cons.1 h with h | h
   ·simp only[Prod.mk.injEq] at h
    obtain⟨rfl,rfl⟩:=h
    refine⟨cks,t,cells,hb,rfl,fun x hx=> ?_⟩
    exact List.mem_append_left _ hx
   ·obtain⟨auj,t',GX,h1,h2,h3⟩:=DL l h
    exact⟨auj,t',GX,h1,h2,fun x hx=>List.mem_append_right _ (h3 x hx)⟩
  ·rename_i hb
   exact DL l h
theorem Jp {hp:List (Nat×bP)} {x:Nat×bP×Option Nat} :∀(l:List (Nat×List (Nat×CK))),x∈(dV P hp l).2→
  ∃cks j t cells,Bt hp j=some (.box t cells)∧x∈(ji P hp cks j 0 cells).2
 | [],h=>by simp [dV] at h
 | (b,cks)::l,h=>by
  simp only[dV] at h
  split at h
  ·rename_i t cells hb
   simp only at h
   rcases List.mem_append.1 h with h | h
   ·exact⟨cks,b,t,cells,hb,h⟩
   ·exact Jp l h
  ·exact Jp l h
theorem S9 {hp:List (Nat×bP)} {ck:CK} {nid:Nat} {s:SV} :∀x∈(cR P hp ck nid s).2,anR (Bt hp) x:=by
 intro x hx
 cases s with
 | own id=>
  simp only[cR] at hx
  cases hl:Bt hp id with
  | none=>simp [hl] at hx
  | some o=>
   cases o with
   | box=>simp [hl] at hx
   | imm=>simp [hl] at hx
   | deep t e ts r S0=>
    cases S0 with
    | some q=>simp [hl] at hx
    | none=>
    simp only[hl] at hx
    cases ck with
    | imm=>simp at hx
    | aU=>
     rw[List.mem_singleton] at hx
     subst hx
     exact .inl ⟨id,.inr ⟨t,e,ts,r,rfl⟩,rfl,hl⟩
    | own=>
     rw[List.mem_singleton] at hx
     subst hx
     exact .inl ⟨id,.inr ⟨t,e,ts,r,rfl⟩,rfl,hl⟩
    | deep=>
     rw[List.mem_singleton] at hx
     subst hx
     exact .inl ⟨id,.inr ⟨t,e,ts,r,rfl⟩,rfl,hl⟩
   | row t e r fz u=>
    simp only[hl] at hx
    cases ck with
    | imm=>simp at hx
    | aU=>
     rw[List.mem_singleton] at hx
     subst hx
     exact .inl ⟨id,.inl ⟨t,e,r,fz,u,rfl⟩,rfl,hl⟩
    | own=>
     rw[List.mem_singleton] at hx
     subst hx
     exact .inl ⟨id,.inl ⟨t,e,r,fz,u,rfl⟩,rfl,hl⟩
    | deep=>
     rw[List.mem_singleton] at hx
     subst hx
     exact .inl ⟨id,.inl ⟨t,e,r,fz,u,rfl⟩,rfl,hl⟩
 | nil=>
  simp only[cR] at hx
  cases ck with
  | aU=>simp at hx
  | imm t=>
   simp only at hx
   split at hx<;>simp at hx
  | own t=>
   simp only at hx
   split at hx
   ·rename_i e he
    rw[List.mem_singleton] at hx
    subst hx
    exact .inr ⟨.inl ⟨t,e,rfl⟩,rfl⟩
   ·simp at hx
  | deep t ts=>
   simp only at hx
   split at hx
   ·rename_i e he
    rw[List.mem_singleton] at hx
    subst hx
    exact .inr ⟨.inr ⟨t,e,ts,rfl⟩,rfl⟩
   ·simp at hx
 | kb=>simp [cR] at hx
 | agg=>simp [cR] at hx
 | tup=>simp [cR] at hx
 | EC=>simp [cR] at hx
 | ptr=>simp [cR] at hx
 | Jq=>simp [cR] at hx
 | undef=>simp [cR] at hx
 | int=>simp [cR] at hx
 | bool=>simp [cR] at hx
 | str=>simp [cR] at hx
 | sl=>simp [cR] at hx
 | Ou=>simp [cR] at hx
 | osl=>simp [cR] at hx
 | clo g cs=>
  simp only[cR] at hx
  cases hp:abc cs<;>simp [hp] at hx
theorem Ql {hp:List (Nat×bP)} {cks:List (Nat×CK)} {b:Nat} :∀(l:List SV) (k:Nat),∀x∈(ji P hp cks b k l).2,anR (Bt hp) x
 | [],_,x,hx=>by simp [ji] at hx
 | s::l,k,x,hx=>by
  simp only[ji] at hx
  rcases List.mem_append.1 hx with hx | hx
  ·exact S9 x hx
  ·exact Ql l (k+1) x hx
def atz (h:Nat→Option bP) (R:Rn) (β:Env) (φ:Nat→List Nat) (j:Nat) (o:bP):Prop:=
 (lkR R j=none∧∃t cells,h j=some (.box t cells)∧∃GX,o= .box t GX)∨
 (∃id,lkR R j=some (o,some id)∧h id=some o∧KH o)∨
 (lkR R j=some (o,none)∧anQ o)
theorem KH.aqU {o:bP} (ho:KH o) {β:Env} {R:Rn} {j id:Nat} {o':bP} (h1:lkR R j=some (o',some id)):cb (β.RM R) j o=cb β id o:=by
 rcases ho with ⟨t,e,r,fz,u,rfl⟩ | ⟨t,e,ts,r,rfl⟩<;>simp [cb,Env.RM,h1]
theorem KH.arH {o:bP} (ho:KH o) {w:World} {av av':Nat→Prop} {β:Env} {R:Rn} {j id:Nat} {o':bP} {φ:List Nat} (h1:lkR R j=some (o',some id)) (tU:∀b,av' b→av b) (h:Mt w av β id o φ):Mt w av' (β.RM R) j o φ:=by
 have hval:(β.RM R).val j=β.val id:=by simp [Env.RM,h1]
 have hnb:(β.RM R).nb j=β.nb id:=by simp [Env.RM,h1]
 rcases ho with ⟨t,e,r,fz,u,rfl⟩ | ⟨t,e,ts,r,rfl⟩
 ·obtain⟨vals,fps,g1,g2,g3,g4⟩:=h
  exact⟨vals,fps,by rw[hval];exact g1,g2,fun b hb hx=>g3 b hb (tU b hx),by rw[hval];exact g4⟩
 ·obtain⟨vals,d_,g1,g2,g3,g4⟩:=h
  exact⟨vals,d_,by rw[hval];exact g1,g2,by rw[hnb];exact g3,by rw[hval];exact g4⟩
theorem KH.aoE {o:bP} (ho:KH o) {t:TypeId} {cs:List SV} (h:o= .box t cs):False:=by
 rcases ho with ⟨_,_,_,_,_,rfl⟩ | ⟨_,_,_,_,rfl⟩<;>cases h
theorem aoF {f f':Nat→SV} {h h':Nat→Option bP} {β:Env} {φ:Nat→List Nat} {tm:Array Value} {w:World} (hc:Core w0 S f h β φ tm w) {R:Rn} (hold:(EF R).Nodup)
  (jj:∀j o,h' j=some o→atz h R β φ j o)
  (tU:(∀b,Av h' (β.RM R) b→Av h β b)→(∀i,bX w (Av h' (β.RM R)) (β.RM R) (f' i) (tm.getD i undef))∧
   ∀j t cells GX,h' j=some (.box t GX)→h j=some (.box t cells)→∀vs,bt w (Av h β) β cells vs→bt w (Av h' (β.RM R)) (β.RM R) GX vs):
  Core w0 S f' h' (β.RM R) (S7 φ R) tm w:=by
 have hA:∀b,Av h' (β.RM R) b→Av h β b:=by
  rintro b (⟨j,o,hj,hb⟩ | hb)
  ·rcases jj j o hj with ⟨h1,t,cells,h2,GX,rfl⟩ | ⟨id,h1,h2,ho⟩ | ⟨h1,he⟩
   ·exact .inl ⟨j,_,h2,by simpa [cb,Env.RM] using hb⟩
   ·refine .inl ⟨id,_,h2, ?_⟩
    rw[ho.aqU h1] at hb
    exact hb
   ·rcases he with ⟨t,e,rfl⟩ | ⟨t,e,ts,rfl⟩<;>simp [cb,Env.RM,h1,Value.ownBlock] at hb
  ·exact .inr hb
 obtain⟨hsl,hbx⟩:=tU hA
 refine⟨hsl,fun j o hj=> ?_,fun j o hj=> ?_,fun i j oi oj sV hi hj b hb=> ?_,hc.Ol,hc.bars⟩
 ·rcases jj j o hj with ⟨h1,t,cells,h2,GX,rfl⟩ | ⟨id,h1,h2,ho⟩ | ⟨h1,he⟩
  ·obtain⟨vs,g1,g2,g3,g4⟩:=hc.dA j _ h2
   refine⟨vs,g1,hbx j t cells GX hj h2 vs g2,g3, ?_⟩
   simp only[S7,h1]
   exact g4
  ·simp only[S7,h1]
   exact ho.arH h1 hA (hc.dA id _ h2)
  ·have hval:(β.RM R).val j= .slice none 0 0:=by simp [Env.RM,h1]
   have hnb:(β.RM R).nb j=[]:=by simp [Env.RM,h1]
   rcases he with ⟨t,e,rfl⟩ | ⟨t,e,ts,rfl⟩
   ·refine⟨[],[],⟨by simp,.inl ⟨hval,rfl,rfl⟩⟩,⟨rfl,by simp⟩,by simp, ?_⟩
    simp [S7,h1,hval,Value.ownBlock]
   ·refine⟨[],[],⟨by simp,.inl ⟨hval,rfl,rfl⟩⟩,⟨rfl,by simp⟩,by rw[hnb];rfl, ?_⟩
    simp [S7,h1,hval,Value.ownBlock]
 ·rcases jj j o hj with ⟨h1,t,cells,h2,GX,rfl⟩ | ⟨id,h1,h2,ho⟩ | ⟨h1,he⟩
  ·simp only[S7,h1];exact hc.fresh j _ h2
  ·simp only[S7,h1];exact hc.fresh id _ h2
  ·simp [S7,h1]
 ·rcases jj i oi hi with ⟨h1,t,cells,h2,GX,rfl⟩ | ⟨id,h1,h2,ho⟩ | ⟨h1,he⟩<;>
   rcases jj j oj hj with ⟨k1,t',asP,k2,atE,rfl⟩ | ⟨id',k1,k2,Js⟩ | ⟨k1,he'⟩<;>
   simp only[S7,h1,k1] at hb ⊢
  ·exact hc.sep i j _ _ sV h2 k2 b hb
  ·refine hc.sep i id' _ _ (fun e=> ?_) h2 k2 b hb
   rw[e,k2,Option.some.injEq] at h2
   exact Js.aoE h2
  ·simp
  ·refine hc.sep id j _ _ (fun e'=> ?_) h2 k2 b hb
   rw[e',k2,Option.some.injEq] at h2
   exact ho.aoE h2.symm
  ·refine hc.sep id id' _ _ (fun e'=> ?_) h2 k2 b hb
   subst e'
   have:=arG hold (apg h1) (apg k1) rfl rfl
   simp only[Prod.mk.injEq] at this
   exact sV this.1
  ·simp
  ·simp at hb
  ·simp at hb
  ·simp at hb
theorem aoG {an:dv} {st:St} {a:Act} {w:World} (hR:Rel w0 S st a w) (hok:(abd P an st).ok=true):Rel w0 S (abd P an st) a w∧st.ok=true:=by
 unfold abd at hok ⊢
 simp only at hok ⊢
 cases hnd:GQ (EF ((en P st an.bJ).2++(dV P st.hp an.boxes).2)) &&
   GQ ((dV P st.hp an.boxes).1.map (·.1)++((en P st an.bJ).2++(dV P st.hp an.boxes).2).map (·.1))
 ·rw[hnd] at hok
  simp [eR] at hok
 rw[hnd] at hok
 simp only[cond_true] at hok ⊢
 refine⟨?_,hok⟩
 simp only[Bool.and_eq_true] at hnd
 obtain⟨β,φ,hc⟩:=hR.core
 have hold:=Jo hnd.1
 have ar1:=Jo hnd.2
 rw[List.nodup_append] at ar1
 obtain⟨hkb,hkr,asD⟩:=ar1
 have X1:∀x∈(en P st an.bJ).2,x∈(en P st an.bJ).2++(dV P st.hp an.boxes).2:=fun x hx=>List.mem_append_left _ hx
 have alH:∀x∈(dV P st.hp an.boxes).2,x∈(en P st an.bJ).2++(dV P st.hp an.boxes).2:=fun x hx=>List.mem_append_right _ hx
 have ar2:∀x∈(en P st an.bJ).2++(dV P st.hp an.boxes).2,anR (Bt st.hp) x:=by
  intro x hx
  rcases List.mem_append.1 hx with hx | hx
  ·obtain⟨i,ck,h1⟩:=Qk _ hx
   exact S9 x h1
  ·obtain⟨cks,j,t,cells,h1,h2⟩:=Jp _ hx
   exact Ql cells 0 x h2
 generalize (en P st an.bJ).2++(dV P st.hp an.boxes).2=R at*
 have RJ:∀x∈R,lkR R x.1=some x.2:=fun x hx=>aqS hx hkr
 have PV:Core w0 S st.get (Bt st.hp) β φ a.tmps w:=hc
 refine⟨hR.size,hR.fx,hR.defers,hR.kept,β.RM R,S7 φ R, ?_⟩
 have abm:∀j o,Bt ((dV P st.hp an.boxes).1++R.map (fun x=>(x.1,x.2.1))) j=some o→(j,o)∈(dV P st.hp an.boxes).1∨∃old,(j,o,old)∈R:=by
  intro j o hj
  rcases List.mem_append.1 (ape hj) with h1 | h1
  ·exact .inl h1
  ·obtain⟨x,hx,he⟩:=List.mem_map.1 h1
   obtain⟨k,o',old⟩:=x
   simp only[Prod.mk.injEq] at he
   obtain⟨rfl,rfl⟩:=he
   exact .inr ⟨old,hx⟩
 refine aoF PV hold (fun j o hj=> ?_) (fun hA=>⟨fun i=> ?_,fun j t cells GX hj hh vs hvs=> ?_⟩)
 ·rcases abm j o hj with h1 | ⟨old,h1⟩
  ·obtain⟨cks,t,cells,h2,h3,_⟩:=DL _ h1
   refine .inl ⟨aqT (fun hm=>asD j (List.mem_map_of_mem (f:=(·.1)) h1) j hm rfl),t,cells,h2,_,h3⟩
  ·rcases ar2 _ h1 with ⟨id,g1,g2,g3⟩ | ⟨g1,g2⟩
   ·simp only at g1 g2 g3
    subst g2
    exact .inr (.inl ⟨id,RJ _ h1,g3,g1⟩)
   ·simp only at g1 g2
    subst g2
    exact .inr (.inr ⟨RJ _ h1,g1⟩)
 ·show bX w _ _ (UQ (en P st an.bJ).1 i) _
  rcases Qj (P:=P) (st:=st) (i:=i) an.bJ with h1 | ⟨ck,h1,h2⟩
  ·rw[h1];simp [bX]
  ·rw[h1]
   exact (Yd PV (hc.bJ i) hA (fun x hx=>RJ x (X1 x (h2 x hx)))).1
 ·rcases abm j _ hj with h1 | ⟨old,h1⟩
  ·obtain⟨cks,t',asP,h2,h3,h4⟩:=DL _ h1
   rw[hh] at h2
   simp only[Option.some.injEq,bP.box.injEq] at h2
   obtain⟨rfl,rfl⟩:=h2
   simp only[bP.box.injEq,true_and] at h3
   rw[h3]
   exact (S8 PV hA cells 0 vs hvs (fun x hx=>RJ x (alH x (h4 x hx)))).1
  ·rcases ar2 _ h1 with ⟨id,g1,g2,g3⟩ | ⟨g1,g2⟩
   ·exact (g1.aoE rfl).elim
   ·rcases g1 with ⟨_,_,g1⟩ | ⟨_,_,_,g1⟩<;>cases g1
theorem aph (st:St):st.ap2.ok=st.ok:=by
 unfold St.ap2
 split
 ·split
  ·split
   ·rename_i r _ _
    generalize (Nat.beq _ _ && _ && _ && _ && _:Bool)=c
    cases c<;>rfl
   ·rfl
  ·rfl
 ·rfl
theorem aqV {st:St} {a:Act} {w:World} (hR:Rel w0 S st a w):Rel w0 S st.ap2 a w:=by
 unfold St.ap2
 split
 ·rename_i id hh
  split
  ·rename_i t e t1 rows i nid dT
   split
   ·rename_i t2 e2 r u hn
    cases hb:Nat.beq t2 t1 && asl e e2 && Nat.beq (eK e) 1 && !(Nat.beq nid id) && cg e2
    ·exact hR
    ·simp only[cond_true]
     simp only[Bool.and_eq_true,Bool.not_eq_true'] at hb
     obtain⟨⟨⟨⟨b1,b2⟩,b3⟩,b4⟩,b5⟩:=hb
     have b1:=Nat.eq_of_beq_eq_true b1
     subst b1
     have hsl:∃e',e[D0 e]? =some (.sl e')∧e'=e2:=by
      unfold asl at b2
      split at b2
      ·rename_i e' he
       exact⟨e',he,dR _ _ b2⟩
      ·cases b2
     have sV:nid≠id:=Nat.ne_of_beq_eq_false b4
     obtain⟨β,φ,hc⟩:=hR.core
     obtain⟨β',φ',PV⟩:=apC hc (h':=Bt (aiP [(id,some (.deep t e [t2] (rows.set i (aD (rows.getD i []) (D0 e) [.sl r])) none)),(nid,none)] st.hp)) dT hn hsl (Nat.eq_of_beq_eq_true b3) sV b5
      (by rw[XN];simp [fo,dB]) (fun j hj=>by rw[XN];simp [fo,dB,hj];rfl)
     exact⟨hR.size,hR.fx,hR.defers,hR.kept,β',φ',PV⟩
   ·exact hR
  ·exact hR
 ·exact hR
theorem alS {an:dv} {st:St} {a:Act} {w:World} (hR:Rel w0 S st a w) (hok:(canon P an st).ok=true):Rel w0 S (canon P an st) a w∧st.ok=true:=by
 have:=aoG (aqV hR) hok
 rw[aph] at this
 exact this
end
end Go.Proofs.YthpmalpdnnbkgaaGreat.Vm
namespace Go.Proofs.YthpmalpdnnbkgaaGreat.Vm
section
variable {P:Program} {Γ:Ctx} {w0:World} {S:Own} {A:List (Nat×dv)} {N:Nat} {r:List DC}
structure KOk (K:amk) (r:List DC):Prop where
 F5:∀st,K.F5 st=(true,r)→st.ok=true
 ext:∀i st,K.ext i st=(true,r)→st.ok=true
 ret:∀st,K.ret st=(true,r)→st.ok=true
theorem apH {an:dv} {st:St} (h:(abd P an st).ok=true):st.ok=true:=by
 unfold abd at h
 simp only at h
 cases hnd:GQ (EF ((en P st an.bJ).2++(dV P st.hp an.boxes).2)) &&
   GQ ((dV P st.hp an.boxes).1.map (·.1)++((en P st an.bJ).2++(dV P st.hp an.boxes).2).map (·.1))
 ·rw[hnd] at h
  simp [eR] at h
 ·rw[hnd] at h
  exact h
theorem Ye {an:dv} {st:St} (h:(canon P an st).ok=true):st.ok=true:=by
 have:=apH h
 rwa [aph] at this
theorem jK:bad≠(true,r):=by simp [bad]
theorem amF {st:St} {c:Operand} {x y:Code} {g:Bool} (h:(merge st g (exec P Γ x (st.reset.yK c true)) (exec P Γ y (st.reset.yK c false))).ok=true):st.ok=true:=by
 have hsp:=wV h
 cases g with
 | true=>have:=(DK x _ (hsp.1 rfl)).ok;rwa [F4] at this
 | false=>have:=(DK y _ (hsp.2 rfl)).ok;rwa [F4] at this
def abW (P:Program) (Γ:Ctx) (A:List (Nat×dv)) (N:Nat) (x:Code) (an:dv) (K:amk) (n:Nat):St→aV:=
 Nat.rec (motive:=fun _=>St→aV) (fun _=>bad) (fun _ ih s=>run P Γ A N x s {F5:=fun s'=>ih (canon P an s'),ext:=K.ext,ret:=K.ret}) n
theorem U6 {x:Code} {an:dv} {K:amk} {n:Nat} {s:St} :abW P Γ A N x an K (n+1) s=run P Γ A N x s {F5:=fun s'=>abW P Γ A N x an K n (canon P an s'),ext:=K.ext,ret:=K.ret} :=rfl
theorem Lu:∀(c:Code) (st:St) (K:amk),KOk K r→run P Γ A N c st K=(true,r)→st.ok=true
 | .skip,st,K,hK,h=>hK.F5 st (by simpa only[run] using h)
 | .region id ops draw,st,K,hK,h=>by
  simp only[run] at h
  exact (alO (hK.F5 _ (aoY h))).ok
 | .seq x y,st,K,hK,h=>by
  simp only[run] at h
  exact Lu x st {F5:=fun s=>run P Γ A N y s K,ext:=K.ext,ret:=K.ret} ⟨fun s hs=>Lu y s K hK hs,hK.ext,hK.ret⟩ h
 | .cond c x y,st,K,hK,h=>by
  simp only[run] at h
  split at h
  ·rename_i t hev
   cases t with
   | true=>exact Lu x st K hK h
   | false=>exact Lu y st K hK h
  ·rename_i g hev
   cases hm:simple x && simple y && aba st g (exec P Γ x (st.reset.yK c true)) (exec P Γ y (st.reset.yK c false))
   ·rw[hm] at h
    simp only[cond_false] at h
    cases g with
    | true=>
     have:=Lu x _ K hK h
     rwa [F4] at this
    | false=>
     have:=Lu y _ K hK h
     rwa [F4] at this
   ·rw[hm] at h
    simp only[cond_true] at h
    exact amF (hK.F5 _ (aoY h))
  ·exact absurd h jK
 | .block id x,st,K,hK,h=>by
  simp only[run] at h
  refine Lu x st {F5:=K.F5,ext:=fun i s=>bif Nat.beq i id then K.F5 s else K.ext i s,ret:=K.ret} ⟨hK.F5,fun i s hs=> ?_,hK.ret⟩ h
  simp only at hs
  cases hb:Nat.beq i id
  ·rw[hb] at hs;exact hK.ext i s hs
  ·rw[hb] at hs;exact hK.F5 s hs
 | .loop x,st,K,hK,h=>by
  simp only[run] at h
  split at h
  ·rename_i an han
   have key:∀n s,abW P Γ A N x an K n s=(true,r)→s.ok=true:=by
    intro n
    induction n with
    | zero=>intro s hs;exact absurd hs jK
    | succ n ih=>
     intro s hs
     rw[U6] at hs
     exact Lu x s {F5:=fun s'=>abW P Γ A N x an K n (canon P an s'),ext:=K.ext,ret:=K.ret} ⟨fun s' hs'=>Ye (ih _ hs'),hK.ext,hK.ret⟩ hs
   exact Ye (key N _ h)
  ·exact absurd h jK
 | .exit id,st,K,hK,h=>hK.ext id st (by simpa only[run] using h)
 | .ret,st,K,hK,h=>hK.ret st (by simpa only[run] using h)
 | .rangeFunc ..,st,_,_,h=>by simp only[run] at h;exact absurd h jK
 | .scope ..,st,_,_,h=>by simp only[run] at h;exact absurd h jK
 | .goto ..,st,_,_,h=>by simp only[run] at h;exact absurd h jK
 | .label ..,st,_,_,h=>by simp only[run] at h;exact absurd h jK
 | .refuse ..,st,_,_,h=>by simp only[run] at h;exact absurd h jK
structure KQ (w0:World) (S:Own) (K:amk) (r:List DC) (Q:Exit→Act→World→Prop):Prop where
 F5:∀st a w,Rel w0 S st a w→K.F5 st=(true,r)→Q .normal a w
 ext:∀i st a w,Rel w0 S st a w→K.ext i st=(true,r)→Q (.exit i) a w
 ret:∀st a w,Rel w0 S st a w→K.ret st=(true,r)→Q .ret a w
theorem uY (DQ:ai P Γ):∀(c:Code) (st:St) (K:amk) (a:Act) (w:World) (Q:Exit→Act→World→Prop),KOk K r→Rel w0 S st a w→run P Γ A N c st K=(true,r)→KQ w0 S K r Q→c.wp P Q a w
 | .skip,st,K,a,w,Q,hK,hR,h,hQ=>wp_skip (hQ.F5 st a w hR (by simpa only[run] using h))
 | .region id ops draw,st,K,a,w,Q,hK,hR,h,hQ=>by
  simp only[run] at h
  have h:=aoY h
  exact Yc DQ hR (hK.F5 _ h) (fun a' w' GW=>hQ.F5 _ a' w' GW h)
 | .seq x y,st,K,a,w,Q,hK,hR,h,hQ=>by
  simp only[run] at h
  refine wp_seq (uY DQ x st {F5:=fun s=>run P Γ A N y s K,ext:=K.ext,ret:=K.ret} a w _ ⟨fun s hs=>Lu y s K hK hs,hK.ext,hK.ret⟩ hR h ⟨fun s a' w' GW hs=> ?_,fun i s a' w' GW hs=> ?_,fun s a' w' GW hs=> ?_⟩)
  ·exact uY DQ y s K a' w' Q hK GW hs hQ
  ·exact hQ.ext i s a' w' GW hs
  ·exact hQ.ret s a' w' GW hs
 | .cond c x y,st,K,a,w,Q,hK,hR,h,hQ=>by
  simp only[run] at h
  split at h
  ·rename_i t hev
   refine wp_cond (ar0 hR hev) ?_
   cases t with
   | true=>exact uY DQ x st K a w Q hK hR h hQ
   | false=>exact uY DQ y st K a w Q hK hR h hQ
  ·rename_i g hev
   have hb:=apf hR hev
   cases hm:simple x && simple y && aba st g (exec P Γ x (st.reset.yK c true)) (exec P Γ y (st.reset.yK c false))
   ·rw[hm] at h
    simp only[cond_false] at h
    refine wp_cond hb ?_
    cases g with
    | true=>exact uY DQ x _ K a w Q hK (QG hR hb) h hQ
    | false=>exact uY DQ y _ K a w Q hK (QG hR hb) h hQ
   ·rw[hm] at h
    simp only[cond_true] at h
    have h:=aoY h
    have hok:=hK.F5 _ h
    have he:exec P Γ (.cond c x y) st=merge st g (exec P Γ x (st.reset.yK c true)) (exec P Γ y (st.reset.yK c false)):=by
     simp only[exec,hev]
    exact Na DQ (.cond c x y) st a w Q hR (by rw[he];exact hok) (fun a' w' GW=>hQ.F5 _ a' w' GW (by rw[he];exact h))
  ·exact absurd h jK
 | .block id x,st,K,a,w,Q,hK,hR,h,hQ=>by
  simp only[run] at h
  refine wp_block (uY DQ x st {F5:=K.F5,ext:=fun i s=>bif Nat.beq i id then K.F5 s else K.ext i s,ret:=K.ret} a w _ ⟨hK.F5,fun i s hs=> ?_,hK.ret⟩ hR h ⟨fun s a' w' GW hs=>hQ.F5 s a' w' GW hs,fun i s a' w' GW hs=> ?_,fun s a' w' GW hs=>hQ.ret s a' w' GW hs⟩)
  ·simp only at hs
   cases hb:Nat.beq i id
   ·rw[hb] at hs;exact hK.ext i s hs
   ·rw[hb] at hs;exact hK.F5 s hs
  ·simp only at hs
   simp only[Exit.inBlock]
   cases hb:Nat.beq i id
   ·rw[hb] at hs
    rw[if_neg (Nat.ne_of_beq_eq_false hb)]
    exact hQ.ext i s a' w' GW hs
   ·rw[hb] at hs
    rw[if_pos (Nat.eq_of_beq_eq_true hb)]
    exact hQ.F5 s a' w' GW hs
 | .loop x,st,K,a,w,Q,hK,hR,h,hQ=>by
  simp only[run] at h
  split at h
  ·rename_i an han
   have asQ:∀n s,abW P Γ A N x an K n s=(true,r)→s.ok=true:=by
    intro n
    induction n with
    | zero=>intro s hs;exact absurd hs jK
    | succ n ih=>
     intro s hs
     rw[U6] at hs
     exact Lu x s {F5:=fun s'=>abW P Γ A N x an K n (canon P an s'),ext:=K.ext,ret:=K.ret} ⟨fun s' hs'=>Ye (ih _ hs'),hK.ext,hK.ret⟩ hs
   have key:∀n s a w,Rel w0 S s a w→abW P Γ A N x an K n s=(true,r)→Code.rounds P x Q n a w:=by
    intro n
    induction n with
    | zero=>intro s a w _ hs;exact absurd hs jK
    | succ n ih=>
     intro s a w hR hs
     rw[U6] at hs
     rw[rounds_succ]
     refine uY DQ x s {F5:=fun s'=>abW P Γ A N x an K n (canon P an s'),ext:=K.ext,ret:=K.ret} a w _ ⟨fun s' hs'=>Ye (asQ _ _ hs'),hK.ext,hK.ret⟩ hR hs ⟨fun s' a' w' GW hs'=> ?_,fun i s' a' w' GW hs'=> ?_,fun s' a' w' GW hs'=> ?_⟩
     ·exact ih _ a' w' (alS GW (asQ _ _ hs')).1 hs'
     ·exact hQ.ext i s' a' w' GW hs'
     ·exact hQ.ret s' a' w' GW hs'
   exact wp_loop_rounds N (key N _ a w (alS hR (asQ _ _ h)).1 h)
  ·exact absurd h jK
 | .exit id,st,K,a,w,Q,hK,hR,h,hQ=>wp_exit (hQ.ext id st a w hR (by simpa only[run] using h))
 | .ret,st,K,a,w,Q,hK,hR,h,hQ=>wp_ret (hQ.ret st a w hR (by simpa only[run] using h))
 | .rangeFunc ..,st,_,_,_,_,_,_,h,_=>by simp only[run] at h;exact absurd h jK
 | .scope ..,st,_,_,_,_,_,_,h,_=>by simp only[run] at h;exact absurd h jK
 | .goto ..,st,_,_,_,_,_,_,h,_=>by simp only[run] at h;exact absurd h jK
 | .label ..,st,_,_,_,_,_,_,h,_=>by simp only[run] at h;exact absurd h jK
 | .refuse ..,st,_,_,_,_,_,_,h,_=>by simp only[run] at h;exact absurd h jK
end
end Go.Proofs.YthpmalpdnnbkgaaGreat.Vm
namespace Go.Proofs.YthpmalpdnnbkgaaGreat.Vm
section
variable {P:Program} {Γ:Ctx} {w0:World} {S:Own} {A:List (Nat×dv)} {N:Nat}
variable {f:Nat→SV} {h:Nat→Option bP} {β:Env} {φ:Nat→List Nat} {tm:Array Value} {w:World}
def ajn (tmps:Array Value):ResultVar→Sem Value
 | .tmp t=>pure (tmps.getD t undef)
 | .cell a t=>do loadVar t (←asAddr (tmps.getD a undef))
theorem aqW (hc:Core w0 S f h β φ tm w) {id off:Nat} {t:TypeId} {e:u4} (he:(aiN P t (.ptr id off)).val f h=some e) {v:Value} (hv:v= .pointer (some ⟨β.Bn id,off,none⟩)):
  ∃u,(do loadVar t (←asAddr v):Sem Value).run P w= .ok u w∧bX w (Av h β) β e.sv u:=by
 have conv:∀u,(Instr.loadAt t v).run P w= .ok u w→(do loadVar t (←asAddr v):Sem Value).run P w= .ok u w:=by
  intro u hu
  subst hv
  exact hu
 unfold aiN at he
 split at he
 case h_2=>simp at he
 rename_i td hu
 simp only[an6,M.eB,Option.bind_eq_some_iff] at he
 obtain⟨ob,dT,he⟩:=he
 split at he
 ·rename_i t' cells
  cases ha:isAggB P t
  ·simp only[ha,cond_false] at he
   split at he
   ·rename_i s hs
    simp only[M.ax,Option.some.injEq] at he
    subst he
    obtain⟨vs,hh,hr,_,_⟩:=hc.dA id _ dT
    obtain⟨u,hu',Mv⟩:=bt.get _ _ _ _ hr hs
    refine⟨u,conv u ?_,Mv⟩
    rw[hv]
    exact DE ha hu (by rw[XT hh];exact hu')
   ·simp at he
  ·simp only[ha,cond_true] at he
   split at he
   ·rename_i i hi
    cases hz:Nat.ble (off+i.size) cells.length
    ·simp [hz] at he
    ·simp only[hz,cond_true,M.ax,Option.some.injEq] at he
     subst he
     have hle:=Nat.le_of_ble_eq_true hz
     obtain⟨vs,hh,hr,fm,_⟩:=hc.dA id _ dT
     have hlen:=bt.length _ _ hr
     refine⟨.agg ((vs.drop off).take i.size).toArray,conv _ ?_, ?_⟩
     ·rw[hv]
      refine Jh (vs:=(vs.drop off).take i.size) ha hi (by simp;omega) (fun j v hj=> ?_)
      rw[XT hh]
      rw[List.getElem?_take] at hj
      split at hj
      ·simpa using hj
      ·cases hj
     ·simp only[bX]
      exact⟨_,rfl,bt.take _ _ _ (bt.drop _ _ _ hr),fun y hy=>fm y (List.mem_of_mem_drop (List.mem_of_mem_take hy))⟩
   ·simp at he
 ·simp at he
theorem QH (hc:Core w0 S f h β φ tm w):∀(l:List ResultVar) (ss:List SV),(M3 P l).val f h=some ss→∃vs,(l.mapM (ajn tm)).run P w= .ok vs w∧bt w (Av h β) β ss vs
 | [],ss,hs=>by
  simp only[M3,M.ax,Option.some.injEq] at hs
  subst hs
  exact⟨[],by simp,by simp [bt]⟩
 | .tmp t::l,ss,hs=>by
  simp only[M3,M.XM,M.aX,Option.bind_eq_some_iff,M.ax,Option.some.injEq] at hs
  obtain⟨r,hr,rfl⟩:=hs
  obtain⟨vs,h1,h2⟩:=QH hc l r hr
  refine⟨tm.getD t undef::vs, ?_, ?_⟩
  ·simp only[List.mapM_cons,ajn,Sem.run_bind,Sem.run_pure,Result.andThen_ok,h1]
  ·simp only[bt]
   exact⟨_,_,rfl,hc.bJ t,h2⟩
 | .cell p t::l,ss,hs=>by
  simp only[M3,M.XM,M.aX,Option.bind_eq_some_iff,M.ax,Option.some.injEq] at hs
  obtain⟨e,he,r,hr,rfl⟩:=hs
  obtain⟨vs,h1,h2⟩:=QH hc l r hr
  have hsl:=hc.bJ p
  split at he
  ·rename_i id off hp
   rw[hp] at hsl
   simp only[bX] at hsl
   obtain⟨u,g1,g2⟩:=aqW hc he hsl
   refine⟨u::vs, ?_, ?_⟩
   ·simp only[List.mapM_cons,Sem.run_bind,Sem.run_pure]
    have:(ajn tm (.cell p t)).run P w= .ok u w:=g1
    simp only[this,Result.andThen_ok,h1]
   ·simp only[bt]
    exact⟨_,_,rfl,g2,h2⟩
  ·simp at he
theorem aoH {fn:Func} :results fn tm=(do let vs ←fn.results.mapM (ajn tm);pure (if h:vs.size=1 then vs[0] else .tuple vs)):=by
 unfold results
 congr 1
theorem arI (l:List Value):(if h:l.toArray.size=1 then l.toArray[0] else .tuple l.toArray)=pack l:=by
 cases l with
 | nil=>rfl
 | cons x l=>
  cases l with
  | nil=>rfl
  | cons y l=>simp [pack]
theorem abX {fn:Func} {vs:List Value} (hr:(fn.results.toList.mapM (ajn tm)).run P w= .ok vs w):(results fn tm).run P w= .ok (pack vs) w:=by
 rw[aoH,Array.mapM_eq_mapM_toList]
 simp only[Sem.run_bind,map_eq_pure_bind,Sem.run_pure,hr,Result.andThen_ok,bind_assoc,pure_bind]
 rw[arI]
theorem Qm (hc:Core w0 S f h β φ tm w):∀(rcs:List RC) (ss:List SV) (vs:List Value) (q:List DC×List Nat×List Nat),bt w (Av h β) β ss vs→(DD rcs ss).val f h=some q→
  ∃φ' im tp,ResL w rcs q.1 vs φ' im tp∧(∀b∈φ',∃i∈q.2.1,(∃o,h i=some o)∧b∈φ i)∧(∀b∈tp,∃i o,i∈q.2.1∧h i=some o∧b∈cb β i o)∧(q.2.1.Nodup→φ'.Nodup)∧
   (∀b∈im,¬Av h β b∨∃i∈q.2.2,(∃o,h i=some o)∧b∈φ i)
 | [],[],vs,q,hs,hq=>by
  simp only[DD,M.ax,Option.some.injEq] at hq
  subst hq
  simp only[bt] at hs
  exact⟨[],[],[],⟨rfl,hs,rfl,rfl,rfl⟩,by simp,by simp,by simp,by simp⟩
 | [],_::_,vs,q,hs,hq=>by simp [DD] at hq
 | _::_,[],vs,q,hs,hq=>by simp [DD] at hq
 | rc::rcs,s::ss,vs,q,hs,hq=>by
  simp only[bt] at hs
  obtain⟨v,l,rfl,h1,h2⟩:=hs
  simp only[DD,M.aX,Option.bind_eq_some_iff,M.ax,Option.some.injEq] at hq
  obtain⟨q1,d6,q2,Bc,rfl⟩:=hq
  obtain⟨φ2,im2,tp2,g1,g2,g3,g4,g5⟩:=Qm hc rcs ss l q2 h2 Bc
  cases rc with
  | imm ct=>
   simp only[KD,M.aX,Option.bind_eq_some_iff,M.ax,Option.some.injEq] at d6
   obtain⟨p,hp,rfl⟩:=d6
   obtain⟨fp,r1,r2,_,r4,_⟩:=HA hc h1 hp
   refine⟨φ2,fp++im2,tp2,⟨p.1,q2.1,v,l,fp,im2,rfl,rfl,r1,g1,rfl⟩, ?_, ?_, ?_, ?_⟩
   ·simpa using g2
   ·simpa using g3
   ·simpa using g4
   ·intro b hb
    rcases List.mem_append.1 hb with hb | hb
    ·rcases r4 b hb with h3 | ⟨x,hx,h3⟩
     ·exact .inl h3
     ·obtain⟨_,hx',_⟩:=r2 x hx
      exact .inr ⟨x.1,List.mem_append_left _ (List.mem_map_of_mem hx),⟨_,hx'⟩,bF (hc.dA _ _ hx') b (by rw[HL hx'] at h3;exact h3)⟩
    ·rcases g5 b hb with h3 | ⟨i,hi,h3⟩
     ·exact .inl h3
     ·exact .inr ⟨i,List.mem_append_right _ hi,h3⟩
  | own t e=>
   cases s with
   | nil=>
    simp only[KD,M.ax,Option.some.injEq] at d6
    subst d6
    simp only[bX] at h1
    subst h1
    refine⟨φ2,im2,tp2,⟨[],q2.1,_,l,[],[],φ2,tp2,rfl,rfl,⟨by simp,.inl ⟨rfl,rfl,rfl⟩⟩,⟨rfl,by simp⟩,g1,by simp [Value.ownBlock],by simp [Value.ownBlock]⟩, ?_, ?_, ?_, ?_⟩
    ·simpa using g2
    ·simpa using g3
    ·simpa using g4
    ·simpa using g5
   | own id=>
    simp only[KD,M.eB,Option.bind_eq_some_iff] at d6
    obtain⟨ob,dT,d6⟩:=d6
    split at d6
    ·rename_i t' e' r u
     cases dK:Nat.beq t t' && dG e e' && u
     ·simp [dK] at d6
     ·simp only[dK,cond_true,M.ax,Option.some.injEq] at d6
      subst d6
      simp only[Bool.and_eq_true] at dK
      obtain⟨⟨ht,he⟩,hu⟩:=dK
      have ht':=Nat.eq_of_beq_eq_true ht
      have he':=dR _ _ he
      subst ht' he' hu
      simp only[bX] at h1
      obtain⟨vals,fps,o1,o2,o3,o4⟩:=hc.dA id _ dT
      rw[←h1.1] at o1
      simp only[cond_true] at o4
      rw[←h1.1] at o4
      refine⟨(v.ownBlock.toList++fps.flatten)++φ2,im2,v.ownBlock.toList++tp2,⟨r,q2.1,v,l,vals,fps,φ2,tp2,rfl,rfl,o1,o2,g1,rfl,rfl⟩, ?_, ?_, ?_, ?_⟩
      ·intro b hb
       rcases List.mem_append.1 hb with hb | hb
       ·exact⟨id,List.mem_append_left _ (List.mem_singleton.2 rfl),⟨_,dT⟩,by rw[o4];exact hb⟩
       ·obtain⟨i,hi,h3⟩:=g2 b hb
        exact⟨i,List.mem_append_right _ hi,h3⟩
      ·intro b hb
       rcases List.mem_append.1 hb with hb | hb
       ·exact⟨id,_,List.mem_append_left _ (List.mem_singleton.2 rfl),dT,by rw[h1.1] at hb;simpa [cb] using hb⟩
       ·obtain⟨i,o,hi,h3⟩:=g3 b hb
        exact⟨i,o,List.mem_append_right _ hi,h3⟩
      ·intro hnd
       simp only[List.singleton_append,List.nodup_cons] at hnd
       rw[List.nodup_append]
       refine⟨o4 ▸ (hc.fresh id _ dT).1,g4 hnd.2,fun b hb b' hb' e=> ?_⟩
       subst e
       obtain⟨i,hi,⟨o,hio⟩,h3⟩:=g2 b hb'
       have sV:id≠i:=fun e=>hnd.1 (e ▸ hi)
       exact hc.sep id i _ _ sV dT hio b (o4 ▸ hb) h3
      ·simpa using g5
    ·simp at d6
   | _=>simp [KD] at d6
  | deep t e ts=>
   cases s with
   | nil=>
    simp only[KD,M.ax,Option.some.injEq] at d6
    subst d6
    simp only[bX] at h1
    subst h1
    refine⟨φ2,im2,tp2,⟨[],q2.1,_,l,[],[],φ2,tp2,rfl,rfl,⟨by simp,.inl ⟨rfl,rfl,rfl⟩⟩,⟨rfl,by simp⟩,g1,by simp [Value.ownBlock],by simp [Value.ownBlock]⟩, ?_, ?_, ?_, ?_⟩
    ·simpa using g2
    ·simpa using g3
    ·simpa using g4
    ·simpa using g5
   | own id=>
    simp only[KD,M.eB,Option.bind_eq_some_iff] at d6
    obtain⟨ob,dT,d6⟩:=d6
    split at d6
    ·rename_i t' e' DP r
     cases dK:Nat.beq t t' && dG e e' && KC ts DP
     ·simp [dK] at d6
     ·simp only[dK,cond_true,M.ax,Option.some.injEq] at d6
      subst d6
      simp only[Bool.and_eq_true] at dK
      obtain⟨⟨ht,he⟩,hu⟩:=dK
      have ht':=Nat.eq_of_beq_eq_true ht
      have he':=dR _ _ he
      have hu':=Mp _ _ hu
      subst ht' he' hu'
      simp only[bX] at h1
      obtain⟨vals,d_,o1,o2,o3,o4⟩:=hc.dA id _ dT
      rw[←h1.1] at o1
      rw[←h1.1] at o4
      have lR:∀b∈(v.ownBlock.toList++d_.flatten),b∈cb β id (.deep t e ts r none):=fun b hb=>by
       rw[h1.1] at hb
       simpa only[cb,o3] using hb
      refine⟨(v.ownBlock.toList++d_.flatten)++φ2,im2,(v.ownBlock.toList++d_.flatten)++tp2,⟨r,q2.1,v,l,vals,d_,φ2,tp2,rfl,rfl,o1,o2,g1,rfl,rfl⟩, ?_, ?_, ?_, ?_⟩
      ·intro b hb
       rcases List.mem_append.1 hb with hb | hb
       ·exact⟨id,List.mem_append_left _ (List.mem_singleton.2 rfl),⟨_,dT⟩,by rw[o4];exact hb⟩
       ·obtain⟨i,hi,h3⟩:=g2 b hb
        exact⟨i,List.mem_append_right _ hi,h3⟩
      ·intro b hb
       rcases List.mem_append.1 hb with hb | hb
       ·exact⟨id,_,List.mem_append_left _ (List.mem_singleton.2 rfl),dT,lR b hb⟩
       ·obtain⟨i,o,hi,h3⟩:=g3 b hb
        exact⟨i,o,List.mem_append_right _ hi,h3⟩
      ·intro hnd
       simp only[List.singleton_append,List.nodup_cons] at hnd
       rw[List.nodup_append]
       refine⟨o4 ▸ (hc.fresh id _ dT).1,g4 hnd.2,fun b hb b' hb' e=> ?_⟩
       subst e
       obtain⟨i,hi,⟨o,hio⟩,h3⟩:=g2 b hb'
       have sV:id≠i:=fun e=>hnd.1 (e ▸ hi)
       exact hc.sep id i _ _ sV dT hio b (o4 ▸ hb) h3
      ·simpa using g5
    ·simp at d6
   | _=>simp [KD] at d6
theorem U7 (hc:Core w0 S f h β φ tm w):∀(rks:List RK) (ss:List SV) (vs:List Value) (q:List DC×List Nat×List Nat),bt w (Av h β) β ss vs→(KE rks ss).val f h=some q→
  ∃φ' im tp,ResV w rks q.1 vs φ' im tp∧(∀b∈φ',∃i∈q.2.1,(∃o,h i=some o)∧b∈φ i)∧(∀b∈tp,∃i o,i∈q.2.1∧h i=some o∧b∈cb β i o)∧(q.2.1.Nodup→φ'.Nodup)∧
   (∀b∈im,¬Av h β b∨∃i∈q.2.2,(∃o,h i=some o)∧b∈φ i)
 | [],[],vs,q,hs,hq=>by
  simp only[KE,M.ax,Option.some.injEq] at hq
  subst hq
  simp only[bt] at hs
  exact⟨[],[],[],⟨rfl,hs,rfl,rfl,rfl⟩,by simp,by simp,by simp,by simp⟩
 | [],_::_,vs,q,hs,hq=>by simp [KE] at hq
 | _::_,[],vs,q,hs,hq=>by simp [KE] at hq
 | k::ks,s::ss,vs,q,hs,hq=>by
  simp only[bt] at hs
  obtain⟨v,l,rfl,h1,h2⟩:=hs
  simp only[KE,M.aX,Option.bind_eq_some_iff,M.ax,Option.some.injEq] at hq
  obtain⟨q1,d6,q2,Bc,rfl⟩:=hq
  obtain⟨φ2,im2,tp2,g1,g2,g3,g4,g5⟩:=U7 hc ks ss l q2 h2 Bc
  have one:∃us:List Value,(bif k.agg then v= .agg us.toArray else us=[v])∧(∀x∈us,x.oneCell'=true)∧∃φ1 im1 tp1,ResL w k.cells q1.1 us φ1 im1 tp1∧(∀b∈φ1,∃i∈q1.2.1,(∃o,h i=some o)∧b∈φ i)∧
    (∀b∈tp1,∃i o,i∈q1.2.1∧h i=some o∧b∈cb β i o)∧(q1.2.1.Nodup→φ1.Nodup)∧(∀b∈im1,¬Av h β b∨∃i∈q1.2.2,(∃o,h i=some o)∧b∈φ i):=by
   cases hk:k.agg with
   | true=>
    cases s with
    | agg cs=>
     simp only[hk] at d6
     simp only[bX] at h1
     obtain⟨us,rfl,hus,fm⟩:=h1
     exact⟨us,rfl,fm,Qm hc k.cells cs us q1 hus d6⟩
    | _=>simp [hk] at d6
   | false=>
    have afw:(DD k.cells [s]).val f h=some q1:=by
     cases s<;>simp only[hk] at d6<;>first | exact d6 | (simp at d6)
    have Qd:bt w (Av h β) β [s] [v]:=by simp only[bt];exact⟨v,[],rfl,h1,rfl⟩
    have hres:=Qm hc k.cells [s] [v] q1 Qd afw
    refine⟨[v],rfl, ?_,hres⟩
    obtain⟨_,_,_,hr,_⟩:=hres
    intro x hx
    rw[List.mem_singleton] at hx
    subst hx
    cases hcs:k.cells with
    | nil=>rw[hcs] at hr;simp [ResL] at hr
    | cons c cs=>
     rw[hcs] at hr
     cases c with
     | imm ct=>
      obtain⟨d,ds',v',vs',f1,im',_,hv,h3,_⟩:=hr
      simp only[List.cons.injEq] at hv
      rw[hv.1]
      exact h3.one
     | own t e=>
      obtain⟨rows,ds',v',vs',vals,fps,φ',tp',_,hv,h3,_⟩:=hr
      simp only[List.cons.injEq] at hv
      rw[hv.1]
      exact h3.one
     | deep t e ts=>
      obtain⟨rows,ds',v',vs',vals,fps,φ',tp',_,hv,h3,_⟩:=hr
      simp only[List.cons.injEq] at hv
      rw[hv.1]
      exact h3.one
  obtain⟨us,hus,fm,φ1,im1,tp1,k1,k2,k3,k4,k5⟩:=one
  refine⟨φ1++φ2,im1++im2,tp1++tp2,⟨q1.1,q2.1,v,l,us,φ1,φ2,im1,im2,tp1,tp2,rfl,rfl,hus,fm,k1,g1,rfl,rfl,rfl⟩, ?_, ?_, ?_, ?_⟩
  ·intro b hb
   rcases List.mem_append.1 hb with hb | hb
   ·obtain⟨i,hi,h3⟩:=k2 b hb
    exact⟨i,List.mem_append_left _ hi,h3⟩
   ·obtain⟨i,hi,h3⟩:=g2 b hb
    exact⟨i,List.mem_append_right _ hi,h3⟩
  ·intro b hb
   rcases List.mem_append.1 hb with hb | hb
   ·obtain⟨i,o,hi,h3⟩:=k3 b hb
    exact⟨i,o,List.mem_append_left _ hi,h3⟩
   ·obtain⟨i,o,hi,h3⟩:=g3 b hb
    exact⟨i,o,List.mem_append_right _ hi,h3⟩
  ·intro hnd
   rw[List.nodup_append] at hnd ⊢
   refine⟨k4 hnd.1,g4 hnd.2.1,fun b hb b' hb' e=> ?_⟩
   subst e
   obtain⟨i,hi,⟨o,hio⟩,h3⟩:=k2 b hb
   obtain⟨j,hj,⟨o',Yh⟩,h4⟩:=g2 b hb'
   exact hc.sep i j _ _ (hnd.2.2 i hi j hj) hio Yh b h3 h4
  ·intro b hb
   rcases List.mem_append.1 hb with hb | hb
   ·rcases k5 b hb with h3 | ⟨i,hi,h3⟩
    ·exact .inl h3
    ·exact .inr ⟨i,List.mem_append_left _ hi,h3⟩
   ·rcases g5 b hb with h3 | ⟨i,hi,h3⟩
    ·exact .inl h3
    ·exact .inr ⟨i,List.mem_append_right _ hi,h3⟩
end
end Go.Proofs.YthpmalpdnnbkgaaGreat.Vm
set_option linter.unusedVariables false
namespace Go.Proofs.YthpmalpdnnbkgaaGreat.Vm
mutual
def WtC:CT→DC→Prop
 | .int k,d=>∃n,d= .int n∧inR k n=true
 | .bool,d=>∃b,d= .bool b
 | .str,d=>∃s:List UInt8,d= .str s∧s.length≤maxLen
 | .sl e,d=>∃rows:List (List DC),d= .sl rows∧rows.length≤maxLen∧∀r∈rows,WtL e r
def WtL:List CT→List DC→Prop
 | [],r=>r=[]
 | c::cs,r=>∃d r',r=d::r'∧WtC c d∧WtL cs r'
end
mutual
theorem RdC.wt {w:World} :∀(c:CT) (d:DC) (v:Value) (fp:List Nat),RdC w c d v fp→WtC c d
 | .int k,_,_,_,h=>by
  simp only[RdC,WtC] at h ⊢
  obtain⟨n,h1,_,h2,_⟩:=h
  exact⟨n,h1,h2⟩
 | .bool,_,_,_,h=>by
  simp only[RdC,WtC] at h ⊢
  obtain⟨n,h1,_⟩:=h
  exact⟨n,h1⟩
 | .str,_,_,_,h=>by
  simp only[RdC,WtC] at h ⊢
  obtain⟨s,h1,_,h2,_⟩:=h
  exact⟨s,h1,h2⟩
 | .sl e,_,_,_,h=>by
  simp only[RdC,WtC] at h ⊢
  obtain⟨rows,a,n,c,rfl,_,hn,hc,hm,hr⟩:=h
  refine⟨rows,rfl,by omega,fun r hr'=> ?_⟩
  rcases hr with ⟨h0,_⟩ | ⟨_,b,o,fps,_,_,hl,_,hr⟩
  ·rw[h0] at hn
   rw[List.length_eq_zero_iff.1 hn] at hr'
   simp at hr'
  ·obtain⟨i,hi,rfl⟩:=List.getElem_of_mem hr'
   exact RdL.wt e _ _ _ (hr i rows[i] fps[i] (by simp) (by simp))
theorem RdL.wt {w:World} :∀(cs:List CT) (r:List DC) (f:Nat→Option Value) (fp:List Nat),RdL w cs r f fp→WtL cs r
 | [],_,_,_,h=>by
  simp only[RdL,WtL] at h ⊢
  exact h.1
 | c::cs,_,_,_,h=>by
  simp only[RdL,WtL] at h ⊢
  obtain⟨d,r',v,f1,f2,h0,_,h1,h2,_⟩:=h
  exact⟨d,r',h0,RdC.wt c d v f1 h1,RdL.wt cs r' _ f2 h2⟩
end
def ctsAll:List AK→List CT
 | []=>[]
 | k::ks=>k.cts++ctsAll ks
theorem WtL.append:∀ {cs cs':List CT} {r r':List DC},WtL cs r→WtL cs' r'→WtL (cs++cs') (r++r')
 | [],_,_,_,h,h'=>by
  simp only[WtL] at h
  subst h
  exact h'
 | c::cs,_,_,_,h,h'=>by
  simp only[WtL] at h
  obtain⟨d,r1,rfl,h1,h2⟩:=h
  simp only[List.cons_append,WtL]
  exact⟨d,r1++_,rfl,h1,h2.append h'⟩
theorem ArgsR.wt {w:World} :∀(ks:List AK) (ds:List DC) (vs:List Value) (fp:List Nat),ArgsR w ks ds vs fp→WtL (ctsAll ks) ds
 | [],_,_,_,h=>by
  simp only[ctsAll,WtL]
  exact h.1
 | k::ks,_,_,_,h=>by
  obtain⟨d1,d2,v,vs',f1,f2,rfl,rfl,⟨us,_,_,hr,_⟩,h2,rfl⟩:=h
  exact WtL.append (RdL.wt _ _ _ _ hr) (ArgsR.wt ks d2 vs' f2 h2)
section
variable {P:Program} {Γ:Ctx} {A:List (Nat×dv)} {w:World}
theorem Yf:∀(cs:List CT) (d1 d2:List DC) (k:Nat),k+cs.length≤d1.length→kU cs (d1++d2) k=kU cs d1 k
 | [],_,_,_,_=>rfl
 | c::cs,d1,d2,k,h=>by
  simp only[kU]
  simp only[List.length_cons] at h
  rw[Yf cs d1 d2 (k+1) (by omega)]
  congr 2
  simp only[List.getD_eq_getElem?_getD]
  rw[List.getElem?_append_left (by omega)]
theorem aqX {av:Nat→Prop} {β:Env} {k:AK} {ds:List DC} {v:Value} {fp:List Nat} (h:arv w k ds v fp) (tU:∀b∈fp,¬av b):
  bX w av β (bif k.agg then .agg (kU k.cts ds 0) else (kU k.cts ds 0).headD .Jq) v:=by
 obtain⟨us,h1,h2,h3,h4⟩:=h
 obtain⟨vs,l1,l2,l3,l4⟩:=RdL.lE (β:=β) h3 tU k.cts.length 0 (by omega)
 have e:vs=us:=by
  apply List.ext_getElem?
  intro j
  by_cases hj:j<vs.length
  ·have:=l2 j vs[j] (by simp)
   simp only[Nat.zero_add] at this
   rw[this]
   simp
  ·rw[List.getElem?_eq_none (by omega),List.getElem?_eq_none (by omega)]
 subst e
 simp only[List.drop_zero,List.take_length] at l3
 cases hk:k.agg with
 | true=>
  rw[hk] at h1
  simp only[cond_true] at h1 ⊢
  simp only[bX]
  exact⟨vs,h1,l3,l4⟩
 | false=>
  rw[hk] at h1
  simp only[cond_false] at h1 ⊢
  rw[h1.1] at l3
  cases hd:kU k.cts ds 0 with
  | nil=>simp [bX]
  | cons s ss=>
   rw[hd] at l3
   simp only[bt] at l3
   obtain⟨v',l',e1,e2,_⟩:=l3
   simp only[List.cons.injEq] at e1
   rw[e1.1]
   exact e2
theorem api {av:Nat→Prop} {β:Env} :∀(ks:List AK) (ds:List DC) (vs:List Value) (fp:List Nat) (i0:Nat),ArgsR w ks ds vs fp→(∀b∈fp,¬av b)→∀i,
  UQ (US i0 ks ds) i= .Jq∨∃j v,i=i0+j∧vs[j]? =some v∧bX w av β (UQ (US i0 ks ds) i) v
 | [],_,_,_,_,_,_,i=> .inl rfl
 | k::ks,_,_,_,i0,h,tU,i=>by
  obtain⟨d1,d2,v,vs',f1,f2,rfl,rfl,ha,h2,rfl⟩:=h
  have hl:d1.length=k.cts.length:=by
   obtain⟨us,_,_,hr,_⟩:=ha
   exact RdL.length _ _ _ _ hr
  simp only[US,UQ]
  rw[Yf _ _ _ _ (by omega)]
  cases hk:Nat.beq i0 i
  ·simp only[cond_false]
   rw[←hl,List.drop_left]
   rcases api (av:=av) (β:=β) ks d2 vs' f2 (i0+1) h2 (fun b hb=>tU b (List.mem_append_right _ hb)) i with h3 | ⟨j,v',hi,hj,hs⟩
   ·exact .inl h3
   ·exact .inr ⟨j+1,v',by omega,by simpa using hj,hs⟩
  ·have:=Nat.eq_of_beq_eq_true hk
   subst this
   simp only[cond_true]
   exact .inr ⟨0,v,rfl,rfl,aqX ha (fun b hb=>tU b (List.mem_append_left _ hb))⟩
theorem ArgsR.length:∀(ks:List AK) (ds:List DC) (vs:List Value) (fp:List Nat),ArgsR w ks ds vs fp→vs.length=ks.length
 | [],_,_,_,h=>by rw[h.2.1];rfl
 | k::ks,_,_,_,h=>by
  obtain⟨d1,d2,v,vs',f1,f2,rfl,rfl,ha,h2,rfl⟩:=h
  simp [ArgsR.length ks d2 vs' f2 h2]
theorem aqY {fn:Func} {s:Sum} {st:St} {r:List DC} (h:fin P fn s st=(true,r)):st.ok=true:=by
 unfold fin at h
 split at h
 ·split at h
  ·simp only[Prod.mk.injEq] at h
   exact h.1
  ·exact absurd h jK
 split at h
 ·simp only[Prod.mk.injEq,Bool.and_eq_true] at h
  exact h.1.1.1
 ·exact absurd h jK
theorem aqZ {fn:Func} {s:Sum} (hpt:s.pt=none) {st:St} {r:List DC} {w w':World} {fp:List Nat} {a:Act} (h:fin P fn s st=(true,r)) (hR:Rel w ⟨fun _=>False,fun b=>b<w.heap.size∧b ∉ fp,[]⟩ st a w'):
  a.defers=[]∧∃v,(results fn a.tmps).run P w'= .ok v w'∧∃vs φ im tp,Ending.returned v= .returned (pack vs)∧Kept Own.none w w'∧ResV w' s.rs r vs φ im tp∧φ.Nodup∧
   (∀b∈φ,w.heap.size≤b∧b<w'.heap.size)∧∀b∈im,(b∈fp∨w.heap.size≤b)∧b ∉ tp:=by
 unfold fin at h
 rw[hpt] at h
 simp only at h
 split at h
 case h_2=>exact absurd h jK
 rename_i ds own im x hr
 simp only[Prod.mk.injEq,Bool.and_eq_true,List.all_eq_true,Bool.not_eq_true'] at h
 obtain⟨⟨⟨_,eO⟩,him⟩,rfl⟩:=h
 obtain⟨β,φ,hc⟩:=hR.core
 have hval:=M.EG _ hr
 simp only[M.aX,Option.bind_eq_some_iff] at hval
 obtain⟨ss,h1,h2⟩:=hval
 obtain⟨vs,g1,g2⟩:=QH hc _ _ h1
 obtain⟨φ',im',tp',k1,k2,k3,k4,k5⟩:=U7 hc _ _ _ _ g2 h2
 refine⟨hR.defers,pack vs,abX g1,vs,φ',im',tp',rfl,⟨hR.kept.os,hR.kept.tape,hR.kept.output,hR.kept.size,fun k hk hn=>hR.kept.block k hk (fun h=>h)⟩,k1,k4 (Jo eO), ?_, ?_⟩
 ·intro b hb
  obtain⟨i,_,⟨o,hio⟩,DS⟩:=k2 b hb
  have:=(hc.fresh i o hio).2 b DS
  rcases this.1 with h3 | h3
  ·exact⟨h3,this.2⟩
  ·exact h3.elim
 ·intro b hb
  rcases k5 b hb with h3 | ⟨i,hi,⟨o,hio⟩,DS⟩
  ·refine⟨?_,fun hx=> ?_⟩
   ·by_cases hlt:b<w.heap.size
    ·by_cases hm:b∈fp
     ·exact .inl hm
     ·refine absurd (.inr ?_) h3
      rw[hc.bars]
      exact⟨hlt,hm⟩
    ·exact .inr (by omega)
   ·obtain⟨j,oj,_,hj,ie⟩:=k3 b hx
    exact h3 (.inl ⟨j,oj,hj,ie⟩)
  ·refine⟨?_,fun hx=> ?_⟩
   ·rcases ((hc.fresh i o hio).2 b DS).1 with h3 | h3
    ·exact .inr h3
    ·exact h3.elim
   ·obtain⟨j,oj,hjm,hj,ie⟩:=k3 b hx
    have sV:i≠j:=by
     rintro rfl
     have:=him i hi
     rw[MB.2 hjm] at this
     cases this
    exact hc.sep i j o oj sV hio hj b DS (bF (hc.dA j oj hj) b ie)
theorem apI (DQ:ai P Γ) {g:Nat} {fn:Func} {s:Sum} (hf:P.funcs[g]? =some fn) (hbd:fn.body.isSome=true) (hn:(fn.name== "runtime.NumGoroutine")=false) (hlen:s.ps.length≤fn.ntmps) (hnt:fn.ntmps<1099511627776)
  (h:∀ds,WtL (ctsAll s.ps) ds→(s.fn ds).1=true→∃N,bg P Γ A N fn s ds=(true,(s.fn ds).2)) {w:World} {ds:List DC} {vals:List Value} {fp:List Nat} (hargs:ArgsR w s.ps ds vals fp) (hok:(s.fn ds).1=true) {Q:Ending→World→Prop}
  (hQ:∀(st:St) (a:Act) (w':World),Rel w ⟨fun _=>False,fun b=>b<w.heap.size∧b ∉ fp,[]⟩ st a w'→fin P fn s st=(true,(s.fn ds).2)→a.defers=[]∧∃v,(results fn a.tmps).run P w'= .ok v w'∧Q (.returned v) w'):Calls P g vals.toArray w Q:=by
 obtain⟨N,fa⟩:=h ds (ArgsR.wt _ _ _ _ hargs) hok
 obtain⟨c,hc⟩:=Option.isSome_iff_exists.1 hbd
 unfold bg at fa
 rw[hc] at fa
 simp only at fa
 have hvl:=ArgsR.length _ _ _ _ hargs
 refine calls_of_wp hf hc ?_
 let S:Own:=⟨fun _=>False,fun b=>b<w.heap.size∧b ∉ fp,[]⟩
 let β:Env:=⟨fun _=>0,fun _=>undef,S.Ol,fun _=>[]⟩
 have hfp:=ArgsR.lt _ _ _ _ hargs
 have hR:Rel w S {n:=fn.ntmps,sl:=US 0 s.ps ds,hp:=[],ok:=true,ls:=[],lm:=[]} {tmps:=vals.toArray++Array.replicate (fn.ntmps - vals.toArray.size) undef,defers:=[]} w:=by
  refine⟨by simp only[Array.size_append,List.size_toArray,Array.size_replicate];rw[Nat.mod_eq_of_lt hnt];omega,fun x hx=>by simp [S] at hx,rfl,⟨rfl,rfl,rfl,Nat.le_refl _,fun _ _ _=>rfl⟩,β,fun _=>[], ?_⟩
  refine⟨fun i=> ?_,fun id o ho=>by simp [St.obj,Bt] at ho,fun id o ho=>by simp [St.obj,Bt] at ho,fun i j o p _ ho=>by simp [St.obj,Bt] at ho,fun b hb=>⟨hb.1,fun h=>h⟩,rfl⟩
  have asR:∀b∈fp,¬Av (Bt []) β b:=by
   intro b hb hx
   rcases hx with ⟨id,o,ho,_⟩ | hx
   ·simp [Bt] at ho
   ·exact hx.2 hb
  rcases api (av:=Av (Bt []) β) (β:=β) s.ps ds vals fp 0 hargs asR i with h1 | ⟨j,v,hi,hj,hs⟩
  ·show bX w _ _ (UQ (US 0 s.ps ds) i) _
   rw[h1]
   simp [bX]
  ·have hv:(vals.toArray++Array.replicate (fn.ntmps - vals.toArray.size) undef).getD i undef=v:=by
    have hjl:j<vals.length:=(List.getElem?_eq_some_iff.1 hj).1
    rw[Array.getD_eq_getD_getElem?,Array.getElem?_append_left (by simp;omega)]
    have:i=j:=by omega
    subst this
    simp [hj]
   rw[hv]
   exact hs
 refine uY (r:=(s.fn ds).2) DQ c _ {F5:=fin P fn s,ext:=fun _ _=>bad,ret:=fin P fn s} _ w _ ⟨fun st QA=>aqY QA,fun i st QA=>absurd QA jK,fun st QA=>aqY QA⟩ hR fa ⟨?_, ?_, ?_⟩
 ·intro st a w' GW QA
  exact hQ st a w' GW QA
 ·intro i st a w' _ QA
  exact absurd QA jK
 ·intro st a w' GW QA
  exact hQ st a w' GW QA
theorem aa (DQ:ai P Γ) {g:Nat} {fn:Func} {s:Sum} (hf:P.funcs[g]? =some fn) (hbd:fn.body.isSome=true) (hn:(fn.name== "runtime.NumGoroutine")=false) (hlen:s.ps.length≤fn.ntmps) (hnt:fn.ntmps<1099511627776)
  (h:∀ds,WtL (ctsAll s.ps) ds→(s.fn ds).1=true→∃N,bg P Γ A N fn s ds=(true,(s.fn ds).2)) (hpt:s.pt=none:=by rfl):Holds P g s:=
 ⟨⟨fn,hf,hbd,hn⟩,fun w ds vals fp hargs hok=>apI DQ hf hbd hn hlen hnt h hargs hok fun st a w' hR QA=>aqZ hpt QA hR⟩
end
end Go.Proofs.YthpmalpdnnbkgaaGreat.Vm
namespace Go.Proofs.YthpmalpdnnbkgaaGreat.Vm
def focus (P:Program) (Γ:Ctx) (A:List (Nat×dv)) (N:Nat):List Bool→List (St→aV)→Code→amk→Code×amk
 | [],_,c,K=>(c,K)
 | x::p,is,c,K=>
  match c with
  | .seq a b=>bif x then focus P Γ A N p is b K else focus P Γ A N p is a {F5:=fun s=>run P Γ A N b s K,ext:=K.ext,ret:=K.ret}
  | .cond _ a b=>bif x then focus P Γ A N p is b K else focus P Γ A N p is a K
  | .block id a=>focus P Γ A N p is a {F5:=K.F5,ext:=fun i s=>bif Nat.beq i id then K.F5 s else K.ext i s,ret:=K.ret}
  | .loop a=>match is,(zm a).bind (lkA A) with
   | ih::is',some an=>focus P Γ A N p is' a {F5:=fun s'=>ih (canon P an s'),ext:=K.ext,ret:=K.ret}
   | _,_=>(c,K)
  | _=>(c,K)
def dw (P:Program) (Γ:Ctx) (A:List (Nat×dv)) (N:Nat) (fn:Func) (s:Sum) (p:List Bool) (is:List (St→aV)) (ih:St→aV) (st:St):aV:=
 match fn.body with
 | some c=>match focus P Γ A N p is c {F5:=fin P fn s,ext:=fun _ _=>bad,ret:=fin P fn s} with
  | (.loop a,K)=>match (zm a).bind (lkA A) with
   | some an=>run P Γ A N a st {F5:=fun s'=>ih (canon P an s'),ext:=K.ext,ret:=K.ret}
   | none=>bad
  | _=>bad
 | none=>bad
def aw (B:(St→aV)→St→aV) (n:Nat):St→aV:=Nat.rec (motive:=fun _=>St→aV) (fun _=>bad) (fun _ ih s=>B ih s) n
theorem cT {α β:Type} {c:Bool} {x y:α} {a b:β} {K:β→α} (h1:x=K a) (h2:y=K b):(bif c then x else y)=K (bif c then a else b):=by
 cases c
 ·exact h2
 ·exact h1
def afN:Sum:= {ps:=[],rs:=[],fn:=fun _=>(false,[]),ann:=true}
theorem RN {P:Program} {g:Nat} :Mx P g afN:=trivial
theorem aq {P:Program} :ai P []:=fun _ _ h=>by simp [lkS] at h
theorem ab {P:Program} {g:Nat} {s:Sum} {Γ:Ctx} (h:Mx P g s) (DQ:ai P Γ):ai P ((g,s)::Γ):=by
 intro g' s' h'
 simp only[lkS] at h'
 cases hb:Nat.beq g g'
 ·rw[hb] at h';exact DQ g' s' h'
 ·rw[hb] at h'
  have:=Nat.eq_of_beq_eq_true hb
  subst this
  simp only[cond_true,Option.some.injEq] at h'
  subst h'
  exact h
end Go.Proofs.YthpmalpdnnbkgaaGreat.Vm
set_option linter.unusedVariables false
set_option linter.unusedSimpArgs false
namespace Go.Proofs.YthpmalpdnnbkgaaGreat.Vm
def pid (i j:Nat):Nat:=bD (5000000+i) j
def ME (t:TT) (e:List CT) (rows:List (List DC)):bP:=
 match t with
 | .flat t=> .row t e rows false true
 | .deep t its=> .deep t e its rows none
def ef (i:Nat):Nat→List CT→List TT→List DC→List SV×List (Nat×bP)
 | _,[],_,_=>([],[])
 | j,.sl e::cs,ts,ds=>
  let q:=ef i (j+1) cs ts.tail ds.tail
  (.own (pid i j)::q.1,(pid i j,ME (ts.headD (.flat 0)) e (ds.headD default).asRows)::q.2)
 | j,.int k::cs,ts,ds=>let q:=ef i (j+1) cs ts ds.tail;(aa5 (.int k) (ds.headD default)::q.1,q.2)
 | j,.bool::cs,ts,ds=>let q:=ef i (j+1) cs ts ds.tail;(aa5 .bool (ds.headD default)::q.1,q.2)
 | j,.str::cs,ts,ds=>let q:=ef i (j+1) cs ts ds.tail;(aa5 .str (ds.headD default)::q.1,q.2)
def yM:Nat→List AK→List (Option MK)→List DC→List (Nat×SV)×List (Nat×bP)
 | _,[],_,_=>([],[])
 | i,k::ks,ms,ds=>
  let q:=yM (i+1) ks ms.tail (ds.drop k.cts.length)
  match ms.headD none with
  | none=>((i,bif k.agg then .agg (kU k.cts ds 0) else (kU k.cts ds 0).headD .Jq)::q.1,q.2)
  | some (.box t)=>((i,.ptr (pid i 0) 0)::q.1,(pid i 0,.box t (kU k.cts ds 0))::q.2)
  | some (.rows ts)=>
   let c:=ef i 0 k.cts ts ds
   ((i,bif k.agg then .agg c.1 else c.1.headD .Jq)::q.1,c.2++q.2)
def amG (e:List CT) (t:TT) (s:SV):M (DC×Nat):=
 match s with
 | .own id=> .obj id fun
  | .row t' e' r false _=>match t with
   | .flat t=>bif Nat.beq t' t && dG e' e && cg e then .pure (.sl r,id) else .fail
   | .deep _ _=> .fail
  | .deep t' e' DP r none=>match t with
   | .flat _=> .fail
   | .deep t its=>bif Nat.beq t' t && dG e' e && KC DP its then .pure (.sl r,id) else .fail
  | _=> .fail
 | _=> .fail
def gM:List CT→List TT→List SV→M (List DC×List Nat)
 | [],_,[]=> .pure ([],[])
 | .sl e::cs,t::ts,s::ss=>(amG e t s).bind fun q=>(gM cs ts ss).bind fun r=> .pure (q.1::r.1,q.2::r.2)
 | .int _::cs,ts,_::ss=>gM cs ts ss
 | .bool::cs,ts,_::ss=>gM cs ts ss
 | .str::cs,ts,_::ss=>gM cs ts ss
 | _,_,_=> .fail
def Qn:Nat→List AK→List (Option MK)→M (List DC×List Nat)
 | _,[],[]=> .pure ([],[])
 | i,_::ks,none::ms=>Qn (i+1) ks ms
 | i,k::ks,some (.box t)::ms=> .slot i fun
  | .ptr id 0=> .obj id fun
   | .box t' cells=>bif Nat.beq t' t then
     (ou k.cts cells).bind fun r=>bif r.2.1.isEmpty then (Qn (i+1) ks ms).bind fun q=> .pure (r.1++q.1,id::q.2) else .fail
    else .fail
   | _=> .fail
  | _=> .fail
 | i,k::ks,some (.rows ts)::ms=> .slot i fun s=>
  (match k.agg,s with
   | true,.agg cs=>gM k.cts ts cs
   | true,_=> .fail
   | false,.agg _=> .fail
   | false,s=>gM k.cts ts [s]).bind fun r=>(Qn (i+1) ks ms).bind fun q=> .pure (r.1++q.1,r.2++q.2)
 | _,_,_=> .fail
def KI:List TT→Bool
 | []=>true
 | .flat _::l=>KI l
 | .deep _ _::_=>false
def ajo:List (Option MK)→Bool
 | []=>true
 | some (.rows ts)::l=>KI ts && ajo l
 | _::l=>ajo l
def anS:List (Option MK)→Bool
 | []=>true
 | some (.box _)::_=>false
 | _::l=>anS l
def aln (P:Program) (fn:Func) (s:Sum) (st:St):aV:=
 match ((M3 P fn.results.toList).bind fun l=>(KE s.rs l).bind fun q=>(Qn 0 s.ps s.ms).bind fun r=> .pure (q,r)).run st.get st.obj with
 | some (((ds,own,im),(od,ids)),_)=>(st.ok && GQ (own++ids) && (ajo s.ms || (anS s.ms && own.isEmpty)),ds++od)
 | none=>bad
def afy:List (Option MK)→Nat
 | []=>0
 | m::l=>bif Nat.blt 0 (afy l) then afy l+1 else bif m.isSome then 1 else 0
theorem apj:∀ {l:List (Option MK)} {j:Nat} {m:MK},l[j]? =some (some m)→j<afy l
 | [],j,m,h=>by simp at h
 | x::l,0,m,h=>by
  simp only[List.getElem?_cons_zero,Option.some.injEq] at h
  subst h
  simp only[afy]
  cases Nat.blt 0 (afy l)<;>simp
 | x::l,j+1,m,h=>by
  have:=apj (l:=l) (j:=j) (m:=m) (by simpa using h)
  simp only[afy]
  have h0:Nat.blt 0 (afy l)=true:=Nat.ble_eq_true_of_le (by omega)
  rw[h0]
  simp only[cond_true]
  omega
def lV (P:Program) (Γ:Ctx) (A:List (Nat×dv)) (N:Nat) (fn:Func) (s:Sum) (ds:List DC):aV:=
 match fn.body with
 | some c=>run P Γ A N c {n:=fn.ntmps+afy s.ms*1099511627776,sl:=(yM 0 s.ps s.ms ds).1,hp:=(yM 0 s.ps s.ms ds).2,ok:=true,ls:=[],lm:=[]} {F5:=aln P fn s,ext:=fun _ _=>bad,ret:=aln P fn s}
 | none=>bad
section
variable {P:Program} {Γ:Ctx} {w0:World} {S:Own} {A:List (Nat×dv)} {N:Nat}
variable {f:Nat→SV} {h:Nat→Option bP} {β:Env} {φ:Nat→List Nat} {tm:Array Value} {w:World}
theorem aoI (hc:Core w0 S f h β φ tm w) {el:List CT} {t:TT} {s:SV} {v:Value} {q:DC×Nat} (hs:bX w (Av h β) β s v) (hq:(amG el t s).val f h=some q):
  ∃rows mb o,q.1= .sl rows∧Qc w t el rows v mb∧h q.2=some o∧mb=cb β q.2 o∧mb.Nodup∧(KI [t]=true→mb=v.ownBlock.toList):=by
 have hvn:v.ownBlock.toList.Nodup:=by cases v.ownBlock<;>simp
 unfold amG at hq
 cases s with
 | own id=>
  simp only[M.eB,Option.bind_eq_some_iff] at hq
  obtain⟨ob,dT,hq⟩:=hq
  simp only[bX] at hs
  split at hq
  ·rename_i t' e' r u
   cases t with
   | deep t its=>simp at hq
   | flat t=>
    simp only at hq
    cases dK:Nat.beq t' t && dG e' el && cg el
    ·simp [dK] at hq
    ·simp only[dK,cond_true,M.ax,Option.some.injEq] at hq
     subst hq
     simp only[Bool.and_eq_true] at dK
     have ht:=Nat.eq_of_beq_eq_true dK.1.1
     have he:=dR _ _ dK.1.2
     subst ht he
     obtain⟨vals,fps,g1,g2,_,_⟩:=hc.dA id _ dT
     rw[←hs.1] at g1
     exact⟨r,v.ownBlock.toList,_,rfl,⟨dK.2,vals,fps,g1,g2,rfl⟩,dT,by simp only[cb,hs.1],hvn,fun _=>rfl⟩
  ·rename_i t' e' DP r
   cases t with
   | flat t=>simp at hq
   | deep t its=>
    simp only at hq
    cases dK:Nat.beq t' t && dG e' el && KC DP its
    ·simp [dK] at hq
    ·simp only[dK,cond_true,M.ax,Option.some.injEq] at hq
     subst hq
     simp only[Bool.and_eq_true] at dK
     have ht:=Nat.eq_of_beq_eq_true dK.1.1
     have he:=dR _ _ dK.1.2
     have hi:=Mp _ _ dK.2
     subst ht he hi
     have lR:=(hc.fresh id _ dT).1
     obtain⟨vals,d_,g1,g2,g3,g4⟩:=hc.dA id _ dT
     rw[g4] at lR
     rw[←hs.1] at g1 lR
     exact⟨r,v.ownBlock.toList++d_.flatten,_,rfl,⟨vals,d_,g1,g2,rfl⟩,dT,by simp only[cb,g3,hs.1],lR,fun h=>by simp [KI] at h⟩
  ·simp at hq
 | _=>simp at hq
theorem Bq (hc:Core w0 S f h β φ tm w):∀(cs:List CT) (ts:List TT) (ss:List SV) (us:List Value) (q:List DC×List Nat),bt w (Av h β) β ss us→(gM cs ts ss).val f h=some q→
  ∃ψ,U1 w cs ts q.1 us ψ∧(∀b∈ψ,∃id∈q.2,∃o,h id=some o∧b∈cb β id o)∧(q.2.Nodup→ψ.Nodup)∧
   (KI ts=true→∀(w1:World) (ds:List DC) (mb:List Nat),fH w1 cs ts ds us mb→∀b∈mb,∃id∈q.2,∃o,h id=some o∧b∈cb β id o)
 | [],ts,ss,us,q,hs,hq=>by
  cases ss with
  | nil=>
   simp only[gM,M.ax,Option.some.injEq] at hq
   subst hq
   simp only[bt] at hs
   refine⟨[],⟨rfl,hs,rfl⟩,by simp,by simp,fun _ w1 ds mb hm b hb=> ?_⟩
   simp only[fH] at hm
   rw[hm.2.2.2] at hb
   simp at hb
  | cons s ss=>simp [gM] at hq
 | .int k::cs,ts,ss,us,q,hs,hq=>by
  cases ss with
  | nil=>simp [gM] at hq
  | cons s ss=>
   simp only[bt] at hs
   obtain⟨v,eo,rfl,h1,h2⟩:=hs
   simp only[gM] at hq
   obtain⟨ψ,k1,k2,k3,k4⟩:=Bq hc cs ts ss eo q h2 hq
   refine⟨ψ, ?_,k2,k3,fun hnd w1 ds mb hm b hb=> ?_⟩
   ·simp only[U1]
    exact⟨v,eo,rfl,k1⟩
   ·simp only[fH] at hm
    obtain⟨d,ds',v',us1,rfl,e0,_,hm⟩:=hm
    simp only[List.cons.injEq] at e0
    obtain⟨rfl,rfl⟩:=e0
    exact k4 hnd w1 ds' mb hm b hb
 | .bool::cs,ts,ss,us,q,hs,hq=>by
  cases ss with
  | nil=>simp [gM] at hq
  | cons s ss=>
   simp only[bt] at hs
   obtain⟨v,eo,rfl,h1,h2⟩:=hs
   simp only[gM] at hq
   obtain⟨ψ,k1,k2,k3,k4⟩:=Bq hc cs ts ss eo q h2 hq
   refine⟨ψ, ?_,k2,k3,fun hnd w1 ds mb hm b hb=> ?_⟩
   ·simp only[U1]
    exact⟨v,eo,rfl,k1⟩
   ·simp only[fH] at hm
    obtain⟨d,ds',v',us1,rfl,e0,_,hm⟩:=hm
    simp only[List.cons.injEq] at e0
    obtain⟨rfl,rfl⟩:=e0
    exact k4 hnd w1 ds' mb hm b hb
 | .str::cs,ts,ss,us,q,hs,hq=>by
  cases ss with
  | nil=>simp [gM] at hq
  | cons s ss=>
   simp only[bt] at hs
   obtain⟨v,eo,rfl,h1,h2⟩:=hs
   simp only[gM] at hq
   obtain⟨ψ,k1,k2,k3,k4⟩:=Bq hc cs ts ss eo q h2 hq
   refine⟨ψ, ?_,k2,k3,fun hnd w1 ds mb hm b hb=> ?_⟩
   ·simp only[U1]
    exact⟨v,eo,rfl,k1⟩
   ·simp only[fH] at hm
    obtain⟨d,ds',v',us1,rfl,e0,_,hm⟩:=hm
    simp only[List.cons.injEq] at e0
    obtain⟨rfl,rfl⟩:=e0
    exact k4 hnd w1 ds' mb hm b hb
 | .sl el::cs,ts,ss,us,q,hs,hq=>by
  cases ts with
  | nil=>cases ss<;>simp [gM] at hq
  | cons t ts=>
   cases ss with
   | nil=>simp [gM] at hq
   | cons s ss=>
    simp only[bt] at hs
    obtain⟨v,eo,rfl,h1,h2⟩:=hs
    simp only[gM,M.aX,Option.bind_eq_some_iff,M.ax,Option.some.injEq] at hq
    obtain⟨q1,d6,q2,Bc,rfl⟩:=hq
    obtain⟨ψ,k1,k2,k3,k4⟩:=Bq hc cs ts ss eo q2 h2 Bc
    obtain⟨rows,mb0,o,r1,r2,r3,r4,r5,r6⟩:=aoI hc h1 d6
    refine⟨mb0++ψ, ?_,fun b hb=> ?_,fun hnd=> ?_,fun hnd w1 ds mb hm b hb=> ?_⟩
    ·simp only[U1]
     exact⟨t,ts,rows,q2.1,v,eo,mb0,ψ,rfl,by rw[r1],rfl,r2,k1,rfl⟩
    ·rcases List.mem_append.1 hb with hb | hb
     ·exact⟨q1.2,List.mem_cons_self ..,o,r3,r4 ▸ hb⟩
     ·obtain⟨i,hi,o',ho⟩:=k2 b hb
      exact⟨i,List.mem_cons_of_mem _ hi,o',ho⟩
    ·simp only[List.nodup_cons] at hnd
     rw[List.nodup_append]
     refine⟨r5,k3 hnd.2,fun b hb b' hb' e=> ?_⟩
     subst e
     obtain⟨i,hi,o',Js,DS⟩:=k2 b hb'
     rw[r4] at hb
     exact hc.sep q1.2 i o o' (fun e=>hnd.1 (e ▸ hi)) r3 Js b (bF (hc.dA _ _ r3) b hb) (bF (hc.dA _ _ Js) b DS)
    ·simp only[fH] at hm
     obtain⟨t1,ts1,aut,ds',v1,us1,m1,Om,e1,rfl,e2,hca,hm,rfl⟩:=hm
     simp only[List.cons.injEq] at e1 e2
     obtain⟨rfl,rfl⟩:=e1
     obtain⟨rfl,rfl⟩:=e2
     cases t with
     | deep t its=>simp [KI] at hnd
     | flat t=>
      obtain⟨_,vals,fps,_,_,rfl⟩:=hca
      rcases List.mem_append.1 hb with hb | hb
      ·refine⟨q1.2,List.mem_cons_self ..,o,r3, ?_⟩
       rw[←r4,r6 rfl]
       exact hb
      ·obtain⟨i,hi,o,ho⟩:=k4 (by simpa only[KI] using hnd) w1 ds' Om hm b hb
       exact⟨i,List.mem_cons_of_mem _ hi,o,ho⟩
theorem afJ (hc:Core w0 S f h β φ tm w):∀(i:Nat) (ks:List AK) (ms:List (Option MK)) (vs:List Value) (q:List DC×List Nat),(∀(j:Nat) v m,vs[j]? =some v→ms[j]? =some (some m)→tm.getD (i+j) undef=v)→vs.length=ks.length→(Qn i ks ms).val f h=some q→
  ∃im ψ,ai5 w ks ms q.1 vs im ψ∧(∀b∈im,¬Av h β b)∧(anS ms=true→im=[])∧(∀b∈ψ,∃id∈q.2,∃o,h id=some o∧b∈cb β id o)∧(q.2.Nodup→ψ.Nodup)∧
   (ajo ms=true→∀(w1:World) (ds:List DC) (fp mb:List Nat),uP w1 ks ms ds vs fp mb→∀b∈mb,∃id∈q.2,∃o,h id=some o∧b∈cb β id o)
 | i,[],ms,vs,q,hv,hl,hq=>by
  cases ms with
  | nil=>
   simp only[Qn,M.ax,Option.some.injEq] at hq
   subst hq
   have hl:vs=[]:=List.length_eq_zero_iff.1 hl
   subst hl
   refine⟨[],[],⟨rfl,rfl,rfl,rfl⟩,by simp,fun _=>rfl,by simp,by simp,fun _ w1 ds fp mb hm b hb=> ?_⟩
   simp only[uP] at hm
   rw[hm.2.2.2.2] at hb
   simp at hb
  | cons m ms=>simp [Qn] at hq
 | i,k::ks,ms,vs,q,hv,hl,hq=>by
  cases ms with
  | nil=>simp [Qn] at hq
  | cons m ms=>
   cases vs with
   | nil=>simp at hl
   | cons v vs=>
    have hv':∀(j:Nat) u m,vs[j]? =some u→ms[j]? =some (some m)→tm.getD (i+1+j) undef=u:=fun j u m' hu hm=>by
     have:=hv (j+1) u m' (by simpa using hu) (by simpa using hm)
     rw[show i+1+j=i+(j+1) by omega]
     exact this
    have hl':vs.length=ks.length:=by simpa using hl
    have D2:=hc.bJ i
    cases m with
    | none=>
     simp only[Qn] at hq
     obtain⟨im,ψ,k1,k2,k4,k5,k6,k3⟩:=afJ hc (i+1) ks ms vs q hv' hl' hq
     refine⟨im,ψ,⟨none,ms,[],q.1,v,vs,[],im,[],ψ,rfl,rfl,rfl,⟨rfl,rfl,rfl⟩,k1,rfl,rfl⟩,k2,k4,k5,k6,fun hnd w1 ds fp mb hm b hb=> ?_⟩
     simp only[uP] at hm
     obtain⟨m',ms',d1,d2,v',vs',f1,f2,b1,b2,e1,rfl,e2,ha,hm,rfl,rfl⟩:=hm
     simp only[List.cons.injEq] at e1 e2
     obtain⟨rfl,rfl⟩:=e1
     obtain⟨rfl,rfl⟩:=e2
     simp only[X2] at ha
     rw[ha.2] at hb
     exact k3 hnd w1 d2 f2 b2 hm b (by simpa using hb)
    | some m=>
     have hv0:tm.getD i undef=v:=hv 0 v m rfl rfl
     rw[hv0] at D2
     cases m with
     | box t=>
      simp only[Qn,M.XM] at hq
      cases Mv:f i with
      | ptr id off=>
       rw[Mv] at hq D2
       cases off with
       | succ off=>simp at hq
       | zero=>
        simp only[M.eB,Option.bind_eq_some_iff] at hq
        obtain⟨ob,dT,hq⟩:=hq
        cases ob with
        | box t' cells=>
         simp only at hq
         cases htt:Nat.beq t' t
         ·simp [htt] at hq
         ·have aos:=Nat.eq_of_beq_eq_true htt
          subst aos
          simp only[htt,cond_true,M.aX,Option.bind_eq_some_iff] at hq
          obtain⟨q1,d6,hq⟩:=hq
          cases hem:q1.2.1.isEmpty
          ·simp [hem] at hq
          ·simp only[hem,cond_true,M.aX,Option.bind_eq_some_iff,M.ax,Option.some.injEq] at hq
           obtain⟨q2,Bc,rfl⟩:=hq
           obtain⟨im,ψ,k1,k2,k4,k5,k6,k3⟩:=afJ hc (i+1) ks ms vs q2 hv' hl' Bc
           obtain⟨us,g1,g2,g3,_⟩:=hc.dA id _ dT
           obtain⟨fp1,hr,hm1,XZ,_⟩:=DG hc k.cts cells us q1 g2 d6
           have hlc:=bt.length _ _ g2
           have S0:=tY _ _ _ d6
           simp only[bX] at D2
           have hme:q1.2.1=[]:=List.isEmpty_iff.1 hem
           refine⟨fp1++im,[β.Bn id]++ψ,⟨some (.box t'),ms,q1.1,q2.1,v,vs,fp1,im,[β.Bn id],ψ,rfl,rfl,rfl,⟨β.Bn id,us,D2,g1,g3,hr,by omega,rfl⟩,k1,rfl,rfl⟩, ?_,fun h=>by simp [anS] at h,fun b hb=> ?_,fun hnd=> ?_,fun hnd w1 ds fp mb hm b hb=> ?_⟩
           ·intro b hb
            rcases List.mem_append.1 hb with hb | hb
            ·rcases XZ b hb with h3 | ⟨x,hx,h3⟩
             ·exact h3
             ·rw[hme] at hx
              simp at hx
            ·exact k2 b hb
           ·rcases List.mem_append.1 hb with hb | hb
            ·exact⟨id,List.mem_cons_self ..,_,dT,by simpa only[cb] using hb⟩
            ·obtain⟨j,hj,o,ho⟩:=k5 b hb
             exact⟨j,List.mem_cons_of_mem _ hj,o,ho⟩
           ·simp only[List.nodup_cons] at hnd
            rw[List.nodup_append]
            refine⟨by simp,k6 hnd.2,fun b hb b' hb' e=> ?_⟩
            subst e
            obtain⟨j,hj,o',Js,ie⟩:=k5 b hb'
            exact hc.sep id j _ o' (fun e=>hnd.1 (e ▸ hj)) dT Js b (bF (hc.dA _ _ dT) b (by simpa only[cb] using hb)) (bF (hc.dA _ _ Js) b ie)
           ·simp only[uP] at hm
            obtain⟨m',ms',d1,d2,v',vs',f1,f2,b1,b2,e1,rfl,e2,ha,hm,rfl,rfl⟩:=hm
            simp only[List.cons.injEq] at e1 e2
            obtain⟨rfl,rfl⟩:=e1
            obtain⟨rfl,rfl⟩:=e2
            simp only[X2] at ha
            obtain⟨g,us1,ev,_,_,_,_,rfl⟩:=ha
            rcases List.mem_append.1 hb with hb | hb
            ·refine⟨id,List.mem_cons_self ..,_,dT, ?_⟩
             rw[D2] at ev
             simp only[Value.pointer.injEq,Option.some.injEq,Addr.mk.injEq,and_true] at ev
             simp only[cb]
             rw[ev]
             exact hb
            ·obtain⟨j,hj,o,ho⟩:=k3 hnd w1 d2 f2 b2 hm b hb
             exact⟨j,List.mem_cons_of_mem _ hj,o,ho⟩
        | row _ _ _ _ _=>simp at hq
        | imm _ _=>simp at hq
        | deep _ _ _ _ _=>simp at hq
      | _=>rw[Mv] at hq;simp at hq
     | rows ts=>
      simp only[Qn,M.XM,M.aX,Option.bind_eq_some_iff,M.ax,Option.some.injEq] at hq
      obtain⟨q1,d6,q2,Bc,rfl⟩:=hq
      obtain⟨im,ψ,k1,k2,k4,k5,k6,k3⟩:=afJ hc (i+1) ks ms vs q2 hv' hl' Bc
      have one:∃us:List Value,(bif k.agg then v= .agg us.toArray else us=[v])∧∃ψ1,U1 w k.cts ts q1.1 us ψ1∧(∀b∈ψ1,∃id∈q1.2,∃o,h id=some o∧b∈cb β id o)∧(q1.2.Nodup→ψ1.Nodup)∧
        (KI ts=true→∀(w1:World) (ds:List DC) (mb:List Nat),fH w1 k.cts ts ds us mb→∀b∈mb,∃id∈q1.2,∃o,h id=some o∧b∈cb β id o):=by
       cases hk:k.agg with
       | true=>
        generalize f i=s at d6 D2
        cases s with
        | agg cs=>
         simp only[hk] at d6
         simp only[bX] at D2
         obtain⟨us,rfl,hus,fm⟩:=D2
         exact⟨us,rfl,Bq hc k.cts ts cs us q1 hus d6⟩
        | _=>simp [hk] at d6
       | false=>
        generalize f i=s at d6 D2
        have afw:(gM k.cts ts [s]).val f h=some q1:=by
         cases s<;>simp only[hk] at d6<;>first | exact d6 | (simp at d6)
        have Qd:bt w (Av h β) β [s] [v]:=by simp only[bt];exact⟨v,[],rfl,D2,rfl⟩
        exact⟨[v],rfl,Bq hc k.cts ts [s] [v] q1 Qd afw⟩
      obtain⟨us,hus,ψ1,r1,r3,r4,r2⟩:=one
      refine⟨im,ψ1++ψ,⟨some (.rows ts),ms,q1.1,q2.1,v,vs,[],im,ψ1,ψ,rfl,rfl,rfl,⟨us,hus,r1,rfl⟩,k1,rfl,rfl⟩,k2,fun h=>k4 (by simpa only[anS] using h),fun b hb=> ?_,fun hnd=> ?_,fun hnd w1 ds fp mb hm b hb=> ?_⟩
      ·rcases List.mem_append.1 hb with hb | hb
       ·obtain⟨j,hj,o,ho⟩:=r3 b hb
        exact⟨j,List.mem_append_left _ hj,o,ho⟩
       ·obtain⟨j,hj,o,ho⟩:=k5 b hb
        exact⟨j,List.mem_append_right _ hj,o,ho⟩
      ·rw[List.nodup_append] at hnd
       obtain⟨n1,n2,n3⟩:=hnd
       rw[List.nodup_append]
       refine⟨r4 n1,k6 n2,fun b hb b' hb' e=> ?_⟩
       subst e
       obtain⟨i1,hi1,o1,ho1,hb1⟩:=r3 b hb
       obtain⟨j,hj,o',Js,ie⟩:=k5 b hb'
       exact hc.sep i1 j o1 o' (fun e=>n3 i1 hi1 j hj e) ho1 Js b (bF (hc.dA _ _ ho1) b hb1) (bF (hc.dA _ _ Js) b ie)
      simp only[ajo,Bool.and_eq_true] at hnd
      simp only[uP] at hm
      obtain⟨m',ms',d1,d2,v',vs',f1,f2,b1,b2,e1,rfl,e2,ha,hm,rfl,rfl⟩:=hm
      simp only[List.cons.injEq] at e1 e2
      obtain⟨rfl,rfl⟩:=e1
      obtain⟨rfl,rfl⟩:=e2
      simp only[X2] at ha
      obtain⟨us1,anT,_,ha,_⟩:=ha
      have hue:us1=us:=by
       cases hk:k.agg with
       | true=>
        rw[hk] at hus anT
        simp only[cond_true] at hus anT
        rw[hus] at anT
        simp only[Value.agg.injEq] at anT
        simpa using (congrArg Array.toList anT).symm
       | false=>
        rw[hk] at hus anT
        simp only[cond_false] at hus anT
        rw[hus,anT.1]
      subst hue
      rcases List.mem_append.1 hb with hb | hb
      ·obtain⟨j,hj,o,ho⟩:=r2 hnd.1 w1 d1 b1 ha b hb
       exact⟨j,List.mem_append_left _ hj,o,ho⟩
      ·obtain⟨j,hj,o,ho⟩:=k3 hnd.2 w1 d2 f2 b2 hm b hb
       exact⟨j,List.mem_append_right _ hj,o,ho⟩
end
end Go.Proofs.YthpmalpdnnbkgaaGreat.Vm
set_option linter.unusedVariables false
set_option linter.unusedSimpArgs false
namespace Go.Proofs.YthpmalpdnnbkgaaGreat.Vm
structure EN where
 id:Nat
 o:bP
 Bn:Nat
 val:Value
 φ:List Nat
 nb:List Nat
def EN.ok (w:World) (av:Nat→Prop) (β:Env) (x:EN):Prop:=Mt w av β x.id x.o x.φ∧cb β x.id x.o=x.φ
section
variable {P:Program} {Γ:Ctx} {A:List (Nat×dv)} {w:World} {i:Nat}
theorem DM:∀(j:Nat) (cs:List CT) (ts:List TT) (ds:List DC) (us:List Value) (mb:List Nat),fH w cs ts ds us mb→
  ∃E:List EN,(ef i j cs ts ds).2=E.map (fun x=>(x.id,x.o))∧E.flatMap (·.φ)=mb∧∀(av:Nat→Prop) (β:Env),(∀x∈E,β.Bn x.id=x.Bn∧β.val x.id=x.val∧β.nb x.id=x.nb)→
   bt w av β (ef i j cs ts ds).1 us∧∀x∈E,x.ok w av β
 | j,[],ts,ds,us,mb,hm=>by
  simp only[fH] at hm
  obtain⟨rfl,rfl,rfl,rfl⟩:=hm
  exact⟨[],rfl,rfl,fun av β _=>⟨by simp [ef,bt],by simp⟩⟩
 | j,.int k::cs,ts,ds,us,mb,hm=>by
  simp only[fH] at hm
  obtain⟨d,ds',v,eo,rfl,rfl,h1,hm⟩:=hm
  obtain⟨E,e1,e2,e3⟩:=DM (j+1) cs ts ds' eo mb hm
  refine⟨E,by simpa only[ef,List.tail_cons] using e1,e2,fun av β hb=> ?_⟩
  obtain⟨k1,k2⟩:=e3 av β hb
  refine⟨?_,k2⟩
  simp only[ef,List.headD_cons,List.tail_cons,bt]
  exact⟨v,eo,rfl,Hz h1 (by simp),k1⟩
 | j,.bool::cs,ts,ds,us,mb,hm=>by
  simp only[fH] at hm
  obtain⟨d,ds',v,eo,rfl,rfl,h1,hm⟩:=hm
  obtain⟨E,e1,e2,e3⟩:=DM (j+1) cs ts ds' eo mb hm
  refine⟨E,by simpa only[ef,List.tail_cons] using e1,e2,fun av β hb=> ?_⟩
  obtain⟨k1,k2⟩:=e3 av β hb
  refine⟨?_,k2⟩
  simp only[ef,List.headD_cons,List.tail_cons,bt]
  exact⟨v,eo,rfl,Hz h1 (by simp),k1⟩
 | j,.str::cs,ts,ds,us,mb,hm=>by
  simp only[fH] at hm
  obtain⟨d,ds',v,eo,rfl,rfl,h1,hm⟩:=hm
  obtain⟨E,e1,e2,e3⟩:=DM (j+1) cs ts ds' eo mb hm
  refine⟨E,by simpa only[ef,List.tail_cons] using e1,e2,fun av β hb=> ?_⟩
  obtain⟨k1,k2⟩:=e3 av β hb
  refine⟨?_,k2⟩
  simp only[ef,List.headD_cons,List.tail_cons,bt]
  exact⟨v,eo,rfl,Hz h1 (by simp),k1⟩
 | j,.sl e::cs,ts,ds,us,mb,hm=>by
  simp only[fH] at hm
  obtain⟨t,DP,rows,ds',v,eo,m1,Om,rfl,rfl,rfl,hca,hm,rfl⟩:=hm
  obtain⟨E,e1,e2,e3⟩:=DM (j+1) cs DP ds' eo Om hm
  have one:∃nb:List Nat,∀(av:Nat→Prop) (β:Env),β.val (pid i j)=v→β.nb (pid i j)=nb→Mt w av β (pid i j) (ME t e rows) m1∧cb β (pid i j) (ME t e rows)=m1:=by
   cases t with
   | flat t=>
    obtain⟨D1,vals,fps,h1,h2,rfl⟩:=hca
    refine⟨[],fun av β hv hn=>⟨⟨vals,fps,by rw[hv];exact h1,h2,by rw[X8 D1 h2];simp, ?_⟩, ?_⟩⟩
    ·rw[hv,X8 D1 h2]
     simp
    ·simp only[ME,cb,hv]
   | deep t its=>
    obtain⟨vals,d_,h1,h2,rfl⟩:=hca
    exact⟨d_.flatten,fun av β hv hn=>⟨⟨vals,d_,by rw[hv];exact h1,h2,hn,by rw[hv]⟩,by simp only[ME,cb,hv,hn]⟩⟩
  obtain⟨nb,one⟩:=one
  refine⟨⟨pid i j,ME t e rows,0,v,m1,nb⟩::E, ?_, ?_,fun av β hb=> ?_⟩
  ·simp only[ef,List.headD_cons,List.tail_cons,List.map_cons,e1,DC.asRows]
  ·simp only[List.flatMap_cons,e2]
  ·obtain⟨k1,k2⟩:=e3 av β (fun x hx=>hb x (List.mem_cons_of_mem _ hx))
   have hv:=(hb _ (List.mem_cons_self ..)).2
   simp only at hv
   refine⟨?_,fun x hx=> ?_⟩
   ·simp only[ef,List.headD_cons,List.tail_cons,bt]
    refine⟨v,eo,rfl, ?_,k1⟩
    simp only[bX]
    exact⟨hv.1.symm,hca.one⟩
   ·rcases List.mem_cons.1 hx with rfl | hx
    ·exact one av β hv.1 hv.2
    ·exact k2 x hx
theorem Qc.lt {t:TT} {e:List CT} {rows:List (List DC)} {v:Value} {mb:List Nat} (h:Qc w t e rows v mb):∀b∈mb,b<w.heap.size:=by
 cases t with
 | flat t=>
  obtain⟨_,vals,fps,h1,_,rfl⟩:=h
  exact h1.lt
 | deep t its=>
  obtain⟨vals,d_,h1,h2,rfl⟩:=h
  intro b hb
  rcases List.mem_append.1 hb with hb | hb
  ·exact h1.lt b hb
  ·exact h2.lt b hb
theorem Qc.reads {t:TT} {e:List CT} {rows:List (List DC)} {v:Value} {mb:List Nat} (h:Qc w t e rows v mb):∃tt vals fps,qC w tt e.length false v rows.length vals∧Bu w e rows vals fps:=by
 cases t with
 | flat t=>
  obtain⟨_,vals,fps,h1,h2,_⟩:=h
  exact⟨t,vals,fps,h1,h2⟩
 | deep t its=>
  obtain⟨vals,d_,h1,h2,_⟩:=h
  obtain⟨fps,h3,_⟩:=h2.reads
  exact⟨t,vals,fps,h1,h3⟩
theorem fH.length:∀(cs:List CT) (ts:List TT) (ds:List DC) (us:List Value) (mb:List Nat),fH w cs ts ds us mb→ds.length=cs.length
 | [],ts,ds,us,mb,h=>by simp only[fH] at h;simp [h.2.1]
 | .sl e::cs,ts,ds,us,mb,h=>by
  simp only[fH] at h
  obtain⟨t,DP,rows,ds',v,eo,m1,Om,rfl,rfl,rfl,_,h,_⟩:=h
  simp [fH.length cs DP ds' eo Om h]
 | .int k::cs,ts,ds,us,mb,h=>by
  simp only[fH] at h
  obtain⟨d,ds',v,eo,rfl,rfl,_,h⟩:=h
  simp [fH.length cs ts ds' eo mb h]
 | .bool::cs,ts,ds,us,mb,h=>by
  simp only[fH] at h
  obtain⟨d,ds',v,eo,rfl,rfl,_,h⟩:=h
  simp [fH.length cs ts ds' eo mb h]
 | .str::cs,ts,ds,us,mb,h=>by
  simp only[fH] at h
  obtain⟨d,ds',v,eo,rfl,rfl,_,h⟩:=h
  simp [fH.length cs ts ds' eo mb h]
theorem S_:∀(j:Nat) (cs:List CT) (ts:List TT) (d1 d2:List DC),cs.length≤d1.length→ef i j cs ts (d1++d2)=ef i j cs ts d1
 | _,[],_,_,_,_=>rfl
 | j,c::cs,ts,d1,d2,hl=>by
  cases d1 with
  | nil=>simp at hl
  | cons x d1=>
   have hl':cs.length≤d1.length:=by simpa using hl
   cases c<;>simp only[List.cons_append,ef,List.headD_cons,List.tail_cons]<;>rw[S_ _ cs _ d1 d2 hl']
theorem apk:∀(i:Nat) (ks:List AK) (ms:List (Option MK)) (ds:List DC) (vs:List Value) (fp mb:List Nat),uP w ks ms ds vs fp mb→
  ∃E:List EN,(yM i ks ms ds).2=E.map (fun x=>(x.id,x.o))∧E.flatMap (·.φ)=mb∧∀(av:Nat→Prop) (β:Env),(∀x∈E,β.Bn x.id=x.Bn∧β.val x.id=x.val∧β.nb x.id=x.nb)→(∀b∈fp,¬av b)→
   (∀n,UQ (yM i ks ms ds).1 n= .Jq∨∃j v,n=i+j∧vs[j]? =some v∧bX w av β (UQ (yM i ks ms ds).1 n) v)∧∀x∈E,x.ok w av β
 | i,[],ms,ds,vs,fp,mb,hm=>by
  simp only[uP] at hm
  obtain⟨rfl,rfl,rfl,rfl,rfl⟩:=hm
  exact⟨[],rfl,rfl,fun av β _ _=>⟨fun n=> .inl rfl,by simp⟩⟩
 | i,k::ks,ms,ds,vs,fp,mb,hm=>by
  simp only[uP] at hm
  obtain⟨m,ms,d1,d2,v,vs,f1,f2,b1,b2,rfl,rfl,rfl,ha,hm,rfl,rfl⟩:=hm
  obtain⟨E,e1,e2,e3⟩:=apk (i+1) ks ms d2 vs f2 b2 hm
  have step:∀(av:Nat→Prop) (β:Env) (s:SV) (l:List (Nat×SV)),(∀n,UQ l n= .Jq∨∃j u,n=i+1+j∧vs[j]? =some u∧bX w av β (UQ l n) u)→bX w av β s v→
    ∀n,UQ ((i,s)::l) n= .Jq∨∃j u,n=i+j∧(v::vs)[j]? =some u∧bX w av β (UQ ((i,s)::l) n) u:=by
   intro av β s l hl hs n
   simp only[UQ]
   cases hk:Nat.beq i n
   ·simp only[cond_false]
    rcases hl n with h3 | ⟨j,u,hn,hj,hu⟩
    ·exact .inl h3
    ·exact .inr ⟨j+1,u,by omega,by simpa using hj,hu⟩
   ·have:=Nat.eq_of_beq_eq_true hk
    subst this
    simp only[cond_true]
    exact .inr ⟨0,v,rfl,rfl,hs⟩
  cases m with
  | none=>
   simp only[X2] at ha
   obtain⟨ha,rfl⟩:=ha
   have hl:d1.length=k.cts.length:=by
    obtain⟨us,_,_,hr,_⟩:=ha
    exact RdL.length _ _ _ _ hr
   have hdr:(d1++d2).drop k.cts.length=d2:=by rw[←hl,List.drop_left]
   refine⟨E,by simp only[yM,List.headD_cons,List.tail_cons,hdr,e1],by simpa using e2,fun av β hb hfp=> ?_⟩
   obtain⟨k1,k2⟩:=e3 av β hb (fun b hb=>hfp b (List.mem_append_right _ hb))
   refine⟨?_,k2⟩
   simp only[yM,List.headD_cons,List.tail_cons,hdr]
   refine step av β _ _ k1 ?_
   rw[QE _ _ _ _ (by omega)]
   exact aqX ha (fun b hb=>hfp b (List.mem_append_left _ hb))
  | some m=>
   cases m with
   | box t=>
    simp only[X2] at ha
    obtain⟨g,us,rfl,hg,fm,hr,hlu,rfl⟩:=ha
    have hl:d1.length=k.cts.length:=RdL.length _ _ _ _ hr
    have hdr:(d1++d2).drop k.cts.length=d2:=by rw[←hl,List.drop_left]
    refine⟨⟨pid i 0,.box t (kU k.cts d1 0),g,undef,[g],[]⟩::E, ?_,by simp [e2],fun av β hb hfp=> ?_⟩
    ·simp only[yM,List.headD_cons,List.tail_cons,hdr,e1,List.map_cons]
     rw[QE _ _ _ _ (by omega)]
    ·obtain⟨k1,k2⟩:=e3 av β (fun x hx=>hb x (List.mem_cons_of_mem _ hx)) (fun b hb=>hfp b (List.mem_append_right _ hb))
     have hbk:=(hb _ (List.mem_cons_self ..)).1
     simp only at hbk
     refine⟨?_,fun x hx=> ?_⟩
     ·simp only[yM,List.headD_cons,List.tail_cons,hdr]
      refine step av β _ _ k1 ?_
      simp only[bX,hbk]
     ·rcases List.mem_cons.1 hx with rfl | hx
      ·obtain⟨vs',l1,l2,l3,l4⟩:=RdL.lE (β:=β) (av:=av) hr (fun b hb=>hfp b (List.mem_append_left _ hb)) k.cts.length 0 (by omega)
       have ee:vs'=us:=by
        apply List.ext_getElem?
        intro j
        by_cases hj:j<vs'.length
        ·have:=l2 j vs'[j] (by simp)
         simp only[Nat.zero_add] at this
         rw[this]
         simp
        ·rw[List.getElem?_eq_none (by omega),List.getElem?_eq_none (by omega)]
       subst ee
       simp only[List.drop_zero,List.take_length] at l3
       exact⟨⟨vs',by rw[hbk];exact hg,l3,fm,by simp only[hbk]⟩,by simp only[cb,hbk]⟩
      ·exact k2 x hx
   | rows ts=>
    simp only[X2] at ha
    obtain⟨us,hus,fm,hra,rfl⟩:=ha
    obtain⟨E1,a1,a2,a3⟩:=DM (i:=i) 0 k.cts ts d1 us b1 hra
    have hl:d1.length=k.cts.length:=fH.length _ _ _ _ _ hra
    have hdr:(d1++d2).drop k.cts.length=d2:=by rw[←hl,List.drop_left]
    have hic:ef i 0 k.cts ts (d1++d2)=ef i 0 k.cts ts d1:=S_ _ _ _ _ _ (by omega)
    refine⟨E1++E, ?_,by simp [a2,e2],fun av β hb hfp=> ?_⟩
    ·simp only[yM,List.headD_cons,List.tail_cons,hdr,hic,e1,a1,List.map_append]
    ·obtain⟨k1,k2⟩:=e3 av β (fun x hx=>hb x (List.mem_append_right _ hx)) (fun b hb=>hfp b (by simpa using hb))
     obtain⟨c1,c2⟩:=a3 av β (fun x hx=>hb x (List.mem_append_left _ hx))
     refine⟨?_,fun x hx=> ?_⟩
     ·simp only[yM,List.headD_cons,List.tail_cons,hdr,hic]
      refine step av β _ _ k1 ?_
      cases hk:k.agg with
      | true=>
       rw[hk] at hus
       simp only[cond_true] at hus ⊢
       simp only[bX]
       exact⟨us,hus,c1,fm⟩
      | false=>
       rw[hk] at hus
       simp only[cond_false] at hus ⊢
       rw[hus.1] at c1
       generalize (ef i 0 k.cts ts d1).1=q at c1
       cases q with
       | nil=>simp [bt] at c1
       | cons y l=>
        simp only[bt] at c1
        obtain⟨v',l',e0,e5,_⟩:=c1
        injection e0 with e0
        subst e0
        simpa using e5
     ·rcases List.mem_append.1 hx with hx | hx
      ·exact c2 x hx
      ·exact k2 x hx
theorem fH.lt:∀(cs:List CT) (ts:List TT) (ds:List DC) (us:List Value) (mb:List Nat),fH w cs ts ds us mb→∀b∈mb,b<w.heap.size
 | [],ts,ds,us,mb,h=>by simp only[fH] at h;simp [h.2.2.2]
 | .sl e::cs,ts,ds,us,mb,h=>by
  simp only[fH] at h
  obtain⟨t,DP,rows,ds',v,eo,m1,Om,rfl,rfl,rfl,h1,h,rfl⟩:=h
  intro b hb
  rcases List.mem_append.1 hb with hb | hb
  ·exact h1.lt b hb
  ·exact fH.lt cs DP ds' eo Om h b hb
 | .int k::cs,ts,ds,us,mb,h=>by
  simp only[fH] at h
  obtain⟨d,ds',v,eo,rfl,rfl,_,h⟩:=h
  exact fH.lt cs ts ds' eo mb h
 | .bool::cs,ts,ds,us,mb,h=>by
  simp only[fH] at h
  obtain⟨d,ds',v,eo,rfl,rfl,_,h⟩:=h
  exact fH.lt cs ts ds' eo mb h
 | .str::cs,ts,ds,us,mb,h=>by
  simp only[fH] at h
  obtain⟨d,ds',v,eo,rfl,rfl,_,h⟩:=h
  exact fH.lt cs ts ds' eo mb h
theorem uP.facts:∀(ks:List AK) (ms:List (Option MK)) (ds:List DC) (vs:List Value) (fp mb:List Nat),uP w ks ms ds vs fp mb→(∀b∈mb,b<w.heap.size)∧(∀b∈fp,b<w.heap.size)∧vs.length=ks.length
 | [],ms,ds,vs,fp,mb,h=>by
  simp only[uP] at h
  obtain⟨_,_,rfl,rfl,rfl⟩:=h
  simp
 | k::ks,ms,ds,vs,fp,mb,h=>by
  simp only[uP] at h
  obtain⟨m,ms',d1,d2,v,vs',f1,f2,b1,b2,rfl,rfl,rfl,ha,h,rfl,rfl⟩:=h
  obtain⟨k1,k2,k3⟩:=uP.facts ks ms' d2 vs' f2 b2 h
  have one:(∀b∈b1,b<w.heap.size)∧∀b∈f1,b<w.heap.size:=by
   cases m with
   | none=>
    simp only[X2] at ha
    obtain⟨⟨us,_,_,hr,_⟩,rfl⟩:=ha
    exact⟨by simp,RdL.lt _ _ _ _ hr⟩
   | some m=>
    cases m with
    | box t=>
     simp only[X2] at ha
     obtain⟨g,us,_,hg,_,hr,_,rfl⟩:=ha
     refine⟨fun b hb=> ?_,RdL.lt _ _ _ _ hr⟩
     simp only[List.mem_singleton] at hb
     subst hb
     exact (Array.getElem?_eq_some_iff.1 hg).1
    | rows ts=>
     simp only[X2] at ha
     obtain⟨us,_,_,hra,rfl⟩:=ha
     exact⟨fH.lt _ _ _ _ _ hra,by simp⟩
  refine⟨fun b hb=> ?_,fun b hb=> ?_,by simp [k3]⟩
  ·rcases List.mem_append.1 hb with hb | hb
   ·exact one.1 b hb
   ·exact k1 b hb
  ·rcases List.mem_append.1 hb with hb | hb
   ·exact one.2 b hb
   ·exact k2 b hb
theorem ajp {E:List EN} (h:(E.flatMap (·.φ)).Nodup):(∀x∈E,x.φ.Nodup)∧∀x∈E,∀y∈E,x≠y→∀b∈x.φ,b ∉ y.φ:=by
 induction E with
 | nil=>simp
 | cons z l ih=>
  rw[List.flatMap_cons,List.nodup_append] at h
  obtain⟨h1,h2,h3⟩:=h
  obtain⟨i1,i2⟩:=ih h2
  refine⟨fun x hx=> ?_,fun x hx y hy hxy b hb hb'=> ?_⟩
  ·rcases List.mem_cons.1 hx with rfl | hx
   ·exact h1
   ·exact i1 x hx
  ·rcases List.mem_cons.1 hx with hx1 | hx1<;>rcases List.mem_cons.1 hy with hy1 | hy1
   ·exact hxy (hx1.trans hy1.symm)
   ·subst hx1
    exact h3 b hb b (List.mem_flatMap.2 ⟨y,hy1,hb'⟩) rfl
   ·subst hy1
    exact h3 b hb' b (List.mem_flatMap.2 ⟨x,hx1,hb⟩) rfl
   ·exact i2 x hx1 y hy1 hxy b hb hb'
theorem ResV.count {w:World} :∀(rks:List RK) (ds:List DC) (vs:List Value) (φ im tp:List Nat),ResV w rks ds vs φ im tp→ds.length=sO rks
 | [],ds,vs,φ,im,tp,h=>by simp only[ResV] at h;simp [h.1,sO]
 | r::rs,ds,vs,φ,im,tp,h=>by
  simp only[ResV] at h
  obtain⟨d1,d2,v,vs',us,φ1,φ2,i1,i2,t1,t2,rfl,rfl,_,_,h1,h2,_⟩:=h
  simp only[List.length_append,sO,ResL.length _ _ _ _ _ _ h1,ResV.count rs d2 vs' _ _ _ h2]
theorem fH.wt:∀(cs:List CT) (ts:List TT) (ds:List DC) (us:List Value) (mb:List Nat),fH w cs ts ds us mb→WtL cs ds
 | [],ts,ds,us,mb,h=>by simp only[fH] at h;simp only[WtL];exact h.2.1
 | .sl e::cs,ts,ds,us,mb,h=>by
  simp only[fH] at h
  obtain⟨t,DP,rows,ds',v,eo,m1,Om,rfl,rfl,rfl,hca,h,_⟩:=h
  obtain⟨tt,vals,fps,h1,h2⟩:=hca.reads
  simp only[WtL,WtC]
  refine⟨_,_,rfl,⟨rows,rfl, ?_,fun r hr=> ?_⟩,fH.wt cs DP ds' eo Om h⟩
  ·rcases h1.2 with ⟨_,hn,_⟩ | ⟨g,cap,cur,_,_,h3,h4,_⟩
   ·rw[hn];exact Nat.zero_le _
   ·omega
  ·obtain⟨i,hi,rfl⟩:=List.getElem_of_mem hr
   have hi':i<fps.length:=by have:=h2.1;omega
   exact RdL.wt e _ _ _ (h2.2 i rows[i] fps[i] (by simp) (by simp [hi']))
 | .int k::cs,ts,ds,us,mb,h=>by
  simp only[fH] at h
  obtain⟨d,ds',v,eo,rfl,rfl,h1,h⟩:=h
  simp only[WtL]
  exact⟨d,ds',rfl,RdC.wt _ _ _ _ h1,fH.wt cs ts ds' eo mb h⟩
 | .bool::cs,ts,ds,us,mb,h=>by
  simp only[fH] at h
  obtain⟨d,ds',v,eo,rfl,rfl,h1,h⟩:=h
  simp only[WtL]
  exact⟨d,ds',rfl,RdC.wt _ _ _ _ h1,fH.wt cs ts ds' eo mb h⟩
 | .str::cs,ts,ds,us,mb,h=>by
  simp only[fH] at h
  obtain⟨d,ds',v,eo,rfl,rfl,h1,h⟩:=h
  simp only[WtL]
  exact⟨d,ds',rfl,RdC.wt _ _ _ _ h1,fH.wt cs ts ds' eo mb h⟩
theorem uP.wt:∀(ks:List AK) (ms:List (Option MK)) (ds:List DC) (vs:List Value) (fp mb:List Nat),uP w ks ms ds vs fp mb→WtL (ctsAll ks) ds
 | [],ms,ds,vs,fp,mb,h=>by
  simp only[uP] at h
  simp only[ctsAll,WtL]
  exact h.2.1
 | k::ks,ms,ds,vs,fp,mb,h=>by
  simp only[uP] at h
  obtain⟨m,ms',d1,d2,v,vs',f1,f2,b1,b2,rfl,rfl,rfl,ha,h,_⟩:=h
  refine WtL.append ?_ (uP.wt ks ms' d2 vs' f2 b2 h)
  cases m with
  | none=>
   simp only[X2] at ha
   obtain⟨⟨us,_,_,hr,_⟩,_⟩:=ha
   exact RdL.wt _ _ _ _ hr
  | some m=>
   cases m with
   | box t=>
    simp only[X2] at ha
    obtain⟨g,us,_,_,_,hr,_⟩:=ha
    exact RdL.wt _ _ _ _ hr
   | rows ts=>
    simp only[X2] at ha
    obtain⟨us,_,_,hra,_⟩:=ha
    exact fH.wt _ _ _ _ _ hra
def lkE:List EN→Nat→Option EN
 | [],_=>none
 | x::l,i=>if i=x.id then some x else lkE l i
theorem Yg {E:List EN} {j:Nat} {x:EN} (h:lkE E j=some x):x∈E∧x.id=j:=by
 induction E with
 | nil=>simp [lkE] at h
 | cons y l ih=>
  simp only[lkE] at h
  split at h
  ·rename_i hj
   injection h with h
   subst h
   exact⟨List.mem_cons_self ..,hj.symm⟩
  ·obtain⟨h1,h2⟩:=ih h
   exact⟨List.mem_cons_of_mem _ h1,h2⟩
theorem aq0 {E:List EN} {x:EN} (hx:x∈E) (hn:(E.map (·.id)).Nodup):lkE E x.id=some x:=by
 induction E with
 | nil=>simp at hx
 | cons y l ih=>
  simp only[List.map_cons,List.nodup_cons] at hn
  simp only[lkE]
  rcases List.mem_cons.1 hx with rfl | hx
  ·simp
  ·have:x.id≠y.id:=fun e=>hn.1 (e ▸ List.mem_map_of_mem hx)
   rw[if_neg this]
   exact ih hx hn.2
theorem anU {E:List EN} {j:Nat} {o:bP} (h:Bt (E.map fun x=>(x.id,x.o)) j=some o):∃x,lkE E j=some x∧x.o=o:=by
 induction E with
 | nil=>simp [Bt] at h
 | cons y l ih=>
  simp only[List.map_cons,Bt] at h
  simp only[lkE]
  cases hb:Nat.beq y.id j
  ·rw[hb] at h
   rw[if_neg (fun e=>Nat.ne_of_beq_eq_false hb e.symm)]
   exact ih h
  ·rw[hb] at h
   have:=Nat.eq_of_beq_eq_true hb
   subst this
   simp only[cond_true,Option.some.injEq] at h
   exact⟨y,by simp,h⟩
theorem apl {fn:Func} {s:Sum} {st:St} {r:List DC} (h:aln P fn s st=(true,r)):st.ok=true:=by
 unfold aln at h
 split at h
 ·simp only[Prod.mk.injEq,Bool.and_eq_true] at h
  exact h.1.1.1
 ·exact absurd h jK
theorem alT {fn:Func} {s:Sum} {st:St} {r:List DC} {w w':World} {ds:List DC} {vals:List Value} {fp mb:List Nat} {a:Act} (hsh:shares s=false) (hm:uP w s.ps s.ms ds vals fp mb)
  (h:aln P fn s st=(true,r)) (hR:Rel w ⟨fun b=>b∈mb,fun b=>b<w.heap.size∧b ∉ fp∧b ∉ mb,(vals.zipIdx.filter (fun x=>Nat.blt x.2 (afy s.ms))).map (fun x=>(x.2,x.1))⟩ st a w'):
  a.defers=[]∧∃v,(results fn a.tmps).run P w'= .ok v w'∧∃vs φ im tp im2 rd od ψ,Ending.returned v= .returned (pack vs)∧r=rd++od∧rd.length=sO s.rs∧Kept ⟨fun b=>b∈mb,fun _=>False,[]⟩ w w'∧ResV w' s.rs rd vs φ im tp∧φ.Nodup∧
   (∀b∈φ,w.heap.size≤b∧b<w'.heap.size)∧ai5 w' s.ps s.ms od vals im2 ψ∧ψ.Nodup∧(∀b∈ψ,(b∈mb∨w.heap.size≤b)∧b<w'.heap.size∧b ∉ φ)∧∀b∈im2,(b∈fp∨w.heap.size≤b)∧b ∉ tp∧b ∉ ψ:=by
 obtain⟨_,_,hvl⟩:=uP.facts _ _ _ _ _ _ hm
 unfold aln at h
 split at h
 case h_2=>exact absurd h jK
 rename_i rd own im od ids x hr
 simp only[Prod.mk.injEq,Bool.and_eq_true] at h
 obtain⟨⟨⟨_,eO⟩,ao_⟩,rfl⟩:=h
 obtain⟨β,φ,hc⟩:=hR.core
 have hval:=M.EG _ hr
 simp only[M.aX,Option.bind_eq_some_iff,M.ax,Option.some.injEq,Prod.mk.injEq] at hval
 obtain⟨ss,h1,q,h2,q2,h3,e1,e2⟩:=hval
 subst e1
 subst e2
 obtain⟨vs,g1,g2⟩:=QH hc _ _ h1
 obtain⟨φ',im',tp',k1,k2,k3,k4,k5⟩:=U7 hc _ _ _ _ g2 h2
 have hfx:∀(j:Nat) v m,vals[j]? =some v→s.ms[j]? =some (some m)→a.tmps.getD (0+j) undef=v:=by
  intro j v m hj hm
  have:=(hR.fx (j,v) (List.mem_map.2 ⟨(v,j),List.mem_filter.2 ⟨by rw[List.mem_zipIdx_iff_getElem?];exact hj,Nat.ble_eq_true_of_le (apj hm)⟩,rfl⟩)).2
  simpa using this
 obtain⟨im2,ψ,o1,o2,o4,o5,o6,o3⟩:=afJ hc 0 s.ps s.ms vals _ hfx hvl h3
 have hnd:=Jo eO
 rw[List.nodup_append] at hnd
 have atA:∀b∈ψ,∀i∈own,∀o,st.obj i=some o→b ∉ φ i:=by
  intro b hb i hi o hio DS
  obtain⟨id,Bo,o',Js,RL⟩:=o5 b hb
  have sV:i≠id:=fun e=>hnd.2.2 i hi id Bo e
  exact absurd (bF (hc.dA _ _ Js) b RL) (hc.sep i id o o' sV hio Js b DS)
 have asS:∀b∈ψ,b ∉ φ':=by
  intro b hb Jt
  obtain⟨i,hi,⟨o,hio⟩,DS⟩:=k2 b Jt
  exact atA b hb i hi o hio DS
 have atB:∀b∈ψ,Av st.obj β b:=fun b hb=>by
  obtain⟨id,Bo,o',Js,RL⟩:=o5 b hb
  exact .inl ⟨id,o',Js,RL⟩
 have anz:∀b∈im2,b<w.heap.size→b ∉ fp→False:=by
  intro b hb hlt hf
  rcases Bool.or_eq_true_iff.1 ao_ with hkd | hkd
  ·have hmb:∀b∈mb,∃id∈ids,∃o,st.obj id=some o∧b∈cb β id o:=o3 hkd w ds fp mb hm
   have tU:=o2 b hb
   have hnm:b ∉ mb:=fun hbm=>by
    obtain⟨id,Bo,o',Js,RL⟩:=hmb b hbm
    exact tU (.inl ⟨id,o',Js,RL⟩)
   refine absurd (.inr ?_) tU
   rw[hc.bars]
   exact⟨hlt,hf,hnm⟩
  ·rw[Bool.and_eq_true] at hkd
   rw[o4 hkd.1] at hb
   simp at hb
 refine⟨hR.defers,pack vs,abX g1,vs,φ',im',tp',im2,rd,od,ψ,rfl,rfl,ResV.count _ _ _ _ _ _ k1,⟨hR.kept.os,hR.kept.tape,hR.kept.output,hR.kept.size,hR.kept.block⟩,k1,k4 hnd.1, ?_,o1,o6 hnd.2.1, ?_, ?_⟩
 ·intro b hb
  obtain⟨i,hi,⟨o,hio⟩,DS⟩:=k2 b hb
  have hf:=(hc.fresh i o hio).2 b DS
  rcases hf.1 with h4 | h4
  ·exact⟨h4,hf.2⟩
  ·rcases Bool.or_eq_true_iff.1 ao_ with hkd | hkd
   ·obtain⟨id,Bo,o',Js,RL⟩:=o3 hkd w ds fp mb hm b h4
    have sV:i≠id:=fun e=>hnd.2.2 i hi id Bo e
    exact absurd (bF (hc.dA _ _ Js) b RL) (hc.sep i id o o' sV hio Js b DS)
   ·rw[Bool.and_eq_true] at hkd
    rw[List.isEmpty_iff.1 hkd.2] at hi
    simp at hi
 ·intro b hb
  obtain⟨id,Bo,o',Js,RL⟩:=o5 b hb
  have hf:=(hc.fresh id o' Js).2 b (bF (hc.dA _ _ Js) b RL)
  exact⟨hf.1.symm,hf.2,asS b hb⟩
 ·intro b hb
  have tU:=o2 b hb
  refine⟨?_,fun RL=> ?_,fun auk=>tU (atB b auk)⟩
  ·by_cases hlt:b<w.heap.size
   ·by_cases hf:b∈fp
    ·exact .inl hf
    ·exact (anz b hb hlt hf).elim
   ·exact .inr (by omega)
  ·obtain⟨j,oj,_,hj,ie⟩:=k3 b RL
   exact tU (.inl ⟨j,oj,hj,ie⟩)
theorem dD (DQ:ai P Γ) {g:Nat} {fn:Func} {s:Sum} (hf:P.funcs[g]? =some fn) (hbd:fn.body.isSome=true) (hn:(fn.name== "runtime.NumGoroutine")=false) (hlen:s.ps.length≤fn.ntmps) (hnt:fn.ntmps<1099511627776)
  (hsh:shares s=false) (Bo:∀ds,GQ ((yM 0 s.ps s.ms ds).2.map (·.1))=true)
  (h:∀ds,WtL (ctsAll s.ps) ds→(s.fn ds).1=true→∃N,lV P Γ A N fn s ds=(true,(s.fn ds).2)):ox P g s:=by
 refine⟨⟨fn,hf,hbd,hn⟩,fun w ds vals fp mb hargs atC aul hok=> ?_⟩
 obtain⟨N,fa⟩:=h ds (uP.wt _ _ _ _ _ _ hargs) hok
 obtain⟨c,hc⟩:=Option.isSome_iff_exists.1 hbd
 unfold lV at fa
 rw[hc] at fa
 simp only at fa
 obtain⟨aum,auD,hvl⟩:=uP.facts _ _ _ _ _ _ hargs
 refine calls_of_wp hf hc ?_
 let S:Own:=⟨fun b=>b∈mb,fun b=>b<w.heap.size∧b ∉ fp∧b ∉ mb,(vals.zipIdx.filter (fun x=>Nat.blt x.2 (afy s.ms))).map (fun x=>(x.2,x.1))⟩
 obtain⟨E,e1,e2,e3⟩:=apk 0 s.ps s.ms ds vals fp mb hargs
 have aun:(E.map (·.id)).Nodup:=by
  have:=Jo (Bo ds)
  rw[e1,List.map_map] at this
  exact this
 let β:Env:=⟨fun j=>match lkE E j with | some x=>x.Bn | none=>0,fun j=>match lkE E j with | some x=>x.val | none=>undef,S.Ol,fun j=>match lkE E j with | some x=>x.nb | none=>[]⟩
 have MF:∀x∈E,β.Bn x.id=x.Bn∧β.val x.id=x.val∧β.nb x.id=x.nb:=by
  intro x hx
  simp only[β,aq0 hx aun,and_self]
 have aq1:∀x∈E,∀b∈x.φ,b∈mb:=fun x hx b hb=>by rw[←e2];exact List.mem_flatMap.2 ⟨x,hx,hb⟩
 have alE:∀x∈E,cb β x.id x.o=x.φ:=fun x hx=>((e3 (fun _=>False) β MF (fun _ _ h=>h)).2 x hx).2
 have asR:∀b∈fp,¬Av (Bt (yM 0 s.ps s.ms ds).2) β b:=by
  rintro b hb (⟨j,o,ho,RL⟩ | hx)
  ·rw[e1] at ho
   obtain⟨x,hx,rfl⟩:=anU ho
   obtain⟨hm,rfl⟩:=Yg hx
   rw[alE x hm] at RL
   exact aul b (aq1 x hm b RL) hb
  ·exact hx.2.1 hb
 obtain⟨hsl,dT⟩:=e3 (Av (Bt (yM 0 s.ps s.ms ds).2) β) β MF asR
 have hR:Rel w S {n:=fn.ntmps+afy s.ms*1099511627776,sl:=(yM 0 s.ps s.ms ds).1,hp:=(yM 0 s.ps s.ms ds).2,ok:=true,ls:=[],lm:=[]} {tmps:=vals.toArray++Array.replicate (fn.ntmps - vals.toArray.size) undef,defers:=[]} w:=by
  have hget:∀(j:Nat) v,vals[j]? =some v→(vals.toArray++Array.replicate (fn.ntmps - vals.toArray.size) undef).getD j undef=v:=by
   intro j v hj
   have hjl:j<vals.length:=(List.getElem?_eq_some_iff.1 hj).1
   rw[Array.getD_eq_getD_getElem?,Array.getElem?_append_left (by simp;omega)]
   simp [hj]
  refine⟨by simp;omega, ?_,rfl,⟨rfl,rfl,rfl,Nat.le_refl _,fun _ _ _=>rfl⟩,β,fun j=>match lkE E j with | some x=>x.φ | none=>[], ?_⟩
  ·intro x hx
   obtain⟨⟨v,j⟩,hvj,rfl⟩:=List.mem_map.1 hx
   obtain⟨hvj,hlo⟩:=List.mem_filter.1 hvj
   have hlo:j<afy s.ms:=Nat.le_of_ble_eq_true hlo
   rw[List.mem_zipIdx_iff_getElem?] at hvj
   have hjl:j<vals.length:=(List.getElem?_eq_some_iff.1 hvj).1
   exact⟨by simp only;omega,hget j v hvj⟩
  ·refine⟨fun i=> ?_,fun id o ho=> ?_,fun id o ho=> ?_,fun i j oi oj sV hi hj b hb=> ?_,fun b hb=>⟨hb.1,hb.2.2⟩,rfl⟩
   ·rcases hsl i with h1 | ⟨j,v,hi,hj,hs⟩
    ·show bX w _ _ (UQ (yM 0 s.ps s.ms ds).1 i) _
     rw[h1]
     simp [bX]
    ·have:i=j:=by omega
     subst this
     rw[hget i v hj]
     exact hs
   ·have Js:Bt (yM 0 s.ps s.ms ds).2 id=some o:=ho
    rw[e1] at Js
    obtain⟨x,hx,rfl⟩:=anU Js
    obtain⟨hm,rfl⟩:=Yg hx
    simp only[hx]
    exact (dT x hm).1
   ·have Js:Bt (yM 0 s.ps s.ms ds).2 id=some o:=ho
    rw[e1] at Js
    obtain⟨x,hx,rfl⟩:=anU Js
    obtain⟨hm,rfl⟩:=Yg hx
    simp only[hx]
    refine⟨?_,fun b hb=>⟨.inr (aq1 x hm b hb),aum b (aq1 x hm b hb)⟩⟩
    exact (ajp (E:=E) (by rw[e2];exact atC)).1 x hm
   ·have hi':Bt (yM 0 s.ps s.ms ds).2 i=some oi:=hi
    have hj':Bt (yM 0 s.ps s.ms ds).2 j=some oj:=hj
    rw[e1] at hi' hj'
    obtain⟨x,hx,rfl⟩:=anU hi'
    obtain⟨y,hy,rfl⟩:=anU hj'
    simp only[hx] at hb
    simp only[hy]
    have hxm:=Yg hx
    have hym:=Yg hy
    have hxy:x≠y:=by
     rintro rfl
     exact sV (hxm.2.symm.trans hym.2)
    exact (ajp (E:=E) (by rw[e2];exact atC)).2 x hxm.1 y hym.1 hxy b hb
 refine uY (r:=(s.fn ds).2) DQ c _ {F5:=aln P fn s,ext:=fun _ _=>bad,ret:=aln P fn s} _ w _ ⟨fun st QA=>apl QA,fun i st QA=>absurd QA jK,fun st QA=>apl QA⟩ hR fa ⟨?_, ?_, ?_⟩
 ·intro st a w' GW QA
  exact alT hsh hargs QA GW
 ·intro i st a w' _ QA
  exact absurd QA jK
 ·intro st a w' GW QA
  exact alT hsh hargs QA GW
end
end Go.Proofs.YthpmalpdnnbkgaaGreat.Vm
namespace Go.Proofs.YthpmalpdnnbkgaaGreat.Vm
def HO (P:Program) (Γ:Ctx) (A:List (Nat×dv)) (N:Nat) (fn:Func) (s:Sum) (p:List Bool) (is:List (St→aV)) (ih:St→aV) (st:St):aV:=
 match fn.body with
 | some c=>match focus P Γ A N p is c {F5:=aln P fn s,ext:=fun _ _=>bad,ret:=aln P fn s} with
  | (.loop a,K)=>match (zm a).bind (lkA A) with
   | some an=>run P Γ A N a st {F5:=fun s'=>ih (canon P an s'),ext:=K.ext,ret:=K.ret}
   | none=>bad
  | _=>bad
 | none=>bad
end Go.Proofs.YthpmalpdnnbkgaaGreat.Vm
