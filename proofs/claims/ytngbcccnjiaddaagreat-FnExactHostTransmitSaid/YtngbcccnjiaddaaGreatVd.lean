/- The value machine: runs, loops, contracts out of runs. Conditions: as each lemma says. -/
import Derived.Test.YtngbcccnjiaddaaGreatVc
import Derived.LoopN
set_option linter.unusedVariables false
set_option linter.unusedSimpArgs false
namespace Go.Proofs.YtngbcccnjiaddaaGreat.Vm
section
variable {P:Program} {Γ:Ctx} {w0:World} {S:Own} {ops:Array Oper} {gs:List Nat}
theorem f0 {i:Nat} :∀ {l m:List Nat},i∈gZ l m→i∈l∨i∈m
 | [],m,h=> .inr h
 | k::l,m,h=>by
  simp only[gZ] at h
  cases hk:gT k m
  ·simp only[hk,cond_false,List.mem_cons] at h
   rcases h with rfl | h
   ·exact .inl (List.mem_cons_self ..)
   ·exact (f0 h).imp (List.mem_cons_of_mem _) id
  ·simp only[hk,cond_true] at h
   exact (f0 h).imp (List.mem_cons_of_mem _) id
def lr (ops:Array Oper) (L:Nat→Bool) (k:Nat):Prop:=∀o,ops[k]? =some o→∀e∈o.after,Region.binds .any e=true→L e.on=true
theorem jQ {acc:List (List Nat)} {j:Nat} :∀(l:List Edge),j∈l.foldr (fun e r=>bif Region.binds .any e then gZ (gZ [e.on] (acc.getD e.on [])) r else r) []→
  ∃e∈l,Region.binds .any e=true∧(j=e.on∨j∈acc.getD e.on [])
 | [],h=>by simp at h
 | e::l,h=>by
  simp only[List.foldr_cons] at h
  cases hb:Region.binds .any e
  ·simp only[hb,cond_false] at h
   obtain⟨x,hx,h1⟩:=jQ l h
   exact⟨x,List.mem_cons_of_mem _ hx,h1⟩
  ·simp only[hb,cond_true] at h
   rcases f0 h with h | h
   ·refine⟨e,List.mem_cons_self ..,hb, ?_⟩
    rcases f0 h with h | h
    ·exact .inl (by simpa using h)
    ·exact .inr h
   ·obtain⟨x,hx,h1⟩:=jQ l h
    exact⟨x,List.mem_cons_of_mem _ hx,h1⟩
theorem mz {L:Nat→Bool} (AJ:∀k,L k=true→lr ops L k):∀(l:List Oper) (acc:List (List Nat)) (pre:List Oper),ops.toList=pre++l→acc.length=pre.length→
  (∀k j,lr ops L k→j∈acc.getD k []→L j=true)→∀k j,lr ops L k→j∈(BP l acc).getD k []→L j=true
 | [],acc,pre,_,_,h=>by simpa [BP] using h
 | o::l,acc,pre,Ii,hlen,h=>by
  rw[BP]
  refine mz AJ l _ (pre++[o]) (by simp [Ii]) (by simp [hlen]) ?_
  intro k j hk hj
  rcases Nat.lt_trichotomy k acc.length with cd | heq | Ho
  ·refine h k j hk ?_
   rw[List.getD_eq_getElem?_getD,List.getElem?_append_left cd] at hj
   rwa [List.getD_eq_getElem?_getD]
  ·subst heq
   rw[List.getD_eq_getElem?_getD,List.getElem?_append_right (Nat.le_refl _)] at hj
   simp only[Nat.sub_self,List.getElem?_cons_zero,Option.getD_some] at hj
   obtain⟨e,he,hb,hj⟩:=jQ _ hj
   have ho:ops[acc.length]? =some o:=by
    rw[←Array.getElem?_toList,Ii,hlen]
    simp
   have hL:=hk o ho e (by simpa using he) hb
   rcases hj with rfl | hj
   ·exact hL
   ·exact h e.on j (AJ _ hL) hj
  ·rw[List.getD_eq_getElem?_getD,List.getElem?_eq_none (by simp;omega)] at hj
   simp at hj
theorem jb:∀(l:List Oper) (i:Nat),fU l i=true→∀k o,l[k]? =some o→∀e∈o.after,Region.binds .any e=true→e.on<i+k
 | [],_,_,k,o,h,_,_,_=>by simp at h
 | x::l,i,h,k,o,hk,e,he,hb=>by
  simp only[fU,Bool.and_eq_true,List.all_eq_true] at h
  cases k with
  | zero=>
   simp only[List.getElem?_cons_zero,Option.some.injEq] at hk
   subst hk
   have:=h.1 e (by simpa using he)
   rw[hb] at this
   simp only[Bool.not_true,Bool.false_or] at this
   exact Nat.le_of_ble_eq_true this
  | succ k=>
   simp only[List.getElem?_cons_succ] at hk
   have:=jb l (i+1) h.2 k o hk e he hb
   omega
theorem jw {an:List (List Nat)} {a:cg} :∀(l:List cg),ln an a l=true→∀b∈l,(da a b=true→a.i∈an.getD b.i [])∧jO b a=false
 | [],_=>by simp
 | c::l,h=>by
  simp only[ln,Bool.and_eq_true,Bool.not_eq_true'] at h
  intro b hb
  rcases List.mem_cons.1 hb with rfl | hb
  ·refine⟨fun hc=> ?_,h.1.2⟩
   have:=h.1.1
   rw[hc] at this
   simp only[Bool.not_true,Bool.false_or] at this
   exact fM.1 this
  ·exact jw l h.2 b hb
theorem ly {an:List (List Nat)} :∀(l:List cg),lx an l=true→l.Pairwise (fun a b=>(da a b=true→a.i∈an.getD b.i [])∧jO b a=false)
 | [],_=> .nil
 | a::l,h=>by
  simp only[lx,Bool.and_eq_true] at h
  exact .cons (jw l h.1) (ly l h.2)
theorem fD {l m:List Nat} {i:Nat} (h1:i∈l) (h2:i∈m):fC l m=true:=by
 induction m with
 | nil=>simp at h2
 | cons k m ih=>
  simp only[fC,Bool.or_eq_true]
  rcases List.mem_cons.1 h2 with rfl | h2
  ·exact .inl (fM.2 h1)
  ·exact .inr (ih h2)
theorem gX {rest:List Oper} {st:St} {l:List PS} {fin:St} (h:Path P Γ ops gs rest 0 st l fin) {p:PS} (hp:p∈l):l[p.i]? =some p∧rest[p.i]? =some p.o∧p.i<rest.length:=by
 obtain⟨k,hk,rfl⟩:=List.getElem_of_mem hp
 have h1:=(b_ h).1
 have h2:=(b_ h).2.1
 have hl:l.length=rest.length:=by rw[←h2];simp
 have e:l[k].i=k:=by
  have:(l.map (·.i))[k]? =(List.range' 0 rest.length)[k]? :=by rw[h1]
  rw[List.getElem?_map,List.getElem?_eq_getElem hk,List.getElem?_range' (by omega)] at this
  simpa using this
 rw[e]
 refine⟨List.getElem?_eq_getElem hk, ?_,by omega⟩
 rw[←h2,List.getElem?_map,List.getElem?_eq_getElem hk]
 rfl
theorem j4 {rest:List Oper} {st:St} {l:List PS} {fin:St} {an:List (List Nat)} (h:Path P Γ ops gs rest 0 st l fin) (BU:lx an (l.map (·.log))=true) {p q:PS} (hp:p∈l) (hq:q∈l) (cd:p.i<q.i):
  (da p.log q.log=true→p.i∈an.getD q.i [])∧jO q.log p.log=false:=by
 have Io:=List.pairwise_map.1 (ly _ BU)
 have gp:=(gX h hp).1
 have gq:=(gX h hq).1
 rw[List.pairwise_iff_getElem] at Io
 have lp:=(List.getElem?_eq_some_iff.1 gp).1
 have lq:=(List.getElem?_eq_some_iff.1 gq).1
 have:=Io p.i q.i lp lq cd
 rw[(List.getElem?_eq_some_iff.1 gp).2,(List.getElem?_eq_some_iff.1 gq).2] at this
 have ei:=((b_ h).2.2 p hp).1
 have ej:=((b_ h).2.2 q hq).1
 rw[ei,ej] at this
 exact this
theorem Ar {p:PS} (hs:iF P Γ ops p) {id:Nat} (ht:p.tH id):id∈p.log.wo:=by
 rcases hs with ⟨_,he,_,_⟩ | ⟨_,e,s,r,hr,_,hl,he⟩
 ·rw[PS.tH,he] at ht
  simp at ht
 ·rw[hl]
  simp only[bw,hr]
  have h1:p.e.ow=e.ow∧p.e.cw=e.cw:=by
   rcases he with rfl | ⟨d,g,_,_,he⟩
   ·exact⟨rfl,rfl⟩
   ·rw[he];exact⟨rfl,rfl⟩
  rw[PS.tH,h1.1,h1.2] at ht
  rcases ht with ht | ⟨off,bE,hc⟩
  ·exact List.mem_append_right _ ht
  ·rw[hc]
   exact List.mem_append_left _ (List.mem_singleton.2 rfl)
theorem Ha {p:PS} (hs:iF P Γ ops p) {j:Nat} (hj:j∈bH p.e.sv):j∈p.log.m:=by
 rcases hs with ⟨_,he,_,_⟩ | ⟨_,e,s,r,hr,_,hl,he⟩
 ·rw[he] at hj
  simp [bH] at hj
 ·rw[hl]
  simp only[bw,hr]
  rcases he with rfl | ⟨d,g,_,_,he⟩
  ·exact List.mem_append_left _ hj
  ·rw[he] at hj
   simp [bH] at hj
theorem FC {ow:List (Nat×Option ai)} {id:Nat} {x:Option ai} (h:FB ow id=some x):(id,x)∈ow:=by
 induction ow with
 | nil=>simp [FB] at h
 | cons y l ih=>
  obtain⟨i,ob⟩:=y
  simp only[FB] at h
  split at h
  ·rename_i hi
   subst hi
   simp only[Option.some.injEq] at h
   subst h
   exact List.mem_cons_self ..
  ·exact List.mem_cons_of_mem _ (ih h)
theorem G_ {p:PS} (hs:iF P Γ ops p) {id:Nat} {ob:ai} (hj:(id,some ob)∈p.e.ow):id∈p.log.m∧∀j∈bZ ob,j∈p.log.m:=by
 rcases hs with ⟨_,he,_,_⟩ | ⟨_,e,s,r,hr,_,hl,he⟩
 ·rw[he] at hj
  simp at hj
 ·rw[hl]
  simp only[bw,hr]
  have h1:p.e.ow=e.ow:=by
   rcases he with rfl | ⟨d,g,_,_,he⟩
   ·rfl
   ·rw[he]
  rw[h1] at hj
  unfold BT
  constructor
  ·exact List.mem_append_right _ (List.mem_append_right _ (List.mem_flatMap.2 ⟨_,hj,List.mem_cons_self ..⟩))
  ·intro j fJ
   exact List.mem_append_right _ (List.mem_append_right _ (List.mem_flatMap.2 ⟨_,hj,List.mem_cons_of_mem _ fJ⟩))
theorem G9 {p:PS} (hs:iF P Γ ops p) {i off:Nat} {bE:List SV} (hc:p.e.cw=some (i,off,bE)):∀j∈bA bE,j∈p.log.m:=by
 rcases hs with ⟨_,he,_,_⟩ | ⟨_,e,s,r,hr,_,hl,he⟩
 ·rw[he] at hc
  simp at hc
 ·rw[hl]
  simp only[bw,hr]
  have h1:p.e.cw=e.cw:=by
   rcases he with rfl | ⟨d,g,_,_,he⟩
   ·rfl
   ·rw[he]
  rw[h1] at hc
  intro j hj
  unfold BT
  refine List.mem_append_right _ (List.mem_append_left _ ?_)
  rw[hc]
  exact hj
theorem fw (a b:List SV):bA (a++b)=bA a++bA b:=by
 induction a with
 | nil=>rfl
 | cons x a ih=>simp [bA,ih]
theorem Bz {a:List SV} {n j:Nat} (h:j∈bA (a.take n)):j∈bA a:=by
 have:=List.take_append_drop n a
 rw[←this,fw]
 exact List.mem_append_left _ h
theorem Bx {a:List SV} {n j:Nat} (h:j∈bA (a.drop n)):j∈bA a:=by
 have:=List.take_append_drop n a
 rw[←this,fw]
 exact List.mem_append_right _ h
def DB (ds:List Nat) (L:Nat→Bool) (l:List PS) (j:Nat):Prop:=j / 64 ∉ ds∨∃p∈l,L p.i=true∧j∈p.log.m
theorem lK {ds:List Nat} {L:Nat→Bool} {s:Nat} :∀(l l0:List PS) (v:SV),(∀p∈l,iF P Γ ops p)→(∀p∈l,p∈l0)→(∀j∈bH v,DB ds L l0 j)→∀j∈bH (ki L l s v),DB ds L l0 j
 | [],_,v,_,_,hv=>hv
 | p::l,l0,v,hs,gO,hv=>by
  unfold ki
  simp only[List.foldl_cons]
  refine lK l l0 _ (fun q hq=>hs q (List.mem_cons_of_mem _ hq)) (fun q hq=>gO q (List.mem_cons_of_mem _ hq)) ?_
  intro j hj
  split at hj
  ·rename_i hL
   unfold PS.f at hj
   split at hj
   ·exact .inr ⟨p,gO p (List.mem_cons_self ..),hL,Ha (hs p (List.mem_cons_self ..)) hj⟩
   ·exact hv j hj
  ·exact hv j hj
def DD (ds:List Nat) (L:Nat→Bool) (l:List PS) (id:Nat) (o:Option ai):Prop:=∀ob,o=some ob→DB ds L l id∧∀j∈bZ ob,DB ds L l j
theorem lL {ds:List Nat} {L:Nat→Bool} {id:Nat} :∀(l l0:List PS) (v:Option ai),(∀p∈l,iF P Γ ops p)→(∀p∈l,p∈l0)→DD ds L l0 id v→DD ds L l0 id (kj L l id v)
 | [],_,v,_,_,hv=>hv
 | p::l,l0,v,hs,gO,hv=>by
  unfold kj
  simp only[List.foldl_cons]
  refine lL l l0 _ (fun q hq=>hs q (List.mem_cons_of_mem _ hq)) (fun q hq=>gO q (List.mem_cons_of_mem _ hq)) ?_
  split
  ·rename_i hL
   have lf:=hs p (List.mem_cons_self ..)
   have jU:=gO p (List.mem_cons_self ..)
   unfold PS.h
   split
   ·rename_i x hx
    rintro ob rfl
    have:=G_ lf (FC hx)
    exact⟨.inr ⟨p,jU,hL,this.1⟩,fun j hj=> .inr ⟨p,jU,hL,this.2 j hj⟩⟩
   ·unfold DT
    split
    ·rename_i i off bE kn
     split
     ·split
      ·rename_i t cells
       rintro ob aM
       simp only[Option.some.injEq] at aM
       subst aM
       have h0:=hv _ rfl
       refine⟨h0.1,fun j hj=> ?_⟩
       simp only[bZ,cr,fw,List.mem_append] at hj
       rcases hj with hj | hj | hj
       ·exact h0.2 j (Bz hj)
       ·exact .inr ⟨p,jU,hL,G9 lf kn j hj⟩
       ·exact h0.2 j (Bx hj)
      ·exact hv
     ·exact hv
    ·exact hv
  ·exact hv
theorem DL {a b:cg} {s:Nat} (ha:a.d=some s) (hb:s∈b.rs):da a b=true:=by
 have:fC (jv a.d) (b.rs++jv b.d)=true:=fD (i:=s) (by simp [ha,jv]) (List.mem_append_left _ hb)
 simp [da,this]
theorem DJ {a b:cg} {s:Nat} (ha:a.d=some s) (hb:b.d=some s):da a b=true:=by
 have:fC (jv a.d) (b.rs++jv b.d)=true:=fD (i:=s) (by simp [ha,jv]) (List.mem_append_right _ (by simp [hb,jv]))
 simp [da,this]
theorem DN {a b:cg} {s:Nat} (ha:s∈a.rs) (hb:b.d=some s):da a b=true:=by
 have:fC a.rs (jv b.d)=true:=fD (i:=s) ha (by simp [hb,jv])
 simp [da,this]
theorem DQ {a b:cg} {s:Nat} (ha:s∈a.wo) (hb:s∈b.wo):da a b=true:=by
 have:fC a.wo (b.ro++b.wo)=true:=fD (i:=s) ha (List.mem_append_right _ hb)
 simp [da,this]
theorem DP {a b:cg} {s:Nat} (ha:s∈a.wo) (hb:s∈b.ro):da a b=true:=by
 have:fC a.wo (b.ro++b.wo)=true:=fD (i:=s) ha (List.mem_append_left _ hb)
 simp [da,this]
theorem DM {a b:cg} {s:Nat} (ha:s∈a.ro) (hb:s∈b.wo):da a b=true:=by
 have:fC a.ro b.wo=true:=fD (i:=s) ha hb
 simp [da,this]
theorem DK {a b:cg} {j:Nat} (ha:a.d=some (j / 64)) (hb:j∈b.m):da a b=true:=by
 have:(b.m.any fun i=>Nat.beq (i / 64) (j / 64))=true:=by
  simp only[List.any_eq_true]
  exact⟨j,hb,Nat.beq_refl _⟩
 unfold da
 rw[ha]
 simp only[this,Bool.or_true]
theorem Da {a b:cg} {j:Nat} (ha:b.d=some (j / 64)) (hb:j∈a.m):jO b a=true:=by
 unfold jO
 rw[ha]
 simp only[List.any_eq_true]
 exact⟨j,hb,Nat.beq_refl _⟩
theorem mC {p q:Nat→Bool} :∀(l:List Nat),(∀k∈l,q k=true→p k=true)→(∃k∈l,p k=true∧q k=false)→l.countP q<l.countP p
 | [],_,h=>by simp at h
 | x::l,h,⟨k,hk,hp,hq⟩=>by
  have hle:l.countP q≤l.countP p:=List.countP_mono_left (fun y hy LK=>h y (List.mem_cons_of_mem _ hy) LK)
  simp only[List.countP_cons]
  rcases List.mem_cons.1 hk with rfl | hk
  ·rw[hp,hq]
   simp
   omega
  ·have:=mC l (fun y hy=>h y (List.mem_cons_of_mem _ hy)) ⟨k,hk,hp,hq⟩
   have hx:=h x (List.mem_cons_self ..)
   cases LJ:q x
   ·simp;omega
   ·rw[hx LJ];simp;omega
def Hh (ops:Array Oper) (listed:Array Bool):Nat:=(List.range ops.size).countP fun k=> !(listed.getD k true)
def IP (w0:World) (S:Own) (st:St) (l:List PS) (L:Nat→Bool) (a:Act) (w:World):Prop:=
 ∃kA:St,Rel w0 S kA a w∧kA.n=st.n∧(∀s,kA.get s=ki L l s (st.get s))∧∀id,kA.obj id=kj L l id (st.obj id)
theorem mH {α:Type} {step:PS→α→α} {T:PS→Prop} (db:∀p v,¬T p→step p v=v) {L:Nat→Bool} {l:List PS} {p:PS} (v:α)
  (h1:∀q∈l,T q→q.i<p.i→L q.i=true) (h2:∀q∈l,T q→p.i<q.i→L q.i=false) (h3:L p.i=false):
  l.foldl (fun v q=>if L q.i then step q v else v) v=l.foldl (fun v q=>if decide (q.i<p.i) then step q v else v) v:=by
 refine fold_congr step T db (L:=L) (L':=fun k=>decide (k<p.i)) l v (fun q hq ht=> ?_)
 rcases Nat.lt_trichotomy q.i p.i with cd | heq | Ho
 ·rw[h1 q hq ht cd];simp [cd]
 ·rw[heq,h3];simp
 ·rw[h2 q hq ht Ho];simp;omega
theorem lS {o:Oper} {d:Nat} :∀ {l:List Oper},o∈l→o.dst=some d→d∈kJ l
 | [],hm,_=>by simp at hm
 | x::r,hm,BJ=>by
  simp only[kJ]
  rcases List.mem_cons.1 hm with rfl | hm
  ·rw[BJ];exact List.mem_cons_self ..
  ·split
   ·exact List.mem_cons_of_mem _ (lS hm BJ)
   ·exact lS hm BJ
theorem EI (d_:bt P Γ) {st:St} {l:List PS} {fin:St} (dc:Path P Γ ops gs ops.toList 0 st l fin) (BU:lx (BP ops.toList []) (l.map (·.log))=true)
  (bI:dU (kJ ops.toList) st=true) {L:Nat→Bool} (AJ:∀k,L k=true→lr ops L k) {p:PS} (hp:p∈l) (hg:lr ops L p.i) (hL:L p.i=false)
  {Q:Exit→Act→World→Prop} {a:Act} {w:World} (De:IP w0 S st l L a w) {K:Act→World→Prop} (hK:∀a' w',IP w0 S st l (fun k=>L k || k==p.i) a' w'→K a' w'):wpOp P ops Q p.i K a w:=by
 obtain⟨kA,hR,hn,mm,gJ⟩:=De
 have jX:=Cn dc
 have hX:=kv dc
 have lf:=jX p hp
 have HG:=mz AJ ops.toList [] [] rfl rfl (by simp)
 have hd:∀q∈l,q.log.d=q.o.dst:=fun q hq=>((b_ dc).2.2 q hq).2
 have hA:∀q∈l,q.i<p.i→da q.log p.log=true→L q.i=true:=fun q hq cd hc=>HG p.i q.i hg ((j4 dc BU hq hp cd).1 hc)
 have hB:∀q∈l,p.i<q.i→da p.log q.log=true→L q.i=false:=by
  intro q hq cd hc
  cases Hi:L q.i
  ·rfl
  ·have:=HG q.i p.i (AJ _ Hi) ((j4 dc BU hp hq cd).1 hc)
   rw[hL] at this
   cases this
 obtain⟨Lt,Lu,KC⟩:=hX.1 p hp
 have dF:∀s∈p.log.rs,kA.get s=p.st.get s:=by
  intro s hs
  rw[mm s,Lt s]
  refine mH (step:=fun q v=>PS.f q s v) (T:=fun q=>q.tF s) (fun q v h=>PS.Hy h v) _ (fun q hq ht cd=>hA q hq cd (DL ((hd q hq).trans ht) hs)) (fun q hq ht cd=>hB q hq cd (DN hs ((hd q hq).trans ht))) hL
 have aM:∀id∈p.log.ro,kA.obj id=p.st.obj id:=by
  intro id hs
  rw[gJ id,Lu id]
  refine mH (step:=fun q v=>PS.h q id v) (T:=fun q=>q.tH id) (fun q v h=>PS.HD h v) _ (fun q hq ht cd=>hA q hq cd (DP (Ar (jX q hq) ht) hs)) (fun q hq ht cd=>hB q hq cd (DM hs (Ar (jX q hq) ht))) hL
 have hnd:(l.map (·.i)).Nodup:=by
  rw[(b_ dc).1]
  exact List.nodup_range'
 have Io:l.Pairwise (fun a b=>a.i<b.i):=by
  have:=List.pairwise_lt_range' (s:=0) (n:=ops.toList.length)
  rw[←(b_ dc).1] at this
  exact List.pairwise_map.1 this
 have G6:∀s,ki (fun k=>L k || k==p.i) l s (st.get s)=p.f s (kA.get s):=by
  intro s
  rw[mm s]
  exact gE (fun q v=>PS.f q s v) (fun q=>q.tF s) (fun q v h=>PS.Hy h v) (L:=L) (q:=p) l (st.get s) hp hnd hL Io (fun q hq cd h1 h2=>hB q hq cd (DJ ((hd p hp).trans h1) ((hd q hq).trans h2)))
 have G7:∀id,kj (fun k=>L k || k==p.i) l id (st.obj id)=p.h id (kA.obj id):=by
  intro id
  rw[gJ id]
  exact gE (fun q v=>PS.h q id v) (fun q=>q.tH id) (fun q v h=>PS.HD h v) (L:=L) (q:=p) l (st.obj id) hp hnd hL Io (fun q hq cd h1 h2=>hB q hq cd (DQ (Ar lf h1) (Ar (jX q hq) h2)))
 have J3:ops[p.i]? =some p.o:=by
  rw[←Array.getElem?_toList]
  exact (gX dc hp).2.1
 have Lo:∀d,p.o.dst=some d→d∈kJ ops.toList:=by
  intro d BJ
  have hm:p.o∈ops.toList:=List.mem_of_getElem? (gX dc hp).2.1
  exact lS hm BJ
 have GK:fH ops p.o ⊆ p.log.rs:=by
  rcases lf with ⟨_,_,_,hl⟩ | ⟨_,e,s,r,hr,_,hl,_⟩
  ·rw[hl];exact fun _ h=>h
  ·rw[hl];simp only[bw,hr];exact fun _ h=>List.mem_append_left _ h
 have mN:eV ops kA p.o=eV ops p.st p.o:=by
  unfold eV
  split
  ·rfl
  ·rename_i j want Lv
   split
   ·rfl
   ·rename_i s hs
    rw[dF s (GK (by unfold fH;simp [Lv,hs,jv]))]
 unfold wpOp
 rw[J3]
 simp only
 have hw:eV ops kA p.o=some true∨eV ops kA p.o=some false:=by
  rw[mN]
  rcases lf with ⟨h,_⟩ | ⟨h,_⟩
  ·exact .inr h
  ·exact .inl h
 rcases lf with ⟨Iv,he,aF,hl⟩ | ⟨Iv,e,s,r,hr,aF,hl,he⟩
 ·rw[←mN] at Iv
  rw[if_neg (by rw[kd hR Iv];simp)]
  refine hK _ _ ⟨kA.skip p.o.dst, ?_,hn,fun s=> ?_,fun id=> ?_⟩
  ·have GW:∀d,p.o.dst=some d→ba kA.n d:=by
    intro d BJ
    simp only[St.skip,St.apply,fT] at aF
    have:=aF.2
    rw[BJ] at this
    have:=kY this
    rw[hn,←KC]
    exact this
   obtain⟨β,φ,hc⟩:=hR.core
   exact ie (e:= {sv:= .undef}) hR GW hR.kept ⟨β,φ,hc,by simp [ak]⟩
  ·rw[G6 s]
   unfold St.skip
   rw[←he]
   exact (kX kA p s)
  ·rw[G7 id]
   unfold St.skip
   rw[←he]
   exact (i6 kA p id)
 ·rw[←mN] at Iv
  rw[if_pos (kd hR Iv)]
  refine .inl ?_
  have Kb:∀k∈s,kA.get k=p.st.get k:=fun k hk=>dF k (by rw[hl];simp only[bw,hr];exact List.mem_append_right _ hk)
  have Ka:∀k∈r,kA.obj k=p.st.obj k:=fun k hk=>aM k (by rw[hl];simp only[bw,hr];exact List.mem_append_right _ hk)
  have bj:=M.j6 (evalOp P Γ p.o) hr Kb Ka
  simp only[St.apply,fT] at aF
  have A0:=Bk d_ hR (M.dP _ bj) aF.1.2 (fun d BJ=>by
    have:=aF.2
    rw[BJ] at this
    have:=kY this
    rw[hn,←KC]
    exact this) (fun _ d BJ=> ?_) Q
  ·refine Oper.wp_mono ?_ A0
   rintro a' w' ⟨v,rfl,d7⟩
   rcases he with he | ⟨d,g,BJ,fY,he⟩
   ·refine hK _ _ ⟨kA.apply p.o.dst e,d7,hn,fun s=> ?_,fun id=> ?_⟩
    ·rw[G6 s,←he];exact kX kA p s
    ·rw[G7 id,←he];exact i6 kA p id
   ·have hb:(kA.apply p.o.dst e).get d= .bool g:=by
     rw[BJ,apply_get,fY]
     simp [ay]
    have G0:=d7.mV hb
    refine hK _ _ ⟨(kA.apply p.o.dst e).reset.fq d g,d7.reset.fq G0,hn,fun s=> ?_,fun id=> ?_⟩
    ·rw[G6 s];exact Ev BJ p rfl he s
    ·rw[G7 id];exact Ew p rfl he id
  ·have key:∀j,DB (kJ ops.toList) L l j→j / 64≠d:=by
    rintro j (hj | ⟨q,hq,Hi,hj⟩) rfl
    ·exact hj (Lo _ BJ)
    ·rcases Nat.lt_trichotomy q.i p.i with cd | heq | Ho
     ·have:=(j4 dc BU hq hp cd).2
      rw[Da ((hd p hp).trans BJ) hj] at this
      cases this
     ·rw[heq,hL] at Hi
      cases Hi
     ·have:=hB q hq Ho (DK ((hd p hp).trans BJ) hj)
      rw[this] at Hi
      cases Hi
   have Jy:=fun d' HP=>AZ bI d' HP
   constructor
   ·intro i j hj
    rw[mm i] at hj
    refine key j (lK l l _ jX (fun _ h=>h) (fun k hk=> .inl (fun hm=> ?_)) j hj)
    exact (Jy _ hm).slot i k hk rfl
   ·intro j ob ji
    rw[gJ j] at ji
    have h0:DD (kJ ops.toList) L l j (st.obj j):=by
     intro EG jj
     refine⟨.inl (fun hm=>((Jy _ hm).obj j EG jj).1 rfl),fun k hk=> .inl (fun hm=>((Jy _ hm).obj j EG jj).2 k hk rfl)⟩
    have:=lL l l _ jX (fun _ h=>h) h0 ob ji
    exact⟨key j this.1,fun k hk=>key k (this.2 k hk)⟩
theorem BG (d_:bt P Γ) {st:St} {l:List PS} {fin:St} (dc:Path P Γ ops gs ops.toList 0 st l fin) (BU:lx (BP ops.toList []) (l.map (·.log))=true)
  (bI:dU (kJ ops.toList) st=true) (Lp:fU ops.toList 0=true) {Q:Exit→Act→World→Prop} (hQ:∀a w,Rel w0 S fin a w→Q .normal a w):
  ∀(fuel:Nat) (listed:Array Bool) (a:Act) (w:World),listed.size=ops.size→(∀k,listed.getD k false=true→lr ops (fun k=>listed.getD k false) k)→Hh ops listed≤fuel→
   IP w0 S st l (fun k=>listed.getD k false) a w→wpAny P .any ops Q fuel listed a w:=by
 have hX:=kv dc
 have hlen:l.length=ops.size:=by
  have:(l.map (·.o)).length=ops.toList.length:=by rw[(b_ dc).2.1]
  simpa using this
 have done:∀(listed:Array Bool) (a:Act) (w:World),listed.size=ops.size→Region.ready .any ops listed=[]→IP w0 S st l (fun k=>listed.getD k false) a w→Q .normal a w:=by
  intro listed a w dd hr ⟨kA,hR,hn,mm,gJ⟩
  have HF:∀k,k<ops.size→listed.getD k false=true:=by
   intro k
   induction k using Nat.strongRecOn with
   | ind k ih=>
    intro hk
    cases Lf:listed.getD k false
    ·have:k∈Region.ready .any ops listed:=by
      rw[mem_ready]
      refine⟨?_,ops[k],Array.getElem?_eq_getElem hk,fun e he hb=> ?_⟩
      ·rw[←Lf]
       simp only[Array.getD_eq_getD_getElem?,Array.getElem?_eq_getElem (show k<listed.size by omega),Option.getD_some]
      ·have:=jb ops.toList 0 Lp k ops[k] (by simp [Array.getElem?_toList,hk]) e he hb
       exact ih e.on (by omega) (by omega)
     rw[hr] at this
     cases this
    ·rfl
  refine hQ a w ?_
  have Kv:∀q∈l,listed.getD q.i false=true:=by
   intro q hq
   have:=(gX dc hq).2.2
   exact HF q.i (by simpa using this)
  have e1:kA.get=fin.get:=by
   funext s
   rw[mm s,hX.2.1 s]
   exact fold_congr (fun q v=>PS.f q s v) (fun _=>True) (fun _ _ h=>absurd trivial h) (L:=fun k=>listed.getD k false) (L':=fun _=>true) l _ (fun q hq _=>Kv q hq)
  have e2:kA.obj=fin.obj:=by
   funext s
   rw[gJ s,hX.2.2.1 s]
   exact fold_congr (fun q v=>PS.h q s v) (fun _=>True) (fun _ _ h=>absurd trivial h) (L:=fun k=>listed.getD k false) (L':=fun _=>true) l _ (fun q hq _=>Kv q hq)
  obtain⟨β,φ,hc⟩:=hR.core
  refine⟨?_,fun x hx=>by rw[hX.2.2.2,←hn];exact hR.fx x hx,hR.defers,hR.kept,β,φ, ?_⟩
  ·rw[hR.size,hn,hX.2.2.2]
  ·rw[←e1,←e2];exact hc
 intro fuel
 induction fuel with
 | zero=>
  intro listed a w dd AJ It De
  have hr:Region.ready .any ops listed=[]:=by
   cases LM:Region.ready .any ops listed with
   | nil=>rfl
   | cons x xs=>
    have hx:x∈Region.ready .any ops listed:=by rw[LM];exact List.mem_cons_self ..
    obtain⟨h1,o,ho,_⟩:=mem_ready.1 hx
    have cd:=(Array.getElem?_eq_some_iff.1 ho).1
    have:0<Hh ops listed:=by
     unfold Hh
     rw[List.countP_pos_iff]
     exact⟨x,List.mem_range.2 cd,by simp only[h1];rfl⟩
    omega
  exact⟨hr,done listed a w dd hr De⟩
 | succ fuel ih=>
  intro listed a w dd AJ It De
  refine⟨fun hr=>done listed a w dd hr De,fun i hi=> ?_⟩
  obtain⟨h1,o,ho,Jw⟩:=mem_ready.1 hi
  have cd:=(Array.getElem?_eq_some_iff.1 ho).1
  have D9:i<l.length:=by omega
  have I9:l[i].i=i:=by
   have:(l.map (·.i))[i]? =(List.range' 0 ops.toList.length)[i]? :=by rw[(b_ dc).1]
   rw[List.getElem?_map,List.getElem?_eq_getElem D9,List.getElem?_range' (by simpa using cd)] at this
   simpa using this
  have Ir:∀k,(listed.setIfInBounds i true).getD k false=(listed.getD k false || k==i):=by
   intro k
   simp only[Array.getD_eq_getD_getElem?,Array.getElem?_setIfInBounds]
   by_cases hk:i=k
   ·subst hk
    simp [show i<listed.size by omega]
   ·have:(k==i)=false:=by simpa using fun h=>hk h.symm
    simp [hk,this]
  have Le:listed.getD i false=false:=by
   rw[←h1]
   simp only[Array.getD_eq_getD_getElem?,Array.getElem?_eq_getElem (show i<listed.size by omega),Option.getD_some]
  have KD:lr ops (fun k=>listed.getD k false) i:=by
   intro o' eW e he hb
   rw[ho] at eW
   injection eW with eW
   subst eW
   exact Jw e he hb
  have:=EI (w0:=w0) (S:=S) (Q:=Q) d_ dc BU bI AJ (p:=l[i]) (List.getElem_mem D9) (by rw[I9];exact KD) (by rw[I9];exact Le) De
   (K:=wpAny P .any ops Q fuel (listed.setIfInBounds i true)) (fun a' w' hc=> ?_)
  ·rw[I9] at this
   exact this
  ·refine ih _ a' w' (by simpa using dd) (fun k hk=> ?_) ?_ ?_
   ·intro o' eW e he hb
    show (listed.setIfInBounds i true).getD e.on false=true
    rw[Ir] at hk ⊢
    simp only[Bool.or_eq_true,beq_iff_eq] at hk ⊢
    rcases hk with hk | rfl
    ·exact .inl (AJ k hk o' eW e he hb)
    ·exact .inl (KD o' eW e he hb)
   ·have:Hh ops (listed.setIfInBounds i true)<Hh ops listed:=by
     unfold Hh
     refine mC _ (fun k hk hq=> ?_) ⟨i,List.mem_range.2 cd,by simp only[h1];rfl, ?_⟩
     ·simp only[Bool.not_eq_true',Array.getD_eq_getD_getElem?,Array.getElem?_setIfInBounds] at hq ⊢
      split at hq
      ·split at hq<;>simp at hq
      ·exact hq
     ·simp [Array.getElem?_setIfInBounds,show i<listed.size by omega]
    omega
   ·have e:(fun k=>(listed.setIfInBounds i true).getD k false)=(fun k=>listed.getD k false || k==i):=funext Ir
    rw[e]
    rw[I9] at hc
    exact hc
theorem Rel.drew {st:St} {a:Act} {w:World} (hR:Rel w0 S st a w):Rel w0 S st a {w with drawn:=w.drawn+1} :=by
 obtain⟨β,φ,hc⟩:=hR.core
 refine⟨hR.size,hR.fx,hR.defers,⟨hR.kept.os,hR.kept.tape,hR.kept.output,hR.kept.size,hR.kept.block⟩,β,φ, ?_⟩
 exact hc.step (h':=st.obj) (β':=β) (φ':=φ) (w':= {w with drawn:=w.drawn+1}) (fun _=>False) (Nat.le_refl _) (fun _ _ _=>rfl) (fun b hb=> .inl hb) (fun _ _ _ h=>h) (fun _ _=>⟨rfl,rfl⟩)
  (fun id o ho=> .inl ⟨fun h=>h,ho,rfl,fun _ _ h=>h,fun _ _=>rfl⟩) hc.sep
theorem jx (d_:bt P Γ) {st:St} {a:Act} {w:World} {id:Nat} {draw:Bool} {Q:Exit→Act→World→Prop} (hR:Rel w0 S st a w) (h:(bJ P Γ ops draw st).ok=true)
  (hQ:∀a' w',Rel w0 S (bJ P Γ ops draw st) a' w'→Q .normal a' w'):(Code.region id ops draw).wp P Q a w:=by
 cases draw with
 | false=>exact Cp d_ hR h hQ
 | true=>
  unfold bJ at h hQ
  simp only[cond_true] at h hQ
  cases hf:dU (kJ ops.toList) st && fU ops.toList 0 && P.follows .mixedOrders
  ·simp [hf,aY] at h
  ·simp only[hf,cond_true] at h hQ
   simp only[Bool.and_eq_true] at hf
   obtain⟨l,fin,dc,_,Jt,J_⟩:=ek _ _ _ _ h
   refine wp_region_any hf.2 (BG d_ dc (by simpa using Jt) hf.1.1 hf.1.2 (fun a' w' d7=>hQ a' w' (J_ w0 S a' w' d7)) _ _ a _ (by simp) (fun k hk=> ?_) ?_ ?_)
   ·rw[Array.getD_eq_getD_getElem?,Array.getElem?_replicate] at hk
    split at hk<;>simp at hk
   ·unfold Hh
    have:=List.countP_le_length (p:=fun k=> !((Array.replicate ops.size false).getD k true)) (l:=List.range ops.size)
    simpa using this
   ·refine⟨st,hR.drew,rfl,fun s=> ?_,fun o=> ?_⟩
    ·refine (eD (fun q v=>PS.f q s v) (L:=fun k=>(Array.replicate ops.size false).getD k false) l (st.get s) (fun q _=> ?_)).symm
     rw[Array.getD_eq_getD_getElem?,Array.getElem?_replicate]
     split<;>rfl
    ·refine (eD (fun q v=>PS.h q o v) (L:=fun k=>(Array.replicate ops.size false).getD k false) l (st.obj o) (fun q _=> ?_)).symm
     rw[Array.getD_eq_getD_getElem?,Array.getElem?_replicate]
     split<;>rfl
end
end Go.Proofs.YtngbcccnjiaddaaGreat.Vm
namespace Go.Proofs.YtngbcccnjiaddaaGreat.Vm
section
variable {P:Program} {Γ:Ctx} {w0:World} {S:Own}
theorem dW {st:St} {c:Operand} {b:Bool} :(st.cN c b).ok=st.ok:=by
 unfold St.cN
 split<;>rfl
theorem BC {st:St} {c:Operand} {b:Bool} (h:st.ok=true):Tr st (st.cN c b):=by
 unfold St.cN
 split
 ·exact jF h
 ·exact Tr.refl h
theorem ic {st:St} {a:Act} {w:World} {c:Operand} {b:Bool} (hR:Rel w0 S st a w) (hc:a.eval c= .bool b):Rel w0 S (st.cN c b) a w:=by
 unfold St.cN
 split
 ·exact hR.fq hc
 ·exact hR
theorem FR {st:St} {a:Act} {w:World} (hR:Rel w0 S st a w) (c:Operand):∃β,ak w (Av st.obj β) β (ev st c) (a.eval c):=by
 obtain⟨β,φ,hc⟩:=hR.core
 refine⟨β, ?_⟩
 cases c with
 | tmp t=>exact hc.bN t
 | const v=>exact iS v
 | global g=>simp [ev,ak]
 | func g=>simp [ev,ak]
theorem FQ {st:St} {a:Act} {w:World} (hR:Rel w0 S st a w) {c:Operand} {t:Bool} (h:ev st c= .kb t):a.eval c= .bool t:=by
 obtain⟨β,hv⟩:=FR hR c
 rw[h] at hv
 simpa only[ak] using hv
theorem CJ {st:St} {a:Act} {w:World} (hR:Rel w0 S st a w) {c:Operand} {t:Bool} (h:ev st c= .bool t):a.eval c= .bool t:=by
 obtain⟨β,hv⟩:=FR hR c
 rw[h] at hv
 simpa only[ak] using hv
theorem dB:∀(c:Code) (st:St),(exec P Γ c st).ok=true→Tr st (exec P Γ c st)
 | .skip,st,h=>by
  simp only[exec] at h ⊢
  exact Tr.refl h
 | .region id ops draw,st,h=>by
  simp only[exec] at h ⊢
  exact mY h
 | .seq a b,st,h=>by
  simp only[exec] at h ⊢
  have h2:=dB b _ h
  exact (dB a _ h2.ok).trans h2
 | .cond c a b,st,h=>by
  simp only[exec] at h ⊢
  split
  ·rename_i t mI
   simp only[mI] at h
   cases t with
   | true=>simp only[cond_true] at h ⊢;exact dB a _ h
   | false=>simp only[cond_false] at h ⊢;exact dB b _ h
  ·rename_i g mI
   simp only[mI] at h
   have lf:=cF h
   have aF:st.ok=true:=by
    cases g with
    | true=>
     have:=(dB a _ (lf.1 rfl)).ok
     rw[dW] at this
     exact this
    | false=>
     have:=(dB b _ (lf.2 rfl)).ok
     rw[dW] at this
     exact this
   exact BD aF h
  ·rename_i h1 h2
   exfalso
   revert h
   split
   ·rename_i t mI;exact absurd mI (h1 t)
   ·rename_i g mI;exact absurd mI (h2 g)
   ·simp [aY]
 | .block ..,st,h=>by simp [exec,aY] at h
 | .loop ..,st,h=>by simp [exec,aY] at h
 | .exit ..,st,h=>by simp [exec,aY] at h
 | .goto ..,st,h=>by simp [exec,aY] at h
 | .label ..,st,h=>by simp [exec,aY] at h
 | .ret,st,h=>by simp [exec,aY] at h
theorem fV (d_:bt P Γ):∀(c:Code) (st:St) (a:Act) (w:World) (Q:Exit→Act→World→Prop),Rel w0 S st a w→(exec P Γ c st).ok=true→
  (∀a' w',Rel w0 S (exec P Γ c st) a' w'→Q .normal a' w')→c.wp P Q a w
 | .skip,st,a,w,Q,hR,h,hQ=>by
  simp only[exec] at h hQ
  exact wp_skip (hQ a w hR)
 | .region id ops draw,st,a,w,Q,hR,h,hQ=>by
  simp only[exec] at h hQ
  exact jx d_ hR h hQ
 | .seq x y,st,a,w,Q,hR,h,hQ=>by
  simp only[exec] at h hQ
  have h2:=dB y _ h
  refine wp_seq (fV d_ x st a w _ hR h2.ok (fun a' w' d7=> ?_))
  exact fV d_ y _ a' w' Q d7 h hQ
 | .cond c x y,st,a,w,Q,hR,h,hQ=>by
  simp only[exec] at h hQ
  split at h
  ·rename_i t mI
   simp only[mI] at hQ
   refine wp_cond (FQ hR mI) ?_
   cases t with
   | true=>simp only[cond_true] at h hQ;exact fV d_ x st a w Q hR h hQ
   | false=>simp only[cond_false] at h hQ;exact fV d_ y st a w Q hR h hQ
  ·rename_i g mI
   simp only[mI] at hQ
   have lf:=cF h
   have hb:=CJ hR mI
   refine wp_cond hb ?_
   cases g with
   | true=>
    have hy:=lf.1 rfl
    have ht:=dB x _ hy
    refine fV d_ x _ a w Q (ic hR.reset hb) hy (fun a' w' d7=>hQ a' w' ?_)
    have aF:st.reset.ok=true:=by have:=ht.ok;rwa [dW] at this
    exact fO (fun _=>⟨(BC aF).trans ht,d7⟩) (by simp) h
   | false=>
    have hy:=lf.2 rfl
    have ht:=dB y _ hy
    refine fV d_ y _ a w Q (ic hR.reset hb) hy (fun a' w' d7=>hQ a' w' ?_)
    have aF:st.reset.ok=true:=by have:=ht.ok;rwa [dW] at this
    exact fO (by simp) (fun _=>⟨(BC aF).trans ht,d7⟩) h
  ·simp [aY] at h
 | .block ..,st,_,_,_,_,h,_=>by simp [exec,aY] at h
 | .loop ..,st,_,_,_,_,h,_=>by simp [exec,aY] at h
 | .rangeFunc ..,st,_,_,_,_,h,_=>by simp [exec,aY] at h
 | .exit ..,st,_,_,_,_,h,_=>by simp [exec,aY] at h
 | .scope ..,st,_,_,_,_,h,_=>by simp [exec,aY] at h
 | .goto ..,st,_,_,_,_,h,_=>by simp [exec,aY] at h
 | .label ..,st,_,_,_,_,h,_=>by simp [exec,aY] at h
 | .ret,st,_,_,_,_,h,_=>by simp [exec,aY] at h
 | .refuse ..,st,_,_,_,_,h,_=>by simp [exec,aY] at h
abbrev Rn:=List (Nat×ai×Option Nat)
def Aq:Rn→Nat→Option (ai×Option Nat)
 | [],_=>none
 | (i,x)::l,j=>if j=i then some x else Aq l j
def Env.ix (β:Env) (R:Rn):Env:=
 ⟨β.di,fun j=>match Aq R j with | some (_,some id)=>β.val id | some (_,none)=> .slice none 0 0 | none=>β.val j,β.gr,
  fun j=>match Aq R j with | some (_,some id)=>β.nb id | some (_,none)=>[] | none=>β.nb j⟩
def AL (o:ai):Prop:=(∃t e,o= .row t e [] false true)∨(∃t e ts,o= .deep t e ts [] none)
def fa (o:ai):Prop:=(∃t e r fz u,o= .row t e r fz u)∨(∃t e ts r,o= .deep t e ts r none)
def iC (φ:Nat→List Nat) (R:Rn) (j:Nat):List Nat:=
 match Aq R j with | some (_,some id)=>φ id | some (_,none)=>[] | none=>φ j
def AM (h:Nat→Option ai) (x:Nat×ai×Option Nat):Prop:=
 (∃id,fa x.2.1∧x.2.2=some id∧h id=some x.2.1)∨(AL x.2.1∧x.2.2=none)
theorem lz {w:World} {av av':Nat→Prop} {β:Env} {R:Rn} :∀(cs:List SV) (l:List Value),jJ cs=true→af w av β cs l→af w av' (β.ix R) cs l
 | [],l,_,h=>by simpa only[af] using h
 | s::cs,l,hp,h=>by
  simp only[af] at h ⊢
  obtain⟨v,l',rfl,h1,h2⟩:=h
  cases s with
  | ptr id off=>
   refine⟨v,l',rfl, ?_,lz cs l' hp h2⟩
   simp only[ak] at h1 ⊢
   exact h1
  | _=>simp [jJ] at hp
theorem i9 {hp:List (Nat×ai)} {f:Nat→SV} {β:Env} {φ:Nat→List Nat} {tm:Array Value} {w:World} (hc:Core w0 S f (de hp) β φ tm w) {ck:CK} {nid:Nat} {s:SV} {v:Value} {av':Nat→Prop}
  (hv:ak w (Av (de hp) β) β s v) (cA:∀b,av' b→Av (de hp) β b) {R:Rn} (hR:∀x∈(ar P hp ck nid s).2,Aq R x.1=some x.2):
  ak w av' (β.ix R) (ar P hp ck nid s).1 v∧∀x∈(ar P hp ck nid s).2,AM (de hp) x:=by
 have mono:∀s',bH s'=[]→ak w (Av (de hp) β) β s' v→ak w av' (β.ix R) s' v:=fun s' A9 h'=>
  ak.mono (Nat.le_refl _) (fun _ _ _=>rfl) (fun b hb=> .inl (cA b hb)) s' v h' (by rw[A9];simp)
 cases s with
 | own id=>
  simp only[ar] at hR ⊢
  simp only[ak] at hv
  cases hl:de hp id with
  | none=>simp [ak]
  | some o=>
   cases o with
   | box=>simp [ak]
   | row t e r fz u=>
    simp only[hl] at hR
    simp only
    cases ck with
    | dQ=>simp [ak]
    | mh=>
     have:=hR _ (List.mem_singleton.2 rfl)
     simp only at this
     refine⟨?_, ?_⟩
     ·simp only[ak,Env.ix,this]
      exact hv
     ·intro x hx
      rw[List.mem_singleton] at hx
      subst hx
      exact .inl ⟨id,.inl ⟨t,e,r,fz,u,rfl⟩,rfl,hl⟩
    | own=>
     have:=hR _ (List.mem_singleton.2 rfl)
     simp only at this
     refine⟨?_, ?_⟩
     ·simp only[ak,Env.ix,this]
      exact hv
     ·intro x hx
      rw[List.mem_singleton] at hx
      subst hx
      exact .inl ⟨id,.inl ⟨t,e,r,fz,u,rfl⟩,rfl,hl⟩
    | deep=>
     have:=hR _ (List.mem_singleton.2 rfl)
     simp only at this
     refine⟨?_, ?_⟩
     ·simp only[ak,Env.ix,this]
      exact hv
     ·intro x hx
      rw[List.mem_singleton] at hx
      subst hx
      exact .inl ⟨id,.inl ⟨t,e,r,fz,u,rfl⟩,rfl,hl⟩
   | deep t e ts r jH=>
    cases jH with
    | some q=>simp [ak]
    | none=>
    simp only[hl] at hR
    simp only
    cases ck with
    | dQ=>simp [ak]
    | mh=>
     have:=hR _ (List.mem_singleton.2 rfl)
     simp only at this
     refine⟨?_, ?_⟩
     ·simp only[ak,Env.ix,this]
      exact hv
     ·intro x hx
      rw[List.mem_singleton] at hx
      subst hx
      exact .inl ⟨id,.inr ⟨t,e,ts,r,rfl⟩,rfl,hl⟩
    | own=>
     have:=hR _ (List.mem_singleton.2 rfl)
     simp only at this
     refine⟨?_, ?_⟩
     ·simp only[ak,Env.ix,this]
      exact hv
     ·intro x hx
      rw[List.mem_singleton] at hx
      subst hx
      exact .inl ⟨id,.inr ⟨t,e,ts,r,rfl⟩,rfl,hl⟩
    | deep=>
     have:=hR _ (List.mem_singleton.2 rfl)
     simp only at this
     refine⟨?_, ?_⟩
     ·simp only[ak,Env.ix,this]
      exact hv
     ·intro x hx
      rw[List.mem_singleton] at hx
      subst hx
      exact .inl ⟨id,.inr ⟨t,e,ts,r,rfl⟩,rfl,hl⟩
   | dQ e r=>
    simp only
    refine⟨?_,by simp⟩
    have h1:=(hc.aB id _ hl).1
    rw[←hv.1] at h1
    exact mono _ rfl h1
 | nil=>
  simp only[ar] at hR ⊢
  simp only[ak] at hv
  cases ck with
  | mh=>
   refine⟨?_,by simp⟩
   simp only[ak]
   exact hv
  | own t=>
   simp only at hR ⊢
   cases B0:fb P 16 t with
   | none=>simp [ak]
   | some e=>
    simp only[B0] at hR
    have:=hR _ (List.mem_singleton.2 rfl)
    simp only at this
    refine⟨?_, ?_⟩
    ·simp only[ak,Env.ix,this]
     rw[hv]
     exact⟨rfl,rfl⟩
    ·intro x hx
     rw[List.mem_singleton] at hx
     subst hx
     exact .inr ⟨.inl ⟨t,e,rfl⟩,rfl⟩
  | deep t ts=>
   simp only at hR ⊢
   cases B0:fb P 16 t with
   | none=>simp [ak]
   | some e=>
    simp only[B0] at hR
    have:=hR _ (List.mem_singleton.2 rfl)
    simp only at this
    refine⟨?_, ?_⟩
    ·simp only[ak,Env.ix,this]
     rw[hv]
     exact⟨rfl,rfl⟩
    ·intro x hx
     rw[List.mem_singleton] at hx
     subst hx
     exact .inr ⟨.inr ⟨t,e,ts,rfl⟩,rfl⟩
  | dQ t=>
   simp only at hR ⊢
   cases B0:fb P 16 t with
   | none=>simp [ak]
   | some e=>
    refine⟨?_,by simp⟩
    simp only[ak,bQ]
    exact⟨[],⟨[],none,0,0,rfl,hv,rfl,Nat.le_refl _,Nat.zero_le _,.inl ⟨rfl,rfl⟩⟩,by simp⟩
 | kb b=>
  simp only[ar]
  refine⟨?_,by simp⟩
  simp only[ak] at hv ⊢
  exact hv
 | agg=>simp [ar,ak]
 | C9=>simp [ar,ak]
 | dL=>simp [ar,ak]
 | Ge=>simp [ar,ak]
 | E8 g cs=>
  simp only[ar]
  cases hp:jJ cs
  ·simp [ak]
  ·simp only[cond_true]
   refine⟨?_,by simp⟩
   simp only[ak] at hv ⊢
   obtain⟨l,rfl,hl⟩:=hv
   exact⟨l,rfl,lz cs l hp hl⟩
 | ptr id off=>
  simp only[ar]
  refine⟨?_,by simp⟩
  simp only[ak] at hv ⊢
  exact hv
 | eY=>exact⟨mono _ rfl hv,by simp [ar]⟩
 | undef=>exact⟨mono _ rfl hv,by simp [ar]⟩
 | int=>exact⟨mono _ rfl hv,by simp [ar]⟩
 | bool=>exact⟨mono _ rfl hv,by simp [ar]⟩
 | str=>exact⟨mono _ rfl hv,by simp [ar]⟩
 | sl=>exact⟨mono _ rfl hv,by simp [ar]⟩
 | gu=>exact⟨mono _ rfl hv,by simp [ar]⟩
theorem iA {hp:List (Nat×ai)} {f:Nat→SV} {β:Env} {φ:Nat→List Nat} {tm:Array Value} {w:World} (hc:Core w0 S f (de hp) β φ tm w) {lC:List (Nat×CK)} {b:Nat} {av':Nat→Prop}
  (cA:∀b,av' b→Av (de hp) β b) {R:Rn} :∀(l:List SV) (k:Nat) (vs:List Value),af w (Av (de hp) β) β l vs→(∀x∈(br P hp lC b k l).2,Aq R x.1=some x.2)→
  af w av' (β.ix R) (br P hp lC b k l).1 vs∧∀x∈(br P hp lC b k l).2,AM (de hp) x
 | [],k,vs,hl,_=>by
  simp only[br,af] at hl ⊢
  exact⟨hl,by simp⟩
 | s::l,k,vs,hl,hR=>by
  simp only[af] at hl
  obtain⟨v,l',rfl,h1,h2⟩:=hl
  simp only[br] at hR ⊢
  have c1:=i9 (P:=P) hc (ck:=Km lC k) (nid:=ag (20000+b*4) k) h1 cA (R:=R) (fun x hx=>hR x (List.mem_append_left _ hx))
  have c2:=iA hc cA l (k+1) l' h2 (fun x hx=>hR x (List.mem_append_right _ hx))
  refine⟨?_,fun x hx=> ?_⟩
  ·simp only[af]
   exact⟨v,l',rfl,c1.1,c2.1⟩
  ·rcases List.mem_append.1 hx with hx | hx
   ·exact c1.2 x hx
   ·exact c2.2 x hx
end
end Go.Proofs.YtngbcccnjiaddaaGreat.Vm
set_option linter.unusedVariables false
set_option linter.unusedSimpArgs false
namespace Go.Proofs.YtngbcccnjiaddaaGreat.Vm
section
variable {P:Program} {Γ:Ctx} {w0:World} {S:Own}
theorem eO {l:List Nat} (h:ea l=true):l.Nodup:=by
 induction l with
 | nil=>simp
 | cons i l ih=>
  simp only[ea,Bool.and_eq_true,Bool.not_eq_true'] at h
  rw[List.nodup_cons]
  refine⟨fun hm=> ?_,ih h.2⟩
  rw[fM.2 hm] at h
  simp at h
theorem CY {R:Rn} {j:Nat} {x:ai×Option Nat} (h:Aq R j=some x):(j,x)∈R:=by
 induction R with
 | nil=>simp [Aq] at h
 | cons y l ih=>
  obtain⟨i,z⟩:=y
  simp only[Aq] at h
  split at h
  ·rename_i hj
   injection h with h
   subst h hj
   exact List.mem_cons_self ..
  ·exact List.mem_cons_of_mem _ (ih h)
theorem EA {R:Rn} {x:Nat×ai×Option Nat} (hx:x∈R) (hn:(R.map (·.1)).Nodup):Aq R x.1=some x.2:=by
 induction R with
 | nil=>simp at hx
 | cons y l ih=>
  obtain⟨i,z⟩:=y
  simp only[List.map_cons,List.nodup_cons] at hn
  simp only[Aq]
  rcases List.mem_cons.1 hx with rfl | hx
  ·simp
  ·have:x.1≠i:=fun e=>hn.1 (e ▸ List.mem_map_of_mem hx)
   rw[if_neg this]
   exact ih hx hn.2
theorem Ez {R:Rn} {j:Nat} (h:j ∉ R.map (·.1)):Aq R j=none:=by
 induction R with
 | nil=>rfl
 | cons y l ih=>
  obtain⟨i,z⟩:=y
  simp only[List.map_cons,List.mem_cons,not_or] at h
  simp only[Aq]
  rw[if_neg h.1]
  exact ih h.2
theorem FF {R:Rn} (h:(dO R).Nodup) {x y:Nat×ai×Option Nat} {id:Nat} (hx:x∈R) (hy:y∈R) (h1:x.2.2=some id) (h2:y.2.2=some id):x=y:=by
 have mem:∀(R:Rn) (z:Nat×ai×Option Nat),z∈R→z.2.2=some id→id∈dO R:=by
  intro R
  induction R with
  | nil=>simp
  | cons u l ih=>
   obtain⟨i,o,lk⟩:=u
   intro z hz Kj
   rcases List.mem_cons.1 hz with rfl | Iy
   ·simp only at Kj
    subst Kj
    simp [dO]
   ·have:=ih z Iy Kj
    cases lk with
    | none=>simpa [dO] using this
    | some k=>simp [dO,this]
 induction R with
 | nil=>simp at hx
 | cons u l ih=>
  obtain⟨i,o,lk⟩:=u
  cases lk with
  | none=>
   simp only[dO] at h
   rcases List.mem_cons.1 hx with rfl | hx
   ·cases h1
   ·rcases List.mem_cons.1 hy with rfl | hy
    ·cases h2
    ·exact ih h hx hy
  | some k=>
   simp only[dO,List.nodup_cons] at h
   rcases List.mem_cons.1 hx with rfl | hx
   ·simp only[Option.some.injEq] at h1
    rcases List.mem_cons.1 hy with rfl | hy
    ·rfl
    ·exact absurd (h1 ▸ mem l y hy h2) h.1
   ·rcases List.mem_cons.1 hy with rfl | hy
    ·simp only[Option.some.injEq] at h2
     exact absurd (h2 ▸ mem l x hx h1) h.1
    ·exact ih h.2 hx hy
theorem gB {st:St} {i:Nat} :∀(l:List (Nat×CK)),iO (aQ P st l).1 i= .eY∨
  ∃ck,iO (aQ P st l).1 i=(ar P st.hp ck (ag (10000+i) 0) (st.get i)).1∧∀x∈(ar P st.hp ck (ag (10000+i) 0) (st.get i)).2,x∈(aQ P st l).2
 | []=> .inl rfl
 | (k,ck)::l=>by
  simp only[aQ,iO]
  cases hk:Nat.beq k i
  ·simp only[cond_false]
   rcases gB l with h | ⟨La,h1,h2⟩
   ·exact .inl h
   ·exact .inr ⟨La,h1,fun x hx=>List.mem_append_right _ (h2 x hx)⟩
  ·have:=Nat.eq_of_beq_eq_true hk
   subst this
   simp only[cond_true]
   exact .inr ⟨ck,rfl,fun x hx=>List.mem_append_left _ hx⟩
theorem gA {st:St} {x:Nat×ai×Option Nat} :∀(l:List (Nat×CK)),x∈(aQ P st l).2→∃i ck,x∈(ar P st.hp ck (ag (10000+i) 0) (st.get i)).2
 | [],h=>by simp [aQ] at h
 | (k,ck)::l,h=>by
  simp only[aQ] at h
  rcases List.mem_append.1 h with h | h
  ·exact⟨k,ck,h⟩
  ·exact gA l h
theorem dk {hp:List (Nat×ai)} {j:Nat} {o:ai} :∀(l:List (Nat×List (Nat×CK))),(j,o)∈(aE P hp l).1→
  ∃lC t cells,de hp j=some (.box t cells)∧o= .box t (br P hp lC j 0 cells).1∧∀x∈(br P hp lC j 0 cells).2,x∈(aE P hp l).2
 | [],h=>by simp [aE] at h
 | (b,lC)::l,h=>by
  simp only[aE] at h ⊢
  split at h
  ·rename_i t cells hb
   simp only at h ⊢
   rcases List.mem_cons.1 h with h | h
   ·simp only[Prod.mk.injEq] at h
    obtain⟨rfl,rfl⟩:=h
    refine⟨lC,t,cells,hb,rfl,fun x hx=> ?_⟩
    exact List.mem_append_left _ hx
   ·obtain⟨Jj,t',d6,h1,h2,h3⟩:=dk l h
    exact⟨Jj,t',d6,h1,h2,fun x hx=>List.mem_append_right _ (h3 x hx)⟩
  ·rename_i hb
   exact dk l h
theorem eG {hp:List (Nat×ai)} {x:Nat×ai×Option Nat} :∀(l:List (Nat×List (Nat×CK))),x∈(aE P hp l).2→
  ∃lC j t cells,de hp j=some (.box t cells)∧x∈(br P hp lC j 0 cells).2
 | [],h=>by simp [aE] at h
 | (b,lC)::l,h=>by
  simp only[aE] at h
  split at h
  ·rename_i t cells hb
   simp only at h
   rcases List.mem_append.1 h with h | h
   ·exact⟨lC,b,t,cells,hb,h⟩
   ·exact eG l h
  ·exact eG l h
theorem iz {hp:List (Nat×ai)} {ck:CK} {nid:Nat} {s:SV} :∀x∈(ar P hp ck nid s).2,AM (de hp) x:=by
 intro x hx
 cases s with
 | own id=>
  simp only[ar] at hx
  cases hl:de hp id with
  | none=>simp [hl] at hx
  | some o=>
   cases o with
   | box=>simp [hl] at hx
   | dQ=>simp [hl] at hx
   | deep t e ts r jH=>
    cases jH with
    | some q=>simp [hl] at hx
    | none=>
    simp only[hl] at hx
    cases ck with
    | dQ=>simp at hx
    | mh=>
     rw[List.mem_singleton] at hx
     subst hx
     exact .inl ⟨id,.inr ⟨t,e,ts,r,rfl⟩,rfl,hl⟩
    | own=>
     rw[List.mem_singleton] at hx
     subst hx
     exact .inl ⟨id,.inr ⟨t,e,ts,r,rfl⟩,rfl,hl⟩
    | deep=>
     rw[List.mem_singleton] at hx
     subst hx
     exact .inl ⟨id,.inr ⟨t,e,ts,r,rfl⟩,rfl,hl⟩
   | row t e r fz u=>
    simp only[hl] at hx
    cases ck with
    | dQ=>simp at hx
    | mh=>
     rw[List.mem_singleton] at hx
     subst hx
     exact .inl ⟨id,.inl ⟨t,e,r,fz,u,rfl⟩,rfl,hl⟩
    | own=>
     rw[List.mem_singleton] at hx
     subst hx
     exact .inl ⟨id,.inl ⟨t,e,r,fz,u,rfl⟩,rfl,hl⟩
    | deep=>
     rw[List.mem_singleton] at hx
     subst hx
     exact .inl ⟨id,.inl ⟨t,e,r,fz,u,rfl⟩,rfl,hl⟩
 | nil=>
  simp only[ar] at hx
  cases ck with
  | mh=>simp at hx
  | dQ t=>
   simp only at hx
   split at hx<;>simp at hx
  | own t=>
   simp only at hx
   split at hx
   ·rename_i e he
    rw[List.mem_singleton] at hx
    subst hx
    exact .inr ⟨.inl ⟨t,e,rfl⟩,rfl⟩
   ·simp at hx
  | deep t ts=>
   simp only at hx
   split at hx
   ·rename_i e he
    rw[List.mem_singleton] at hx
    subst hx
    exact .inr ⟨.inr ⟨t,e,ts,rfl⟩,rfl⟩
   ·simp at hx
 | kb=>simp [ar] at hx
 | agg=>simp [ar] at hx
 | C9=>simp [ar] at hx
 | dL=>simp [ar] at hx
 | ptr=>simp [ar] at hx
 | eY=>simp [ar] at hx
 | undef=>simp [ar] at hx
 | int=>simp [ar] at hx
 | bool=>simp [ar] at hx
 | str=>simp [ar] at hx
 | sl=>simp [ar] at hx
 | gu=>simp [ar] at hx
 | Ge=>simp [ar] at hx
 | E8 g cs=>
  simp only[ar] at hx
  cases hp:jJ cs<;>simp [hp] at hx
theorem gz {hp:List (Nat×ai)} {lC:List (Nat×CK)} {b:Nat} :∀(l:List SV) (k:Nat),∀x∈(br P hp lC b k l).2,AM (de hp) x
 | [],_,x,hx=>by simp [br] at hx
 | s::l,k,x,hx=>by
  simp only[br] at hx
  rcases List.mem_append.1 hx with hx | hx
  ·exact iz x hx
  ·exact gz l (k+1) x hx
def Ht (h:Nat→Option ai) (R:Rn) (β:Env) (φ:Nat→List Nat) (j:Nat) (o:ai):Prop:=
 (Aq R j=none∧∃t cells,h j=some (.box t cells)∧∃d6,o= .box t d6)∨
 (∃id,Aq R j=some (o,some id)∧h id=some o∧fa o)∨
 (Aq R j=some (o,none)∧AL o)
theorem fa.ET {o:ai} (ho:fa o) {β:Env} {R:Rn} {j id:Nat} {o':ai} (h1:Aq R j=some (o',some id)):ao (β.ix R) j o=ao β id o:=by
 rcases ho with ⟨t,e,r,fz,u,rfl⟩ | ⟨t,e,ts,r,rfl⟩<;>simp [ao,Env.ix,h1]
theorem fa.FE {o:ai} (ho:fa o) {w:World} {av av':Nat→Prop} {β:Env} {R:Rn} {j id:Nat} {o':ai} {φ:List Nat} (h1:Aq R j=some (o',some id)) (cA:∀b,av' b→av b) (h:fA w av β id o φ):fA w av' (β.ix R) j o φ:=by
 have hval:(β.ix R).val j=β.val id:=by simp [Env.ix,h1]
 have kO:(β.ix R).nb j=β.nb id:=by simp [Env.ix,h1]
 rcases ho with ⟨t,e,r,fz,u,rfl⟩ | ⟨t,e,ts,r,rfl⟩
 ·obtain⟨vals,az,g1,g2,g3,g4⟩:=h
  exact⟨vals,az,by rw[hval];exact g1,g2,fun b hb hx=>g3 b hb (cA b hx),by rw[hval];exact g4⟩
 ·obtain⟨vals,aN,g1,g2,g3,g4⟩:=h
  exact⟨vals,aN,by rw[hval];exact g1,g2,by rw[kO];exact g3,by rw[hval];exact g4⟩
theorem fa.Ck {o:ai} (ho:fa o) {t:TypeId} {cs:List SV} (h:o= .box t cs):False:=by
 rcases ho with ⟨_,_,_,_,_,rfl⟩ | ⟨_,_,_,_,rfl⟩<;>cases h
theorem BR {f f':Nat→SV} {h h':Nat→Option ai} {β:Env} {φ:Nat→List Nat} {tm:Array Value} {w:World} (hc:Core w0 S f h β φ tm w) {R:Rn} (hold:(dO R).Nodup)
  (bs:∀j o,h' j=some o→Ht h R β φ j o)
  (cA:(∀b,Av h' (β.ix R) b→Av h β b)→(∀i,ak w (Av h' (β.ix R)) (β.ix R) (f' i) (tm.getD i undef))∧
   ∀j t cells d6,h' j=some (.box t d6)→h j=some (.box t cells)→∀vs,af w (Av h β) β cells vs→af w (Av h' (β.ix R)) (β.ix R) d6 vs):
  Core w0 S f' h' (β.ix R) (iC φ R) tm w:=by
 have hA:∀b,Av h' (β.ix R) b→Av h β b:=by
  rintro b (⟨j,o,hj,hb⟩ | hb)
  ·rcases bs j o hj with ⟨h1,t,cells,h2,d6,rfl⟩ | ⟨id,h1,h2,ho⟩ | ⟨h1,he⟩
   ·exact .inl ⟨j,_,h2,by simpa [ao,Env.ix] using hb⟩
   ·refine .inl ⟨id,_,h2, ?_⟩
    rw[ho.ET h1] at hb
    exact hb
   ·rcases he with ⟨t,e,rfl⟩ | ⟨t,e,ts,rfl⟩<;>simp [ao,Env.ix,h1,Value.ownBlock] at hb
  ·exact .inr hb
 obtain⟨jW,jR⟩:=cA hA
 refine⟨jW,fun j o hj=> ?_,fun j o hj=> ?_,fun i j oi oj cm hi hj b hb=> ?_,hc.gr,hc.bars⟩
 ·rcases bs j o hj with ⟨h1,t,cells,h2,d6,rfl⟩ | ⟨id,h1,h2,ho⟩ | ⟨h1,he⟩
  ·obtain⟨vs,g1,g2,g3,g4⟩:=hc.aB j _ h2
   refine⟨vs,g1,jR j t cells d6 hj h2 vs g2,g3, ?_⟩
   simp only[iC,h1]
   exact g4
  ·simp only[iC,h1]
   exact ho.FE h1 hA (hc.aB id _ h2)
  ·have hval:(β.ix R).val j= .slice none 0 0:=by simp [Env.ix,h1]
   have kO:(β.ix R).nb j=[]:=by simp [Env.ix,h1]
   rcases he with ⟨t,e,rfl⟩ | ⟨t,e,ts,rfl⟩
   ·refine⟨[],[],⟨by simp,.inl ⟨hval,rfl,rfl⟩⟩,⟨rfl,by simp⟩,by simp, ?_⟩
    simp [iC,h1,hval,Value.ownBlock]
   ·refine⟨[],[],⟨by simp,.inl ⟨hval,rfl,rfl⟩⟩,⟨rfl,by simp⟩,by rw[kO];rfl, ?_⟩
    simp [iC,h1,hval,Value.ownBlock]
 ·rcases bs j o hj with ⟨h1,t,cells,h2,d6,rfl⟩ | ⟨id,h1,h2,ho⟩ | ⟨h1,he⟩
  ·simp only[iC,h1];exact hc.fresh j _ h2
  ·simp only[iC,h1];exact hc.fresh id _ h2
  ·simp [iC,h1]
 ·rcases bs i oi hi with ⟨h1,t,cells,h2,d6,rfl⟩ | ⟨id,h1,h2,ho⟩ | ⟨h1,he⟩<;>
   rcases bs j oj hj with ⟨k1,t',Gn,k2,IQ,rfl⟩ | ⟨KP,k1,k2,eW⟩ | ⟨k1,IZ⟩<;>
   simp only[iC,h1,k1] at hb ⊢
  ·exact hc.sep i j _ _ cm h2 k2 b hb
  ·refine hc.sep i KP _ _ (fun e=> ?_) h2 k2 b hb
   rw[e,k2,Option.some.injEq] at h2
   exact eW.Ck h2
  ·simp
  ·refine hc.sep id j _ _ (fun e'=> ?_) h2 k2 b hb
   rw[e',k2,Option.some.injEq] at h2
   exact ho.Ck h2.symm
  ·refine hc.sep id KP _ _ (fun e'=> ?_) h2 k2 b hb
   subst e'
   have:=FF hold (CY h1) (CY k1) rfl rfl
   simp only[Prod.mk.injEq] at this
   exact cm this.1
  ·simp
  ·simp at hb
  ·simp at hb
  ·simp at hb
theorem BQ {an:kW} {st:St} {a:Act} {w:World} (hR:Rel w0 S st a w) (aF:(jM P an st).ok=true):Rel w0 S (jM P an st) a w∧st.ok=true:=by
 unfold jM at aF ⊢
 simp only at aF ⊢
 cases hnd:ea (dO ((aQ P st an.bN).2++(aE P st.hp an.boxes).2)) &&
   ea ((aE P st.hp an.boxes).1.map (·.1)++((aQ P st an.bN).2++(aE P st.hp an.boxes).2).map (·.1))
 ·rw[hnd] at aF
  simp [aY] at aF
 rw[hnd] at aF
 simp only[cond_true] at aF ⊢
 refine⟨?_,aF⟩
 simp only[Bool.and_eq_true] at hnd
 obtain⟨β,φ,hc⟩:=hR.core
 have hold:=eO hnd.1
 have FZ:=eO hnd.2
 rw[List.nodup_append] at FZ
 obtain⟨L8,LA,GF⟩:=FZ
 have jk:∀x∈(aQ P st an.bN).2,x∈(aQ P st an.bN).2++(aE P st.hp an.boxes).2:=fun x hx=>List.mem_append_left _ hx
 have mK:∀x∈(aE P st.hp an.boxes).2,x∈(aQ P st an.bN).2++(aE P st.hp an.boxes).2:=fun x hx=>List.mem_append_right _ hx
 have FW:∀x∈(aQ P st an.bN).2++(aE P st.hp an.boxes).2,AM (de st.hp) x:=by
  intro x hx
  rcases List.mem_append.1 hx with hx | hx
  ·obtain⟨i,ck,h1⟩:=gA _ hx
   exact iz x h1
  ·obtain⟨lC,j,t,cells,h1,h2⟩:=eG _ hx
   exact gz cells 0 x h2
 generalize (aQ P st an.bN).2++(aE P st.hp an.boxes).2=R at*
 have iW:∀x∈R,Aq R x.1=some x.2:=fun x hx=>EA hx LA
 have gG:Core w0 S st.get (de st.hp) β φ a.tmps w:=hc
 refine⟨hR.size,hR.fx,hR.defers,hR.kept,β.ix R,iC φ R, ?_⟩
 have jU:∀j o,de ((aE P st.hp an.boxes).1++R.map (fun x=>(x.1,x.2.1))) j=some o→(j,o)∈(aE P st.hp an.boxes).1∨∃lk,(j,o,lk)∈R:=by
  intro j o hj
  rcases List.mem_append.1 (CX hj) with h1 | h1
  ·exact .inl h1
  ·obtain⟨x,hx,he⟩:=List.mem_map.1 h1
   obtain⟨k,o',lk⟩:=x
   simp only[Prod.mk.injEq] at he
   obtain⟨rfl,rfl⟩:=he
   exact .inr ⟨lk,hx⟩
 refine BR gG hold (fun j o hj=> ?_) (fun hA=>⟨fun i=> ?_,fun j t cells d6 hj hh vs LU=> ?_⟩)
 ·rcases jU j o hj with h1 | ⟨lk,h1⟩
  ·obtain⟨lC,t,cells,h2,h3,_⟩:=dk _ h1
   refine .inl ⟨Ez (fun hm=>GF j (List.mem_map_of_mem (f:=(·.1)) h1) j hm rfl),t,cells,h2,_,h3⟩
  ·rcases FW _ h1 with ⟨id,g1,g2,g3⟩ | ⟨g1,g2⟩
   ·simp only at g1 g2 g3
    subst g2
    exact .inr (.inl ⟨id,iW _ h1,g3,g1⟩)
   ·simp only at g1 g2
    subst g2
    exact .inr (.inr ⟨iW _ h1,g1⟩)
 ·show ak w _ _ (iO (aQ P st an.bN).1 i) _
  rcases gB (P:=P) (st:=st) (i:=i) an.bN with h1 | ⟨ck,h1,h2⟩
  ·rw[h1];simp [ak]
  ·rw[h1]
   exact (i9 gG (hc.bN i) hA (fun x hx=>iW x (jk x (h2 x hx)))).1
 ·rcases jU j _ hj with h1 | ⟨lk,h1⟩
  ·obtain⟨lC,t',Gn,h2,h3,h4⟩:=dk _ h1
   rw[hh] at h2
   simp only[Option.some.injEq,ai.box.injEq] at h2
   obtain⟨rfl,rfl⟩:=h2
   simp only[ai.box.injEq,true_and] at h3
   rw[h3]
   exact (iA gG hA cells 0 vs LU (fun x hx=>iW x (mK x (h4 x hx)))).1
  ·rcases FW _ h1 with ⟨id,g1,g2,g3⟩ | ⟨g1,g2⟩
   ·exact (g1.Ck rfl).elim
   ·rcases g1 with ⟨_,_,g1⟩ | ⟨_,_,_,g1⟩<;>cases g1
theorem C4 (st:St):st.Dk.ok=st.ok:=by
 unfold St.Dk
 split
 ·split
  ·split
   ·rename_i r _ _
    generalize (Nat.beq _ _ && _ && _ && _ && _:Bool)=c
    cases c<;>rfl
   ·rfl
  ·rfl
 ·rfl
theorem EJ {st:St} {a:Act} {w:World} (hR:Rel w0 S st a w):Rel w0 S st.Dk a w:=by
 unfold St.Dk
 split
 ·rename_i id hh
  split
  ·rename_i t e t1 rows i nid aM
   split
   ·rename_i t2 e2 r u hn
    cases hb:Nat.beq t2 t1 && He e e2 && Nat.beq (aV e) 1 && !(Nat.beq nid id) && al e2
    ·exact hR
    ·simp only[cond_true]
     simp only[Bool.and_eq_true,Bool.not_eq_true'] at hb
     obtain⟨⟨⟨⟨b1,b2⟩,b3⟩,b4⟩,b5⟩:=hb
     have b1:=Nat.eq_of_beq_eq_true b1
     subst b1
     have jW:∃e',e[dG e]? =some (.sl e')∧e'=e2:=by
      unfold He at b2
      split at b2
      ·rename_i e' he
       exact⟨e',he,aG _ _ b2⟩
      ·cases b2
     have cm:nid≠id:=Nat.ne_of_beq_eq_false b4
     obtain⟨β,φ,hc⟩:=hR.core
     obtain⟨β',φ',gG⟩:=Dl hc (h':=de (j5 [(id,some (.deep t e [t2] (rows.set i (bF (rows.getD i []) (dG e) [.sl r])) none)),(nid,none)] st.hp)) aM hn jW (Nat.eq_of_beq_eq_true b3) cm b5
      (by rw[gR];simp [fo,ay]) (fun j hj=>by rw[gR];simp [fo,ay,hj];rfl)
     exact⟨hR.size,hR.fx,hR.defers,hR.kept,β',φ',gG⟩
   ·exact hR
  ·exact hR
 ·exact hR
theorem fG (st:St):∀(l:List (Nat×CK)),bP st.obj (cP st l)∧aI (cP st l)=true
 | []=>⟨by simp [cP,bP],rfl⟩
 | (i,.mh)::l=>fG st l
 | (i,.own _)::l=>fG st l
 | (i,.deep _ _)::l=>fG st l
 | (i,.dQ _)::l=>by
  have ih:=fG st l
  simp only[cP]
  split
  ·rename_i id hg
   split
   ·rename_i t e r fz u aM
    cases hm:bK id (cP st l)
    ·exact ih
    ·refine⟨fun x hx=> ?_,by simp only[cond_true,aI,hm,ih.2,Bool.and_self]⟩
     simp only[cond_true] at hx
     rcases List.mem_cons.1 hx with rfl | hx
     ·exact⟨_,aM,.inl ⟨t,fz,rfl⟩⟩
     ·exact ih.1 x hx
   ·exact ih
  ·exact ih
theorem Fa {an:kW} {st:St} {a:Act} {w:World} (hR:Rel w0 S st a w):Rel w0 S (st.Jl an) a w:=by
 obtain⟨β,φ,hc⟩:=hR.core
 obtain⟨h1,h2⟩:=fG st an.bN
 refine⟨hR.size,hR.fx,hR.defers,hR.kept,β,bf φ (cP st an.bN), ?_⟩
 have:=hc.fW _ h1 h2
 show Core w0 S st.get (de (j5 (ah (cP st an.bN)) st.hp)) _ _ _ _
 rw[gR]
 exact this
theorem mB {an:kW} {st:St} {a:Act} {w:World} (hR:Rel w0 S st a w) (aF:(canon P an st).ok=true):Rel w0 S (canon P an st) a w∧st.ok=true:=by
 have:=BQ (Fa (an:=an) (EJ hR)) aF
 have h2:=this.2
 simp only[St.Jl] at h2
 rw[C4] at h2
 exact⟨this.1,h2⟩
end
end Go.Proofs.YtngbcccnjiaddaaGreat.Vm
namespace Go.Proofs.YtngbcccnjiaddaaGreat.Vm
section
variable {P:Program} {Γ:Ctx} {w0:World} {S:Own} {A:List (Nat×kW)} {N:Nat} {r:List DC}
structure Ks (K:m0) (r:List DC):Prop where
 d5:∀st,K.d5 st=(true,r)→st.ok=true
 ext:∀i st,K.ext i st=(true,r)→st.ok=true
 ret:∀st,K.ret st=(true,r)→st.ok=true
theorem C_ {an:kW} {st:St} (h:(jM P an st).ok=true):st.ok=true:=by
 unfold jM at h
 simp only at h
 cases hnd:ea (dO ((aQ P st an.bN).2++(aE P st.hp an.boxes).2)) &&
   ea ((aE P st.hp an.boxes).1.map (·.1)++((aQ P st an.bN).2++(aE P st.hp an.boxes).2).map (·.1))
 ·rw[hnd] at h
  simp [aY] at h
 ·rw[hnd] at h
  exact h
theorem i_ {an:kW} {st:St} (h:(canon P an st).ok=true):st.ok=true:=by
 have:=C_ h
 have h2:st.Dk.ok=true:=this
 rwa [C4] at h2
theorem bu:jK≠(true,r):=by simp [jK]
theorem As {st:St} {c:Operand} {x y:Code} {g:Bool} (h:(merge st g (exec P Γ x (st.reset.cN c true)) (exec P Γ y (st.reset.cN c false))).ok=true):st.ok=true:=by
 have lf:=cF h
 cases g with
 | true=>have:=(dB x _ (lf.1 rfl)).ok;rwa [dW] at this
 | false=>have:=(dB y _ (lf.2 rfl)).ok;rwa [dW] at this
def kr (P:Program) (Γ:Ctx) (A:List (Nat×kW)) (N:Nat) (x:Code) (an:kW) (K:m0) (n:Nat):St→ke:=
 Nat.rec (motive:=fun _=>St→ke) (fun _=>jK) (fun _ ih s=>run P Γ A N x s {d5:=fun s'=>ih (canon P an s'),ext:=K.ext,ret:=K.ret}) n
theorem iP {x:Code} {an:kW} {K:m0} {n:Nat} {s:St} :kr P Γ A N x an K (n+1) s=run P Γ A N x s {d5:=fun s'=>kr P Γ A N x an K n (canon P an s'),ext:=K.ext,ret:=K.ret} :=rfl
theorem ft:∀(c:Code) (st:St) (K:m0),Ks K r→run P Γ A N c st K=(true,r)→st.ok=true
 | .skip,st,K,hK,h=>hK.d5 st (by simpa only[run] using h)
 | .region id ops draw,st,K,hK,h=>by
  simp only[run] at h
  exact (mY (hK.d5 _ (CN h))).ok
 | .seq x y,st,K,hK,h=>by
  simp only[run] at h
  exact ft x st {d5:=fun s=>run P Γ A N y s K,ext:=K.ext,ret:=K.ret} ⟨fun s hs=>ft y s K hK hs,hK.ext,hK.ret⟩ h
 | .cond c x y,st,K,hK,h=>by
  simp only[run] at h
  split at h
  ·rename_i t mI
   cases t with
   | true=>exact ft x st K hK h
   | false=>exact ft y st K hK h
  ·rename_i g mI
   cases hm:simple x && simple y && jY st g (exec P Γ x (st.reset.cN c true)) (exec P Γ y (st.reset.cN c false))
   ·rw[hm] at h
    simp only[cond_false] at h
    cases g with
    | true=>
     have:=ft x _ K hK h
     rwa [dW] at this
    | false=>
     have:=ft y _ K hK h
     rwa [dW] at this
   ·rw[hm] at h
    simp only[cond_true] at h
    exact As (hK.d5 _ (CN h))
  ·exact absurd h bu
 | .block id x,st,K,hK,h=>by
  simp only[run] at h
  refine ft x st {d5:=K.d5,ext:=fun i s=>bif Nat.beq i id then K.d5 s else K.ext i s,ret:=K.ret} ⟨hK.d5,fun i s hs=> ?_,hK.ret⟩ h
  simp only at hs
  cases hb:Nat.beq i id
  ·rw[hb] at hs;exact hK.ext i s hs
  ·rw[hb] at hs;exact hK.d5 s hs
 | .loop x,st,K,hK,h=>by
  simp only[run] at h
  split at h
  ·rename_i an Li
   have key:∀n s,kr P Γ A N x an K n s=(true,r)→s.ok=true:=by
    intro n
    induction n with
    | zero=>intro s hs;exact absurd hs bu
    | succ n ih=>
     intro s hs
     rw[iP] at hs
     exact ft x s {d5:=fun s'=>kr P Γ A N x an K n (canon P an s'),ext:=K.ext,ret:=K.ret} ⟨fun s' A9=>i_ (ih _ A9),hK.ext,hK.ret⟩ hs
   exact i_ (key N _ h)
  ·exact absurd h bu
 | .exit id,st,K,hK,h=>hK.ext id st (by simpa only[run] using h)
 | .ret,st,K,hK,h=>hK.ret st (by simpa only[run] using h)
 | .rangeFunc ..,st,_,_,h=>by simp only[run] at h;exact absurd h bu
 | .scope ..,st,_,_,h=>by simp only[run] at h;exact absurd h bu
 | .goto ..,st,_,_,h=>by simp only[run] at h;exact absurd h bu
 | .label ..,st,_,_,h=>by simp only[run] at h;exact absurd h bu
 | .refuse ..,st,_,_,h=>by simp only[run] at h;exact absurd h bu
structure KQ (w0:World) (S:Own) (K:m0) (r:List DC) (Q:Exit→Act→World→Prop):Prop where
 d5:∀st a w,Rel w0 S st a w→K.d5 st=(true,r)→Q .normal a w
 ext:∀i st a w,Rel w0 S st a w→K.ext i st=(true,r)→Q (.exit i) a w
 ret:∀st a w,Rel w0 S st a w→K.ret st=(true,r)→Q .ret a w
theorem cz (d_:bt P Γ):∀(c:Code) (st:St) (K:m0) (a:Act) (w:World) (Q:Exit→Act→World→Prop),Ks K r→Rel w0 S st a w→run P Γ A N c st K=(true,r)→KQ w0 S K r Q→c.wp P Q a w
 | .skip,st,K,a,w,Q,hK,hR,h,hQ=>wp_skip (hQ.d5 st a w hR (by simpa only[run] using h))
 | .region id ops draw,st,K,a,w,Q,hK,hR,h,hQ=>by
  simp only[run] at h
  have h:=CN h
  exact jx d_ hR (hK.d5 _ h) (fun a' w' d7=>hQ.d5 _ a' w' d7 h)
 | .seq x y,st,K,a,w,Q,hK,hR,h,hQ=>by
  simp only[run] at h
  refine wp_seq (cz d_ x st {d5:=fun s=>run P Γ A N y s K,ext:=K.ext,ret:=K.ret} a w _ ⟨fun s hs=>ft y s K hK hs,hK.ext,hK.ret⟩ hR h ⟨fun s a' w' d7 hs=> ?_,fun i s a' w' d7 hs=> ?_,fun s a' w' d7 hs=> ?_⟩)
  ·exact cz d_ y s K a' w' Q hK d7 hs hQ
  ·exact hQ.ext i s a' w' d7 hs
  ·exact hQ.ret s a' w' d7 hs
 | .cond c x y,st,K,a,w,Q,hK,hR,h,hQ=>by
  simp only[run] at h
  split at h
  ·rename_i t mI
   refine wp_cond (FQ hR mI) ?_
   cases t with
   | true=>exact cz d_ x st K a w Q hK hR h hQ
   | false=>exact cz d_ y st K a w Q hK hR h hQ
  ·rename_i g mI
   have hb:=CJ hR mI
   cases hm:simple x && simple y && jY st g (exec P Γ x (st.reset.cN c true)) (exec P Γ y (st.reset.cN c false))
   ·rw[hm] at h
    simp only[cond_false] at h
    refine wp_cond hb ?_
    cases g with
    | true=>exact cz d_ x _ K a w Q hK (ic hR hb) h hQ
    | false=>exact cz d_ y _ K a w Q hK (ic hR hb) h hQ
   ·rw[hm] at h
    simp only[cond_true] at h
    have h:=CN h
    have aF:=hK.d5 _ h
    have he:exec P Γ (.cond c x y) st=merge st g (exec P Γ x (st.reset.cN c true)) (exec P Γ y (st.reset.cN c false)):=by
     simp only[exec,mI]
    exact fV d_ (.cond c x y) st a w Q hR (by rw[he];exact aF) (fun a' w' d7=>hQ.d5 _ a' w' d7 (by rw[he];exact h))
  ·exact absurd h bu
 | .block id x,st,K,a,w,Q,hK,hR,h,hQ=>by
  simp only[run] at h
  refine wp_block (cz d_ x st {d5:=K.d5,ext:=fun i s=>bif Nat.beq i id then K.d5 s else K.ext i s,ret:=K.ret} a w _ ⟨hK.d5,fun i s hs=> ?_,hK.ret⟩ hR h ⟨fun s a' w' d7 hs=>hQ.d5 s a' w' d7 hs,fun i s a' w' d7 hs=> ?_,fun s a' w' d7 hs=>hQ.ret s a' w' d7 hs⟩)
  ·simp only at hs
   cases hb:Nat.beq i id
   ·rw[hb] at hs;exact hK.ext i s hs
   ·rw[hb] at hs;exact hK.d5 s hs
  ·simp only at hs
   simp only[Exit.inBlock]
   cases hb:Nat.beq i id
   ·rw[hb] at hs
    rw[if_neg (Nat.ne_of_beq_eq_false hb)]
    exact hQ.ext i s a' w' d7 hs
   ·rw[hb] at hs
    rw[if_pos (Nat.eq_of_beq_eq_true hb)]
    exact hQ.d5 s a' w' d7 hs
 | .loop x,st,K,a,w,Q,hK,hR,h,hQ=>by
  simp only[run] at h
  split at h
  ·rename_i an Li
   have GX:∀n s,kr P Γ A N x an K n s=(true,r)→s.ok=true:=by
    intro n
    induction n with
    | zero=>intro s hs;exact absurd hs bu
    | succ n ih=>
     intro s hs
     rw[iP] at hs
     exact ft x s {d5:=fun s'=>kr P Γ A N x an K n (canon P an s'),ext:=K.ext,ret:=K.ret} ⟨fun s' A9=>i_ (ih _ A9),hK.ext,hK.ret⟩ hs
   have key:∀n s a w,Rel w0 S s a w→kr P Γ A N x an K n s=(true,r)→Code.rounds P x Q n a w:=by
    intro n
    induction n with
    | zero=>intro s a w _ hs;exact absurd hs bu
    | succ n ih=>
     intro s a w hR hs
     rw[iP] at hs
     rw[rounds_succ]
     refine cz d_ x s {d5:=fun s'=>kr P Γ A N x an K n (canon P an s'),ext:=K.ext,ret:=K.ret} a w _ ⟨fun s' A9=>i_ (GX _ _ A9),hK.ext,hK.ret⟩ hR hs ⟨fun s' a' w' d7 A9=> ?_,fun i s' a' w' d7 A9=> ?_,fun s' a' w' d7 A9=> ?_⟩
     ·exact ih _ a' w' (mB d7 (GX _ _ A9)).1 A9
     ·exact hQ.ext i s' a' w' d7 A9
     ·exact hQ.ret s' a' w' d7 A9
   exact wp_loop_rounds N (key N _ a w (mB hR (GX _ _ h)).1 h)
  ·exact absurd h bu
 | .exit id,st,K,a,w,Q,hK,hR,h,hQ=>wp_exit (hQ.ext id st a w hR (by simpa only[run] using h))
 | .ret,st,K,a,w,Q,hK,hR,h,hQ=>wp_ret (hQ.ret st a w hR (by simpa only[run] using h))
 | .rangeFunc ..,st,_,_,_,_,_,_,h,_=>by simp only[run] at h;exact absurd h bu
 | .scope ..,st,_,_,_,_,_,_,h,_=>by simp only[run] at h;exact absurd h bu
 | .goto ..,st,_,_,_,_,_,_,h,_=>by simp only[run] at h;exact absurd h bu
 | .label ..,st,_,_,_,_,_,_,h,_=>by simp only[run] at h;exact absurd h bu
 | .refuse ..,st,_,_,_,_,_,_,h,_=>by simp only[run] at h;exact absurd h bu
end
end Go.Proofs.YtngbcccnjiaddaaGreat.Vm
namespace Go.Proofs.YtngbcccnjiaddaaGreat.Vm
section
variable {P:Program} {Γ:Ctx} {w0:World} {S:Own} {A:List (Nat×kW)} {N:Nat}
variable {f:Nat→SV} {h:Nat→Option ai} {β:Env} {φ:Nat→List Nat} {tm:Array Value} {w:World}
def lX (tmps:Array Value):ResultVar→Sem Value
 | .tmp t=>pure (tmps.getD t undef)
 | .cell a t=>do loadVar t (←asAddr (tmps.getD a undef))
theorem EE (hc:Core w0 S f h β φ tm w) {id off:Nat} {t:TypeId} {e:cB} (he:(lR P t (.ptr id off)).val f h=some e) {v:Value} (hv:v= .pointer (some ⟨β.di id,off,none⟩)):
  ∃u,(do loadVar t (←asAddr v):Sem Value).run P w= .ok u w∧ak w (Av h β) β e.sv u:=by
 have conv:∀u,(Instr.loadAt t v).run P w= .ok u w→(do loadVar t (←asAddr v):Sem Value).run P w= .ok u w:=by
  intro u hu
  subst hv
  exact hu
 unfold lR at he
 split at he
 case h_2=>simp at he
 rename_i td hu
 simp only[Cg,M.a7,Option.bind_eq_some_iff] at he
 obtain⟨ob,aM,he⟩:=he
 split at he
 ·rename_i t' cells
  cases ha:bh P t
  ·simp only[ha,cond_false] at he
   split at he
   ·rename_i s hs
    simp only[M.aa,Option.some.injEq] at he
    subst he
    obtain⟨vs,hh,hr,_,_⟩:=hc.aB id _ aM
    obtain⟨u,Cc,fY⟩:=af.get _ _ _ _ hr hs
    refine⟨u,conv u ?_,fY⟩
    rw[hv]
    exact dv ha hu (by rw[ja hh];exact Cc)
   ·simp at he
  ·simp only[ha,cond_true] at he
   split at he
   ·rename_i i hi
    cases hz:Nat.ble (off+i.size) cells.length
    ·simp [hz] at he
    ·simp only[hz,cond_true,M.aa,Option.some.injEq] at he
     subst he
     have hle:=Nat.le_of_ble_eq_true hz
     obtain⟨vs,hh,hr,bg,_⟩:=hc.aB id _ aM
     have hlen:=af.length _ _ hr
     refine⟨.agg ((vs.drop off).take i.size).toArray,conv _ ?_, ?_⟩
     ·rw[hv]
      refine eR (vs:=(vs.drop off).take i.size) ha hi (by simp;omega) (fun j v hj=> ?_)
      rw[ja hh]
      rw[List.getElem?_take] at hj
      split at hj
      ·simpa using hj
      ·cases hj
     ·simp only[ak]
      exact⟨_,rfl,af.take _ _ _ (af.drop _ _ _ hr),fun y hy=>bg y (List.mem_of_mem_drop (List.mem_of_mem_take hy))⟩
   ·simp at he
 ·simp at he
theorem ig (hc:Core w0 S f h β φ tm w):∀(l:List ResultVar) (ss:List SV),(gg P l).val f h=some ss→∃vs,(l.mapM (lX tm)).run P w= .ok vs w∧af w (Av h β) β ss vs
 | [],ss,hs=>by
  simp only[gg,M.aa,Option.some.injEq] at hs
  subst hs
  exact⟨[],by simp,by simp [af]⟩
 | .tmp t::l,ss,hs=>by
  simp only[gg,M.jG,M.ae,Option.bind_eq_some_iff,M.aa,Option.some.injEq] at hs
  obtain⟨r,hr,rfl⟩:=hs
  obtain⟨vs,h1,h2⟩:=ig hc l r hr
  refine⟨tm.getD t undef::vs, ?_, ?_⟩
  ·simp only[List.mapM_cons,lX,Sem.run_bind,Sem.run_pure,Result.andThen_ok,h1]
  ·simp only[af]
   exact⟨_,_,rfl,hc.bN t,h2⟩
 | .cell p t::l,ss,hs=>by
  simp only[gg,M.jG,M.ae,Option.bind_eq_some_iff,M.aa,Option.some.injEq] at hs
  obtain⟨e,he,r,hr,rfl⟩:=hs
  obtain⟨vs,h1,h2⟩:=ig hc l r hr
  have jW:=hc.bN p
  split at he
  ·rename_i id off hp
   rw[hp] at jW
   simp only[ak] at jW
   obtain⟨u,g1,g2⟩:=EE hc he jW
   refine⟨u::vs, ?_, ?_⟩
   ·simp only[List.mapM_cons,Sem.run_bind,Sem.run_pure]
    have:(lX tm (.cell p t)).run P w= .ok u w:=g1
    simp only[this,Result.andThen_ok,h1]
   ·simp only[af]
    exact⟨_,_,rfl,g2,h2⟩
  ·simp at he
theorem Cq {fn:Func} :results fn tm=(do let vs ←fn.results.mapM (lX tm);pure (if h:vs.size=1 then vs[0] else .tuple vs)):=by
 unfold results
 congr 1
theorem FG (l:List Value):(if h:l.toArray.size=1 then l.toArray[0] else .tuple l.toArray)=pack l:=by
 cases l with
 | nil=>rfl
 | cons x l=>
  cases l with
  | nil=>rfl
  | cons y l=>simp [pack]
theorem ky {fn:Func} {vs:List Value} (hr:(fn.results.toList.mapM (lX tm)).run P w= .ok vs w):(results fn tm).run P w= .ok (pack vs) w:=by
 rw[Cq,Array.mapM_eq_mapM_toList]
 simp only[Sem.run_bind,map_eq_pure_bind,Sem.run_pure,hr,Result.andThen_ok,bind_assoc,pure_bind]
 rw[FG]
theorem gD (hc:Core w0 S f h β φ tm w):∀(Co:List RC) (ss:List SV) (vs:List Value) (q:List DC×List Nat×List Nat),af w (Av h β) β ss vs→(dp Co ss).val f h=some q→
  ∃φ' im tp,cO w Co q.1 vs φ' im tp∧(∀b∈φ',∃i∈q.2.1,(∃o,h i=some o)∧b∈φ i)∧(∀b∈tp,∃i o,i∈q.2.1∧h i=some o∧b∈ao β i o)∧(q.2.1.Nodup→φ'.Nodup)∧
   (∀b∈im,¬Av h β b∨∃i∈q.2.2,(∃o,h i=some o)∧b∈φ i)
 | [],[],vs,q,hs,hq=>by
  simp only[dp,M.aa,Option.some.injEq] at hq
  subst hq
  simp only[af] at hs
  exact⟨[],[],[],⟨rfl,hs,rfl,rfl,rfl⟩,by simp,by simp,by simp,by simp⟩
 | [],_::_,vs,q,hs,hq=>by simp [dp] at hq
 | _::_,[],vs,q,hs,hq=>by simp [dp] at hq
 | rc::Co,s::ss,vs,q,hs,hq=>by
  simp only[af] at hs
  obtain⟨v,l,rfl,h1,h2⟩:=hs
  simp only[dp,M.ae,Option.bind_eq_some_iff,M.aa,Option.some.injEq] at hq
  obtain⟨q1,aK,q2,cZ,rfl⟩:=hq
  obtain⟨AG,mg,Dy,g1,g2,g3,g4,g5⟩:=gD hc Co ss l q2 h2 cZ
  cases rc with
  | dQ ct=>
   simp only[fe,M.ae,Option.bind_eq_some_iff,M.aa,Option.some.injEq] at aK
   obtain⟨p,hp,rfl⟩:=aK
   obtain⟨fp,r1,r2,_,r4,_⟩:=eA hc h1 hp
   refine⟨AG,fp++mg,Dy,⟨p.1,q2.1,v,l,fp,mg,rfl,rfl,r1,g1,rfl⟩, ?_, ?_, ?_, ?_⟩
   ·simpa using g2
   ·simpa using g3
   ·simpa using g4
   ·intro b hb
    rcases List.mem_append.1 hb with hb | hb
    ·rcases r4 b hb with h3 | ⟨x,hx,h3⟩
     ·exact .inl h3
     ·obtain⟨_,BM,_⟩:=r2 x hx
      exact .inr ⟨x.1,List.mem_append_left _ (List.mem_map_of_mem hx),⟨_,BM⟩,aj (hc.aB _ _ BM) b (by rw[eE BM] at h3;exact h3)⟩
    ·rcases g5 b hb with h3 | ⟨i,hi,h3⟩
     ·exact .inl h3
     ·exact .inr ⟨i,List.mem_append_right _ hi,h3⟩
  | own t e=>
   cases s with
   | nil=>
    simp only[fe,M.aa,Option.some.injEq] at aK
    subst aK
    simp only[ak] at h1
    subst h1
    refine⟨AG,mg,Dy,⟨[],q2.1,_,l,[],[],AG,Dy,rfl,rfl,⟨by simp,.inl ⟨rfl,rfl,rfl⟩⟩,⟨rfl,by simp⟩,g1,by simp [Value.ownBlock],by simp [Value.ownBlock]⟩, ?_, ?_, ?_, ?_⟩
    ·simpa using g2
    ·simpa using g3
    ·simpa using g4
    ·simpa using g5
   | own id=>
    simp only[fe,M.a7,Option.bind_eq_some_iff] at aK
    obtain⟨ob,aM,aK⟩:=aK
    split at aK
    ·rename_i t' e' r u
     cases aD:Nat.beq t t' && aC e e' && u
     ·simp [aD] at aK
     ·simp only[aD,cond_true,M.aa,Option.some.injEq] at aK
      subst aK
      simp only[Bool.and_eq_true] at aD
      obtain⟨⟨ht,he⟩,hu⟩:=aD
      have Ke:=Nat.eq_of_beq_eq_true ht
      have IZ:=aG _ _ he
      subst Ke IZ hu
      simp only[ak] at h1
      obtain⟨vals,az,o1,o2,o3,o4⟩:=hc.aB id _ aM
      rw[←h1.1] at o1
      simp only[cond_true] at o4
      rw[←h1.1] at o4
      refine⟨(v.ownBlock.toList++az.flatten)++AG,mg,v.ownBlock.toList++Dy,⟨r,q2.1,v,l,vals,az,AG,Dy,rfl,rfl,o1,o2,g1,rfl,rfl⟩, ?_, ?_, ?_, ?_⟩
      ·intro b hb
       rcases List.mem_append.1 hb with hb | hb
       ·exact⟨id,List.mem_append_left _ (List.mem_singleton.2 rfl),⟨_,aM⟩,by rw[o4];exact hb⟩
       ·obtain⟨i,hi,h3⟩:=g2 b hb
        exact⟨i,List.mem_append_right _ hi,h3⟩
      ·intro b hb
       rcases List.mem_append.1 hb with hb | hb
       ·exact⟨id,_,List.mem_append_left _ (List.mem_singleton.2 rfl),aM,by rw[h1.1] at hb;simpa [ao] using hb⟩
       ·obtain⟨i,o,hi,h3⟩:=g3 b hb
        exact⟨i,o,List.mem_append_right _ hi,h3⟩
      ·intro hnd
       simp only[List.singleton_append,List.nodup_cons] at hnd
       rw[List.nodup_append]
       refine⟨o4 ▸ (hc.fresh id _ aM).1,g4 hnd.2,fun b hb b' ax e=> ?_⟩
       subst e
       obtain⟨i,hi,⟨o,A3⟩,h3⟩:=g2 b ax
       have cm:id≠i:=fun e=>hnd.1 (e ▸ hi)
       exact hc.sep id i _ _ cm aM A3 b (o4 ▸ hb) h3
      ·simpa using g5
    ·simp at aK
   | _=>simp [fe] at aK
  | deep t e ts=>
   cases s with
   | nil=>
    simp only[fe,M.aa,Option.some.injEq] at aK
    subst aK
    simp only[ak] at h1
    subst h1
    refine⟨AG,mg,Dy,⟨[],q2.1,_,l,[],[],AG,Dy,rfl,rfl,⟨by simp,.inl ⟨rfl,rfl,rfl⟩⟩,⟨rfl,by simp⟩,g1,by simp [Value.ownBlock],by simp [Value.ownBlock]⟩, ?_, ?_, ?_, ?_⟩
    ·simpa using g2
    ·simpa using g3
    ·simpa using g4
    ·simpa using g5
   | own id=>
    simp only[fe,M.a7,Option.bind_eq_some_iff] at aK
    obtain⟨ob,aM,aK⟩:=aK
    split at aK
    ·rename_i t' e' dE r
     cases aD:Nat.beq t t' && aC e e' && fj ts dE
     ·simp [aD] at aK
     ·simp only[aD,cond_true,M.aa,Option.some.injEq] at aK
      subst aK
      simp only[Bool.and_eq_true] at aD
      obtain⟨⟨ht,he⟩,hu⟩:=aD
      have Ke:=Nat.eq_of_beq_eq_true ht
      have IZ:=aG _ _ he
      have Cc:=fR _ _ hu
      subst Ke IZ Cc
      simp only[ak] at h1
      obtain⟨vals,aN,o1,o2,o3,o4⟩:=hc.aB id _ aM
      rw[←h1.1] at o1
      rw[←h1.1] at o4
      have bI:∀b∈(v.ownBlock.toList++aN.flatten),b∈ao β id (.deep t e ts r none):=fun b hb=>by
       rw[h1.1] at hb
       simpa only[ao,o3] using hb
      refine⟨(v.ownBlock.toList++aN.flatten)++AG,mg,(v.ownBlock.toList++aN.flatten)++Dy,⟨r,q2.1,v,l,vals,aN,AG,Dy,rfl,rfl,o1,o2,g1,rfl,rfl⟩, ?_, ?_, ?_, ?_⟩
      ·intro b hb
       rcases List.mem_append.1 hb with hb | hb
       ·exact⟨id,List.mem_append_left _ (List.mem_singleton.2 rfl),⟨_,aM⟩,by rw[o4];exact hb⟩
       ·obtain⟨i,hi,h3⟩:=g2 b hb
        exact⟨i,List.mem_append_right _ hi,h3⟩
      ·intro b hb
       rcases List.mem_append.1 hb with hb | hb
       ·exact⟨id,_,List.mem_append_left _ (List.mem_singleton.2 rfl),aM,bI b hb⟩
       ·obtain⟨i,o,hi,h3⟩:=g3 b hb
        exact⟨i,o,List.mem_append_right _ hi,h3⟩
      ·intro hnd
       simp only[List.singleton_append,List.nodup_cons] at hnd
       rw[List.nodup_append]
       refine⟨o4 ▸ (hc.fresh id _ aM).1,g4 hnd.2,fun b hb b' ax e=> ?_⟩
       subst e
       obtain⟨i,hi,⟨o,A3⟩,h3⟩:=g2 b ax
       have cm:id≠i:=fun e=>hnd.1 (e ▸ hi)
       exact hc.sep id i _ _ cm aM A3 b (o4 ▸ hb) h3
      ·simpa using g5
    ·simp at aK
   | _=>simp [fe] at aK
theorem iI (hc:Core w0 S f h β φ tm w):∀(Bm:List RK) (ss:List SV) (vs:List Value) (q:List DC×List Nat×List Nat),af w (Av h β) β ss vs→(ff Bm ss).val f h=some q→
  ∃φ' im tp,eF w Bm q.1 vs φ' im tp∧(∀b∈φ',∃i∈q.2.1,(∃o,h i=some o)∧b∈φ i)∧(∀b∈tp,∃i o,i∈q.2.1∧h i=some o∧b∈ao β i o)∧(q.2.1.Nodup→φ'.Nodup)∧
   (∀b∈im,¬Av h β b∨∃i∈q.2.2,(∃o,h i=some o)∧b∈φ i)
 | [],[],vs,q,hs,hq=>by
  simp only[ff,M.aa,Option.some.injEq] at hq
  subst hq
  simp only[af] at hs
  exact⟨[],[],[],⟨rfl,hs,rfl,rfl,rfl⟩,by simp,by simp,by simp,by simp⟩
 | [],_::_,vs,q,hs,hq=>by simp [ff] at hq
 | _::_,[],vs,q,hs,hq=>by simp [ff] at hq
 | k::ks,s::ss,vs,q,hs,hq=>by
  simp only[af] at hs
  obtain⟨v,l,rfl,h1,h2⟩:=hs
  simp only[ff,M.ae,Option.bind_eq_some_iff,M.aa,Option.some.injEq] at hq
  obtain⟨q1,aK,q2,cZ,rfl⟩:=hq
  obtain⟨AG,mg,Dy,g1,g2,g3,g4,g5⟩:=iI hc ks ss l q2 h2 cZ
  have one:∃us:List Value,(bif k.agg then v= .agg us.toArray else us=[v])∧(∀x∈us,x.oneCell'=true)∧∃Ds ID IK,cO w k.cells q1.1 us Ds ID IK∧(∀b∈Ds,∃i∈q1.2.1,(∃o,h i=some o)∧b∈φ i)∧
    (∀b∈IK,∃i o,i∈q1.2.1∧h i=some o∧b∈ao β i o)∧(q1.2.1.Nodup→Ds.Nodup)∧(∀b∈ID,¬Av h β b∨∃i∈q1.2.2,(∃o,h i=some o)∧b∈φ i):=by
   cases hk:k.agg with
   | true=>
    cases s with
    | agg cs=>
     simp only[hk] at aK
     simp only[ak] at h1
     obtain⟨us,rfl,iw,bg⟩:=h1
     exact⟨us,rfl,bg,gD hc k.cells cs us q1 iw aK⟩
    | _=>simp [hk] at aK
   | false=>
    have kP:(dp k.cells [s]).val f h=some q1:=by
     cases s<;>simp only[hk] at aK<;>first | exact aK | (simp at aK)
    have gM:af w (Av h β) β [s] [v]:=by simp only[af];exact⟨v,[],rfl,h1,rfl⟩
    have Ak:=gD hc k.cells [s] [v] q1 gM kP
    refine⟨[v],rfl, ?_,Ak⟩
    obtain⟨_,_,_,hr,_⟩:=Ak
    intro x hx
    rw[List.mem_singleton] at hx
    subst hx
    cases fI:k.cells with
    | nil=>rw[fI] at hr;simp [cO] at hr
    | cons c cs=>
     rw[fI] at hr
     cases c with
     | dQ ct=>
      obtain⟨d,aW,v',cx,f1,Ep,_,hv,h3,_⟩:=hr
      simp only[List.cons.injEq] at hv
      rw[hv.1]
      exact h3.one
     | own t e=>
      obtain⟨rows,aW,v',cx,vals,az,φ',AF,_,hv,h3,_⟩:=hr
      simp only[List.cons.injEq] at hv
      rw[hv.1]
      exact h3.one
     | deep t e ts=>
      obtain⟨rows,aW,v',cx,vals,az,φ',AF,_,hv,h3,_⟩:=hr
      simp only[List.cons.injEq] at hv
      rw[hv.1]
      exact h3.one
  obtain⟨us,iw,bg,Ds,ID,IK,k1,k2,k3,k4,k5⟩:=one
  refine⟨Ds++AG,ID++mg,IK++Dy,⟨q1.1,q2.1,v,l,us,Ds,AG,ID,mg,IK,Dy,rfl,rfl,iw,bg,k1,g1,rfl,rfl,rfl⟩, ?_, ?_, ?_, ?_⟩
  ·intro b hb
   rcases List.mem_append.1 hb with hb | hb
   ·obtain⟨i,hi,h3⟩:=k2 b hb
    exact⟨i,List.mem_append_left _ hi,h3⟩
   ·obtain⟨i,hi,h3⟩:=g2 b hb
    exact⟨i,List.mem_append_right _ hi,h3⟩
  ·intro b hb
   rcases List.mem_append.1 hb with hb | hb
   ·obtain⟨i,o,hi,h3⟩:=k3 b hb
    exact⟨i,o,List.mem_append_left _ hi,h3⟩
   ·obtain⟨i,o,hi,h3⟩:=g3 b hb
    exact⟨i,o,List.mem_append_right _ hi,h3⟩
  ·intro hnd
   rw[List.nodup_append] at hnd ⊢
   refine⟨k4 hnd.1,g4 hnd.2.1,fun b hb b' ax e=> ?_⟩
   subst e
   obtain⟨i,hi,⟨o,A3⟩,h3⟩:=k2 b hb
   obtain⟨j,hj,⟨o',ji⟩,h4⟩:=g2 b ax
   exact hc.sep i j _ _ (hnd.2.2 i hi j hj) A3 ji b h3 h4
  ·intro b hb
   rcases List.mem_append.1 hb with hb | hb
   ·rcases k5 b hb with h3 | ⟨i,hi,h3⟩
    ·exact .inl h3
    ·exact .inr ⟨i,List.mem_append_left _ hi,h3⟩
   ·rcases g5 b hb with h3 | ⟨i,hi,h3⟩
    ·exact .inl h3
    ·exact .inr ⟨i,List.mem_append_right _ hi,h3⟩
end
end Go.Proofs.YtngbcccnjiaddaaGreat.Vm
set_option linter.unusedVariables false
namespace Go.Proofs.YtngbcccnjiaddaaGreat.Vm
mutual
def Gk:CT→DC→Prop
 | .int k,d=>∃n,d= .int n∧Be k n=true
 | .bool,d=>∃b,d= .bool b
 | .str,d=>∃s:List UInt8,d= .str s∧s.length≤maxLen
 | .sl e,d=>∃rows:List (List DC),d= .sl rows∧rows.length≤maxLen∧∀r∈rows,jI e r
def jI:List CT→List DC→Prop
 | [],r=>r=[]
 | c::cs,r=>∃d r',r=d::r'∧Gk c d∧jI cs r'
end
mutual
theorem bQ.wt {w:World} :∀(c:CT) (d:DC) (v:Value) (fp:List Nat),bQ w c d v fp→Gk c d
 | .int k,_,_,_,h=>by
  simp only[bQ,Gk] at h ⊢
  obtain⟨n,h1,_,h2,_⟩:=h
  exact⟨n,h1,h2⟩
 | .bool,_,_,_,h=>by
  simp only[bQ,Gk] at h ⊢
  obtain⟨n,h1,_⟩:=h
  exact⟨n,h1⟩
 | .str,_,_,_,h=>by
  simp only[bQ,Gk] at h ⊢
  obtain⟨s,h1,_,h2,_⟩:=h
  exact⟨s,h1,h2⟩
 | .sl e,_,_,_,h=>by
  simp only[bQ,Gk] at h ⊢
  obtain⟨rows,a,n,c,rfl,_,hn,hc,hm,hr⟩:=h
  refine⟨rows,rfl,by omega,fun r Fp=> ?_⟩
  rcases hr with ⟨h0,_⟩ | ⟨_,b,o,az,_,_,hl,_,hr⟩
  ·rw[h0] at hn
   rw[List.length_eq_zero_iff.1 hn] at Fp
   simp at Fp
  ·obtain⟨i,hi,rfl⟩:=List.getElem_of_mem Fp
   exact aS.wt e _ _ _ (hr i rows[i] az[i] (by simp) (by simp))
theorem aS.wt {w:World} :∀(cs:List CT) (r:List DC) (f:Nat→Option Value) (fp:List Nat),aS w cs r f fp→jI cs r
 | [],_,_,_,h=>by
  simp only[aS,jI] at h ⊢
  exact h.1
 | c::cs,_,_,_,h=>by
  simp only[aS,jI] at h ⊢
  obtain⟨d,r',v,f1,f2,h0,_,h1,h2,_⟩:=h
  exact⟨d,r',h0,bQ.wt c d v f1 h1,aS.wt cs r' _ f2 h2⟩
end
def gC:List AK→List CT
 | []=>[]
 | k::ks=>k.cb++gC ks
theorem jI.append:∀ {cs AR:List CT} {r r':List DC},jI cs r→jI AR r'→jI (cs++AR) (r++r')
 | [],_,_,_,h,h'=>by
  simp only[jI] at h
  subst h
  exact h'
 | c::cs,_,_,_,h,h'=>by
  simp only[jI] at h
  obtain⟨d,r1,rfl,h1,h2⟩:=h
  simp only[List.cons_append,jI]
  exact⟨d,r1++_,rfl,h1,h2.append h'⟩
theorem cQ.wt {w:World} :∀(ks:List AK) (ds:List DC) (vs:List Value) (fp:List Nat),cQ w ks ds vs fp→jI (gC ks) ds
 | [],_,_,_,h=>by
  simp only[gC,jI]
  exact h.1
 | k::ks,_,_,_,h=>by
  obtain⟨d1,d2,v,cx,f1,f2,rfl,rfl,⟨us,_,_,hr,_⟩,h2,rfl⟩:=h
  exact jI.append (aS.wt _ _ _ _ hr) (cQ.wt ks d2 cx f2 h2)
section
variable {P:Program} {Γ:Ctx} {A:List (Nat×kW)} {w:World}
theorem jt:∀(cs:List CT) (d1 d2:List DC) (k:Nat),k+cs.length≤d1.length→bM cs (d1++d2) k=bM cs d1 k
 | [],_,_,_,_=>rfl
 | c::cs,d1,d2,k,h=>by
  simp only[bM]
  simp only[List.length_cons] at h
  rw[jt cs d1 d2 (k+1) (by omega)]
  congr 2
  simp only[List.getD_eq_getElem?_getD]
  rw[List.getElem?_append_left (by omega)]
theorem DG {av:Nat→Prop} {β:Env} {k:AK} {ds:List DC} {v:Value} {fp:List Nat} (h:E6 w k ds v fp) (cA:∀b∈fp,¬av b):
  ak w av β (bif k.agg then .agg (bM k.cb ds 0) else (bM k.cb ds 0).headD .eY) v:=by
 obtain⟨us,h1,h2,h3,h4⟩:=h
 obtain⟨vs,l1,l2,l3,l4⟩:=aS.bE (β:=β) h3 cA k.cb.length 0 (by omega)
 have e:vs=us:=by
  apply List.ext_getElem?
  intro j
  by_cases hj:j<vs.length
  ·have:=l2 j vs[j] (by simp)
   simp only[Nat.zero_add] at this
   rw[this]
   simp
  ·rw[List.getElem?_eq_none (by omega),List.getElem?_eq_none (by omega)]
 subst e
 simp only[List.drop_zero,List.take_length] at l3
 cases hk:k.agg with
 | true=>
  rw[hk] at h1
  simp only[cond_true] at h1 ⊢
  simp only[ak]
  exact⟨vs,h1,l3,l4⟩
 | false=>
  rw[hk] at h1
  simp only[cond_false] at h1 ⊢
  rw[h1.1] at l3
  cases hd:bM k.cb ds 0 with
  | nil=>simp [ak]
  | cons s ss=>
   rw[hd] at l3
   simp only[af] at l3
   obtain⟨v',l',e1,e2,_⟩:=l3
   simp only[List.cons.injEq] at e1
   rw[e1.1]
   exact e2
theorem CW {av:Nat→Prop} {β:Env} :∀(ks:List AK) (ds:List DC) (vs:List Value) (fp:List Nat) (i0:Nat),cQ w ks ds vs fp→(∀b∈fp,¬av b)→∀i,
  iO (iN i0 ks ds) i= .eY∨∃j v,i=i0+j∧vs[j]? =some v∧ak w av β (iO (iN i0 ks ds) i) v
 | [],_,_,_,_,_,_,i=> .inl rfl
 | k::ks,_,_,_,i0,h,cA,i=>by
  obtain⟨d1,d2,v,cx,f1,f2,rfl,rfl,ha,h2,rfl⟩:=h
  have hl:d1.length=k.cb.length:=by
   obtain⟨us,_,_,hr,_⟩:=ha
   exact aS.length _ _ _ _ hr
  simp only[iN,iO]
  rw[jt _ _ _ _ (by omega)]
  cases hk:Nat.beq i0 i
  ·simp only[cond_false]
   rw[←hl,List.drop_left]
   rcases CW (av:=av) (β:=β) ks d2 cx f2 (i0+1) h2 (fun b hb=>cA b (List.mem_append_right _ hb)) i with h3 | ⟨j,v',hi,hj,hs⟩
   ·exact .inl h3
   ·exact .inr ⟨j+1,v',by omega,by simpa using hj,hs⟩
  ·have:=Nat.eq_of_beq_eq_true hk
   subst this
   simp only[cond_true]
   exact .inr ⟨0,v,rfl,rfl,DG ha (fun b hb=>cA b (List.mem_append_left _ hb))⟩
theorem cQ.length:∀(ks:List AK) (ds:List DC) (vs:List Value) (fp:List Nat),cQ w ks ds vs fp→vs.length=ks.length
 | [],_,_,_,h=>by rw[h.2.1];rfl
 | k::ks,_,_,_,h=>by
  obtain⟨d1,d2,v,cx,f1,f2,rfl,rfl,ha,h2,rfl⟩:=h
  simp [cQ.length ks d2 cx f2 h2]
theorem DX {fn:Func} {s:Sum} {st:St} {r:List DC} (h:fin P fn s st=(true,r)):st.ok=true:=by
 unfold fin at h
 split at h
 ·split at h
  ·simp only[Prod.mk.injEq] at h
   exact h.1
  ·exact absurd h bu
 split at h
 ·simp only[Prod.mk.injEq,Bool.and_eq_true] at h
  exact h.1.1.1
 ·exact absurd h bu
theorem DY {fn:Func} {s:Sum} (F6:s.pt=none) {st:St} {r:List DC} {w w':World} {fp:List Nat} {a:Act} (h:fin P fn s st=(true,r)) (hR:Rel w ⟨fun _=>False,fun b=>b<w.heap.size∧b ∉ fp,[]⟩ st a w'):
  a.defers=[]∧∃v,(results fn a.tmps).run P w'= .ok v w'∧∃vs φ im tp,Ending.returned v= .returned (pack vs)∧Kept Own.none w w'∧eF w' s.rs r vs φ im tp∧φ.Nodup∧
   (∀b∈φ,w.heap.size≤b∧b<w'.heap.size)∧∀b∈im,(b∈fp∨w.heap.size≤b)∧b ∉ tp:=by
 unfold fin at h
 rw[F6] at h
 simp only at h
 split at h
 case h_2=>exact absurd h bu
 rename_i ds own im x hr
 simp only[Prod.mk.injEq,Bool.and_eq_true,List.all_eq_true,Bool.not_eq_true'] at h
 obtain⟨⟨⟨_,a8⟩,jS⟩,rfl⟩:=h
 obtain⟨β,φ,hc⟩:=hR.core
 have hval:=M.dP _ hr
 simp only[M.ae,Option.bind_eq_some_iff] at hval
 obtain⟨ss,h1,h2⟩:=hval
 obtain⟨vs,g1,g2⟩:=ig hc _ _ h1
 obtain⟨φ',Ep,AF,k1,k2,k3,k4,k5⟩:=iI hc _ _ _ _ g2 h2
 refine⟨hR.defers,pack vs,ky g1,vs,φ',Ep,AF,rfl,⟨hR.kept.os,hR.kept.tape,hR.kept.output,hR.kept.size,fun k hk hn=>hR.kept.block k hk (fun h=>h)⟩,k1,k4 (eO a8), ?_, ?_⟩
 ·intro b hb
  obtain⟨i,_,⟨o,A3⟩,BH⟩:=k2 b hb
  have:=(hc.fresh i o A3).2 b BH
  rcases this.1 with h3 | h3
  ·exact⟨h3,this.2⟩
  ·exact h3.elim
 ·intro b hb
  rcases k5 b hb with h3 | ⟨i,hi,⟨o,A3⟩,BH⟩
  ·refine⟨?_,fun hx=> ?_⟩
   ·by_cases cd:b<w.heap.size
    ·by_cases hm:b∈fp
     ·exact .inl hm
     ·refine absurd (.inr ?_) h3
      rw[hc.bars]
      exact⟨cd,hm⟩
    ·exact .inr (by omega)
   ·obtain⟨j,oj,_,hj,bn⟩:=k3 b hx
    exact h3 (.inl ⟨j,oj,hj,bn⟩)
  ·refine⟨?_,fun hx=> ?_⟩
   ·rcases ((hc.fresh i o A3).2 b BH).1 with h3 | h3
    ·exact .inr h3
    ·exact h3.elim
   ·obtain⟨j,oj,A4,hj,bn⟩:=k3 b hx
    have cm:i≠j:=by
     rintro rfl
     have:=jS i hi
     rw[fM.2 A4] at this
     cases this
    exact hc.sep i j o oj cm A3 hj b BH (aj (hc.aB j oj hj) b bn)
theorem Dm (d_:bt P Γ) {g:Nat} {fn:Func} {s:Sum} (hf:P.funcs[g]? =some fn) (Gy:fn.body.isSome=true) (hn:(fn.name== "runtime.NumGoroutine")=false) (hlen:s.ps.length≤fn.ntmps) (F5:fn.ntmps<1099511627776)
  (h:∀ds,jI (gC s.ps) ds→(s.fn ds).1=true→∃N,Hc P Γ A N fn s ds=(true,(s.fn ds).2)) {w:World} {ds:List DC} {vals:List Value} {fp:List Nat} (cv:cQ w s.ps ds vals fp) (aF:(s.fn ds).1=true) {Q:Ending→World→Prop}
  (hQ:∀(st:St) (a:Act) (w':World),Rel w ⟨fun _=>False,fun b=>b<w.heap.size∧b ∉ fp,[]⟩ st a w'→fin P fn s st=(true,(s.fn ds).2)→a.defers=[]∧∃v,(results fn a.tmps).run P w'= .ok v w'∧Q (.returned v) w'):Calls P g vals.toArray w Q:=by
 obtain⟨N,bj⟩:=h ds (cQ.wt _ _ _ _ cv) aF
 obtain⟨c,hc⟩:=Option.isSome_iff_exists.1 Gy
 unfold Hc at bj
 rw[hc] at bj
 simp only at bj
 have Cd:=cQ.length _ _ _ _ cv
 refine calls_of_wp hf hc ?_
 let S:Own:=⟨fun _=>False,fun b=>b<w.heap.size∧b ∉ fp,[]⟩
 let β:Env:=⟨fun _=>0,fun _=>undef,S.gr,fun _=>[]⟩
 have CR:=cQ.lt _ _ _ _ cv
 have hR:Rel w S {n:=fn.ntmps,sl:=iN 0 s.ps ds,hp:=[],ok:=true,ls:=[],lm:=[]} {tmps:=vals.toArray++Array.replicate (fn.ntmps - vals.toArray.size) undef,defers:=[]} w:=by
  refine⟨by simp only[Array.size_append,List.size_toArray,Array.size_replicate];rw[Nat.mod_eq_of_lt F5];omega,fun x hx=>by simp [S] at hx,rfl,⟨rfl,rfl,rfl,Nat.le_refl _,fun _ _ _=>rfl⟩,β,fun _=>[], ?_⟩
  refine⟨fun i=> ?_,fun id o ho=>by simp [St.obj,de] at ho,fun id o ho=>by simp [St.obj,de] at ho,fun i j o p _ ho=>by simp [St.obj,de] at ho,fun b hb=>⟨hb.1,fun h=>h⟩,rfl⟩
  have GR:∀b∈fp,¬Av (de []) β b:=by
   intro b hb hx
   rcases hx with ⟨id,o,ho,_⟩ | hx
   ·simp [de] at ho
   ·exact hx.2 hb
  rcases CW (av:=Av (de []) β) (β:=β) s.ps ds vals fp 0 cv GR i with h1 | ⟨j,v,hi,hj,hs⟩
  ·show ak w _ _ (iO (iN 0 s.ps ds) i) _
   rw[h1]
   simp [ak]
  ·have hv:(vals.toArray++Array.replicate (fn.ntmps - vals.toArray.size) undef).getD i undef=v:=by
    have GL:j<vals.length:=(List.getElem?_eq_some_iff.1 hj).1
    rw[Array.getD_eq_getD_getElem?,Array.getElem?_append_left (by simp;omega)]
    have:i=j:=by omega
    subst this
    simp [hj]
   rw[hv]
   exact hs
 refine cz (r:=(s.fn ds).2) d_ c _ {d5:=fin P fn s,ext:=fun _ _=>jK,ret:=fin P fn s} _ w _ ⟨fun st gN=>DX gN,fun i st gN=>absurd gN bu,fun st gN=>DX gN⟩ hR bj ⟨?_, ?_, ?_⟩
 ·intro st a w' d7 gN
  exact hQ st a w' d7 gN
 ·intro i st a w' _ gN
  exact absurd gN bu
 ·intro st a w' d7 gN
  exact hQ st a w' d7 gN
theorem Fo (d_:bt P Γ) {g:Nat} {fn:Func} {s:Sum} (hf:P.funcs[g]? =some fn) (Gy:fn.body.isSome=true) (hn:(fn.name== "runtime.NumGoroutine")=false) (hlen:s.ps.length≤fn.ntmps) (F5:fn.ntmps<1099511627776)
  (h:∀ds,jI (gC s.ps) ds→(s.fn ds).1=true→∃N,Hc P Γ A N fn s ds=(true,(s.fn ds).2)) (F6:s.pt=none:=by rfl):DA P g s:=
 ⟨⟨fn,hf,Gy,hn⟩,fun w ds vals fp cv aF=>Dm d_ hf Gy hn hlen F5 h cv aF fun st a w' hR gN=>DY F6 gN hR⟩
end
end Go.Proofs.YtngbcccnjiaddaaGreat.Vm
namespace Go.Proofs.YtngbcccnjiaddaaGreat.Vm
def focus (P:Program) (Γ:Ctx) (A:List (Nat×kW)) (N:Nat):List Bool→List (St→ke)→Code→m0→Code×m0
 | [],_,c,K=>(c,K)
 | x::p,is,c,K=>
  match c with
  | .seq a b=>bif x then focus P Γ A N p is b K else focus P Γ A N p is a {d5:=fun s=>run P Γ A N b s K,ext:=K.ext,ret:=K.ret}
  | .cond _ a b=>bif x then focus P Γ A N p is b K else focus P Γ A N p is a K
  | .block id a=>focus P Γ A N p is a {d5:=K.d5,ext:=fun i s=>bif Nat.beq i id then K.d5 s else K.ext i s,ret:=K.ret}
  | .loop a=>match is,(cS a).bind (IE A) with
   | ih::LZ,some an=>focus P Γ A N p LZ a {d5:=fun s'=>ih (canon P an s'),ext:=K.ext,ret:=K.ret}
   | _,_=>(c,K)
  | _=>(c,K)
def KR (P:Program) (Γ:Ctx) (A:List (Nat×kW)) (N:Nat) (fn:Func) (s:Sum) (p:List Bool) (is:List (St→ke)) (ih:St→ke) (st:St):ke:=
 match fn.body with
 | some c=>match focus P Γ A N p is c {d5:=fin P fn s,ext:=fun _ _=>jK,ret:=fin P fn s} with
  | (.loop a,K)=>match (cS a).bind (IE A) with
   | some an=>run P Γ A N a st {d5:=fun s'=>ih (canon P an s'),ext:=K.ext,ret:=K.ret}
   | none=>jK
  | _=>jK
 | none=>jK
def KS (B:(St→ke)→St→ke) (n:Nat):St→ke:=Nat.rec (motive:=fun _=>St→ke) (fun _=>jK) (fun _ ih s=>B ih s) n
theorem Jk {α β:Type} {c:Bool} {x y:α} {a b:β} {K:β→α} (h1:x=K a) (h2:y=K b):(bif c then x else y)=K (bif c then a else b):=by
 cases c
 ·exact h2
 ·exact h1
def Jh:Sum:= {ps:=[],rs:=[],fn:=fun _=>(false,[]),Gl:=true}
theorem Ku {P:Program} {g:Nat} :gw P g Jh:=trivial
theorem IU {P:Program} :bt P []:=fun _ _ h=>by simp [Fz] at h
theorem Hx {P:Program} {g:Nat} {s:Sum} {Γ:Ctx} (h:gw P g s) (d_:bt P Γ):bt P ((g,s)::Γ):=by
 intro g' s' h'
 simp only[Fz] at h'
 cases hb:Nat.beq g g'
 ·rw[hb] at h';exact d_ g' s' h'
 ·rw[hb] at h'
  have:=Nat.eq_of_beq_eq_true hb
  subst this
  simp only[cond_true,Option.some.injEq] at h'
  subst h'
  exact h
end Go.Proofs.YtngbcccnjiaddaaGreat.Vm
set_option linter.unusedVariables false
set_option linter.unusedSimpArgs false
namespace Go.Proofs.YtngbcccnjiaddaaGreat.Vm
def pid (i j:Nat):Nat:=ag (5000000+i) j
def fN (t:TT) (e:List CT) (rows:List (List DC)):ai:=
 match t with
 | .flat t=> .row t e rows false true
 | .deep t its=> .deep t e its rows none
def aO (i:Nat):Nat→List CT→List TT→List DC→List SV×List (Nat×ai)
 | _,[],_,_=>([],[])
 | j,.sl e::cs,ts,ds=>
  let q:=aO i (j+1) cs ts.tail ds.tail
  (.own (pid i j)::q.1,(pid i j,fN (ts.headD (.flat 0)) e (ds.headD default).cX)::q.2)
 | j,.int k::cs,ts,ds=>let q:=aO i (j+1) cs ts ds.tail;(j0 (.int k) (ds.headD default)::q.1,q.2)
 | j,.bool::cs,ts,ds=>let q:=aO i (j+1) cs ts ds.tail;(j0 .bool (ds.headD default)::q.1,q.2)
 | j,.str::cs,ts,ds=>let q:=aO i (j+1) cs ts ds.tail;(j0 .str (ds.headD default)::q.1,q.2)
def cM:Nat→List AK→List (Option MK)→List DC→List (Nat×SV)×List (Nat×ai)
 | _,[],_,_=>([],[])
 | i,k::ks,ms,ds=>
  let q:=cM (i+1) ks ms.tail (ds.drop k.cb.length)
  match ms.headD none with
  | none=>((i,bif k.agg then .agg (bM k.cb ds 0) else (bM k.cb ds 0).headD .eY)::q.1,q.2)
  | some (.box t)=>((i,.ptr (pid i 0) 0)::q.1,(pid i 0,.box t (bM k.cb ds 0))::q.2)
  | some (.rows ts)=>
   let c:=aO i 0 k.cb ts ds
   ((i,bif k.agg then .agg c.1 else c.1.headD .eY)::q.1,c.2++q.2)
def Au (e:List CT) (t:TT) (s:SV):M (DC×Nat):=
 match s with
 | .own id=> .obj id fun
  | .row t' e' r false _=>match t with
   | .flat t=>bif Nat.beq t' t && aC e' e && al e then .pure (.sl r,id) else .fail
   | .deep _ _=> .fail
  | .deep t' e' dE r none=>match t with
   | .flat _=> .fail
   | .deep t its=>bif Nat.beq t' t && aC e' e && fj dE its then .pure (.sl r,id) else .fail
  | _=> .fail
 | _=> .fail
def bm:List CT→List TT→List SV→M (List DC×List Nat)
 | [],_,[]=> .pure ([],[])
 | .sl e::cs,t::ts,s::ss=>(Au e t s).bind fun q=>(bm cs ts ss).bind fun r=> .pure (q.1::r.1,q.2::r.2)
 | .int _::cs,ts,_::ss=>bm cs ts ss
 | .bool::cs,ts,_::ss=>bm cs ts ss
 | .str::cs,ts,_::ss=>bm cs ts ss
 | _,_,_=> .fail
def gV:Nat→List AK→List (Option MK)→M (List DC×List Nat)
 | _,[],[]=> .pure ([],[])
 | i,_::ks,none::ms=>gV (i+1) ks ms
 | i,k::ks,some (.box t)::ms=> .slot i fun
  | .ptr id 0=> .obj id fun
   | .box t' cells=>bif Nat.beq t' t then
     (bT k.cb cells).bind fun r=>bif r.2.1.isEmpty then (gV (i+1) ks ms).bind fun q=> .pure (r.1++q.1,id::q.2) else .fail
    else .fail
   | _=> .fail
  | _=> .fail
 | i,k::ks,some (.rows ts)::ms=> .slot i fun s=>
  (match k.agg,s with
   | true,.agg cs=>bm k.cb ts cs
   | true,_=> .fail
   | false,.agg _=> .fail
   | false,s=>bm k.cb ts [s]).bind fun r=>(gV (i+1) ks ms).bind fun q=> .pure (r.1++q.1,r.2++q.2)
 | _,_,_=> .fail
def fh:List TT→Bool
 | []=>true
 | .flat _::l=>fh l
 | .deep _ _::_=>false
def lV:List (Option MK)→Bool
 | []=>true
 | some (.rows ts)::l=>fh ts && lV l
 | _::l=>lV l
def Bj:List (Option MK)→Bool
 | []=>true
 | some (.box _)::_=>false
 | _::l=>Bj l
def mi (P:Program) (fn:Func) (s:Sum) (st:St):ke:=
 match ((gg P fn.results.toList).bind fun l=>(ff s.rs l).bind fun q=>(gV 0 s.ps s.ms).bind fun r=> .pure (q,r)).run st.get st.obj with
 | some (((ds,own,im),(od,ids)),_)=>(st.ok && ea (own++ids) && (lV s.ms || (Bj s.ms && own.isEmpty)),ds++od)
 | none=>jK
def kS:List (Option MK)→Nat
 | []=>0
 | m::l=>bif Nat.blt 0 (kS l) then kS l+1 else bif m.isSome then 1 else 0
theorem CZ:∀ {l:List (Option MK)} {j:Nat} {m:MK},l[j]? =some (some m)→j<kS l
 | [],j,m,h=>by simp at h
 | x::l,0,m,h=>by
  simp only[List.getElem?_cons_zero,Option.some.injEq] at h
  subst h
  simp only[kS]
  cases Nat.blt 0 (kS l)<;>simp
 | x::l,j+1,m,h=>by
  have:=CZ (l:=l) (j:=j) (m:=m) (by simpa using h)
  simp only[kS]
  have h0:Nat.blt 0 (kS l)=true:=Nat.ble_eq_true_of_le (by omega)
  rw[h0]
  simp only[cond_true]
  omega
def Gg (P:Program) (Γ:Ctx) (A:List (Nat×kW)) (N:Nat) (fn:Func) (s:Sum) (ds:List DC):ke:=
 match fn.body with
 | some c=>run P Γ A N c {n:=fn.ntmps+kS s.ms*1099511627776,sl:=(cM 0 s.ps s.ms ds).1,hp:=(cM 0 s.ps s.ms ds).2,ok:=true,ls:=[],lm:=[]} {d5:=mi P fn s,ext:=fun _ _=>jK,ret:=mi P fn s}
 | none=>jK
section
variable {P:Program} {Γ:Ctx} {w0:World} {S:Own} {A:List (Nat×kW)} {N:Nat}
variable {f:Nat→SV} {h:Nat→Option ai} {β:Env} {φ:Nat→List Nat} {tm:Array Value} {w:World}
theorem Cm (hc:Core w0 S f h β φ tm w) {el:List CT} {t:TT} {s:SV} {v:Value} {q:DC×Nat} (hs:ak w (Av h β) β s v) (hq:(Au el t s).val f h=some q):
  ∃rows mb o,q.1= .sl rows∧gv w t el rows v mb∧h q.2=some o∧mb=ao β q.2 o∧mb.Nodup∧(fh [t]=true→mb=v.ownBlock.toList):=by
 have Fv:v.ownBlock.toList.Nodup:=by cases v.ownBlock<;>simp
 unfold Au at hq
 cases s with
 | own id=>
  simp only[M.a7,Option.bind_eq_some_iff] at hq
  obtain⟨ob,aM,hq⟩:=hq
  simp only[ak] at hs
  split at hq
  ·rename_i t' e' r u
   cases t with
   | deep t its=>simp at hq
   | flat t=>
    simp only at hq
    cases aD:Nat.beq t' t && aC e' el && al el
    ·simp [aD] at hq
    ·simp only[aD,cond_true,M.aa,Option.some.injEq] at hq
     subst hq
     simp only[Bool.and_eq_true] at aD
     have ht:=Nat.eq_of_beq_eq_true aD.1.1
     have he:=aG _ _ aD.1.2
     subst ht he
     obtain⟨vals,az,g1,g2,_,_⟩:=hc.aB id _ aM
     rw[←hs.1] at g1
     exact⟨r,v.ownBlock.toList,_,rfl,⟨aD.2,vals,az,g1,g2,rfl⟩,aM,by simp only[ao,hs.1],Fv,fun _=>rfl⟩
  ·rename_i t' e' dE r
   cases t with
   | flat t=>simp at hq
   | deep t its=>
    simp only at hq
    cases aD:Nat.beq t' t && aC e' el && fj dE its
    ·simp [aD] at hq
    ·simp only[aD,cond_true,M.aa,Option.some.injEq] at hq
     subst hq
     simp only[Bool.and_eq_true] at aD
     have ht:=Nat.eq_of_beq_eq_true aD.1.1
     have he:=aG _ _ aD.1.2
     have hi:=fR _ _ aD.2
     subst ht he hi
     have bI:=(hc.fresh id _ aM).1
     obtain⟨vals,aN,g1,g2,g3,g4⟩:=hc.aB id _ aM
     rw[g4] at bI
     rw[←hs.1] at g1 bI
     exact⟨r,v.ownBlock.toList++aN.flatten,_,rfl,⟨vals,aN,g1,g2,rfl⟩,aM,by simp only[ao,g3,hs.1],bI,fun h=>by simp [fh] at h⟩
  ·simp at hq
 | _=>simp at hq
theorem df (hc:Core w0 S f h β φ tm w):∀(cs:List CT) (ts:List TT) (ss:List SV) (us:List Value) (q:List DC×List Nat),af w (Av h β) β ss us→(bm cs ts ss).val f h=some q→
  ∃ψ,iE w cs ts q.1 us ψ∧(∀b∈ψ,∃id∈q.2,∃o,h id=some o∧b∈ao β id o)∧(q.2.Nodup→ψ.Nodup)∧
   (fh ts=true→∀(w1:World) (ds:List DC) (mb:List Nat),bc w1 cs ts ds us mb→∀b∈mb,∃id∈q.2,∃o,h id=some o∧b∈ao β id o)
 | [],ts,ss,us,q,hs,hq=>by
  cases ss with
  | nil=>
   simp only[bm,M.aa,Option.some.injEq] at hq
   subst hq
   simp only[af] at hs
   refine⟨[],⟨rfl,hs,rfl⟩,by simp,by simp,fun _ w1 ds mb hm b hb=> ?_⟩
   simp only[bc] at hm
   rw[hm.2.2.2] at hb
   simp at hb
  | cons s ss=>simp [bm] at hq
 | .int k::cs,ts,ss,us,q,hs,hq=>by
  cases ss with
  | nil=>simp [bm] at hq
  | cons s ss=>
   simp only[af] at hs
   obtain⟨v,aR,rfl,h1,h2⟩:=hs
   simp only[bm] at hq
   obtain⟨ψ,k1,k2,k3,k4⟩:=df hc cs ts ss aR q h2 hq
   refine⟨ψ, ?_,k2,k3,fun hnd w1 ds mb hm b hb=> ?_⟩
   ·simp only[iE]
    exact⟨v,aR,rfl,k1⟩
   ·simp only[bc] at hm
    obtain⟨d,aW,v',E5,rfl,e0,_,hm⟩:=hm
    simp only[List.cons.injEq] at e0
    obtain⟨rfl,rfl⟩:=e0
    exact k4 hnd w1 aW mb hm b hb
 | .bool::cs,ts,ss,us,q,hs,hq=>by
  cases ss with
  | nil=>simp [bm] at hq
  | cons s ss=>
   simp only[af] at hs
   obtain⟨v,aR,rfl,h1,h2⟩:=hs
   simp only[bm] at hq
   obtain⟨ψ,k1,k2,k3,k4⟩:=df hc cs ts ss aR q h2 hq
   refine⟨ψ, ?_,k2,k3,fun hnd w1 ds mb hm b hb=> ?_⟩
   ·simp only[iE]
    exact⟨v,aR,rfl,k1⟩
   ·simp only[bc] at hm
    obtain⟨d,aW,v',E5,rfl,e0,_,hm⟩:=hm
    simp only[List.cons.injEq] at e0
    obtain⟨rfl,rfl⟩:=e0
    exact k4 hnd w1 aW mb hm b hb
 | .str::cs,ts,ss,us,q,hs,hq=>by
  cases ss with
  | nil=>simp [bm] at hq
  | cons s ss=>
   simp only[af] at hs
   obtain⟨v,aR,rfl,h1,h2⟩:=hs
   simp only[bm] at hq
   obtain⟨ψ,k1,k2,k3,k4⟩:=df hc cs ts ss aR q h2 hq
   refine⟨ψ, ?_,k2,k3,fun hnd w1 ds mb hm b hb=> ?_⟩
   ·simp only[iE]
    exact⟨v,aR,rfl,k1⟩
   ·simp only[bc] at hm
    obtain⟨d,aW,v',E5,rfl,e0,_,hm⟩:=hm
    simp only[List.cons.injEq] at e0
    obtain⟨rfl,rfl⟩:=e0
    exact k4 hnd w1 aW mb hm b hb
 | .sl el::cs,ts,ss,us,q,hs,hq=>by
  cases ts with
  | nil=>cases ss<;>simp [bm] at hq
  | cons t ts=>
   cases ss with
   | nil=>simp [bm] at hq
   | cons s ss=>
    simp only[af] at hs
    obtain⟨v,aR,rfl,h1,h2⟩:=hs
    simp only[bm,M.ae,Option.bind_eq_some_iff,M.aa,Option.some.injEq] at hq
    obtain⟨q1,aK,q2,cZ,rfl⟩:=hq
    obtain⟨ψ,k1,k2,k3,k4⟩:=df hc cs ts ss aR q2 h2 cZ
    obtain⟨rows,KT,o,r1,r2,r3,r4,r5,r6⟩:=Cm hc h1 aK
    refine⟨KT++ψ, ?_,fun b hb=> ?_,fun hnd=> ?_,fun hnd w1 ds mb hm b hb=> ?_⟩
    ·simp only[iE]
     exact⟨t,ts,rows,q2.1,v,aR,KT,ψ,rfl,by rw[r1],rfl,r2,k1,rfl⟩
    ·rcases List.mem_append.1 hb with hb | hb
     ·exact⟨q1.2,List.mem_cons_self ..,o,r3,r4 ▸ hb⟩
     ·obtain⟨i,hi,o',ho⟩:=k2 b hb
      exact⟨i,List.mem_cons_of_mem _ hi,o',ho⟩
    ·simp only[List.nodup_cons] at hnd
     rw[List.nodup_append]
     refine⟨r5,k3 hnd.2,fun b hb b' ax e=> ?_⟩
     subst e
     obtain⟨i,hi,o',eW,BH⟩:=k2 b ax
     rw[r4] at hb
     exact hc.sep q1.2 i o o' (fun e=>hnd.1 (e ▸ hi)) r3 eW b (aj (hc.aB _ _ r3) b hb) (aj (hc.aB _ _ eW) b BH)
    ·simp only[bc] at hm
     obtain⟨t1,FL,KY,aW,v1,E5,m1,gl,e1,rfl,e2,GA,hm,rfl⟩:=hm
     simp only[List.cons.injEq] at e1 e2
     obtain⟨rfl,rfl⟩:=e1
     obtain⟨rfl,rfl⟩:=e2
     cases t with
     | deep t its=>simp [fh] at hnd
     | flat t=>
      obtain⟨_,vals,az,_,_,rfl⟩:=GA
      rcases List.mem_append.1 hb with hb | hb
      ·refine⟨q1.2,List.mem_cons_self ..,o,r3, ?_⟩
       rw[←r4,r6 rfl]
       exact hb
      ·obtain⟨i,hi,o,ho⟩:=k4 (by simpa only[fh] using hnd) w1 aW gl hm b hb
       exact⟨i,List.mem_cons_of_mem _ hi,o,ho⟩
theorem ll (hc:Core w0 S f h β φ tm w):∀(i:Nat) (ks:List AK) (ms:List (Option MK)) (vs:List Value) (q:List DC×List Nat),(∀(j:Nat) v m,vs[j]? =some v→ms[j]? =some (some m)→tm.getD (i+j) undef=v)→vs.length=ks.length→(gV i ks ms).val f h=some q→
  ∃im ψ,lu w ks ms q.1 vs im ψ∧(∀b∈im,¬Av h β b)∧(Bj ms=true→im=[])∧(∀b∈ψ,∃id∈q.2,∃o,h id=some o∧b∈ao β id o)∧(q.2.Nodup→ψ.Nodup)∧
   (lV ms=true→∀(w1:World) (ds:List DC) (fp mb:List Nat),cu w1 ks ms ds vs fp mb→∀b∈mb,∃id∈q.2,∃o,h id=some o∧b∈ao β id o)
 | i,[],ms,vs,q,hv,hl,hq=>by
  cases ms with
  | nil=>
   simp only[gV,M.aa,Option.some.injEq] at hq
   subst hq
   have hl:vs=[]:=List.length_eq_zero_iff.1 hl
   subst hl
   refine⟨[],[],⟨rfl,rfl,rfl,rfl⟩,by simp,fun _=>rfl,by simp,by simp,fun _ w1 ds fp mb hm b hb=> ?_⟩
   simp only[cu] at hm
   rw[hm.2.2.2.2] at hb
   simp at hb
  | cons m ms=>simp [gV] at hq
 | i,k::ks,ms,vs,q,hv,hl,hq=>by
  cases ms with
  | nil=>simp [gV] at hq
  | cons m ms=>
   cases vs with
   | nil=>simp at hl
   | cons v vs=>
    have hv':∀(j:Nat) u m,vs[j]? =some u→ms[j]? =some (some m)→tm.getD (i+1+j) undef=u:=fun j u m' hu hm=>by
     have:=hv (j+1) u m' (by simpa using hu) (by simpa using hm)
     rw[show i+1+j=i+(j+1) by omega]
     exact this
    have F0:vs.length=ks.length:=by simpa using hl
    have dF:=hc.bN i
    cases m with
    | none=>
     simp only[gV] at hq
     obtain⟨im,ψ,k1,k2,k4,k5,k6,k3⟩:=ll hc (i+1) ks ms vs q hv' F0 hq
     refine⟨im,ψ,⟨none,ms,[],q.1,v,vs,[],im,[],ψ,rfl,rfl,rfl,⟨rfl,rfl,rfl⟩,k1,rfl,rfl⟩,k2,k4,k5,k6,fun hnd w1 ds fp mb hm b hb=> ?_⟩
     simp only[cu] at hm
     obtain⟨m',Dx,d1,d2,v',cx,f1,f2,b1,b2,e1,rfl,e2,ha,hm,rfl,rfl⟩:=hm
     simp only[List.cons.injEq] at e1 e2
     obtain⟨rfl,rfl⟩:=e1
     obtain⟨rfl,rfl⟩:=e2
     simp only[iY] at ha
     rw[ha.2] at hb
     exact k3 hnd w1 d2 f2 b2 hm b (by simpa using hb)
    | some m=>
     have LQ:tm.getD i undef=v:=hv 0 v m rfl rfl
     rw[LQ] at dF
     cases m with
     | box t=>
      simp only[gV,M.jG] at hq
      cases fY:f i with
      | ptr id off=>
       rw[fY] at hq dF
       cases off with
       | succ off=>simp at hq
       | zero=>
        simp only[M.a7,Option.bind_eq_some_iff] at hq
        obtain⟨ob,aM,hq⟩:=hq
        cases ob with
        | box t' cells=>
         simp only at hq
         cases Ca:Nat.beq t' t
         ·simp [Ca] at hq
         ·have Cb:=Nat.eq_of_beq_eq_true Ca
          subst Cb
          simp only[Ca,cond_true,M.ae,Option.bind_eq_some_iff] at hq
          obtain⟨q1,aK,hq⟩:=hq
          cases EU:q1.2.1.isEmpty
          ·simp [EU] at hq
          ·simp only[EU,cond_true,M.ae,Option.bind_eq_some_iff,M.aa,Option.some.injEq] at hq
           obtain⟨q2,cZ,rfl⟩:=hq
           obtain⟨im,ψ,k1,k2,k4,k5,k6,k3⟩:=ll hc (i+1) ks ms vs q2 hv' F0 cZ
           obtain⟨us,g1,g2,g3,_⟩:=hc.aB id _ aM
           obtain⟨la,hr,Fk,je,_⟩:=dA hc k.cb cells us q1 g2 aK
           have L9:=af.length _ _ g2
           have jH:=cn _ _ _ aK
           simp only[ak] at dF
           have JQ:q1.2.1=[]:=List.isEmpty_iff.1 EU
           refine⟨la++im,[β.di id]++ψ,⟨some (.box t'),ms,q1.1,q2.1,v,vs,la,im,[β.di id],ψ,rfl,rfl,rfl,⟨β.di id,us,dF,g1,g3,hr,by omega,rfl⟩,k1,rfl,rfl⟩, ?_,fun h=>by simp [Bj] at h,fun b hb=> ?_,fun hnd=> ?_,fun hnd w1 ds fp mb hm b hb=> ?_⟩
           ·intro b hb
            rcases List.mem_append.1 hb with hb | hb
            ·rcases je b hb with h3 | ⟨x,hx,h3⟩
             ·exact h3
             ·rw[JQ] at hx
              simp at hx
            ·exact k2 b hb
           ·rcases List.mem_append.1 hb with hb | hb
            ·exact⟨id,List.mem_cons_self ..,_,aM,by simpa only[ao] using hb⟩
            ·obtain⟨j,hj,o,ho⟩:=k5 b hb
             exact⟨j,List.mem_cons_of_mem _ hj,o,ho⟩
           ·simp only[List.nodup_cons] at hnd
            rw[List.nodup_append]
            refine⟨by simp,k6 hnd.2,fun b hb b' ax e=> ?_⟩
            subst e
            obtain⟨j,hj,o',eW,bn⟩:=k5 b ax
            exact hc.sep id j _ o' (fun e=>hnd.1 (e ▸ hj)) aM eW b (aj (hc.aB _ _ aM) b (by simpa only[ao] using hb)) (aj (hc.aB _ _ eW) b bn)
           ·simp only[cu] at hm
            obtain⟨m',Dx,d1,d2,v',cx,f1,f2,b1,b2,e1,rfl,e2,ha,hm,rfl,rfl⟩:=hm
            simp only[List.cons.injEq] at e1 e2
            obtain⟨rfl,rfl⟩:=e1
            obtain⟨rfl,rfl⟩:=e2
            simp only[iY] at ha
            obtain⟨g,E5,ev,_,_,_,_,rfl⟩:=ha
            rcases List.mem_append.1 hb with hb | hb
            ·refine⟨id,List.mem_cons_self ..,_,aM, ?_⟩
             rw[dF] at ev
             simp only[Value.pointer.injEq,Option.some.injEq,Addr.mk.injEq,and_true] at ev
             simp only[ao]
             rw[ev]
             exact hb
            ·obtain⟨j,hj,o,ho⟩:=k3 hnd w1 d2 f2 b2 hm b hb
             exact⟨j,List.mem_cons_of_mem _ hj,o,ho⟩
        | row _ _ _ _ _=>simp at hq
        | dQ _ _=>simp at hq
        | deep _ _ _ _ _=>simp at hq
      | _=>rw[fY] at hq;simp at hq
     | rows ts=>
      simp only[gV,M.jG,M.ae,Option.bind_eq_some_iff,M.aa,Option.some.injEq] at hq
      obtain⟨q1,aK,q2,cZ,rfl⟩:=hq
      obtain⟨im,ψ,k1,k2,k4,k5,k6,k3⟩:=ll hc (i+1) ks ms vs q2 hv' F0 cZ
      have one:∃us:List Value,(bif k.agg then v= .agg us.toArray else us=[v])∧∃Hr,iE w k.cb ts q1.1 us Hr∧(∀b∈Hr,∃id∈q1.2,∃o,h id=some o∧b∈ao β id o)∧(q1.2.Nodup→Hr.Nodup)∧
        (fh ts=true→∀(w1:World) (ds:List DC) (mb:List Nat),bc w1 k.cb ts ds us mb→∀b∈mb,∃id∈q1.2,∃o,h id=some o∧b∈ao β id o):=by
       cases hk:k.agg with
       | true=>
        generalize f i=s at aK dF
        cases s with
        | agg cs=>
         simp only[hk] at aK
         simp only[ak] at dF
         obtain⟨us,rfl,iw,bg⟩:=dF
         exact⟨us,rfl,df hc k.cb ts cs us q1 iw aK⟩
        | _=>simp [hk] at aK
       | false=>
        generalize f i=s at aK dF
        have kP:(bm k.cb ts [s]).val f h=some q1:=by
         cases s<;>simp only[hk] at aK<;>first | exact aK | (simp at aK)
        have gM:af w (Av h β) β [s] [v]:=by simp only[af];exact⟨v,[],rfl,dF,rfl⟩
        exact⟨[v],rfl,df hc k.cb ts [s] [v] q1 gM kP⟩
      obtain⟨us,iw,Hr,r1,r3,r4,r2⟩:=one
      refine⟨im,Hr++ψ,⟨some (.rows ts),ms,q1.1,q2.1,v,vs,[],im,Hr,ψ,rfl,rfl,rfl,⟨us,iw,r1,rfl⟩,k1,rfl,rfl⟩,k2,fun h=>k4 (by simpa only[Bj] using h),fun b hb=> ?_,fun hnd=> ?_,fun hnd w1 ds fp mb hm b hb=> ?_⟩
      ·rcases List.mem_append.1 hb with hb | hb
       ·obtain⟨j,hj,o,ho⟩:=r3 b hb
        exact⟨j,List.mem_append_left _ hj,o,ho⟩
       ·obtain⟨j,hj,o,ho⟩:=k5 b hb
        exact⟨j,List.mem_append_right _ hj,o,ho⟩
      ·rw[List.nodup_append] at hnd
       obtain⟨n1,n2,n3⟩:=hnd
       rw[List.nodup_append]
       refine⟨r4 n1,k6 n2,fun b hb b' ax e=> ?_⟩
       subst e
       obtain⟨i1,KE,o1,Ig,Hk⟩:=r3 b hb
       obtain⟨j,hj,o',eW,bn⟩:=k5 b ax
       exact hc.sep i1 j o1 o' (fun e=>n3 i1 KE j hj e) Ig eW b (aj (hc.aB _ _ Ig) b Hk) (aj (hc.aB _ _ eW) b bn)
      simp only[lV,Bool.and_eq_true] at hnd
      simp only[cu] at hm
      obtain⟨m',Dx,d1,d2,v',cx,f1,f2,b1,b2,e1,rfl,e2,ha,hm,rfl,rfl⟩:=hm
      simp only[List.cons.injEq] at e1 e2
      obtain⟨rfl,rfl⟩:=e1
      obtain⟨rfl,rfl⟩:=e2
      simp only[iY] at ha
      obtain⟨E5,Ba,_,ha,_⟩:=ha
      have LP:E5=us:=by
       cases hk:k.agg with
       | true=>
        rw[hk] at iw Ba
        simp only[cond_true] at iw Ba
        rw[iw] at Ba
        simp only[Value.agg.injEq] at Ba
        simpa using (congrArg Array.toList Ba).symm
       | false=>
        rw[hk] at iw Ba
        simp only[cond_false] at iw Ba
        rw[iw,Ba.1]
      subst LP
      rcases List.mem_append.1 hb with hb | hb
      ·obtain⟨j,hj,o,ho⟩:=r2 hnd.1 w1 d1 b1 ha b hb
       exact⟨j,List.mem_append_left _ hj,o,ho⟩
      ·obtain⟨j,hj,o,ho⟩:=k3 hnd.2 w1 d2 f2 b2 hm b hb
       exact⟨j,List.mem_append_right _ hj,o,ho⟩
end
end Go.Proofs.YtngbcccnjiaddaaGreat.Vm
set_option linter.unusedVariables false
set_option linter.unusedSimpArgs false
namespace Go.Proofs.YtngbcccnjiaddaaGreat.Vm
structure EN where
 id:Nat
 o:ai
 di:Nat
 val:Value
 φ:List Nat
 nb:List Nat
def EN.ok (w:World) (av:Nat→Prop) (β:Env) (x:EN):Prop:=fA w av β x.id x.o x.φ∧ao β x.id x.o=x.φ
section
variable {P:Program} {Γ:Ctx} {A:List (Nat×kW)} {w:World} {i:Nat}
theorem dt:∀(j:Nat) (cs:List CT) (ts:List TT) (ds:List DC) (us:List Value) (mb:List Nat),bc w cs ts ds us mb→
  ∃E:List EN,(aO i j cs ts ds).2=E.map (fun x=>(x.id,x.o))∧E.flatMap (·.φ)=mb∧∀(av:Nat→Prop) (β:Env),(∀x∈E,β.di x.id=x.di∧β.val x.id=x.val∧β.nb x.id=x.nb)→
   af w av β (aO i j cs ts ds).1 us∧∀x∈E,x.ok w av β
 | j,[],ts,ds,us,mb,hm=>by
  simp only[bc] at hm
  obtain⟨rfl,rfl,rfl,rfl⟩:=hm
  exact⟨[],rfl,rfl,fun av β _=>⟨by simp [aO,af],by simp⟩⟩
 | j,.int k::cs,ts,ds,us,mb,hm=>by
  simp only[bc] at hm
  obtain⟨d,aW,v,aR,rfl,rfl,h1,hm⟩:=hm
  obtain⟨E,e1,e2,e3⟩:=dt (j+1) cs ts aW aR mb hm
  refine⟨E,by simpa only[aO,List.tail_cons] using e1,e2,fun av β hb=> ?_⟩
  obtain⟨k1,k2⟩:=e3 av β hb
  refine⟨?_,k2⟩
  simp only[aO,List.headD_cons,List.tail_cons,af]
  exact⟨v,aR,rfl,ew h1 (by simp),k1⟩
 | j,.bool::cs,ts,ds,us,mb,hm=>by
  simp only[bc] at hm
  obtain⟨d,aW,v,aR,rfl,rfl,h1,hm⟩:=hm
  obtain⟨E,e1,e2,e3⟩:=dt (j+1) cs ts aW aR mb hm
  refine⟨E,by simpa only[aO,List.tail_cons] using e1,e2,fun av β hb=> ?_⟩
  obtain⟨k1,k2⟩:=e3 av β hb
  refine⟨?_,k2⟩
  simp only[aO,List.headD_cons,List.tail_cons,af]
  exact⟨v,aR,rfl,ew h1 (by simp),k1⟩
 | j,.str::cs,ts,ds,us,mb,hm=>by
  simp only[bc] at hm
  obtain⟨d,aW,v,aR,rfl,rfl,h1,hm⟩:=hm
  obtain⟨E,e1,e2,e3⟩:=dt (j+1) cs ts aW aR mb hm
  refine⟨E,by simpa only[aO,List.tail_cons] using e1,e2,fun av β hb=> ?_⟩
  obtain⟨k1,k2⟩:=e3 av β hb
  refine⟨?_,k2⟩
  simp only[aO,List.headD_cons,List.tail_cons,af]
  exact⟨v,aR,rfl,ew h1 (by simp),k1⟩
 | j,.sl e::cs,ts,ds,us,mb,hm=>by
  simp only[bc] at hm
  obtain⟨t,dE,rows,aW,v,aR,m1,gl,rfl,rfl,rfl,GA,hm,rfl⟩:=hm
  obtain⟨E,e1,e2,e3⟩:=dt (j+1) cs dE aW aR gl hm
  have one:∃nb:List Nat,∀(av:Nat→Prop) (β:Env),β.val (pid i j)=v→β.nb (pid i j)=nb→fA w av β (pid i j) (fN t e rows) m1∧ao β (pid i j) (fN t e rows)=m1:=by
   cases t with
   | flat t=>
    obtain⟨dZ,vals,az,h1,h2,rfl⟩:=GA
    refine⟨[],fun av β hv hn=>⟨⟨vals,az,by rw[hv];exact h1,h2,by rw[iX dZ h2];simp, ?_⟩, ?_⟩⟩
    ·rw[hv,iX dZ h2]
     simp
    ·simp only[fN,ao,hv]
   | deep t its=>
    obtain⟨vals,aN,h1,h2,rfl⟩:=GA
    exact⟨aN.flatten,fun av β hv hn=>⟨⟨vals,aN,by rw[hv];exact h1,h2,hn,by rw[hv]⟩,by simp only[fN,ao,hv,hn]⟩⟩
  obtain⟨nb,one⟩:=one
  refine⟨⟨pid i j,fN t e rows,0,v,m1,nb⟩::E, ?_, ?_,fun av β hb=> ?_⟩
  ·simp only[aO,List.headD_cons,List.tail_cons,List.map_cons,e1,DC.cX]
  ·simp only[List.flatMap_cons,e2]
  ·obtain⟨k1,k2⟩:=e3 av β (fun x hx=>hb x (List.mem_cons_of_mem _ hx))
   have hv:=(hb _ (List.mem_cons_self ..)).2
   simp only at hv
   refine⟨?_,fun x hx=> ?_⟩
   ·simp only[aO,List.headD_cons,List.tail_cons,af]
    refine⟨v,aR,rfl, ?_,k1⟩
    simp only[ak]
    exact⟨hv.1.symm,GA.one⟩
   ·rcases List.mem_cons.1 hx with rfl | hx
    ·exact one av β hv.1 hv.2
    ·exact k2 x hx
theorem gv.lt {t:TT} {e:List CT} {rows:List (List DC)} {v:Value} {mb:List Nat} (h:gv w t e rows v mb):∀b∈mb,b<w.heap.size:=by
 cases t with
 | flat t=>
  obtain⟨_,vals,az,h1,_,rfl⟩:=h
  exact h1.lt
 | deep t its=>
  obtain⟨vals,aN,h1,h2,rfl⟩:=h
  intro b hb
  rcases List.mem_append.1 hb with hb | hb
  ·exact h1.lt b hb
  ·exact h2.lt b hb
theorem gv.reads {t:TT} {e:List CT} {rows:List (List DC)} {v:Value} {mb:List Nat} (h:gv w t e rows v mb):∃tt vals az,bW w tt e.length false v rows.length vals∧dC w e rows vals az:=by
 cases t with
 | flat t=>
  obtain⟨_,vals,az,h1,h2,_⟩:=h
  exact⟨t,vals,az,h1,h2⟩
 | deep t its=>
  obtain⟨vals,aN,h1,h2,_⟩:=h
  obtain⟨az,h3,_⟩:=h2.reads
  exact⟨t,vals,az,h1,h3⟩
theorem bc.length:∀(cs:List CT) (ts:List TT) (ds:List DC) (us:List Value) (mb:List Nat),bc w cs ts ds us mb→ds.length=cs.length
 | [],ts,ds,us,mb,h=>by simp only[bc] at h;simp [h.2.1]
 | .sl e::cs,ts,ds,us,mb,h=>by
  simp only[bc] at h
  obtain⟨t,dE,rows,aW,v,aR,m1,gl,rfl,rfl,rfl,_,h,_⟩:=h
  simp [bc.length cs dE aW aR gl h]
 | .int k::cs,ts,ds,us,mb,h=>by
  simp only[bc] at h
  obtain⟨d,aW,v,aR,rfl,rfl,_,h⟩:=h
  simp [bc.length cs ts aW aR mb h]
 | .bool::cs,ts,ds,us,mb,h=>by
  simp only[bc] at h
  obtain⟨d,aW,v,aR,rfl,rfl,_,h⟩:=h
  simp [bc.length cs ts aW aR mb h]
 | .str::cs,ts,ds,us,mb,h=>by
  simp only[bc] at h
  obtain⟨d,aW,v,aR,rfl,rfl,_,h⟩:=h
  simp [bc.length cs ts aW aR mb h]
theorem iB:∀(j:Nat) (cs:List CT) (ts:List TT) (d1 d2:List DC),cs.length≤d1.length→aO i j cs ts (d1++d2)=aO i j cs ts d1
 | _,[],_,_,_,_=>rfl
 | j,c::cs,ts,d1,d2,hl=>by
  cases d1 with
  | nil=>simp at hl
  | cons x d1=>
   have F0:cs.length≤d1.length:=by simpa using hl
   cases c<;>simp only[List.cons_append,aO,List.headD_cons,List.tail_cons]<;>rw[iB _ cs _ d1 d2 F0]
theorem CV:∀(i:Nat) (ks:List AK) (ms:List (Option MK)) (ds:List DC) (vs:List Value) (fp mb:List Nat),cu w ks ms ds vs fp mb→
  ∃E:List EN,(cM i ks ms ds).2=E.map (fun x=>(x.id,x.o))∧E.flatMap (·.φ)=mb∧∀(av:Nat→Prop) (β:Env),(∀x∈E,β.di x.id=x.di∧β.val x.id=x.val∧β.nb x.id=x.nb)→(∀b∈fp,¬av b)→
   (∀n,iO (cM i ks ms ds).1 n= .eY∨∃j v,n=i+j∧vs[j]? =some v∧ak w av β (iO (cM i ks ms ds).1 n) v)∧∀x∈E,x.ok w av β
 | i,[],ms,ds,vs,fp,mb,hm=>by
  simp only[cu] at hm
  obtain⟨rfl,rfl,rfl,rfl,rfl⟩:=hm
  exact⟨[],rfl,rfl,fun av β _ _=>⟨fun n=> .inl rfl,by simp⟩⟩
 | i,k::ks,ms,ds,vs,fp,mb,hm=>by
  simp only[cu] at hm
  obtain⟨m,ms,d1,d2,v,vs,f1,f2,b1,b2,rfl,rfl,rfl,ha,hm,rfl,rfl⟩:=hm
  obtain⟨E,e1,e2,e3⟩:=CV (i+1) ks ms d2 vs f2 b2 hm
  have step:∀(av:Nat→Prop) (β:Env) (s:SV) (l:List (Nat×SV)),(∀n,iO l n= .eY∨∃j u,n=i+1+j∧vs[j]? =some u∧ak w av β (iO l n) u)→ak w av β s v→
    ∀n,iO ((i,s)::l) n= .eY∨∃j u,n=i+j∧(v::vs)[j]? =some u∧ak w av β (iO ((i,s)::l) n) u:=by
   intro av β s l hl hs n
   simp only[iO]
   cases hk:Nat.beq i n
   ·simp only[cond_false]
    rcases hl n with h3 | ⟨j,u,hn,hj,hu⟩
    ·exact .inl h3
    ·exact .inr ⟨j+1,u,by omega,by simpa using hj,hu⟩
   ·have:=Nat.eq_of_beq_eq_true hk
    subst this
    simp only[cond_true]
    exact .inr ⟨0,v,rfl,rfl,hs⟩
  cases m with
  | none=>
   simp only[iY] at ha
   obtain⟨ha,rfl⟩:=ha
   have hl:d1.length=k.cb.length:=by
    obtain⟨us,_,_,hr,_⟩:=ha
    exact aS.length _ _ _ _ hr
   have B1:(d1++d2).drop k.cb.length=d2:=by rw[←hl,List.drop_left]
   refine⟨E,by simp only[cM,List.headD_cons,List.tail_cons,B1,e1],by simpa using e2,fun av β hb CR=> ?_⟩
   obtain⟨k1,k2⟩:=e3 av β hb (fun b hb=>CR b (List.mem_append_right _ hb))
   refine⟨?_,k2⟩
   simp only[cM,List.headD_cons,List.tail_cons,B1]
   refine step av β _ _ k1 ?_
   rw[ia _ _ _ _ (by omega)]
   exact DG ha (fun b hb=>CR b (List.mem_append_left _ hb))
  | some m=>
   cases m with
   | box t=>
    simp only[iY] at ha
    obtain⟨g,us,rfl,hg,bg,hr,L_,rfl⟩:=ha
    have hl:d1.length=k.cb.length:=aS.length _ _ _ _ hr
    have B1:(d1++d2).drop k.cb.length=d2:=by rw[←hl,List.drop_left]
    refine⟨⟨pid i 0,.box t (bM k.cb d1 0),g,undef,[g],[]⟩::E, ?_,by simp [e2],fun av β hb CR=> ?_⟩
    ·simp only[cM,List.headD_cons,List.tail_cons,B1,e1,List.map_cons]
     rw[ia _ _ _ _ (by omega)]
    ·obtain⟨k1,k2⟩:=e3 av β (fun x hx=>hb x (List.mem_cons_of_mem _ hx)) (fun b hb=>CR b (List.mem_append_right _ hb))
     have D3:=(hb _ (List.mem_cons_self ..)).1
     simp only at D3
     refine⟨?_,fun x hx=> ?_⟩
     ·simp only[cM,List.headD_cons,List.tail_cons,B1]
      refine step av β _ _ k1 ?_
      simp only[ak,D3]
     ·rcases List.mem_cons.1 hx with rfl | hx
      ·obtain⟨cx,l1,l2,l3,l4⟩:=aS.bE (β:=β) (av:=av) hr (fun b hb=>CR b (List.mem_append_left _ hb)) k.cb.length 0 (by omega)
       have ee:cx=us:=by
        apply List.ext_getElem?
        intro j
        by_cases hj:j<cx.length
        ·have:=l2 j cx[j] (by simp)
         simp only[Nat.zero_add] at this
         rw[this]
         simp
        ·rw[List.getElem?_eq_none (by omega),List.getElem?_eq_none (by omega)]
       subst ee
       simp only[List.drop_zero,List.take_length] at l3
       exact⟨⟨cx,by rw[D3];exact hg,l3,bg,by simp only[D3]⟩,by simp only[ao,D3]⟩
      ·exact k2 x hx
   | rows ts=>
    simp only[iY] at ha
    obtain⟨us,iw,bg,Dv,rfl⟩:=ha
    obtain⟨E1,a1,a2,a3⟩:=dt (i:=i) 0 k.cb ts d1 us b1 Dv
    have hl:d1.length=k.cb.length:=bc.length _ _ _ _ _ Dv
    have B1:(d1++d2).drop k.cb.length=d2:=by rw[←hl,List.drop_left]
    have KF:aO i 0 k.cb ts (d1++d2)=aO i 0 k.cb ts d1:=iB _ _ _ _ _ (by omega)
    refine⟨E1++E, ?_,by simp [a2,e2],fun av β hb CR=> ?_⟩
    ·simp only[cM,List.headD_cons,List.tail_cons,B1,KF,e1,a1,List.map_append]
    ·obtain⟨k1,k2⟩:=e3 av β (fun x hx=>hb x (List.mem_append_right _ hx)) (fun b hb=>CR b (by simpa using hb))
     obtain⟨c1,c2⟩:=a3 av β (fun x hx=>hb x (List.mem_append_left _ hx))
     refine⟨?_,fun x hx=> ?_⟩
     ·simp only[cM,List.headD_cons,List.tail_cons,B1,KF]
      refine step av β _ _ k1 ?_
      cases hk:k.agg with
      | true=>
       rw[hk] at iw
       simp only[cond_true] at iw ⊢
       simp only[ak]
       exact⟨us,iw,c1,bg⟩
      | false=>
       rw[hk] at iw
       simp only[cond_false] at iw ⊢
       rw[iw.1] at c1
       generalize (aO i 0 k.cb ts d1).1=q at c1
       cases q with
       | nil=>simp [af] at c1
       | cons y l=>
        simp only[af] at c1
        obtain⟨v',l',e0,e5,_⟩:=c1
        injection e0 with e0
        subst e0
        simpa using e5
     ·rcases List.mem_append.1 hx with hx | hx
      ·exact c2 x hx
      ·exact k2 x hx
theorem bc.lt:∀(cs:List CT) (ts:List TT) (ds:List DC) (us:List Value) (mb:List Nat),bc w cs ts ds us mb→∀b∈mb,b<w.heap.size
 | [],ts,ds,us,mb,h=>by simp only[bc] at h;simp [h.2.2.2]
 | .sl e::cs,ts,ds,us,mb,h=>by
  simp only[bc] at h
  obtain⟨t,dE,rows,aW,v,aR,m1,gl,rfl,rfl,rfl,h1,h,rfl⟩:=h
  intro b hb
  rcases List.mem_append.1 hb with hb | hb
  ·exact h1.lt b hb
  ·exact bc.lt cs dE aW aR gl h b hb
 | .int k::cs,ts,ds,us,mb,h=>by
  simp only[bc] at h
  obtain⟨d,aW,v,aR,rfl,rfl,_,h⟩:=h
  exact bc.lt cs ts aW aR mb h
 | .bool::cs,ts,ds,us,mb,h=>by
  simp only[bc] at h
  obtain⟨d,aW,v,aR,rfl,rfl,_,h⟩:=h
  exact bc.lt cs ts aW aR mb h
 | .str::cs,ts,ds,us,mb,h=>by
  simp only[bc] at h
  obtain⟨d,aW,v,aR,rfl,rfl,_,h⟩:=h
  exact bc.lt cs ts aW aR mb h
theorem cu.facts:∀(ks:List AK) (ms:List (Option MK)) (ds:List DC) (vs:List Value) (fp mb:List Nat),cu w ks ms ds vs fp mb→(∀b∈mb,b<w.heap.size)∧(∀b∈fp,b<w.heap.size)∧vs.length=ks.length
 | [],ms,ds,vs,fp,mb,h=>by
  simp only[cu] at h
  obtain⟨_,_,rfl,rfl,rfl⟩:=h
  simp
 | k::ks,ms,ds,vs,fp,mb,h=>by
  simp only[cu] at h
  obtain⟨m,Dx,d1,d2,v,cx,f1,f2,b1,b2,rfl,rfl,rfl,ha,h,rfl,rfl⟩:=h
  obtain⟨k1,k2,k3⟩:=cu.facts ks Dx d2 cx f2 b2 h
  have one:(∀b∈b1,b<w.heap.size)∧∀b∈f1,b<w.heap.size:=by
   cases m with
   | none=>
    simp only[iY] at ha
    obtain⟨⟨us,_,_,hr,_⟩,rfl⟩:=ha
    exact⟨by simp,aS.lt _ _ _ _ hr⟩
   | some m=>
    cases m with
    | box t=>
     simp only[iY] at ha
     obtain⟨g,us,_,hg,_,hr,_,rfl⟩:=ha
     refine⟨fun b hb=> ?_,aS.lt _ _ _ _ hr⟩
     simp only[List.mem_singleton] at hb
     subst hb
     exact (Array.getElem?_eq_some_iff.1 hg).1
    | rows ts=>
     simp only[iY] at ha
     obtain⟨us,_,_,Dv,rfl⟩:=ha
     exact⟨bc.lt _ _ _ _ _ Dv,by simp⟩
  refine⟨fun b hb=> ?_,fun b hb=> ?_,by simp [k3]⟩
  ·rcases List.mem_append.1 hb with hb | hb
   ·exact one.1 b hb
   ·exact k1 b hb
  ·rcases List.mem_append.1 hb with hb | hb
   ·exact one.2 b hb
   ·exact k2 b hb
theorem lH {E:List EN} (h:(E.flatMap (·.φ)).Nodup):(∀x∈E,x.φ.Nodup)∧∀x∈E,∀y∈E,x≠y→∀b∈x.φ,b ∉ y.φ:=by
 induction E with
 | nil=>simp
 | cons z l ih=>
  rw[List.flatMap_cons,List.nodup_append] at h
  obtain⟨h1,h2,h3⟩:=h
  obtain⟨i1,i2⟩:=ih h2
  refine⟨fun x hx=> ?_,fun x hx y hy mO b hb ax=> ?_⟩
  ·rcases List.mem_cons.1 hx with rfl | hx
   ·exact h1
   ·exact i1 x hx
  ·rcases List.mem_cons.1 hx with Bc | Bc<;>rcases List.mem_cons.1 hy with Bd | Bd
   ·exact mO (Bc.trans Bd.symm)
   ·subst Bc
    exact h3 b hb b (List.mem_flatMap.2 ⟨y,Bd,ax⟩) rfl
   ·subst Bd
    exact h3 b ax b (List.mem_flatMap.2 ⟨x,Bc,hb⟩) rfl
   ·exact i2 x Bc y Bd mO b hb ax
theorem eF.count {w:World} :∀(Bm:List RK) (ds:List DC) (vs:List Value) (φ im tp:List Nat),eF w Bm ds vs φ im tp→ds.length=ch Bm
 | [],ds,vs,φ,im,tp,h=>by simp only[eF] at h;simp [h.1,ch]
 | r::rs,ds,vs,φ,im,tp,h=>by
  simp only[eF] at h
  obtain⟨d1,d2,v,cx,us,Ds,AG,i1,i2,t1,t2,rfl,rfl,_,_,h1,h2,_⟩:=h
  simp only[List.length_append,ch,cO.length _ _ _ _ _ _ h1,eF.count rs d2 cx _ _ _ h2]
theorem bc.wt:∀(cs:List CT) (ts:List TT) (ds:List DC) (us:List Value) (mb:List Nat),bc w cs ts ds us mb→jI cs ds
 | [],ts,ds,us,mb,h=>by simp only[bc] at h;simp only[jI];exact h.2.1
 | .sl e::cs,ts,ds,us,mb,h=>by
  simp only[bc] at h
  obtain⟨t,dE,rows,aW,v,aR,m1,gl,rfl,rfl,rfl,GA,h,_⟩:=h
  obtain⟨tt,vals,az,h1,h2⟩:=GA.reads
  simp only[jI,Gk]
  refine⟨_,_,rfl,⟨rows,rfl, ?_,fun r hr=> ?_⟩,bc.wt cs dE aW aR gl h⟩
  ·rcases h1.2 with ⟨_,hn,_⟩ | ⟨g,cap,cur,_,_,h3,h4,_⟩
   ·rw[hn];exact Nat.zero_le _
   ·omega
  ·obtain⟨i,hi,rfl⟩:=List.getElem_of_mem hr
   have dD:i<az.length:=by have:=h2.1;omega
   exact aS.wt e _ _ _ (h2.2 i rows[i] az[i] (by simp) (by simp [dD]))
 | .int k::cs,ts,ds,us,mb,h=>by
  simp only[bc] at h
  obtain⟨d,aW,v,aR,rfl,rfl,h1,h⟩:=h
  simp only[jI]
  exact⟨d,aW,rfl,bQ.wt _ _ _ _ h1,bc.wt cs ts aW aR mb h⟩
 | .bool::cs,ts,ds,us,mb,h=>by
  simp only[bc] at h
  obtain⟨d,aW,v,aR,rfl,rfl,h1,h⟩:=h
  simp only[jI]
  exact⟨d,aW,rfl,bQ.wt _ _ _ _ h1,bc.wt cs ts aW aR mb h⟩
 | .str::cs,ts,ds,us,mb,h=>by
  simp only[bc] at h
  obtain⟨d,aW,v,aR,rfl,rfl,h1,h⟩:=h
  simp only[jI]
  exact⟨d,aW,rfl,bQ.wt _ _ _ _ h1,bc.wt cs ts aW aR mb h⟩
theorem cu.wt:∀(ks:List AK) (ms:List (Option MK)) (ds:List DC) (vs:List Value) (fp mb:List Nat),cu w ks ms ds vs fp mb→jI (gC ks) ds
 | [],ms,ds,vs,fp,mb,h=>by
  simp only[cu] at h
  simp only[gC,jI]
  exact h.2.1
 | k::ks,ms,ds,vs,fp,mb,h=>by
  simp only[cu] at h
  obtain⟨m,Dx,d1,d2,v,cx,f1,f2,b1,b2,rfl,rfl,rfl,ha,h,_⟩:=h
  refine jI.append ?_ (cu.wt ks Dx d2 cx f2 b2 h)
  cases m with
  | none=>
   simp only[iY] at ha
   obtain⟨⟨us,_,_,hr,_⟩,_⟩:=ha
   exact aS.wt _ _ _ _ hr
  | some m=>
   cases m with
   | box t=>
    simp only[iY] at ha
    obtain⟨g,us,_,_,_,hr,_⟩:=ha
    exact aS.wt _ _ _ _ hr
   | rows ts=>
    simp only[iY] at ha
    obtain⟨us,_,_,Dv,_⟩:=ha
    exact bc.wt _ _ _ _ _ Dv
def Dw:List EN→Nat→Option EN
 | [],_=>none
 | x::l,i=>if i=x.id then some x else Dw l i
theorem jn {E:List EN} {j:Nat} {x:EN} (h:Dw E j=some x):x∈E∧x.id=j:=by
 induction E with
 | nil=>simp [Dw] at h
 | cons y l ih=>
  simp only[Dw] at h
  split at h
  ·rename_i hj
   injection h with h
   subst h
   exact⟨List.mem_cons_self ..,hj.symm⟩
  ·obtain⟨h1,h2⟩:=ih h
   exact⟨List.mem_cons_of_mem _ h1,h2⟩
theorem Ex {E:List EN} {x:EN} (hx:x∈E) (hn:(E.map (·.id)).Nodup):Dw E x.id=some x:=by
 induction E with
 | nil=>simp at hx
 | cons y l ih=>
  simp only[List.map_cons,List.nodup_cons] at hn
  simp only[Dw]
  rcases List.mem_cons.1 hx with rfl | hx
  ·simp
  ·have:x.id≠y.id:=fun e=>hn.1 (e ▸ List.mem_map_of_mem hx)
   rw[if_neg this]
   exact ih hx hn.2
theorem Bg {E:List EN} {j:Nat} {o:ai} (h:de (E.map fun x=>(x.id,x.o)) j=some o):∃x,Dw E j=some x∧x.o=o:=by
 induction E with
 | nil=>simp [de] at h
 | cons y l ih=>
  simp only[List.map_cons,de] at h
  simp only[Dw]
  cases hb:Nat.beq y.id j
  ·rw[hb] at h
   rw[if_neg (fun e=>Nat.ne_of_beq_eq_false hb e.symm)]
   exact ih h
  ·rw[hb] at h
   have:=Nat.eq_of_beq_eq_true hb
   subst this
   simp only[cond_true,Option.some.injEq] at h
   exact⟨y,by simp,h⟩
theorem CL {fn:Func} {s:Sum} {st:St} {r:List DC} (h:mi P fn s st=(true,r)):st.ok=true:=by
 unfold mi at h
 split at h
 ·simp only[Prod.mk.injEq,Bool.and_eq_true] at h
  exact h.1.1.1
 ·exact absurd h bu
theorem mG {fn:Func} {s:Sum} {st:St} {r:List DC} {w w':World} {ds:List DC} {vals:List Value} {fp mb:List Nat} {a:Act} (Al:shares s=false) (hm:cu w s.ps s.ms ds vals fp mb)
  (h:mi P fn s st=(true,r)) (hR:Rel w ⟨fun b=>b∈mb,fun b=>b<w.heap.size∧b ∉ fp∧b ∉ mb,(vals.zipIdx.filter (fun x=>Nat.blt x.2 (kS s.ms))).map (fun x=>(x.2,x.1))⟩ st a w'):
  a.defers=[]∧∃v,(results fn a.tmps).run P w'= .ok v w'∧∃vs φ im tp mg rd od ψ,Ending.returned v= .returned (pack vs)∧r=rd++od∧rd.length=ch s.rs∧Kept ⟨fun b=>b∈mb,fun _=>False,[]⟩ w w'∧eF w' s.rs rd vs φ im tp∧φ.Nodup∧
   (∀b∈φ,w.heap.size≤b∧b<w'.heap.size)∧lu w' s.ps s.ms od vals mg ψ∧ψ.Nodup∧(∀b∈ψ,(b∈mb∨w.heap.size≤b)∧b<w'.heap.size∧b ∉ φ)∧∀b∈mg,(b∈fp∨w.heap.size≤b)∧b ∉ tp∧b ∉ ψ:=by
 obtain⟨_,_,Cd⟩:=cu.facts _ _ _ _ _ _ hm
 unfold mi at h
 split at h
 case h_2=>exact absurd h bu
 rename_i rd own im od ids x hr
 simp only[Prod.mk.injEq,Bool.and_eq_true] at h
 obtain⟨⟨⟨_,a8⟩,CS⟩,rfl⟩:=h
 obtain⟨β,φ,hc⟩:=hR.core
 have hval:=M.dP _ hr
 simp only[M.ae,Option.bind_eq_some_iff,M.aa,Option.some.injEq,Prod.mk.injEq] at hval
 obtain⟨ss,h1,q,h2,q2,h3,e1,e2⟩:=hval
 subst e1
 subst e2
 obtain⟨vs,g1,g2⟩:=ig hc _ _ h1
 obtain⟨φ',Ep,AF,k1,k2,k3,k4,k5⟩:=iI hc _ _ _ _ g2 h2
 have Ls:∀(j:Nat) v m,vals[j]? =some v→s.ms[j]? =some (some m)→a.tmps.getD (0+j) undef=v:=by
  intro j v m hj hm
  have:=(hR.fx (j,v) (List.mem_map.2 ⟨(v,j),List.mem_filter.2 ⟨by rw[List.mem_zipIdx_iff_getElem?];exact hj,Nat.ble_eq_true_of_le (CZ hm)⟩,rfl⟩)).2
  simpa using this
 obtain⟨mg,ψ,o1,o2,o4,o5,o6,o3⟩:=ll hc 0 s.ps s.ms vals _ Ls Cd h3
 have hnd:=eO a8
 rw[List.nodup_append] at hnd
 have IC:∀b∈ψ,∀i∈own,∀o,st.obj i=some o→b ∉ φ i:=by
  intro b hb i hi o A3 BH
  obtain⟨id,db,o',eW,iv⟩:=o5 b hb
  have cm:i≠id:=fun e=>hnd.2.2 i hi id db e
  exact absurd (aj (hc.aB _ _ eW) b iv) (hc.sep i id o o' cm A3 eW b BH)
 have G3:∀b∈ψ,b ∉ φ':=by
  intro b hb e_
  obtain⟨i,hi,⟨o,A3⟩,BH⟩:=k2 b e_
  exact IC b hb i hi o A3 BH
 have IB:∀b∈ψ,Av st.obj β b:=fun b hb=>by
  obtain⟨id,db,o',eW,iv⟩:=o5 b hb
  exact .inl ⟨id,o',eW,iv⟩
 have A1:∀b∈mg,b<w.heap.size→b ∉ fp→False:=by
  intro b hb cd hf
  rcases Bool.or_eq_true_iff.1 CS with Fg | Fg
  ·have F2:∀b∈mb,∃id∈ids,∃o,st.obj id=some o∧b∈ao β id o:=o3 Fg w ds fp mb hm
   have cA:=o2 b hb
   have Ic:b ∉ mb:=fun HJ=>by
    obtain⟨id,db,o',eW,iv⟩:=F2 b HJ
    exact cA (.inl ⟨id,o',eW,iv⟩)
   refine absurd (.inr ?_) cA
   rw[hc.bars]
   exact⟨cd,hf,Ic⟩
  ·rw[Bool.and_eq_true] at Fg
   rw[o4 Fg.1] at hb
   simp at hb
 refine⟨hR.defers,pack vs,ky g1,vs,φ',Ep,AF,mg,rd,od,ψ,rfl,rfl,eF.count _ _ _ _ _ _ k1,⟨hR.kept.os,hR.kept.tape,hR.kept.output,hR.kept.size,hR.kept.block⟩,k1,k4 hnd.1, ?_,o1,o6 hnd.2.1, ?_, ?_⟩
 ·intro b hb
  obtain⟨i,hi,⟨o,A3⟩,BH⟩:=k2 b hb
  have hf:=(hc.fresh i o A3).2 b BH
  rcases hf.1 with h4 | h4
  ·exact⟨h4,hf.2⟩
  ·rcases Bool.or_eq_true_iff.1 CS with Fg | Fg
   ·obtain⟨id,db,o',eW,iv⟩:=o3 Fg w ds fp mb hm b h4
    have cm:i≠id:=fun e=>hnd.2.2 i hi id db e
    exact absurd (aj (hc.aB _ _ eW) b iv) (hc.sep i id o o' cm A3 eW b BH)
   ·rw[Bool.and_eq_true] at Fg
    rw[List.isEmpty_iff.1 Fg.2] at hi
    simp at hi
 ·intro b hb
  obtain⟨id,db,o',eW,iv⟩:=o5 b hb
  have hf:=(hc.fresh id o' eW).2 b (aj (hc.aB _ _ eW) b iv)
  exact⟨hf.1.symm,hf.2,G3 b hb⟩
 ·intro b hb
  have cA:=o2 b hb
  refine⟨?_,fun iv=> ?_,fun Jr=>cA (IB b Jr)⟩
  ·by_cases cd:b<w.heap.size
   ·by_cases hf:b∈fp
    ·exact .inl hf
    ·exact (A1 b hb cd hf).elim
   ·exact .inr (by omega)
  ·obtain⟨j,oj,_,hj,bn⟩:=k3 b iv
   exact cA (.inl ⟨j,oj,hj,bn⟩)
theorem EY (d_:bt P Γ) {g:Nat} {fn:Func} {s:Sum} (hf:P.funcs[g]? =some fn) (Gy:fn.body.isSome=true) (hn:(fn.name== "runtime.NumGoroutine")=false) (hlen:s.ps.length≤fn.ntmps) (F5:fn.ntmps<1099511627776)
  (Al:shares s=false) (db:∀ds,ea ((cM 0 s.ps s.ms ds).2.map (·.1))=true)
  (h:∀ds,jI (gC s.ps) ds→(s.fn ds).1=true→∃N,Gg P Γ A N fn s ds=(true,(s.fn ds).2)):BO P g s:=by
 refine⟨⟨fn,hf,Gy,hn⟩,fun w ds vals fp mb cv H5 JP aF=> ?_⟩
 obtain⟨N,bj⟩:=h ds (cu.wt _ _ _ _ _ _ cv) aF
 obtain⟨c,hc⟩:=Option.isSome_iff_exists.1 Gy
 unfold Gg at bj
 rw[hc] at bj
 simp only at bj
 obtain⟨JR,Lr,Cd⟩:=cu.facts _ _ _ _ _ _ cv
 refine calls_of_wp hf hc ?_
 let S:Own:=⟨fun b=>b∈mb,fun b=>b<w.heap.size∧b ∉ fp∧b ∉ mb,(vals.zipIdx.filter (fun x=>Nat.blt x.2 (kS s.ms))).map (fun x=>(x.2,x.1))⟩
 obtain⟨E,e1,e2,e3⟩:=CV 0 s.ps s.ms ds vals fp mb cv
 have JG:(E.map (·.id)).Nodup:=by
  have:=eO (db ds)
  rw[e1,List.map_map] at this
  exact this
 let β:Env:=⟨fun j=>match Dw E j with | some x=>x.di | none=>0,fun j=>match Dw E j with | some x=>x.val | none=>undef,S.gr,fun j=>match Dw E j with | some x=>x.nb | none=>[]⟩
 have fS:∀x∈E,β.di x.id=x.di∧β.val x.id=x.val∧β.nb x.id=x.nb:=by
  intro x hx
  simp only[β,Ex hx JG,and_self]
 have Eo:∀x∈E,∀b∈x.φ,b∈mb:=fun x hx b hb=>by rw[←e2];exact List.mem_flatMap.2 ⟨x,hx,hb⟩
 have mL:∀x∈E,ao β x.id x.o=x.φ:=fun x hx=>((e3 (fun _=>False) β fS (fun _ _ h=>h)).2 x hx).2
 have GR:∀b∈fp,¬Av (de (cM 0 s.ps s.ms ds).2) β b:=by
  rintro b hb (⟨j,o,ho,iv⟩ | hx)
  ·rw[e1] at ho
   obtain⟨x,hx,rfl⟩:=Bg ho
   obtain⟨hm,rfl⟩:=jn hx
   rw[mL x hm] at iv
   exact JP b (Eo x hm b iv) hb
  ·exact hx.2.1 hb
 obtain⟨jW,aM⟩:=e3 (Av (de (cM 0 s.ps s.ms ds).2) β) β fS GR
 have hR:Rel w S {n:=fn.ntmps+kS s.ms*1099511627776,sl:=(cM 0 s.ps s.ms ds).1,hp:=(cM 0 s.ps s.ms ds).2,ok:=true,ls:=[],lm:=[]} {tmps:=vals.toArray++Array.replicate (fn.ntmps - vals.toArray.size) undef,defers:=[]} w:=by
  have mm:∀(j:Nat) v,vals[j]? =some v→(vals.toArray++Array.replicate (fn.ntmps - vals.toArray.size) undef).getD j undef=v:=by
   intro j v hj
   have GL:j<vals.length:=(List.getElem?_eq_some_iff.1 hj).1
   rw[Array.getD_eq_getD_getElem?,Array.getElem?_append_left (by simp;omega)]
   simp [hj]
  refine⟨by simp;omega, ?_,rfl,⟨rfl,rfl,rfl,Nat.le_refl _,fun _ _ _=>rfl⟩,β,fun j=>match Dw E j with | some x=>x.φ | none=>[], ?_⟩
  ·intro x hx
   obtain⟨⟨v,j⟩,Iu,rfl⟩:=List.mem_map.1 hx
   obtain⟨Iu,KH⟩:=List.mem_filter.1 Iu
   have KH:j<kS s.ms:=Nat.le_of_ble_eq_true KH
   rw[List.mem_zipIdx_iff_getElem?] at Iu
   have GL:j<vals.length:=(List.getElem?_eq_some_iff.1 Iu).1
   exact⟨by simp only;omega,mm j v Iu⟩
  ·refine⟨fun i=> ?_,fun id o ho=> ?_,fun id o ho=> ?_,fun i j oi oj cm hi hj b hb=> ?_,fun b hb=>⟨hb.1,hb.2.2⟩,rfl⟩
   ·rcases jW i with h1 | ⟨j,v,hi,hj,hs⟩
    ·show ak w _ _ (iO (cM 0 s.ps s.ms ds).1 i) _
     rw[h1]
     simp [ak]
    ·have:i=j:=by omega
     subst this
     rw[mm i v hj]
     exact hs
   ·have eW:de (cM 0 s.ps s.ms ds).2 id=some o:=ho
    rw[e1] at eW
    obtain⟨x,hx,rfl⟩:=Bg eW
    obtain⟨hm,rfl⟩:=jn hx
    simp only[hx]
    exact (aM x hm).1
   ·have eW:de (cM 0 s.ps s.ms ds).2 id=some o:=ho
    rw[e1] at eW
    obtain⟨x,hx,rfl⟩:=Bg eW
    obtain⟨hm,rfl⟩:=jn hx
    simp only[hx]
    refine⟨?_,fun b hb=>⟨.inr (Eo x hm b hb),JR b (Eo x hm b hb)⟩⟩
    exact (lH (E:=E) (by rw[e2];exact H5)).1 x hm
   ·have dD:de (cM 0 s.ps s.ms ds).2 i=some oi:=hi
    have fJ:de (cM 0 s.ps s.ms ds).2 j=some oj:=hj
    rw[e1] at dD fJ
    obtain⟨x,hx,rfl⟩:=Bg dD
    obtain⟨y,hy,rfl⟩:=Bg fJ
    simp only[hx] at hb
    simp only[hy]
    have Iw:=jn hx
    have Ja:=jn hy
    have mO:x≠y:=by
     rintro rfl
     exact cm (Iw.2.symm.trans Ja.2)
    exact (lH (E:=E) (by rw[e2];exact H5)).2 x Iw.1 y Ja.1 mO b hb
 refine cz (r:=(s.fn ds).2) d_ c _ {d5:=mi P fn s,ext:=fun _ _=>jK,ret:=mi P fn s} _ w _ ⟨fun st gN=>CL gN,fun i st gN=>absurd gN bu,fun st gN=>CL gN⟩ hR bj ⟨?_, ?_, ?_⟩
 ·intro st a w' d7 gN
  exact mG Al cv gN d7
 ·intro i st a w' _ gN
  exact absurd gN bu
 ·intro st a w' d7 gN
  exact mG Al cv gN d7
end
end Go.Proofs.YtngbcccnjiaddaaGreat.Vm
namespace Go.Proofs.YtngbcccnjiaddaaGreat.Vm
def Kn (P:Program) (Γ:Ctx) (A:List (Nat×kW)) (N:Nat) (fn:Func) (s:Sum) (p:List Bool) (is:List (St→ke)) (ih:St→ke) (st:St):ke:=
 match fn.body with
 | some c=>match focus P Γ A N p is c {d5:=mi P fn s,ext:=fun _ _=>jK,ret:=mi P fn s} with
  | (.loop a,K)=>match (cS a).bind (IE A) with
   | some an=>run P Γ A N a st {d5:=fun s'=>ih (canon P an s'),ext:=K.ext,ret:=K.ret}
   | none=>jK
  | _=>jK
 | none=>jK
end Go.Proofs.YtngbcccnjiaddaaGreat.Vm
