/- The value machine: runs, loops, contracts out of runs. Conditions: as each lemma says. -/
import Derived.Test.YtoaflbnkiobhdaaGreatVc
import Derived.LoopN
set_option linter.unusedVariables false
set_option linter.unusedSimpArgs false
namespace Go.Proofs.YtoaflbnkiobhdaaGreat.Vm
section
variable {P:Program} {Γ:Ctx} {w0:World} {S:Own} {ops:Array Oper} {gs:List Nat}
theorem gi {i:Nat} :∀ {l m:List Nat},i∈hZ l m→i∈l∨i∈m
 | [],m,h=> .inr h
 | k::l,m,h=>by
  simp only[hZ] at h
  cases hk:gZ k m
  ·simp only[hk,cond_false,List.mem_cons] at h
   rcases h with rfl | h
   ·exact .inl (List.mem_cons_self ..)
   ·exact (gi h).imp (List.mem_cons_of_mem _) id
  ·simp only[hk,cond_true] at h
   exact (gi h).imp (List.mem_cons_of_mem _) id
def lx (ops:Array Oper) (L:Nat→Bool) (k:Nat):Prop:=∀o,ops[k]? =some o→∀e∈o.after,Region.binds .any e=true→L e.on=true
theorem j7 {acc:List (List Nat)} {j:Nat} :∀(l:List Edge),j∈l.foldr (fun e r=>bif Region.binds .any e then hZ (hZ [e.on] (acc.getD e.on [])) r else r) []→
  ∃e∈l,Region.binds .any e=true∧(j=e.on∨j∈acc.getD e.on [])
 | [],h=>by simp at h
 | e::l,h=>by
  simp only[List.foldr_cons] at h
  cases hb:Region.binds .any e
  ·simp only[hb,cond_false] at h
   obtain⟨x,hx,h1⟩:=j7 l h
   exact⟨x,List.mem_cons_of_mem _ hx,h1⟩
  ·simp only[hb,cond_true] at h
   rcases gi h with h | h
   ·refine⟨e,List.mem_cons_self ..,hb, ?_⟩
    rcases gi h with h | h
    ·exact .inl (by simpa using h)
    ·exact .inr h
   ·obtain⟨x,hx,h1⟩:=j7 l h
    exact⟨x,List.mem_cons_of_mem _ hx,h1⟩
theorem mL {L:Nat→Bool} (A7:∀k,L k=true→lx ops L k):∀(l:List Oper) (acc:List (List Nat)) (pre:List Oper),ops.toList=pre++l→acc.length=pre.length→
  (∀k j,lx ops L k→j∈acc.getD k []→L j=true)→∀k j,lx ops L k→j∈(B9 l acc).getD k []→L j=true
 | [],acc,pre,_,_,h=>by simpa [B9] using h
 | o::l,acc,pre,IJ,hlen,h=>by
  rw[B9]
  refine mL A7 l _ (pre++[o]) (by simp [IJ]) (by simp [hlen]) ?_
  intro k j hk hj
  rcases Nat.lt_trichotomy k acc.length with cl | heq | FG
  ·refine h k j hk ?_
   rw[List.getD_eq_getElem?_getD,List.getElem?_append_left cl] at hj
   rwa [List.getD_eq_getElem?_getD]
  ·subst heq
   rw[List.getD_eq_getElem?_getD,List.getElem?_append_right (Nat.le_refl _)] at hj
   simp only[Nat.sub_self,List.getElem?_cons_zero,Option.getD_some] at hj
   obtain⟨e,he,hb,hj⟩:=j7 _ hj
   have ho:ops[acc.length]? =some o:=by
    rw[←Array.getElem?_toList,IJ,hlen]
    simp
   have hL:=hk o ho e (by simpa using he) hb
   rcases hj with rfl | hj
   ·exact hL
   ·exact h e.on j (A7 _ hL) hj
  ·rw[List.getD_eq_getElem?_getD,List.getElem?_eq_none (by simp;omega)] at hj
   simp at hj
theorem ji:∀(l:List Oper) (i:Nat),f_ l i=true→∀k o,l[k]? =some o→∀e∈o.after,Region.binds .any e=true→e.on<i+k
 | [],_,_,k,o,h,_,_,_=>by simp at h
 | x::l,i,h,k,o,hk,e,he,hb=>by
  simp only[f_,Bool.and_eq_true,List.all_eq_true] at h
  cases k with
  | zero=>
   simp only[List.getElem?_cons_zero,Option.some.injEq] at hk
   subst hk
   have:=h.1 e (by simpa using he)
   rw[hb] at this
   simp only[Bool.not_true,Bool.false_or] at this
   exact Nat.le_of_ble_eq_true this
  | succ k=>
   simp only[List.getElem?_cons_succ] at hk
   have:=ji l (i+1) h.2 k o hk e he hb
   omega
theorem jJ {an:List (List Nat)} {a:cq} :∀(l:List cq),lv an a l=true→∀b∈l,(du a b=true→a.i∈an.getD b.i [])∧j4 b a=false
 | [],_=>by simp
 | c::l,h=>by
  simp only[lv,Bool.and_eq_true,Bool.not_eq_true'] at h
  intro b hb
  rcases List.mem_cons.1 hb with rfl | hb
  ·refine⟨fun hc=> ?_,h.1.2⟩
   have:=h.1.1
   rw[hc] at this
   simp only[Bool.not_true,Bool.false_or] at this
   exact fR.1 this
  ·exact jJ l h.2 b hb
theorem lA {an:List (List Nat)} :∀(l:List cq),lz an l=true→l.Pairwise (fun a b=>(du a b=true→a.i∈an.getD b.i [])∧j4 b a=false)
 | [],_=> .nil
 | a::l,h=>by
  simp only[lz,Bool.and_eq_true] at h
  exact .cons (jJ l h.1) (lA l h.2)
theorem fJ {l m:List Nat} {i:Nat} (h1:i∈l) (h2:i∈m):fI l m=true:=by
 induction m with
 | nil=>simp at h2
 | cons k m ih=>
  simp only[fI,Bool.or_eq_true]
  rcases List.mem_cons.1 h2 with rfl | h2
  ·exact .inl (fR.2 h1)
  ·exact .inr (ih h2)
theorem hJ {rest:List Oper} {st:St} {l:List PS} {fin:St} (h:Path P Γ ops gs rest 0 st l fin) {p:PS} (hp:p∈l):l[p.i]? =some p∧rest[p.i]? =some p.o∧p.i<rest.length:=by
 obtain⟨k,hk,rfl⟩:=List.getElem_of_mem hp
 have h1:=(cn h).1
 have h2:=(cn h).2.1
 have hl:l.length=rest.length:=by rw[←h2];simp
 have e:l[k].i=k:=by
  have:(l.map (·.i))[k]? =(List.range' 0 rest.length)[k]? :=by rw[h1]
  rw[List.getElem?_map,List.getElem?_eq_getElem hk,List.getElem?_range' (by omega)] at this
  simpa using this
 rw[e]
 refine⟨List.getElem?_eq_getElem hk, ?_,by omega⟩
 rw[←h2,List.getElem?_map,List.getElem?_eq_getElem hk]
 rfl
theorem kl {rest:List Oper} {st:St} {l:List PS} {fin:St} {an:List (List Nat)} (h:Path P Γ ops gs rest 0 st l fin) (Cd:lz an (l.map (·.log))=true) {p q:PS} (hp:p∈l) (hq:q∈l) (cl:p.i<q.i):
  (du p.log q.log=true→p.i∈an.getD q.i [])∧j4 q.log p.log=false:=by
 have IU:=List.pairwise_map.1 (lA _ Cd)
 have gp:=(hJ h hp).1
 have gq:=(hJ h hq).1
 rw[List.pairwise_iff_getElem] at IU
 have lp:=(List.getElem?_eq_some_iff.1 gp).1
 have lq:=(List.getElem?_eq_some_iff.1 gq).1
 have:=IU p.i q.i lp lq cl
 rw[(List.getElem?_eq_some_iff.1 gp).2,(List.getElem?_eq_some_iff.1 gq).2] at this
 have ei:=((cn h).2.2 p hp).1
 have ej:=((cn h).2.2 q hq).1
 rw[ei,ej] at this
 exact this
theorem AQ {p:PS} (hs:iK P Γ ops p) {id:Nat} (ht:p.tH id):id∈p.log.wo:=by
 rcases hs with ⟨_,he,_,_⟩ | ⟨_,e,s,r,hr,_,hl,he⟩
 ·rw[PS.tH,he] at ht
  simp at ht
 ·rw[hl]
  simp only[bF,hr]
  have h1:p.e.ow=e.ow∧p.e.cw=e.cw:=by
   rcases he with rfl | ⟨d,g,_,_,he⟩
   ·exact⟨rfl,rfl⟩
   ·rw[he];exact⟨rfl,rfl⟩
  rw[PS.tH,h1.1,h1.2] at ht
  rcases ht with ht | ⟨off,bK,hc⟩
  ·exact List.mem_append_right _ ht
  ·rw[hc]
   exact List.mem_append_left _ (List.mem_singleton.2 rfl)
theorem HE {p:PS} (hs:iK P Γ ops p) {j:Nat} (hj:j∈bT p.e.sv):j∈p.log.m:=by
 rcases hs with ⟨_,he,_,_⟩ | ⟨_,e,s,r,hr,_,hl,he⟩
 ·rw[he] at hj
  simp [bT] at hj
 ·rw[hl]
  simp only[bF,hr]
  rcases he with rfl | ⟨d,g,_,_,he⟩
  ·exact List.mem_append_left _ hj
  ·rw[he] at hj
   simp [bT] at hj
theorem F2 {ow:List (Nat×Option aj)} {id:Nat} {x:Option aj} (h:F1 ow id=some x):(id,x)∈ow:=by
 induction ow with
 | nil=>simp [F1] at h
 | cons y l ih=>
  obtain⟨i,ob⟩:=y
  simp only[F1] at h
  split at h
  ·rename_i hi
   subst hi
   simp only[Option.some.injEq] at h
   subst h
   exact List.mem_cons_self ..
  ·exact List.mem_cons_of_mem _ (ih h)
theorem HD {p:PS} (hs:iK P Γ ops p) {id:Nat} {ob:aj} (hj:(id,some ob)∈p.e.ow):id∈p.log.m∧∀j∈cB ob,j∈p.log.m:=by
 rcases hs with ⟨_,he,_,_⟩ | ⟨_,e,s,r,hr,_,hl,he⟩
 ·rw[he] at hj
  simp at hj
 ·rw[hl]
  simp only[bF,hr]
  have h1:p.e.ow=e.ow:=by
   rcases he with rfl | ⟨d,g,_,_,he⟩
   ·rfl
   ·rw[he]
  rw[h1] at hj
  unfold Cc
  constructor
  ·exact List.mem_append_right _ (List.mem_append_right _ (List.mem_flatMap.2 ⟨_,hj,List.mem_cons_self ..⟩))
  ·intro j fO
   exact List.mem_append_right _ (List.mem_append_right _ (List.mem_flatMap.2 ⟨_,hj,List.mem_cons_of_mem _ fO⟩))
theorem HC {p:PS} (hs:iK P Γ ops p) {i off:Nat} {bK:List SV} (hc:p.e.cw=some (i,off,bK)):∀j∈bQ bK,j∈p.log.m:=by
 rcases hs with ⟨_,he,_,_⟩ | ⟨_,e,s,r,hr,_,hl,he⟩
 ·rw[he] at hc
  simp at hc
 ·rw[hl]
  simp only[bF,hr]
  have h1:p.e.cw=e.cw:=by
   rcases he with rfl | ⟨d,g,_,_,he⟩
   ·rfl
   ·rw[he]
  rw[h1] at hc
  intro j hj
  unfold Cc
  refine List.mem_append_right _ (List.mem_append_left _ ?_)
  rw[hc]
  exact hj
theorem fF (a b:List SV):bQ (a++b)=bQ a++bQ b:=by
 induction a with
 | nil=>rfl
 | cons x a ih=>simp [bQ,ih]
theorem BU {a:List SV} {n j:Nat} (h:j∈bQ (a.take n)):j∈bQ a:=by
 have:=List.take_append_drop n a
 rw[←this,fF]
 exact List.mem_append_left _ h
theorem BT {a:List SV} {n j:Nat} (h:j∈bQ (a.drop n)):j∈bQ a:=by
 have:=List.take_append_drop n a
 rw[←this,fF]
 exact List.mem_append_right _ h
def DW (ds:List Nat) (L:Nat→Bool) (l:List PS) (j:Nat):Prop:=j / 64 ∉ ds∨∃p∈l,L p.i=true∧j∈p.log.m
theorem lL {ds:List Nat} {L:Nat→Bool} {s:Nat} :∀(l l0:List PS) (v:SV),(∀p∈l,iK P Γ ops p)→(∀p∈l,p∈l0)→(∀j∈bT v,DW ds L l0 j)→∀j∈bT (kB L l s v),DW ds L l0 j
 | [],_,v,_,_,hv=>hv
 | p::l,l0,v,hs,gU,hv=>by
  unfold kB
  simp only[List.foldl_cons]
  refine lL l l0 _ (fun q hq=>hs q (List.mem_cons_of_mem _ hq)) (fun q hq=>gU q (List.mem_cons_of_mem _ hq)) ?_
  intro j hj
  split at hj
  ·rename_i hL
   unfold PS.f at hj
   split at hj
   ·exact .inr ⟨p,gU p (List.mem_cons_self ..),hL,HE (hs p (List.mem_cons_self ..)) hj⟩
   ·exact hv j hj
  ·exact hv j hj
def DX (ds:List Nat) (L:Nat→Bool) (l:List PS) (id:Nat) (o:Option aj):Prop:=∀ob,o=some ob→DW ds L l id∧∀j∈cB ob,DW ds L l j
theorem lM {ds:List Nat} {L:Nat→Bool} {id:Nat} :∀(l l0:List PS) (v:Option aj),(∀p∈l,iK P Γ ops p)→(∀p∈l,p∈l0)→DX ds L l0 id v→DX ds L l0 id (kC L l id v)
 | [],_,v,_,_,hv=>hv
 | p::l,l0,v,hs,gU,hv=>by
  unfold kC
  simp only[List.foldl_cons]
  refine lM l l0 _ (fun q hq=>hs q (List.mem_cons_of_mem _ hq)) (fun q hq=>gU q (List.mem_cons_of_mem _ hq)) ?_
  split
  ·rename_i hL
   have lk:=hs p (List.mem_cons_self ..)
   have kc:=gU p (List.mem_cons_self ..)
   unfold PS.h
   split
   ·rename_i x hx
    rintro ob rfl
    have:=HD lk (F2 hx)
    exact⟨.inr ⟨p,kc,hL,this.1⟩,fun j hj=> .inr ⟨p,kc,hL,this.2 j hj⟩⟩
   ·unfold Ec
    split
    ·rename_i i off bK js
     split
     ·split
      ·rename_i t cells
       rintro ob aJ
       simp only[Option.some.injEq] at aJ
       subst aJ
       have h0:=hv _ rfl
       refine⟨h0.1,fun j hj=> ?_⟩
       simp only[cB,cE,fF,List.mem_append] at hj
       rcases hj with hj | hj | hj
       ·exact h0.2 j (BU hj)
       ·exact .inr ⟨p,kc,hL,HC lk js j hj⟩
       ·exact h0.2 j (BT hj)
      ·exact hv
     ·exact hv
    ·exact hv
  ·exact hv
theorem D5 {a b:cq} {s:Nat} (ha:a.d=some s) (hb:s∈b.rs):du a b=true:=by
 have:fI (jI a.d) (b.rs++jI b.d)=true:=fJ (i:=s) (by simp [ha,jI]) (List.mem_append_left _ hb)
 simp [du,this]
theorem D3 {a b:cq} {s:Nat} (ha:a.d=some s) (hb:b.d=some s):du a b=true:=by
 have:fI (jI a.d) (b.rs++jI b.d)=true:=fJ (i:=s) (by simp [ha,jI]) (List.mem_append_right _ (by simp [hb,jI]))
 simp [du,this]
theorem D7 {a b:cq} {s:Nat} (ha:s∈a.rs) (hb:b.d=some s):du a b=true:=by
 have:fI a.rs (jI b.d)=true:=fJ (i:=s) ha (by simp [hb,jI])
 simp [du,this]
theorem D9 {a b:cq} {s:Nat} (ha:s∈a.wo) (hb:s∈b.wo):du a b=true:=by
 have:fI a.wo (b.ro++b.wo)=true:=fJ (i:=s) ha (List.mem_append_right _ hb)
 simp [du,this]
theorem D8 {a b:cq} {s:Nat} (ha:s∈a.wo) (hb:s∈b.ro):du a b=true:=by
 have:fI a.wo (b.ro++b.wo)=true:=fJ (i:=s) ha (List.mem_append_left _ hb)
 simp [du,this]
theorem D6 {a b:cq} {s:Nat} (ha:s∈a.ro) (hb:s∈b.wo):du a b=true:=by
 have:fI a.ro b.wo=true:=fJ (i:=s) ha hb
 simp [du,this]
theorem D4 {a b:cq} {j:Nat} (ha:a.d=some (j / 64)) (hb:j∈b.m):du a b=true:=by
 have:(b.m.any fun i=>Nat.beq (i / 64) (j / 64))=true:=by
  simp only[List.any_eq_true]
  exact⟨j,hb,Nat.beq_refl _⟩
 unfold du
 rw[ha]
 simp only[this,Bool.or_true]
theorem Dn {a b:cq} {j:Nat} (ha:b.d=some (j / 64)) (hb:j∈a.m):j4 b a=true:=by
 unfold j4
 rw[ha]
 simp only[List.any_eq_true]
 exact⟨j,hb,Nat.beq_refl _⟩
theorem mO {p q:Nat→Bool} :∀(l:List Nat),(∀k∈l,q k=true→p k=true)→(∃k∈l,p k=true∧q k=false)→l.countP q<l.countP p
 | [],_,h=>by simp at h
 | x::l,h,⟨k,hk,hp,hq⟩=>by
  have hle:l.countP q≤l.countP p:=List.countP_mono_left (fun y hy Mn=>h y (List.mem_cons_of_mem _ hy) Mn)
  simp only[List.countP_cons]
  rcases List.mem_cons.1 hk with rfl | hk
  ·rw[hp,hq]
   simp
   omega
  ·have:=mO l (fun y hy=>h y (List.mem_cons_of_mem _ hy)) ⟨k,hk,hp,hq⟩
   have hx:=h x (List.mem_cons_self ..)
   cases Mm:q x
   ·simp;omega
   ·rw[hx Mm];simp;omega
def HK (ops:Array Oper) (listed:Array Bool):Nat:=(List.range ops.size).countP fun k=> !(listed.getD k true)
def Jl (w0:World) (S:Own) (st:St) (l:List PS) (L:Nat→Bool) (a:Act) (w:World):Prop:=
 ∃kP:St,Rel w0 S kP a w∧kP.n=st.n∧(∀s,kP.get s=kB L l s (st.get s))∧∀id,kP.obj id=kC L l id (st.obj id)
theorem mT {α:Type} {step:PS→α→α} {T:PS→Prop} (dJ:∀p v,¬T p→step p v=v) {L:Nat→Bool} {l:List PS} {p:PS} (v:α)
  (h1:∀q∈l,T q→q.i<p.i→L q.i=true) (h2:∀q∈l,T q→p.i<q.i→L q.i=false) (h3:L p.i=false):
  l.foldl (fun v q=>if L q.i then step q v else v) v=l.foldl (fun v q=>if decide (q.i<p.i) then step q v else v) v:=by
 refine fold_congr step T dJ (L:=L) (L':=fun k=>decide (k<p.i)) l v (fun q hq ht=> ?_)
 rcases Nat.lt_trichotomy q.i p.i with cl | heq | FG
 ·rw[h1 q hq ht cl];simp [cl]
 ·rw[heq,h3];simp
 ·rw[h2 q hq ht FG];simp;omega
theorem lY {o:Oper} {d:Nat} :∀ {l:List Oper},o∈l→o.dst=some d→d∈kV l
 | [],hm,_=>by simp at hm
 | x::r,hm,B3=>by
  simp only[kV]
  rcases List.mem_cons.1 hm with rfl | hm
  ·rw[B3];exact List.mem_cons_self ..
  ·split
   ·exact List.mem_cons_of_mem _ (lY hm B3)
   ·exact lY hm B3
theorem Fe (eF:bD P Γ) {st:St} {l:List PS} {fin:St} (dv:Path P Γ ops gs ops.toList 0 st l fin) (Cd:lz (B9 ops.toList []) (l.map (·.log))=true)
  (bL:ek (kV ops.toList) st=true) {L:Nat→Bool} (A7:∀k,L k=true→lx ops L k) {p:PS} (hp:p∈l) (hg:lx ops L p.i) (hL:L p.i=false)
  {Q:Exit→Act→World→Prop} {a:Act} {w:World} (Dt:Jl w0 S st l L a w) {K:Act→World→Prop} (hK:∀a' w',Jl w0 S st l (fun k=>L k || k==p.i) a' w'→K a' w'):wpOp P ops Q p.i K a w:=by
 obtain⟨kP,hR,hn,mB,gP⟩:=Dt
 have kf:=CA dv
 have ij:=kL dv
 have lk:=kf p hp
 have H_:=mL A7 ops.toList [] [] rfl rfl (by simp)
 have hd:∀q∈l,q.log.d=q.o.dst:=fun q hq=>((cn dv).2.2 q hq).2
 have hA:∀q∈l,q.i<p.i→du q.log p.log=true→L q.i=true:=fun q hq cl hc=>H_ p.i q.i hg ((kl dv Cd hq hp cl).1 hc)
 have hB:∀q∈l,p.i<q.i→du p.log q.log=true→L q.i=false:=by
  intro q hq cl hc
  cases HL:L q.i
  ·rfl
  ·have:=H_ q.i p.i (A7 _ HL) ((kl dv Cd hp hq cl).1 hc)
   rw[hL] at this
   cases this
 obtain⟨L8,L9,Lk⟩:=ij.1 p hp
 have dg:∀s∈p.log.rs,kP.get s=p.st.get s:=by
  intro s hs
  rw[mB s,L8 s]
  refine mT (step:=fun q v=>PS.f q s v) (T:=fun q=>q.tF s) (fun q v h=>PS.H0 h v) _ (fun q hq ht cl=>hA q hq cl (D5 ((hd q hq).trans ht) hs)) (fun q hq ht cl=>hB q hq cl (D7 hs ((hd q hq).trans ht))) hL
 have aJ:∀id∈p.log.ro,kP.obj id=p.st.obj id:=by
  intro id hs
  rw[gP id,L9 id]
  refine mT (step:=fun q v=>PS.h q id v) (T:=fun q=>q.tH id) (fun q v h=>PS.H7 h v) _ (fun q hq ht cl=>hA q hq cl (D8 (AQ (kf q hq) ht) hs)) (fun q hq ht cl=>hB q hq cl (D6 hs (AQ (kf q hq) ht))) hL
 have hnd:(l.map (·.i)).Nodup:=by
  rw[(cn dv).1]
  exact List.nodup_range'
 have IU:l.Pairwise (fun a b=>a.i<b.i):=by
  have:=List.pairwise_lt_range' (s:=0) (n:=ops.toList.length)
  rw[←(cn dv).1] at this
  exact List.pairwise_map.1 this
 have Hz:∀s,kB (fun k=>L k || k==p.i) l s (st.get s)=p.f s (kP.get s):=by
  intro s
  rw[mB s]
  exact gL (fun q v=>PS.f q s v) (fun q=>q.tF s) (fun q v h=>PS.H0 h v) (L:=L) (q:=p) l (st.get s) hp hnd hL IU (fun q hq cl h1 h2=>hB q hq cl (D3 ((hd p hp).trans h1) ((hd q hq).trans h2)))
 have HA:∀id,kC (fun k=>L k || k==p.i) l id (st.obj id)=p.h id (kP.obj id):=by
  intro id
  rw[gP id]
  exact gL (fun q v=>PS.h q id v) (fun q=>q.tH id) (fun q v h=>PS.H7 h v) (L:=L) (q:=p) l (st.obj id) hp hnd hL IU (fun q hq cl h1 h2=>hB q hq cl (D9 (AQ lk h1) (AQ (kf q hq) h2)))
 have KD:ops[p.i]? =some p.o:=by
  rw[←Array.getElem?_toList]
  exact (hJ dv hp).2.1
 have L3:∀d,p.o.dst=some d→d∈kV ops.toList:=by
  intro d B3
  have hm:p.o∈ops.toList:=List.mem_of_getElem? (hJ dv hp).2.1
  exact lY hm B3
 have Hc:fN ops p.o ⊆ p.log.rs:=by
  rcases lk with ⟨_,_,_,hl⟩ | ⟨_,e,s,r,hr,_,hl,_⟩
  ·rw[hl];exact fun _ h=>h
  ·rw[hl];simp only[bF,hr];exact fun _ h=>List.mem_append_left _ h
 have m0:fg ops kP p.o=fg ops p.st p.o:=by
  unfold fg
  split
  ·rfl
  ·rename_i j want L_
   split
   ·rfl
   ·rename_i s hs
    rw[dg s (Hc (by unfold fN;simp [L_,hs,jI]))]
 unfold wpOp
 rw[KD]
 simp only
 have hw:fg ops kP p.o=some true∨fg ops kP p.o=some false:=by
  rw[m0]
  rcases lk with ⟨h,_⟩ | ⟨h,_⟩
  ·exact .inr h
  ·exact .inl h
 rcases lk with ⟨I3,he,aI,hl⟩ | ⟨I3,e,s,r,hr,aI,hl,he⟩
 ·rw[←m0] at I3
  rw[if_neg (by rw[kv hR I3];simp)]
  refine hK _ _ ⟨kP.skip p.o.dst, ?_,hn,fun s=> ?_,fun id=> ?_⟩
  ·have Hn:∀d,p.o.dst=some d→a_ kP.n d:=by
    intro d B3
    simp only[St.skip,St.apply,f0] at aI
    have:=aI.2
    rw[B3] at this
    have:=lf this
    rw[hn,←Lk]
    exact this
   obtain⟨β,φ,hc⟩:=hR.core
   exact iu (e:= {sv:= .undef}) hR Hn hR.kept ⟨β,φ,hc,by simp [ak]⟩
  ·rw[Hz s]
   unfold St.skip
   rw[←he]
   exact (ld kP p s)
  ·rw[HA id]
   unfold St.skip
   rw[←he]
   exact (jd kP p id)
 ·rw[←m0] at I3
  rw[if_pos (kv hR I3)]
  refine .inl ?_
  have KK:∀k∈s,kP.get k=p.st.get k:=fun k hk=>dg k (by rw[hl];simp only[bF,hr];exact List.mem_append_right _ hk)
  have AG:∀k∈r,kP.obj k=p.st.obj k:=fun k hk=>aJ k (by rw[hl];simp only[bF,hr];exact List.mem_append_right _ hk)
  have bo:=M.kn (evalOp P Γ p.o) hr KK AG
  simp only[St.apply,f0] at aI
  have Bp:=BG eF hR (M.ea _ bo) aI.1.2 (fun d B3=>by
    have:=aI.2
    rw[B3] at this
    have:=lf this
    rw[hn,←Lk]
    exact this) (fun _ d B3=> ?_) Q
  ·refine Oper.wp_mono ?_ Bp
   rintro a' w' ⟨v,rfl,eD⟩
   rcases he with he | ⟨d,g,B3,eU,he⟩
   ·refine hK _ _ ⟨kP.apply p.o.dst e,eD,hn,fun s=> ?_,fun id=> ?_⟩
    ·rw[Hz s,←he];exact ld kP p s
    ·rw[HA id,←he];exact jd kP p id
   ·have hb:(kP.apply p.o.dst e).get d= .bool g:=by
     rw[B3,apply_get,eU]
     simp [az]
    have Hs:=eD.Af hb
    refine hK _ _ ⟨(kP.apply p.o.dst e).reset.fB d g,eD.reset.fB Hs,hn,fun s=> ?_,fun id=> ?_⟩
    ·rw[Hz s];exact EZ B3 p rfl he s
    ·rw[HA id];exact E0 p rfl he id
  ·have key:∀j,DW (kV ops.toList) L l j→j / 64≠d:=by
    rintro j (hj | ⟨q,hq,HL,hj⟩) rfl
    ·exact hj (L3 _ B3)
    ·rcases Nat.lt_trichotomy q.i p.i with cl | heq | FG
     ·have:=(kl dv Cd hq hp cl).2
      rw[Dn ((hd p hp).trans B3) hj] at this
      cases this
     ·rw[heq,hL] at HL
      cases HL
     ·have:=hB q hq FG (D4 ((hd p hp).trans B3) hj)
      rw[this] at HL
      cases HL
   have J5:=fun d' Ii=>Bl bL d' Ii
   constructor
   ·intro i j hj
    rw[mB i] at hj
    refine key j (lL l l _ kf (fun _ h=>h) (fun k hk=> .inl (fun hm=> ?_)) j hj)
    exact (J5 _ hm).slot i k hk rfl
   ·intro j ob iQ
    rw[gP j] at iQ
    have h0:DX (kV ops.toList) L l j (st.obj j):=by
     intro Fb jv
     refine⟨.inl (fun hm=>((J5 _ hm).obj j Fb jv).1 rfl),fun k hk=> .inl (fun hm=>((J5 _ hm).obj j Fb jv).2 k hk rfl)⟩
    have:=lM l l _ kf (fun _ h=>h) h0 ob iQ
    exact⟨key j this.1,fun k hk=>key k (this.2 k hk)⟩
theorem B1 (eF:bD P Γ) {st:St} {l:List PS} {fin:St} (dv:Path P Γ ops gs ops.toList 0 st l fin) (Cd:lz (B9 ops.toList []) (l.map (·.log))=true)
  (bL:ek (kV ops.toList) st=true) (L4:f_ ops.toList 0=true) {Q:Exit→Act→World→Prop} (hQ:∀a w,Rel w0 S fin a w→Q .normal a w):
  ∀(fuel:Nat) (listed:Array Bool) (a:Act) (w:World),listed.size=ops.size→(∀k,listed.getD k false=true→lx ops (fun k=>listed.getD k false) k)→HK ops listed≤fuel→
   Jl w0 S st l (fun k=>listed.getD k false) a w→wpAny P .any ops Q fuel listed a w:=by
 have ij:=kL dv
 have hlen:l.length=ops.size:=by
  have:(l.map (·.o)).length=ops.toList.length:=by rw[(cn dv).2.1]
  simpa using this
 have done:∀(listed:Array Bool) (a:Act) (w:World),listed.size=ops.size→Region.ready .any ops listed=[]→Jl w0 S st l (fun k=>listed.getD k false) a w→Q .normal a w:=by
  intro listed a w dm hr ⟨kP,hR,hn,mB,gP⟩
  have H9:∀k,k<ops.size→listed.getD k false=true:=by
   intro k
   induction k using Nat.strongRecOn with
   | ind k ih=>
    intro hk
    cases LQ:listed.getD k false
    ·have:k∈Region.ready .any ops listed:=by
      rw[mem_ready]
      refine⟨?_,ops[k],Array.getElem?_eq_getElem hk,fun e he hb=> ?_⟩
      ·rw[←LQ]
       simp only[Array.getD_eq_getD_getElem?,Array.getElem?_eq_getElem (show k<listed.size by omega),Option.getD_some]
      ·have:=ji ops.toList 0 L4 k ops[k] (by simp [Array.getElem?_toList,hk]) e he hb
       exact ih e.on (by omega) (by omega)
     rw[hr] at this
     cases this
    ·rfl
  refine hQ a w ?_
  have Ld:∀q∈l,listed.getD q.i false=true:=by
   intro q hq
   have:=(hJ dv hq).2.2
   exact H9 q.i (by simpa using this)
  have e1:kP.get=fin.get:=by
   funext s
   rw[mB s,ij.2.1 s]
   exact fold_congr (fun q v=>PS.f q s v) (fun _=>True) (fun _ _ h=>absurd trivial h) (L:=fun k=>listed.getD k false) (L':=fun _=>true) l _ (fun q hq _=>Ld q hq)
  have e2:kP.obj=fin.obj:=by
   funext s
   rw[gP s,ij.2.2.1 s]
   exact fold_congr (fun q v=>PS.h q s v) (fun _=>True) (fun _ _ h=>absurd trivial h) (L:=fun k=>listed.getD k false) (L':=fun _=>true) l _ (fun q hq _=>Ld q hq)
  obtain⟨β,φ,hc⟩:=hR.core
  refine⟨?_,fun x hx=>by rw[ij.2.2.2,←hn];exact hR.fx x hx,hR.defers,hR.kept,β,φ, ?_⟩
  ·rw[hR.size,hn,ij.2.2.2]
  ·rw[←e1,←e2];exact hc
 intro fuel
 induction fuel with
 | zero=>
  intro listed a w dm A7 I1 Dt
  have hr:Region.ready .any ops listed=[]:=by
   cases Mp:Region.ready .any ops listed with
   | nil=>rfl
   | cons x xs=>
    have hx:x∈Region.ready .any ops listed:=by rw[Mp];exact List.mem_cons_self ..
    obtain⟨h1,o,ho,_⟩:=mem_ready.1 hx
    have cl:=(Array.getElem?_eq_some_iff.1 ho).1
    have:0<HK ops listed:=by
     unfold HK
     rw[List.countP_pos_iff]
     exact⟨x,List.mem_range.2 cl,by simp only[h1];rfl⟩
    omega
  exact⟨hr,done listed a w dm hr Dt⟩
 | succ fuel ih=>
  intro listed a w dm A7 I1 Dt
  refine⟨fun hr=>done listed a w dm hr Dt,fun i hi=> ?_⟩
  obtain⟨h1,o,ho,J3⟩:=mem_ready.1 hi
  have cl:=(Array.getElem?_eq_some_iff.1 ho).1
  have Ex:i<l.length:=by omega
  have JE:l[i].i=i:=by
   have:(l.map (·.i))[i]? =(List.range' 0 ops.toList.length)[i]? :=by rw[(cn dv).1]
   rw[List.getElem?_map,List.getElem?_eq_getElem Ex,List.getElem?_range' (by simpa using cl)] at this
   simpa using this
  have IY:∀k,(listed.setIfInBounds i true).getD k false=(listed.getD k false || k==i):=by
   intro k
   simp only[Array.getD_eq_getD_getElem?,Array.getElem?_setIfInBounds]
   by_cases hk:i=k
   ·subst hk
    simp [show i<listed.size by omega]
   ·have:(k==i)=false:=by simpa using fun h=>hk h.symm
    simp [hk,this]
  have LP:listed.getD i false=false:=by
   rw[←h1]
   simp only[Array.getD_eq_getD_getElem?,Array.getElem?_eq_getElem (show i<listed.size by omega),Option.getD_some]
  have Lm:lx ops (fun k=>listed.getD k false) i:=by
   intro o' dT e he hb
   rw[ho] at dT
   injection dT with dT
   subst dT
   exact J3 e he hb
  have:=Fe (w0:=w0) (S:=S) (Q:=Q) eF dv Cd bL A7 (p:=l[i]) (List.getElem_mem Ex) (by rw[JE];exact Lm) (by rw[JE];exact LP) Dt
   (K:=wpAny P .any ops Q fuel (listed.setIfInBounds i true)) (fun a' w' hc=> ?_)
  ·rw[JE] at this
   exact this
  ·refine ih _ a' w' (by simpa using dm) (fun k hk=> ?_) ?_ ?_
   ·intro o' dT e he hb
    show (listed.setIfInBounds i true).getD e.on false=true
    rw[IY] at hk ⊢
    simp only[Bool.or_eq_true,beq_iff_eq] at hk ⊢
    rcases hk with hk | rfl
    ·exact .inl (A7 k hk o' dT e he hb)
    ·exact .inl (Lm o' dT e he hb)
   ·have:HK ops (listed.setIfInBounds i true)<HK ops listed:=by
     unfold HK
     refine mO _ (fun k hk hq=> ?_) ⟨i,List.mem_range.2 cl,by simp only[h1];rfl, ?_⟩
     ·simp only[Bool.not_eq_true',Array.getD_eq_getD_getElem?,Array.getElem?_setIfInBounds] at hq ⊢
      split at hq
      ·split at hq<;>simp at hq
      ·exact hq
     ·simp [Array.getElem?_setIfInBounds,show i<listed.size by omega]
    omega
   ·have e:(fun k=>(listed.setIfInBounds i true).getD k false)=(fun k=>listed.getD k false || k==i):=funext IY
    rw[e]
    rw[JE] at hc
    exact hc
theorem Rel.drew {st:St} {a:Act} {w:World} (hR:Rel w0 S st a w):Rel w0 S st a {w with drawn:=w.drawn+1} :=by
 obtain⟨β,φ,hc⟩:=hR.core
 refine⟨hR.size,hR.fx,hR.defers,⟨hR.kept.os,hR.kept.tape,hR.kept.output,hR.kept.size,hR.kept.block⟩,β,φ, ?_⟩
 exact hc.step (h':=st.obj) (β':=β) (φ':=φ) (w':= {w with drawn:=w.drawn+1}) (fun _=>False) (Nat.le_refl _) (fun _ _ _=>rfl) (fun b hb=> .inl hb) (fun _ _ _ h=>h) (fun _ _=>⟨rfl,rfl⟩)
  (fun id o ho=> .inl ⟨fun h=>h,ho,rfl,fun _ _ h=>h,fun _ _=>rfl⟩) hc.sep
theorem jK (eF:bD P Γ) {st:St} {a:Act} {w:World} {id:Nat} {draw:Bool} {Q:Exit→Act→World→Prop} (hR:Rel w0 S st a w) (h:(bV P Γ ops draw st).ok=true)
  (hQ:∀a' w',Rel w0 S (bV P Γ ops draw st) a' w'→Q .normal a' w'):(Code.region id ops draw).wp P Q a w:=by
 cases draw with
 | false=>exact CC eF hR h hQ
 | true=>
  unfold bV at h hQ
  simp only[cond_true] at h hQ
  cases hf:ek (kV ops.toList) st && f_ ops.toList 0 && P.follows .mixedOrders
  ·simp [hf,bb] at h
  ·simp only[hf,cond_true] at h hQ
   simp only[Bool.and_eq_true] at hf
   obtain⟨l,fin,dv,_,J0,KJ⟩:=eK _ _ _ _ h
   refine wp_region_any hf.2 (B1 eF dv (by simpa using J0) hf.1.1 hf.1.2 (fun a' w' eD=>hQ a' w' (KJ w0 S a' w' eD)) _ _ a _ (by simp) (fun k hk=> ?_) ?_ ?_)
   ·rw[Array.getD_eq_getD_getElem?,Array.getElem?_replicate] at hk
    split at hk<;>simp at hk
   ·unfold HK
    have:=List.countP_le_length (p:=fun k=> !((Array.replicate ops.size false).getD k true)) (l:=List.range ops.size)
    simpa using this
   ·refine⟨st,hR.drew,rfl,fun s=> ?_,fun o=> ?_⟩
    ·refine (eS (fun q v=>PS.f q s v) (L:=fun k=>(Array.replicate ops.size false).getD k false) l (st.get s) (fun q _=> ?_)).symm
     rw[Array.getD_eq_getD_getElem?,Array.getElem?_replicate]
     split<;>rfl
    ·refine (eS (fun q v=>PS.h q o v) (L:=fun k=>(Array.replicate ops.size false).getD k false) l (st.obj o) (fun q _=> ?_)).symm
     rw[Array.getD_eq_getD_getElem?,Array.getElem?_replicate]
     split<;>rfl
end
end Go.Proofs.YtoaflbnkiobhdaaGreat.Vm
namespace Go.Proofs.YtoaflbnkiobhdaaGreat.Vm
section
variable {P:Program} {Γ:Ctx} {w0:World} {S:Own}
theorem eu {st:St} {c:Operand} {b:Bool} :(st.c9 c b).ok=st.ok:=by
 unfold St.c9
 split<;>rfl
theorem BX {st:St} {c:Operand} {b:Bool} (h:st.ok=true):Tr st (st.c9 c b):=by
 unfold St.c9
 split
 ·exact jS h
 ·exact Tr.refl h
theorem ir {st:St} {a:Act} {w:World} {c:Operand} {b:Bool} (hR:Rel w0 S st a w) (hc:a.eval c= .bool b):Rel w0 S (st.c9 c b) a w:=by
 unfold St.c9
 split
 ·exact hR.fB hc
 ·exact hR
theorem Gg {st:St} {a:Act} {w:World} (hR:Rel w0 S st a w) (c:Operand):∃β,ak w (Av st.obj β) β (ev st c) (a.eval c):=by
 obtain⟨β,φ,hc⟩:=hR.core
 refine⟨β, ?_⟩
 cases c with
 | tmp t=>exact hc.bY t
 | const v=>exact i6 v
 | global g=>simp [ev,ak]
 | func g=>simp [ev,ak]
theorem Gf {st:St} {a:Act} {w:World} (hR:Rel w0 S st a w) {c:Operand} {t:Bool} (h:ev st c= .kb t):a.eval c= .bool t:=by
 obtain⟨β,hv⟩:=Gg hR c
 rw[h] at hv
 simpa only[ak] using hv
theorem C0 {st:St} {a:Act} {w:World} (hR:Rel w0 S st a w) {c:Operand} {t:Bool} (h:ev st c= .bool t):a.eval c= .bool t:=by
 obtain⟨β,hv⟩:=Gg hR c
 rw[h] at hv
 simpa only[ak] using hv
theorem dS:∀(c:Code) (st:St),(exec P Γ c st).ok=true→Tr st (exec P Γ c st)
 | .skip,st,h=>by
  simp only[exec] at h ⊢
  exact Tr.refl h
 | .region id ops draw,st,h=>by
  simp only[exec] at h ⊢
  exact Aj h
 | .seq a b,st,h=>by
  simp only[exec] at h ⊢
  have h2:=dS b _ h
  exact (dS a _ h2.ok).trans h2
 | .cond c a b,st,h=>by
  simp only[exec] at h ⊢
  split
  ·rename_i t mV
   simp only[mV] at h
   cases t with
   | true=>simp only[cond_true] at h ⊢;exact dS a _ h
   | false=>simp only[cond_false] at h ⊢;exact dS b _ h
  ·rename_i g mV
   simp only[mV] at h
   have lk:=cW h
   have aI:st.ok=true:=by
    cases g with
    | true=>
     have:=(dS a _ (lk.1 rfl)).ok
     rw[eu] at this
     exact this
    | false=>
     have:=(dS b _ (lk.2 rfl)).ok
     rw[eu] at this
     exact this
   exact BZ aI h
  ·rename_i h1 h2
   exfalso
   revert h
   split
   ·rename_i t mV;exact absurd mV (h1 t)
   ·rename_i g mV;exact absurd mV (h2 g)
   ·simp [bb]
 | .block ..,st,h=>by simp [exec,bb] at h
 | .loop ..,st,h=>by simp [exec,bb] at h
 | .exit ..,st,h=>by simp [exec,bb] at h
 | .goto ..,st,h=>by simp [exec,bb] at h
 | .label ..,st,h=>by simp [exec,bb] at h
 | .ret,st,h=>by simp [exec,bb] at h
theorem ga (eF:bD P Γ):∀(c:Code) (st:St) (a:Act) (w:World) (Q:Exit→Act→World→Prop),Rel w0 S st a w→(exec P Γ c st).ok=true→
  (∀a' w',Rel w0 S (exec P Γ c st) a' w'→Q .normal a' w')→c.wp P Q a w
 | .skip,st,a,w,Q,hR,h,hQ=>by
  simp only[exec] at h hQ
  exact wp_skip (hQ a w hR)
 | .region id ops draw,st,a,w,Q,hR,h,hQ=>by
  simp only[exec] at h hQ
  exact jK eF hR h hQ
 | .seq x y,st,a,w,Q,hR,h,hQ=>by
  simp only[exec] at h hQ
  have h2:=dS y _ h
  refine wp_seq (ga eF x st a w _ hR h2.ok (fun a' w' eD=> ?_))
  exact ga eF y _ a' w' Q eD h hQ
 | .cond c x y,st,a,w,Q,hR,h,hQ=>by
  simp only[exec] at h hQ
  split at h
  ·rename_i t mV
   simp only[mV] at hQ
   refine wp_cond (Gf hR mV) ?_
   cases t with
   | true=>simp only[cond_true] at h hQ;exact ga eF x st a w Q hR h hQ
   | false=>simp only[cond_false] at h hQ;exact ga eF y st a w Q hR h hQ
  ·rename_i g mV
   simp only[mV] at hQ
   have lk:=cW h
   have hb:=C0 hR mV
   refine wp_cond hb ?_
   cases g with
   | true=>
    have hy:=lk.1 rfl
    have ht:=dS x _ hy
    refine ga eF x _ a w Q (ir hR.reset hb) hy (fun a' w' eD=>hQ a' w' ?_)
    have aI:st.reset.ok=true:=by have:=ht.ok;rwa [eu] at this
    exact fT (fun _=>⟨(BX aI).trans ht,eD⟩) (by simp) h
   | false=>
    have hy:=lk.2 rfl
    have ht:=dS y _ hy
    refine ga eF y _ a w Q (ir hR.reset hb) hy (fun a' w' eD=>hQ a' w' ?_)
    have aI:st.reset.ok=true:=by have:=ht.ok;rwa [eu] at this
    exact fT (by simp) (fun _=>⟨(BX aI).trans ht,eD⟩) h
  ·simp [bb] at h
 | .block ..,st,_,_,_,_,h,_=>by simp [exec,bb] at h
 | .loop ..,st,_,_,_,_,h,_=>by simp [exec,bb] at h
 | .rangeFunc ..,st,_,_,_,_,h,_=>by simp [exec,bb] at h
 | .exit ..,st,_,_,_,_,h,_=>by simp [exec,bb] at h
 | .scope ..,st,_,_,_,_,h,_=>by simp [exec,bb] at h
 | .goto ..,st,_,_,_,_,h,_=>by simp [exec,bb] at h
 | .label ..,st,_,_,_,_,h,_=>by simp [exec,bb] at h
 | .ret,st,_,_,_,_,h,_=>by simp [exec,bb] at h
 | .refuse ..,st,_,_,_,_,h,_=>by simp [exec,bb] at h
abbrev Rn:=List (Nat×aj×Option Nat)
def AP:Rn→Nat→Option (aj×Option Nat)
 | [],_=>none
 | (i,x)::l,j=>if j=i then some x else AP l j
def Env.iC (β:Env) (R:Rn):Env:=
 ⟨β.cS,fun j=>match AP R j with | some (_,some id)=>β.val id | some (_,none)=> .slice none 0 0 | none=>β.val j,β.gv,
  fun j=>match AP R j with | some (_,some id)=>β.nb id | some (_,none)=>[] | none=>β.nb j⟩
def Bb (o:aj):Prop:=(∃t e,o= .row t e [] false true)∨(∃t e ts,o= .deep t e ts [] none)
def fk (o:aj):Prop:=(∃t e r fz u,o= .row t e r fz u)∨(∃t e ts r,o= .deep t e ts r none)
def iH (φ:Nat→List Nat) (R:Rn) (j:Nat):List Nat:=
 match AP R j with | some (_,some id)=>φ id | some (_,none)=>[] | none=>φ j
def Bc (h:Nat→Option aj) (x:Nat×aj×Option Nat):Prop:=
 (∃id,fk x.2.1∧x.2.2=some id∧h id=some x.2.1)∨(Bb x.2.1∧x.2.2=none)
theorem lB {w:World} {av av':Nat→Prop} {β:Env} {R:Rn} :∀(cs:List SV) (l:List Value),jW cs=true→af w av β cs l→af w av' (β.iC R) cs l
 | [],l,_,h=>by simpa only[af] using h
 | s::cs,l,hp,h=>by
  simp only[af] at h ⊢
  obtain⟨v,l',rfl,h1,h2⟩:=h
  cases s with
  | ptr id off=>
   refine⟨v,l',rfl, ?_,lB cs l' hp h2⟩
   simp only[ak] at h1 ⊢
   exact h1
  | _=>simp [jW] at hp
theorem jf {hp:List (Nat×aj)} {f:Nat→SV} {β:Env} {φ:Nat→List Nat} {tm:Array Value} {w:World} (hc:Core w0 S f (dw hp) β φ tm w) {ck:CK} {nid:Nat} {s:SV} {v:Value} {av':Nat→Prop}
  (hv:ak w (Av (dw hp) β) β s v) (cN:∀b,av' b→Av (dw hp) β b) {R:Rn} (hR:∀x∈(au P hp ck nid s).2,AP R x.1=some x.2):
  ak w av' (β.iC R) (au P hp ck nid s).1 v∧∀x∈(au P hp ck nid s).2,Bc (dw hp) x:=by
 have mono:∀s',bT s'=[]→ak w (Av (dw hp) β) β s' v→ak w av' (β.iC R) s' v:=fun s' Bu h'=>
  ak.mono (Nat.le_refl _) (fun _ _ _=>rfl) (fun b hb=> .inl (cN b hb)) s' v h' (by rw[Bu];simp)
 cases s with
 | own id=>
  simp only[au] at hR ⊢
  simp only[ak] at hv
  cases hl:dw hp id with
  | none=>simp [ak]
  | some o=>
   cases o with
   | box=>simp [ak]
   | row t e r fz u=>
    simp only[hl] at hR
    simp only
    cases ck with
    | dV=>simp [ak]
    | mr=>
     have:=hR _ (List.mem_singleton.2 rfl)
     simp only at this
     refine⟨?_, ?_⟩
     ·simp only[ak,Env.iC,this]
      exact hv
     ·intro x hx
      rw[List.mem_singleton] at hx
      subst hx
      exact .inl ⟨id,.inl ⟨t,e,r,fz,u,rfl⟩,rfl,hl⟩
    | own=>
     have:=hR _ (List.mem_singleton.2 rfl)
     simp only at this
     refine⟨?_, ?_⟩
     ·simp only[ak,Env.iC,this]
      exact hv
     ·intro x hx
      rw[List.mem_singleton] at hx
      subst hx
      exact .inl ⟨id,.inl ⟨t,e,r,fz,u,rfl⟩,rfl,hl⟩
    | deep=>
     have:=hR _ (List.mem_singleton.2 rfl)
     simp only at this
     refine⟨?_, ?_⟩
     ·simp only[ak,Env.iC,this]
      exact hv
     ·intro x hx
      rw[List.mem_singleton] at hx
      subst hx
      exact .inl ⟨id,.inl ⟨t,e,r,fz,u,rfl⟩,rfl,hl⟩
   | deep t e ts r jT=>
    cases jT with
    | some q=>simp [ak]
    | none=>
    simp only[hl] at hR
    simp only
    cases ck with
    | dV=>simp [ak]
    | mr=>
     have:=hR _ (List.mem_singleton.2 rfl)
     simp only at this
     refine⟨?_, ?_⟩
     ·simp only[ak,Env.iC,this]
      exact hv
     ·intro x hx
      rw[List.mem_singleton] at hx
      subst hx
      exact .inl ⟨id,.inr ⟨t,e,ts,r,rfl⟩,rfl,hl⟩
    | own=>
     have:=hR _ (List.mem_singleton.2 rfl)
     simp only at this
     refine⟨?_, ?_⟩
     ·simp only[ak,Env.iC,this]
      exact hv
     ·intro x hx
      rw[List.mem_singleton] at hx
      subst hx
      exact .inl ⟨id,.inr ⟨t,e,ts,r,rfl⟩,rfl,hl⟩
    | deep=>
     have:=hR _ (List.mem_singleton.2 rfl)
     simp only at this
     refine⟨?_, ?_⟩
     ·simp only[ak,Env.iC,this]
      exact hv
     ·intro x hx
      rw[List.mem_singleton] at hx
      subst hx
      exact .inl ⟨id,.inr ⟨t,e,ts,r,rfl⟩,rfl,hl⟩
   | dV e r=>
    simp only
    refine⟨?_,by simp⟩
    have h1:=(hc.ay id _ hl).1
    rw[←hv.1] at h1
    exact mono _ rfl h1
 | nil=>
  simp only[au] at hR ⊢
  simp only[ak] at hv
  cases ck with
  | mr=>
   refine⟨?_,by simp⟩
   simp only[ak]
   exact hv
  | own t=>
   simp only at hR ⊢
   cases Bn:fl P 16 t with
   | none=>simp [ak]
   | some e=>
    simp only[Bn] at hR
    have:=hR _ (List.mem_singleton.2 rfl)
    simp only at this
    refine⟨?_, ?_⟩
    ·simp only[ak,Env.iC,this]
     rw[hv]
     exact⟨rfl,rfl⟩
    ·intro x hx
     rw[List.mem_singleton] at hx
     subst hx
     exact .inr ⟨.inl ⟨t,e,rfl⟩,rfl⟩
  | deep t ts=>
   simp only at hR ⊢
   cases Bn:fl P 16 t with
   | none=>simp [ak]
   | some e=>
    simp only[Bn] at hR
    have:=hR _ (List.mem_singleton.2 rfl)
    simp only at this
    refine⟨?_, ?_⟩
    ·simp only[ak,Env.iC,this]
     rw[hv]
     exact⟨rfl,rfl⟩
    ·intro x hx
     rw[List.mem_singleton] at hx
     subst hx
     exact .inr ⟨.inr ⟨t,e,ts,rfl⟩,rfl⟩
  | dV t=>
   simp only at hR ⊢
   cases Bn:fl P 16 t with
   | none=>simp [ak]
   | some e=>
    refine⟨?_,by simp⟩
    simp only[ak,bU]
    exact⟨[],⟨[],none,0,0,rfl,hv,rfl,Nat.le_refl _,Nat.zero_le _,.inl ⟨rfl,rfl⟩⟩,by simp⟩
 | kb b=>
  simp only[au]
  refine⟨?_,by simp⟩
  simp only[ak] at hv ⊢
  exact hv
 | agg=>simp [au,ak]
 | Dk=>simp [au,ak]
 | dU=>simp [au,ak]
 | Fx=>simp [au,ak]
 | FB g cs=>
  simp only[au]
  cases hp:jW cs
  ·simp [ak]
  ·simp only[cond_true]
   refine⟨?_,by simp⟩
   simp only[ak] at hv ⊢
   obtain⟨l,rfl,hl⟩:=hv
   exact⟨l,rfl,lB cs l hp hl⟩
 | ptr id off=>
  simp only[au]
  refine⟨?_,by simp⟩
  simp only[ak] at hv ⊢
  exact hv
 | ff=>exact⟨mono _ rfl hv,by simp [au]⟩
 | undef=>exact⟨mono _ rfl hv,by simp [au]⟩
 | int=>exact⟨mono _ rfl hv,by simp [au]⟩
 | bool=>exact⟨mono _ rfl hv,by simp [au]⟩
 | str=>exact⟨mono _ rfl hv,by simp [au]⟩
 | sl=>exact⟨mono _ rfl hv,by simp [au]⟩
 | gA=>exact⟨mono _ rfl hv,by simp [au]⟩
theorem iF {hp:List (Nat×aj)} {f:Nat→SV} {β:Env} {φ:Nat→List Nat} {tm:Array Value} {w:World} (hc:Core w0 S f (dw hp) β φ tm w) {lE:List (Nat×CK)} {b:Nat} {av':Nat→Prop}
  (cN:∀b,av' b→Av (dw hp) β b) {R:Rn} :∀(l:List SV) (k:Nat) (vs:List Value),af w (Av (dw hp) β) β l vs→(∀x∈(bB P hp lE b k l).2,AP R x.1=some x.2)→
  af w av' (β.iC R) (bB P hp lE b k l).1 vs∧∀x∈(bB P hp lE b k l).2,Bc (dw hp) x
 | [],k,vs,hl,_=>by
  simp only[bB,af] at hl ⊢
  exact⟨hl,by simp⟩
 | s::l,k,vs,hl,hR=>by
  simp only[af] at hl
  obtain⟨v,l',rfl,h1,h2⟩:=hl
  simp only[bB] at hR ⊢
  have c1:=jf (P:=P) hc (ck:=KV lE k) (nid:=ag (20000+b*4) k) h1 cN (R:=R) (fun x hx=>hR x (List.mem_append_left _ hx))
  have c2:=iF hc cN l (k+1) l' h2 (fun x hx=>hR x (List.mem_append_right _ hx))
  refine⟨?_,fun x hx=> ?_⟩
  ·simp only[af]
   exact⟨v,l',rfl,c1.1,c2.1⟩
  ·rcases List.mem_append.1 hx with hx | hx
   ·exact c1.2 x hx
   ·exact c2.2 x hx
end
end Go.Proofs.YtoaflbnkiobhdaaGreat.Vm
set_option linter.unusedVariables false
set_option linter.unusedSimpArgs false
namespace Go.Proofs.YtoaflbnkiobhdaaGreat.Vm
section
variable {P:Program} {Γ:Ctx} {w0:World} {S:Own}
theorem e_ {l:List Nat} (h:eG l=true):l.Nodup:=by
 induction l with
 | nil=>simp
 | cons i l ih=>
  simp only[eG,Bool.and_eq_true,Bool.not_eq_true'] at h
  rw[List.nodup_cons]
  refine⟨fun hm=> ?_,ih h.2⟩
  rw[fR.2 hm] at h
  simp at h
theorem Da {R:Rn} {j:Nat} {x:aj×Option Nat} (h:AP R j=some x):(j,x)∈R:=by
 induction R with
 | nil=>simp [AP] at h
 | cons y l ih=>
  obtain⟨i,z⟩:=y
  simp only[AP] at h
  split at h
  ·rename_i hj
   injection h with h
   subst h hj
   exact List.mem_cons_self ..
  ·exact List.mem_cons_of_mem _ (ih h)
theorem E5 {R:Rn} {x:Nat×aj×Option Nat} (hx:x∈R) (hn:(R.map (·.1)).Nodup):AP R x.1=some x.2:=by
 induction R with
 | nil=>simp at hx
 | cons y l ih=>
  obtain⟨i,z⟩:=y
  simp only[List.map_cons,List.nodup_cons] at hn
  simp only[AP]
  rcases List.mem_cons.1 hx with rfl | hx
  ·simp
  ·have:x.1≠i:=fun e=>hn.1 (e ▸ List.mem_map_of_mem hx)
   rw[if_neg this]
   exact ih hx hn.2
theorem E4 {R:Rn} {j:Nat} (h:j ∉ R.map (·.1)):AP R j=none:=by
 induction R with
 | nil=>rfl
 | cons y l ih=>
  obtain⟨i,z⟩:=y
  simp only[List.map_cons,List.mem_cons,not_or] at h
  simp only[AP]
  rw[if_neg h.1]
  exact ih h.2
theorem F5 {R:Rn} (h:(d_ R).Nodup) {x y:Nat×aj×Option Nat} {id:Nat} (hx:x∈R) (hy:y∈R) (h1:x.2.2=some id) (h2:y.2.2=some id):x=y:=by
 have mem:∀(R:Rn) (z:Nat×aj×Option Nat),z∈R→z.2.2=some id→id∈d_ R:=by
  intro R
  induction R with
  | nil=>simp
  | cons u l ih=>
   obtain⟨i,o,lr⟩:=u
   intro z hz KS
   rcases List.mem_cons.1 hz with rfl | I6
   ·simp only at KS
    subst KS
    simp [d_]
   ·have:=ih z I6 KS
    cases lr with
    | none=>simpa [d_] using this
    | some k=>simp [d_,this]
 induction R with
 | nil=>simp at hx
 | cons u l ih=>
  obtain⟨i,o,lr⟩:=u
  cases lr with
  | none=>
   simp only[d_] at h
   rcases List.mem_cons.1 hx with rfl | hx
   ·cases h1
   ·rcases List.mem_cons.1 hy with rfl | hy
    ·cases h2
    ·exact ih h hx hy
  | some k=>
   simp only[d_,List.nodup_cons] at h
   rcases List.mem_cons.1 hx with rfl | hx
   ·simp only[Option.some.injEq] at h1
    rcases List.mem_cons.1 hy with rfl | hy
    ·rfl
    ·exact absurd (h1 ▸ mem l y hy h2) h.1
   ·rcases List.mem_cons.1 hy with rfl | hy
    ·simp only[Option.some.injEq] at h2
     exact absurd (h2 ▸ mem l x hx h1) h.1
    ·exact ih h.2 hx hy
theorem gI {st:St} {i:Nat} :∀(l:List (Nat×CK)),iV (aU P st l).1 i= .ff∨
  ∃ck,iV (aU P st l).1 i=(au P st.hp ck (ag (10000+i) 0) (st.get i)).1∧∀x∈(au P st.hp ck (ag (10000+i) 0) (st.get i)).2,x∈(aU P st l).2
 | []=> .inl rfl
 | (k,ck)::l=>by
  simp only[aU,iV]
  cases hk:Nat.beq k i
  ·simp only[cond_false]
   rcases gI l with h | ⟨LK,h1,h2⟩
   ·exact .inl h
   ·exact .inr ⟨LK,h1,fun x hx=>List.mem_append_right _ (h2 x hx)⟩
  ·have:=Nat.eq_of_beq_eq_true hk
   subst this
   simp only[cond_true]
   exact .inr ⟨ck,rfl,fun x hx=>List.mem_append_left _ hx⟩
theorem gH {st:St} {x:Nat×aj×Option Nat} :∀(l:List (Nat×CK)),x∈(aU P st l).2→∃i ck,x∈(au P st.hp ck (ag (10000+i) 0) (st.get i)).2
 | [],h=>by simp [aU] at h
 | (k,ck)::l,h=>by
  simp only[aU] at h
  rcases List.mem_append.1 h with h | h
  ·exact⟨k,ck,h⟩
  ·exact gH l h
theorem dD {hp:List (Nat×aj)} {j:Nat} {o:aj} :∀(l:List (Nat×List (Nat×CK))),(j,o)∈(aO P hp l).1→
  ∃lE t cells,dw hp j=some (.box t cells)∧o= .box t (bB P hp lE j 0 cells).1∧∀x∈(bB P hp lE j 0 cells).2,x∈(aO P hp l).2
 | [],h=>by simp [aO] at h
 | (b,lE)::l,h=>by
  simp only[aO] at h ⊢
  split at h
  ·rename_i t cells hb
   simp only at h ⊢
   rcases List.mem_cons.1 h with h | h
   ·simp only[Prod.mk.injEq] at h
    obtain⟨rfl,rfl⟩:=h
    refine⟨lE,t,cells,hb,rfl,fun x hx=> ?_⟩
    exact List.mem_append_left _ hx
   ·obtain⟨JQ,t',eC,h1,h2,h3⟩:=dD l h
    exact⟨JQ,t',eC,h1,h2,fun x hx=>List.mem_append_right _ (h3 x hx)⟩
  ·rename_i hb
   exact dD l h
theorem eX {hp:List (Nat×aj)} {x:Nat×aj×Option Nat} :∀(l:List (Nat×List (Nat×CK))),x∈(aO P hp l).2→
  ∃lE j t cells,dw hp j=some (.box t cells)∧x∈(bB P hp lE j 0 cells).2
 | [],h=>by simp [aO] at h
 | (b,lE)::l,h=>by
  simp only[aO] at h
  split at h
  ·rename_i t cells hb
   simp only at h
   rcases List.mem_append.1 h with h | h
   ·exact⟨lE,b,t,cells,hb,h⟩
   ·exact eX l h
  ·exact eX l h
theorem iE {hp:List (Nat×aj)} {ck:CK} {nid:Nat} {s:SV} :∀x∈(au P hp ck nid s).2,Bc (dw hp) x:=by
 intro x hx
 cases s with
 | own id=>
  simp only[au] at hx
  cases hl:dw hp id with
  | none=>simp [hl] at hx
  | some o=>
   cases o with
   | box=>simp [hl] at hx
   | dV=>simp [hl] at hx
   | deep t e ts r jT=>
    cases jT with
    | some q=>simp [hl] at hx
    | none=>
    simp only[hl] at hx
    cases ck with
    | dV=>simp at hx
    | mr=>
     rw[List.mem_singleton] at hx
     subst hx
     exact .inl ⟨id,.inr ⟨t,e,ts,r,rfl⟩,rfl,hl⟩
    | own=>
     rw[List.mem_singleton] at hx
     subst hx
     exact .inl ⟨id,.inr ⟨t,e,ts,r,rfl⟩,rfl,hl⟩
    | deep=>
     rw[List.mem_singleton] at hx
     subst hx
     exact .inl ⟨id,.inr ⟨t,e,ts,r,rfl⟩,rfl,hl⟩
   | row t e r fz u=>
    simp only[hl] at hx
    cases ck with
    | dV=>simp at hx
    | mr=>
     rw[List.mem_singleton] at hx
     subst hx
     exact .inl ⟨id,.inl ⟨t,e,r,fz,u,rfl⟩,rfl,hl⟩
    | own=>
     rw[List.mem_singleton] at hx
     subst hx
     exact .inl ⟨id,.inl ⟨t,e,r,fz,u,rfl⟩,rfl,hl⟩
    | deep=>
     rw[List.mem_singleton] at hx
     subst hx
     exact .inl ⟨id,.inl ⟨t,e,r,fz,u,rfl⟩,rfl,hl⟩
 | nil=>
  simp only[au] at hx
  cases ck with
  | mr=>simp at hx
  | dV t=>
   simp only at hx
   split at hx<;>simp at hx
  | own t=>
   simp only at hx
   split at hx
   ·rename_i e he
    rw[List.mem_singleton] at hx
    subst hx
    exact .inr ⟨.inl ⟨t,e,rfl⟩,rfl⟩
   ·simp at hx
  | deep t ts=>
   simp only at hx
   split at hx
   ·rename_i e he
    rw[List.mem_singleton] at hx
    subst hx
    exact .inr ⟨.inr ⟨t,e,ts,rfl⟩,rfl⟩
   ·simp at hx
 | kb=>simp [au] at hx
 | agg=>simp [au] at hx
 | Dk=>simp [au] at hx
 | dU=>simp [au] at hx
 | ptr=>simp [au] at hx
 | ff=>simp [au] at hx
 | undef=>simp [au] at hx
 | int=>simp [au] at hx
 | bool=>simp [au] at hx
 | str=>simp [au] at hx
 | sl=>simp [au] at hx
 | gA=>simp [au] at hx
 | Fx=>simp [au] at hx
 | FB g cs=>
  simp only[au] at hx
  cases hp:jW cs<;>simp [hp] at hx
theorem gG {hp:List (Nat×aj)} {lE:List (Nat×CK)} {b:Nat} :∀(l:List SV) (k:Nat),∀x∈(bB P hp lE b k l).2,Bc (dw hp) x
 | [],_,x,hx=>by simp [bB] at hx
 | s::l,k,x,hx=>by
  simp only[bB] at hx
  rcases List.mem_append.1 hx with hx | hx
  ·exact iE x hx
  ·exact gG l (k+1) x hx
def HU (h:Nat→Option aj) (R:Rn) (β:Env) (φ:Nat→List Nat) (j:Nat) (o:aj):Prop:=
 (AP R j=none∧∃t cells,h j=some (.box t cells)∧∃eC,o= .box t eC)∨
 (∃id,AP R j=some (o,some id)∧h id=some o∧fk o)∨
 (AP R j=some (o,none)∧Bb o)
theorem fk.Fp {o:aj} (ho:fk o) {β:Env} {R:Rn} {j id:Nat} {o':aj} (h1:AP R j=some (o',some id)):al (β.iC R) j o=al β id o:=by
 rcases ho with ⟨t,e,r,fz,u,rfl⟩ | ⟨t,e,ts,r,rfl⟩<;>simp [al,Env.iC,h1]
theorem fk.F4 {o:aj} (ho:fk o) {w:World} {av av':Nat→Prop} {β:Env} {R:Rn} {j id:Nat} {o':aj} {φ:List Nat} (h1:AP R j=some (o',some id)) (cN:∀b,av' b→av b) (h:fH w av β id o φ):fH w av' (β.iC R) j o φ:=by
 have hval:(β.iC R).val j=β.val id:=by simp [Env.iC,h1]
 have ja:(β.iC R).nb j=β.nb id:=by simp [Env.iC,h1]
 rcases ho with ⟨t,e,r,fz,u,rfl⟩ | ⟨t,e,ts,r,rfl⟩
 ·obtain⟨vals,aA,g1,g2,g3,g4⟩:=h
  exact⟨vals,aA,by rw[hval];exact g1,g2,fun b hb hx=>g3 b hb (cN b hx),by rw[hval];exact g4⟩
 ·obtain⟨vals,aR,g1,g2,g3,g4⟩:=h
  exact⟨vals,aR,by rw[hval];exact g1,g2,by rw[ja];exact g3,by rw[hval];exact g4⟩
theorem fk.Cy {o:aj} (ho:fk o) {t:TypeId} {cs:List SV} (h:o= .box t cs):False:=by
 rcases ho with ⟨_,_,_,_,_,rfl⟩ | ⟨_,_,_,_,rfl⟩<;>cases h
theorem Ca {f f':Nat→SV} {h h':Nat→Option aj} {β:Env} {φ:Nat→List Nat} {tm:Array Value} {w:World} (hc:Core w0 S f h β φ tm w) {R:Rn} (hold:(d_ R).Nodup)
  (bC:∀j o,h' j=some o→HU h R β φ j o)
  (cN:(∀b,Av h' (β.iC R) b→Av h β b)→(∀i,ak w (Av h' (β.iC R)) (β.iC R) (f' i) (tm.getD i undef))∧
   ∀j t cells eC,h' j=some (.box t eC)→h j=some (.box t cells)→∀vs,af w (Av h β) β cells vs→af w (Av h' (β.iC R)) (β.iC R) eC vs):
  Core w0 S f' h' (β.iC R) (iH φ R) tm w:=by
 have hA:∀b,Av h' (β.iC R) b→Av h β b:=by
  rintro b (⟨j,o,hj,hb⟩ | hb)
  ·rcases bC j o hj with ⟨h1,t,cells,h2,eC,rfl⟩ | ⟨id,h1,h2,ho⟩ | ⟨h1,he⟩
   ·exact .inl ⟨j,_,h2,by simpa [al,Env.iC] using hb⟩
   ·refine .inl ⟨id,_,h2, ?_⟩
    rw[ho.Fp h1] at hb
    exact hb
   ·rcases he with ⟨t,e,rfl⟩ | ⟨t,e,ts,rfl⟩<;>simp [al,Env.iC,h1,Value.ownBlock] at hb
  ·exact .inr hb
 obtain⟨ke,j9⟩:=cN hA
 refine⟨ke,fun j o hj=> ?_,fun j o hj=> ?_,fun i j oi oj cI hi hj b hb=> ?_,hc.gv,hc.bars⟩
 ·rcases bC j o hj with ⟨h1,t,cells,h2,eC,rfl⟩ | ⟨id,h1,h2,ho⟩ | ⟨h1,he⟩
  ·obtain⟨vs,g1,g2,g3,g4⟩:=hc.ay j _ h2
   refine⟨vs,g1,j9 j t cells eC hj h2 vs g2,g3, ?_⟩
   simp only[iH,h1]
   exact g4
  ·simp only[iH,h1]
   exact ho.F4 h1 hA (hc.ay id _ h2)
  ·have hval:(β.iC R).val j= .slice none 0 0:=by simp [Env.iC,h1]
   have ja:(β.iC R).nb j=[]:=by simp [Env.iC,h1]
   rcases he with ⟨t,e,rfl⟩ | ⟨t,e,ts,rfl⟩
   ·refine⟨[],[],⟨by simp,.inl ⟨hval,rfl,rfl⟩⟩,⟨rfl,by simp⟩,by simp, ?_⟩
    simp [iH,h1,hval,Value.ownBlock]
   ·refine⟨[],[],⟨by simp,.inl ⟨hval,rfl,rfl⟩⟩,⟨rfl,by simp⟩,by rw[ja];rfl, ?_⟩
    simp [iH,h1,hval,Value.ownBlock]
 ·rcases bC j o hj with ⟨h1,t,cells,h2,eC,rfl⟩ | ⟨id,h1,h2,ho⟩ | ⟨h1,he⟩
  ·simp only[iH,h1];exact hc.fresh j _ h2
  ·simp only[iH,h1];exact hc.fresh id _ h2
  ·simp [iH,h1]
 ·rcases bC i oi hi with ⟨h1,t,cells,h2,eC,rfl⟩ | ⟨id,h1,h2,ho⟩ | ⟨h1,he⟩<;>
   rcases bC j oj hj with ⟨k1,t',GR,k2,Jm,rfl⟩ | ⟨LA,k1,k2,dT⟩ | ⟨k1,Jt⟩<;>
   simp only[iH,h1,k1] at hb ⊢
  ·exact hc.sep i j _ _ cI h2 k2 b hb
  ·refine hc.sep i LA _ _ (fun e=> ?_) h2 k2 b hb
   rw[e,k2,Option.some.injEq] at h2
   exact dT.Cy h2
  ·simp
  ·refine hc.sep id j _ _ (fun e'=> ?_) h2 k2 b hb
   rw[e',k2,Option.some.injEq] at h2
   exact ho.Cy h2.symm
  ·refine hc.sep id LA _ _ (fun e'=> ?_) h2 k2 b hb
   subst e'
   have:=F5 hold (Da h1) (Da k1) rfl rfl
   simp only[Prod.mk.injEq] at this
   exact cI this.1
  ·simp
  ·simp at hb
  ·simp at hb
  ·simp at hb
theorem B_ {an:lb} {st:St} {a:Act} {w:World} (hR:Rel w0 S st a w) (aI:(jZ P an st).ok=true):Rel w0 S (jZ P an st) a w∧st.ok=true:=by
 unfold jZ at aI ⊢
 simp only at aI ⊢
 cases hnd:eG (d_ ((aU P st an.bY).2++(aO P st.hp an.boxes).2)) &&
   eG ((aO P st.hp an.boxes).1.map (·.1)++((aU P st an.bY).2++(aO P st.hp an.boxes).2).map (·.1))
 ·rw[hnd] at aI
  simp [bb] at aI
 rw[hnd] at aI
 simp only[cond_true] at aI ⊢
 refine⟨?_,aI⟩
 simp only[Bool.and_eq_true] at hnd
 obtain⟨β,φ,hc⟩:=hR.core
 have hold:=e_ hnd.1
 have Gp:=e_ hnd.2
 rw[List.nodup_append] at Gp
 obtain⟨MF,Me,G6⟩:=Gp
 have jx:∀x∈(aU P st an.bY).2,x∈(aU P st an.bY).2++(aO P st.hp an.boxes).2:=fun x hx=>List.mem_append_left _ hx
 have mX:∀x∈(aO P st.hp an.boxes).2,x∈(aU P st an.bY).2++(aO P st.hp an.boxes).2:=fun x hx=>List.mem_append_right _ hx
 have Gl:∀x∈(aU P st an.bY).2++(aO P st.hp an.boxes).2,Bc (dw st.hp) x:=by
  intro x hx
  rcases List.mem_append.1 hx with hx | hx
  ·obtain⟨i,ck,h1⟩:=gH _ hx
   exact iE x h1
  ·obtain⟨lE,j,t,cells,h1,h2⟩:=eX _ hx
   exact gG cells 0 x h2
 generalize (aU P st an.bY).2++(aO P st.hp an.boxes).2=R at*
 have ju:∀x∈R,AP R x.1=some x.2:=fun x hx=>E5 hx Me
 have gN:Core w0 S st.get (dw st.hp) β φ a.tmps w:=hc
 refine⟨hR.size,hR.fx,hR.defers,hR.kept,β.iC R,iH φ R, ?_⟩
 have kc:∀j o,dw ((aO P st.hp an.boxes).1++R.map (fun x=>(x.1,x.2.1))) j=some o→(j,o)∈(aO P st.hp an.boxes).1∨∃lr,(j,o,lr)∈R:=by
  intro j o hj
  rcases List.mem_append.1 (C_ hj) with h1 | h1
  ·exact .inl h1
  ·obtain⟨x,hx,he⟩:=List.mem_map.1 h1
   obtain⟨k,o',lr⟩:=x
   simp only[Prod.mk.injEq] at he
   obtain⟨rfl,rfl⟩:=he
   exact .inr ⟨lr,hx⟩
 refine Ca gN hold (fun j o hj=> ?_) (fun hA=>⟨fun i=> ?_,fun j t cells eC hj hh vs Mv=> ?_⟩)
 ·rcases kc j o hj with h1 | ⟨lr,h1⟩
  ·obtain⟨lE,t,cells,h2,h3,_⟩:=dD _ h1
   refine .inl ⟨E4 (fun hm=>G6 j (List.mem_map_of_mem (f:=(·.1)) h1) j hm rfl),t,cells,h2,_,h3⟩
  ·rcases Gl _ h1 with ⟨id,g1,g2,g3⟩ | ⟨g1,g2⟩
   ·simp only at g1 g2 g3
    subst g2
    exact .inr (.inl ⟨id,ju _ h1,g3,g1⟩)
   ·simp only at g1 g2
    subst g2
    exact .inr (.inr ⟨ju _ h1,g1⟩)
 ·show ak w _ _ (iV (aU P st an.bY).1 i) _
  rcases gI (P:=P) (st:=st) (i:=i) an.bY with h1 | ⟨ck,h1,h2⟩
  ·rw[h1];simp [ak]
  ·rw[h1]
   exact (jf gN (hc.bY i) hA (fun x hx=>ju x (jx x (h2 x hx)))).1
 ·rcases kc j _ hj with h1 | ⟨lr,h1⟩
  ·obtain⟨lE,t',GR,h2,h3,h4⟩:=dD _ h1
   rw[hh] at h2
   simp only[Option.some.injEq,aj.box.injEq] at h2
   obtain⟨rfl,rfl⟩:=h2
   simp only[aj.box.injEq,true_and] at h3
   rw[h3]
   exact (iF gN hA cells 0 vs Mv (fun x hx=>ju x (mX x (h4 x hx)))).1
  ·rcases Gl _ h1 with ⟨id,g1,g2,g3⟩ | ⟨g1,g2⟩
   ·exact (g1.Cy rfl).elim
   ·rcases g1 with ⟨_,_,g1⟩ | ⟨_,_,_,g1⟩<;>cases g1
theorem Df (st:St):st.DA.ok=st.ok:=by
 unfold St.DA
 split
 ·split
  ·split
   ·rename_i r _ _
    generalize (Nat.beq _ _ && _ && _ && _ && _:Bool)=c
    cases c<;>rfl
   ·rfl
  ·rfl
 ·rfl
theorem Ff {st:St} {a:Act} {w:World} (hR:Rel w0 S st a w):Rel w0 S st.DA a w:=by
 unfold St.DA
 split
 ·rename_i id hh
  split
  ·rename_i t e t1 rows i nid aJ
   split
   ·rename_i t2 e2 r u hn
    cases hb:Nat.beq t2 t1 && HH e e2 && Nat.beq (aB e) 1 && !(Nat.beq nid id) && aq e2
    ·exact hR
    ·simp only[cond_true]
     simp only[Bool.and_eq_true,Bool.not_eq_true'] at hb
     obtain⟨⟨⟨⟨b1,b2⟩,b3⟩,b4⟩,b5⟩:=hb
     have b1:=Nat.eq_of_beq_eq_true b1
     subst b1
     have ke:∃e',e[dW e]? =some (.sl e')∧e'=e2:=by
      unfold HH at b2
      split at b2
      ·rename_i e' he
       exact⟨e',he,aM _ _ b2⟩
      ·cases b2
     have cI:nid≠id:=Nat.ne_of_beq_eq_false b4
     obtain⟨β,φ,hc⟩:=hR.core
     obtain⟨β',φ',gN⟩:=DB hc (h':=dw (km [(id,some (.deep t e [t2] (rows.set i (bP (rows.getD i []) (dW e) [.sl r])) none)),(nid,none)] st.hp)) aJ hn ke (Nat.eq_of_beq_eq_true b3) cI b5
      (by rw[gX];simp [fo,az]) (fun j hj=>by rw[gX];simp [fo,az,hj];rfl)
     exact⟨hR.size,hR.fx,hR.defers,hR.kept,β',φ',gN⟩
   ·exact hR
  ·exact hR
 ·exact hR
theorem fM (st:St):∀(l:List (Nat×CK)),bR st.obj (da st l)∧aN (da st l)=true
 | []=>⟨by simp [da,bR],rfl⟩
 | (i,.mr)::l=>fM st l
 | (i,.own _)::l=>fM st l
 | (i,.deep _ _)::l=>fM st l
 | (i,.dV _)::l=>by
  have ih:=fM st l
  simp only[da]
  split
  ·rename_i id hg
   split
   ·rename_i t e r fz u aJ
    cases hm:bO id (da st l)
    ·exact ih
    ·refine⟨fun x hx=> ?_,by simp only[cond_true,aN,hm,ih.2,Bool.and_self]⟩
     simp only[cond_true] at hx
     rcases List.mem_cons.1 hx with rfl | hx
     ·exact⟨_,aJ,.inl ⟨t,fz,rfl⟩⟩
     ·exact ih.1 x hx
   ·exact ih
  ·exact ih
theorem FE {an:lb} {st:St} {a:Act} {w:World} (hR:Rel w0 S st a w):Rel w0 S (st.JS an) a w:=by
 obtain⟨β,φ,hc⟩:=hR.core
 obtain⟨h1,h2⟩:=fM st an.bY
 refine⟨hR.size,hR.fx,hR.defers,hR.kept,β,bl φ (da st an.bY), ?_⟩
 have:=hc.gf _ h1 h2
 show Core w0 S st.get (dw (km (ai (da st an.bY)) st.hp)) _ _ _ _
 rw[gX]
 exact this
theorem mN {an:lb} {st:St} {a:Act} {w:World} (hR:Rel w0 S st a w) (aI:(canon P an st).ok=true):Rel w0 S (canon P an st) a w∧st.ok=true:=by
 have:=B_ (FE (an:=an) (Ff hR)) aI
 have h2:=this.2
 simp only[St.JS] at h2
 rw[Df] at h2
 exact⟨this.1,h2⟩
end
end Go.Proofs.YtoaflbnkiobhdaaGreat.Vm
namespace Go.Proofs.YtoaflbnkiobhdaaGreat.Vm
section
variable {P:Program} {Γ:Ctx} {w0:World} {S:Own} {A:List (Nat×lb)} {N:Nat} {r:List DC}
structure La (K:Al) (r:List DC):Prop where
 eB:∀st,K.eB st=(true,r)→st.ok=true
 ext:∀i st,K.ext i st=(true,r)→st.ok=true
 ret:∀st,K.ret st=(true,r)→st.ok=true
theorem Dm {an:lb} {st:St} (h:(jZ P an st).ok=true):st.ok=true:=by
 unfold jZ at h
 simp only at h
 cases hnd:eG (d_ ((aU P st an.bY).2++(aO P st.hp an.boxes).2)) &&
   eG ((aO P st.hp an.boxes).1.map (·.1)++((aU P st an.bY).2++(aO P st.hp an.boxes).2).map (·.1))
 ·rw[hnd] at h
  simp [bb] at h
 ·rw[hnd] at h
  exact h
theorem jg {an:lb} {st:St} (h:(canon P an st).ok=true):st.ok=true:=by
 have:=Dm h
 have h2:st.DA.ok=true:=this
 rwa [Df] at h2
theorem bE:jX≠(true,r):=by simp [jX]
theorem AR {st:St} {c:Operand} {x y:Code} {g:Bool} (h:(merge st g (exec P Γ x (st.reset.c9 c true)) (exec P Γ y (st.reset.c9 c false))).ok=true):st.ok=true:=by
 have lk:=cW h
 cases g with
 | true=>have:=(dS x _ (lk.1 rfl)).ok;rwa [eu] at this
 | false=>have:=(dS y _ (lk.2 rfl)).ok;rwa [eu] at this
def kI (P:Program) (Γ:Ctx) (A:List (Nat×lb)) (N:Nat) (x:Code) (an:lb) (K:Al) (n:Nat):St→kx:=
 Nat.rec (motive:=fun _=>St→kx) (fun _=>jX) (fun _ ih s=>run P Γ A N x s {eB:=fun s'=>ih (canon P an s'),ext:=K.ext,ret:=K.ret}) n
theorem iW {x:Code} {an:lb} {K:Al} {n:Nat} {s:St} :kI P Γ A N x an K (n+1) s=run P Γ A N x s {eB:=fun s'=>kI P Γ A N x an K n (canon P an s'),ext:=K.ext,ret:=K.ret} :=rfl
theorem fC:∀(c:Code) (st:St) (K:Al),La K r→run P Γ A N c st K=(true,r)→st.ok=true
 | .skip,st,K,hK,h=>hK.eB st (by simpa only[run] using h)
 | .region id ops draw,st,K,hK,h=>by
  simp only[run] at h
  exact (Aj (hK.eB _ (C3 h))).ok
 | .seq x y,st,K,hK,h=>by
  simp only[run] at h
  exact fC x st {eB:=fun s=>run P Γ A N y s K,ext:=K.ext,ret:=K.ret} ⟨fun s hs=>fC y s K hK hs,hK.ext,hK.ret⟩ h
 | .cond c x y,st,K,hK,h=>by
  simp only[run] at h
  split at h
  ·rename_i t mV
   cases t with
   | true=>exact fC x st K hK h
   | false=>exact fC y st K hK h
  ·rename_i g mV
   cases hm:simple x && simple y && kj st g (exec P Γ x (st.reset.c9 c true)) (exec P Γ y (st.reset.c9 c false))
   ·rw[hm] at h
    simp only[cond_false] at h
    cases g with
    | true=>
     have:=fC x _ K hK h
     rwa [eu] at this
    | false=>
     have:=fC y _ K hK h
     rwa [eu] at this
   ·rw[hm] at h
    simp only[cond_true] at h
    exact AR (hK.eB _ (C3 h))
  ·exact absurd h bE
 | .block id x,st,K,hK,h=>by
  simp only[run] at h
  refine fC x st {eB:=K.eB,ext:=fun i s=>bif Nat.beq i id then K.eB s else K.ext i s,ret:=K.ret} ⟨hK.eB,fun i s hs=> ?_,hK.ret⟩ h
  simp only at hs
  cases hb:Nat.beq i id
  ·rw[hb] at hs;exact hK.ext i s hs
  ·rw[hb] at hs;exact hK.eB s hs
 | .loop x,st,K,hK,h=>by
  simp only[run] at h
  split at h
  ·rename_i an LV
   have key:∀n s,kI P Γ A N x an K n s=(true,r)→s.ok=true:=by
    intro n
    induction n with
    | zero=>intro s hs;exact absurd hs bE
    | succ n ih=>
     intro s hs
     rw[iW] at hs
     exact fC x s {eB:=fun s'=>kI P Γ A N x an K n (canon P an s'),ext:=K.ext,ret:=K.ret} ⟨fun s' Bu=>jg (ih _ Bu),hK.ext,hK.ret⟩ hs
   exact jg (key N _ h)
  ·exact absurd h bE
 | .exit id,st,K,hK,h=>hK.ext id st (by simpa only[run] using h)
 | .ret,st,K,hK,h=>hK.ret st (by simpa only[run] using h)
 | .rangeFunc ..,st,_,_,h=>by simp only[run] at h;exact absurd h bE
 | .scope ..,st,_,_,h=>by simp only[run] at h;exact absurd h bE
 | .goto ..,st,_,_,h=>by simp only[run] at h;exact absurd h bE
 | .label ..,st,_,_,h=>by simp only[run] at h;exact absurd h bE
 | .refuse ..,st,_,_,h=>by simp only[run] at h;exact absurd h bE
structure KQ (w0:World) (S:Own) (K:Al) (r:List DC) (Q:Exit→Act→World→Prop):Prop where
 eB:∀st a w,Rel w0 S st a w→K.eB st=(true,r)→Q .normal a w
 ext:∀i st a w,Rel w0 S st a w→K.ext i st=(true,r)→Q (.exit i) a w
 ret:∀st a w,Rel w0 S st a w→K.ret st=(true,r)→Q .ret a w
theorem cL (eF:bD P Γ):∀(c:Code) (st:St) (K:Al) (a:Act) (w:World) (Q:Exit→Act→World→Prop),La K r→Rel w0 S st a w→run P Γ A N c st K=(true,r)→KQ w0 S K r Q→c.wp P Q a w
 | .skip,st,K,a,w,Q,hK,hR,h,hQ=>wp_skip (hQ.eB st a w hR (by simpa only[run] using h))
 | .region id ops draw,st,K,a,w,Q,hK,hR,h,hQ=>by
  simp only[run] at h
  have h:=C3 h
  exact jK eF hR (hK.eB _ h) (fun a' w' eD=>hQ.eB _ a' w' eD h)
 | .seq x y,st,K,a,w,Q,hK,hR,h,hQ=>by
  simp only[run] at h
  refine wp_seq (cL eF x st {eB:=fun s=>run P Γ A N y s K,ext:=K.ext,ret:=K.ret} a w _ ⟨fun s hs=>fC y s K hK hs,hK.ext,hK.ret⟩ hR h ⟨fun s a' w' eD hs=> ?_,fun i s a' w' eD hs=> ?_,fun s a' w' eD hs=> ?_⟩)
  ·exact cL eF y s K a' w' Q hK eD hs hQ
  ·exact hQ.ext i s a' w' eD hs
  ·exact hQ.ret s a' w' eD hs
 | .cond c x y,st,K,a,w,Q,hK,hR,h,hQ=>by
  simp only[run] at h
  split at h
  ·rename_i t mV
   refine wp_cond (Gf hR mV) ?_
   cases t with
   | true=>exact cL eF x st K a w Q hK hR h hQ
   | false=>exact cL eF y st K a w Q hK hR h hQ
  ·rename_i g mV
   have hb:=C0 hR mV
   cases hm:simple x && simple y && kj st g (exec P Γ x (st.reset.c9 c true)) (exec P Γ y (st.reset.c9 c false))
   ·rw[hm] at h
    simp only[cond_false] at h
    refine wp_cond hb ?_
    cases g with
    | true=>exact cL eF x _ K a w Q hK (ir hR hb) h hQ
    | false=>exact cL eF y _ K a w Q hK (ir hR hb) h hQ
   ·rw[hm] at h
    simp only[cond_true] at h
    have h:=C3 h
    have aI:=hK.eB _ h
    have he:exec P Γ (.cond c x y) st=merge st g (exec P Γ x (st.reset.c9 c true)) (exec P Γ y (st.reset.c9 c false)):=by
     simp only[exec,mV]
    exact ga eF (.cond c x y) st a w Q hR (by rw[he];exact aI) (fun a' w' eD=>hQ.eB _ a' w' eD (by rw[he];exact h))
  ·exact absurd h bE
 | .block id x,st,K,a,w,Q,hK,hR,h,hQ=>by
  simp only[run] at h
  refine wp_block (cL eF x st {eB:=K.eB,ext:=fun i s=>bif Nat.beq i id then K.eB s else K.ext i s,ret:=K.ret} a w _ ⟨hK.eB,fun i s hs=> ?_,hK.ret⟩ hR h ⟨fun s a' w' eD hs=>hQ.eB s a' w' eD hs,fun i s a' w' eD hs=> ?_,fun s a' w' eD hs=>hQ.ret s a' w' eD hs⟩)
  ·simp only at hs
   cases hb:Nat.beq i id
   ·rw[hb] at hs;exact hK.ext i s hs
   ·rw[hb] at hs;exact hK.eB s hs
  ·simp only at hs
   simp only[Exit.inBlock]
   cases hb:Nat.beq i id
   ·rw[hb] at hs
    rw[if_neg (Nat.ne_of_beq_eq_false hb)]
    exact hQ.ext i s a' w' eD hs
   ·rw[hb] at hs
    rw[if_pos (Nat.eq_of_beq_eq_true hb)]
    exact hQ.eB s a' w' eD hs
 | .loop x,st,K,a,w,Q,hK,hR,h,hQ=>by
  simp only[run] at h
  split at h
  ·rename_i an LV
   have Ho:∀n s,kI P Γ A N x an K n s=(true,r)→s.ok=true:=by
    intro n
    induction n with
    | zero=>intro s hs;exact absurd hs bE
    | succ n ih=>
     intro s hs
     rw[iW] at hs
     exact fC x s {eB:=fun s'=>kI P Γ A N x an K n (canon P an s'),ext:=K.ext,ret:=K.ret} ⟨fun s' Bu=>jg (ih _ Bu),hK.ext,hK.ret⟩ hs
   have key:∀n s a w,Rel w0 S s a w→kI P Γ A N x an K n s=(true,r)→Code.rounds P x Q n a w:=by
    intro n
    induction n with
    | zero=>intro s a w _ hs;exact absurd hs bE
    | succ n ih=>
     intro s a w hR hs
     rw[iW] at hs
     rw[rounds_succ]
     refine cL eF x s {eB:=fun s'=>kI P Γ A N x an K n (canon P an s'),ext:=K.ext,ret:=K.ret} a w _ ⟨fun s' Bu=>jg (Ho _ _ Bu),hK.ext,hK.ret⟩ hR hs ⟨fun s' a' w' eD Bu=> ?_,fun i s' a' w' eD Bu=> ?_,fun s' a' w' eD Bu=> ?_⟩
     ·exact ih _ a' w' (mN eD (Ho _ _ Bu)).1 Bu
     ·exact hQ.ext i s' a' w' eD Bu
     ·exact hQ.ret s' a' w' eD Bu
   exact wp_loop_rounds N (key N _ a w (mN hR (Ho _ _ h)).1 h)
  ·exact absurd h bE
 | .exit id,st,K,a,w,Q,hK,hR,h,hQ=>wp_exit (hQ.ext id st a w hR (by simpa only[run] using h))
 | .ret,st,K,a,w,Q,hK,hR,h,hQ=>wp_ret (hQ.ret st a w hR (by simpa only[run] using h))
 | .rangeFunc ..,st,_,_,_,_,_,_,h,_=>by simp only[run] at h;exact absurd h bE
 | .scope ..,st,_,_,_,_,_,_,h,_=>by simp only[run] at h;exact absurd h bE
 | .goto ..,st,_,_,_,_,_,_,h,_=>by simp only[run] at h;exact absurd h bE
 | .label ..,st,_,_,_,_,_,_,h,_=>by simp only[run] at h;exact absurd h bE
 | .refuse ..,st,_,_,_,_,_,_,h,_=>by simp only[run] at h;exact absurd h bE
end
end Go.Proofs.YtoaflbnkiobhdaaGreat.Vm
namespace Go.Proofs.YtoaflbnkiobhdaaGreat.Vm
section
variable {P:Program} {Γ:Ctx} {w0:World} {S:Own} {A:List (Nat×lb)} {N:Nat}
variable {f:Nat→SV} {h:Nat→Option aj} {β:Env} {φ:Nat→List Nat} {tm:Array Value} {w:World}
def mc (tmps:Array Value):ResultVar→Sem Value
 | .tmp t=>pure (tmps.getD t undef)
 | .cell a t=>do loadVar t (←asAddr (tmps.getD a undef))
theorem E9 (hc:Core w0 S f h β φ tm w) {id off:Nat} {t:TypeId} {e:cF} (he:(lX P t (.ptr id off)).val f h=some e) {v:Value} (hv:v= .pointer (some ⟨β.cS id,off,none⟩)):
  ∃u,(do loadVar t (←asAddr v):Sem Value).run P w= .ok u w∧ak w (Av h β) β e.sv u:=by
 have conv:∀u,(Instr.loadAt t v).run P w= .ok u w→(do loadVar t (←asAddr v):Sem Value).run P w= .ok u w:=by
  intro u hu
  subst hv
  exact hu
 unfold lX at he
 split at he
 case h_2=>simp at he
 rename_i td hu
 simp only[Cu,M.aS,Option.bind_eq_some_iff] at he
 obtain⟨ob,aJ,he⟩:=he
 split at he
 ·rename_i t' cells
  cases ha:bf P t
  ·simp only[ha,cond_false] at he
   split at he
   ·rename_i s hs
    simp only[M.aa,Option.some.injEq] at he
    subst he
    obtain⟨vs,hh,hr,_,_⟩:=hc.ay id _ aJ
    obtain⟨u,Cq,eU⟩:=af.get _ _ _ _ hr hs
    refine⟨u,conv u ?_,eU⟩
    rw[hv]
    exact dN ha hu (by rw[jh hh];exact Cq)
   ·simp at he
  ·simp only[ha,cond_true] at he
   split at he
   ·rename_i i hi
    cases hz:Nat.ble (off+i.size) cells.length
    ·simp [hz] at he
    ·simp only[hz,cond_true,M.aa,Option.some.injEq] at he
     subst he
     have hle:=Nat.le_of_ble_eq_true hz
     obtain⟨vs,hh,hr,ba,_⟩:=hc.ay id _ aJ
     have hlen:=af.length _ _ hr
     refine⟨.agg ((vs.drop off).take i.size).toArray,conv _ ?_, ?_⟩
     ·rw[hv]
      refine dM (vs:=(vs.drop off).take i.size) ha hi (by simp;omega) (fun j v hj=> ?_)
      rw[jh hh]
      rw[List.getElem?_take] at hj
      split at hj
      ·simpa using hj
      ·cases hj
     ·simp only[ak]
      exact⟨_,rfl,af.take _ _ _ (af.drop _ _ _ hr),fun y hy=>ba y (List.mem_of_mem_drop (List.mem_of_mem_take hy))⟩
   ·simp at he
 ·simp at he
theorem iv (hc:Core w0 S f h β φ tm w):∀(l:List ResultVar) (ss:List SV),(gr P l).val f h=some ss→∃vs,(l.mapM (mc tm)).run P w= .ok vs w∧af w (Av h β) β ss vs
 | [],ss,hs=>by
  simp only[gr,M.aa,Option.some.injEq] at hs
  subst hs
  exact⟨[],by simp,by simp [af]⟩
 | .tmp t::l,ss,hs=>by
  simp only[gr,M.ia,M.ae,Option.bind_eq_some_iff,M.aa,Option.some.injEq] at hs
  obtain⟨r,hr,rfl⟩:=hs
  obtain⟨vs,h1,h2⟩:=iv hc l r hr
  refine⟨tm.getD t undef::vs, ?_, ?_⟩
  ·simp only[List.mapM_cons,mc,Sem.run_bind,Sem.run_pure,Result.andThen_ok,h1]
  ·simp only[af]
   exact⟨_,_,rfl,hc.bY t,h2⟩
 | .cell p t::l,ss,hs=>by
  simp only[gr,M.ia,M.ae,Option.bind_eq_some_iff,M.aa,Option.some.injEq] at hs
  obtain⟨e,he,r,hr,rfl⟩:=hs
  obtain⟨vs,h1,h2⟩:=iv hc l r hr
  have ke:=hc.bY p
  split at he
  ·rename_i id off hp
   rw[hp] at ke
   simp only[ak] at ke
   obtain⟨u,g1,g2⟩:=E9 hc he ke
   refine⟨u::vs, ?_, ?_⟩
   ·simp only[List.mapM_cons,Sem.run_bind,Sem.run_pure]
    have:(mc tm (.cell p t)).run P w= .ok u w:=g1
    simp only[this,Result.andThen_ok,h1]
   ·simp only[af]
    exact⟨_,_,rfl,g2,h2⟩
  ·simp at he
theorem CD {fn:Func} :results fn tm=(do let vs ←fn.results.mapM (mc tm);pure (if h:vs.size=1 then vs[0] else .tuple vs)):=by
 unfold results
 congr 1
theorem F6 (l:List Value):(if h:l.toArray.size=1 then l.toArray[0] else .tuple l.toArray)=pack l:=by
 cases l with
 | nil=>rfl
 | cons x l=>
  cases l with
  | nil=>rfl
  | cons y l=>simp [pack]
theorem kN {fn:Func} {vs:List Value} (hr:(fn.results.toList.mapM (mc tm)).run P w= .ok vs w):(results fn tm).run P w= .ok (pack vs) w:=by
 rw[CD,Array.mapM_eq_mapM_toList]
 simp only[Sem.run_bind,map_eq_pure_bind,Sem.run_pure,hr,Result.andThen_ok,bind_assoc,pure_bind]
 rw[F6]
theorem gK (hc:Core w0 S f h β φ tm w):∀(CB:List RC) (ss:List SV) (vs:List Value) (q:List DC×List Nat×List Nat),af w (Av h β) β ss vs→(dF CB ss).val f h=some q→
  ∃φ' im tp,c_ w CB q.1 vs φ' im tp∧(∀b∈φ',∃i∈q.2.1,(∃o,h i=some o)∧b∈φ i)∧(∀b∈tp,∃i o,i∈q.2.1∧h i=some o∧b∈al β i o)∧(q.2.1.Nodup→φ'.Nodup)∧
   (∀b∈im,¬Av h β b∨∃i∈q.2.2,(∃o,h i=some o)∧b∈φ i)
 | [],[],vs,q,hs,hq=>by
  simp only[dF,M.aa,Option.some.injEq] at hq
  subst hq
  simp only[af] at hs
  exact⟨[],[],[],⟨rfl,hs,rfl,rfl,rfl⟩,by simp,by simp,by simp,by simp⟩
 | [],_::_,vs,q,hs,hq=>by simp [dF] at hq
 | _::_,[],vs,q,hs,hq=>by simp [dF] at hq
 | rc::CB,s::ss,vs,q,hs,hq=>by
  simp only[af] at hs
  obtain⟨v,l,rfl,h1,h2⟩:=hs
  simp only[dF,M.ae,Option.bind_eq_some_iff,M.aa,Option.some.injEq] at hq
  obtain⟨q1,aG,q2,cu,rfl⟩:=hq
  obtain⟨A5,mo,DT,g1,g2,g3,g4,g5⟩:=gK hc CB ss l q2 h2 cu
  cases rc with
  | dV ct=>
   simp only[fm,M.ae,Option.bind_eq_some_iff,M.aa,Option.some.injEq] at aG
   obtain⟨p,hp,rfl⟩:=aG
   obtain⟨fp,r1,r2,_,r4,_⟩:=dn hc h1 hp
   refine⟨A5,fp++mo,DT,⟨p.1,q2.1,v,l,fp,mo,rfl,rfl,r1,g1,rfl⟩, ?_, ?_, ?_, ?_⟩
   ·simpa using g2
   ·simpa using g3
   ·simpa using g4
   ·intro b hb
    rcases List.mem_append.1 hb with hb | hb
    ·rcases r4 b hb with h3 | ⟨x,hx,h3⟩
     ·exact .inl h3
     ·obtain⟨_,B6,_⟩:=r2 x hx
      exact .inr ⟨x.1,List.mem_append_left _ (List.mem_map_of_mem hx),⟨_,B6⟩,ah (hc.ay _ _ B6) b (by rw[eV B6] at h3;exact h3)⟩
    ·rcases g5 b hb with h3 | ⟨i,hi,h3⟩
     ·exact .inl h3
     ·exact .inr ⟨i,List.mem_append_right _ hi,h3⟩
  | own t e=>
   cases s with
   | nil=>
    simp only[fm,M.aa,Option.some.injEq] at aG
    subst aG
    simp only[ak] at h1
    subst h1
    refine⟨A5,mo,DT,⟨[],q2.1,_,l,[],[],A5,DT,rfl,rfl,⟨by simp,.inl ⟨rfl,rfl,rfl⟩⟩,⟨rfl,by simp⟩,g1,by simp [Value.ownBlock],by simp [Value.ownBlock]⟩, ?_, ?_, ?_, ?_⟩
    ·simpa using g2
    ·simpa using g3
    ·simpa using g4
    ·simpa using g5
   | own id=>
    simp only[fm,M.aS,Option.bind_eq_some_iff] at aG
    obtain⟨ob,aJ,aG⟩:=aG
    split at aG
    ·rename_i t' e' r u
     cases aH:Nat.beq t t' && aF e e' && u
     ·simp [aH] at aG
     ·simp only[aH,cond_true,M.aa,Option.some.injEq] at aG
      subst aG
      simp only[Bool.and_eq_true] at aH
      obtain⟨⟨ht,he⟩,hu⟩:=aH
      have KN:=Nat.eq_of_beq_eq_true ht
      have Jt:=aM _ _ he
      subst KN Jt hu
      simp only[ak] at h1
      obtain⟨vals,aA,o1,o2,o3,o4⟩:=hc.ay id _ aJ
      rw[←h1.1] at o1
      simp only[cond_true] at o4
      rw[←h1.1] at o4
      refine⟨(v.ownBlock.toList++aA.flatten)++A5,mo,v.ownBlock.toList++DT,⟨r,q2.1,v,l,vals,aA,A5,DT,rfl,rfl,o1,o2,g1,rfl,rfl⟩, ?_, ?_, ?_, ?_⟩
      ·intro b hb
       rcases List.mem_append.1 hb with hb | hb
       ·exact⟨id,List.mem_append_left _ (List.mem_singleton.2 rfl),⟨_,aJ⟩,by rw[o4];exact hb⟩
       ·obtain⟨i,hi,h3⟩:=g2 b hb
        exact⟨i,List.mem_append_right _ hi,h3⟩
      ·intro b hb
       rcases List.mem_append.1 hb with hb | hb
       ·exact⟨id,_,List.mem_append_left _ (List.mem_singleton.2 rfl),aJ,by rw[h1.1] at hb;simpa [al] using hb⟩
       ·obtain⟨i,o,hi,h3⟩:=g3 b hb
        exact⟨i,o,List.mem_append_right _ hi,h3⟩
      ·intro hnd
       simp only[List.singleton_append,List.nodup_cons] at hnd
       rw[List.nodup_append]
       refine⟨o4 ▸ (hc.fresh id _ aJ).1,g4 hnd.2,fun b hb b' ax e=> ?_⟩
       subst e
       obtain⟨i,hi,⟨o,B4⟩,h3⟩:=g2 b ax
       have cI:id≠i:=fun e=>hnd.1 (e ▸ hi)
       exact hc.sep id i _ _ cI aJ B4 b (o4 ▸ hb) h3
      ·simpa using g5
    ·simp at aG
   | _=>simp [fm] at aG
  | deep t e ts=>
   cases s with
   | nil=>
    simp only[fm,M.aa,Option.some.injEq] at aG
    subst aG
    simp only[ak] at h1
    subst h1
    refine⟨A5,mo,DT,⟨[],q2.1,_,l,[],[],A5,DT,rfl,rfl,⟨by simp,.inl ⟨rfl,rfl,rfl⟩⟩,⟨rfl,by simp⟩,g1,by simp [Value.ownBlock],by simp [Value.ownBlock]⟩, ?_, ?_, ?_, ?_⟩
    ·simpa using g2
    ·simpa using g3
    ·simpa using g4
    ·simpa using g5
   | own id=>
    simp only[fm,M.aS,Option.bind_eq_some_iff] at aG
    obtain⟨ob,aJ,aG⟩:=aG
    split at aG
    ·rename_i t' e' dB r
     cases aH:Nat.beq t t' && aF e e' && fv ts dB
     ·simp [aH] at aG
     ·simp only[aH,cond_true,M.aa,Option.some.injEq] at aG
      subst aG
      simp only[Bool.and_eq_true] at aH
      obtain⟨⟨ht,he⟩,hu⟩:=aH
      have KN:=Nat.eq_of_beq_eq_true ht
      have Jt:=aM _ _ he
      have Cq:=fW _ _ hu
      subst KN Jt Cq
      simp only[ak] at h1
      obtain⟨vals,aR,o1,o2,o3,o4⟩:=hc.ay id _ aJ
      rw[←h1.1] at o1
      rw[←h1.1] at o4
      have bL:∀b∈(v.ownBlock.toList++aR.flatten),b∈al β id (.deep t e ts r none):=fun b hb=>by
       rw[h1.1] at hb
       simpa only[al,o3] using hb
      refine⟨(v.ownBlock.toList++aR.flatten)++A5,mo,(v.ownBlock.toList++aR.flatten)++DT,⟨r,q2.1,v,l,vals,aR,A5,DT,rfl,rfl,o1,o2,g1,rfl,rfl⟩, ?_, ?_, ?_, ?_⟩
      ·intro b hb
       rcases List.mem_append.1 hb with hb | hb
       ·exact⟨id,List.mem_append_left _ (List.mem_singleton.2 rfl),⟨_,aJ⟩,by rw[o4];exact hb⟩
       ·obtain⟨i,hi,h3⟩:=g2 b hb
        exact⟨i,List.mem_append_right _ hi,h3⟩
      ·intro b hb
       rcases List.mem_append.1 hb with hb | hb
       ·exact⟨id,_,List.mem_append_left _ (List.mem_singleton.2 rfl),aJ,bL b hb⟩
       ·obtain⟨i,o,hi,h3⟩:=g3 b hb
        exact⟨i,o,List.mem_append_right _ hi,h3⟩
      ·intro hnd
       simp only[List.singleton_append,List.nodup_cons] at hnd
       rw[List.nodup_append]
       refine⟨o4 ▸ (hc.fresh id _ aJ).1,g4 hnd.2,fun b hb b' ax e=> ?_⟩
       subst e
       obtain⟨i,hi,⟨o,B4⟩,h3⟩:=g2 b ax
       have cI:id≠i:=fun e=>hnd.1 (e ▸ hi)
       exact hc.sep id i _ _ cI aJ B4 b (o4 ▸ hb) h3
      ·simpa using g5
    ·simp at aG
   | _=>simp [fm] at aG
theorem iO (hc:Core w0 S f h β φ tm w):∀(BI:List RK) (ss:List SV) (vs:List Value) (q:List DC×List Nat×List Nat),af w (Av h β) β ss vs→(fq BI ss).val f h=some q→
  ∃φ' im tp,eW w BI q.1 vs φ' im tp∧(∀b∈φ',∃i∈q.2.1,(∃o,h i=some o)∧b∈φ i)∧(∀b∈tp,∃i o,i∈q.2.1∧h i=some o∧b∈al β i o)∧(q.2.1.Nodup→φ'.Nodup)∧
   (∀b∈im,¬Av h β b∨∃i∈q.2.2,(∃o,h i=some o)∧b∈φ i)
 | [],[],vs,q,hs,hq=>by
  simp only[fq,M.aa,Option.some.injEq] at hq
  subst hq
  simp only[af] at hs
  exact⟨[],[],[],⟨rfl,hs,rfl,rfl,rfl⟩,by simp,by simp,by simp,by simp⟩
 | [],_::_,vs,q,hs,hq=>by simp [fq] at hq
 | _::_,[],vs,q,hs,hq=>by simp [fq] at hq
 | k::ks,s::ss,vs,q,hs,hq=>by
  simp only[af] at hs
  obtain⟨v,l,rfl,h1,h2⟩:=hs
  simp only[fq,M.ae,Option.bind_eq_some_iff,M.aa,Option.some.injEq] at hq
  obtain⟨q1,aG,q2,cu,rfl⟩:=hq
  obtain⟨A5,mo,DT,g1,g2,g3,g4,g5⟩:=iO hc ks ss l q2 h2 cu
  have one:∃us:List Value,(bif k.agg then v= .agg us.toArray else us=[v])∧(∀x∈us,x.oneCell'=true)∧∃DK Ja Ji,c_ w k.cells q1.1 us DK Ja Ji∧(∀b∈DK,∃i∈q1.2.1,(∃o,h i=some o)∧b∈φ i)∧
    (∀b∈Ji,∃i o,i∈q1.2.1∧h i=some o∧b∈al β i o)∧(q1.2.1.Nodup→DK.Nodup)∧(∀b∈Ja,¬Av h β b∨∃i∈q1.2.2,(∃o,h i=some o)∧b∈φ i):=by
   cases hk:k.agg with
   | true=>
    cases s with
    | agg cs=>
     simp only[hk] at aG
     simp only[ak] at h1
     obtain⟨us,rfl,fX,ba⟩:=h1
     exact⟨us,rfl,ba,gK hc k.cells cs us q1 fX aG⟩
    | _=>simp [hk] at aG
   | false=>
    have kZ:(dF k.cells [s]).val f h=some q1:=by
     cases s<;>simp only[hk] at aG<;>first | exact aG | (simp at aG)
    have gS:af w (Av h β) β [s] [v]:=by simp only[af];exact⟨v,[],rfl,h1,rfl⟩
    have AF:=gK hc k.cells [s] [v] q1 gS kZ
    refine⟨[v],rfl, ?_,AF⟩
    obtain⟨_,_,_,hr,_⟩:=AF
    intro x hx
    rw[List.mem_singleton] at hx
    subst hx
    cases fh:k.cells with
    | nil=>rw[fh] at hr;simp [c_] at hr
    | cons c cs=>
     rw[fh] at hr
     cases c with
     | dV ct=>
      obtain⟨d,aW,v',cJ,f1,EU,_,hv,h3,_⟩:=hr
      simp only[List.cons.injEq] at hv
      rw[hv.1]
      exact h3.one
     | own t e=>
      obtain⟨rows,aW,v',cJ,vals,aA,φ',A4,_,hv,h3,_⟩:=hr
      simp only[List.cons.injEq] at hv
      rw[hv.1]
      exact h3.one
     | deep t e ts=>
      obtain⟨rows,aW,v',cJ,vals,aA,φ',A4,_,hv,h3,_⟩:=hr
      simp only[List.cons.injEq] at hv
      rw[hv.1]
      exact h3.one
  obtain⟨us,fX,ba,DK,Ja,Ji,k1,k2,k3,k4,k5⟩:=one
  refine⟨DK++A5,Ja++mo,Ji++DT,⟨q1.1,q2.1,v,l,us,DK,A5,Ja,mo,Ji,DT,rfl,rfl,fX,ba,k1,g1,rfl,rfl,rfl⟩, ?_, ?_, ?_, ?_⟩
  ·intro b hb
   rcases List.mem_append.1 hb with hb | hb
   ·obtain⟨i,hi,h3⟩:=k2 b hb
    exact⟨i,List.mem_append_left _ hi,h3⟩
   ·obtain⟨i,hi,h3⟩:=g2 b hb
    exact⟨i,List.mem_append_right _ hi,h3⟩
  ·intro b hb
   rcases List.mem_append.1 hb with hb | hb
   ·obtain⟨i,o,hi,h3⟩:=k3 b hb
    exact⟨i,o,List.mem_append_left _ hi,h3⟩
   ·obtain⟨i,o,hi,h3⟩:=g3 b hb
    exact⟨i,o,List.mem_append_right _ hi,h3⟩
  ·intro hnd
   rw[List.nodup_append] at hnd ⊢
   refine⟨k4 hnd.1,g4 hnd.2.1,fun b hb b' ax e=> ?_⟩
   subst e
   obtain⟨i,hi,⟨o,B4⟩,h3⟩:=k2 b hb
   obtain⟨j,hj,⟨o',iQ⟩,h4⟩:=g2 b ax
   exact hc.sep i j _ _ (hnd.2.2 i hi j hj) B4 iQ b h3 h4
  ·intro b hb
   rcases List.mem_append.1 hb with hb | hb
   ·rcases k5 b hb with h3 | ⟨i,hi,h3⟩
    ·exact .inl h3
    ·exact .inr ⟨i,List.mem_append_left _ hi,h3⟩
   ·rcases g5 b hb with h3 | ⟨i,hi,h3⟩
    ·exact .inl h3
    ·exact .inr ⟨i,List.mem_append_right _ hi,h3⟩
end
end Go.Proofs.YtoaflbnkiobhdaaGreat.Vm
set_option linter.unusedVariables false
namespace Go.Proofs.YtoaflbnkiobhdaaGreat.Vm
mutual
def GO:CT→DC→Prop
 | .int k,d=>∃n,d= .int n∧BB k n=true
 | .bool,d=>∃b,d= .bool b
 | .str,d=>∃s:List UInt8,d= .str s∧s.length≤maxLen
 | .sl e,d=>∃rows:List (List DC),d= .sl rows∧rows.length≤maxLen∧∀r∈rows,jV e r
def jV:List CT→List DC→Prop
 | [],r=>r=[]
 | c::cs,r=>∃d r',r=d::r'∧GO c d∧jV cs r'
end
mutual
theorem bU.wt {w:World} :∀(c:CT) (d:DC) (v:Value) (fp:List Nat),bU w c d v fp→GO c d
 | .int k,_,_,_,h=>by
  simp only[bU,GO] at h ⊢
  obtain⟨n,h1,_,h2,_⟩:=h
  exact⟨n,h1,h2⟩
 | .bool,_,_,_,h=>by
  simp only[bU,GO] at h ⊢
  obtain⟨n,h1,_⟩:=h
  exact⟨n,h1⟩
 | .str,_,_,_,h=>by
  simp only[bU,GO] at h ⊢
  obtain⟨s,h1,_,h2,_⟩:=h
  exact⟨s,h1,h2⟩
 | .sl e,_,_,_,h=>by
  simp only[bU,GO] at h ⊢
  obtain⟨rows,a,n,c,rfl,_,hn,hc,hm,hr⟩:=h
  refine⟨rows,rfl,by omega,fun r EJ=> ?_⟩
  rcases hr with ⟨h0,_⟩ | ⟨_,b,o,aA,_,_,hl,_,hr⟩
  ·rw[h0] at hn
   rw[List.length_eq_zero_iff.1 hn] at EJ
   simp at EJ
  ·obtain⟨i,hi,rfl⟩:=List.getElem_of_mem EJ
   exact aZ.wt e _ _ _ (hr i rows[i] aA[i] (by simp) (by simp))
theorem aZ.wt {w:World} :∀(cs:List CT) (r:List DC) (f:Nat→Option Value) (fp:List Nat),aZ w cs r f fp→jV cs r
 | [],_,_,_,h=>by
  simp only[aZ,jV] at h ⊢
  exact h.1
 | c::cs,_,_,_,h=>by
  simp only[aZ,jV] at h ⊢
  obtain⟨d,r',v,f1,f2,h0,_,h1,h2,_⟩:=h
  exact⟨d,r',h0,bU.wt c d v f1 h1,aZ.wt cs r' _ f2 h2⟩
end
def gJ:List AK→List CT
 | []=>[]
 | k::ks=>k.bz++gJ ks
theorem jV.append:∀ {cs Bf:List CT} {r r':List DC},jV cs r→jV Bf r'→jV (cs++Bf) (r++r')
 | [],_,_,_,h,h'=>by
  simp only[jV] at h
  subst h
  exact h'
 | c::cs,_,_,_,h,h'=>by
  simp only[jV] at h
  obtain⟨d,r1,rfl,h1,h2⟩:=h
  simp only[List.cons_append,jV]
  exact⟨d,r1++_,rfl,h1,h2.append h'⟩
theorem dc.wt {w:World} :∀(ks:List AK) (ds:List DC) (vs:List Value) (fp:List Nat),dc w ks ds vs fp→jV (gJ ks) ds
 | [],_,_,_,h=>by
  simp only[gJ,jV]
  exact h.1
 | k::ks,_,_,_,h=>by
  obtain⟨d1,d2,v,cJ,f1,f2,rfl,rfl,⟨us,_,_,hr,_⟩,h2,rfl⟩:=h
  exact jV.append (aZ.wt _ _ _ _ hr) (dc.wt ks d2 cJ f2 h2)
section
variable {P:Program} {Γ:Ctx} {A:List (Nat×lb)} {w:World}
theorem jG:∀(cs:List CT) (d1 d2:List DC) (k:Nat),k+cs.length≤d1.length→cb cs (d1++d2) k=cb cs d1 k
 | [],_,_,_,_=>rfl
 | c::cs,d1,d2,k,h=>by
  simp only[cb]
  simp only[List.length_cons] at h
  rw[jG cs d1 d2 (k+1) (by omega)]
  congr 2
  simp only[List.getD_eq_getElem?_getD]
  rw[List.getElem?_append_left (by omega)]
theorem D0 {av:Nat→Prop} {β:Env} {k:AK} {ds:List DC} {v:Value} {fp:List Nat} (h:FA w k ds v fp) (cN:∀b∈fp,¬av b):
  ak w av β (bif k.agg then .agg (cb k.bz ds 0) else (cb k.bz ds 0).headD .ff) v:=by
 obtain⟨us,h1,h2,h3,h4⟩:=h
 obtain⟨vs,l1,l2,l3,l4⟩:=aZ.bK (β:=β) h3 cN k.bz.length 0 (by omega)
 have e:vs=us:=by
  apply List.ext_getElem?
  intro j
  by_cases hj:j<vs.length
  ·have:=l2 j vs[j] (by simp)
   simp only[Nat.zero_add] at this
   rw[this]
   simp
  ·rw[List.getElem?_eq_none (by omega),List.getElem?_eq_none (by omega)]
 subst e
 simp only[List.drop_zero,List.take_length] at l3
 cases hk:k.agg with
 | true=>
  rw[hk] at h1
  simp only[cond_true] at h1 ⊢
  simp only[ak]
  exact⟨vs,h1,l3,l4⟩
 | false=>
  rw[hk] at h1
  simp only[cond_false] at h1 ⊢
  rw[h1.1] at l3
  cases hd:cb k.bz ds 0 with
  | nil=>simp [ak]
  | cons s ss=>
   rw[hd] at l3
   simp only[af] at l3
   obtain⟨v',l',e1,e2,_⟩:=l3
   simp only[List.cons.injEq] at e1
   rw[e1.1]
   exact e2
theorem C9 {av:Nat→Prop} {β:Env} :∀(ks:List AK) (ds:List DC) (vs:List Value) (fp:List Nat) (i0:Nat),dc w ks ds vs fp→(∀b∈fp,¬av b)→∀i,
  iV (iU i0 ks ds) i= .ff∨∃j v,i=i0+j∧vs[j]? =some v∧ak w av β (iV (iU i0 ks ds) i) v
 | [],_,_,_,_,_,_,i=> .inl rfl
 | k::ks,_,_,_,i0,h,cN,i=>by
  obtain⟨d1,d2,v,cJ,f1,f2,rfl,rfl,ha,h2,rfl⟩:=h
  have hl:d1.length=k.bz.length:=by
   obtain⟨us,_,_,hr,_⟩:=ha
   exact aZ.length _ _ _ _ hr
  simp only[iU,iV]
  rw[jG _ _ _ _ (by omega)]
  cases hk:Nat.beq i0 i
  ·simp only[cond_false]
   rw[←hl,List.drop_left]
   rcases C9 (av:=av) (β:=β) ks d2 cJ f2 (i0+1) h2 (fun b hb=>cN b (List.mem_append_right _ hb)) i with h3 | ⟨j,v',hi,hj,hs⟩
   ·exact .inl h3
   ·exact .inr ⟨j+1,v',by omega,by simpa using hj,hs⟩
  ·have:=Nat.eq_of_beq_eq_true hk
   subst this
   simp only[cond_true]
   exact .inr ⟨0,v,rfl,rfl,D0 ha (fun b hb=>cN b (List.mem_append_left _ hb))⟩
theorem dc.length:∀(ks:List AK) (ds:List DC) (vs:List Value) (fp:List Nat),dc w ks ds vs fp→vs.length=ks.length
 | [],_,_,_,h=>by rw[h.2.1];rfl
 | k::ks,_,_,_,h=>by
  obtain⟨d1,d2,v,cJ,f1,f2,rfl,rfl,ha,h2,rfl⟩:=h
  simp [dc.length ks d2 cJ f2 h2]
theorem Eh {fn:Func} {s:Sum} {st:St} {r:List DC} (h:fin P fn s st=(true,r)):st.ok=true:=by
 unfold fin at h
 split at h
 ·split at h
  ·simp only[Prod.mk.injEq] at h
   exact h.1
  ·exact absurd h bE
 split at h
 ·simp only[Prod.mk.injEq,Bool.and_eq_true] at h
  exact h.1.1.1
 ·exact absurd h bE
theorem Ei {fn:Func} {s:Sum} (Gw:s.pt=none) {st:St} {r:List DC} {w w':World} {fp:List Nat} {a:Act} (h:fin P fn s st=(true,r)) (hR:Rel w ⟨fun _=>False,fun b=>b<w.heap.size∧b ∉ fp,[]⟩ st a w'):
  a.defers=[]∧∃v,(results fn a.tmps).run P w'= .ok v w'∧∃vs φ im tp,Ending.returned v= .returned (pack vs)∧Kept Own.none w w'∧eW w' s.rs r vs φ im tp∧φ.Nodup∧
   (∀b∈φ,w.heap.size≤b∧b<w'.heap.size)∧∀b∈im,(b∈fp∨w.heap.size≤b)∧b ∉ tp:=by
 unfold fin at h
 rw[Gw] at h
 simp only at h
 split at h
 case h_2=>exact absurd h bE
 rename_i ds own im x hr
 simp only[Prod.mk.injEq,Bool.and_eq_true,List.all_eq_true,Bool.not_eq_true'] at h
 obtain⟨⟨⟨_,aY⟩,j_⟩,rfl⟩:=h
 obtain⟨β,φ,hc⟩:=hR.core
 have hval:=M.ea _ hr
 simp only[M.ae,Option.bind_eq_some_iff] at hval
 obtain⟨ss,h1,h2⟩:=hval
 obtain⟨vs,g1,g2⟩:=iv hc _ _ h1
 obtain⟨φ',EU,A4,k1,k2,k3,k4,k5⟩:=iO hc _ _ _ _ g2 h2
 refine⟨hR.defers,pack vs,kN g1,vs,φ',EU,A4,rfl,⟨hR.kept.os,hR.kept.tape,hR.kept.output,hR.kept.size,fun k hk hn=>hR.kept.block k hk (fun h=>h)⟩,k1,k4 (e_ aY), ?_, ?_⟩
 ·intro b hb
  obtain⟨i,_,⟨o,B4⟩,lN⟩:=k2 b hb
  have:=(hc.fresh i o B4).2 b lN
  rcases this.1 with h3 | h3
  ·exact⟨h3,this.2⟩
  ·exact h3.elim
 ·intro b hb
  rcases k5 b hb with h3 | ⟨i,hi,⟨o,B4⟩,lN⟩
  ·refine⟨?_,fun hx=> ?_⟩
   ·by_cases cl:b<w.heap.size
    ·by_cases hm:b∈fp
     ·exact .inl hm
     ·refine absurd (.inr ?_) h3
      rw[hc.bars]
      exact⟨cl,hm⟩
    ·exact .inr (by omega)
   ·obtain⟨j,oj,_,hj,bn⟩:=k3 b hx
    exact h3 (.inl ⟨j,oj,hj,bn⟩)
  ·refine⟨?_,fun hx=> ?_⟩
   ·rcases ((hc.fresh i o B4).2 b lN).1 with h3 | h3
    ·exact .inr h3
    ·exact h3.elim
   ·obtain⟨j,oj,Bq,hj,bn⟩:=k3 b hx
    have cI:i≠j:=by
     rintro rfl
     have:=j_ i hi
     rw[fR.2 Bq] at this
     cases this
    exact hc.sep i j o oj cI B4 hj b lN (ah (hc.ay j oj hj) b bn)
theorem DD (eF:bD P Γ) {g:Nat} {fn:Func} {s:Sum} (hf:P.funcs[g]? =some fn) (G3:fn.body.isSome=true) (hn:(fn.name== "runtime.NumGoroutine")=false) (hlen:s.ps.length≤fn.ntmps) (Gu:fn.ntmps<1099511627776)
  (h:∀ds,jV (gJ s.ps) ds→(s.fn ds).1=true→∃N,HG P Γ A N fn s ds=(true,(s.fn ds).2)) {w:World} {ds:List DC} {vals:List Value} {fp:List Nat} (cr:dc w s.ps ds vals fp) (aI:(s.fn ds).1=true) {Q:Ending→World→Prop}
  (hQ:∀(st:St) (a:Act) (w':World),Rel w ⟨fun _=>False,fun b=>b<w.heap.size∧b ∉ fp,[]⟩ st a w'→fin P fn s st=(true,(s.fn ds).2)→a.defers=[]∧∃v,(results fn a.tmps).run P w'= .ok v w'∧Q (.returned v) w'):Calls P g vals.toArray w Q:=by
 obtain⟨N,bo⟩:=h ds (dc.wt _ _ _ _ cr) aI
 obtain⟨c,hc⟩:=Option.isSome_iff_exists.1 G3
 unfold HG at bo
 rw[hc] at bo
 simp only at bo
 have AJ:=dc.length _ _ _ _ cr
 refine calls_of_wp hf hc ?_
 let S:Own:=⟨fun _=>False,fun b=>b<w.heap.size∧b ∉ fp,[]⟩
 let β:Env:=⟨fun _=>0,fun _=>undef,S.gv,fun _=>[]⟩
 have A9:=dc.lt _ _ _ _ cr
 have hR:Rel w S {n:=fn.ntmps,sl:=iU 0 s.ps ds,hp:=[],ok:=true,ls:=[],lm:=[]} {tmps:=vals.toArray++Array.replicate (fn.ntmps - vals.toArray.size) undef,defers:=[]} w:=by
  refine⟨by simp only[Array.size_append,List.size_toArray,Array.size_replicate];rw[Nat.mod_eq_of_lt Gu];omega,fun x hx=>by simp [S] at hx,rfl,⟨rfl,rfl,rfl,Nat.le_refl _,fun _ _ _=>rfl⟩,β,fun _=>[], ?_⟩
  refine⟨fun i=> ?_,fun id o ho=>by simp [St.obj,dw] at ho,fun id o ho=>by simp [St.obj,dw] at ho,fun i j o p _ ho=>by simp [St.obj,dw] at ho,fun b hb=>⟨hb.1,fun h=>h⟩,rfl⟩
  have Hj:∀b∈fp,¬Av (dw []) β b:=by
   intro b hb hx
   rcases hx with ⟨id,o,ho,_⟩ | hx
   ·simp [dw] at ho
   ·exact hx.2 hb
  rcases C9 (av:=Av (dw []) β) (β:=β) s.ps ds vals fp 0 cr Hj i with h1 | ⟨j,v,hi,hj,hs⟩
  ·show ak w _ _ (iV (iU 0 s.ps ds) i) _
   rw[h1]
   simp [ak]
  ·have hv:(vals.toArray++Array.replicate (fn.ntmps - vals.toArray.size) undef).getD i undef=v:=by
    have He:j<vals.length:=(List.getElem?_eq_some_iff.1 hj).1
    rw[Array.getD_eq_getD_getElem?,Array.getElem?_append_left (by simp;omega)]
    have:i=j:=by omega
    subst this
    simp [hj]
   rw[hv]
   exact hs
 refine cL (r:=(s.fn ds).2) eF c _ {eB:=fin P fn s,ext:=fun _ _=>jX,ret:=fin P fn s} _ w _ ⟨fun st gT=>Eh gT,fun i st gT=>absurd gT bE,fun st gT=>Eh gT⟩ hR bo ⟨?_, ?_, ?_⟩
 ·intro st a w' eD gT
  exact hQ st a w' eD gT
 ·intro i st a w' _ gT
  exact absurd gT bE
 ·intro st a w' eD gT
  exact hQ st a w' eD gT
theorem FP (eF:bD P Γ) {g:Nat} {fn:Func} {s:Sum} (hf:P.funcs[g]? =some fn) (G3:fn.body.isSome=true) (hn:(fn.name== "runtime.NumGoroutine")=false) (hlen:s.ps.length≤fn.ntmps) (Gu:fn.ntmps<1099511627776)
  (h:∀ds,jV (gJ s.ps) ds→(s.fn ds).1=true→∃N,HG P Γ A N fn s ds=(true,(s.fn ds).2)) (Gw:s.pt=none:=by rfl):DV P g s:=
 ⟨⟨fn,hf,G3,hn⟩,fun w ds vals fp cr aI=>DD eF hf G3 hn hlen Gu h cr aI fun st a w' hR gT=>Ei Gw gT hR⟩
end
end Go.Proofs.YtoaflbnkiobhdaaGreat.Vm
namespace Go.Proofs.YtoaflbnkiobhdaaGreat.Vm
def focus (P:Program) (Γ:Ctx) (A:List (Nat×lb)) (N:Nat):List Bool→List (St→kx)→Code→Al→Code×Al
 | [],_,c,K=>(c,K)
 | x::p,is,c,K=>
  match c with
  | .seq a b=>bif x then focus P Γ A N p is b K else focus P Γ A N p is a {eB:=fun s=>run P Γ A N b s K,ext:=K.ext,ret:=K.ret}
  | .cond _ a b=>bif x then focus P Γ A N p is b K else focus P Γ A N p is a K
  | .block id a=>focus P Γ A N p is a {eB:=K.eB,ext:=fun i s=>bif Nat.beq i id then K.eB s else K.ext i s,ret:=K.ret}
  | .loop a=>match is,(df a).bind (Jb A) with
   | ih::My,some an=>focus P Γ A N p My a {eB:=fun s'=>ih (canon P an s'),ext:=K.ext,ret:=K.ret}
   | _,_=>(c,K)
  | _=>(c,K)
def LB (P:Program) (Γ:Ctx) (A:List (Nat×lb)) (N:Nat) (fn:Func) (s:Sum) (p:List Bool) (is:List (St→kx)) (ih:St→kx) (st:St):kx:=
 match fn.body with
 | some c=>match focus P Γ A N p is c {eB:=fin P fn s,ext:=fun _ _=>jX,ret:=fin P fn s} with
  | (.loop a,K)=>match (df a).bind (Jb A) with
   | some an=>run P Γ A N a st {eB:=fun s'=>ih (canon P an s'),ext:=K.ext,ret:=K.ret}
   | none=>jX
  | _=>jX
 | none=>jX
def LC (B:(St→kx)→St→kx) (n:Nat):St→kx:=Nat.rec (motive:=fun _=>St→kx) (fun _=>jX) (fun _ ih s=>B ih s) n
theorem JR {α β:Type} {c:Bool} {x y:α} {a b:β} {K:β→α} (h1:x=K a) (h2:y=K b):(bif c then x else y)=K (bif c then a else b):=by
 cases c
 ·exact h2
 ·exact h1
def JP:Sum:= {ps:=[],rs:=[],fn:=fun _=>(false,[]),GP:=true}
theorem Lc {P:Program} {g:Nat} :gC P g JP:=trivial
theorem Jn {P:Program} :bD P []:=fun _ _ h=>by simp [FZ] at h
theorem HZ {P:Program} {g:Nat} {s:Sum} {Γ:Ctx} (h:gC P g s) (eF:bD P Γ):bD P ((g,s)::Γ):=by
 intro g' s' h'
 simp only[FZ] at h'
 cases hb:Nat.beq g g'
 ·rw[hb] at h';exact eF g' s' h'
 ·rw[hb] at h'
  have:=Nat.eq_of_beq_eq_true hb
  subst this
  simp only[cond_true,Option.some.injEq] at h'
  subst h'
  exact h
end Go.Proofs.YtoaflbnkiobhdaaGreat.Vm
set_option linter.unusedVariables false
set_option linter.unusedSimpArgs false
namespace Go.Proofs.YtoaflbnkiobhdaaGreat.Vm
def pid (i j:Nat):Nat:=ag (5000000+i) j
def aE (i:Nat):Nat→List CT→List TT→List DC→List SV×List (Nat×aj)
 | _,[],_,_=>([],[])
 | j,.sl e::cs,ts,ds=>
  let q:=aE i (j+1) cs ts.tail ds.tail
  (.own (pid i j)::q.1,(pid i j,ez (ts.headD (.flat 0)) e (ds.headD default).cj)::q.2)
 | j,.int k::cs,ts,ds=>let q:=aE i (j+1) cs ts ds.tail;(fS (.int k) (ds.headD default)::q.1,q.2)
 | j,.bool::cs,ts,ds=>let q:=aE i (j+1) cs ts ds.tail;(fS .bool (ds.headD default)::q.1,q.2)
 | j,.str::cs,ts,ds=>let q:=aE i (j+1) cs ts ds.tail;(fS .str (ds.headD default)::q.1,q.2)
def cx:Nat→List AK→List (Option MK)→List DC→List (Nat×SV)×List (Nat×aj)
 | _,[],_,_=>([],[])
 | i,k::ks,ms,ds=>
  let q:=cx (i+1) ks ms.tail (ds.drop k.bz.length)
  match ms.headD none with
  | none=>((i,bif k.agg then .agg (cb k.bz ds 0) else (cb k.bz ds 0).headD .ff)::q.1,q.2)
  | some (.box t)=>((i,.ptr (pid i 0) 0)::q.1,(pid i 0,.box t (cb k.bz ds 0))::q.2)
  | some (.rows ts)=>
   let c:=aE i 0 k.bz ts ds
   ((i,bif k.agg then .agg c.1 else c.1.headD .ff)::q.1,c.2++q.2)
  | some (.jl ts)=>
   let c:=aE i 0 k.bz ts ds
   ((i,bif k.agg then .agg c.1 else c.1.headD .ff)::q.1,c.2++q.2)
  | some (.cH t ts)=>
   let c:=aE i 0 k.bz ts ds
   ((i,.ptr (pid i 62) 0)::q.1,(pid i 62,.box t c.1)::(c.2++q.2))
def lu (e:List CT) (t:TT) (s:SV):M (DC×Nat):=
 match s with
 | .own id=> .obj id fun
  | .row t' e' r false _=>match t with
   | .flat t=>bif Nat.beq t' t && aF e' e && aq e then .pure (.sl r,id) else .fail
   | .deep _ _=> .fail
  | .deep t' e' dB r none=>match t with
   | .flat _=> .fail
   | .deep t its=>bif Nat.beq t' t && aF e' e && fv dB its then .pure (.sl r,id) else .fail
  | _=> .fail
 | _=> .fail
def bs:List CT→List TT→List SV→M (List DC×List Nat)
 | [],_,[]=> .pure ([],[])
 | .sl e::cs,t::ts,s::ss=>(lu e t s).bind fun q=>(bs cs ts ss).bind fun r=> .pure (q.1::r.1,q.2::r.2)
 | .int _::cs,ts,_::ss=>bs cs ts ss
 | .bool::cs,ts,_::ss=>bs cs ts ss
 | .str::cs,ts,_::ss=>bs cs ts ss
 | _,_,_=> .fail
def bj:List CT→List TT→List SV→M (List DC×List Nat)
 | [],[],[]=> .pure ([],[])
 | .sl e::cs,t::ts,s::ss=>(lu e t s).bind fun q=>(bj cs ts ss).bind fun r=> .pure (q.1::r.1,q.2::r.2)
 | .int k::cs,ts,s::ss=>(eA (.int k) s).bind fun q=>(bj cs ts ss).bind fun r=> .pure (q.1::r.1,r.2)
 | .bool::cs,ts,s::ss=>(eA .bool s).bind fun q=>(bj cs ts ss).bind fun r=> .pure (q.1::r.1,r.2)
 | .str::cs,ts,s::ss=>(eA .str s).bind fun q=>(bj cs ts ss).bind fun r=> .pure (q.1::r.1,r.2)
 | _,_,_=> .fail
def fa:Nat→List AK→List (Option MK)→M (List DC×List Nat)
 | _,[],[]=> .pure ([],[])
 | i,_::ks,none::ms=>fa (i+1) ks ms
 | i,k::ks,some (.box t)::ms=> .slot i fun
  | .ptr id 0=> .obj id fun
   | .box t' cells=>bif Nat.beq t' t then
     (ca k.bz cells).bind fun r=>bif r.2.1.isEmpty then (fa (i+1) ks ms).bind fun q=> .pure (r.1++q.1,id::q.2) else .fail
    else .fail
   | _=> .fail
  | _=> .fail
 | i,k::ks,some (.rows ts)::ms=> .slot i fun s=>
  (match k.agg,s with
   | true,.agg cs=>bs k.bz ts cs
   | true,_=> .fail
   | false,.agg _=> .fail
   | false,s=>bs k.bz ts [s]).bind fun r=>(fa (i+1) ks ms).bind fun q=> .pure (r.1++q.1,r.2++q.2)
 | i,_::ks,some (.jl _)::ms=>fa (i+1) ks ms
 | i,k::ks,some (.cH t ts)::ms=> .slot i fun
  | .ptr id 0=> .obj id fun
   | .box t' cells=>bif Nat.beq t' t then
     (bj k.bz ts cells).bind fun r=>(fa (i+1) ks ms).bind fun q=> .pure (r.1++q.1,id::(r.2++q.2))
    else .fail
   | _=> .fail
  | _=> .fail
 | _,_,_=> .fail
def ft:List TT→Bool
 | []=>true
 | .flat _::l=>ft l
 | .deep _ _::_=>false
def hD:List (Option MK)→Bool
 | []=>true
 | some (.rows ts)::l=>ft ts && hD l
 | some (.jl _)::_=>false
 | some (.cH _ _)::_=>false
 | some (.box _)::l=>hD l
 | none::l=>hD l
def mu (P:Program) (fn:Func) (s:Sum) (st:St):kx:=
 match ((gr P fn.results.toList).bind fun l=>(fq s.rs l).bind fun q=>(fa 0 s.ps s.ms).bind fun r=> .pure (q,r)).run st.get st.obj with
 | some (((ds,own,im),(od,ids)),_)=>(st.ok && eG (own++ids) && (hD s.ms || eI s.ms),ds++od)
 | none=>jX
def k7:List (Option MK)→Nat
 | []=>0
 | m::l=>bif Nat.blt 0 (k7 l) then k7 l+1 else bif m.isSome then 1 else 0
theorem Db:∀ {l:List (Option MK)} {j:Nat} {m:MK},l[j]? =some (some m)→j<k7 l
 | [],j,m,h=>by simp at h
 | x::l,0,m,h=>by
  simp only[List.getElem?_cons_zero,Option.some.injEq] at h
  subst h
  simp only[k7]
  cases Nat.blt 0 (k7 l)<;>simp
 | x::l,j+1,m,h=>by
  have:=Db (l:=l) (j:=j) (m:=m) (by simpa using h)
  simp only[k7]
  have h0:Nat.blt 0 (k7 l)=true:=Nat.ble_eq_true_of_le (by omega)
  rw[h0]
  simp only[cond_true]
  omega
def GJ (P:Program) (Γ:Ctx) (A:List (Nat×lb)) (N:Nat) (fn:Func) (s:Sum) (ds:List DC):kx:=
 match fn.body with
 | some c=>run P Γ A N c {n:=fn.ntmps+k7 s.ms*1099511627776,sl:=(cx 0 s.ps s.ms ds).1,hp:=(cx 0 s.ps s.ms ds).2,ok:=true,ls:=[],lm:=[]} {eB:=mu P fn s,ext:=fun _ _=>jX,ret:=mu P fn s}
 | none=>jX
section
variable {P:Program} {Γ:Ctx} {w0:World} {S:Own} {A:List (Nat×lb)} {N:Nat}
variable {f:Nat→SV} {h:Nat→Option aj} {β:Env} {φ:Nat→List Nat} {tm:Array Value} {w:World}
theorem ma (hc:Core w0 S f h β φ tm w) {el:List CT} {t:TT} {s:SV} {v:Value} {q:DC×Nat} (hs:ak w (Av h β) β s v) (hq:(lu el t s).val f h=some q):
  ∃rows mb o,q.1= .sl rows∧gB w t el rows v mb∧h q.2=some o∧mb=al β q.2 o∧mb.Nodup∧(ft [t]=true→mb=v.ownBlock.toList):=by
 have FU:v.ownBlock.toList.Nodup:=by cases v.ownBlock<;>simp
 unfold lu at hq
 cases s with
 | own id=>
  simp only[M.aS,Option.bind_eq_some_iff] at hq
  obtain⟨ob,aJ,hq⟩:=hq
  simp only[ak] at hs
  split at hq
  ·rename_i t' e' r u
   cases t with
   | deep t its=>simp at hq
   | flat t=>
    simp only at hq
    cases aH:Nat.beq t' t && aF e' el && aq el
    ·simp [aH] at hq
    ·simp only[aH,cond_true,M.aa,Option.some.injEq] at hq
     subst hq
     simp only[Bool.and_eq_true] at aH
     have ht:=Nat.eq_of_beq_eq_true aH.1.1
     have he:=aM _ _ aH.1.2
     subst ht he
     obtain⟨vals,aA,g1,g2,_,_⟩:=hc.ay id _ aJ
     rw[←hs.1] at g1
     exact⟨r,v.ownBlock.toList,_,rfl,⟨aH.2,vals,aA,g1,g2,rfl⟩,aJ,by simp only[al,hs.1],FU,fun _=>rfl⟩
  ·rename_i t' e' dB r
   cases t with
   | flat t=>simp at hq
   | deep t its=>
    simp only at hq
    cases aH:Nat.beq t' t && aF e' el && fv dB its
    ·simp [aH] at hq
    ·simp only[aH,cond_true,M.aa,Option.some.injEq] at hq
     subst hq
     simp only[Bool.and_eq_true] at aH
     have ht:=Nat.eq_of_beq_eq_true aH.1.1
     have he:=aM _ _ aH.1.2
     have hi:=fW _ _ aH.2
     subst ht he hi
     have bL:=(hc.fresh id _ aJ).1
     obtain⟨vals,aR,g1,g2,g3,g4⟩:=hc.ay id _ aJ
     rw[g4] at bL
     rw[←hs.1] at g1 bL
     exact⟨r,v.ownBlock.toList++aR.flatten,_,rfl,⟨vals,aR,g1,g2,rfl⟩,aJ,by simp only[al,g3,hs.1],bL,fun h=>by simp [ft] at h⟩
  ·simp at hq
 | _=>simp at hq
theorem dy (hc:Core w0 S f h β φ tm w):∀(cs:List CT) (ts:List TT) (ss:List SV) (us:List Value) (q:List DC×List Nat),af w (Av h β) β ss us→(bs cs ts ss).val f h=some q→
  ∃ψ,iJ w cs ts q.1 us ψ∧(∀b∈ψ,∃id∈q.2,∃o,h id=some o∧b∈al β id o)∧(q.2.Nodup→ψ.Nodup)∧
   (ft ts=true→∀(w1:World) (ds:List DC) (mb:List Nat),aQ w1 cs ts ds us mb→∀b∈mb,∃id∈q.2,∃o,h id=some o∧b∈al β id o)
 | [],ts,ss,us,q,hs,hq=>by
  cases ss with
  | nil=>
   simp only[bs,M.aa,Option.some.injEq] at hq
   subst hq
   simp only[af] at hs
   refine⟨[],⟨rfl,hs,rfl⟩,by simp,by simp,fun _ w1 ds mb hm b hb=> ?_⟩
   simp only[aQ] at hm
   rw[hm.2.2.2] at hb
   simp at hb
  | cons s ss=>simp [bs] at hq
 | .int k::cs,ts,ss,us,q,hs,hq=>by
  cases ss with
  | nil=>simp [bs] at hq
  | cons s ss=>
   simp only[af] at hs
   obtain⟨v,aL,rfl,h1,h2⟩:=hs
   simp only[bs] at hq
   obtain⟨ψ,k1,k2,k3,k4⟩:=dy hc cs ts ss aL q h2 hq
   refine⟨ψ, ?_,k2,k3,fun hnd w1 ds mb hm b hb=> ?_⟩
   ·simp only[iJ]
    exact⟨v,aL,rfl,k1⟩
   ·simp only[aQ] at hm
    obtain⟨d,aW,v',Fy,rfl,e0,_,hm⟩:=hm
    simp only[List.cons.injEq] at e0
    obtain⟨rfl,rfl⟩:=e0
    exact k4 hnd w1 aW mb hm b hb
 | .bool::cs,ts,ss,us,q,hs,hq=>by
  cases ss with
  | nil=>simp [bs] at hq
  | cons s ss=>
   simp only[af] at hs
   obtain⟨v,aL,rfl,h1,h2⟩:=hs
   simp only[bs] at hq
   obtain⟨ψ,k1,k2,k3,k4⟩:=dy hc cs ts ss aL q h2 hq
   refine⟨ψ, ?_,k2,k3,fun hnd w1 ds mb hm b hb=> ?_⟩
   ·simp only[iJ]
    exact⟨v,aL,rfl,k1⟩
   ·simp only[aQ] at hm
    obtain⟨d,aW,v',Fy,rfl,e0,_,hm⟩:=hm
    simp only[List.cons.injEq] at e0
    obtain⟨rfl,rfl⟩:=e0
    exact k4 hnd w1 aW mb hm b hb
 | .str::cs,ts,ss,us,q,hs,hq=>by
  cases ss with
  | nil=>simp [bs] at hq
  | cons s ss=>
   simp only[af] at hs
   obtain⟨v,aL,rfl,h1,h2⟩:=hs
   simp only[bs] at hq
   obtain⟨ψ,k1,k2,k3,k4⟩:=dy hc cs ts ss aL q h2 hq
   refine⟨ψ, ?_,k2,k3,fun hnd w1 ds mb hm b hb=> ?_⟩
   ·simp only[iJ]
    exact⟨v,aL,rfl,k1⟩
   ·simp only[aQ] at hm
    obtain⟨d,aW,v',Fy,rfl,e0,_,hm⟩:=hm
    simp only[List.cons.injEq] at e0
    obtain⟨rfl,rfl⟩:=e0
    exact k4 hnd w1 aW mb hm b hb
 | .sl el::cs,ts,ss,us,q,hs,hq=>by
  cases ts with
  | nil=>cases ss<;>simp [bs] at hq
  | cons t ts=>
   cases ss with
   | nil=>simp [bs] at hq
   | cons s ss=>
    simp only[af] at hs
    obtain⟨v,aL,rfl,h1,h2⟩:=hs
    simp only[bs,M.ae,Option.bind_eq_some_iff,M.aa,Option.some.injEq] at hq
    obtain⟨q1,aG,q2,cu,rfl⟩:=hq
    obtain⟨ψ,k1,k2,k3,k4⟩:=dy hc cs ts ss aL q2 h2 cu
    obtain⟨rows,Jc,o,r1,r2,r3,r4,r5,r6⟩:=ma hc h1 aG
    refine⟨Jc++ψ, ?_,fun b hb=> ?_,fun hnd=> ?_,fun hnd w1 ds mb hm b hb=> ?_⟩
    ·simp only[iJ]
     exact⟨t,ts,rows,q2.1,v,aL,Jc,ψ,rfl,by rw[r1],rfl,r2,k1,rfl⟩
    ·rcases List.mem_append.1 hb with hb | hb
     ·exact⟨q1.2,List.mem_cons_self ..,o,r3,r4 ▸ hb⟩
     ·obtain⟨i,hi,o',ho⟩:=k2 b hb
      exact⟨i,List.mem_cons_of_mem _ hi,o',ho⟩
    ·simp only[List.nodup_cons] at hnd
     rw[List.nodup_append]
     refine⟨r5,k3 hnd.2,fun b hb b' ax e=> ?_⟩
     subst e
     obtain⟨i,hi,o',dT,lN⟩:=k2 b ax
     rw[r4] at hb
     exact hc.sep q1.2 i o o' (fun e=>hnd.1 (e ▸ hi)) r3 dT b (ah (hc.ay _ _ r3) b hb) (ah (hc.ay _ _ dT) b lN)
    ·simp only[aQ] at hm
     obtain⟨t1,F_,LH,aW,v1,Fy,m1,fQ,e1,rfl,e2,Ep,hm,rfl⟩:=hm
     simp only[List.cons.injEq] at e1 e2
     obtain⟨rfl,rfl⟩:=e1
     obtain⟨rfl,rfl⟩:=e2
     cases t with
     | deep t its=>simp [ft] at hnd
     | flat t=>
      obtain⟨_,vals,aA,_,_,rfl⟩:=Ep
      rcases List.mem_append.1 hb with hb | hb
      ·refine⟨q1.2,List.mem_cons_self ..,o,r3, ?_⟩
       rw[←r4,r6 rfl]
       exact hb
      ·obtain⟨i,hi,o,ho⟩:=k4 (by simpa only[ft] using hnd) w1 aW fQ hm b hb
       exact⟨i,List.mem_cons_of_mem _ hi,o,ho⟩
theorem dL (hc:Core w0 S f h β φ tm w):∀(cs:List CT) (ts:List TT) (ss:List SV) (us:List Value) (q:List DC×List Nat),af w (Av h β) β ss us→(bj cs ts ss).val f h=some q→
  ∃ψ,aQ w cs ts q.1 us ψ∧(∀b∈ψ,∃id∈q.2,∃o,h id=some o∧b∈al β id o)∧(q.2.Nodup→ψ.Nodup)
 | [],ts,ss,us,q,hs,hq=>by
  cases ts with
  | cons _ _=>cases ss<;>simp [bj] at hq
  | nil=>
  cases ss with
  | nil=>
   simp only[bj,M.aa,Option.some.injEq] at hq
   subst hq
   simp only[af] at hs
   exact⟨[],⟨rfl,rfl,hs,rfl⟩,by simp,by simp⟩
  | cons s ss=>simp [bj] at hq
 | .int k::cs,ts,ss,us,q,hs,hq=>by
  cases ss with
  | nil=>simp [bj] at hq
  | cons s ss=>
   simp only[af] at hs
   obtain⟨v,aL,rfl,h1,h2⟩:=hs
   simp only[bj,M.ae,Option.bind_eq_some_iff,M.aa,Option.some.injEq] at hq
   obtain⟨q1,aG,q2,cu,rfl⟩:=hq
   obtain⟨fp,hr,_⟩:=dn hc h1 aG
   obtain⟨ψ,k1,k2,k3⟩:=dL hc cs ts ss aL q2 h2 cu
   refine⟨ψ, ?_,k2,k3⟩
   simp only[aQ]
   refine⟨q1.1,q2.1,v,aL,rfl,rfl, ?_,k1⟩
   simp only[bU] at hr ⊢
   obtain⟨n,a,b,c,_⟩:=hr
   exact⟨n,a,b,c,trivial⟩
 | .bool::cs,ts,ss,us,q,hs,hq=>by
  cases ss with
  | nil=>simp [bj] at hq
  | cons s ss=>
   simp only[af] at hs
   obtain⟨v,aL,rfl,h1,h2⟩:=hs
   simp only[bj,M.ae,Option.bind_eq_some_iff,M.aa,Option.some.injEq] at hq
   obtain⟨q1,aG,q2,cu,rfl⟩:=hq
   obtain⟨fp,hr,_⟩:=dn hc h1 aG
   obtain⟨ψ,k1,k2,k3⟩:=dL hc cs ts ss aL q2 h2 cu
   refine⟨ψ, ?_,k2,k3⟩
   simp only[aQ]
   refine⟨q1.1,q2.1,v,aL,rfl,rfl, ?_,k1⟩
   simp only[bU] at hr ⊢
   obtain⟨n,a,b,_⟩:=hr
   exact⟨n,a,b,trivial⟩
 | .str::cs,ts,ss,us,q,hs,hq=>by
  cases ss with
  | nil=>simp [bj] at hq
  | cons s ss=>
   simp only[af] at hs
   obtain⟨v,aL,rfl,h1,h2⟩:=hs
   simp only[bj,M.ae,Option.bind_eq_some_iff,M.aa,Option.some.injEq] at hq
   obtain⟨q1,aG,q2,cu,rfl⟩:=hq
   obtain⟨fp,hr,_⟩:=dn hc h1 aG
   obtain⟨ψ,k1,k2,k3⟩:=dL hc cs ts ss aL q2 h2 cu
   refine⟨ψ, ?_,k2,k3⟩
   simp only[aQ]
   refine⟨q1.1,q2.1,v,aL,rfl,rfl, ?_,k1⟩
   simp only[bU] at hr ⊢
   obtain⟨n,a,b,c,_⟩:=hr
   exact⟨n,a,b,c,trivial⟩
 | .sl el::cs,ts,ss,us,q,hs,hq=>by
  cases ts with
  | nil=>cases ss<;>simp [bj] at hq
  | cons t ts=>
   cases ss with
   | nil=>simp [bj] at hq
   | cons s ss=>
    simp only[af] at hs
    obtain⟨v,aL,rfl,h1,h2⟩:=hs
    simp only[bj,M.ae,Option.bind_eq_some_iff,M.aa,Option.some.injEq] at hq
    obtain⟨q1,aG,q2,cu,rfl⟩:=hq
    obtain⟨ψ,k1,k2,k3⟩:=dL hc cs ts ss aL q2 h2 cu
    obtain⟨rows,Jc,o,r1,r2,r3,r4,r5,r6⟩:=ma hc h1 aG
    refine⟨Jc++ψ, ?_,fun b hb=> ?_,fun hnd=> ?_⟩
    ·simp only[aQ]
     exact⟨t,ts,rows,q2.1,v,aL,Jc,ψ,rfl,by rw[r1],rfl,r2,k1,rfl⟩
    ·rcases List.mem_append.1 hb with hb | hb
     ·exact⟨q1.2,List.mem_cons_self ..,o,r3,r4 ▸ hb⟩
     ·obtain⟨i,hi,o',ho⟩:=k2 b hb
      exact⟨i,List.mem_cons_of_mem _ hi,o',ho⟩
    ·simp only[List.nodup_cons] at hnd
     rw[List.nodup_append]
     refine⟨r5,k3 hnd.2,fun b hb b' ax e=> ?_⟩
     subst e
     obtain⟨i,hi,o',dT,lN⟩:=k2 b ax
     rw[r4] at hb
     exact hc.sep q1.2 i o o' (fun e=>hnd.1 (e ▸ hi)) r3 dT b (ah (hc.ay _ _ r3) b hb) (ah (hc.ay _ _ dT) b lN)
theorem iq (hc:Core w0 S f h β φ tm w):∀(i:Nat) (ks:List AK) (ms:List (Option MK)) (vs:List Value) (q:List DC×List Nat),(∀(j:Nat) v m,vs[j]? =some v→ms[j]? =some (some m)→tm.getD (i+j) undef=v)→vs.length=ks.length→(fa i ks ms).val f h=some q→
  ∃im ψ,ly w ks ms q.1 vs im ψ∧(∀b∈im,¬Av h β b)∧(eI ms=true→im=[])∧(∀b∈ψ,∃id∈q.2,∃o,h id=some o∧b∈al β id o)∧(q.2.Nodup→ψ.Nodup)∧
   (hD ms=true→∀(w1:World) (ds:List DC) (fp mb:List Nat),cG w1 ks ms ds vs fp mb→∀b∈mb,∃id∈q.2,∃o,h id=some o∧b∈al β id o)
 | i,[],ms,vs,q,hv,hl,hq=>by
  cases ms with
  | nil=>
   simp only[fa,M.aa,Option.some.injEq] at hq
   subst hq
   have hl:vs=[]:=List.length_eq_zero_iff.1 hl
   subst hl
   refine⟨[],[],⟨rfl,rfl,rfl,rfl⟩,by simp,fun _=>rfl,by simp,by simp,fun _ w1 ds fp mb hm b hb=> ?_⟩
   simp only[cG] at hm
   rw[hm.2.2.2.2] at hb
   simp at hb
  | cons m ms=>simp [fa] at hq
 | i,k::ks,ms,vs,q,hv,hl,hq=>by
  cases ms with
  | nil=>simp [fa] at hq
  | cons m ms=>
   cases vs with
   | nil=>simp at hl
   | cons v vs=>
    have hv':∀(j:Nat) u m,vs[j]? =some u→ms[j]? =some (some m)→tm.getD (i+1+j) undef=u:=fun j u m' hu hm=>by
     have:=hv (j+1) u m' (by simpa using hu) (by simpa using hm)
     rw[show i+1+j=i+(j+1) by omega]
     exact this
    have DQ:vs.length=ks.length:=by simpa using hl
    have dg:=hc.bY i
    cases m with
    | none=>
     simp only[fa] at hq
     obtain⟨im,ψ,k1,k2,k4,k5,k6,k3⟩:=iq hc (i+1) ks ms vs q hv' DQ hq
     refine⟨im,ψ,⟨none,ms,[],q.1,v,vs,[],im,[],ψ,rfl,rfl,rfl,⟨rfl,rfl,rfl⟩,k1,rfl,rfl⟩,k2,k4,k5,k6,fun hnd w1 ds fp mb hm b hb=> ?_⟩
     simp only[cG] at hm
     obtain⟨m',DS,d1,d2,v',cJ,f1,f2,b1,b2,e1,rfl,e2,ha,hm,rfl,rfl⟩:=hm
     simp only[List.cons.injEq] at e1 e2
     obtain⟨rfl,rfl⟩:=e1
     obtain⟨rfl,rfl⟩:=e2
     simp only[fZ] at ha
     rw[ha.2] at hb
     exact k3 hnd w1 d2 f2 b2 hm b (by simpa using hb)
    | some m=>
     have Gz:tm.getD i undef=v:=hv 0 v m rfl rfl
     rw[Gz] at dg
     cases m with
     | box t=>
      simp only[fa,M.ia] at hq
      cases eU:f i with
      | ptr id off=>
       rw[eU] at hq dg
       cases off with
       | succ off=>simp at hq
       | zero=>
        simp only[M.aS,Option.bind_eq_some_iff] at hq
        obtain⟨ob,aJ,hq⟩:=hq
        cases ob with
        | box t' cells=>
         simp only at hq
         cases kg:Nat.beq t' t
         ·simp [kg] at hq
         ·have kh:=Nat.eq_of_beq_eq_true kg
          subst kh
          simp only[kg,cond_true,M.ae,Option.bind_eq_some_iff] at hq
          obtain⟨q1,aG,hq⟩:=hq
          cases Fq:q1.2.1.isEmpty
          ·simp [Fq] at hq
          ·simp only[Fq,cond_true,M.ae,Option.bind_eq_some_iff,M.aa,Option.some.injEq] at hq
           obtain⟨q2,cu,rfl⟩:=hq
           obtain⟨im,ψ,k1,k2,k4,k5,k6,k3⟩:=iq hc (i+1) ks ms vs q2 hv' DQ cu
           obtain⟨us,g1,g2,g3,_⟩:=hc.ay id _ aJ
           obtain⟨lh,hr,FM,jn,_⟩:=dR hc k.bz cells us q1 g2 aG
           have MG:=af.length _ _ g2
           have jT:=cC _ _ _ aG
           simp only[ak] at dg
           have Kq:q1.2.1=[]:=List.isEmpty_iff.1 Fq
           refine⟨lh++im,[β.cS id]++ψ,⟨some (.box t'),ms,q1.1,q2.1,v,vs,lh,im,[β.cS id],ψ,rfl,rfl,rfl,⟨β.cS id,us,dg,g1,g3,hr,by omega,rfl⟩,k1,rfl,rfl⟩, ?_,fun h=>by simp [eI] at h,fun b hb=> ?_,fun hnd=> ?_,fun hnd w1 ds fp mb hm b hb=> ?_⟩
           ·intro b hb
            rcases List.mem_append.1 hb with hb | hb
            ·rcases jn b hb with h3 | ⟨x,hx,h3⟩
             ·exact h3
             ·rw[Kq] at hx
              simp at hx
            ·exact k2 b hb
           ·rcases List.mem_append.1 hb with hb | hb
            ·exact⟨id,List.mem_cons_self ..,_,aJ,by simpa only[al] using hb⟩
            ·obtain⟨j,hj,o,ho⟩:=k5 b hb
             exact⟨j,List.mem_cons_of_mem _ hj,o,ho⟩
           ·simp only[List.nodup_cons] at hnd
            rw[List.nodup_append]
            refine⟨by simp,k6 hnd.2,fun b hb b' ax e=> ?_⟩
            subst e
            obtain⟨j,hj,o',dT,bn⟩:=k5 b ax
            exact hc.sep id j _ o' (fun e=>hnd.1 (e ▸ hj)) aJ dT b (ah (hc.ay _ _ aJ) b (by simpa only[al] using hb)) (ah (hc.ay _ _ dT) b bn)
           ·simp only[cG] at hm
            obtain⟨m',DS,d1,d2,v',cJ,f1,f2,b1,b2,e1,rfl,e2,ha,hm,rfl,rfl⟩:=hm
            simp only[List.cons.injEq] at e1 e2
            obtain⟨rfl,rfl⟩:=e1
            obtain⟨rfl,rfl⟩:=e2
            simp only[fZ] at ha
            obtain⟨g,Fy,ev,_,_,_,_,rfl⟩:=ha
            rcases List.mem_append.1 hb with hb | hb
            ·refine⟨id,List.mem_cons_self ..,_,aJ, ?_⟩
             rw[dg] at ev
             simp only[Value.pointer.injEq,Option.some.injEq,Addr.mk.injEq,and_true] at ev
             simp only[al]
             rw[ev]
             exact hb
            ·obtain⟨j,hj,o,ho⟩:=k3 hnd w1 d2 f2 b2 hm b hb
             exact⟨j,List.mem_cons_of_mem _ hj,o,ho⟩
        | row _ _ _ _ _=>simp at hq
        | dV _ _=>simp at hq
        | deep _ _ _ _ _=>simp at hq
      | _=>rw[eU] at hq;simp at hq
     | rows ts=>
      simp only[fa,M.ia,M.ae,Option.bind_eq_some_iff,M.aa,Option.some.injEq] at hq
      obtain⟨q1,aG,q2,cu,rfl⟩:=hq
      obtain⟨im,ψ,k1,k2,k4,k5,k6,k3⟩:=iq hc (i+1) ks ms vs q2 hv' DQ cu
      have one:∃us:List Value,(bif k.agg then v= .agg us.toArray else us=[v])∧∃Fz,iJ w k.bz ts q1.1 us Fz∧(∀b∈Fz,∃id∈q1.2,∃o,h id=some o∧b∈al β id o)∧(q1.2.Nodup→Fz.Nodup)∧
        (ft ts=true→∀(w1:World) (ds:List DC) (mb:List Nat),aQ w1 k.bz ts ds us mb→∀b∈mb,∃id∈q1.2,∃o,h id=some o∧b∈al β id o):=by
       cases hk:k.agg with
       | true=>
        generalize f i=s at aG dg
        cases s with
        | agg cs=>
         simp only[hk] at aG
         simp only[ak] at dg
         obtain⟨us,rfl,fX,ba⟩:=dg
         exact⟨us,rfl,dy hc k.bz ts cs us q1 fX aG⟩
        | _=>simp [hk] at aG
       | false=>
        generalize f i=s at aG dg
        have kZ:(bs k.bz ts [s]).val f h=some q1:=by
         cases s<;>simp only[hk] at aG<;>first | exact aG | (simp at aG)
        have gS:af w (Av h β) β [s] [v]:=by simp only[af];exact⟨v,[],rfl,dg,rfl⟩
        exact⟨[v],rfl,dy hc k.bz ts [s] [v] q1 gS kZ⟩
      obtain⟨us,fX,Fz,r1,r3,r4,r2⟩:=one
      refine⟨im,Fz++ψ,⟨some (.rows ts),ms,q1.1,q2.1,v,vs,[],im,Fz,ψ,rfl,rfl,rfl,⟨us,fX,r1,rfl⟩,k1,rfl,rfl⟩,k2,fun h=>k4 (by simpa only[eI] using h),fun b hb=> ?_,fun hnd=> ?_,fun hnd w1 ds fp mb hm b hb=> ?_⟩
      ·rcases List.mem_append.1 hb with hb | hb
       ·obtain⟨j,hj,o,ho⟩:=r3 b hb
        exact⟨j,List.mem_append_left _ hj,o,ho⟩
       ·obtain⟨j,hj,o,ho⟩:=k5 b hb
        exact⟨j,List.mem_append_right _ hj,o,ho⟩
      ·rw[List.nodup_append] at hnd
       obtain⟨n1,n2,n3⟩:=hnd
       rw[List.nodup_append]
       refine⟨r4 n1,k6 n2,fun b hb b' ax e=> ?_⟩
       subst e
       obtain⟨i1,Jx,o1,Gv,Gj⟩:=r3 b hb
       obtain⟨j,hj,o',dT,bn⟩:=k5 b ax
       exact hc.sep i1 j o1 o' (fun e=>n3 i1 Jx j hj e) Gv dT b (ah (hc.ay _ _ Gv) b Gj) (ah (hc.ay _ _ dT) b bn)
      simp only[hD,Bool.and_eq_true] at hnd
      simp only[cG] at hm
      obtain⟨m',DS,d1,d2,v',cJ,f1,f2,b1,b2,e1,rfl,e2,ha,hm,rfl,rfl⟩:=hm
      simp only[List.cons.injEq] at e1 e2
      obtain⟨rfl,rfl⟩:=e1
      obtain⟨rfl,rfl⟩:=e2
      simp only[fZ] at ha
      obtain⟨Fy,Bx,_,ha,_⟩:=ha
      have Ms:Fy=us:=by
       cases hk:k.agg with
       | true=>
        rw[hk] at fX Bx
        simp only[cond_true] at fX Bx
        rw[fX] at Bx
        simp only[Value.agg.injEq] at Bx
        simpa using (congrArg Array.toList Bx).symm
       | false=>
        rw[hk] at fX Bx
        simp only[cond_false] at fX Bx
        rw[fX,Bx.1]
      subst Ms
      rcases List.mem_append.1 hb with hb | hb
      ·obtain⟨j,hj,o,ho⟩:=r2 hnd.1 w1 d1 b1 ha b hb
       exact⟨j,List.mem_append_left _ hj,o,ho⟩
      ·obtain⟨j,hj,o,ho⟩:=k3 hnd.2 w1 d2 f2 b2 hm b hb
       exact⟨j,List.mem_append_right _ hj,o,ho⟩
     | jl ts=>
      simp only[fa] at hq
      obtain⟨im,ψ,k1,k2,k4,k5,k6,k3⟩:=iq hc (i+1) ks ms vs q hv' DQ hq
      exact⟨im,ψ,⟨some (.jl ts),ms,[],q.1,v,vs,[],im,[],ψ,rfl,rfl,rfl,⟨rfl,rfl,rfl⟩,k1,rfl,rfl⟩,k2,fun h=>k4 (by simpa only[eI] using h),k5,k6,fun hnd=>by simp [hD] at hnd⟩
     | cH t ts=>
      simp only[fa,M.ia] at hq
      cases eU:f i with
      | ptr id off=>
       rw[eU] at hq dg
       cases off with
       | succ off=>simp at hq
       | zero=>
        simp only[M.aS,Option.bind_eq_some_iff] at hq
        obtain⟨ob,aJ,hq⟩:=hq
        cases ob with
        | box t' cells=>
         simp only at hq
         cases kg:Nat.beq t' t
         ·simp [kg] at hq
         ·have kh:=Nat.eq_of_beq_eq_true kg
          subst kh
          simp only[kg,cond_true,M.ae,Option.bind_eq_some_iff,M.aa,Option.some.injEq] at hq
          obtain⟨q1,aG,q2,cu,rfl⟩:=hq
          obtain⟨im,ψ,k1,k2,k4,k5,k6,k3⟩:=iq hc (i+1) ks ms vs q2 hv' DQ cu
          obtain⟨us,g1,g2,g3,_⟩:=hc.ay id _ aJ
          obtain⟨Fz,r1,r2,r3⟩:=dL hc k.bz ts cells us q1 g2 aG
          simp only[ak] at dg
          refine⟨im,(β.cS id::Fz)++ψ,⟨some (.cH t' ts),ms,q1.1,q2.1,v,vs,[],im,β.cS id::Fz,ψ,rfl,rfl,rfl,⟨β.cS id,us,Fz,dg,g1,g3,r1,rfl,rfl⟩,k1,rfl,rfl⟩,k2,fun h=>k4 (by simpa only[eI] using h),fun b hb=> ?_,fun hnd=> ?_,fun hnd=>by simp [hD] at hnd⟩
          ·simp only[List.cons_append,List.mem_cons,List.mem_append] at hb
           rcases hb with rfl | hb | hb
           ·exact⟨id,List.mem_cons_self ..,_,aJ,by simp only[al];exact List.mem_singleton.2 rfl⟩
           ·obtain⟨j,hj,o,ho⟩:=r2 b hb
            exact⟨j,List.mem_cons_of_mem _ (List.mem_append_left _ hj),o,ho⟩
           ·obtain⟨j,hj,o,ho⟩:=k5 b hb
            exact⟨j,List.mem_cons_of_mem _ (List.mem_append_right _ hj),o,ho⟩
          ·simp only[List.nodup_cons,List.mem_append,not_or,List.nodup_append] at hnd
           obtain⟨⟨n1,n2⟩,n3,n4,n5⟩:=hnd
           have mU:∀j o',j≠id→h j=some o'→β.cS id ∉ al β j o':=by
            intro j o' hj dT hb
            exact hc.sep id j _ o' (Ne.symm hj) aJ dT _ (ah (hc.ay _ _ aJ) _ (by simp only[al];exact List.mem_singleton.2 rfl)) (ah (hc.ay _ _ dT) _ hb)
           rw[List.cons_append,List.nodup_cons,List.nodup_append]
           refine⟨fun hb=> ?_,r3 n3,k6 n4,fun b hb b' ax e=> ?_⟩
           ·rcases List.mem_append.1 hb with hb | hb
            ·obtain⟨j,hj,o,ho,bn⟩:=r2 _ hb
             exact mU j o (fun e=>n1 (e ▸ hj)) ho bn
            ·obtain⟨j,hj,o,ho,bn⟩:=k5 _ hb
             exact mU j o (fun e=>n2 (e ▸ hj)) ho bn
           ·subst e
            obtain⟨i1,Jx,o1,Gv,Gj⟩:=r2 b hb
            obtain⟨j,hj,o',dT,bn⟩:=k5 b ax
            exact hc.sep i1 j o1 o' (fun e=>n5 i1 Jx j hj e) Gv dT b (ah (hc.ay _ _ Gv) b Gj) (ah (hc.ay _ _ dT) b bn)
        | row _ _ _ _ _=>simp at hq
        | dV _ _=>simp at hq
        | deep _ _ _ _ _=>simp at hq
      | _=>rw[eU] at hq;simp at hq
end
end Go.Proofs.YtoaflbnkiobhdaaGreat.Vm
set_option linter.unusedVariables false
set_option linter.unusedSimpArgs false
namespace Go.Proofs.YtoaflbnkiobhdaaGreat.Vm
structure EN where
 id:Nat
 o:aj
 cS:Nat
 val:Value
 φ:List Nat
 nb:List Nat
def EN.ok (w:World) (av:Nat→Prop) (β:Env) (x:EN):Prop:=fH w av β x.id x.o x.φ∧al β x.id x.o=x.φ
section
variable {P:Program} {Γ:Ctx} {A:List (Nat×lb)} {w:World} {i:Nat}
theorem cA:∀(j:Nat) (cs:List CT) (ts:List TT) (ds:List DC) (us:List Value) (mb:List Nat),aQ w cs ts ds us mb→
  ∃E:List EN,(aE i j cs ts ds).2=E.map (fun x=>(x.id,x.o))∧E.flatMap (·.φ)=mb∧∀(av:Nat→Prop) (β:Env),(∀x∈E,β.cS x.id=x.cS∧β.val x.id=x.val∧β.nb x.id=x.nb)→
   af w av β (aE i j cs ts ds).1 us∧∀x∈E,x.ok w av β
 | j,[],ts,ds,us,mb,hm=>by
  simp only[aQ] at hm
  obtain⟨rfl,rfl,rfl,rfl⟩:=hm
  exact⟨[],rfl,rfl,fun av β _=>⟨by simp [aE,af],by simp⟩⟩
 | j,.int k::cs,ts,ds,us,mb,hm=>by
  simp only[aQ] at hm
  obtain⟨d,aW,v,aL,rfl,rfl,h1,hm⟩:=hm
  obtain⟨E,e1,e2,e3⟩:=cA (j+1) cs ts aW aL mb hm
  refine⟨E,by simpa only[aE,List.tail_cons] using e1,e2,fun av β hb=> ?_⟩
  obtain⟨k1,k2⟩:=e3 av β hb
  refine⟨?_,k2⟩
  simp only[aE,List.headD_cons,List.tail_cons,af]
  exact⟨v,aL,rfl,c5 h1 (by simp),k1⟩
 | j,.bool::cs,ts,ds,us,mb,hm=>by
  simp only[aQ] at hm
  obtain⟨d,aW,v,aL,rfl,rfl,h1,hm⟩:=hm
  obtain⟨E,e1,e2,e3⟩:=cA (j+1) cs ts aW aL mb hm
  refine⟨E,by simpa only[aE,List.tail_cons] using e1,e2,fun av β hb=> ?_⟩
  obtain⟨k1,k2⟩:=e3 av β hb
  refine⟨?_,k2⟩
  simp only[aE,List.headD_cons,List.tail_cons,af]
  exact⟨v,aL,rfl,c5 h1 (by simp),k1⟩
 | j,.str::cs,ts,ds,us,mb,hm=>by
  simp only[aQ] at hm
  obtain⟨d,aW,v,aL,rfl,rfl,h1,hm⟩:=hm
  obtain⟨E,e1,e2,e3⟩:=cA (j+1) cs ts aW aL mb hm
  refine⟨E,by simpa only[aE,List.tail_cons] using e1,e2,fun av β hb=> ?_⟩
  obtain⟨k1,k2⟩:=e3 av β hb
  refine⟨?_,k2⟩
  simp only[aE,List.headD_cons,List.tail_cons,af]
  exact⟨v,aL,rfl,c5 h1 (by simp),k1⟩
 | j,.sl e::cs,ts,ds,us,mb,hm=>by
  simp only[aQ] at hm
  obtain⟨t,dB,rows,aW,v,aL,m1,fQ,rfl,rfl,rfl,Ep,hm,rfl⟩:=hm
  obtain⟨E,e1,e2,e3⟩:=cA (j+1) cs dB aW aL fQ hm
  have one:∃nb:List Nat,∀(av:Nat→Prop) (β:Env),β.val (pid i j)=v→β.nb (pid i j)=nb→fH w av β (pid i j) (ez t e rows) m1∧al β (pid i j) (ez t e rows)=m1:=by
   cases t with
   | flat t=>
    obtain⟨eb,vals,aA,h1,h2,rfl⟩:=Ep
    refine⟨[],fun av β hv hn=>⟨⟨vals,aA,by rw[hv];exact h1,h2,by rw[gD eb h2];simp, ?_⟩, ?_⟩⟩
    ·rw[hv,gD eb h2]
     simp
    ·simp only[ez,al,hv]
   | deep t its=>
    obtain⟨vals,aR,h1,h2,rfl⟩:=Ep
    exact⟨aR.flatten,fun av β hv hn=>⟨⟨vals,aR,by rw[hv];exact h1,h2,hn,by rw[hv]⟩,by simp only[ez,al,hv,hn]⟩⟩
  obtain⟨nb,one⟩:=one
  refine⟨⟨pid i j,ez t e rows,0,v,m1,nb⟩::E, ?_, ?_,fun av β hb=> ?_⟩
  ·simp only[aE,List.headD_cons,List.tail_cons,List.map_cons,e1,DC.cj]
  ·simp only[List.flatMap_cons,e2]
  ·obtain⟨k1,k2⟩:=e3 av β (fun x hx=>hb x (List.mem_cons_of_mem _ hx))
   have hv:=(hb _ (List.mem_cons_self ..)).2
   simp only at hv
   refine⟨?_,fun x hx=> ?_⟩
   ·simp only[aE,List.headD_cons,List.tail_cons,af]
    refine⟨v,aL,rfl, ?_,k1⟩
    simp only[ak]
    exact⟨hv.1.symm,Ep.one⟩
   ·rcases List.mem_cons.1 hx with rfl | hx
    ·exact one av β hv.1 hv.2
    ·exact k2 x hx
theorem gB.lt {t:TT} {e:List CT} {rows:List (List DC)} {v:Value} {mb:List Nat} (h:gB w t e rows v mb):∀b∈mb,b<w.heap.size:=by
 cases t with
 | flat t=>
  obtain⟨_,vals,aA,h1,_,rfl⟩:=h
  exact h1.lt
 | deep t its=>
  obtain⟨vals,aR,h1,h2,rfl⟩:=h
  intro b hb
  rcases List.mem_append.1 hb with hb | hb
  ·exact h1.lt b hb
  ·exact h2.lt b hb
theorem gB.reads {t:TT} {e:List CT} {rows:List (List DC)} {v:Value} {mb:List Nat} (h:gB w t e rows v mb):∃tt vals aA,cg w tt e.length false v rows.length vals∧dC w e rows vals aA:=by
 cases t with
 | flat t=>
  obtain⟨_,vals,aA,h1,h2,_⟩:=h
  exact⟨t,vals,aA,h1,h2⟩
 | deep t its=>
  obtain⟨vals,aR,h1,h2,_⟩:=h
  obtain⟨aA,h3,_⟩:=h2.reads
  exact⟨t,vals,aA,h1,h3⟩
theorem aQ.length:∀(cs:List CT) (ts:List TT) (ds:List DC) (us:List Value) (mb:List Nat),aQ w cs ts ds us mb→ds.length=cs.length
 | [],ts,ds,us,mb,h=>by simp only[aQ] at h;simp [h.2.1]
 | .sl e::cs,ts,ds,us,mb,h=>by
  simp only[aQ] at h
  obtain⟨t,dB,rows,aW,v,aL,m1,fQ,rfl,rfl,rfl,_,h,_⟩:=h
  simp [aQ.length cs dB aW aL fQ h]
 | .int k::cs,ts,ds,us,mb,h=>by
  simp only[aQ] at h
  obtain⟨d,aW,v,aL,rfl,rfl,_,h⟩:=h
  simp [aQ.length cs ts aW aL mb h]
 | .bool::cs,ts,ds,us,mb,h=>by
  simp only[aQ] at h
  obtain⟨d,aW,v,aL,rfl,rfl,_,h⟩:=h
  simp [aQ.length cs ts aW aL mb h]
 | .str::cs,ts,ds,us,mb,h=>by
  simp only[aQ] at h
  obtain⟨d,aW,v,aL,rfl,rfl,_,h⟩:=h
  simp [aQ.length cs ts aW aL mb h]
theorem ed:∀(j:Nat) (cs:List CT) (ts:List TT) (d1 d2:List DC),cs.length≤d1.length→aE i j cs ts (d1++d2)=aE i j cs ts d1
 | _,[],_,_,_,_=>rfl
 | j,c::cs,ts,d1,d2,hl=>by
  cases d1 with
  | nil=>simp at hl
  | cons x d1=>
   have DQ:cs.length≤d1.length:=by simpa using hl
   cases c<;>simp only[List.cons_append,aE,List.headD_cons,List.tail_cons]<;>rw[ed _ cs _ d1 d2 DQ]
theorem C8:∀(i:Nat) (ks:List AK) (ms:List (Option MK)) (ds:List DC) (vs:List Value) (fp mb:List Nat),cG w ks ms ds vs fp mb→
  ∃E:List EN,(cx i ks ms ds).2=E.map (fun x=>(x.id,x.o))∧E.flatMap (·.φ)=mb∧∀(av:Nat→Prop) (β:Env),(∀x∈E,β.cS x.id=x.cS∧β.val x.id=x.val∧β.nb x.id=x.nb)→(∀b∈fp,¬av b)→
   (∀n,iV (cx i ks ms ds).1 n= .ff∨∃j v,n=i+j∧vs[j]? =some v∧ak w av β (iV (cx i ks ms ds).1 n) v)∧∀x∈E,x.ok w av β
 | i,[],ms,ds,vs,fp,mb,hm=>by
  simp only[cG] at hm
  obtain⟨rfl,rfl,rfl,rfl,rfl⟩:=hm
  exact⟨[],rfl,rfl,fun av β _ _=>⟨fun n=> .inl rfl,by simp⟩⟩
 | i,k::ks,ms,ds,vs,fp,mb,hm=>by
  simp only[cG] at hm
  obtain⟨m,ms,d1,d2,v,vs,f1,f2,b1,b2,rfl,rfl,rfl,ha,hm,rfl,rfl⟩:=hm
  obtain⟨E,e1,e2,e3⟩:=C8 (i+1) ks ms d2 vs f2 b2 hm
  have step:∀(av:Nat→Prop) (β:Env) (s:SV) (l:List (Nat×SV)),(∀n,iV l n= .ff∨∃j u,n=i+1+j∧vs[j]? =some u∧ak w av β (iV l n) u)→ak w av β s v→
    ∀n,iV ((i,s)::l) n= .ff∨∃j u,n=i+j∧(v::vs)[j]? =some u∧ak w av β (iV ((i,s)::l) n) u:=by
   intro av β s l hl hs n
   simp only[iV]
   cases hk:Nat.beq i n
   ·simp only[cond_false]
    rcases hl n with h3 | ⟨j,u,hn,hj,hu⟩
    ·exact .inl h3
    ·exact .inr ⟨j+1,u,by omega,by simpa using hj,hu⟩
   ·have:=Nat.eq_of_beq_eq_true hk
    subst this
    simp only[cond_true]
    exact .inr ⟨0,v,rfl,rfl,hs⟩
  cases m with
  | none=>
   simp only[fZ] at ha
   obtain⟨ha,rfl⟩:=ha
   have hl:d1.length=k.bz.length:=by
    obtain⟨us,_,_,hr,_⟩:=ha
    exact aZ.length _ _ _ _ hr
   have mA:(d1++d2).drop k.bz.length=d2:=by rw[←hl,List.drop_left]
   refine⟨E,by simp only[cx,List.headD_cons,List.tail_cons,mA,e1],by simpa using e2,fun av β hb A9=> ?_⟩
   obtain⟨k1,k2⟩:=e3 av β hb (fun b hb=>A9 b (List.mem_append_right _ hb))
   refine⟨?_,k2⟩
   simp only[cx,List.headD_cons,List.tail_cons,mA]
   refine step av β _ _ k1 ?_
   rw[il _ _ _ _ (by omega)]
   exact D0 ha (fun b hb=>A9 b (List.mem_append_left _ hb))
  | some m=>
   cases m with
   | box t=>
    simp only[fZ] at ha
    obtain⟨g,us,rfl,hg,ba,hr,MI,rfl⟩:=ha
    have hl:d1.length=k.bz.length:=aZ.length _ _ _ _ hr
    have mA:(d1++d2).drop k.bz.length=d2:=by rw[←hl,List.drop_left]
    refine⟨⟨pid i 0,.box t (cb k.bz d1 0),g,undef,[g],[]⟩::E, ?_,by simp [e2],fun av β hb A9=> ?_⟩
    ·simp only[cx,List.headD_cons,List.tail_cons,mA,e1,List.map_cons]
     rw[il _ _ _ _ (by omega)]
    ·obtain⟨k1,k2⟩:=e3 av β (fun x hx=>hb x (List.mem_cons_of_mem _ hx)) (fun b hb=>A9 b (List.mem_append_right _ hb))
     have mU:=(hb _ (List.mem_cons_self ..)).1
     simp only at mU
     refine⟨?_,fun x hx=> ?_⟩
     ·simp only[cx,List.headD_cons,List.tail_cons,mA]
      refine step av β _ _ k1 ?_
      simp only[ak,mU]
     ·rcases List.mem_cons.1 hx with rfl | hx
      ·obtain⟨cJ,l1,l2,l3,l4⟩:=aZ.bK (β:=β) (av:=av) hr (fun b hb=>A9 b (List.mem_append_left _ hb)) k.bz.length 0 (by omega)
       have ee:cJ=us:=by
        apply List.ext_getElem?
        intro j
        by_cases hj:j<cJ.length
        ·have:=l2 j cJ[j] (by simp)
         simp only[Nat.zero_add] at this
         rw[this]
         simp
        ·rw[List.getElem?_eq_none (by omega),List.getElem?_eq_none (by omega)]
       subst ee
       simp only[List.drop_zero,List.take_length] at l3
       exact⟨⟨cJ,by rw[mU];exact hg,l3,ba,by simp only[mU]⟩,by simp only[al,mU]⟩
      ·exact k2 x hx
   | rows ts=>
    simp only[fZ] at ha
    obtain⟨us,fX,ba,kG,rfl⟩:=ha
    obtain⟨E1,a1,a2,a3⟩:=cA (i:=i) 0 k.bz ts d1 us b1 kG
    have hl:d1.length=k.bz.length:=aQ.length _ _ _ _ _ kG
    have mA:(d1++d2).drop k.bz.length=d2:=by rw[←hl,List.drop_left]
    have Gn:aE i 0 k.bz ts (d1++d2)=aE i 0 k.bz ts d1:=ed _ _ _ _ _ (by omega)
    refine⟨E1++E, ?_,by simp [a2,e2],fun av β hb A9=> ?_⟩
    ·simp only[cx,List.headD_cons,List.tail_cons,mA,Gn,e1,a1,List.map_append]
    ·obtain⟨k1,k2⟩:=e3 av β (fun x hx=>hb x (List.mem_append_right _ hx)) (fun b hb=>A9 b (by simpa using hb))
     obtain⟨c1,c2⟩:=a3 av β (fun x hx=>hb x (List.mem_append_left _ hx))
     refine⟨?_,fun x hx=> ?_⟩
     ·simp only[cx,List.headD_cons,List.tail_cons,mA,Gn]
      refine step av β _ _ k1 ?_
      cases hk:k.agg with
      | true=>
       rw[hk] at fX
       simp only[cond_true] at fX ⊢
       simp only[ak]
       exact⟨us,fX,c1,ba⟩
      | false=>
       rw[hk] at fX
       simp only[cond_false] at fX ⊢
       rw[fX.1] at c1
       generalize (aE i 0 k.bz ts d1).1=q at c1
       cases q with
       | nil=>simp [af] at c1
       | cons y l=>
        simp only[af] at c1
        obtain⟨v',l',e0,e5,_⟩:=c1
        injection e0 with e0
        subst e0
        simpa using e5
     ·rcases List.mem_append.1 hx with hx | hx
      ·exact c2 x hx
      ·exact k2 x hx
   | jl ts=>
    simp only[fZ] at ha
    obtain⟨us,fX,ba,kG,rfl⟩:=ha
    obtain⟨E1,a1,a2,a3⟩:=cA (i:=i) 0 k.bz ts d1 us b1 kG
    have hl:d1.length=k.bz.length:=aQ.length _ _ _ _ _ kG
    have mA:(d1++d2).drop k.bz.length=d2:=by rw[←hl,List.drop_left]
    have Gn:aE i 0 k.bz ts (d1++d2)=aE i 0 k.bz ts d1:=ed _ _ _ _ _ (by omega)
    refine⟨E1++E, ?_,by simp [a2,e2],fun av β hb A9=> ?_⟩
    ·simp only[cx,List.headD_cons,List.tail_cons,mA,Gn,e1,a1,List.map_append]
    ·obtain⟨k1,k2⟩:=e3 av β (fun x hx=>hb x (List.mem_append_right _ hx)) (fun b hb=>A9 b (by simpa using hb))
     obtain⟨c1,c2⟩:=a3 av β (fun x hx=>hb x (List.mem_append_left _ hx))
     refine⟨?_,fun x hx=> ?_⟩
     ·simp only[cx,List.headD_cons,List.tail_cons,mA,Gn]
      refine step av β _ _ k1 ?_
      cases hk:k.agg with
      | true=>
       rw[hk] at fX
       simp only[cond_true] at fX ⊢
       simp only[ak]
       exact⟨us,fX,c1,ba⟩
      | false=>
       rw[hk] at fX
       simp only[cond_false] at fX ⊢
       rw[fX.1] at c1
       generalize (aE i 0 k.bz ts d1).1=q at c1
       cases q with
       | nil=>simp [af] at c1
       | cons y l=>
        simp only[af] at c1
        obtain⟨v',l',e0,e5,_⟩:=c1
        injection e0 with e0
        subst e0
        simpa using e5
     ·rcases List.mem_append.1 hx with hx | hx
      ·exact c2 x hx
      ·exact k2 x hx
   | cH t ts=>
    simp only[fZ] at ha
    obtain⟨g,us,mm,rfl,hg,ba,kG,rfl,rfl⟩:=ha
    obtain⟨E1,a1,a2,a3⟩:=cA (i:=i) 0 k.bz ts d1 us mm kG
    have hl:d1.length=k.bz.length:=aQ.length _ _ _ _ _ kG
    have mA:(d1++d2).drop k.bz.length=d2:=by rw[←hl,List.drop_left]
    have Gn:aE i 0 k.bz ts (d1++d2)=aE i 0 k.bz ts d1:=ed _ _ _ _ _ (by omega)
    refine⟨⟨pid i 62,.box t (aE i 0 k.bz ts d1).1,g,undef,[g],[]⟩::(E1++E), ?_,by simp [a2,e2],fun av β hb A9=> ?_⟩
    ·simp only[cx,List.headD_cons,List.tail_cons,mA,Gn,e1,a1,List.map_append,List.map_cons]
    ·obtain⟨k1,k2⟩:=e3 av β (fun x hx=>hb x (List.mem_cons_of_mem _ (List.mem_append_right _ hx))) (fun b hb=>A9 b (by simpa using hb))
     obtain⟨c1,c2⟩:=a3 av β (fun x hx=>hb x (List.mem_cons_of_mem _ (List.mem_append_left _ hx)))
     have mU:=(hb _ (List.mem_cons_self ..)).1
     simp only at mU
     refine⟨?_,fun x hx=> ?_⟩
     ·simp only[cx,List.headD_cons,List.tail_cons,mA,Gn]
      refine step av β _ _ k1 ?_
      simp only[ak,mU]
     ·rcases List.mem_cons.1 hx with rfl | hx
      ·exact⟨⟨us,by rw[mU];exact hg,c1,ba,by simp only[mU]⟩,by simp only[al,mU]⟩
      ·rcases List.mem_append.1 hx with hx | hx
       ·exact c2 x hx
       ·exact k2 x hx
theorem aQ.lt:∀(cs:List CT) (ts:List TT) (ds:List DC) (us:List Value) (mb:List Nat),aQ w cs ts ds us mb→∀b∈mb,b<w.heap.size
 | [],ts,ds,us,mb,h=>by simp only[aQ] at h;simp [h.2.2.2]
 | .sl e::cs,ts,ds,us,mb,h=>by
  simp only[aQ] at h
  obtain⟨t,dB,rows,aW,v,aL,m1,fQ,rfl,rfl,rfl,h1,h,rfl⟩:=h
  intro b hb
  rcases List.mem_append.1 hb with hb | hb
  ·exact h1.lt b hb
  ·exact aQ.lt cs dB aW aL fQ h b hb
 | .int k::cs,ts,ds,us,mb,h=>by
  simp only[aQ] at h
  obtain⟨d,aW,v,aL,rfl,rfl,_,h⟩:=h
  exact aQ.lt cs ts aW aL mb h
 | .bool::cs,ts,ds,us,mb,h=>by
  simp only[aQ] at h
  obtain⟨d,aW,v,aL,rfl,rfl,_,h⟩:=h
  exact aQ.lt cs ts aW aL mb h
 | .str::cs,ts,ds,us,mb,h=>by
  simp only[aQ] at h
  obtain⟨d,aW,v,aL,rfl,rfl,_,h⟩:=h
  exact aQ.lt cs ts aW aL mb h
theorem cG.facts:∀(ks:List AK) (ms:List (Option MK)) (ds:List DC) (vs:List Value) (fp mb:List Nat),cG w ks ms ds vs fp mb→(∀b∈mb,b<w.heap.size)∧(∀b∈fp,b<w.heap.size)∧vs.length=ks.length
 | [],ms,ds,vs,fp,mb,h=>by
  simp only[cG] at h
  obtain⟨_,_,rfl,rfl,rfl⟩:=h
  simp
 | k::ks,ms,ds,vs,fp,mb,h=>by
  simp only[cG] at h
  obtain⟨m,DS,d1,d2,v,cJ,f1,f2,b1,b2,rfl,rfl,rfl,ha,h,rfl,rfl⟩:=h
  obtain⟨k1,k2,k3⟩:=cG.facts ks DS d2 cJ f2 b2 h
  have one:(∀b∈b1,b<w.heap.size)∧∀b∈f1,b<w.heap.size:=by
   cases m with
   | none=>
    simp only[fZ] at ha
    obtain⟨⟨us,_,_,hr,_⟩,rfl⟩:=ha
    exact⟨by simp,aZ.lt _ _ _ _ hr⟩
   | some m=>
    cases m with
    | box t=>
     simp only[fZ] at ha
     obtain⟨g,us,_,hg,_,hr,_,rfl⟩:=ha
     refine⟨fun b hb=> ?_,aZ.lt _ _ _ _ hr⟩
     simp only[List.mem_singleton] at hb
     subst hb
     exact (Array.getElem?_eq_some_iff.1 hg).1
    | rows ts=>
     simp only[fZ] at ha
     obtain⟨us,_,_,kG,rfl⟩:=ha
     exact⟨aQ.lt _ _ _ _ _ kG,by simp⟩
    | jl ts=>
     simp only[fZ] at ha
     obtain⟨us,_,_,kG,rfl⟩:=ha
     exact⟨aQ.lt _ _ _ _ _ kG,by simp⟩
    | cH t ts=>
     simp only[fZ] at ha
     obtain⟨g,us,mm,_,hg,_,kG,rfl,rfl⟩:=ha
     refine⟨fun b hb=> ?_,by simp⟩
     rcases List.mem_cons.1 hb with rfl | hb
     ·exact (Array.getElem?_eq_some_iff.1 hg).1
     ·exact aQ.lt _ _ _ _ _ kG b hb
  refine⟨fun b hb=> ?_,fun b hb=> ?_,by simp [k3]⟩
  ·rcases List.mem_append.1 hb with hb | hb
   ·exact one.1 b hb
   ·exact k1 b hb
  ·rcases List.mem_append.1 hb with hb | hb
   ·exact one.2 b hb
   ·exact k2 b hb
theorem lI {E:List EN} (h:(E.flatMap (·.φ)).Nodup):(∀x∈E,x.φ.Nodup)∧∀x∈E,∀y∈E,x≠y→∀b∈x.φ,b ∉ y.φ:=by
 induction E with
 | nil=>simp
 | cons z l ih=>
  rw[List.flatMap_cons,List.nodup_append] at h
  obtain⟨h1,h2,h3⟩:=h
  obtain⟨i1,i2⟩:=ih h2
  refine⟨fun x hx=> ?_,fun x hx y hy m8 b hb ax=> ?_⟩
  ·rcases List.mem_cons.1 hx with rfl | hx
   ·exact h1
   ·exact i1 x hx
  ·rcases List.mem_cons.1 hx with Bz | Bz<;>rcases List.mem_cons.1 hy with BA | BA
   ·exact m8 (Bz.trans BA.symm)
   ·subst Bz
    exact h3 b hb b (List.mem_flatMap.2 ⟨y,BA,ax⟩) rfl
   ·subst BA
    exact h3 b ax b (List.mem_flatMap.2 ⟨x,Bz,hb⟩) rfl
   ·exact i2 x Bz y BA m8 b hb ax
theorem eW.count {w:World} :∀(BI:List RK) (ds:List DC) (vs:List Value) (φ im tp:List Nat),eW w BI ds vs φ im tp→ds.length=cf BI
 | [],ds,vs,φ,im,tp,h=>by simp only[eW] at h;simp [h.1,cf]
 | r::rs,ds,vs,φ,im,tp,h=>by
  simp only[eW] at h
  obtain⟨d1,d2,v,cJ,us,DK,A5,i1,i2,t1,t2,rfl,rfl,_,_,h1,h2,_⟩:=h
  simp only[List.length_append,cf,c_.length _ _ _ _ _ _ h1,eW.count rs d2 cJ _ _ _ h2]
theorem aQ.wt:∀(cs:List CT) (ts:List TT) (ds:List DC) (us:List Value) (mb:List Nat),aQ w cs ts ds us mb→jV cs ds
 | [],ts,ds,us,mb,h=>by simp only[aQ] at h;simp only[jV];exact h.2.1
 | .sl e::cs,ts,ds,us,mb,h=>by
  simp only[aQ] at h
  obtain⟨t,dB,rows,aW,v,aL,m1,fQ,rfl,rfl,rfl,Ep,h,_⟩:=h
  obtain⟨tt,vals,aA,h1,h2⟩:=Ep.reads
  simp only[jV,GO]
  refine⟨_,_,rfl,⟨rows,rfl, ?_,fun r hr=> ?_⟩,aQ.wt cs dB aW aL fQ h⟩
  ·rcases h1.2 with ⟨_,hn,_⟩ | ⟨g,cap,cur,_,_,h3,h4,_⟩
   ·rw[hn];exact Nat.zero_le _
   ·omega
  ·obtain⟨i,hi,rfl⟩:=List.getElem_of_mem hr
   have dI:i<aA.length:=by have:=h2.1;omega
   exact aZ.wt e _ _ _ (h2.2 i rows[i] aA[i] (by simp) (by simp [dI]))
 | .int k::cs,ts,ds,us,mb,h=>by
  simp only[aQ] at h
  obtain⟨d,aW,v,aL,rfl,rfl,h1,h⟩:=h
  simp only[jV]
  exact⟨d,aW,rfl,bU.wt _ _ _ _ h1,aQ.wt cs ts aW aL mb h⟩
 | .bool::cs,ts,ds,us,mb,h=>by
  simp only[aQ] at h
  obtain⟨d,aW,v,aL,rfl,rfl,h1,h⟩:=h
  simp only[jV]
  exact⟨d,aW,rfl,bU.wt _ _ _ _ h1,aQ.wt cs ts aW aL mb h⟩
 | .str::cs,ts,ds,us,mb,h=>by
  simp only[aQ] at h
  obtain⟨d,aW,v,aL,rfl,rfl,h1,h⟩:=h
  simp only[jV]
  exact⟨d,aW,rfl,bU.wt _ _ _ _ h1,aQ.wt cs ts aW aL mb h⟩
theorem cG.wt:∀(ks:List AK) (ms:List (Option MK)) (ds:List DC) (vs:List Value) (fp mb:List Nat),cG w ks ms ds vs fp mb→jV (gJ ks) ds
 | [],ms,ds,vs,fp,mb,h=>by
  simp only[cG] at h
  simp only[gJ,jV]
  exact h.2.1
 | k::ks,ms,ds,vs,fp,mb,h=>by
  simp only[cG] at h
  obtain⟨m,DS,d1,d2,v,cJ,f1,f2,b1,b2,rfl,rfl,rfl,ha,h,_⟩:=h
  refine jV.append ?_ (cG.wt ks DS d2 cJ f2 b2 h)
  cases m with
  | none=>
   simp only[fZ] at ha
   obtain⟨⟨us,_,_,hr,_⟩,_⟩:=ha
   exact aZ.wt _ _ _ _ hr
  | some m=>
   cases m with
   | box t=>
    simp only[fZ] at ha
    obtain⟨g,us,_,_,_,hr,_⟩:=ha
    exact aZ.wt _ _ _ _ hr
   | rows ts=>
    simp only[fZ] at ha
    obtain⟨us,_,_,kG,_⟩:=ha
    exact aQ.wt _ _ _ _ _ kG
   | jl ts=>
    simp only[fZ] at ha
    obtain⟨us,_,_,kG,_⟩:=ha
    exact aQ.wt _ _ _ _ _ kG
   | cH t ts=>
    simp only[fZ] at ha
    obtain⟨g,us,mm,_,_,_,kG,_⟩:=ha
    exact aQ.wt _ _ _ _ _ kG
def DR:List EN→Nat→Option EN
 | [],_=>none
 | x::l,i=>if i=x.id then some x else DR l i
theorem jB {E:List EN} {j:Nat} {x:EN} (h:DR E j=some x):x∈E∧x.id=j:=by
 induction E with
 | nil=>simp [DR] at h
 | cons y l ih=>
  simp only[DR] at h
  split at h
  ·rename_i hj
   injection h with h
   subst h
   exact⟨List.mem_cons_self ..,hj.symm⟩
  ·obtain⟨h1,h2⟩:=ih h
   exact⟨List.mem_cons_of_mem _ h1,h2⟩
theorem E2 {E:List EN} {x:EN} (hx:x∈E) (hn:(E.map (·.id)).Nodup):DR E x.id=some x:=by
 induction E with
 | nil=>simp at hx
 | cons y l ih=>
  simp only[List.map_cons,List.nodup_cons] at hn
  simp only[DR]
  rcases List.mem_cons.1 hx with rfl | hx
  ·simp
  ·have:x.id≠y.id:=fun e=>hn.1 (e ▸ List.mem_map_of_mem hx)
   rw[if_neg this]
   exact ih hx hn.2
theorem BC {E:List EN} {j:Nat} {o:aj} (h:dw (E.map fun x=>(x.id,x.o)) j=some o):∃x,DR E j=some x∧x.o=o:=by
 induction E with
 | nil=>simp [dw] at h
 | cons y l ih=>
  simp only[List.map_cons,dw] at h
  simp only[DR]
  cases hb:Nat.beq y.id j
  ·rw[hb] at h
   rw[if_neg (fun e=>Nat.ne_of_beq_eq_false hb e.symm)]
   exact ih h
  ·rw[hb] at h
   have:=Nat.eq_of_beq_eq_true hb
   subst this
   simp only[cond_true,Option.some.injEq] at h
   exact⟨y,by simp,h⟩
theorem C1 {fn:Func} {s:Sum} {st:St} {r:List DC} (h:mu P fn s st=(true,r)):st.ok=true:=by
 unfold mu at h
 split at h
 ·simp only[Prod.mk.injEq,Bool.and_eq_true] at h
  exact h.1.1.1
 ·exact absurd h bE
theorem mS {fn:Func} {s:Sum} {st:St} {r:List DC} {w w':World} {ds:List DC} {vals:List Value} {fp mb:List Nat} {a:Act} (AH:shares s=false) (hm:cG w s.ps s.ms ds vals fp mb)
  (h:mu P fn s st=(true,r)) (hR:Rel w ⟨fun b=>b∈mb,fun b=>b<w.heap.size∧b ∉ fp∧b ∉ mb,(vals.zipIdx.filter (fun x=>Nat.blt x.2 (k7 s.ms))).map (fun x=>(x.2,x.1))⟩ st a w'):
  a.defers=[]∧∃v,(results fn a.tmps).run P w'= .ok v w'∧∃vs φ im tp mo rd od ψ,Ending.returned v= .returned (pack vs)∧r=rd++od∧rd.length=cf s.rs∧Kept ⟨fun b=>b∈mb,fun _=>False,[]⟩ w w'∧eW w' s.rs rd vs φ im tp∧φ.Nodup∧
   (∀b∈φ,(b∈mb∨w.heap.size≤b)∧b<w'.heap.size)∧ly w' s.ps s.ms od vals mo ψ∧ψ.Nodup∧(∀b∈ψ,(b∈mb∨w.heap.size≤b)∧b<w'.heap.size∧b ∉ φ)∧∀b∈mo,(b∈fp∨w.heap.size≤b)∧b ∉ tp∧b ∉ ψ∧eI s.ms=false:=by
 obtain⟨_,_,AJ⟩:=cG.facts _ _ _ _ _ _ hm
 unfold mu at h
 split at h
 case h_2=>exact absurd h bE
 rename_i rd own im od ids x hr
 simp only[Prod.mk.injEq,Bool.and_eq_true] at h
 obtain⟨⟨⟨_,aY⟩,EC⟩,rfl⟩:=h
 obtain⟨β,φ,hc⟩:=hR.core
 have hval:=M.ea _ hr
 simp only[M.ae,Option.bind_eq_some_iff,M.aa,Option.some.injEq,Prod.mk.injEq] at hval
 obtain⟨ss,h1,q,h2,q2,h3,e1,e2⟩:=hval
 subst e1
 subst e2
 obtain⟨vs,g1,g2⟩:=iv hc _ _ h1
 obtain⟨φ',EU,A4,k1,k2,k3,k4,k5⟩:=iO hc _ _ _ _ g2 h2
 have L7:∀(j:Nat) v m,vals[j]? =some v→s.ms[j]? =some (some m)→a.tmps.getD (0+j) undef=v:=by
  intro j v m hj hm
  have:=(hR.fx (j,v) (List.mem_map.2 ⟨(v,j),List.mem_filter.2 ⟨by rw[List.mem_zipIdx_iff_getElem?];exact hj,Nat.ble_eq_true_of_le (Db hm)⟩,rfl⟩)).2
  simpa using this
 obtain⟨mo,ψ,o1,o2,o4,o5,o6,o3⟩:=iq hc 0 s.ps s.ms vals _ L7 AJ h3
 have hnd:=e_ aY
 rw[List.nodup_append] at hnd
 have I_:∀b∈ψ,∀i∈own,∀o,st.obj i=some o→b ∉ φ i:=by
  intro b hb i hi o B4 lN
  obtain⟨id,dJ,o',dT,jq⟩:=o5 b hb
  have cI:i≠id:=fun e=>hnd.2.2 i hi id dJ e
  exact absurd (ah (hc.ay _ _ dT) b jq) (hc.sep i id o o' cI B4 dT b lN)
 have Hw:∀b∈ψ,b ∉ φ':=by
  intro b hb fj
  obtain⟨i,hi,⟨o,B4⟩,lN⟩:=k2 b fj
  exact I_ b hb i hi o B4 lN
 have I9:∀b∈ψ,Av st.obj β b:=fun b hb=>by
  obtain⟨id,dJ,o',dT,jq⟩:=o5 b hb
  exact .inl ⟨id,o',dT,jq⟩
 have AB:∀b∈mo,b<w.heap.size→b ∉ fp→False:=by
  intro b hb cl hf
  rcases Bool.or_eq_true_iff.1 EC with Ki | Ki
  ·have Gr:∀b∈mb,∃id∈ids,∃o,st.obj id=some o∧b∈al β id o:=o3 Ki w ds fp mb hm
   have cN:=o2 b hb
   have IG:b ∉ mb:=fun Ib=>by
    obtain⟨id,dJ,o',dT,jq⟩:=Gr b Ib
    exact cN (.inl ⟨id,o',dT,jq⟩)
   refine absurd (.inr ?_) cN
   rw[hc.bars]
   exact⟨cl,hf,IG⟩
  ·rw[o4 Ki] at hb
   simp at hb
 refine⟨hR.defers,pack vs,kN g1,vs,φ',EU,A4,mo,rd,od,ψ,rfl,rfl,eW.count _ _ _ _ _ _ k1,⟨hR.kept.os,hR.kept.tape,hR.kept.output,hR.kept.size,hR.kept.block⟩,k1,k4 hnd.1, ?_,o1,o6 hnd.2.1, ?_, ?_⟩
 ·intro b hb
  obtain⟨i,hi,⟨o,B4⟩,lN⟩:=k2 b hb
  have hf:=(hc.fresh i o B4).2 b lN
  exact⟨hf.1.symm,hf.2⟩
 ·intro b hb
  obtain⟨id,dJ,o',dT,jq⟩:=o5 b hb
  have hf:=(hc.fresh id o' dT).2 b (ah (hc.ay _ _ dT) b jq)
  exact⟨hf.1.symm,hf.2,Hw b hb⟩
 ·intro b hb
  have cN:=o2 b hb
  refine⟨?_,fun jq=> ?_,fun JY=>cN (I9 b JY), ?_⟩
  ·by_cases cl:b<w.heap.size
   ·by_cases hf:b∈fp
    ·exact .inl hf
    ·exact (AB b hb cl hf).elim
   ·exact .inr (by omega)
  ·obtain⟨j,oj,_,hj,bn⟩:=k3 b jq
   exact cN (.inl ⟨j,oj,hj,bn⟩)
  ·cases ja:eI s.ms with
   | false=>rfl
   | true=>
    rw[o4 ja] at hb
    simp at hb
theorem Fu (eF:bD P Γ) {g:Nat} {fn:Func} {s:Sum} (hf:P.funcs[g]? =some fn) (G3:fn.body.isSome=true) (hn:(fn.name== "runtime.NumGoroutine")=false) (hlen:s.ps.length≤fn.ntmps) (Gu:fn.ntmps<1099511627776)
  (AH:shares s=false) (dJ:∀ds,eG ((cx 0 s.ps s.ms ds).2.map (·.1))=true)
  (h:∀ds,jV (gJ s.ps) ds→(s.fn ds).1=true→∃N,GJ P Γ A N fn s ds=(true,(s.fn ds).2)):B8 P g s:=by
 refine⟨⟨fn,hf,G3,hn⟩,fun w ds vals fp mb cr Ix Kp aI=> ?_⟩
 obtain⟨N,bo⟩:=h ds (cG.wt _ _ _ _ _ _ cr) aI
 obtain⟨c,hc⟩:=Option.isSome_iff_exists.1 G3
 unfold GJ at bo
 rw[hc] at bo
 simp only at bo
 obtain⟨Kr,L6,AJ⟩:=cG.facts _ _ _ _ _ _ cr
 refine calls_of_wp hf hc ?_
 let S:Own:=⟨fun b=>b∈mb,fun b=>b<w.heap.size∧b ∉ fp∧b ∉ mb,(vals.zipIdx.filter (fun x=>Nat.blt x.2 (k7 s.ms))).map (fun x=>(x.2,x.1))⟩
 obtain⟨E,e1,e2,e3⟩:=C8 0 s.ps s.ms ds vals fp mb cr
 have Kc:(E.map (·.id)).Nodup:=by
  have:=e_ (dJ ds)
  rw[e1,List.map_map] at this
  exact this
 let β:Env:=⟨fun j=>match DR E j with | some x=>x.cS | none=>0,fun j=>match DR E j with | some x=>x.val | none=>undef,S.gv,fun j=>match DR E j with | some x=>x.nb | none=>[]⟩
 have fY:∀x∈E,β.cS x.id=x.cS∧β.val x.id=x.val∧β.nb x.id=x.nb:=by
  intro x hx
  simp only[β,E2 hx Kc,and_self]
 have ET:∀x∈E,∀b∈x.φ,b∈mb:=fun x hx b hb=>by rw[←e2];exact List.mem_flatMap.2 ⟨x,hx,hb⟩
 have mY:∀x∈E,al β x.id x.o=x.φ:=fun x hx=>((e3 (fun _=>False) β fY (fun _ _ h=>h)).2 x hx).2
 have Hj:∀b∈fp,¬Av (dw (cx 0 s.ps s.ms ds).2) β b:=by
  rintro b hb (⟨j,o,ho,jq⟩ | hx)
  ·rw[e1] at ho
   obtain⟨x,hx,rfl⟩:=BC ho
   obtain⟨hm,rfl⟩:=jB hx
   rw[mY x hm] at jq
   exact Kp b (ET x hm b jq) hb
  ·exact hx.2.1 hb
 obtain⟨ke,aJ⟩:=e3 (Av (dw (cx 0 s.ps s.ms ds).2) β) β fY Hj
 have hR:Rel w S {n:=fn.ntmps+k7 s.ms*1099511627776,sl:=(cx 0 s.ps s.ms ds).1,hp:=(cx 0 s.ps s.ms ds).2,ok:=true,ls:=[],lm:=[]} {tmps:=vals.toArray++Array.replicate (fn.ntmps - vals.toArray.size) undef,defers:=[]} w:=by
  have mB:∀(j:Nat) v,vals[j]? =some v→(vals.toArray++Array.replicate (fn.ntmps - vals.toArray.size) undef).getD j undef=v:=by
   intro j v hj
   have He:j<vals.length:=(List.getElem?_eq_some_iff.1 hj).1
   rw[Array.getD_eq_getD_getElem?,Array.getElem?_append_left (by simp;omega)]
   simp [hj]
  refine⟨by simp;omega, ?_,rfl,⟨rfl,rfl,rfl,Nat.le_refl _,fun _ _ _=>rfl⟩,β,fun j=>match DR E j with | some x=>x.φ | none=>[], ?_⟩
  ·intro x hx
   obtain⟨⟨v,j⟩,I2,rfl⟩:=List.mem_map.1 hx
   obtain⟨I2,Kk⟩:=List.mem_filter.1 I2
   have Kk:j<k7 s.ms:=Nat.le_of_ble_eq_true Kk
   rw[List.mem_zipIdx_iff_getElem?] at I2
   have He:j<vals.length:=(List.getElem?_eq_some_iff.1 I2).1
   exact⟨by simp only;omega,mB j v I2⟩
  ·refine⟨fun i=> ?_,fun id o ho=> ?_,fun id o ho=> ?_,fun i j oi oj cI hi hj b hb=> ?_,fun b hb=>⟨hb.1,hb.2.2⟩,rfl⟩
   ·rcases ke i with h1 | ⟨j,v,hi,hj,hs⟩
    ·show ak w _ _ (iV (cx 0 s.ps s.ms ds).1 i) _
     rw[h1]
     simp [ak]
    ·have:i=j:=by omega
     subst this
     rw[mB i v hj]
     exact hs
   ·have dT:dw (cx 0 s.ps s.ms ds).2 id=some o:=ho
    rw[e1] at dT
    obtain⟨x,hx,rfl⟩:=BC dT
    obtain⟨hm,rfl⟩:=jB hx
    simp only[hx]
    exact (aJ x hm).1
   ·have dT:dw (cx 0 s.ps s.ms ds).2 id=some o:=ho
    rw[e1] at dT
    obtain⟨x,hx,rfl⟩:=BC dT
    obtain⟨hm,rfl⟩:=jB hx
    simp only[hx]
    refine⟨?_,fun b hb=>⟨.inr (ET x hm b hb),Kr b (ET x hm b hb)⟩⟩
    exact (lI (E:=E) (by rw[e2];exact Ix)).1 x hm
   ·have dI:dw (cx 0 s.ps s.ms ds).2 i=some oi:=hi
    have fO:dw (cx 0 s.ps s.ms ds).2 j=some oj:=hj
    rw[e1] at dI fO
    obtain⟨x,hx,rfl⟩:=BC dI
    obtain⟨y,hy,rfl⟩:=BC fO
    simp only[hx] at hb
    simp only[hy]
    have I4:=jB hx
    have JG:=jB hy
    have m8:x≠y:=by
     rintro rfl
     exact cI (I4.2.symm.trans JG.2)
    exact (lI (E:=E) (by rw[e2];exact Ix)).2 x I4.1 y JG.1 m8 b hb
 refine cL (r:=(s.fn ds).2) eF c _ {eB:=mu P fn s,ext:=fun _ _=>jX,ret:=mu P fn s} _ w _ ⟨fun st gT=>C1 gT,fun i st gT=>absurd gT bE,fun st gT=>C1 gT⟩ hR bo ⟨?_, ?_, ?_⟩
 ·intro st a w' eD gT
  exact mS AH cr gT eD
 ·intro i st a w' _ gT
  exact absurd gT bE
 ·intro st a w' eD gT
  exact mS AH cr gT eD
end
end Go.Proofs.YtoaflbnkiobhdaaGreat.Vm
namespace Go.Proofs.YtoaflbnkiobhdaaGreat.Vm
def KW (P:Program) (Γ:Ctx) (A:List (Nat×lb)) (N:Nat) (fn:Func) (s:Sum) (p:List Bool) (is:List (St→kx)) (ih:St→kx) (st:St):kx:=
 match fn.body with
 | some c=>match focus P Γ A N p is c {eB:=mu P fn s,ext:=fun _ _=>jX,ret:=mu P fn s} with
  | (.loop a,K)=>match (df a).bind (Jb A) with
   | some an=>run P Γ A N a st {eB:=fun s'=>ih (canon P an s'),ext:=K.ext,ret:=K.ret}
   | none=>jX
  | _=>jX
 | none=>jX
end Go.Proofs.YtoaflbnkiobhdaaGreat.Vm
