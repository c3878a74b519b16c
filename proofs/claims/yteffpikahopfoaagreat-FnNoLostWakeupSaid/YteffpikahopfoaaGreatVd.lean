/- Conditions: as each says. -/
import Derived.Test.YteffpikahopfoaaGreatVc
import Derived.LoopN
set_option linter.unusedVariables false
set_option linter.unusedSimpArgs false
open List renaming mem_singleton→MB,mem_append→MC,mem_cons_of_mem→MI,mem_cons→ML,mem_cons_self→MQ,tail_cons→MS,headD_cons→MW,nodup_append→MY,nodup_cons→M1,getElem?_eq_some_iff→M9,map_cons→NG,drop_left→NW,getD_eq_getElem?_getD→OF,getElem?_eq_none→Pd,mem_flatMap→PQ,getElem?_eq_getElem→PT,mem_map_of_mem→Rh,cons_append→Ri,getElem?_cons_zero→RL,getElem_of_mem→TO,getElem?_map→TX,mem_map→V2,map_append→Xs,getElem?_append_left→XL,getElem?_range'→XM,pairwise_map→X5,take_append_drop→YB,singleton_append→YO,length_eq_zero_iff→YV,ext_getElem?→YW,flatMap_cons→YZ,mem_zipIdx_iff_getElem?→Y0
open Nat renaming beq→MH,le_refl→NV,blt→PR,lt_trichotomy→Rj,le_of_ble_eq_true→SO,beq_refl→T1,ne_of_beq_eq_false→W0,ble_eq_true_of_le→YY
open Array renaming getD_eq_getD_getElem?→M8,replicate→Nj,getElem?_eq_some_iff→Rg,getElem?_toList→RV,getElem?_eq_getElem→T2,getElem?_setIfInBounds→T5,getElem?_replicate→Vb,getElem?_append_left→YX
open Go.Value renaming ownBlock→NO
open Bool renaming not_eq_true'→Pe
open Go renaming Program→aat,World→aau,Operand→aav,Value→aaw
namespace Go.Proofs.YteffpikahopfoaaGreat.Vm
section
variable {P:aat} {Γ:Ctx} {w0:aau} {S:Own} {ops:Array Oper} {gs:List Nat}
theorem cU{i:Nat} :∀ {l m:List Nat},i∈CZ l m→i∈l∨i∈m
 | [],m,h=> .inr h
 | k::l,m,h=>by
  simp only[CZ] at h;cases a:Rf k m
  ·simp only[a,J,ML] at h;rcases h with rfl | h
   ·exact .inl (MQ ..)
   ·exact (cU h).imp (MI _) id
  ·simp only[a,H] at h;exact (cU h).imp (MI _) id
def qp(ops:Array Oper)(L:Nat→Bool)(k:Nat):Prop:=∀o,ops[k]? =some o→∀e∈o.after,Region.binds .any e=true→L e.on=true
theorem R1{a:List (List Nat)}{j:Nat} :∀(l:List Edge),j∈l.foldr (λe r=>cond (Region.binds .any e) (CZ (CZ [e.on] (a.getD e.on [])) r) r) []→
  ∃e∈l,Region.binds .any e=true∧(j=e.on∨j∈a.getD e.on [])
 | [],h=>by simp at h
 | e::l,h=>by
  simp only[List.foldr_cons] at h;cases b:Region.binds .any e
  ·simp only[b,J] at h;obtain⟨x,c,d⟩:=R1 l h;exact⟨x,MI _ c,d⟩
  ·simp only[b,H] at h;rcases cU h with h | h
   ·refine⟨e,MQ ..,b, ?_⟩;rcases cU h with h | h
    ·exact .inl (by simpa using h)
    ·exact .inr h
   ·obtain⟨x,c,d⟩:=R1 l h;exact⟨x,MI _ c,d⟩
theorem noY{L:Nat→Bool}(d:∀k,L k=true→qp ops L k):∀(l:List Oper) (a:List (List Nat)) (pre:List Oper),ops.toList=pre++l→a.length=pre.length→
  (∀k j,qp ops L k→j∈a.getD k []→L j=true)→∀k j,qp ops L k→j∈(dU l a).getD k []→L j=true
 | [],a,pre,_,_,h=>by simpa [dU] using h
 | o::l,a,pre,JN,hlen,h=>by
  rw[dU];refine noY d l _ (pre++[o]) (by simp[JN]) (by simp[hlen]) ?_;intro k j f b;rcases Rj k a.length with i | c | q
  ·refine h k j f ?_;rw[OF,XL i] at b;rwa[OF]
  ·subst c;rw[OF,List.getElem?_append_right (NV _)] at b;simp only[Nat.sub_self,RL,Option.getD_some] at b;obtain⟨e,m,n,b⟩:=R1 _ b;have p:ops[a.length]? =some o:=by rw[←RV,JN,hlen];simp
   have g:=f o p e (by simpa using m) n;rcases b with rfl | b
   ·exact g
   ·exact h e.on j (d _ g) b
  ·rw[OF,Pd (by simp;omega)] at b;simp at b
theorem naU:∀(l:List Oper) (i:Nat),eB l i=true→∀k o,l[k]? =some o→∀e∈o.after,Region.binds .any e=true→e.on<i+k
 | [],_,_,k,o,h,_,_,_=>by simp at h
 | x::l,i,h,k,o,hk,e,he,hb=>by
  simp only[eB,Bl,List.all_eq_true] at h;cases k with
  | zero=>
   simp only[RL,Y] at hk;subst hk;have:=h.1 e (by simpa using he);rw[hb] at this;simp only[Bool.not_true,Bool.false_or] at this;exact SO this
  | succ k=>
   simp only[List.getElem?_cons_succ] at hk;have:=naU l (i+1) h.2 k o hk e he hb;omega
theorem nfK{an:List (List Nat)}{a:CM} :∀(l:List CM),vq an a l=true→∀b∈l,(DX a b=true→a.i∈an.getD b.i [])∧jQ b a=false
 | [],_=>by simp
 | c::l,h=>by
  simp only[vq,Bl,Pe] at h;intro b d;rcases ML.1 d with rfl | d
  ·refine⟨λe=>?_,h.1.2⟩;have:=h.1.1;rw[e] at this;simp only[Bool.not_true,Bool.false_or] at this;exact jw.1 this
  ·exact nfK l h.2 b d
theorem nu5{an:List (List Nat)} :∀(l:List CM),TE an l=true→l.Pairwise (λa b=>(DX a b=true→a.i∈an.getD b.i [])∧jQ b a=false)
 | [],_=> .nil
 | a::l,h=>by simp only[TE,Bl] at h;exact .cons (nfK l h.1) (nu5 l h.2)
theorem uy{l m:List Nat}{i:Nat}(b:i∈l)(a:i∈m):TK l m=true:=by
 induction m with
 | nil=>simp at a
 | cons k m c=>
  simp only[TK,Bool.or_eq_true];rcases ML.1 a with rfl | a
  ·exact .inl (jw.2 b)
  ·exact .inr (c a)
theorem Ub{a:List Oper}{st:E}{l:List R0}{W:E}(h:Path P Γ ops gs a 0 st l W){p:R0}(d:p∈l):l[p.i]? =some p∧a[p.i]? =some p.o∧p.i<a.length:=by
 obtain⟨k,b,rfl⟩:=TO d;have f:=(De h).1;have c:=(De h).2.1;have g:l.length=a.length:=by rw[←c];simp
 have e:l[k].i=k:=by
  have:(l.map (·.i))[k]? =(List.range' 0 a.length)[k]? :=by rw[f]
  rw[TX,PT b,XM (by omega)] at this;simpa using this
 rw[e];refine⟨PT b, ?_,by omega⟩;rw[←c,TX,PT b];rfl
theorem bM{a:List Oper}{st:E}{l:List R0}{W:E}{an:List (List Nat)}(h:Path P Γ ops gs a 0 st l W)(g:TE an (l.map (·.log))=true){p q:R0}(b:p∈l)(c:q∈l)(j:p.i<q.i):
  (DX p.log q.log=true→p.i∈an.getD q.i [])∧jQ q.log p.log=false:=by
 have d:=X5.1 (nu5 _ g);have e:=(Ub h b).1;have f:=(Ub h c).1;rw[List.pairwise_iff_getElem] at d;have k:=(M9.1 e).1;have m:=(M9.1 f).1;have:=d p.i q.i k m j;rw[(M9.1 e).2,(M9.1 f).2] at this;have n:=((De h).2.2 p b).1;have o:=((De h).2.2 q c).1;rw[n,o] at this;exact this
theorem jz{p:R0}(f:SL P Γ ops p){id:Nat}(a:p.tH id):id∈p.log.wo:=by
 rcases f with ⟨_,b,_,_⟩ | ⟨_,e,s,r,h,_,i,b⟩
 ·rw[R0.tH,b] at a;simp at a
 ·rw[i];simp only[ni,h];have c:p.e.ow=e.ow∧p.e.cw=e.cw:=by
   rcases b with rfl | ⟨d,g,_,_,b⟩
   ·exact⟨rfl,rfl⟩
   ·rw[b];exact⟨rfl,rfl⟩
  rw[R0.tH,c.1,c.2] at a;rcases a with a | ⟨off,k,j⟩
  ·exact wZ _ a
  ·rw[j];exact Ss _ (MB.2 rfl)
theorem nvz{p:R0}(c:SL P Γ ops p){j:Nat}(a:j∈zX p.e.sv):j∈p.log.m:=by
 rcases c with ⟨_,b,_,_⟩ | ⟨_,e,s,r,f,_,h,b⟩
 ·rw[b] at a;simp[zX] at a
 ·rw[h];simp only[ni,f];rcases b with rfl | ⟨d,g,_,_,b⟩
  ·exact Ss _ a
  ·rw[b] at a;simp[zX] at a
theorem nhG{ow:List (Nat×Option xC)}{id:Nat}{x:Option xC}(h:P_ ow id=some x):(id,x)∈ow:=by
 induction ow with
 | nil=>simp[P_] at h
 | cons y l a=>
  obtain⟨i,c⟩:=y;simp only[P_] at h;split at h
  ·rename_i b;subst b;simp only[Y] at h;subst h;exact MQ ..
  ·exact MI _ (a h)
theorem nq2{p:R0}(f:SL P Γ ops p){id:Nat}{c:xC}(a:(id,some c)∈p.e.ow):id∈p.log.m∧∀j∈c4 c,j∈p.log.m:=by
 rcases f with ⟨_,b,_,_⟩ | ⟨_,e,s,r,h,_,i,b⟩
 ·rw[b] at a;simp at a
 ·rw[i];simp only[ni,h];have k:p.e.ow=e.ow:=by
   rcases b with rfl | ⟨d,g,_,_,b⟩
   ·rfl
   ·rw[b]
  rw[k] at a;unfold nut;constructor
  ·exact wZ _ (wZ _ (PQ.2 ⟨_,a,MQ ..⟩))
  ·intro j l;exact wZ _ (wZ _ (PQ.2 ⟨_,a,MI _ l⟩))
theorem nF4{p:R0}(f:SL P Γ ops p){i off:Nat}{c:List X}(b:p.e.cw=some (i,off,c)):∀j∈PD c,j∈p.log.m:=by
 rcases f with ⟨_,a,_,_⟩ | ⟨_,e,s,r,h,_,k,a⟩
 ·rw[a] at b;simp at b
 ·rw[k];simp only[ni,h];have l:p.e.cw=e.cw:=by
   rcases a with rfl | ⟨d,g,_,_,a⟩
   ·rfl
   ·rw[a]
  rw[l] at b;intro j n;unfold nut;refine wZ _ (Ss _ ?_);rw[b];exact n
theorem nm4(a b:List X):PD (a++b)=PD a++PD b:=by
 induction a with
 | nil=>rfl
 | cons x a c=>simp[PD,c]
theorem nwY{a:List X}{n j:Nat}(h:j∈PD (a.take n)):j∈PD a:=by have:=YB n a;rw[←this,nm4];exact Ss _ h
theorem nsn{a:List X}{n j:Nat}(h:j∈PD (a.drop n)):j∈PD a:=by have:=YB n a;rw[←this,nm4];exact wZ _ h
def UQ(a:List Nat)(L:Nat→Bool)(l:List R0)(j:Nat):Prop:=j / 64 ∉ a∨∃p∈l,L p.i=true∧j∈p.log.m
theorem nx_{d:List Nat}{L:Nat→Bool}{s:Nat} :∀(l b:List R0) (v:X),(∀p∈l,SL P Γ ops p)→(∀p∈l,p∈b)→(∀j∈zX v,UQ d L b j)→∀j∈zX (EK L l s v),UQ d L b j
 | [],_,v,_,_,hv=>hv
 | p::l,b,v,hs,iX,hv=>by
  unfold EK;simp only[List.foldl_cons];refine nx_ l b _ (λq c=>hs q (MI _ c)) (λq c=>iX q (MI _ c)) ?_;intro j a;split at a
  ·rename_i e;unfold R0.f at a;split at a
   ·exact .inr ⟨p,iX p (MQ ..),e,nvz (hs p (MQ ..)) a⟩
   ·exact hv j a
  ·exact hv j a
def vW(a:List Nat)(L:Nat→Bool)(l:List R0)(id:Nat)(o:Option xC):Prop:=∀b,o=some b→UQ a L l id∧∀j∈c4 b,UQ a L l j
theorem nh3{k:List Nat}{L:Nat→Bool}{id:Nat} :∀(l b:List R0) (v:Option xC),(∀p∈l,SL P Γ ops p)→(∀p∈l,p∈b)→vW k L b id v→vW k L b id (EF L l id v)
 | [],_,v,_,_,hv=>hv
 | p::l,b,v,hs,iX,hv=>by
  unfold EF;simp only[List.foldl_cons];refine nh3 l b _ (λq c=>hs q (MI _ c)) (λq c=>iX q (MI _ c)) ?_;split
  ·rename_i d;have m:=hs p (MQ ..);have e:=iX p (MQ ..);unfold R0.h;split
   ·rename_i x o
    rintro r rfl
    have:=nq2 m (nhG o);exact⟨.inr ⟨p,e,d,this.1⟩,λj a=> .inr ⟨p,e,d,this.2 j a⟩⟩
   ·unfold xD;split
    ·rename_i i off u s;split
     ·split
      ·rename_i t f
       rintro r n
       simp only[Y] at n;subst n;have g:=hv _ rfl;refine⟨g.1,λj a=>?_⟩;simp only[c4,fW,nm4,MC] at a;rcases a with a | a | a
       ·exact g.2 j (nwY a)
       ·exact .inr ⟨p,e,d,nF4 m s j a⟩
       ·exact g.2 j (nsn a)
      ·exact hv
     ·exact hv
    ·exact hv
  ·exact hv
theorem ngS{a b:CM}{s:Nat}(c:a.d=some s)(e:s∈b.rs):DX a b=true:=by have:TK (zn a.d) (b.rs++zn b.d)=true:=uy (i:=s) (by simp[c,zn]) (Ss _ e);simp[DX,this]
theorem nt7{a b:CM}{s:Nat}(c:a.d=some s)(e:b.d=some s):DX a b=true:=by have:TK (zn a.d) (b.rs++zn b.d)=true:=uy (i:=s) (by simp[c,zn]) (wZ _ (by simp[e,zn]));simp[DX,this]
theorem nCj{a b:CM}{s:Nat}(c:s∈a.rs)(e:b.d=some s):DX a b=true:=by have:TK a.rs (zn b.d)=true:=uy (i:=s) c (by simp[e,zn]);simp[DX,this]
theorem ne7{a b:CM}{s:Nat}(c:s∈a.wo)(d:s∈b.wo):DX a b=true:=by have:TK a.wo (b.ro++b.wo)=true:=uy (i:=s) c (wZ _ d);simp[DX,this]
theorem nAH{a b:CM}{s:Nat}(c:s∈a.wo)(d:s∈b.ro):DX a b=true:=by have:TK a.wo (b.ro++b.wo)=true:=uy (i:=s) c (Ss _ d);simp[DX,this]
theorem nDD{a b:CM}{s:Nat}(c:s∈a.ro)(d:s∈b.wo):DX a b=true:=by have:TK a.ro b.wo=true:=uy (i:=s) c d;simp[DX,this]
theorem no6{a b:CM}{j:Nat}(c:a.d=some (j / 64))(e:j∈b.m):DX a b=true:=by
 have:(b.m.any λi=>MH (i / 64) (j / 64))=true:=by simp only[List.any_eq_true];exact⟨j,e,T1 _⟩
 unfold DX;rw[c];simp only[this,Bool.or_true]
theorem nyS{a b:CM}{j:Nat}(c:b.d=some (j / 64))(e:j∈a.m):jQ b a=true:=by unfold jQ;rw[c];simp only[List.any_eq_true];exact⟨j,e,T1 _⟩
theorem nu2{p q:Nat→Bool} :∀(l:List Nat),(∀k∈l,q k=true→p k=true)→(∃k∈l,p k=true∧q k=false)→l.countP q<l.countP p
 | [],_,h=>by simp at h
 | x::l,h,⟨k,a,hp,hq⟩=>by
  have e:l.countP q≤l.countP p:=List.countP_mono_left (λy b c=>h y (MI _ b) c);simp only[List.countP_cons];rcases ML.1 a with rfl | a
  ·rw[hp,hq];simp;omega
  ·have:=nu2 l (λy b=>h y (MI _ b)) ⟨k,a,hp,hq⟩;have f:=h x (MQ ..);cases d:q x
   ·simp;omega
   ·rw[f d];simp;omega
def uj(ops:Array Oper)(a:Array Bool):Nat:=(List.range ops.size).countP λk=> !(a.getD k true)
def CL(w0:aau)(S:Own)(st:E)(l:List R0)(L:Nat→Bool)(a:Act)(w:aau):Prop:=∃b:E,Rel w0 S b a w∧b.n=st.n∧(∀s,b.get s=EK L l s (st.get s))∧∀id,b.obj id=EF L l id (st.obj id)
theorem ncl{α:Type}{step:R0→α→α}{T:R0→Prop}(e:∀p v,¬T p→step p v=v){L:Nat→Bool}{l:List R0}{p:R0}(v:α)
  (f:∀q∈l,T q→q.i<p.i→L q.i=true) (g:∀q∈l,T q→p.i<q.i→L q.i=false) (h:L p.i=false):
  l.foldl (λv q=>if L q.i then step q v else v) v=l.foldl (λv q=>if decide (q.i<p.i) then step q v else v) v:=by
 refine fold_congr step T e (L:=L) (L':=λk=>decide (k<p.i)) l v (λq b c=>?_);rcases Rj q.i p.i with d | a | j
 ·rw[f q b c d];simp[d]
 ·rw[a,h];simp
 ·rw[g q b c j];simp;omega
theorem Sn{o:Oper}{d:Nat} :∀ {l:List Oper},o∈l→o.dst=some d→d∈oK l
 | [],a,_=>by simp at a
 | x::r,a,C8=>by
  simp only[oK];rcases ML.1 a with rfl | a
  ·rw[C8];exact MQ ..
  ·split
   ·exact MI _ (Sn a C8)
   ·exact Sn a C8
theorem Y3(eW:qk P Γ){st:E}{l:List R0}{W:E}(y:Path P Γ ops gs ops.toList 0 st l W)(Dk:TE (dU ops.toList []) (l.map (·.log))=true)
  (bR:HQ (oK ops.toList) st=true) {L:Nat→Bool} (Cc:∀k,L k=true→qp ops L k) {p:R0} (u:p∈l) (hg:qp ops L p.i) (G:L p.i=false)
  {Q:Exit→Act→aau→Prop} {a:Act} {w:aau} (EA:CL w0 S st l L a w) {K:Act→aau→Prop} (hK:∀a' w',CL w0 S st l (λk=>L k || k==p.i) a' w'→K a' w'):wpOp P ops Q p.i K a w:=by
 obtain⟨m,H,R,AQ,iT⟩:=EA;have I:=nnP y;have jr:=nea y;have Z:=I p u;have Jh:=noY Cc ops.toList [] [] rfl rfl (by simp);have J:∀q∈l,q.log.d=q.o.dst:=λq c=>((De y).2.2 q c).2;have hA:∀q∈l,q.i<p.i→DX q.log p.log=true→L q.i=true:=λq c t U=>Jh p.i q.i hg ((bM y Dk c u t).1 U);have V:∀q∈l,p.i<q.i→DX p.log q.log=true→L q.i=false:=by
  intro q c t U;cases N:L q.i
  ·rfl
  ·have:=Jh q.i p.i (Cc _ N) ((bM y Dk u c t).1 U);rw[G] at this;cases this
 obtain⟨M5,M6,Mi⟩:=jr.1 p u;have dJ:∀s∈p.log.rs,m.get s=p.st.get s:=by intro s B;rw[AQ s,M5 s];refine ncl (step:=λq v=>R0.f q s v) (T:=λq=>q.tF s) (λq v h=>R0.I9 h v) _ (λq c C t=>hA q c t (ngS ((J q c).trans C) B)) (λq c C t=>V q c t (nCj B ((J q c).trans C))) G
 have aQ:∀id∈p.log.ro,m.obj id=p.st.obj id:=by intro id B;rw[iT id,M6 id];refine ncl (step:=λq v=>R0.h q id v) (T:=λq=>q.tH id) (λq v h=>R0.Je h v) _ (λq c C t=>hA q c t (nAH (jz (I q c) C) B)) (λq c C t=>V q c t (nDD B (jz (I q c) C))) G
 have ahB:(l.map (·.i)).Nodup:=by rw[(De y).1];exact List.nodup_range'
 have JT:l.Pairwise (λa b=>a.i<b.i):=by have:=List.pairwise_lt_range' (s:=0) (n:=ops.toList.length);rw[←(De y).1] at this;exact X5.1 this
 have ID:∀s,EK (λk=>L k || k==p.i) l s (st.get s)=p.f s (m.get s):=by intro s;rw[AQ s];exact yY (λq v=>R0.f q s v) (λq=>q.tF s) (λq v h=>R0.I9 h v) (L:=L) (q:=p) l (st.get s) u ahB G JT (λq c t h1 h2=>V q c t (nt7 ((J p u).trans h1) ((J q c).trans h2)))
 have IE:∀id,EF (λk=>L k || k==p.i) l id (st.obj id)=p.h id (m.obj id):=by intro id;rw[iT id];exact yY (λq v=>R0.h q id v) (λq=>q.tH id) (λq v h=>R0.Je h v) (L:=L) (q:=p) l (st.obj id) u ahB G JT (λq c t h1 h2=>V q c t (ne7 (jz Z h1) (jz (I q c) h2)))
 have LG:ops[p.i]? =some p.o:=by rw[←RV];exact (Ub y u).2.1
 have MZ:∀d,p.o.dst=some d→d∈oK ops.toList:=by intro d x;have D:p.o∈ops.toList:=List.mem_of_getElem? (Ub y u).2.1;exact Sn D x
 have Ie:wL ops p.o ⊆ p.log.rs:=by
  rcases Z with ⟨_,_,_,adt⟩ | ⟨_,e,s,r,X,_,adt,_⟩
  ·rw[adt];exact λ_ h=>h
  ·rw[adt];simp only[ni,X];exact λ_ h=>Ss _ h
 have Bg:yG ops m p.o=yG ops p.st p.o:=by
  unfold yG;split
  ·rfl
  ·rename_i j want M7;split
   ·rfl
   ·rename_i s B;rw[dJ s (Ie (by unfold wL;simp[M7,B,zn]))]
 unfold wpOp;rw[LG];simp only;have hw:yG ops m p.o=some true∨yG ops m p.o=some false:=by
  rw[Bg];rcases Z with ⟨h,_⟩ | ⟨h,_⟩
  ·exact .inr h
  ·exact .inl h
 rcases Z with ⟨Y,z,afT,adt⟩ | ⟨Y,e,s,r,X,afT,adt,z⟩
 ·rw[←Bg] at Y;rw[if_neg (by rw[nyJ H Y];simp)];refine hK _ _ ⟨m.skip p.o.dst, ?_,R,λs=>?_,λid=>?_⟩
  ·have Ir:∀d,p.o.dst=some d→sP m.n d:=by intro d x;simp only[E.skip,E.apply,cI] at afT;have:=afT.2;rw[x] at this;have:=CV this;rw[R,←Mi];exact this
   obtain⟨β,φ,U⟩:=H.core;exact L8 (e:= {sv:= .undef}) H Ir H.kept ⟨β,φ,U,by simp[O]⟩
  ·rw[ID s];unfold E.skip;rw[←z];exact (Kk m p s)
  ·rw[IE id];unfold E.skip;rw[←z];exact (yb m p id)
 ·rw[←Bg] at Y;rw[if_pos (nyJ H Y)];refine .inl ?_;have LO:∀k∈s,m.get k=p.st.get k:=λk A=>dJ k (by rw[adt];simp only[ni,X];exact wZ _ A);have BQ:∀k∈r,m.obj k=p.st.obj k:=λk A=>aQ k (by rw[adt];simp only[ni,X];exact wZ _ A);have bH:=M.lI (evalOp P Γ p.o) X LO BQ;simp only[E.apply,cI] at afT;have Ct:=nEX eW H (M.dX _ bH) afT.1.2 (λd x=>by have:=afT.2;rw[x] at this;have:=CV this;rw[R,←Mi];exact this) (λ_ d x=>?_) Q
  ·refine Oper.wp_mono ?_ Ct
   rintro a' w' ⟨v,rfl,fE⟩
   rcases z with z | ⟨d,g,x,fR,z⟩
   ·refine hK _ _ ⟨m.apply p.o.dst e,fE,R,λs=>?_,λid=>?_⟩
    ·rw[ID s,←z];exact Kk m p s
    ·rw[IE id,←z];exact yb m p id
   ·have hb:(m.apply p.o.dst e).get d= .bool g:=by rw[x,apply_get,fR];simp[L9]
    have Iw:=fE.Bp hb;refine hK _ _ ⟨(m.apply p.o.dst e).reset.gB d g,fE.reset.gB Iw,R,λs=>?_,λid=>?_⟩
    ·rw[ID s];exact nCz x p rfl z s
    ·rw[IE id];exact nD6 p rfl z id
  ·have key:∀j,UQ (oK ops.toList) L l j→j / 64≠d:=by
    rintro j (F | ⟨q,c,N,F⟩) rfl
    ·exact F (MZ _ x)
    ·rcases Rj q.i p.i with t | heq | GQ
     ·have:=(bM y Dk c u t).2;rw[nyS ((J p u).trans x) F] at this;cases this
     ·rw[heq,G] at N;cases N
     ·have:=V q c GQ (no6 ((J p u).trans x) F);rw[this] at N;cases N
   have K7:=λd' Jo=>nzp bR d' Jo;constructor
   ·intro i j F;rw[AQ i] at F;refine key j (nx_ l l _ I (λ_ h=>h) (λk A=> .inl (λD=>?_)) j F);exact (K7 _ D).slot i k A rfl
   ·intro j ob jV;rw[iT j] at jV;have h0:vW (oK ops.toList) L l j (st.obj j):=by intro Gg kE;refine⟨.inl (λD=>((K7 _ D).obj j Gg kE).1 rfl),λk A=> .inl (λD=>((K7 _ D).obj j Gg kE).2 k A rfl)⟩
    have:=nh3 l l _ I (λ_ h=>h) h0 ob jV;exact⟨key j this.1,λk A=>key k (this.2 k A)⟩
theorem nl9(Y:qk P Γ){st:E}{l:List R0}{W:E}(u:Path P Γ ops gs ops.toList 0 st l W)(Z:TE (dU ops.toList []) (l.map (·.log))=true)
  (bR:HQ (oK ops.toList) st=true) (M0:eB ops.toList 0=true) {Q:Exit→Act→aau→Prop} (hQ:∀a w,Rel w0 S W a w→Q .normal a w):
  ∀(c:Nat) (b:Array Bool) (a:Act) (w:aau),b.size=ops.size→(∀k,b.getD k false=true→qp ops (λk=>b.getD k false) k)→uj ops b≤c→
   CL w0 S st l (λk=>b.getD k false) a w→wpAny P .any ops Q c b a w:=by
 have A:=nea u;have O:l.length=ops.size:=by
  have:(l.map (·.o)).length=ops.toList.length:=by rw[(De u).2.1]
  simpa using this
 have j:∀(b:Array Bool) (a:Act) (w:aau),b.size=ops.size→Region.ready .any ops b=[]→CL w0 S st l (λk=>b.getD k false) a w→Q .normal a w:=by
  intro b a w y n ⟨R,z,T,AQ,iT⟩;have Jg:∀k,k<ops.size→b.getD k false=true:=by
   intro k
   induction k using Nat.strongRecOn with
   | ind k H=>
    intro d;cases MO:b.getD k false
    ·have:k∈Region.ready .any ops b:=by
      rw[mem_ready];refine⟨?_,ops[k],T2 d,λe r t=>?_⟩
      ·rw[←MO];simp only[M8,T2 (show k<b.size by omega),Option.getD_some]
      ·have:=naU ops.toList 0 M0 k ops[k] (by simp[RV,d]) e r t;exact H e.on (by omega) (by omega)
     rw[n] at this;cases this
    ·rfl
  refine hQ a w ?_;have U:∀q∈l,b.getD q.i false=true:=by intro q g;have:=(Ub u g).2.2;exact Jg q.i (by simpa using this)
  have e1:R.get=W.get:=by funext s;rw[AQ s,A.2.1 s];exact fold_congr (λq v=>R0.f q s v) (λ_=>True) (λ_ _ h=>absurd trivial h) (L:=λk=>b.getD k false) (L':=λ_=>true) l _ (λq g _=>U q g)
  have e2:R.obj=W.obj:=by funext s;rw[iT s,A.2.2.1 s];exact fold_congr (λq v=>R0.h q s v) (λ_=>True) (λ_ _ h=>absurd trivial h) (L:=λk=>b.getD k false) (L':=λ_=>true) l _ (λq g _=>U q g)
  obtain⟨β,φ,B⟩:=z.core;refine⟨?_,λx I=>by rw[A.2.2.2,←T];exact z.fx x I,z.defers,z.kept,β,φ, ?_⟩
  ·rw[z.size,T,A.2.2.2]
  ·rw[←e1,←e2];exact B
 intro c
 induction c with
 | zero=>
  intro b a w y J J0 C;have n:Region.ready .any ops b=[]:=by
   cases M:Region.ready .any ops b with
   | nil=>rfl
   | cons x xs=>
    have I:x∈Region.ready .any ops b:=by rw[M];exact MQ ..
    obtain⟨D,o,adu,_⟩:=mem_ready.1 I;have F:=(Rg.1 adu).1;have:0<uj ops b:=by unfold uj;rw[List.countP_pos_iff];exact⟨x,List.mem_range.2 F,by simp only[D];rfl⟩
    omega
  exact⟨n,j b a w y n C⟩
 | succ c H=>
  intro b a w y J J0 C;refine⟨λn=>j b a w y n C,λi hi=>?_⟩;obtain⟨D,o,adu,K5⟩:=mem_ready.1 hi;have F:=(Rg.1 adu).1;have V:i<l.length:=by omega
  have G:l[i].i=i:=by
   have:(l.map (·.i))[i]? =(List.range' 0 ops.toList.length)[i]? :=by rw[(De u).1]
   rw[TX,PT V,XM (by simpa using F)] at this;simpa using this
  have ahC:∀k,(b.setIfInBounds i true).getD k false=(b.getD k false || k==i):=by
   intro k;simp only[M8,T5];by_cases d:i=k
   ·subst d;simp[show i<b.size by omega]
   ·have:(k==i)=false:=by simpa using λh=>d h.symm
    simp[d,this]
  have MN:b.getD i false=false:=by rw[←D];simp only[M8,T2 (show i<b.size by omega),Option.getD_some]
  have X:qp ops (λk=>b.getD k false) i:=by intro N m e r t;rw[adu] at m;injection m with m;subst m;exact K5 e r t
  have:=Y3 (w0:=w0) (S:=S) (Q:=Q) Y u Z bR J (p:=l[i]) (List.getElem_mem V) (by rw[G];exact X) (by rw[G];exact MN) C
   (K:=wpAny P .any ops Q c (b.setIfInBounds i true)) (λa' w' B=>?_)
  ·rw[G] at this;exact this
  ·refine H _ a' w' (by simpa using y) (λk d=>?_) ?_ ?_
   ·intro N m e r t;show (b.setIfInBounds i true).getD e.on false=true;rw[ahC] at d ⊢;simp only[Bool.or_eq_true,beq_iff_eq] at d ⊢;rcases d with d | rfl
    ·exact .inl (J k d N m e r t)
    ·exact .inl (X N m e r t)
   ·have:uj ops (b.setIfInBounds i true)<uj ops b:=by
     unfold uj;refine nu2 _ (λk d g=>?_) ⟨i,List.mem_range.2 F,by simp only[D];rfl, ?_⟩
     ·simp only[Pe,M8,T5] at g ⊢;split at g
      ·split at g<;>simp at g
      ·exact g
     ·simp[T5,show i<b.size by omega]
    omega
   ·have e:(λk=>(b.setIfInBounds i true).getD k false)=(λk=>b.getD k false || k==i):=funext ahC;rw[e];rw[G] at B;exact B
theorem Rel.drew{st:E}{a:Act}{w:aau}(c:Rel w0 S st a w):Rel w0 S st a {w with drawn:=w.drawn+1} :=by
 obtain⟨β,φ,d⟩:=c.core;refine⟨c.size,c.fx,c.defers,⟨c.kept.os,c.kept.tape,c.kept.output,c.kept.size,c.kept.block⟩,β,φ, ?_⟩;exact d.step (h':=st.obj) (β':=β) (φ':=φ) (w':= {w with drawn:=w.drawn+1}) (λ_=>False) (NV _) (λ_ _ _=>rfl) (λb e=> .inl e) (λ_ _ _ h=>h) (λ_ _=>⟨rfl,rfl⟩)
  (λid o f=> .inl ⟨λh=>h,f,rfl,λ_ _ h=>h,λ_ _=>rfl⟩) d.sep
theorem nBC(i:qk P Γ){st:E}{a:Act}{w:aau}{id:Nat}{b:Bool}{Q:Exit→Act→aau→Prop}(j:Rel w0 S st a w)(h:(fw P Γ ops b st).ok=true)
  (d:∀e w',Rel w0 S (fw P Γ ops b st) e w'→Q .normal e w'):(Code.region id ops b).wp P Q a w:=by
 cases b with
 | false=>exact nkS i j h d
 | true=>
  unfold fw at h d;simp only[H] at h d;cases c:HQ (oK ops.toList) st && eB ops.toList 0 && P.follows .mixedOrders
  ·simp[c,om] at h
  ·simp only[c,H] at h d;simp only[Bl] at c;obtain⟨l,W,m,_,n,r⟩:=NL _ _ _ _ h;refine wp_region_any c.2 (nl9 i m (by simpa using n) c.1.1 c.1.2 (λe w' t=>d e w' (r w0 S e w' t)) _ _ a _ (by simp) (λk g=>?_) ?_ ?_)
   ·rw[M8,Vb] at g;split at g<;>simp at g
   ·unfold uj;have:=List.countP_le_length (p:=λk=> !((Nj ops.size false).getD k true)) (l:=List.range ops.size);simpa using this
   ·refine⟨st,j.drew,rfl,λs=>?_,λo=>?_⟩
    ·refine (Xe (λq v=>R0.f q s v) (L:=λk=>(Nj ops.size false).getD k false) l (st.get s) (λq _=>?_)).symm;rw[M8,Vb];split<;>rfl
    ·refine (Xe (λq v=>R0.h q o v) (L:=λk=>(Nj ops.size false).getD k false) l (st.obj o) (λq _=>?_)).symm;rw[M8,Vb];split<;>rfl
end
section
variable {P:aat} {Γ:Ctx} {w0:aau} {S:Own}
theorem zg{st:E}{c:aav}{b:Bool} :(st.dA c b).ok=st.ok:=by unfold E.dA;split<;>rfl
theorem nev{st:E}{c:aav}{b:Bool}(h:st.ok=true):j9 st (st.dA c b):=by
 unfold E.dA;split
 ·exact Z4 h
 ·exact j9.refl h
theorem Ph{st:E}{a:Act}{w:aau}{c:aav}{b:Bool}(d:Rel w0 S st a w)(e:a.eval c= .bool b):Rel w0 S (st.dA c b) a w:=by
 unfold E.dA;split
 ·exact d.gB e
 ·exact d
theorem Hf{st:E}{a:Act}{w:aau}(b:Rel w0 S st a w)(c:aav):∃β,O w (oa st.obj β) β (ev st c) (a.eval c):=by
 obtain⟨β,φ,d⟩:=b.core;refine⟨β, ?_⟩;cases c with
 | tmp t=>exact d.cx t
 | const v=>exact B6 v
 | global g=>simp[ev,O]
 | func g=>simp[ev,O]
theorem nk0{st:E}{a:Act}{w:aau}(d:Rel w0 S st a w){c:aav}{t:Bool}(h:ev st c= .kb t):a.eval c= .bool t:=by obtain⟨β,b⟩:=Hf d c;rw[h] at b;simpa only[O] using b
theorem nm_{st:E}{a:Act}{w:aau}(d:Rel w0 S st a w){c:aav}{t:Bool}(h:ev st c= .bool t):a.eval c= .bool t:=by obtain⟨β,b⟩:=Hf d c;rw[h] at b;simpa only[O] using b
theorem Ul:∀(c:Code) (st:E),(exec P Γ c st).ok=true→j9 st (exec P Γ c st)
 | .skip,st,h=>by simp only[exec] at h ⊢;exact j9.refl h
 | .region id ops draw,st,h=>by simp only[exec] at h ⊢;exact niq h
 | .seq a b,st,h=>by simp only[exec] at h ⊢;have e:=Ul b _ h;exact (Ul a _ e.ok).trans e
 | .cond c a b,st,h=>by
  simp only[exec] at h ⊢;split
  ·rename_i t d;simp only[d] at h;cases t with
   | true=>simp only[H] at h ⊢;exact Ul a _ h
   | false=>simp only[J] at h ⊢;exact Ul b _ h
  ·rename_i g d;simp only[d] at h;have f:=E7 h;have i:st.ok=true:=by
    cases g with
    | true=>
     have:=(Ul a _ (f.1 rfl)).ok;rw[zg] at this;exact this
    | false=>
     have:=(Ul b _ (f.2 rfl)).ok;rw[zg] at this;exact this
   exact noX i h
  ·rename_i j e;exfalso;revert h;split
   ·rename_i t d;exact absurd d (j t)
   ·rename_i g d;exact absurd d (e g)
   ·simp[om]
 | .block ..,st,h=>by simp[exec,om] at h
 | .loop ..,st,h=>by simp[exec,om] at h
 | .exit ..,st,h=>by simp[exec,om] at h
 | .goto ..,st,h=>by simp[exec,om] at h
 | .label ..,st,h=>by simp[exec,om] at h
 | .ret,st,h=>by simp[exec,om] at h
theorem Eu(d:qk P Γ):∀(c:Code) (st:E) (a:Act) (w:aau) (Q:Exit→Act→aau→Prop),Rel w0 S st a w→(exec P Γ c st).ok=true→
  (∀b w',Rel w0 S (exec P Γ c st) b w'→Q .normal b w')→c.wp P Q a w
 | .skip,st,a,w,Q,hR,h,hQ=>by simp only[exec] at h hQ;exact wp_skip (hQ a w hR)
 | .region id ops draw,st,a,w,Q,hR,h,hQ=>by simp only[exec] at h hQ;exact nBC d hR h hQ
 | .seq x y,st,a,w,Q,hR,h,hQ=>by simp only[exec] at h hQ;have n:=Ul y _ h;refine wp_seq (Eu d x st a w _ hR n.ok (λb w' e=>?_));exact Eu d y _ b w' Q e h hQ
 | .cond c x y,st,a,w,Q,hR,h,hQ=>by
  simp only[exec] at h hQ;split at h
  ·rename_i t f;simp only[f] at hQ;refine wp_cond (nk0 hR f) ?_;cases t with
   | true=>simp only[H] at h hQ;exact Eu d x st a w Q hR h hQ
   | false=>simp only[J] at h hQ;exact Eu d y st a w Q hR h hQ
  ·rename_i g f;simp only[f] at hQ;have m:=E7 h;have k:=nm_ hR f;refine wp_cond k ?_;cases g with
   | true=>
    have i:=m.1 rfl;have j:=Ul x _ i;refine Eu d x _ a w Q (Ph hR.reset k) i (λb w' e=>hQ b w' ?_);have l:st.reset.ok=true:=by have:=j.ok;rwa[zg] at this
    exact NF (λ_=>⟨(nev l).trans j,e⟩) (by simp) h
   | false=>
    have i:=m.2 rfl;have j:=Ul y _ i;refine Eu d y _ a w Q (Ph hR.reset k) i (λb w' e=>hQ b w' ?_);have l:st.reset.ok=true:=by have:=j.ok;rwa[zg] at this
    exact NF (by simp) (λ_=>⟨(nev l).trans j,e⟩) h
  ·simp[om] at h
 | .block ..,st,_,_,_,_,h,_=>by simp[exec,om] at h
 | .loop ..,st,_,_,_,_,h,_=>by simp[exec,om] at h
 | .rangeFunc ..,st,_,_,_,_,h,_=>by simp[exec,om] at h
 | .exit ..,st,_,_,_,_,h,_=>by simp[exec,om] at h
 | .scope ..,st,_,_,_,_,h,_=>by simp[exec,om] at h
 | .goto ..,st,_,_,_,_,h,_=>by simp[exec,om] at h
 | .label ..,st,_,_,_,_,h,_=>by simp[exec,om] at h
 | .ret,st,_,_,_,_,h,_=>by simp[exec,om] at h
 | .refuse ..,st,_,_,_,_,h,_=>by simp[exec,om] at h
abbrev Px:=List (Nat×xC×Option Nat)
def tM:Px→Nat→Option (xC×Option Nat)
 | [],_=>none
 | (i,x)::l,j=>if j=i then some x else tM l j
def L.jD(β:L)(R:Px):L:=
 ⟨β.cY,λj=>match tM R j with | some (_,some id)=>β.val id | some (_,none)=> .slice none 0 0 | none=>β.val j,β.hX,
  λj=>match tM R j with | some (_,some id)=>β.nb id | some (_,none)=>[] | none=>β.nb j⟩
def nnB(o:xC):Prop:=(∃t e,o= .row t e [] false true)∨(∃t e a,o= .deep t e a [] none)
def ZX(o:xC):Prop:=(∃t e r a u,o= .row t e r a u)∨(∃t e b r,o= .deep t e b r none)
def de(φ:Nat→List Nat)(R:Px)(j:Nat):List Nat:=
 match tM R j with | some (_,some id)=>φ id | some (_,none)=>[] | none=>φ j
def vm(h:Nat→Option xC)(x:Nat×xC×Option Nat):Prop:=(∃id,ZX x.2.1∧x.2.2=some id∧h id=some x.2.1)∨(nnB x.2.1∧x.2.2=none)
theorem nxG{w:aau}{d av':Nat→Prop}{β:L}{R:Px} :∀(a:List X) (l:List aaw),kV a=true→Z w d β a l→Z w av' (β.jD R) a l
 | [],l,_,h=>by simpa only[Z] using h
 | s::a,l,hp,h=>by
  simp only[Z] at h ⊢;obtain⟨v,b,rfl,c,e⟩:=h;cases s with
  | ptr id off=>
   refine⟨v,b,rfl, ?_,nxG a b hp e⟩;simp only[O] at c ⊢;exact c
  | _=>simp[kV] at hp
theorem nnn{i:List (Nat×xC)}{f:Nat→X}{β:L}{φ:Nat→List Nat}{tm:Array aaw}{w:aau}(p:V w0 S f (e6 i) β φ tm w){ck:Sl}{nid:Nat}{s:X}{v:aaw}{av':Nat→Prop}
  (a:O w (oa (e6 i) β) β s v) (y:∀b,av' b→oa (e6 i) β b) {R:Px} (h:∀x∈(Yq P i ck nid s).2,tM R x.1=some x.2):
  O w av' (β.jD R) (Yq P i ck nid s).1 v∧∀x∈(Yq P i ck nid s).2,vm (e6 i) x:=by
 have c:∀k,zX k=[]→O w (oa (e6 i) β) β k v→O w av' (β.jD R) k v:=λk z A=>
  O.mono (NV _) (λ_ _ _=>rfl) (λb B=> .inl (y b B)) k v A (by rw[z];simp)
 cases s with
 | own id=>
  simp only[Yq] at h ⊢;simp only[O] at a;cases j:e6 i id with
  | none=>simp[O]
  | some o=>
   cases o with
   | box=>simp[O]
   | row t e r fz u=>
    simp only[j] at h;simp only;cases ck with
    | eV=>simp[O]
    | AH=>
     have:=h _ (MB.2 rfl);simp only at this;refine⟨?_, ?_⟩
     ·simp only[O,L.jD,this];exact a
     ·intro x d;rw[MB] at d;subst d;exact .inl ⟨id,.inl ⟨t,e,r,fz,u,rfl⟩,rfl,j⟩
    | own=>
     have:=h _ (MB.2 rfl);simp only at this;refine⟨?_, ?_⟩
     ·simp only[O,L.jD,this];exact a
     ·intro x d;rw[MB] at d;subst d;exact .inl ⟨id,.inl ⟨t,e,r,fz,u,rfl⟩,rfl,j⟩
    | deep=>
     have:=h _ (MB.2 rfl);simp only at this;refine⟨?_, ?_⟩
     ·simp only[O,L.jD,this];exact a
     ·intro x d;rw[MB] at d;subst d;exact .inl ⟨id,.inl ⟨t,e,r,fz,u,rfl⟩,rfl,j⟩
   | deep t e ts r kD=>
    cases kD with
    | some q=>simp[O]
    | none=>
    simp only[j] at h;simp only;cases ck with
    | eV=>simp[O]
    | AH=>
     have:=h _ (MB.2 rfl);simp only at this;refine⟨?_, ?_⟩
     ·simp only[O,L.jD,this];exact a
     ·intro x d;rw[MB] at d;subst d;exact .inl ⟨id,.inr ⟨t,e,ts,r,rfl⟩,rfl,j⟩
    | own=>
     have:=h _ (MB.2 rfl);simp only at this;refine⟨?_, ?_⟩
     ·simp only[O,L.jD,this];exact a
     ·intro x d;rw[MB] at d;subst d;exact .inl ⟨id,.inr ⟨t,e,ts,r,rfl⟩,rfl,j⟩
    | deep=>
     have:=h _ (MB.2 rfl);simp only at this;refine⟨?_, ?_⟩
     ·simp only[O,L.jD,this];exact a
     ·intro x d;rw[MB] at d;subst d;exact .inl ⟨id,.inr ⟨t,e,ts,r,rfl⟩,rfl,j⟩
   | eV e r=>
    simp only;refine⟨?_,by simp⟩;have n:=(p.aC id _ j).1;rw[←a.1] at n;exact c _ rfl n
 | nil=>
  simp only[Yq] at h ⊢;simp only[O] at a;cases ck with
  | AH=>
   refine⟨?_,by simp⟩;simp only[O];exact a
  | own t=>
   simp only at h ⊢;cases m:W4 P 16 t with
   | none=>simp[O]
   | some e=>
    simp only[m] at h;have:=h _ (MB.2 rfl);simp only at this;refine⟨?_, ?_⟩
    ·simp only[O,L.jD,this];rw[a];exact⟨rfl,rfl⟩
    ·intro x d;rw[MB] at d;subst d;exact .inr ⟨.inl ⟨t,e,rfl⟩,rfl⟩
  | deep t ts=>
   simp only at h ⊢;cases m:W4 P 16 t with
   | none=>simp[O]
   | some e=>
    simp only[m] at h;have:=h _ (MB.2 rfl);simp only at this;refine⟨?_, ?_⟩
    ·simp only[O,L.jD,this];rw[a];exact⟨rfl,rfl⟩
    ·intro x d;rw[MB] at d;subst d;exact .inr ⟨.inr ⟨t,e,ts,rfl⟩,rfl⟩
  | eV t=>
   simp only at h ⊢;cases m:W4 P 16 t with
   | none=>simp[O]
   | some e=>
    refine⟨?_,by simp⟩;simp only[O,Z8];exact⟨[],⟨[],none,0,0,rfl,a,rfl,NV _,Nat.zero_le _,.inl ⟨rfl,rfl⟩⟩,by simp⟩
 | kb b=>
  simp only[Yq];refine⟨?_,by simp⟩;simp only[O] at a ⊢;exact a
 | agg=>simp[Yq,O]
 | Es=>simp[Yq,O]
 | eS=>simp[Yq,O]
 | GH=>simp[Yq,O]
 | GL g cs=>
  simp only[Yq];cases i:kV cs
  ·simp[O]
  ·simp only[H];refine⟨?_,by simp⟩;simp only[O] at a ⊢;obtain⟨l,rfl,j⟩:=a;exact⟨l,rfl,nxG cs l i j⟩
 | ptr id off=>
  simp only[Yq];refine⟨?_,by simp⟩;simp only[O] at a ⊢;exact a
 | ga=>exact⟨c _ rfl a,by simp[Yq]⟩
 | undef=>exact⟨c _ rfl a,by simp[Yq]⟩
 | int=>exact⟨c _ rfl a,by simp[Yq]⟩
 | bool=>exact⟨c _ rfl a,by simp[Yq]⟩
 | str=>exact⟨c _ rfl a,by simp[Yq]⟩
 | sl=>exact⟨c _ rfl a,by simp[Yq]⟩
 | iD=>exact⟨c _ rfl a,by simp[Yq]⟩
theorem nL7{c:List (Nat×xC)}{f:Nat→X}{β:L}{φ:Nat→List Nat}{tm:Array aaw}{w:aau}(g:V w0 S f (e6 c) β φ tm w){d:List (Nat×Sl)}{b:Nat}{av':Nat→Prop}
  (h:∀b,av' b→oa (e6 c) β b) {R:Px} :∀(l:List X) (k:Nat) (e:List aaw),Z w (oa (e6 c) β) β l e→(∀x∈(n8 P c d b k l).2,tM R x.1=some x.2)→
  Z w av' (β.jD R) (n8 P c d b k l).1 e∧∀x∈(n8 P c d b k l).2,vm (e6 c) x
 | [],k,e,hl,_=>by simp only[n8,Z] at hl ⊢;exact⟨hl,by simp⟩
 | s::l,k,e,hl,hR=>by
  simp only[Z] at hl;obtain⟨v,i,rfl,n,o⟩:=hl;simp only[n8] at hR ⊢;have j:=nnn (P:=P) g (ck:=Tt d k) (nid:=Uc (20000+b*4) k) n h (R:=R) (λx a=>hR x (Ss _ a));have m:=nL7 g h l (k+1) i o (λx a=>hR x (wZ _ a));refine⟨?_,λx a=>?_⟩
  ·simp only[Z];exact⟨v,i,rfl,j.1,m.1⟩
  ·rcases MC.1 a with a | a
   ·exact j.2 x a
   ·exact m.2 x a
end
set_option linter.unusedVariables false
set_option linter.unusedSimpArgs false
section
variable {P:aat} {Γ:Ctx} {w0:aau} {S:Own}
theorem Qv{l:List Nat}(h:C2 l=true):l.Nodup:=by
 induction l with
 | nil=>simp
 | cons i l a=>
  simp only[C2,Bl,Pe] at h;rw[M1];refine⟨λb=>?_,a h.2⟩;rw[jw.2 b] at h;simp at h
theorem nzC{R:Px}{j:Nat}{x:xC×Option Nat}(h:tM R j=some x):(j,x)∈R:=by
 induction R with
 | nil=>simp[tM] at h
 | cons y l a=>
  obtain⟨i,z⟩:=y;simp only[tM] at h;split at h
  ·rename_i b;injection h with h;subst h b;exact MQ ..
  ·exact MI _ (a h)
theorem nBn{R:Px}{x:Nat×xC×Option Nat}(a:x∈R)(b:(R.map (·.1)).Nodup):tM R x.1=some x.2:=by
 induction R with
 | nil=>simp at a
 | cons y l c=>
  obtain⟨i,z⟩:=y;simp only[NG,M1] at b;simp only[tM];rcases ML.1 a with rfl | a
  ·simp
  ·have:x.1≠i:=λe=>b.1 (e ▸ Rh a);rw[if_neg this];exact c a b.2
theorem np4{R:Px}{j:Nat}(h:j ∉ R.map (·.1)):tM R j=none:=by
 induction R with
 | nil=>rfl
 | cons y l a=>
  obtain⟨i,z⟩:=y;simp only[NG,ML,not_or] at h;simp only[tM];rw[if_neg h.1];exact a h.2
theorem nlg{R:Px}(h:(Oh R).Nodup){x y:Nat×xC×Option Nat}{id:Nat}(b:x∈R)(a:y∈R)(c:x.2.2=some id)(d:y.2.2=some id):x=y:=by
 have mem:∀(R:Px) (z:Nat×xC×Option Nat),z∈R→z.2.2=some id→id∈Oh R:=by
  intro R
  induction R with
  | nil=>simp
  | cons u l e=>
   obtain⟨i,o,f⟩:=u;intro z j g;rcases ML.1 j with rfl | m
   ·simp only at g;subst g;simp[Oh]
   ·have:=e z m g;cases f with
    | none=>simpa [Oh] using this
    | some k=>simp[Oh,this]
 induction R with
 | nil=>simp at b
 | cons u l e=>
  obtain⟨i,o,f⟩:=u;cases f with
  | none=>
   simp only[Oh] at h;rcases ML.1 b with rfl | b
   ·cases c
   ·rcases ML.1 a with rfl | a
    ·cases d
    ·exact e h b a
  | some k=>
   simp only[Oh,M1] at h;rcases ML.1 b with rfl | b
   ·simp only[Y] at c;rcases ML.1 a with rfl | a
    ·rfl
    ·exact absurd (c ▸ mem l y a d) h.1
   ·rcases ML.1 a with rfl | a
    ·simp only[Y] at d;exact absurd (d ▸ mem l x b c) h.1
    ·exact e h.2 b a
theorem niI{st:E}{i:Nat} :∀(l:List (Nat×Sl)),XH (OH P st l).1 i= .ga∨
  ∃ck,XH (OH P st l).1 i=(Yq P st.hp ck (Uc (10000+i) 0) (st.get i)).1∧∀x∈(Yq P st.hp ck (Uc (10000+i) 0) (st.get i)).2,x∈(OH P st l).2
 | []=> .inl rfl
 | (k,ck)::l=>by
  simp only[OH,XH];cases b:MH k i
  ·simp only[J];rcases niI l with h | ⟨c,d,e⟩
   ·exact .inl h
   ·exact .inr ⟨c,d,λx a=>wZ _ (e x a)⟩
  ·have:=Vs b;subst this;simp only[H];exact .inr ⟨ck,rfl,λx a=>Ss _ a⟩
theorem nq9{st:E}{x:Nat×xC×Option Nat} :∀(l:List (Nat×Sl)),x∈(OH P st l).2→∃i ck,x∈(Yq P st.hp ck (Uc (10000+i) 0) (st.get i)).2
 | [],h=>by simp[OH] at h
 | (k,ck)::l,h=>by
  simp only[OH] at h;rcases MC.1 h with h | h
  ·exact⟨k,ck,h⟩
  ·exact nq9 l h
theorem ke{c:List (Nat×xC)}{j:Nat}{o:xC} :∀(l:List (Nat×List (Nat×Sl))),(j,o)∈(kR P c l).1→
  ∃d t a,e6 c j=some (.box t a)∧o= .box t (n8 P c d j 0 a).1∧∀x∈(n8 P c d j 0 a).2,x∈(kR P c l).2
 | [],h=>by simp[kR] at h
 | (b,d)::l,h=>by
  simp only[kR] at h ⊢;split at h
  ·rename_i t a f;simp only at h ⊢;rcases ML.1 h with h | h
   ·simp only[Prod.mk.injEq] at h;obtain⟨rfl,rfl⟩:=h;refine⟨d,t,a,f,rfl,λx e=>?_⟩;exact Ss _ e
   ·obtain⟨g,i,k,m,n,p⟩:=ke l h;exact⟨g,i,k,m,n,λx e=>wZ _ (p x e)⟩
  ·rename_i f;exact ke l h
theorem bI{c:List (Nat×xC)}{x:Nat×xC×Option Nat} :∀(l:List (Nat×List (Nat×Sl))),x∈(kR P c l).2→
  ∃d j t a,e6 c j=some (.box t a)∧x∈(n8 P c d j 0 a).2
 | [],h=>by simp[kR] at h
 | (b,d)::l,h=>by
  simp only[kR] at h;split at h
  ·rename_i t a e;simp only at h;rcases MC.1 h with h | h
   ·exact⟨d,b,t,a,e,h⟩
   ·exact bI l h
  ·exact bI l h
theorem nfN{c:List (Nat×xC)}{ck:Sl}{d:Nat}{s:X} :∀x∈(Yq P c ck d s).2,vm (e6 c) x:=by
 intro x a;cases s with
 | own id=>
  simp only[Yq] at a;cases b:e6 c id with
  | none=>simp[b] at a
  | some o=>
   cases o with
   | box=>simp[b] at a
   | eV=>simp[b] at a
   | deep t e ts r kD=>
    cases kD with
    | some q=>simp[b] at a
    | none=>
    simp only[b] at a;cases ck with
    | eV=>simp at a
    | AH=>
     rw[MB] at a;subst a;exact .inl ⟨id,.inr ⟨t,e,ts,r,rfl⟩,rfl,b⟩
    | own=>
     rw[MB] at a;subst a;exact .inl ⟨id,.inr ⟨t,e,ts,r,rfl⟩,rfl,b⟩
    | deep=>
     rw[MB] at a;subst a;exact .inl ⟨id,.inr ⟨t,e,ts,r,rfl⟩,rfl,b⟩
   | row t e r fz u=>
    simp only[b] at a;cases ck with
    | eV=>simp at a
    | AH=>
     rw[MB] at a;subst a;exact .inl ⟨id,.inl ⟨t,e,r,fz,u,rfl⟩,rfl,b⟩
    | own=>
     rw[MB] at a;subst a;exact .inl ⟨id,.inl ⟨t,e,r,fz,u,rfl⟩,rfl,b⟩
    | deep=>
     rw[MB] at a;subst a;exact .inl ⟨id,.inl ⟨t,e,r,fz,u,rfl⟩,rfl,b⟩
 | nil=>
  simp only[Yq] at a;cases ck with
  | AH=>simp at a
  | eV t=>
   simp only at a;split at a<;>simp at a
  | own t=>
   simp only at a;split at a
   ·rename_i e f;rw[MB] at a;subst a;exact .inr ⟨.inl ⟨t,e,rfl⟩,rfl⟩
   ·simp at a
  | deep t ts=>
   simp only at a;split at a
   ·rename_i e f;rw[MB] at a;subst a;exact .inr ⟨.inr ⟨t,e,ts,rfl⟩,rfl⟩
   ·simp at a
 | kb=>simp[Yq] at a
 | agg=>simp[Yq] at a
 | Es=>simp[Yq] at a
 | eS=>simp[Yq] at a
 | ptr=>simp[Yq] at a
 | ga=>simp[Yq] at a
 | undef=>simp[Yq] at a
 | int=>simp[Yq] at a
 | bool=>simp[Yq] at a
 | str=>simp[Yq] at a
 | sl=>simp[Yq] at a
 | iD=>simp[Yq] at a
 | GH=>simp[Yq] at a
 | GL g cs=>
  simp only[Yq] at a;cases c:kV cs<;>simp[c] at a
theorem nDM{c:List (Nat×xC)}{d:List (Nat×Sl)}{b:Nat} :∀(l:List X) (k:Nat),∀x∈(n8 P c d b k l).2,vm (e6 c) x
 | [],_,x,a=>by simp[n8] at a
 | s::l,k,x,a=>by
  simp only[n8] at a;rcases MC.1 a with a | a
  ·exact nfN x a
  ·exact nDM l (k+1) x a
def nkB(h:Nat→Option xC)(R:Px)(β:L)(φ:Nat→List Nat)(j:Nat)(o:xC):Prop:=(tM R j=none∧∃t a,h j=some (.box t a)∧∃b,o= .box t b)∨ (∃id,tM R j=some (o,some id)∧h id=some o∧ZX o)∨ (tM R j=some (o,none)∧nnB o)
theorem ZX.Gt{o:xC}(a:ZX o){β:L}{R:Px}{j id:Nat}{b:xC}(c:tM R j=some (b,some id)):ar (β.jD R) j o=ar β id o:=by rcases a with ⟨t,e,r,d,u,rfl⟩ | ⟨t,e,f,r,rfl⟩<;>simp[ar,L.jD,c]
theorem ZX.Hb{o:xC}(m:ZX o){w:aau}{k av':Nat→Prop}{β:L}{R:Px}{j id:Nat}{n:xC}{φ:List Nat}(l:tM R j=some (n,some id))(p:∀b,av' b→k b)(h:zC w k β id o φ):zC w av' (β.jD R) j o φ:=by
 have a:(β.jD R).val j=β.val id:=by simp[L.jD,l]
 have q:(β.jD R).nb j=β.nb id:=by simp[L.jD,l]
 rcases m with ⟨t,e,r,z,u,rfl⟩ | ⟨t,e,A,r,rfl⟩
 ·obtain⟨c,s,d,f,g,i⟩:=h;exact⟨c,s,by rw[a];exact d,f,λb v x=>g b v (p b x),by rw[a];exact i⟩
 ·obtain⟨c,y,d,f,g,i⟩:=h;exact⟨c,y,by rw[a];exact d,f,by rw[q];exact g,by rw[a];exact i⟩
theorem ZX.DG{o:xC}(a:ZX o){t:TypeId}{b:List X}(h:o= .box t b):False:=by rcases a with ⟨_,_,_,_,_,rfl⟩ | ⟨_,_,_,_,rfl⟩<;>cases h
theorem nye{f A:Nat→X}{h n:Nat→Option xC}{β:L}{φ:Nat→List Nat}{tm:Array aaw}{w:aau}(l:V w0 S f h β φ tm w){R:Px}(s:(Oh R).Nodup)
  (u:∀j o,n j=some o→nkB h R β φ j o)
  (E:(∀b,oa n (β.jD R) b→oa h β b)→(∀i,O w (oa n (β.jD R)) (β.jD R) (A i) (tm.getD i undef))∧
   ∀j t a p,n j=some (.box t p)→h j=some (.box t a)→∀v,Z w (oa h β) β a v→Z w (oa n (β.jD R)) (β.jD R) p v):
  V w0 S A n (β.jD R) (de φ R) tm w:=by
 have B:∀b,oa n (β.jD R) b→oa h β b:=by
  rintro b (⟨j,o,m,g⟩ | g)
  ·rcases u j o m with ⟨c,t,a,d,p,rfl⟩ | ⟨id,c,d,r⟩ | ⟨c,x⟩
   ·exact .inl ⟨j,_,d,by simpa [ar,L.jD] using g⟩
   ·refine .inl ⟨id,_,d, ?_⟩;rw[r.Gt c] at g;exact g
   ·rcases x with ⟨t,e,rfl⟩ | ⟨t,e,F,rfl⟩<;>simp[ar,L.jD,c,NO] at g
  ·exact .inr g
 obtain⟨G,H⟩:=E B;refine⟨G,λj o m=>?_,λj o m=>?_,λi j I J C K m b g=>?_,l.hX,l.bars⟩
 ·rcases u j o m with ⟨c,t,a,d,p,rfl⟩ | ⟨id,c,d,r⟩ | ⟨c,x⟩
  ·obtain⟨v,ai1,M,N,aiB⟩:=l.aC j _ d;refine⟨v,ai1,H j t a p m d v M,N, ?_⟩;simp only[de,c];exact aiB
  ·simp only[de,c];exact r.Hb c B (l.aC id _ d)
  ·have k:(β.jD R).val j= .slice none 0 0:=by simp[L.jD,c]
   have P:(β.jD R).nb j=[]:=by simp[L.jD,c]
   rcases x with ⟨t,e,rfl⟩ | ⟨t,e,F,rfl⟩
   ·refine⟨[],[],⟨by simp,.inl ⟨k,rfl,rfl⟩⟩,⟨rfl,by simp⟩,by simp, ?_⟩;simp[de,c,k,NO]
   ·refine⟨[],[],⟨by simp,.inl ⟨k,rfl,rfl⟩⟩,⟨rfl,by simp⟩,by rw[P];rfl, ?_⟩;simp[de,c,k,NO]
 ·rcases u j o m with ⟨c,t,a,d,p,rfl⟩ | ⟨id,c,d,r⟩ | ⟨c,x⟩
  ·simp only[de,c];exact l.fresh j _ d
  ·simp only[de,c];exact l.fresh id _ d
  ·simp[de,c]
 ·rcases u i I K with ⟨c,t,a,d,p,rfl⟩ | ⟨id,c,d,r⟩ | ⟨c,x⟩<;>
   rcases u j J m with ⟨y,T,U,q,ah5,rfl⟩ | ⟨D,y,q,Q⟩ | ⟨y,W⟩<;>
   simp only[de,c,y] at g ⊢
  ·exact l.sep i j _ _ C d q b g
  ·refine l.sep i D _ _ (λe=>?_) d q b g;rw[e,q,Y] at d;exact Q.DG d
  ·simp
  ·refine l.sep id j _ _ (λz=>?_) d q b g;rw[z,q,Y] at d;exact r.DG d.symm
  ·refine l.sep id D _ _ (λz=>?_) d q b g;subst z;have:=nlg s (nzC c) (nzC y) rfl rfl;simp only[Prod.mk.injEq] at this;exact C this.1
  ·simp
  ·simp at g
  ·simp at g
  ·simp at g
theorem nkg{an:YJ}{st:E}{a:Act}{w:aau}(n:Rel w0 S st a w)(l:(hG P an st).ok=true):Rel w0 S (hG P an st) a w∧st.ok=true:=by
 unfold hG at l ⊢;simp only at l ⊢;cases g:C2 (Oh ((OH P st an.cx).2++(kR P st.hp an.boxes).2)) &&
   C2 ((kR P st.hp an.boxes).1.map (·.1)++((OH P st an.cx).2++(kR P st.hp an.boxes).2).map (·.1))
 ·rw[g] at l;simp[om] at l
 rw[g] at l;simp only[H] at l ⊢;refine⟨?_,l⟩;simp only[Bl] at g;obtain⟨β,φ,B⟩:=n.core;have p:=Qv g.1;have C:=Qv g.2;rw[MY] at C;obtain⟨I,v,J⟩:=C;have K:∀x∈(OH P st an.cx).2,x∈(OH P st an.cx).2++(kR P st.hp an.boxes).2:=λx d=>Ss _ d;have L:∀x∈(kR P st.hp an.boxes).2,x∈(OH P st an.cx).2++(kR P st.hp an.boxes).2:=λx d=>wZ _ d;have D:∀x∈(OH P st an.cx).2++(kR P st.hp an.boxes).2,vm (e6 st.hp) x:=by
  intro x d;rcases MC.1 d with d | d
  ·obtain⟨i,ck,c⟩:=nq9 _ d;exact nfN x c
  ·obtain⟨Z,j,t,b,c,h⟩:=bI _ d;exact nDM b 0 x h
 generalize (OH P st an.cx).2++(kR P st.hp an.boxes).2=R at*;have s:∀x∈R,tM R x.1=some x.2:=λx d=>nBn d v;have y:V w0 S st.get (e6 st.hp) β φ a.tmps w:=B;refine⟨n.size,n.fx,n.defers,n.kept,β.jD R,de φ R, ?_⟩;have F:∀j o,e6 ((kR P st.hp an.boxes).1++R.map (λx=>(x.1,x.2.1))) j=some o→(j,o)∈(kR P st.hp an.boxes).1∨∃q,(j,o,q)∈R:=by
  intro j o r;rcases MC.1 (nbO r) with c | c
  ·exact .inl c
  ·obtain⟨x,d,G⟩:=V2.1 c;obtain⟨k,T,q⟩:=x;simp only[Prod.mk.injEq] at G;obtain⟨rfl,rfl⟩:=G;exact .inr ⟨q,d⟩
 refine nye y p (λj o r=>?_) (λaiC=>⟨λi=>?_,λj t b U r M N z=>?_⟩)
 ·rcases F j o r with c | ⟨q,c⟩
  ·obtain⟨Z,t,b,h,u,_⟩:=ke _ c;refine .inl ⟨np4 (λX=>J j (Rh (f:=(·.1)) c) j X rfl),t,b,h,_,u⟩
  ·rcases D _ c with ⟨id,e,m,A⟩ | ⟨e,m⟩
   ·simp only at e m A;subst m;exact .inr (.inl ⟨id,s _ c,A,e⟩)
   ·simp only at e m;subst m;exact .inr (.inr ⟨s _ c,e⟩)
 ·show O w _ _ (XH (OH P st an.cx).1 i) _;rcases niI (P:=P) (st:=st) (i:=i) an.cx with c | ⟨ck,c,h⟩
  ·rw[c];simp[O]
  ·rw[c];exact (nnn y (B.cx i) aiC (λx d=>s x (K x (h x d)))).1
 ·rcases F j _ r with c | ⟨q,c⟩
  ·obtain⟨Z,ag9,W,h,u,Q⟩:=ke _ c;rw[M] at h;simp only[Y,xC.box.injEq] at h;obtain⟨rfl,rfl⟩:=h;simp only[xC.box.injEq,true_and] at u;rw[u];exact (nL7 y aiC b 0 N z (λx d=>s x (L x (Q x d)))).1
  ·rcases D _ c with ⟨id,e,m,A⟩ | ⟨e,m⟩
   ·exact (e.DG rfl).elim
   ·rcases e with ⟨_,_,e⟩ | ⟨_,_,_,e⟩<;>cases e
theorem nb4(st:E):st.EH.ok=st.ok:=by
 unfold E.EH;split
 ·split
  ·split
   ·rename_i r _ _;generalize (MH _ _ && _ && _ && _ && _:Bool)=c;cases c<;>rfl
   ·rfl
  ·rfl
 ·rfl
theorem dvO{st:E}{a:Act}{w:aau}(b:Rel w0 S st a w):Rel w0 S st.EH a w:=by
 unfold E.EH;split
 ·rename_i id F;split
  ·rename_i t e p c i d q;split
   ·rename_i n h r u s;cases o:MH n p && npE e h && MH (Qn e) 1 && !(MH d id) && Sw h
    ·exact b
    ·simp only[H];simp only[Bl,Pe] at o;obtain⟨⟨⟨⟨k,f⟩,v⟩,x⟩,y⟩:=o;have k:=Vs k;subst k;have z:∃g,e[Yp e]? =some (.sl g)∧g=h:=by
      unfold npE at f;split at f
      ·rename_i g A;exact⟨g,A,uG _ _ f⟩
      ·cases f
     have B:d≠id:=W0 x;obtain⟨β,φ,C⟩:=b.core;obtain⟨l,m,D⟩:=nzM C (h':=e6 (ax [(id,some (.deep t e [n] (c.set i (Sk (c.getD i []) (Yp e) [.sl r])) none)),(d,none)] st.hp)) q s z (Vs v) B y
      (by rw[Qt];simp[ji,L9]) (λj Z=>by rw[Qt];simp[ji,L9,Z];rfl)
     exact⟨b.size,b.fx,b.defers,b.kept,l,m,D⟩
   ·exact b
  ·exact b
 ·exact b
theorem Th(st:E):∀(l:List (Nat×Sl)),A8 st.obj (qs st l)∧Eg (qs st l)=true
 | []=>⟨by simp[qs,A8],rfl⟩
 | (i,.AH)::l=>Th st l
 | (i,.own _)::l=>Th st l
 | (i,.deep _ _)::l=>Th st l
 | (i,.eV _)::l=>by
  have a:=Th st l;simp only[qs];split
  ·rename_i id g;split
   ·rename_i t e r c u d;cases f:V8 id (qs st l)
    ·exact a
    ·refine⟨λx b=>?_,by simp only[H,Eg,f,a.2,Bool.and_self]⟩;simp only[H] at b;rcases ML.1 b with rfl | b
     ·exact⟨_,d,.inl ⟨t,c,rfl⟩⟩
     ·exact a.1 x b
   ·exact a
  ·exact a
theorem nAF{an:YJ}{st:E}{a:Act}{w:aau}(b:Rel w0 S st a w):Rel w0 S (st.KU an) a w:=by obtain⟨β,φ,c⟩:=b.core;obtain⟨d,e⟩:=Th st an.cx;refine⟨b.size,b.fx,b.defers,b.kept,β,Wj φ (qs st an.cx), ?_⟩;have:=c.gr _ d e;show V w0 S st.get (e6 (ax (Gj (qs st an.cx)) st.hp)) _ _ _ _;rw[Qt];exact this
theorem nej{an:YJ}{st:E}{a:Act}{w:aau}(c:Rel w0 S st a w)(d:(canon P an st).ok=true):Rel w0 S (canon P an st) a w∧st.ok=true:=by have:=nkg (nAF (an:=an) (dvO c)) d;have b:=this.2;simp only[E.KU] at b;rw[nb4] at b;exact⟨this.1,b⟩
end
section
variable {P:aat} {Γ:Ctx} {w0:aau} {S:Own} {A:List (Nat×YJ)} {N:Nat} {r:List DC}
structure nv9 (K:uS) (r:List DC):Prop where
 fB:∀st,K.fB st=(true,r)→st.ok=true
 ext:∀i st,K.ext i st=(true,r)→st.ok=true
 ret:∀st,K.ret st=(true,r)→st.ok=true
theorem nlT{an:YJ}{st:E}(h:(hG P an st).ok=true):st.ok=true:=by
 unfold hG at h;simp only at h;cases a:C2 (Oh ((OH P st an.cx).2++(kR P st.hp an.boxes).2)) &&
   C2 ((kR P st.hp an.boxes).1.map (·.1)++((OH P st an.cx).2++(kR P st.hp an.boxes).2).map (·.1))
 ·rw[a] at h;simp[om] at h
 ·rw[a] at h;exact h
theorem lQ{an:YJ}{st:E}(h:(canon P an st).ok=true):st.ok=true:=by have:=nlT h;have a:st.EH.ok=true:=this;rwa[nb4] at a
theorem dO:lf≠(true,r):=by simp[lf]
theorem nvK{st:E}{c:aav}{x y:Code}{g:Bool}(h:(merge st g (exec P Γ x (st.reset.dA c true)) (exec P Γ y (st.reset.dA c false))).ok=true):st.ok=true:=by
 have a:=E7 h;cases g with
 | true=>have:=(Ul x _ (a.1 rfl)).ok;rwa[zg] at this
 | false=>have:=(Ul y _ (a.2 rfl)).ok;rwa[zg] at this
def SN(P:aat)(Γ:Ctx)(A:List (Nat×YJ))(N:Nat)(x:Code)(an:YJ)(K:uS)(n:Nat):E→B:=Nat.rec (motive:=λ_=>E→B) (λ_=>lf) (λ_ a s=>run P Γ A N x s {fB:=λb=>a (canon P an b),ext:=K.ext,ret:=K.ret}) n
theorem ndU{x:Code}{an:YJ}{K:uS}{n:Nat}{s:E} :SN P Γ A N x an K (n+1) s=run P Γ A N x s {fB:=λa=>SN P Γ A N x an K n (canon P an a),ext:=K.ext,ret:=K.ret} :=rfl
theorem yJ:∀(c:Code) (st:E) (K:uS),nv9 K r→run P Γ A N c st K=(true,r)→st.ok=true
 | .skip,st,K,hK,h=>hK.fB st (by simpa only[run] using h)
 | .region id ops draw,st,K,hK,h=>by simp only[run] at h;exact (niq (hK.fB _ (eO h))).ok
 | .seq x y,st,K,hK,h=>by simp only[run] at h;exact yJ x st {fB:=λs=>run P Γ A N y s K,ext:=K.ext,ret:=K.ret} ⟨λs a=>yJ y s K hK a,hK.ext,hK.ret⟩ h
 | .cond c x y,st,K,hK,h=>by
  simp only[run] at h;split at h
  ·rename_i t f;cases t with
   | true=>exact yJ x st K hK h
   | false=>exact yJ y st K hK h
  ·rename_i g f;cases b:simple x && simple y && zT Γ st g (exec P Γ x (st.reset.dA c true)) (exec P Γ y (st.reset.dA c false))
   ·rw[b] at h;simp only[J] at h;cases g with
    | true=>
     have:=yJ x _ K hK h;rwa[zg] at this
    | false=>
     have:=yJ y _ K hK h;rwa[zg] at this
   ·rw[b] at h;simp only[H] at h;exact nvK (hK.fB _ (eO h))
  ·exact absurd h dO
 | .block id x,st,K,hK,h=>by
  simp only[run] at h;refine yJ x st {fB:=K.fB,ext:=λi s=>cond (MH i id) (K.fB s) (K.ext i s),ret:=K.ret} ⟨hK.fB,λi s a=>?_,hK.ret⟩ h;simp only at a;cases d:MH i id
  ·rw[d] at a;exact hK.ext i s a
  ·rw[d] at a;exact hK.fB s a
 | .loop x,st,K,hK,h=>by
  simp only[run] at h;split at h
  ·rename_i an l;have key:∀n s,SN P Γ A N x an K n s=(true,r)→s.ok=true:=by
    intro n
    induction n with
    | zero=>intro s a;exact absurd a dO
    | succ n j=>
     intro s a;rw[ndU] at a;exact yJ x s {fB:=λe=>SN P Γ A N x an K n (canon P an e),ext:=K.ext,ret:=K.ret} ⟨λe k=>lQ (j _ k),hK.ext,hK.ret⟩ a
   exact lQ (key N _ h)
  ·exact absurd h dO
 | .exit id,st,K,hK,h=>hK.ext id st (by simpa only[run] using h)
 | .ret,st,K,hK,h=>hK.ret st (by simpa only[run] using h)
 | .rangeFunc ..,st,_,_,h=>by simp only[run] at h;exact absurd h dO
 | .scope ..,st,_,_,h=>by simp only[run] at h;exact absurd h dO
 | .goto ..,st,_,_,h=>by simp only[run] at h;exact absurd h dO
 | .label ..,st,_,_,h=>by simp only[run] at h;exact absurd h dO
 | .refuse ..,st,_,_,h=>by simp only[run] at h;exact absurd h dO
structure nwV (w0:aau) (S:Own) (K:uS) (r:List DC) (Q:Exit→Act→aau→Prop):Prop where
 fB:∀st a w,Rel w0 S st a w→K.fB st=(true,r)→Q .normal a w
 ext:∀i st a w,Rel w0 S st a w→K.ext i st=(true,r)→Q (.exit i) a w
 ret:∀st a w,Rel w0 S st a w→K.ret st=(true,r)→Q .ret a w
theorem OR(k:qk P Γ):∀(c:Code) (st:E) (K:uS) (a:Act) (w:aau) (Q:Exit→Act→aau→Prop),nv9 K r→Rel w0 S st a w→run P Γ A N c st K=(true,r)→nwV w0 S K r Q→c.wp P Q a w
 | .skip,st,K,a,w,Q,hK,d,h,hQ=>wp_skip (hQ.fB st a w d (by simpa only[run] using h))
 | .region id ops draw,st,K,a,w,Q,hK,d,h,hQ=>by simp only[run] at h;have h:=eO h;exact nBC k d (hK.fB _ h) (λe w' f=>hQ.fB _ e w' f h)
 | .seq x y,st,K,a,w,Q,hK,d,h,hQ=>by
  simp only[run] at h;refine wp_seq (OR k x st {fB:=λs=>run P Γ A N y s K,ext:=K.ext,ret:=K.ret} a w _ ⟨λs b=>yJ y s K hK b,hK.ext,hK.ret⟩ d h ⟨λs e w' f b=>?_,λi s e w' f b=>?_,λs e w' f b=>?_⟩)
  ·exact OR k y s K e w' Q hK f b hQ
  ·exact hQ.ext i s e w' f b
  ·exact hQ.ret s e w' f b
 | .cond c x y,st,K,a,w,Q,hK,d,h,hQ=>by
  simp only[run] at h;split at h
  ·rename_i t o;refine wp_cond (nk0 d o) ?_;cases t with
   | true=>exact OR k x st K a w Q hK d h hQ
   | false=>exact OR k y st K a w Q hK d h hQ
  ·rename_i g o;have j:=nm_ d o;cases u:simple x && simple y && zT Γ st g (exec P Γ x (st.reset.dA c true)) (exec P Γ y (st.reset.dA c false))
   ·rw[u] at h;simp only[J] at h;refine wp_cond j ?_;cases g with
    | true=>exact OR k x _ K a w Q hK (Ph d j) h hQ
    | false=>exact OR k y _ K a w Q hK (Ph d j) h hQ
   ·rw[u] at h;simp only[H] at h;have h:=eO h;have z:=hK.fB _ h;have v:exec P Γ (.cond c x y) st=merge st g (exec P Γ x (st.reset.dA c true)) (exec P Γ y (st.reset.dA c false)):=by simp only[exec,o]
    exact Eu k (.cond c x y) st a w Q d (by rw[v];exact z) (λe w' f=>hQ.fB _ e w' f (by rw[v];exact h))
  ·exact absurd h dO
 | .block id x,st,K,a,w,Q,hK,d,h,hQ=>by
  simp only[run] at h;refine wp_block (OR k x st {fB:=K.fB,ext:=λi s=>cond (MH i id) (K.fB s) (K.ext i s),ret:=K.ret} a w _ ⟨hK.fB,λi s b=>?_,hK.ret⟩ d h ⟨λs e w' f b=>hQ.fB s e w' f b,λi s e w' f b=>?_,λs e w' f b=>hQ.ret s e w' f b⟩)
  ·simp only at b;cases j:MH i id
   ·rw[j] at b;exact hK.ext i s b
   ·rw[j] at b;exact hK.fB s b
  ·simp only at b;simp only[Exit.inBlock];cases j:MH i id
   ·rw[j] at b;rw[if_neg (W0 j)];exact hQ.ext i s e w' f b
   ·rw[j] at b;rw[if_pos (Vs j)];exact hQ.fB s e w' f b
 | .loop x,st,K,a,w,Q,hK,d,h,hQ=>by
  simp only[run] at h;split at h
  ·rename_i an B;have p:∀n s,SN P Γ A N x an K n s=(true,r)→s.ok=true:=by
    intro n
    induction n with
    | zero=>intro s b;exact absurd b dO
    | succ n q=>
     intro s b;rw[ndU] at b;exact yJ x s {fB:=λl=>SN P Γ A N x an K n (canon P an l),ext:=K.ext,ret:=K.ret} ⟨λl m=>lQ (q _ m),hK.ext,hK.ret⟩ b
   have key:∀n s a w,Rel w0 S s a w→SN P Γ A N x an K n s=(true,r)→Code.rounds P x Q n a w:=by
    intro n
    induction n with
    | zero=>intro s a w _ b;exact absurd b dO
    | succ n q=>
     intro s a w d b;rw[ndU] at b;rw[rounds_succ];refine OR k x s {fB:=λl=>SN P Γ A N x an K n (canon P an l),ext:=K.ext,ret:=K.ret} a w _ ⟨λl m=>lQ (p _ _ m),hK.ext,hK.ret⟩ d b ⟨λl e w' f m=>?_,λi l e w' f m=>?_,λl e w' f m=>?_⟩
     ·exact q _ e w' (nej f (p _ _ m)).1 m
     ·exact hQ.ext i l e w' f m
     ·exact hQ.ret l e w' f m
   exact wp_loop_rounds N (key N _ a w (nej d (p _ _ h)).1 h)
  ·exact absurd h dO
 | .exit id,st,K,a,w,Q,hK,d,h,hQ=>wp_exit (hQ.ext id st a w d (by simpa only[run] using h))
 | .ret,st,K,a,w,Q,hK,d,h,hQ=>wp_ret (hQ.ret st a w d (by simpa only[run] using h))
 | .rangeFunc ..,st,_,_,_,_,_,_,h,_=>by simp only[run] at h;exact absurd h dO
 | .scope ..,st,_,_,_,_,_,_,h,_=>by simp only[run] at h;exact absurd h dO
 | .goto ..,st,_,_,_,_,_,_,h,_=>by simp only[run] at h;exact absurd h dO
 | .label ..,st,_,_,_,_,_,_,h,_=>by simp only[run] at h;exact absurd h dO
 | .refuse ..,st,_,_,_,_,_,_,h,_=>by simp only[run] at h;exact absurd h dO
end
section
variable {P:aat} {Γ:Ctx} {w0:aau} {S:Own} {A:List (Nat×YJ)} {N:Nat}
variable {f:Nat→X} {h:Nat→Option xC} {β:L} {φ:Nat→List Nat} {tm:Array aaw} {w:aau}
def iq(tmps:Array aaw):ResultVar→Sem aaw
 | .tmp t=>pure (tmps.getD t undef)
 | .cell a t=>do loadVar t (←asAddr (tmps.getD a undef))
theorem nAk(o:V w0 S f h β φ tm w){id off:Nat}{t:TypeId}{e:Nf}(a:(Pp P t (.ptr id off)).val f h=some e){v:aaw}(k:v= .pointer (some ⟨β.cY id,off,none⟩)):
  ∃u,(do loadVar t (←asAddr v):Sem aaw).run P w= .ok u w∧O w (oa h β) β e.sv u:=by
 have conv:∀u,(Instr.loadAt t v).run P w= .ok u w→(do loadVar t (←asAddr v):Sem aaw).run P w= .ok u w:=by intro u l;subst k;exact l
 unfold Pp at a;split at a
 case h_2=>simp at a
 rename_i E l;simp only[EN,M.aY,UI] at a;obtain⟨F,p,a⟩:=a;split at a
 ·rename_i G b;cases c:fC P t
  ·simp only[c,J] at a;split at a
   ·rename_i s r;simp only[M.ab,Y] at a;subst a;obtain⟨vs,m,d,_,_⟩:=o.aC id _ p;obtain⟨u,x,z⟩:=Z.get _ _ _ _ d r;refine⟨u,conv u ?_,z⟩;rw[k];exact Xh c l (by rw[Zk m];exact x)
   ·simp at a
  ·simp only[c,H] at a;split at a
   ·rename_i i A;cases n:Nat.ble (off+i.size) b.length
    ·simp[n] at a
    ·simp only[n,H,M.ab,Y] at a;subst a;have B:=SO n;obtain⟨vs,m,d,C,_⟩:=o.aC id _ p;have q:=Z.length _ _ d;refine⟨.agg ((vs.drop off).take i.size).toArray,conv _ ?_, ?_⟩
     ·rw[k];refine ZO (vs:=(vs.drop off).take i.size) c A (by simp;omega) (λj v g=>?_);rw[Zk m];rw[List.getElem?_take] at g;split at g
      ·simpa using g
      ·cases g
     ·simp only[O];exact⟨_,rfl,Z.take _ _ _ (Z.drop _ _ _ d),λy D=>C y (List.mem_of_mem_drop (List.mem_of_mem_take D))⟩
   ·simp at a
 ·simp at a
theorem Hp(b:V w0 S f h β φ tm w):∀(l:List ResultVar) (U:List X),(RD P l).val f h=some U→∃a,(l.mapM (iq tm)).run P w= .ok a w∧Z w (oa h β) β U a
 | [],U,hs=>by simp only[RD,M.ab,Y] at hs;subst hs;exact⟨[],by simp,by simp[Z]⟩
 | .tmp t::l,U,hs=>by
  simp only[RD,M.jl,M.ag,UI,M.ab,Y] at hs;obtain⟨r,c,rfl⟩:=hs;obtain⟨a,d,g⟩:=Hp b l r c;refine⟨tm.getD t undef::a, ?_, ?_⟩
  ·simp only[List.mapM_cons,iq,Sem.run_bind,Sem.run_pure,Result.andThen_ok,d]
  ·simp only[Z];exact⟨_,_,rfl,b.cx t,g⟩
 | .cell p t::l,U,hs=>by
  simp only[RD,M.jl,M.ag,UI,M.ab,Y] at hs;obtain⟨e,i,r,c,rfl⟩:=hs;obtain⟨a,d,g⟩:=Hp b l r c;have j:=b.cx p;split at i
  ·rename_i id off k;rw[k] at j;simp only[O] at j;obtain⟨u,m,n⟩:=nAk b i j;refine⟨u::a, ?_, ?_⟩
   ·simp only[List.mapM_cons,Sem.run_bind,Sem.run_pure];have:(iq tm (.cell p t)).run P w= .ok u w:=m;simp only[this,Result.andThen_ok,d]
   ·simp only[Z];exact⟨_,_,rfl,n,g⟩
  ·simp at i
theorem noJ{fn:Func} :results fn tm=(do let a ←fn.results.mapM (iq tm);pure (if h:a.size=1 then a[0] else .tuple a)):=by
 unfold results
 congr 1
theorem nrn(l:List aaw):(if h:l.toArray.size=1 then l.toArray[0] else .tuple l.toArray)=pack l:=by
 cases l with
 | nil=>rfl
 | cons x l=>
  cases l with
  | nil=>rfl
  | cons y l=>simp[pack]
theorem nBq{fn:Func}{a:List aaw}(b:(fn.results.toList.mapM (iq tm)).run P w= .ok a w):(results fn tm).run P w= .ok (pack a) w:=by rw[noJ,Array.mapM_eq_mapM_toList];simp only[Sem.run_bind,map_eq_pure_bind,Sem.run_pure,b,Result.andThen_ok,bind_assoc,pure_bind];rw[nrn]
theorem He(z:V w0 S f h β φ tm w):∀(afU:List Pj) (U:List X) (F:List aaw) (q:List DC×List Nat×List Nat),Z w (oa h β) β U F→(qe afU U).val f h=some q→
  ∃D im tp,eX w afU q.1 F D im tp∧(∀b∈D,∃i∈q.2.1,(∃o,h i=some o)∧b∈φ i)∧(∀b∈tp,∃i o,i∈q.2.1∧h i=some o∧b∈ar β i o)∧(q.2.1.Nodup→D.Nodup)∧
   (∀b∈im,¬oa h β b∨∃i∈q.2.2,(∃o,h i=some o)∧b∈φ i)
 | [],[],F,q,hs,hq=>by simp only[qe,M.ab,Y] at hq;subst hq;simp only[Z] at hs;exact⟨[],[],[],⟨rfl,hs,rfl,rfl,rfl⟩,by simp,by simp,by simp,by simp⟩
 | [],_::_,F,q,hs,hq=>by simp[qe] at hq
 | _::_,[],F,q,hs,hq=>by simp[qe] at hq
 | rc::afU,s::U,F,q,hs,hq=>by
  simp only[Z] at hs;obtain⟨v,l,rfl,j,h2⟩:=hs;simp only[qe,M.ag,UI,M.ab,Y] at hq;obtain⟨q1,c,G,cM,rfl⟩:=hq;obtain⟨A,aea,B,I,E,J,K,L⟩:=He z afU U l G h2 cM;cases rc with
  | eV ct=>
   simp only[YT,M.ag,UI,M.ab,Y] at c;obtain⟨p,hp,rfl⟩:=c;obtain⟨fp,r1,r2,_,r4,_⟩:=km z j hp;refine⟨A,fp++aea,B,⟨p.1,G.1,v,l,fp,aea,rfl,rfl,r1,I,rfl⟩, ?_, ?_, ?_, ?_⟩
   ·simpa using E
   ·simpa using J
   ·simpa using K
   ·intro b a;rcases MC.1 a with a | a
    ·rcases r4 b a with d | ⟨x,hx,d⟩
     ·exact .inl d
     ·obtain⟨_,Q,_⟩:=r2 x hx;exact .inr ⟨x.1,Ss _ (Rh hx),⟨_,Q⟩,al (z.aC _ _ Q) b (by rw[Tn Q] at d;exact d)⟩
    ·rcases L b a with d | ⟨i,k,d⟩
     ·exact .inl d
     ·exact .inr ⟨i,wZ _ k,d⟩
  | own t e=>
   cases s with
   | nil=>
    simp only[YT,M.ab,Y] at c;subst c;simp only[O] at j;subst j;refine⟨A,aea,B,⟨[],G.1,_,l,[],[],A,B,rfl,rfl,⟨by simp,.inl ⟨rfl,rfl,rfl⟩⟩,⟨rfl,by simp⟩,I,by simp[NO],by simp[NO]⟩, ?_, ?_, ?_, ?_⟩
    ·simpa using E
    ·simpa using J
    ·simpa using K
    ·simpa using L
   | own id=>
    simp only[YT,M.aY,UI] at c;obtain⟨ob,m,c⟩:=c;split at c
    ·rename_i R T r u;cases C:MH t R && cB e T && u
     ·simp[C] at c
     ·simp only[C,H,M.ab,Y] at c;subst c;simp only[Bl] at C;obtain⟨⟨ahk,ag_⟩,W⟩:=C;have ah6:=Vs ahk;have aiD:=uG _ _ ag_;subst ah6 aiD W;simp only[O] at j;obtain⟨n,aE,N,ai2,o3,y⟩:=z.aC id _ m;rw[←j.1] at N;simp only[H] at y;rw[←j.1] at y;refine⟨(v.ownBlock.toList++aE.flatten)++A,aea,v.ownBlock.toList++B,⟨r,G.1,v,l,n,aE,A,B,rfl,rfl,N,ai2,I,rfl,rfl⟩, ?_, ?_, ?_, ?_⟩
      ·intro b a;rcases MC.1 a with a | a
       ·exact⟨id,Ss _ (MB.2 rfl),⟨_,m⟩,by rw[y];exact a⟩
       ·obtain⟨i,k,d⟩:=E b a;exact⟨i,wZ _ k,d⟩
      ·intro b a;rcases MC.1 a with a | a
       ·exact⟨id,_,Ss _ (MB.2 rfl),m,by rw[j.1] at a;simpa [ar] using a⟩
       ·obtain⟨i,o,k,d⟩:=J b a;exact⟨i,o,wZ _ k,d⟩
      ·intro g;simp only[YO,M1] at g;rw[MY];refine⟨y ▸ (z.fresh id _ m).1,K g.2,λb a b' aB e=>?_⟩;subst e;obtain⟨i,k,⟨o,C9⟩,d⟩:=E b aB;have c8:id≠i:=λe=>g.1 (e ▸ k);exact z.sep id i _ _ c8 m C9 b (y ▸ a) d
      ·simpa using L
    ·simp at c
   | _=>simp[YT] at c
  | deep t e ts=>
   cases s with
   | nil=>
    simp only[YT,M.ab,Y] at c;subst c;simp only[O] at j;subst j;refine⟨A,aea,B,⟨[],G.1,_,l,[],[],A,B,rfl,rfl,⟨by simp,.inl ⟨rfl,rfl,rfl⟩⟩,⟨rfl,by simp⟩,I,by simp[NO],by simp[NO]⟩, ?_, ?_, ?_, ?_⟩
    ·simpa using E
    ·simpa using J
    ·simpa using K
    ·simpa using L
   | own id=>
    simp only[YT,M.aY,UI] at c;obtain⟨ob,m,c⟩:=c;split at c
    ·rename_i R T eu r;cases C:MH t R && cB e T && UW ts eu
     ·simp[C] at c
     ·simp only[C,H,M.ab,Y] at c;subst c;simp only[Bl] at C;obtain⟨⟨ahk,ag_⟩,W⟩:=C;have ah6:=Vs ahk;have aiD:=uG _ _ ag_;have Dx:=Xo _ _ W;subst ah6 aiD Dx;simp only[O] at j;obtain⟨n,P,N,ai2,o3,y⟩:=z.aC id _ m;rw[←j.1] at N;rw[←j.1] at y;have bR:∀b∈(v.ownBlock.toList++P.flatten),b∈ar β id (.deep t e ts r none):=λb a=>by rw[j.1] at a;simpa only[ar,o3] using a
      refine⟨(v.ownBlock.toList++P.flatten)++A,aea,(v.ownBlock.toList++P.flatten)++B,⟨r,G.1,v,l,n,P,A,B,rfl,rfl,N,ai2,I,rfl,rfl⟩, ?_, ?_, ?_, ?_⟩
      ·intro b a;rcases MC.1 a with a | a
       ·exact⟨id,Ss _ (MB.2 rfl),⟨_,m⟩,by rw[y];exact a⟩
       ·obtain⟨i,k,d⟩:=E b a;exact⟨i,wZ _ k,d⟩
      ·intro b a;rcases MC.1 a with a | a
       ·exact⟨id,_,Ss _ (MB.2 rfl),m,bR b a⟩
       ·obtain⟨i,o,k,d⟩:=J b a;exact⟨i,o,wZ _ k,d⟩
      ·intro g;simp only[YO,M1] at g;rw[MY];refine⟨y ▸ (z.fresh id _ m).1,K g.2,λb a b' aB e=>?_⟩;subst e;obtain⟨i,k,⟨o,C9⟩,d⟩:=E b aB;have c8:id≠i:=λe=>g.1 (e ▸ k);exact z.sep id i _ _ c8 m C9 b (y ▸ a) d
      ·simpa using L
    ·simp at c
   | _=>simp[YT] at c
theorem nt4(H:V w0 S f h β φ tm w):∀(afV:List ef) (U:List X) (z:List aaw) (q:List DC×List Nat×List Nat),Z w (oa h β) β U z→(sG afV U).val f h=some q→
  ∃n P Q,tU w afV q.1 z n P Q∧(∀b∈n,∃i∈q.2.1,(∃o,h i=some o)∧b∈φ i)∧(∀b∈Q,∃i o,i∈q.2.1∧h i=some o∧b∈ar β i o)∧(q.2.1.Nodup→n.Nodup)∧
   (∀b∈P,¬oa h β b∨∃i∈q.2.2,(∃o,h i=some o)∧b∈φ i)
 | [],[],z,q,hs,hq=>by simp only[sG,M.ab,Y] at hq;subst hq;simp only[Z] at hs;exact⟨[],[],[],⟨rfl,hs,rfl,rfl,rfl⟩,by simp,by simp,by simp,by simp⟩
 | [],_::_,z,q,hs,hq=>by simp[sG] at hq
 | _::_,[],z,q,hs,hq=>by simp[sG] at hq
 | k::ks,s::U,z,q,hs,hq=>by
  simp only[Z] at hs;obtain⟨v,l,rfl,I,h2⟩:=hs;simp only[sG,M.ag,UI,M.ab,Y] at hq;obtain⟨p,A,R,cM,rfl⟩:=hq;obtain⟨T,ahl,aha,g1,W,g3,g4,g5⟩:=nt4 H ks U l R h2 cM;have J:∃r:List aaw,(cond k.agg (v= .agg r.toArray) (r=[v]))∧(∀x∈r,x.oneCell'=true)∧∃B D E,eX w k.cells p.1 r B D E∧(∀b∈B,∃i∈p.2.1,(∃o,h i=some o)∧b∈φ i)∧
    (∀b∈E,∃i o,i∈p.2.1∧h i=some o∧b∈ar β i o)∧(p.2.1.Nodup→B.Nodup)∧(∀b∈D,¬oa h β b∨∃i∈p.2.2,(∃o,h i=some o)∧b∈φ i):=by
   cases K:k.agg with
   | true=>
    cases s with
    | agg ah7=>
     simp only[K] at A;simp only[O] at I;obtain⟨r,rfl,L,N⟩:=I;exact⟨r,rfl,N,He H k.cells ah7 r p L A⟩
    | _=>simp[K] at A
   | false=>
    have mu:(qe k.cells [s]).val f h=some p:=by
     cases s<;>simp only[K] at A<;>first | exact A | (simp at A)
    have iW:Z w (oa h β) β [s] [v]:=by simp only[Z];exact⟨v,[],rfl,I,rfl⟩
    have aiE:=He H k.cells [s] [v] p iW mu;refine⟨[v],rfl, ?_,aiE⟩;obtain⟨_,_,_,C,_⟩:=aiE;intro x ai3;rw[MB] at ai3;subst ai3;cases gg:k.cells with
    | nil=>rw[gg] at C;simp[eX] at C
    | cons c ah7=>
     rw[gg] at C;cases c with
     | eV ct=>
      obtain⟨d,bf,v',c9,f1,F1,_,y,a,_⟩:=C;simp only[List.cons.injEq] at y;rw[y.1];exact a.one
     | own t e=>
      obtain⟨F,bf,v',c9,G,aE,n,B_,_,y,a,_⟩:=C;simp only[List.cons.injEq] at y;rw[y.1];exact a.one
     | deep t e ts=>
      obtain⟨F,bf,v',c9,G,aE,n,B_,_,y,a,_⟩:=C;simp only[List.cons.injEq] at y;rw[y.1];exact a.one
  obtain⟨r,L,N,B,D,E,k1,k2,k3,k4,k5⟩:=J;refine⟨B++T,D++ahl,E++aha,⟨p.1,R.1,v,l,r,B,T,D,ahl,E,aha,rfl,rfl,L,N,k1,g1,rfl,rfl,rfl⟩, ?_, ?_, ?_, ?_⟩
  ·intro b g;rcases MC.1 g with g | g
   ·obtain⟨i,m,a⟩:=k2 b g;exact⟨i,Ss _ m,a⟩
   ·obtain⟨i,m,a⟩:=W b g;exact⟨i,wZ _ m,a⟩
  ·intro b g;rcases MC.1 g with g | g
   ·obtain⟨i,o,m,a⟩:=k3 b g;exact⟨i,o,Ss _ m,a⟩
   ·obtain⟨i,o,m,a⟩:=g3 b g;exact⟨i,o,wZ _ m,a⟩
  ·intro u;rw[MY] at u ⊢;refine⟨k4 u.1,g4 u.2.1,λb g b' aB e=>?_⟩;subst e;obtain⟨i,m,⟨o,C9⟩,a⟩:=k2 b g;obtain⟨j,hj,⟨o',jV⟩,h4⟩:=W b aB;exact H.sep i j _ _ (u.2.2 i m j hj) C9 jV b a h4
  ·intro b g;rcases MC.1 g with g | g
   ·rcases k5 b g with a | ⟨i,m,a⟩
    ·exact .inl a
    ·exact .inr ⟨i,Ss _ m,a⟩
   ·rcases g5 b g with a | ⟨i,m,a⟩
    ·exact .inl a
    ·exact .inr ⟨i,wZ _ m,a⟩
end
mutual
def IJ:CT→DC→Prop
 | .int k,d=>∃n,d= .int n∧dQ k n=true
 | .bool,d=>∃b,d= .bool b
 | .str,d=>∃s:List UInt8,d= .str s∧s.length≤maxLen
 | .sl e,d=>∃a:List (List DC),d= .sl a∧a.length≤maxLen∧∀r∈a,Q e r
def Q:List CT→List DC→Prop
 | [],r=>r=[]
 | c::cs,r=>∃d a,r=d::a∧IJ c d∧Q cs a
end
mutual
theorem Z8.wt{w:aau} :∀(c:CT) (d:DC) (v:aaw) (q:List Nat),Z8 w c d v q→IJ c d
 | .int k,_,_,_,h=>by simp only[Z8,IJ] at h ⊢;obtain⟨n,g,_,j,_⟩:=h;exact⟨n,g,j⟩
 | .bool,_,_,_,h=>by simp only[Z8,IJ] at h ⊢;obtain⟨n,g,_⟩:=h;exact⟨n,g⟩
 | .str,_,_,_,h=>by simp only[Z8,IJ] at h ⊢;obtain⟨s,g,_,j,_⟩:=h;exact⟨s,g,j⟩
 | .sl e,_,_,_,h=>by
  simp only[Z8,IJ] at h ⊢;obtain⟨f,a,n,c,rfl,_,p,x,y,l⟩:=h;refine⟨f,rfl,by omega,λr m=>?_⟩;rcases l with ⟨t,_⟩ | ⟨_,b,o,u,_,_,z,_,l⟩
  ·rw[t] at p;rw[YV.1 p] at m;simp at m
  ·obtain⟨i,A,rfl⟩:=TO m;exact bj.wt e _ _ _ (l i f[i] u[i] (by simp) (by simp))
theorem bj.wt{w:aau} :∀(a:List CT) (r:List DC) (f:Nat→Option aaw) (e:List Nat),bj w a r f e→Q a r
 | [],_,_,_,h=>by simp only[bj,Q] at h ⊢;exact h.1
 | c::a,_,_,_,h=>by simp only[bj,Q] at h ⊢;obtain⟨d,b,v,g,i,j,_,k,l,_⟩:=h;exact⟨d,b,j,Z8.wt c d v g k,bj.wt a b _ i l⟩
end
def SC:List fG→List CT
 | []=>[]
 | k::ks=>k.bF++SC ks
theorem Q.append:∀ {a b:List CT} {r e:List DC},Q a r→Q b e→Q (a++b) (r++e)
 | [],_,_,_,h,h'=>by simp only[Q] at h;subst h;exact h'
 | c::a,_,_,_,h,h'=>by simp only[Q] at h;obtain⟨d,f,rfl,g,i⟩:=h;simp only[Ri,Q];exact⟨d,f++_,rfl,g,i.append h'⟩
theorem Gs.wt{w:aau} :∀(a:List fG) (b:List DC) (c:List aaw) (d:List Nat),Gs w a b c d→Q (SC a) b
 | [],_,_,_,h=>by simp only[SC,Q];exact h.1
 | k::a,_,_,_,h=>by obtain⟨l,e,v,f,m,g,rfl,rfl,⟨n,_,_,i,_⟩,j,rfl⟩:=h;exact Q.append (bj.wt _ _ _ _ i) (Gs.wt a e f g j)
section
variable {P:aat} {Γ:Ctx} {A:List (Nat×YJ)} {w:aau}
theorem nyI:∀(a:List CT) (b d:List DC) (k:Nat),k+a.length≤b.length→C4 a (b++d) k=C4 a b k
 | [],_,_,_,_=>rfl
 | c::a,b,d,k,h=>by
  simp only[C4];simp only[I_] at h;rw[nyI a b d (k+1) (by omega)]
  congr 2
  simp only[OF];rw[XL (by omega)]
theorem ncZ{g:Nat→Prop}{β:L}{k:fG}{d:List DC}{v:aaw}{i:List Nat}(h:HP w k d v i)(n:∀b∈i,¬g b):
  O w g β (cond k.agg (.agg (C4 k.bF d 0)) ((C4 k.bF d 0).headD .ga)) v:=by
 obtain⟨o,a,x,p,y⟩:=h;obtain⟨f,z,q,c,r⟩:=bj.b7 (β:=β) p n k.bF.length 0 (by omega);have e:f=o:=by
  apply YW;intro j;by_cases A:j<f.length
  ·have:=q j f[j] (by simp);simp only[Nat.zero_add] at this;rw[this];simp
  ·rw[Pd (by omega),Pd (by omega)]
 subst e;simp only[List.drop_zero,List.take_length] at c;cases l:k.agg with
 | true=>
  rw[l] at a;simp only[H] at a ⊢;simp only[O];exact⟨f,a,c,r⟩
 | false=>
  rw[l] at a;simp only[J] at a ⊢;rw[a.1] at c;cases t:C4 k.bF d 0 with
  | nil=>simp[O]
  | cons s U=>
   rw[t] at c;simp only[Z] at c;obtain⟨B,C,m,u,_⟩:=c;simp only[List.cons.injEq] at m;rw[m.1];exact u
theorem nm9{av:Nat→Prop}{β:L} :∀(c:List fG) (d:List DC) (f:List aaw) (g:List Nat) (a:Nat),Gs w c d f g→(∀b∈g,¬av b)→∀i,
  XH (rU a c d) i= .ga∨∃j v,i=a+j∧f[j]? =some v∧O w av β (XH (rU a c d) i) v
 | [],_,_,_,_,_,_,i=> .inl rfl
 | k::c,_,_,_,a,h,c7,i=>by
  obtain⟨m,n,v,o,A,p,rfl,rfl,l,q,rfl⟩:=h;have r:m.length=k.bF.length:=by obtain⟨B,_,_,s,_⟩:=l;exact bj.length _ _ _ _ s
  simp only[rU,XH];rw[nyI _ _ _ _ (by omega)];cases t:MH a i
  ·simp only[J];rw[←r,NW];rcases nm9 (av:=av) (β:=β) c n o p (a+1) q (λb e=>c7 b (wZ _ e)) i with u | ⟨j,x,C,y,z⟩
   ·exact .inl u
   ·exact .inr ⟨j+1,x,by omega,by simpa using y,z⟩
  ·have:=Vs t;subst this;simp only[H];exact .inr ⟨0,v,rfl,rfl,ncZ l (λb e=>c7 b (Ss _ e))⟩
theorem Gs.length:∀(a:List fG) (c:List DC) (b:List aaw) (d:List Nat),Gs w a c b d→b.length=a.length
 | [],_,_,_,h=>by rw[h.2.1];rfl
 | k::a,_,_,_,h=>by obtain⟨j,e,v,f,l,g,rfl,rfl,m,i,rfl⟩:=h;simp[Gs.length a e f g i]
theorem ndy{fn:Func}{s:C}{st:E}{r:List DC}(h:W P fn s st=(true,r)):st.ok=true:=by
 unfold W at h;split at h
 ·split at h
  ·simp only[Prod.mk.injEq] at h;exact h.1
  ·exact absurd h dO
 split at h
 ·simp only[Prod.mk.injEq,Bl] at h;exact h.1.1.1
 ·exact absurd h dO
theorem nar{fn:Func}{s:C}{t:TypeId}{bF:List CT}(aeb:s.pt=some (t,bF)){st:E}{r:List DC}{w w':aau}{n:List Nat}{a:Act}(h:W P fn s st=(true,r))(e:Rel w ⟨λ_=>False,λb=>b<w.heap.size∧b ∉ n,[]⟩ st a w'):
  a.defers=[]∧∃v,(results fn a.tmps).run P w'= .ok v w'∧∃(b:Nat) (f:List aaw) (u:List Nat),Ending.returned v= .returned (.pointer (some ⟨b,0,none⟩))∧Kept Own.none w w'∧w.heap.size≤b∧b<w'.heap.size∧
   w'.heap[b]? =some (.cells f.toArray t (0,0))∧(∀x∈f,x.oneCell'=true)∧bj w' bF r (λj=>f[j]?) u∧f.length=bF.length∧∀x∈u,(x∈n∨w.heap.size≤x)∧x≠b:=by
 unfold W at h;rw[aeb] at h;simp only at h;split at h
 case h_2=>exact absurd h dO
 rename_i ai4 x I;simp only[Prod.mk.injEq] at h;obtain⟨_,rfl⟩:=h;obtain⟨β,φ,i⟩:=e.core;have d:=M.dX _ I;simp only[M.ag,UI] at d;obtain⟨U,J,c⟩:=d;obtain⟨vs,K,z⟩:=Hp i _ _ J;unfold nzi at c;split at c
 case h_2=>simp at c
 rename_i id;simp only[M.aY,UI] at c;obtain⟨ob,o,c⟩:=c;split at c
 case h_2=>simp at c
 rename_i L g;cases m:MH L t
 ·simp[m] at c
 have m:=Vs m;subst m;simp only[T1,H,M.ag,UI] at c;obtain⟨q,A,c⟩:=c;cases p:q.2.1.isEmpty
 ·simp[p] at c
 simp only[p,H,M.ab,Y] at c;subst c;simp only[Z] at z;obtain⟨v,l',rfl,B,rfl⟩:=z;simp only[O] at B;subst B;obtain⟨f,N,acY,afW,Q⟩:=i.aC id _ o;obtain⟨R,S,_,T,_⟩:=Ok i bF g f q acY A;have hl:=Z.length _ _ acY;have kD:=QF _ _ _ A;have ahm:β.cY id∈φ id:=by rw[Q];simp
 have D:=(i.fresh id _ o).2 _ ahm;refine⟨e.defers,pack [.pointer (some ⟨β.cY id,0,none⟩)],nBq K,β.cY id,f,R,rfl,⟨e.kept.os,e.kept.tape,e.kept.output,e.kept.size,λk V hn=>e.kept.block k V (λh=>h)⟩, ?_,D.2,N,afW,S,by omega, ?_⟩
 ·rcases D.1 with l | l
  ·exact l
  ·exact l.elim
 ·intro b ahD;have adv:¬oa st.obj β b:=by
   rcases T b ahD with l | ⟨y,F,_⟩
   ·exact l
   ·rw[List.isEmpty_iff.1 p] at F;simp at F
  refine⟨?_,λX=>adv (.inl ⟨id,_,o,by subst X;simp[ar]⟩)⟩;by_cases aiF:b<w.heap.size
  ·by_cases G:b∈n
   ·exact .inl G
   ·refine absurd (.inr ?_) adv;rw[i.bars];exact⟨aiF,G⟩
  ·exact .inr (by omega)
theorem nxr{fn:Func}{s:C}(adw:s.pt=none){st:E}{r:List DC}{w w':aau}{q:List Nat}{a:Act}(h:W P fn s st=(true,r))(e:Rel w ⟨λ_=>False,λb=>b<w.heap.size∧b ∉ q,[]⟩ st a w'):
  a.defers=[]∧∃v,(results fn a.tmps).run P w'= .ok v w'∧∃g φ t B,Ending.returned v= .returned (pack g)∧Kept Own.none w w'∧tU w' s.rs r g φ t B∧φ.Nodup∧
   (∀b∈φ,w.heap.size≤b∧b<w'.heap.size)∧∀b∈t,(b∈q∨w.heap.size≤b)∧b ∉ B:=by
 unfold W at h;rw[adw] at h;simp only at h;split at h
 case h_2=>exact absurd h dO
 rename_i Z own t x F;simp only[Prod.mk.injEq,Bl,List.all_eq_true,Pe] at h;obtain⟨⟨⟨_,G⟩,H⟩,rfl⟩:=h;obtain⟨β,φ,f⟩:=e.core;have d:=M.dX _ F;simp only[M.ag,UI] at d;obtain⟨U,I,J⟩:=d;obtain⟨g,K,L⟩:=Hp f _ _ I;obtain⟨u,N,O,Q,R,acZ,S,T⟩:=nt4 f _ _ _ _ L J;refine⟨e.defers,pack g,nBq K,g,u,N,O,rfl,⟨e.kept.os,e.kept.tape,e.kept.output,e.kept.size,λk ahn hn=>e.kept.block k ahn (λh=>h)⟩,Q,S (Qv G), ?_, ?_⟩
 ·intro b y;obtain⟨i,_,⟨o,l⟩,m⟩:=R b y;have:=(f.fresh i o l).2 b m;rcases this.1 with c | c
  ·exact⟨c,this.2⟩
  ·exact c.elim
 ·intro b y;rcases T b y with c | ⟨i,V,⟨o,l⟩,m⟩
  ·refine⟨?_,λz=>?_⟩
   ·by_cases ahE:b<w.heap.size
    ·by_cases D:b∈q
     ·exact .inl D
     ·refine absurd (.inr ?_) c;rw[f.bars];exact⟨ahE,D⟩
    ·exact .inr (by omega)
   ·obtain⟨j,n,_,p,A⟩:=acZ b z;exact c (.inl ⟨j,n,p,A⟩)
  ·refine⟨?_,λz=>?_⟩
   ·rcases ((f.fresh i o l).2 b m).1 with c | c
    ·exact .inr c
    ·exact c.elim
   ·obtain⟨j,n,X,p,A⟩:=acZ b z;have Y:i≠j:=by
     rintro rfl
     have:=H i V;rw[jw.2 X] at this;cases this
    exact f.sep i j o n Y l p b m (al (f.aC j n p) b A)
theorem ng8(Y:qk P Γ){g:Nat}{fn:Func}{s:C}(F:P.funcs[g]? =some fn)(G:fn.body.isSome=true)(R:(fn.name== "runtime.NumGoroutine")=false)(z:s.ps.length≤fn.ntmps)(H:fn.ntmps<1099511627776)
  (h:∀e,Q (SC s.ps) e→(s.fn e).1=true→∃N,dM P Γ A N fn s e=(true,(s.fn e).2)) {w:aau} {e:List DC} {d:List aaw} {l:List Nat} (q:Gs w s.ps e d l) (I:(s.fn e).1=true) {agh:Ending→aau→Prop}
  (B:∀(st:E) (a:Act) (w':aau),Rel w ⟨λ_=>False,λb=>b<w.heap.size∧b ∉ l,[]⟩ st a w'→W P fn s st=(true,(s.fn e).2)→a.defers=[]∧∃v,(results fn a.tmps).run P w'= .ok v w'∧agh (.returned v) w'):Calls P g d.toArray w agh:=by
 obtain⟨N,t⟩:=h e (Gs.wt _ _ _ _ q) I;obtain⟨c,Z⟩:=Option.isSome_iff_exists.1 G;unfold dM at t;rw[Z] at t;simp only at t;have T:=Gs.length _ _ _ _ q;refine calls_of_wp F Z ?_;let S:Own:=⟨λ_=>False,λb=>b<w.heap.size∧b ∉ l,[]⟩;let β:L:=⟨λ_=>0,λ_=>undef,S.hX,λ_=>[]⟩;have U:=Gs.lt _ _ _ _ q;have J:Rel w S {n:=fn.ntmps,sl:=rU 0 s.ps e,hp:=[],ok:=true,ls:=[],lm:=[]} {tmps:=d.toArray++Nj (fn.ntmps - d.toArray.size) undef,defers:=[]} w:=by
  refine⟨by simp only[Array.size_append,List.size_toArray,Array.size_replicate];rw[Nat.mod_eq_of_lt H];omega,λx m=>by simp[S] at m,rfl,⟨rfl,rfl,rfl,NV _,λ_ _ _=>rfl⟩,β,λ_=>[], ?_⟩;refine⟨λi=>?_,λid o k=>by simp[E.obj,e6] at k,λid o k=>by simp[E.obj,e6] at k,λi j o p _ k=>by simp[E.obj,e6] at k,λb u=>⟨u.1,λh=>h⟩,rfl⟩;have K:∀b∈l,¬oa (e6 []) β b:=by
   intro b u m;rcases m with ⟨id,o,k,_⟩ | m
   ·simp[e6] at k
   ·exact m.2 u
  rcases nm9 (av:=oa (e6 []) β) (β:=β) s.ps e d l 0 q K i with X | ⟨j,v,V,D,M⟩
  ·show O w _ _ (XH (rU 0 s.ps e) i) _;rw[X];simp[O]
  ·have afX:(d.toArray++Nj (fn.ntmps - d.toArray.size) undef).getD i undef=v:=by
    have ahF:j<d.length:=(M9.1 D).1;rw[M8,YX (by simp;omega)];have:i=j:=by omega
    subst this;simp[D]
   rw[afX];exact M
 refine OR (r:=(s.fn e).2) Y c _ {fB:=W P fn s,ext:=λ_ _=>lf,ret:=W P fn s} _ w _ ⟨λst f=>ndy f,λi st f=>absurd f dO,λst f=>ndy f⟩ J t ⟨?_, ?_, ?_⟩
 ·intro st a w' y f;exact B st a w' y f
 ·intro i st a w' _ f;exact absurd f dO
 ·intro st a w' y f;exact B st a w' y f
theorem nif(j:qk P Γ){g:Nat}{fn:Func}{s:C}(d:P.funcs[g]? =some fn)(e:fn.body.isSome=true)(f:(fn.name== "runtime.NumGoroutine")=false)(b:s.ps.length≤fn.ntmps)(k:fn.ntmps<1099511627776)
  (h:∀c,Q (SC s.ps) c→(s.fn c).1=true→∃N,dM P Γ A N fn s c=(true,(s.fn c).2)) (l:s.pt=none:=by rfl):Np P g s:=
 ⟨⟨fn,d,e,f⟩,λw c i q m n=>ng8 j d e f b k h m n λst a w' o p=>nxr l p o⟩
theorem njG(j:qk P Γ){g:Nat}{fn:Func}{s:C}{t:TypeId}{bF:List CT}(d:P.funcs[g]? =some fn)(e:fn.body.isSome=true)(f:(fn.name== "runtime.NumGoroutine")=false)(b:s.ps.length≤fn.ntmps)(k:fn.ntmps<1099511627776)
  (h:∀c,Q (SC s.ps) c→(s.fn c).1=true→∃N,dM P Γ A N fn s c=(true,(s.fn c).2)) (l:s.pt=some (t,bF):=by rfl):VF P g s t bF:=
 ⟨⟨fn,d,e,f⟩,λw c i q m n=>ng8 j d e f b k h m n λst a w' o p=>nar l p o⟩
end
def focus(P:aat)(Γ:Ctx)(A:List (Nat×YJ))(N:Nat):List Bool→List (E→B)→Code→uS→Code×uS
 | [],_,c,K=>(c,K)
 | x::p,is,c,K=>
  match c with
  | .seq a b=>cond x (focus P Γ A N p is b K) (focus P Γ A N p is a {fB:=λs=>run P Γ A N b s K,ext:=K.ext,ret:=K.ret})
  | .cond _ a b=>cond x (focus P Γ A N p is b K) (focus P Γ A N p is a K)
  | .block id a=>focus P Γ A N p is a {fB:=K.fB,ext:=λi s=>cond (MH i id) (K.fB s) (K.ext i s),ret:=K.ret}
  | .loop a=>match is,(Pz a).bind (sT A) with
   | ih::is',some an=>focus P Γ A N p is' a {fB:=λd=>ih (canon P an d),ext:=K.ext,ret:=K.ret}
   | _,_=>(c,K)
  | _=>(c,K)
def n7(P:aat)(Γ:Ctx)(A:List (Nat×YJ))(N:Nat)(fn:Func)(s:C)(p:List Bool)(b:List (E→B))(d:E→B)(st:E):B:=
 match fn.body with
 | some c=>match focus P Γ A N p b c {fB:=W P fn s,ext:=λ_ _=>lf,ret:=W P fn s} with
  | (.loop a,K)=>match (Pz a).bind (sT A) with
   | some an=>run P Γ A N a st {fB:=λe=>d (canon P an e),ext:=K.ext,ret:=K.ret}
   | none=>lf
  | _=>lf
 | none=>lf
def VB(Z:(E→B)→E→B)(n:Nat):E→B:=Nat.rec (motive:=λ_=>E→B) (λ_=>lf) (λ_ a s=>Z a s) n
theorem Ha{α β:Type}{c:Bool}{x y:α}{a b:β}{K:β→α}(d:x=K a)(e:y=K b):(cond c x y)=K (cond c a b):=by
 cases c
 ·exact e
 ·exact d
def jh:C:= {ps:=[],rs:=[],fn:=λ_=>(false,[]),Hl:=true}
theorem o_{P:aat}{g:Nat} :cX P g jh:=trivial
theorem T{P:aat} :qk P []:=λ_ _ h=>by simp[F5] at h
theorem y{P:aat}{g:Nat}{s:C}{Γ:Ctx}(h:cX P g s)(d:qk P Γ):qk P ((g,s)::Γ):=by
 intro c e a;simp only[F5] at a;cases b:MH g c
 ·rw[b] at a;exact d c e a
 ·rw[b] at a;have:=Vs b;subst this;simp only[H,Y] at a;subst a;exact h
def pid(i j:Nat):Nat:=Uc (5000000+i) j
def aa(i:Nat):Nat→List CT→List dy→List DC→List X×List (Nat×xC)
 | _,[],_,_=>([],[])
 | j,.sl e::cs,ts,ds=>
  let q:=aa i (j+1) cs ts.tail ds.tail
  (.own (pid i j)::q.1,(pid i j,Rt (ts.headD (.flat 0)) e (ds.headD default).cG)::q.2)
 | j,.int k::cs,ts,ds=>let q:=aa i (j+1) cs ts ds.tail;(yz (.int k) (ds.headD default)::q.1,q.2)
 | j,.bool::cs,ts,ds=>let q:=aa i (j+1) cs ts ds.tail;(yz .bool (ds.headD default)::q.1,q.2)
 | j,.str::cs,ts,ds=>let q:=aa i (j+1) cs ts ds.tail;(yz .str (ds.headD default)::q.1,q.2)
def yI:Nat→List fG→List (Option ka)→List DC→List (Nat×X)×List (Nat×xC)
 | _,[],_,_=>([],[])
 | i,k::ks,ms,ds=>
  let q:=yI (i+1) ks ms.tail (ds.drop k.bF.length)
  match ms.headD none with
  | none=>((i,cond k.agg (.agg (C4 k.bF ds 0)) ((C4 k.bF ds 0).headD .ga))::q.1,q.2)
  | some (.box t)=>((i,.ptr (pid i 0) 0)::q.1,(pid i 0,.box t (C4 k.bF ds 0))::q.2)
  | some (.rows ts)=>
   let c:=aa i 0 k.bF ts ds
   ((i,cond k.agg (.agg c.1) (c.1.headD .ga))::q.1,c.2++q.2)
  | some (.kv ts)=>
   let c:=aa i 0 k.bF ts ds
   ((i,cond k.agg (.agg c.1) (c.1.headD .ga))::q.1,c.2++q.2)
  | some (.cZ t ts)=>
   let c:=aa i 0 k.bF ts ds
   ((i,.ptr (pid i 62) 0)::q.1,(pid i 62,.box t c.1)::(c.2++q.2))
def R5(e:List CT)(t:dy)(s:X):M (DC×Nat):=
 match s with
 | .own id=> .obj id fun
  | .row t' e' r false _=>match t with
   | .flat t=>cond (MH t' t && cB e' e && Sw e) (.pure (.sl r,id)) (.fail)
   | .deep _ _=> .fail
  | .deep t' e' eu r none=>match t with
   | .flat _=> .fail
   | .deep t its=>cond (MH t' t && cB e' e && UW eu its) (.pure (.sl r,id)) (.fail)
  | _=> .fail
 | _=> .fail
def PZ:List CT→List dy→List X→M (List DC×List Nat)
 | [],_,[]=> .pure ([],[])
 | .sl e::cs,t::ts,s::U=>(R5 e t s).bind λq=>(PZ cs ts U).bind λr=> .pure (q.1::r.1,q.2::r.2)
 | .int _::cs,ts,_::U=>PZ cs ts U
 | .bool::cs,ts,_::U=>PZ cs ts U
 | .str::cs,ts,_::U=>PZ cs ts U
 | _,_,_=> .fail
def x7:List CT→List dy→List X→M (List DC×List Nat)
 | [],[],[]=> .pure ([],[])
 | .sl e::cs,t::ts,s::U=>(R5 e t s).bind λq=>(x7 cs ts U).bind λr=> .pure (q.1::r.1,q.2::r.2)
 | .int k::cs,ts,s::U=>(zo (.int k) s).bind λq=>(x7 cs ts U).bind λr=> .pure (q.1::r.1,r.2)
 | .bool::cs,ts,s::U=>(zo .bool s).bind λq=>(x7 cs ts U).bind λr=> .pure (q.1::r.1,r.2)
 | .str::cs,ts,s::U=>(zo .str s).bind λq=>(x7 cs ts U).bind λr=> .pure (q.1::r.1,r.2)
 | _,_,_=> .fail
def G9:Nat→List fG→List (Option ka)→M (List DC×List Nat)
 | _,[],[]=> .pure ([],[])
 | i,_::ks,none::ms=>G9 (i+1) ks ms
 | i,k::ks,some (.box t)::ms=> .slot i fun
  | .ptr id 0=> .obj id fun
   | .box t' cells=>bif MH t' t then
     (cQ k.bF cells).bind λr=>cond r.2.1.isEmpty ((G9 (i+1) ks ms).bind λq=> .pure (r.1++q.1,id::q.2)) (.fail)
    else .fail
   | _=> .fail
  | _=> .fail
 | i,k::ks,some (.rows ts)::ms=> .slot i λs=>
  (match k.agg,s with
   | true,.agg cs=>PZ k.bF ts cs
   | true,_=> .fail
   | false,.agg _=> .fail
   | false,s=>PZ k.bF ts [s]).bind λr=>(G9 (i+1) ks ms).bind λq=> .pure (r.1++q.1,r.2++q.2)
 | i,_::ks,some (.kv _)::ms=>G9 (i+1) ks ms
 | i,k::ks,some (.cZ t ts)::ms=> .slot i fun
  | .ptr id 0=> .obj id fun
   | .box t' cells=>bif MH t' t then
     (x7 k.bF ts cells).bind λr=>(G9 (i+1) ks ms).bind λq=> .pure (r.1++q.1,id::(r.2++q.2))
    else .fail
   | _=> .fail
  | _=> .fail
 | _,_,_=> .fail
def PI:List dy→Bool
 | []=>true
 | .flat _::l=>PI l
 | .deep _ _::_=>false
def cL:List (Option ka)→Bool
 | []=>true
 | some (.rows ts)::l=>PI ts && cL l
 | some (.kv _)::_=>false
 | some (.cZ _ _)::_=>false
 | some (.box _)::l=>cL l
 | none::l=>cL l
def zD(P:aat)(fn:Func)(s:C)(st:E):B:=
 match ((RD P fn.results.toList).bind λl=>(sG s.rs l).bind λq=>(G9 0 s.ps s.ms).bind λr=> .pure (q,r)).run st.get st.obj with
 | some (((ds,own,im),(od,ids)),_)=>(st.ok && C2 (own++ids) && (cL s.ms || Tl s.ms),ds++od)
 | none=>lf
def vX:List (Option ka)→Nat
 | []=>0
 | m::l=>cond (PR 0 (vX l)) (vX l+1) (cond m.isSome 1 0)
theorem ngL:∀ {l:List (Option ka)} {j:Nat} {m:ka},l[j]? =some (some m)→j<vX l
 | [],j,m,h=>by simp at h
 | x::l,0,m,h=>by simp only[RL,Y] at h;subst h;simp only[vX];cases PR 0 (vX l)<;>simp
 | x::l,j+1,m,h=>by have:=ngL (l:=l) (j:=j) (m:=m) (by simpa using h);simp only[vX];have a:PR 0 (vX l)=true:=YY (by omega);rw[a];simp only[H];omega
def P7(P:aat)(Γ:Ctx)(A:List (Nat×YJ))(N:Nat)(fn:Func)(s:C)(a:List DC):B:=
 match fn.body with
 | some c=>run P Γ A N c {n:=fn.ntmps+vX s.ms*1099511627776,sl:=(yI 0 s.ps s.ms a).1,hp:=(yI 0 s.ps s.ms a).2,ok:=true,ls:=[],lm:=[]} {fB:=zD P fn s,ext:=λ_ _=>lf,ret:=zD P fn s}
 | none=>lf
section
variable {P:aat} {Γ:Ctx} {w0:aau} {S:Own} {A:List (Nat×YJ)} {N:Nat}
variable {f:Nat→X} {h:Nat→Option xC} {β:L} {φ:Nat→List Nat} {tm:Array aaw} {w:aau}
theorem nDG(l:V w0 S f h β φ tm w){e:List CT}{t:dy}{s:X}{v:aaw}{q:DC×Nat}(g:O w (oa h β) β s v)(a:(R5 e t s).val f h=some q):
  ∃d k o,q.1= .sl d∧D5 w t e d v k∧h q.2=some o∧k=ar β q.2 o∧k.Nodup∧(PI [t]=true→k=v.ownBlock.toList):=by
 have B:v.ownBlock.toList.Nodup:=by cases v.ownBlock<;>simp
 unfold R5 at a;cases s with
 | own id=>
  simp only[M.aY,UI] at a;obtain⟨Z,i,a⟩:=a;simp only[O] at g;split at a
  ·rename_i m n r u;cases t with
   | deep t its=>simp at a
   | flat t=>
    simp only at a;cases b:MH m t && cB n e && Sw e
    ·simp[b] at a
    ·simp only[b,H,M.ab,Y] at a;subst a;simp only[Bl] at b;have p:=Vs b.1.1;have x:=uG _ _ b.1.2;subst p x;obtain⟨c,C,j,y,_,_⟩:=l.aC id _ i;rw[←g.1] at j;exact⟨r,v.ownBlock.toList,_,rfl,⟨b.2,c,C,j,y,rfl⟩,i,by simp only[ar,g.1],B,λ_=>rfl⟩
  ·rename_i m n D r;cases t with
   | flat t=>simp at a
   | deep t its=>
    simp only at a;cases b:MH m t && cB n e && UW D its
    ·simp[b] at a
    ·simp only[b,H,M.ab,Y] at a;subst a;simp only[Bl] at b;have p:=Vs b.1.1;have x:=uG _ _ b.1.2;have E:=Xo _ _ b.2;subst p x E;have z:=(l.fresh id _ i).1;obtain⟨c,A,j,y,F,G⟩:=l.aC id _ i;rw[G] at z;rw[←g.1] at j z;exact⟨r,v.ownBlock.toList++A.flatten,_,rfl,⟨c,A,j,y,rfl⟩,i,by simp only[ar,F,g.1],z,λh=>by simp[PI] at h⟩
  ·simp at a
 | _=>simp at a
theorem Ws(u:V w0 S f h β φ tm w):∀(m:List CT) (j:List dy) (U:List X) (x:List aaw) (q:List DC×List Nat),Z w (oa h β) β U x→(PZ m j U).val f h=some q→
  ∃l,jM w m j q.1 x l∧(∀b∈l,∃id∈q.2,∃o,h id=some o∧b∈ar β id o)∧(q.2.Nodup→l.Nodup)∧
   (PI j=true→∀(p:aau) (F:List DC) (r:List Nat),rX p m j F x r→∀b∈r,∃id∈q.2,∃o,h id=some o∧b∈ar β id o)
 | [],j,U,x,q,hs,hq=>by
  cases U with
  | nil=>
   simp only[PZ,M.ab,Y] at hq;subst hq;simp only[Z] at hs;refine⟨[],⟨rfl,hs,rfl⟩,by simp,by simp,λ_ p F r g b c=>?_⟩;simp only[rX] at g;rw[g.2.2.2] at c;simp at c
  | cons s U=>simp[PZ] at hq
 | .int k::m,j,U,x,q,hs,hq=>by
  cases U with
  | nil=>simp[PZ] at hq
  | cons s U=>
   simp only[Z] at hs;obtain⟨v,n,rfl,I,A⟩:=hs;simp only[PZ] at hq;obtain⟨l,B,y,C,D⟩:=Ws u m j U n q A hq;refine⟨l, ?_,y,C,λa p F r g b c=>?_⟩
   ·simp only[jM];exact⟨v,n,rfl,B⟩
   ·simp only[rX] at g;obtain⟨d,E,Q,K,rfl,z,_,g⟩:=g;simp only[List.cons.injEq] at z;obtain⟨rfl,rfl⟩:=z;exact D a p E r g b c
 | .bool::m,j,U,x,q,hs,hq=>by
  cases U with
  | nil=>simp[PZ] at hq
  | cons s U=>
   simp only[Z] at hs;obtain⟨v,n,rfl,I,A⟩:=hs;simp only[PZ] at hq;obtain⟨l,B,y,C,D⟩:=Ws u m j U n q A hq;refine⟨l, ?_,y,C,λa p F r g b c=>?_⟩
   ·simp only[jM];exact⟨v,n,rfl,B⟩
   ·simp only[rX] at g;obtain⟨d,E,Q,K,rfl,z,_,g⟩:=g;simp only[List.cons.injEq] at z;obtain⟨rfl,rfl⟩:=z;exact D a p E r g b c
 | .str::m,j,U,x,q,hs,hq=>by
  cases U with
  | nil=>simp[PZ] at hq
  | cons s U=>
   simp only[Z] at hs;obtain⟨v,n,rfl,I,A⟩:=hs;simp only[PZ] at hq;obtain⟨l,B,y,C,D⟩:=Ws u m j U n q A hq;refine⟨l, ?_,y,C,λa p F r g b c=>?_⟩
   ·simp only[jM];exact⟨v,n,rfl,B⟩
   ·simp only[rX] at g;obtain⟨d,E,Q,K,rfl,z,_,g⟩:=g;simp only[List.cons.injEq] at z;obtain⟨rfl,rfl⟩:=z;exact D a p E r g b c
 | .sl el::m,j,U,x,q,hs,hq=>by
  cases j with
  | nil=>cases U<;>simp[PZ] at hq
  | cons t j=>
   cases U with
   | nil=>simp[PZ] at hq
   | cons s U=>
    simp only[Z] at hs;obtain⟨v,n,rfl,I,A⟩:=hs;simp only[PZ,M.ag,UI,M.ab,Y] at hq;obtain⟨L,aiG,R,ai5,rfl⟩:=hq;obtain⟨l,B,y,C,D⟩:=Ws u m j U n R A ai5;obtain⟨G,T,o,r1,r2,J,N,r5,r6⟩:=nDG u I aiG;refine⟨T++l, ?_,λb c=>?_,λa=>?_,λa p F r g b c=>?_⟩
    ·simp only[jM];exact⟨t,j,G,R.1,v,n,T,l,rfl,by rw[r1],rfl,r2,B,rfl⟩
    ·rcases MC.1 c with c | c
     ·exact⟨L.2,MQ ..,o,J,N ▸ c⟩
     ·obtain⟨i,H,O,P⟩:=y b c;exact⟨i,MI _ H,O,P⟩
    ·simp only[M1] at a;rw[MY];refine⟨r5,C a.2,λb c b' aB e=>?_⟩;subst e;obtain⟨i,H,O,aho,Ac⟩:=y b aB;rw[N] at c;exact u.sep L.2 i o O (λe=>a.1 (e ▸ H)) J aho b (al (u.aC _ _ J) b c) (al (u.aC _ _ aho) b Ac)
    ·simp only[rX] at g;obtain⟨t1,Hi,ME,E,v1,K,m1,gS,ahb,rfl,W,FA,g,rfl⟩:=g;simp only[List.cons.injEq] at ahb W;obtain⟨rfl,rfl⟩:=ahb;obtain⟨rfl,rfl⟩:=W;cases t with
     | deep t its=>simp[PI] at a
     | flat t=>
      obtain⟨_,ah8,aE,_,_,rfl⟩:=FA;rcases MC.1 c with c | c
      ·refine⟨L.2,MQ ..,o,J, ?_⟩;rw[←N,r6 rfl];exact c
      ·obtain⟨i,H,o,P⟩:=D (by simpa only[PI] using a) p E gS g b c;exact⟨i,MI _ H,o,P⟩
theorem cn(j:V w0 S f h β φ tm w):∀(p:List CT) (d:List dy) (U:List X) (z:List aaw) (q:List DC×List Nat),Z w (oa h β) β U z→(x7 p d U).val f h=some q→
  ∃g,rX w p d q.1 z g∧(∀b∈g,∃id∈q.2,∃o,h id=some o∧b∈ar β id o)∧(q.2.Nodup→g.Nodup)
 | [],d,U,z,q,hs,hq=>by
  cases d with
  | cons _ _=>cases U<;>simp[x7] at hq
  | nil=>
  cases U with
  | nil=>
   simp only[x7,M.ab,Y] at hq;subst hq;simp only[Z] at hs;exact⟨[],⟨rfl,rfl,hs,rfl⟩,by simp,by simp⟩
  | cons s U=>simp[x7] at hq
 | .int k::p,d,U,z,q,hs,hq=>by
  cases U with
  | nil=>simp[x7] at hq
  | cons s U=>
   simp only[Z] at hs;obtain⟨v,l,rfl,A,B⟩:=hs;simp only[x7,M.ag,UI,M.ab,Y] at hq;obtain⟨r,C,m,D,rfl⟩:=hq;obtain⟨L,u,_⟩:=km j A C;obtain⟨g,E,x,F⟩:=cn j p d U l m B D;refine⟨g, ?_,x,F⟩;simp only[rX];refine⟨r.1,m.1,v,l,rfl,rfl, ?_,E⟩;simp only[Z8] at u ⊢;obtain⟨n,a,b,c,_⟩:=u;exact⟨n,a,b,c,trivial⟩
 | .bool::p,d,U,z,q,hs,hq=>by
  cases U with
  | nil=>simp[x7] at hq
  | cons s U=>
   simp only[Z] at hs;obtain⟨v,l,rfl,A,B⟩:=hs;simp only[x7,M.ag,UI,M.ab,Y] at hq;obtain⟨r,C,m,D,rfl⟩:=hq;obtain⟨L,u,_⟩:=km j A C;obtain⟨g,E,x,F⟩:=cn j p d U l m B D;refine⟨g, ?_,x,F⟩;simp only[rX];refine⟨r.1,m.1,v,l,rfl,rfl, ?_,E⟩;simp only[Z8] at u ⊢;obtain⟨n,a,b,_⟩:=u;exact⟨n,a,b,trivial⟩
 | .str::p,d,U,z,q,hs,hq=>by
  cases U with
  | nil=>simp[x7] at hq
  | cons s U=>
   simp only[Z] at hs;obtain⟨v,l,rfl,A,B⟩:=hs;simp only[x7,M.ag,UI,M.ab,Y] at hq;obtain⟨r,C,m,D,rfl⟩:=hq;obtain⟨L,u,_⟩:=km j A C;obtain⟨g,E,x,F⟩:=cn j p d U l m B D;refine⟨g, ?_,x,F⟩;simp only[rX];refine⟨r.1,m.1,v,l,rfl,rfl, ?_,E⟩;simp only[Z8] at u ⊢;obtain⟨n,a,b,c,_⟩:=u;exact⟨n,a,b,c,trivial⟩
 | .sl el::p,d,U,z,q,hs,hq=>by
  cases d with
  | nil=>cases U<;>simp[x7] at hq
  | cons t d=>
   cases U with
   | nil=>simp[x7] at hq
   | cons s U=>
    simp only[Z] at hs;obtain⟨v,l,rfl,A,B⟩:=hs;simp only[x7,M.ag,UI,M.ab,Y] at hq;obtain⟨r,C,m,D,rfl⟩:=hq;obtain⟨g,E,x,F⟩:=cn j p d U l m B D;obtain⟨H,N,o,Q,R,I,O,T,ah9⟩:=nDG j A C;refine⟨N++g, ?_,λb y=>?_,λG=>?_⟩
    ·simp only[rX];exact⟨t,d,H,m.1,v,l,N,g,rfl,by rw[Q],rfl,R,E,rfl⟩
    ·rcases MC.1 y with y | y
     ·exact⟨r.2,MQ ..,o,I,O ▸ y⟩
     ·obtain⟨i,J,K,ahp⟩:=x b y;exact⟨i,MI _ J,K,ahp⟩
    ·simp only[M1] at G;rw[MY];refine⟨T,F G.2,λb y aiH ai6 e=>?_⟩;subst e;obtain⟨i,J,K,P,W⟩:=x b ai6;rw[O] at y;exact j.sep r.2 i o K (λe=>G.1 (e ▸ J)) I P b (al (j.aC _ _ I) b y) (al (j.aC _ _ P) b W)
theorem L7(n:V w0 S f h β φ tm w):∀(i:Nat) (aec:List fG) (p:List (Option ka)) (r:List aaw) (q:List DC×List Nat),(∀(j:Nat) v m,r[j]? =some v→p[j]? =some (some m)→tm.getD (i+j) undef=v)→r.length=aec.length→(G9 i aec p).val f h=some q→
  ∃A B,qG w aec p q.1 r A B∧(∀b∈A,¬oa h β b)∧(Tl p=true→A=[])∧(∀b∈B,∃id∈q.2,∃o,h id=some o∧b∈ar β id o)∧(q.2.Nodup→B.Nodup)∧
   (cL p=true→∀(I:aau) (ds:List DC) (fp P:List Nat),OO I aec p ds r fp P→∀b∈P,∃id∈q.2,∃o,h id=some o∧b∈ar β id o)
 | i,[],p,r,q,hv,hl,c=>by
  cases p with
  | nil=>
   simp only[G9,M.ab,Y] at c;subst c;have hl:r=[]:=YV.1 hl;subst hl;refine⟨[],[],⟨rfl,rfl,rfl,rfl⟩,by simp,λ_=>rfl,by simp,by simp,λ_ I ds fp P y b a=>?_⟩;simp only[OO] at y;rw[y.2.2.2.2] at a;simp at a
  | cons m p=>simp[G9] at c
 | i,k::aec,p,r,q,hv,hl,c=>by
  cases p with
  | nil=>simp[G9] at c
  | cons m p=>
   cases r with
   | nil=>simp at hl
   | cons v r=>
    have hv':∀(j:Nat) u m,r[j]? =some u→p[j]? =some (some m)→tm.getD (i+1+j) undef=u:=λj u m' hu y=>by have:=hv (j+1) u m' (by simpa using hu) (by simpa using y);rw[show i+1+j=i+(j+1) by omega];exact this
    have EW:r.length=aec.length:=by simpa using hl
    have E:=n.cx i;cases m with
    | none=>
     simp only[G9] at c;obtain⟨A,B,Q,R,W,F,T,k3⟩:=L7 n (i+1) aec p r q hv' EW c;refine⟨A,B,⟨none,p,[],q.1,v,r,[],A,[],B,rfl,rfl,rfl,⟨rfl,rfl,rfl⟩,Q,rfl,rfl⟩,R,W,F,T,λd I ds fp P y b a=>?_⟩;simp only[OO] at y;obtain⟨m',EY,d1,d2,v',c9,f1,f2,b1,b2,X,rfl,aiI,K,y,rfl,rfl⟩:=y;simp only[List.cons.injEq] at X aiI;obtain⟨rfl,rfl⟩:=X;obtain⟨rfl,rfl⟩:=aiI;simp only[xB] at K;rw[K.2] at a;exact k3 d I d2 f2 b2 y b (by simpa using a)
    | some m=>
     have HF:tm.getD i undef=v:=hv 0 v m rfl rfl;rw[HF] at E;cases m with
     | box t=>
      simp only[G9,M.jl] at c;cases fR:f i with
      | ptr id off=>
       rw[fR] at c E;cases off with
       | succ off=>simp at c
       | zero=>
        simp only[M.aY,UI] at c;obtain⟨ob,L,c⟩:=c;cases ob with
        | box t' cells=>
         simp only at c;cases lC:MH t' t
         ·simp[lC] at c
         ·have lD:=Vs lC;subst lD;simp only[lC,H,M.ag,UI] at c;obtain⟨C,G,c⟩:=c;cases Gw:C.2.1.isEmpty
          ·simp[Gw] at c
          ·simp only[Gw,H,M.ag,UI,M.ab,Y] at c;obtain⟨ai7,cM,rfl⟩:=c;obtain⟨A,B,Q,R,W,F,T,k3⟩:=L7 n (i+1) aec p r ai7 hv' EW cM;obtain⟨D,g1,g2,g3,_⟩:=n.aC id _ L;obtain⟨mF,hr,GW,ky,_⟩:=Ok n k.bF cells D C g2 G;have hlc:=Z.length _ _ g2;have kD:=QF _ _ _ G;simp only[O] at E;have Ls:C.2.1=[]:=List.isEmpty_iff.1 Gw;refine⟨mF++A,[β.cY id]++B,⟨some (.box t'),p,C.1,ai7.1,v,r,mF,A,[β.cY id],B,rfl,rfl,rfl,⟨β.cY id,D,E,g1,g3,hr,by omega,rfl⟩,Q,rfl,rfl⟩, ?_,λh=>by simp[Tl] at h,λb a=>?_,λd=>?_,λd I ds fp P y b a=>?_⟩
           ·intro b a;rcases MC.1 a with a | a
            ·rcases ky b a with h3 | ⟨x,hx,h3⟩
             ·exact h3
             ·rw[Ls] at hx;simp at hx
            ·exact R b a
           ·rcases MC.1 a with a | a
            ·exact⟨id,MQ ..,_,L,by simpa only[ar] using a⟩
            ·obtain⟨j,l,o,z⟩:=F b a;exact⟨j,MI _ l,o,z⟩
           ·simp only[M1] at d;rw[MY];refine⟨by simp,T d.2,λb a b' aB e=>?_⟩;subst e;obtain⟨j,l,N,aeY,U⟩:=F b aB;exact n.sep id j _ N (λe=>d.1 (e ▸ l)) L aeY b (al (n.aC _ _ L) b (by simpa only[ar] using a)) (al (n.aC _ _ aeY) b U)
           ·simp only[OO] at y;obtain⟨m',EY,d1,d2,v',c9,f1,f2,b1,b2,X,rfl,aiI,K,y,rfl,rfl⟩:=y;simp only[List.cons.injEq] at X aiI;obtain⟨rfl,rfl⟩:=X;obtain⟨rfl,rfl⟩:=aiI;simp only[xB] at K;obtain⟨g,GI,ev,_,_,_,_,rfl⟩:=K;rcases MC.1 a with a | a
            ·refine⟨id,MQ ..,_,L, ?_⟩;rw[E] at ev;simp only[Value.pointer.injEq,Y,Addr.mk.injEq,and_true] at ev;simp only[ar];rw[ev];exact a
            ·obtain⟨j,l,o,z⟩:=k3 d I d2 f2 b2 y b a;exact⟨j,MI _ l,o,z⟩
        | row _ _ _ _ _=>simp at c
        | eV _ _=>simp at c
        | deep _ _ _ _ _=>simp at c
      | _=>rw[fR] at c;simp at c
     | rows ts=>
      simp only[G9,M.jl,M.ag,UI,M.ab,Y] at c;obtain⟨C,G,ai7,cM,rfl⟩:=c;obtain⟨A,B,Q,R,W,F,T,k3⟩:=L7 n (i+1) aec p r ai7 hv' EW cM;have one:∃D:List aaw,(cond k.agg (v= .agg D.toArray) (D=[v]))∧∃afY,jM w k.bF ts C.1 D afY∧(∀b∈afY,∃id∈C.2,∃o,h id=some o∧b∈ar β id o)∧(C.2.Nodup→afY.Nodup)∧
        (PI ts=true→∀(I:aau) (ds:List DC) (P:List Nat),rX I k.bF ts ds D P→∀b∈P,∃id∈C.2,∃o,h id=some o∧b∈ar β id o):=by
       cases hk:k.agg with
       | true=>
        generalize f i=s at G E;cases s with
        | agg cs=>
         simp only[hk] at G;simp only[O] at E;obtain⟨D,rfl,ahc,bo⟩:=E;exact⟨D,rfl,Ws n k.bF ts cs D C ahc G⟩
        | _=>simp[hk] at G
       | false=>
        generalize f i=s at G E;have mu:(PZ k.bF ts [s]).val f h=some C:=by
         cases s<;>simp only[hk] at G<;>first | exact G | (simp at G)
        have iW:Z w (oa h β) β [s] [v]:=by simp only[Z];exact⟨v,[],rfl,E,rfl⟩
        exact⟨[v],rfl,Ws n k.bF ts [s] [v] C iW mu⟩
      obtain⟨D,ahc,afY,r1,r3,r4,r2⟩:=one;refine⟨A,afY++B,⟨some (.rows ts),p,C.1,ai7.1,v,r,[],A,afY,B,rfl,rfl,rfl,⟨D,ahc,r1,rfl⟩,Q,rfl,rfl⟩,R,λh=>W (by simpa only[Tl] using h),λb a=>?_,λd=>?_,λd I ds fp P y b a=>?_⟩
      ·rcases MC.1 a with a | a
       ·obtain⟨j,l,o,z⟩:=r3 b a;exact⟨j,Ss _ l,o,z⟩
       ·obtain⟨j,l,o,z⟩:=F b a;exact⟨j,wZ _ l,o,z⟩
      ·rw[MY] at d;obtain⟨n1,n2,n3⟩:=d;rw[MY];refine⟨r4 n1,T n2,λb a b' aB e=>?_⟩;subst e;obtain⟨i1,Kw,o1,HC,Gu⟩:=r3 b a;obtain⟨j,l,N,aeY,U⟩:=F b aB;exact n.sep i1 j o1 N (λe=>n3 i1 Kw j l e) HC aeY b (al (n.aC _ _ HC) b Gu) (al (n.aC _ _ aeY) b U)
      simp only[cL,Bl] at d;simp only[OO] at y;obtain⟨m',EY,d1,d2,v',c9,f1,f2,b1,b2,X,rfl,aiI,K,y,rfl,rfl⟩:=y;simp only[List.cons.injEq] at X aiI;obtain⟨rfl,rfl⟩:=X;obtain⟨rfl,rfl⟩:=aiI;simp only[xB] at K;obtain⟨GI,CC,_,K,_⟩:=K;have hue:GI=D:=by
       cases hk:k.agg with
       | true=>
        rw[hk] at ahc CC;simp only[H] at ahc CC;rw[ahc] at CC;simp only[Value.agg.injEq] at CC;simpa using (congrArg Array.toList CC).symm
       | false=>
        rw[hk] at ahc CC;simp only[J] at ahc CC;rw[ahc,CC.1]
      subst hue;rcases MC.1 a with a | a
      ·obtain⟨j,l,o,z⟩:=r2 d.1 I d1 b1 K b a;exact⟨j,Ss _ l,o,z⟩
      ·obtain⟨j,l,o,z⟩:=k3 d.2 I d2 f2 b2 y b a;exact⟨j,wZ _ l,o,z⟩
     | kv ts=>
      simp only[G9] at c;obtain⟨A,B,Q,R,W,F,T,k3⟩:=L7 n (i+1) aec p r q hv' EW c;exact⟨A,B,⟨some (.kv ts),p,[],q.1,v,r,[],A,[],B,rfl,rfl,rfl,⟨rfl,rfl,rfl⟩,Q,rfl,rfl⟩,R,λh=>W (by simpa only[Tl] using h),F,T,λd=>by simp[cL] at d⟩
     | cZ t ts=>
      simp only[G9,M.jl] at c;cases fR:f i with
      | ptr id off=>
       rw[fR] at c E;cases off with
       | succ off=>simp at c
       | zero=>
        simp only[M.aY,UI] at c;obtain⟨ob,L,c⟩:=c;cases ob with
        | box t' cells=>
         simp only at c;cases lC:MH t' t
         ·simp[lC] at c
         ·have lD:=Vs lC;subst lD;simp only[lC,H,M.ag,UI,M.ab,Y] at c;obtain⟨C,G,ai7,cM,rfl⟩:=c;obtain⟨A,B,Q,R,W,F,T,k3⟩:=L7 n (i+1) aec p r ai7 hv' EW cM;obtain⟨D,g1,g2,g3,_⟩:=n.aC id _ L;obtain⟨afY,r1,r2,r3⟩:=cn n k.bF ts cells D C g2 G;simp only[O] at E;refine⟨A,(β.cY id::afY)++B,⟨some (.cZ t' ts),p,C.1,ai7.1,v,r,[],A,β.cY id::afY,B,rfl,rfl,rfl,⟨β.cY id,D,afY,E,g1,g3,r1,rfl,rfl⟩,Q,rfl,rfl⟩,R,λh=>W (by simpa only[Tl] using h),λb a=>?_,λd=>?_,λd=>by simp[cL] at d⟩
          ·simp only[Ri,ML,MC] at a;rcases a with rfl | a | a
           ·exact⟨id,MQ ..,_,L,by simp only[ar];exact MB.2 rfl⟩
           ·obtain⟨j,l,o,z⟩:=r2 b a;exact⟨j,MI _ (Ss _ l),o,z⟩
           ·obtain⟨j,l,o,z⟩:=F b a;exact⟨j,MI _ (wZ _ l),o,z⟩
          ·simp only[M1,MC,not_or,MY] at d;obtain⟨⟨n1,n2⟩,n3,n4,n5⟩:=d;have Ba:∀j N,j≠id→h j=some N→β.cY id ∉ ar β j N:=by intro j N l aeY a;exact n.sep id j _ N (Ne.symm l) L aeY _ (al (n.aC _ _ L) _ (by simp only[ar];exact MB.2 rfl)) (al (n.aC _ _ aeY) _ a)
           rw[Ri,M1,MY];refine⟨λa=>?_,r3 n3,T n4,λb a b' aB e=>?_⟩
           ·rcases MC.1 a with a | a
            ·obtain⟨j,l,o,z,U⟩:=r2 _ a;exact Ba j o (λe=>n1 (e ▸ l)) z U
            ·obtain⟨j,l,o,z,U⟩:=F _ a;exact Ba j o (λe=>n2 (e ▸ l)) z U
           ·subst e;obtain⟨i1,Kw,o1,HC,Gu⟩:=r2 b a;obtain⟨j,l,N,aeY,U⟩:=F b aB;exact n.sep i1 j o1 N (λe=>n5 i1 Kw j l e) HC aeY b (al (n.aC _ _ HC) b Gu) (al (n.aC _ _ aeY) b U)
        | row _ _ _ _ _=>simp at c
        | eV _ _=>simp at c
        | deep _ _ _ _ _=>simp at c
      | _=>rw[fR] at c;simp at c
end
structure kt where
 id:Nat
 o:xC
 cY:Nat
 val:aaw
 φ:List Nat
 nb:List Nat
def kt.ok(w:aau)(a:Nat→Prop)(β:L)(x:kt):Prop:=zC w a β x.id x.o x.φ∧ar β x.id x.o=x.φ
section
variable {P:aat} {Γ:Ctx} {A:List (Nat×YJ)} {w:aau} {i:Nat}
theorem VN:∀(j:Nat) (f:List CT) (g:List dy) (q:List DC) (s:List aaw) (n:List Nat),rX w f g q s n→
  ∃E:List kt,(aa i j f g q).2=E.map (λx=>(x.id,x.o))∧E.flatMap (·.φ)=n∧∀(b:Nat→Prop) (β:L),(∀x∈E,β.cY x.id=x.cY∧β.val x.id=x.val∧β.nb x.id=x.nb)→
   Z w b β (aa i j f g q).1 s∧∀x∈E,x.ok w b β
 | j,[],g,q,s,n,a=>by simp only[rX] at a;obtain⟨rfl,rfl,rfl,rfl⟩:=a;exact⟨[],rfl,rfl,λb β _=>⟨by simp[aa,Z],by simp⟩⟩
 | j,.int k::f,g,q,s,n,a=>by simp only[rX] at a;obtain⟨d,u,v,h,rfl,rfl,p,a⟩:=a;obtain⟨E,y,z,A⟩:=VN (j+1) f g u h n a;refine⟨E,by simpa only[aa,MS] using y,z,λb β r=>?_⟩;obtain⟨B,C⟩:=A b β r;refine⟨?_,C⟩;simp only[aa,MW,MS,Z];exact⟨v,h,rfl,WH p (by simp),B⟩
 | j,.bool::f,g,q,s,n,a=>by simp only[rX] at a;obtain⟨d,u,v,h,rfl,rfl,p,a⟩:=a;obtain⟨E,y,z,A⟩:=VN (j+1) f g u h n a;refine⟨E,by simpa only[aa,MS] using y,z,λb β r=>?_⟩;obtain⟨B,C⟩:=A b β r;refine⟨?_,C⟩;simp only[aa,MW,MS,Z];exact⟨v,h,rfl,WH p (by simp),B⟩
 | j,.str::f,g,q,s,n,a=>by simp only[rX] at a;obtain⟨d,u,v,h,rfl,rfl,p,a⟩:=a;obtain⟨E,y,z,A⟩:=VN (j+1) f g u h n a;refine⟨E,by simpa only[aa,MS] using y,z,λb β r=>?_⟩;obtain⟨B,C⟩:=A b β r;refine⟨?_,C⟩;simp only[aa,MW,MS,Z];exact⟨v,h,rfl,WH p (by simp),B⟩
 | j,.sl e::f,g,q,s,n,a=>by
  simp only[rX] at a;obtain⟨t,M,l,u,v,h,H,N,rfl,rfl,rfl,I,a,rfl⟩:=a;obtain⟨E,y,z,A⟩:=VN (j+1) f M u h N a;have D:∃nb:List Nat,∀(b:Nat→Prop) (β:L),β.val (pid i j)=v→β.nb (pid i j)=nb→zC w b β (pid i j) (Rt t e l) H∧ar β (pid i j) (Rt t e l)=H:=by
   cases t with
   | flat t=>
    obtain⟨K,m,Y,p,F,rfl⟩:=I;refine⟨[],λb β c J=>⟨⟨m,Y,by rw[c];exact p,F,by rw[eT K F];simp, ?_⟩, ?_⟩⟩
    ·rw[c,eT K F];simp
    ·simp only[Rt,ar,c]
   | deep t its=>
    obtain⟨m,T,p,F,rfl⟩:=I;exact⟨T.flatten,λb β c J=>⟨⟨m,T,by rw[c];exact p,F,J,by rw[c]⟩,by simp only[Rt,ar,c,J]⟩⟩
  obtain⟨nb,D⟩:=D;refine⟨⟨pid i j,Rt t e l,0,v,H,nb⟩::E, ?_, ?_,λb β r=>?_⟩
  ·simp only[aa,MW,MS,NG,y,DC.cG]
  ·simp only[YZ,z]
  ·obtain⟨B,C⟩:=A b β (λx G=>r x (MI _ G));have c:=(r _ (MQ ..)).2;simp only at c;refine⟨?_,λx G=>?_⟩
   ·simp only[aa,MW,MS,Z];refine⟨v,h,rfl, ?_,B⟩;simp only[O];exact⟨c.1.symm,I.one⟩
   ·rcases ML.1 G with rfl | G
    ·exact D b β c.1 c.2
    ·exact C x G
theorem D5.lt{t:dy}{e:List CT}{a:List (List DC)}{v:aaw}{g:List Nat}(h:D5 w t e a v g):∀b∈g,b<w.heap.size:=by
 cases t with
 | flat t=>
  obtain⟨_,c,j,f,_,rfl⟩:=h;exact f.lt
 | deep t its=>
  obtain⟨c,k,f,i,rfl⟩:=h;intro b d;rcases MC.1 d with d | d
  ·exact f.lt b d
  ·exact i.lt b d
theorem D5.reads{t:dy}{e:List CT}{b:List (List DC)}{v:aaw}{g:List Nat}(h:D5 w t e b v g):∃i a c,pz w i e.length false v b.length a∧Uv w e b a c:=by
 cases t with
 | flat t=>
  obtain⟨_,a,c,d,f,_⟩:=h;exact⟨t,a,c,d,f⟩
 | deep t its=>
  obtain⟨a,k,d,f,_⟩:=h;obtain⟨c,j,_⟩:=f.reads;exact⟨t,a,c,d,j⟩
theorem rX.length:∀(a:List CT) (b:List dy) (f:List DC) (j:List aaw) (c:List Nat),rX w a b f j c→f.length=a.length
 | [],b,f,j,c,h=>by simp only[rX] at h;simp[h.2.1]
 | .sl e::a,b,f,j,c,h=>by simp only[rX] at h;obtain⟨t,m,l,g,v,i,o,n,rfl,rfl,rfl,_,h,_⟩:=h;simp[rX.length a m g i n h]
 | .int k::a,b,f,j,c,h=>by simp only[rX] at h;obtain⟨d,g,v,i,rfl,rfl,_,h⟩:=h;simp[rX.length a b g i c h]
 | .bool::a,b,f,j,c,h=>by simp only[rX] at h;obtain⟨d,g,v,i,rfl,rfl,_,h⟩:=h;simp[rX.length a b g i c h]
 | .str::a,b,f,j,c,h=>by simp only[rX] at h;obtain⟨d,g,v,i,rfl,rfl,_,h⟩:=h;simp[rX.length a b g i c h]
theorem NX:∀(j:Nat) (b:List CT) (d:List dy) (a e:List DC),b.length≤a.length→aa i j b d (a++e)=aa i j b d a
 | _,[],_,_,_,_=>rfl
 | j,c::b,d,a,e,hl=>by
  cases a with
  | nil=>simp at hl
  | cons x a=>
   have f:b.length≤a.length:=by simpa using hl
   cases c<;>simp only[Ri,aa,MW,MS]<;>rw[NX _ b _ a e f]
theorem nyt:∀(i:Nat) (afZ:List fG) (G:List (Option ka)) (P:List DC) (aed:List aaw) (Y ai8:List Nat),OO w afZ G P aed Y ai8→
  ∃E:List kt,(yI i afZ G P).2=E.map (λx=>(x.id,x.o))∧E.flatMap (·.φ)=ai8∧∀(av:Nat→Prop) (β:L),(∀x∈E,β.cY x.id=x.cY∧β.val x.id=x.val∧β.nb x.id=x.nb)→(∀b∈Y,¬av b)→
   (∀n,XH (yI i afZ G P).1 n= .ga∨∃j v,n=i+j∧aed[j]? =some v∧O w av β (XH (yI i afZ G P).1 n) v)∧∀x∈E,x.ok w av β
 | i,[],G,P,aed,Y,ai8,K=>by simp only[OO] at K;obtain⟨rfl,rfl,rfl,rfl,rfl⟩:=K;exact⟨[],rfl,rfl,λav β _ _=>⟨λn=> .inl rfl,by simp⟩⟩
 | i,k::afZ,G,P,aed,Y,ai8,K=>by
  simp only[OO] at K;obtain⟨m,G,d,f,v,aed,f1,f2,b1,b2,rfl,rfl,rfl,p,K,rfl,rfl⟩:=K;obtain⟨E,Q,R,S⟩:=nyt (i+1) afZ G f aed f2 b2 K;have step:∀(av:Nat→Prop) (β:L) (s:X) (l:List (Nat×X)),(∀n,XH l n= .ga∨∃j u,n=i+1+j∧aed[j]? =some u∧O w av β (XH l n) u)→O w av β s v→
    ∀n,XH ((i,s)::l) n= .ga∨∃j u,n=i+j∧(v::aed)[j]? =some u∧O w av β (XH ((i,s)::l) n) u:=by
   intro av β s l z hs n;simp only[XH];cases afo:MH i n
   ·simp only[J];rcases z n with h3 | ⟨j,u,hn,hj,hu⟩
    ·exact .inl h3
    ·exact .inr ⟨j+1,u,by omega,by simpa using hj,hu⟩
   ·have:=Vs afo;subst this;simp only[H];exact .inr ⟨0,v,rfl,rfl,hs⟩
  cases m with
  | none=>
   simp only[xB] at p;obtain⟨p,rfl⟩:=p;have z:d.length=k.bF.length:=by obtain⟨A,_,_,hr,_⟩:=p;exact bj.length _ _ _ _ hr
   have h:(d++f).drop k.bF.length=f:=by rw[←z,NW]
   refine⟨E,by simp only[yI,MW,MS,h,Q],by simpa using R,λav β c B=>?_⟩;obtain⟨D,F⟩:=S av β c (λb c=>B b (wZ _ c));refine⟨?_,F⟩;simp only[yI,MW,MS,h];refine step av β _ _ D ?_;rw[sY _ _ _ _ (by omega)];exact ncZ p (λb c=>B b (Ss _ c))
  | some m=>
   cases m with
   | box t=>
    simp only[xB] at p;obtain⟨g,A,rfl,hg,M,hr,hlu,rfl⟩:=p;have z:d.length=k.bF.length:=bj.length _ _ _ _ hr;have h:(d++f).drop k.bF.length=f:=by rw[←z,NW]
    refine⟨⟨pid i 0,.box t (C4 k.bF d 0),g,undef,[g],[]⟩::E, ?_,by simp[R],λav β c B=>?_⟩
    ·simp only[yI,MW,MS,h,Q,NG];rw[sY _ _ _ _ (by omega)]
    ·obtain⟨D,F⟩:=S av β (λx a=>c x (MI _ a)) (λb c=>B b (wZ _ c));have C:=(c _ (MQ ..)).1;simp only at C;refine⟨?_,λx a=>?_⟩
     ·simp only[yI,MW,MS,h];refine step av β _ _ D ?_;simp only[O,C]
     ·rcases ML.1 a with rfl | a
      ·obtain⟨c9,l1,l2,l3,l4⟩:=bj.b7 (β:=β) (av:=av) hr (λb c=>B b (Ss _ c)) k.bF.length 0 (by omega);have ee:c9=A:=by
        apply YW;intro j;by_cases hj:j<c9.length
        ·have:=l2 j c9[j] (by simp);simp only[Nat.zero_add] at this;rw[this];simp
        ·rw[Pd (by omega),Pd (by omega)]
       subst ee;simp only[List.drop_zero,List.take_length] at l3;exact⟨⟨c9,by rw[C];exact hg,l3,M,by simp only[C]⟩,by simp only[ar,C]⟩
      ·exact F x a
   | rows ts=>
    simp only[xB] at p;obtain⟨A,r,M,I,rfl⟩:=p;obtain⟨T,U,V,W⟩:=VN (i:=i) 0 k.bF ts d A b1 I;have z:d.length=k.bF.length:=rX.length _ _ _ _ _ I;have h:(d++f).drop k.bF.length=f:=by rw[←z,NW]
    have aeZ:aa i 0 k.bF ts (d++f)=aa i 0 k.bF ts d:=NX _ _ _ _ _ (by omega);refine⟨T++E, ?_,by simp[V,R],λav β c B=>?_⟩
    ·simp only[yI,MW,MS,h,aeZ,Q,U,Xs]
    ·obtain⟨D,F⟩:=S av β (λx a=>c x (wZ _ a)) (λb c=>B b (by simpa using c));obtain⟨e,ah_⟩:=W av β (λx a=>c x (Ss _ a));refine⟨?_,λx a=>?_⟩
     ·simp only[yI,MW,MS,h,aeZ];refine step av β _ _ D ?_;cases afo:k.agg with
      | true=>
       rw[afo] at r;simp only[H] at r ⊢;simp only[O];exact⟨A,r,e,M⟩
      | false=>
       rw[afo] at r;simp only[J] at r ⊢;rw[r.1] at e;generalize (aa i 0 k.bF ts d).1=q at e;cases q with
       | nil=>simp[Z] at e
       | cons y l=>
        simp only[Z] at e;obtain⟨v',l',N,e5,_⟩:=e;injection N with N;subst N;simpa using e5
     ·rcases MC.1 a with a | a
      ·exact ah_ x a
      ·exact F x a
   | kv ts=>
    simp only[xB] at p;obtain⟨A,r,M,I,rfl⟩:=p;obtain⟨T,U,V,W⟩:=VN (i:=i) 0 k.bF ts d A b1 I;have z:d.length=k.bF.length:=rX.length _ _ _ _ _ I;have h:(d++f).drop k.bF.length=f:=by rw[←z,NW]
    have aeZ:aa i 0 k.bF ts (d++f)=aa i 0 k.bF ts d:=NX _ _ _ _ _ (by omega);refine⟨T++E, ?_,by simp[V,R],λav β c B=>?_⟩
    ·simp only[yI,MW,MS,h,aeZ,Q,U,Xs]
    ·obtain⟨D,F⟩:=S av β (λx a=>c x (wZ _ a)) (λb c=>B b (by simpa using c));obtain⟨e,ah_⟩:=W av β (λx a=>c x (Ss _ a));refine⟨?_,λx a=>?_⟩
     ·simp only[yI,MW,MS,h,aeZ];refine step av β _ _ D ?_;cases afo:k.agg with
      | true=>
       rw[afo] at r;simp only[H] at r ⊢;simp only[O];exact⟨A,r,e,M⟩
      | false=>
       rw[afo] at r;simp only[J] at r ⊢;rw[r.1] at e;generalize (aa i 0 k.bF ts d).1=q at e;cases q with
       | nil=>simp[Z] at e
       | cons y l=>
        simp only[Z] at e;obtain⟨v',l',N,e5,_⟩:=e;injection N with N;subst N;simpa using e5
     ·rcases MC.1 a with a | a
      ·exact ah_ x a
      ·exact F x a
   | cZ t ts=>
    simp only[xB] at p;obtain⟨g,A,mm,rfl,hg,M,I,rfl,rfl⟩:=p;obtain⟨T,U,V,W⟩:=VN (i:=i) 0 k.bF ts d A mm I;have z:d.length=k.bF.length:=rX.length _ _ _ _ _ I;have h:(d++f).drop k.bF.length=f:=by rw[←z,NW]
    have aeZ:aa i 0 k.bF ts (d++f)=aa i 0 k.bF ts d:=NX _ _ _ _ _ (by omega);refine⟨⟨pid i 62,.box t (aa i 0 k.bF ts d).1,g,undef,[g],[]⟩::(T++E), ?_,by simp[V,R],λav β c B=>?_⟩
    ·simp only[yI,MW,MS,h,aeZ,Q,U,Xs,NG]
    ·obtain⟨D,F⟩:=S av β (λx a=>c x (MI _ (wZ _ a))) (λb c=>B b (by simpa using c));obtain⟨e,ah_⟩:=W av β (λx a=>c x (MI _ (Ss _ a)));have C:=(c _ (MQ ..)).1;simp only at C;refine⟨?_,λx a=>?_⟩
     ·simp only[yI,MW,MS,h,aeZ];refine step av β _ _ D ?_;simp only[O,C]
     ·rcases ML.1 a with rfl | a
      ·exact⟨⟨A,by rw[C];exact hg,e,M,by simp only[C]⟩,by simp only[ar,C]⟩
      ·rcases MC.1 a with a | a
       ·exact ah_ x a
       ·exact F x a
theorem rX.lt:∀(c:List CT) (f:List dy) (j:List DC) (l:List aaw) (a:List Nat),rX w c f j l a→∀b∈a,b<w.heap.size
 | [],f,j,l,a,h=>by simp only[rX] at h;simp[h.2.2.2]
 | .sl e::c,f,j,l,a,h=>by
  simp only[rX] at h;obtain⟨t,o,n,g,v,i,r,p,rfl,rfl,rfl,q,h,rfl⟩:=h;intro b m;rcases MC.1 m with m | m
  ·exact q.lt b m
  ·exact rX.lt c o g i p h b m
 | .int k::c,f,j,l,a,h=>by simp only[rX] at h;obtain⟨d,g,v,i,rfl,rfl,_,h⟩:=h;exact rX.lt c f g i a h
 | .bool::c,f,j,l,a,h=>by simp only[rX] at h;obtain⟨d,g,v,i,rfl,rfl,_,h⟩:=h;exact rX.lt c f g i a h
 | .str::c,f,j,l,a,h=>by simp only[rX] at h;obtain⟨d,g,v,i,rfl,rfl,_,h⟩:=h;exact rX.lt c f g i a h
theorem OO.facts:∀(f:List fG) (o:List (Option ka)) (p:List DC) (i:List aaw) (j l:List Nat),OO w f o p i j l→(∀b∈l,b<w.heap.size)∧(∀b∈j,b<w.heap.size)∧i.length=f.length
 | [],o,p,i,j,l,h=>by simp only[OO] at h;obtain⟨_,_,rfl,rfl,rfl⟩:=h;simp
 | k::f,o,p,i,j,l,h=>by
  simp only[OO] at h;obtain⟨m,s,F,u,v,x,y,z,A,B,rfl,rfl,rfl,c,h,rfl,rfl⟩:=h;obtain⟨C,D,E⟩:=OO.facts f s u x z B h;have d:(∀b∈A,b<w.heap.size)∧∀b∈y,b<w.heap.size:=by
   cases m with
   | none=>
    simp only[xB] at c;obtain⟨⟨n,_,_,q,_⟩,rfl⟩:=c;exact⟨by simp,bj.lt _ _ _ _ q⟩
   | some m=>
    cases m with
    | box t=>
     simp only[xB] at c;obtain⟨g,n,_,r,_,q,_,rfl⟩:=c;refine⟨λb a=>?_,bj.lt _ _ _ _ q⟩;simp only[MB] at a;subst a;exact (Rg.1 r).1
    | rows ts=>
     simp only[xB] at c;obtain⟨n,_,_,e,rfl⟩:=c;exact⟨rX.lt _ _ _ _ _ e,by simp⟩
    | kv ts=>
     simp only[xB] at c;obtain⟨n,_,_,e,rfl⟩:=c;exact⟨rX.lt _ _ _ _ _ e,by simp⟩
    | cZ t ts=>
     simp only[xB] at c;obtain⟨g,n,G,_,r,_,e,rfl,rfl⟩:=c;refine⟨λb a=>?_,by simp⟩;rcases ML.1 a with rfl | a
     ·exact (Rg.1 r).1
     ·exact rX.lt _ _ _ _ _ e b a
  refine⟨λb a=>?_,λb a=>?_,by simp[E]⟩
  ·rcases MC.1 a with a | a
   ·exact d.1 b a
   ·exact C b a
  ·rcases MC.1 a with a | a
   ·exact d.2 b a
   ·exact D b a
theorem nDF{E:List kt}(h:(E.flatMap (·.φ)).Nodup):(∀x∈E,x.φ.Nodup)∧∀x∈E,∀y∈E,x≠y→∀b∈x.φ,b ∉ y.φ:=by
 induction E with
 | nil=>simp
 | cons z l j=>
  rw[YZ,MY] at h;obtain⟨k,m,g⟩:=h;obtain⟨n,o⟩:=j m;refine⟨λx a=>?_,λx a y p i b e f=>?_⟩
  ·rcases ML.1 a with rfl | a
   ·exact k
   ·exact n x a
  ·rcases ML.1 a with c | c<;>rcases ML.1 p with d | d
   ·exact i (c.trans d.symm)
   ·subst c;exact g b e b (PQ.2 ⟨y,d,f⟩) rfl
   ·subst d;exact g b f b (PQ.2 ⟨x,c,e⟩) rfl
   ·exact o x c y d i b e f
theorem tU.count{w:aau} :∀(e:List ef) (a:List DC) (b:List aaw) (φ c d:List Nat),tU w e a b φ c d→a.length=U7 e
 | [],a,b,φ,c,d,h=>by simp only[tU] at h;simp[h.1,U7]
 | r::rs,a,b,φ,c,d,h=>by simp only[tU] at h;obtain⟨k,f,v,g,l,m,n,o,p,q,s,rfl,rfl,_,_,i,j,_⟩:=h;simp only[fK,U7,eX.length _ _ _ _ _ _ i,tU.count rs f g _ _ _ j]
theorem rX.wt:∀(a:List CT) (c:List dy) (l:List DC) (o:List aaw) (f:List Nat),rX w a c l o f→Q a l
 | [],c,l,o,f,h=>by simp only[rX] at h;simp only[Q];exact h.2.1
 | .sl e::a,c,l,o,f,h=>by
  simp only[rX] at h;obtain⟨t,u,j,b,v,m,D,x,rfl,rfl,rfl,y,h,_⟩:=h;obtain⟨E,p,q,n,s⟩:=y.reads;simp only[Q,IJ];refine⟨_,_,rfl,⟨j,rfl, ?_,λr z=>?_⟩,rX.wt a u b m x h⟩
  ·rcases n.2 with ⟨_,A,_⟩ | ⟨g,cap,B,_,_,F,G,_⟩
   ·rw[A];exact Nat.zero_le _
   ·omega
  ·obtain⟨i,H,rfl⟩:=TO z;have C:i<q.length:=by have:=s.1;omega
   exact bj.wt e _ _ _ (s.2 i j[i] q[i] (by simp) (by simp[C]))
 | .int k::a,c,l,o,f,h=>by simp only[rX] at h;obtain⟨d,b,v,m,rfl,rfl,n,h⟩:=h;simp only[Q];exact⟨d,b,rfl,Z8.wt _ _ _ _ n,rX.wt a c b m f h⟩
 | .bool::a,c,l,o,f,h=>by simp only[rX] at h;obtain⟨d,b,v,m,rfl,rfl,n,h⟩:=h;simp only[Q];exact⟨d,b,rfl,Z8.wt _ _ _ _ n,rX.wt a c b m f h⟩
 | .str::a,c,l,o,f,h=>by simp only[rX] at h;obtain⟨d,b,v,m,rfl,rfl,n,h⟩:=h;simp only[Q];exact⟨d,b,rfl,Z8.wt _ _ _ _ n,rX.wt a c b m f h⟩
theorem OO.wt:∀(c:List fG) (f:List (Option ka)) (d:List DC) (i:List aaw) (j l:List Nat),OO w c f d i j l→Q (SC c) d
 | [],f,d,i,j,l,h=>by simp only[OO] at h;simp only[SC,Q];exact h.2.1
 | k::c,f,d,i,j,l,h=>by
  simp only[OO] at h;obtain⟨m,o,u,p,v,q,x,r,y,s,rfl,rfl,rfl,a,h,_⟩:=h;refine Q.append ?_ (OO.wt c o p q r s h);cases m with
  | none=>
   simp only[xB] at a;obtain⟨⟨e,_,_,n,_⟩,_⟩:=a;exact bj.wt _ _ _ _ n
  | some m=>
   cases m with
   | box t=>
    simp only[xB] at a;obtain⟨g,e,_,_,_,n,_⟩:=a;exact bj.wt _ _ _ _ n
   | rows ts=>
    simp only[xB] at a;obtain⟨e,_,_,b,_⟩:=a;exact rX.wt _ _ _ _ _ b
   | kv ts=>
    simp only[xB] at a;obtain⟨e,_,_,b,_⟩:=a;exact rX.wt _ _ _ _ _ b
   | cZ t ts=>
    simp only[xB] at a;obtain⟨g,e,z,_,_,_,b,_⟩:=a;exact rX.wt _ _ _ _ _ b
def bp:List kt→Nat→Option kt
 | [],_=>none
 | x::l,i=>if i=x.id then some x else bp l i
theorem x8{E:List kt}{j:Nat}{x:kt}(h:bp E j=some x):x∈E∧x.id=j:=by
 induction E with
 | nil=>simp[bp] at h
 | cons y l a=>
  simp only[bp] at h;split at h
  ·rename_i b;injection h with h;subst h;exact⟨MQ ..,b.symm⟩
  ·obtain⟨c,d⟩:=a h;exact⟨MI _ c,d⟩
theorem nms{E:List kt}{x:kt}(a:x∈E)(b:(E.map (·.id)).Nodup):bp E x.id=some x:=by
 induction E with
 | nil=>simp at a
 | cons y l c=>
  simp only[NG,M1] at b;simp only[bp];rcases ML.1 a with rfl | a
  ·simp
  ·have:x.id≠y.id:=λe=>b.1 (e ▸ Rh a);rw[if_neg this];exact c a b.2
theorem O2{E:List kt}{j:Nat}{o:xC}(h:e6 (E.map λx=>(x.id,x.o)) j=some o):∃x,bp E j=some x∧x.o=o:=by
 induction E with
 | nil=>simp[e6] at h
 | cons y l b=>
  simp only[NG,e6] at h;simp only[bp];cases a:MH y.id j
  ·rw[a] at h;rw[if_neg (λe=>W0 a e.symm)];exact b h
  ·rw[a] at h;have:=Vs a;subst this;simp only[H,Y] at h;exact⟨y,by simp,h⟩
theorem nbh{fn:Func}{s:C}{st:E}{r:List DC}(h:zD P fn s st=(true,r)):st.ok=true:=by
 unfold zD at h;split at h
 ·simp only[Prod.mk.injEq,Bl] at h;exact h.1.1.1
 ·exact absurd h dO
theorem nwU{fn:Func}{s:C}{st:E}{r:List DC}{w w':aau}{T:List DC}{d:List aaw}{A g:List Nat}{a:Act}(BR:shares s=false)(I:OO w s.ps s.ms T d A g)
  (h:zD P fn s st=(true,r)) (u:Rel w ⟨λb=>b∈g,λb=>b<w.heap.size∧b ∉ A∧b ∉ g,(d.zipIdx.filter (λx=>PR x.2 (vX s.ms))).map (λx=>(x.2,x.1))⟩ st a w'):
  a.defers=[]∧∃v,(results fn a.tmps).run P w'= .ok v w'∧∃B φ ahq V ac0 D J k,Ending.returned v= .returned (pack B)∧r=D++J∧D.length=U7 s.rs∧Kept ⟨λb=>b∈g,λ_=>False,[]⟩ w w'∧tU w' s.rs D B φ ahq V∧φ.Nodup∧
   (∀b∈φ,(b∈g∨w.heap.size≤b)∧b<w'.heap.size)∧qG w' s.ps s.ms J d ac0 k∧k.Nodup∧(∀b∈k,(b∈g∨w.heap.size≤b)∧b<w'.heap.size∧b ∉ φ)∧∀b∈ac0,(b∈A∨w.heap.size≤b)∧b ∉ V∧b ∉ k∧Tl s.ms=false:=by
 obtain⟨_,_,BS⟩:=OO.facts _ _ _ _ _ _ I;unfold zD at h;split at h
 case h_2=>exact absurd h dO
 rename_i D own ahq J N x hr;simp only[Prod.mk.injEq,Bl] at h;obtain⟨⟨⟨_,bk⟩,FL⟩,rfl⟩:=h;obtain⟨β,φ,l⟩:=u.core;have y:=M.dX _ hr;simp only[M.ag,UI,M.ab,Y,Prod.mk.injEq] at y;obtain⟨U,h1,q,h2,q2,h3,e1,e2⟩:=y;subst e1;subst e2;obtain⟨B,g1,g2⟩:=Hp l _ _ h1;obtain⟨adx,F1,B_,W,X,k3,k4,k5⟩:=nt4 l _ _ _ _ g2 h2;have M4:∀(j:Nat) v m,d[j]? =some v→s.ms[j]? =some (some m)→a.tmps.getD (0+j) undef=v:=by intro j v m O I;have:=(u.fx (j,v) (V2.2 ⟨(v,j),List.mem_filter.2 ⟨by rw[Y0];exact O,YY (ngL I)⟩,rfl⟩)).2;simpa using this
 obtain⟨ac0,k,o1,aiJ,Z,Q,o6,o3⟩:=L7 l 0 s.ps s.ms d _ M4 BS h3;have n:=Qv bk;rw[MY] at n;have J9:∀b∈k,∀i∈own,∀o,st.obj i=some o→b ∉ φ i:=by intro b c i K o F G;obtain⟨id,L,z,p,t⟩:=Q b c;have c8:i≠id:=λe=>n.2.2 i K id L e;exact absurd (al (l.aC _ _ p) b t) (l.sep i id o z c8 F p b G)
 have IA:∀b∈k,b ∉ adx:=by intro b c gi;obtain⟨i,K,⟨o,F⟩,G⟩:=X b gi;exact J9 b c i K o F G
 have J8:∀b∈k,oa st.obj β b:=λb c=>by obtain⟨id,L,z,p,t⟩:=Q b c;exact .inl ⟨id,z,p,t⟩
 have BM:∀b∈ac0,b<w.heap.size→b ∉ A→False:=by
  intro b c R f;rcases Bool.or_eq_true_iff.1 FL with S | S
  ·have Hz:∀b∈g,∃id∈N,∃o,st.obj id=some o∧b∈ar β id o:=o3 S w T A g I;have H:=aiJ b c;have JK:b ∉ g:=λJj=>by obtain⟨id,L,z,p,t⟩:=Hz b Jj;exact H (.inl ⟨id,z,p,t⟩)
   refine absurd (.inr ?_) H;rw[l.bars];exact⟨R,f,JK⟩
  ·rw[Z S] at c;simp at c
 refine⟨u.defers,pack B,nBq g1,B,adx,F1,B_,ac0,D,J,k,rfl,rfl,tU.count _ _ _ _ _ _ W,⟨u.kept.os,u.kept.tape,u.kept.output,u.kept.size,u.kept.block⟩,W,k4 n.1, ?_,o1,o6 n.2.1, ?_, ?_⟩
 ·intro b c;obtain⟨i,K,⟨o,F⟩,G⟩:=X b c;have f:=(l.fresh i o F).2 b G;exact⟨f.1.symm,f.2⟩
 ·intro b c;obtain⟨id,L,z,p,t⟩:=Q b c;have f:=(l.fresh id z p).2 b (al (l.aC _ _ p) b t);exact⟨f.1.symm,f.2,IA b c⟩
 ·intro b c;have H:=aiJ b c;refine⟨?_,λt=>?_,λK0=>H (J8 b K0), ?_⟩
  ·by_cases R:b<w.heap.size
   ·by_cases f:b∈A
    ·exact .inl f
    ·exact (BM b c R f).elim
   ·exact .inr (by omega)
  ·obtain⟨j,oj,_,O,bB⟩:=k3 b t;exact H (.inl ⟨j,oj,O,bB⟩)
  ·cases jC:Tl s.ms with
   | false=>rfl
   | true=>
    rw[Z jC] at c;simp at c
theorem nxx(eW:qk P Γ){g:Nat}{fn:Func}{s:C}(J:P.funcs[g]? =some fn)(K:fn.body.isSome=true)(hn:(fn.name== "runtime.NumGoroutine")=false)(afp:s.ps.length≤fn.ntmps)(Gz:fn.ntmps<1099511627776)
  (M:shares s=false) (eG:∀e,C2 ((yI 0 s.ps s.ms e).2.map (·.1))=true)
  (h:∀e,Q (SC s.ps) e→(s.fn e).1=true→∃N,P7 P Γ A N fn s e=(true,(s.fn e).2)):fh P g s:=by
 refine⟨⟨fn,J,K,hn⟩,λw e d F ac1 t af0 Lr aN=>?_⟩;obtain⟨N,D⟩:=h e (OO.wt _ _ _ _ _ _ t) aN;obtain⟨c,agi⟩:=Option.isSome_iff_exists.1 K;unfold P7 at D;rw[agi] at D;simp only at D;obtain⟨Lt,M3,BS⟩:=OO.facts _ _ _ _ _ _ t;refine calls_of_wp J agi ?_;let S:Own:=⟨λb=>b∈ac1,λb=>b<w.heap.size∧b ∉ F∧b ∉ ac1,(d.zipIdx.filter (λx=>PR x.2 (vX s.ms))).map (λx=>(x.2,x.1))⟩;obtain⟨E,u,G,R⟩:=nyt 0 s.ps s.ms e d F ac1 t;have Le:(E.map (·.id)).Nodup:=by have:=Qv (eG e);rw[u,List.map_map] at this;exact this
 let β:L:=⟨λj=>match bp E j with | some x=>x.cY | none=>0,λj=>match bp E j with | some x=>x.val | none=>undef,S.hX,λj=>match bp E j with | some x=>x.nb | none=>[]⟩;have T:∀x∈E,β.cY x.id=x.cY∧β.val x.id=x.val∧β.nb x.id=x.nb:=by intro x f;simp only[β,nms f Le,and_self]
 have H:∀x∈E,∀b∈x.φ,b∈ac1:=λx f b k=>by rw[←G];exact PQ.2 ⟨x,f,k⟩
 have Be:∀x∈E,ar β x.id x.o=x.φ:=λx f=>((R (λ_=>False) β T (λ_ _ h=>h)).2 x f).2;have Im:∀b∈F,¬oa (e6 (yI 0 s.ps s.ms e).2) β b:=by
  rintro b k (⟨j,o,p,kA⟩ | f)
  ·rw[u] at p;obtain⟨x,f,rfl⟩:=O2 p;obtain⟨m,rfl⟩:=x8 f;rw[Be x m] at kA;exact Lr b (H x m b kA) k
  ·exact f.2.1 k
 obtain⟨lA,aQ⟩:=R (oa (e6 (yI 0 s.ps s.ms e).2) β) β T Im;have hR:Rel w S {n:=fn.ntmps+vX s.ms*1099511627776,sl:=(yI 0 s.ps s.ms e).1,hp:=(yI 0 s.ps s.ms e).2,ok:=true,ls:=[],lm:=[]} {tmps:=d.toArray++Nj (fn.ntmps - d.toArray.size) undef,defers:=[]} w:=by
  have U:∀(j:Nat) v,d[j]? =some v→(d.toArray++Nj (fn.ntmps - d.toArray.size) undef).getD j undef=v:=by intro j v q;have Ih:j<d.length:=(M9.1 q).1;rw[M8,YX (by simp;omega)];simp[q]
  refine⟨by simp;omega, ?_,rfl,⟨rfl,rfl,rfl,NV _,λ_ _ _=>rfl⟩,β,λj=>match bp E j with | some x=>x.φ | none=>[], ?_⟩
  ·intro x f;obtain⟨⟨v,j⟩,z,rfl⟩:=V2.1 f;obtain⟨z,V⟩:=List.mem_filter.1 z;have V:j<vX s.ms:=SO V;rw[Y0] at z;have Ih:j<d.length:=(M9.1 z).1;exact⟨by simp only;omega,U j v z⟩
  ·refine⟨λi=>?_,λid o p=>?_,λid o p=>?_,λi j oi oj c8 W q b k=>?_,λb k=>⟨k.1,k.2.2⟩,rfl⟩
   ·rcases lA i with h1 | ⟨j,v,W,q,hs⟩
    ·show O w _ _ (XH (yI 0 s.ps s.ms e).1 i) _;rw[h1];simp[O]
    ·have:i=j:=by omega
     subst this;rw[U i v q];exact hs
   ·have B:e6 (yI 0 s.ps s.ms e).2 id=some o:=p;rw[u] at B;obtain⟨x,f,rfl⟩:=O2 B;obtain⟨m,rfl⟩:=x8 f;simp only[f];exact (aQ x m).1
   ·have B:e6 (yI 0 s.ps s.ms e).2 id=some o:=p;rw[u] at B;obtain⟨x,f,rfl⟩:=O2 B;obtain⟨m,rfl⟩:=x8 f;simp only[f];refine⟨?_,λb k=>⟨.inr (H x m b k),Lt b (H x m b k)⟩⟩;exact (nDF (E:=E) (by rw[G];exact af0)).1 x m
   ·have X:e6 (yI 0 s.ps s.ms e).2 i=some oi:=W;have Y:e6 (yI 0 s.ps s.ms e).2 j=some oj:=q;rw[u] at X Y;obtain⟨x,f,rfl⟩:=O2 X;obtain⟨y,Z,rfl⟩:=O2 Y;simp only[f] at k;simp only[Z];have J3:=x8 f;have KG:=x8 Z;have Bh:x≠y:=by
     rintro rfl
     exact c8 (J3.2.symm.trans KG.2)
    exact (nDF (E:=E) (by rw[G];exact af0)).2 x J3.1 y KG.1 Bh b k
 refine OR (r:=(s.fn e).2) eW c _ {fB:=zD P fn s,ext:=λ_ _=>lf,ret:=zD P fn s} _ w _ ⟨λst l=>nbh l,λi st l=>absurd l dO,λst l=>nbh l⟩ hR D ⟨?_, ?_, ?_⟩
 ·intro st a w' I l;exact nwU M t l I
 ·intro i st a w' _ l;exact absurd l dO
 ·intro st a w' I l;exact nwU M t l I
end
def yS(P:aat)(Γ:Ctx)(A:List (Nat×YJ))(N:Nat)(fn:Func)(s:C)(p:List Bool)(b:List (E→B))(d:E→B)(st:E):B:=
 match fn.body with
 | some c=>match focus P Γ A N p b c {fB:=zD P fn s,ext:=λ_ _=>lf,ret:=zD P fn s} with
  | (.loop a,K)=>match (Pz a).bind (sT A) with
   | some an=>run P Γ A N a st {fB:=λe=>d (canon P an e),ext:=K.ext,ret:=K.ret}
   | none=>lf
  | _=>lf
 | none=>lf
end Go.Proofs.YteffpikahopfoaaGreat.Vm
