/- The value machine: runs, loops, contracts out of runs. Conditions: as each lemma says. -/
import Derived.Test.YteffpikahopfoaaGreatVc
import Derived.LoopN
set_option linter.unusedVariables false
set_option linter.unusedSimpArgs false
open List renaming mem_singleton→Pb,mem_append→Pc,mem_cons_of_mem→Pe,mem_cons→QE,mem_cons_self→QF,tail_cons→QG,headD_cons→QH,nodup_append→Q3,nodup_cons→SO,getElem?_eq_some_iff→Th,map_cons→T1,drop_left→Xv,getD_eq_getElem?_getD→XG,getElem?_eq_none→XP,mem_flatMap→XR,getElem?_eq_getElem→XT,mem_map_of_mem→X9,cons_append→X_,getElem?_cons_zero→ZW,getElem_of_mem→ZZ,getElem?_map→aad,mem_map→aai,map_append→aak,getElem?_append_left→aal,getElem?_range'→aam,pairwise_map→aan,take_append_drop→aao,singleton_append→aap,length_eq_zero_iff→aaq,ext_getElem?→aar,flatMap_cons→aau,mem_zipIdx_iff_getElem?→aav
open Nat renaming beq→Pd,le_refl→Xs,blt→XS,lt_trichotomy→Yb,le_of_ble_eq_true→ZY,beq_refl→aae,ne_of_beq_eq_false→aaj,ble_eq_true_of_le→aat
open Array renaming getD_eq_getD_getElem?→Tb,replicate→TO,getElem?_eq_some_iff→X8,getElem?_toList→ZX,getElem?_eq_getElem→aaf,getElem?_setIfInBounds→aag,getElem?_replicate→aah,getElem?_append_left→aas
open Go.Value renaming ownBlock→T2
open Bool renaming not_eq_true'→XQ
open Go renaming Program→aaO,World→aaP,Operand→aaQ,Value→aaR
namespace Go.Proofs.YteffpikahopfoaaGreat.Vm
section
variable {P:aaO} {Γ:Ctx} {w0:aaP} {S:Own} {ops:Array Oper} {gs:List Nat}
theorem iu{i:Nat} :∀ {l m:List Nat},i∈Rw l m→i∈l∨i∈m
 | [],m,h=> .inr h
 | k::l,m,h=>by
  simp only[Rw] at h;cases a:Uz k m
  ·simp only[a,rl,QE] at h;rcases h with rfl | h
   ·exact .inl (QF ..)
   ·exact (iu h).imp (Pe _) id
  ·simp only[a,HI] at h;exact (iu h).imp (Pe _) id
def yh(ops:Array Oper)(L:Nat→Bool)(k:Nat):Prop:=∀o,ops[k]? =some o→∀e∈o.after,Region.binds .any e=true→L e.on=true
theorem Qb{a:List (List Nat)}{j:Nat} :∀(l:List Edge),j∈l.foldr (λe r=>bif Region.binds .any e then Rw (Rw [e.on] (a.getD e.on [])) r else r) []→
  ∃e∈l,Region.binds .any e=true∧(j=e.on∨j∈a.getD e.on [])
 | [],h=>by simp at h
 | e::l,h=>by
  simp only[List.foldr_cons] at h;cases b:Region.binds .any e
  ·simp only[b,rl] at h;obtain⟨x,c,d⟩:=Qb l h;exact⟨x,Pe _ c,d⟩
  ·simp only[b,HI] at h;rcases iu h with h | h
   ·refine⟨e,QF ..,b, ?_⟩;rcases iu h with h | h
    ·exact .inl (by simpa using h)
    ·exact .inr h
   ·obtain⟨x,c,d⟩:=Qb l h;exact⟨x,Pe _ c,d⟩
theorem njn{L:Nat→Bool}(d:∀k,L k=true→yh ops L k):∀(l:List Oper) (a:List (List Nat)) (pre:List Oper),ops.toList=pre++l→a.length=pre.length→
  (∀k j,yh ops L k→j∈a.getD k []→L j=true)→∀k j,yh ops L k→j∈(jG l a).getD k []→L j=true
 | [],a,pre,_,_,h=>by simpa [jG] using h
 | o::l,a,pre,JF,hlen,h=>by
  rw[jG];refine njn d l _ (pre++[o]) (by simp[JF]) (by simp[hlen]) ?_;intro k j f b;rcases Yb k a.length with i | c | q
  ·refine h k j f ?_;rw[XG,aal i] at b;rwa[XG]
  ·subst c;rw[XG,List.getElem?_append_right (Xs _)] at b;simp only[Nat.sub_self,ZW,Option.getD_some] at b;obtain⟨e,m,n,b⟩:=Qb _ b;have p:ops[a.length]? =some o:=by rw[←ZX,JF,hlen];simp
   have g:=f o p e (by simpa using m) n;rcases b with rfl | b
   ·exact g
   ·exact h e.on j (d _ g) b
  ·rw[XG,XP (by simp;omega)] at b;simp at b
theorem nrM:∀(l:List Oper) (i:Nat),Tq l i=true→∀k o,l[k]? =some o→∀e∈o.after,Region.binds .any e=true→e.on<i+k
 | [],_,_,k,o,h,_,_,_=>by simp at h
 | x::l,i,h,k,o,hk,e,he,hb=>by
  simp only[Tq,gF,List.all_eq_true] at h;cases k with
  | zero=>
   simp only[ZW,VR] at hk;subst hk;have:=h.1 e (by simpa using he);rw[hb] at this;simp only[Bool.not_true,Bool.false_or] at this;exact ZY this
  | succ k=>
   simp only[List.getElem?_cons_succ] at hk;have:=nrM l (i+1) h.2 k o hk e he hb;omega
theorem np8{an:List (List Nat)}{a:Yv} :∀(l:List Yv),bY an a l=true→∀b∈l,(uA a b=true→a.i∈an.getD b.i [])∧Yr b a=false
 | [],_=>by simp
 | c::l,h=>by
  simp only[bY,gF,XQ] at h;intro b d;rcases QE.1 d with rfl | d
  ·refine⟨λe=>?_,h.1.2⟩;have:=h.1.1;rw[e] at this;simp only[Bool.not_true,Bool.false_or] at this;exact mj.1 this
  ·exact np8 l h.2 b d
theorem ngw{an:List (List Nat)} :∀(l:List Yv),dD an l=true→l.Pairwise (λa b=>(uA a b=true→a.i∈an.getD b.i [])∧Yr b a=false)
 | [],_=> .nil
 | a::l,h=>by simp only[dD,gF] at h;exact .cons (np8 l h.1) (ngw l h.2)
theorem vH{l m:List Nat}{i:Nat}(b:i∈l)(a:i∈m):SB l m=true:=by
 induction m with
 | nil=>simp at a
 | cons k m c=>
  simp only[SB,Bool.or_eq_true];rcases QE.1 a with rfl | a
  ·exact .inl (mj.2 b)
  ·exact .inr (c a)
theorem Vp{a:List Oper}{st:CO}{l:List Qw}{fin:CO}(h:Path P Γ ops gs a 0 st l fin){p:Qw}(d:p∈l):l[p.i]? =some p∧a[p.i]? =some p.o∧p.i<a.length:=by
 obtain⟨k,b,rfl⟩:=ZZ d;have f:=(XF h).1;have c:=(XF h).2.1;have g:l.length=a.length:=by rw[←c];simp
 have e:l[k].i=k:=by
  have:(l.map (·.i))[k]? =(List.range' 0 a.length)[k]? :=by rw[f]
  rw[aad,XT b,aam (by omega)] at this;simpa using this
 rw[e];refine⟨XT b, ?_,by omega⟩;rw[←c,aad,XT b];rfl
theorem qM{a:List Oper}{st:CO}{l:List Qw}{fin:CO}{an:List (List Nat)}(h:Path P Γ ops gs a 0 st l fin)(g:dD an (l.map (·.log))=true){p q:Qw}(b:p∈l)(c:q∈l)(j:p.i<q.i):
  (uA p.log q.log=true→p.i∈an.getD q.i [])∧Yr q.log p.log=false:=by
 have d:=aan.1 (ngw _ g);have e:=(Vp h b).1;have f:=(Vp h c).1;rw[List.pairwise_iff_getElem] at d;have k:=(Th.1 e).1;have m:=(Th.1 f).1;have:=d p.i q.i k m j;rw[(Th.1 e).2,(Th.1 f).2] at this;have n:=((XF h).2.2 p b).1;have o:=((XF h).2.2 q c).1;rw[n,o] at this;exact this
theorem FV{p:Qw}(f:kT P Γ ops p){id:Nat}(a:p.tH id):id∈p.log.wo:=by
 rcases f with ⟨_,b,_,_⟩ | ⟨_,e,s,r,h,_,i,b⟩
 ·rw[Qw.tH,b] at a;simp at a
 ·rw[i];simp only[SC,h];have c:p.e.ow=e.ow∧p.e.cw=e.cw:=by
   rcases b with rfl | ⟨d,g,_,_,b⟩
   ·exact⟨rfl,rfl⟩
   ·rw[b];exact⟨rfl,rfl⟩
  rw[Qw.tH,c.1,c.2] at a;rcases a with a | ⟨off,k,j⟩
  ·exact mi _ a
  ·rw[j];exact U8 _ (Pb.2 rfl)
theorem nc2{p:Qw}(c:kT P Γ ops p){j:Nat}(a:j∈jH p.e.sv):j∈p.log.m:=by
 rcases c with ⟨_,b,_,_⟩ | ⟨_,e,s,r,f,_,h,b⟩
 ·rw[b] at a;simp[jH] at a
 ·rw[h];simp only[SC,f];rcases b with rfl | ⟨d,g,_,_,b⟩
  ·exact U8 _ a
  ·rw[b] at a;simp[jH] at a
theorem nue{ow:List (Nat×Option yP)}{id:Nat}{x:Option yP}(h:fO ow id=some x):(id,x)∈ow:=by
 induction ow with
 | nil=>simp[fO] at h
 | cons y l a=>
  obtain⟨i,c⟩:=y;simp only[fO] at h;split at h
  ·rename_i b;subst b;simp only[VR] at h;subst h;exact QF ..
  ·exact Pe _ (a h)
theorem nzo{p:Qw}(f:kT P Γ ops p){id:Nat}{c:yP}(a:(id,some c)∈p.e.ow):id∈p.log.m∧∀j∈tg c,j∈p.log.m:=by
 rcases f with ⟨_,b,_,_⟩ | ⟨_,e,s,r,h,_,i,b⟩
 ·rw[b] at a;simp at a
 ·rw[i];simp only[SC,h];have k:p.e.ow=e.ow:=by
   rcases b with rfl | ⟨d,g,_,_,b⟩
   ·rfl
   ·rw[b]
  rw[k] at a;unfold xQ;constructor
  ·exact mi _ (mi _ (XR.2 ⟨_,a,QF ..⟩))
  ·intro j l;exact mi _ (mi _ (XR.2 ⟨_,a,Pe _ l⟩))
theorem nhZ{p:Qw}(f:kT P Γ ops p){i off:Nat}{c:List bg}(b:p.e.cw=some (i,off,c)):∀j∈iG c,j∈p.log.m:=by
 rcases f with ⟨_,a,_,_⟩ | ⟨_,e,s,r,h,_,k,a⟩
 ·rw[a] at b;simp at b
 ·rw[k];simp only[SC,h];have l:p.e.cw=e.cw:=by
   rcases a with rfl | ⟨d,g,_,_,a⟩
   ·rfl
   ·rw[a]
  rw[l] at b;intro j n;unfold xQ;refine mi _ (U8 _ ?_);rw[b];exact n
theorem TM(a b:List bg):iG (a++b)=iG a++iG b:=by
 induction a with
 | nil=>rfl
 | cons x a c=>simp[iG,c]
theorem nnM{a:List bg}{n j:Nat}(h:j∈iG (a.take n)):j∈iG a:=by have:=aao n a;rw[←this,TM];exact U8 _ h
theorem na3{a:List bg}{n j:Nat}(h:j∈iG (a.drop n)):j∈iG a:=by have:=aao n a;rw[←this,TM];exact mi _ h
def RK(a:List Nat)(L:Nat→Bool)(l:List Qw)(j:Nat):Prop:=j / 64 ∉ a∨∃p∈l,L p.i=true∧j∈p.log.m
theorem nt2{d:List Nat}{L:Nat→Bool}{s:Nat} :∀(l b:List Qw) (v:bg),(∀p∈l,kT P Γ ops p)→(∀p∈l,p∈b)→(∀j∈jH v,RK d L b j)→∀j∈jH (dS L l s v),RK d L b j
 | [],_,v,_,_,hv=>hv
 | p::l,b,v,hs,iP,hv=>by
  unfold dS;simp only[List.foldl_cons];refine nt2 l b _ (λq c=>hs q (Pe _ c)) (λq c=>iP q (Pe _ c)) ?_;intro j a;split at a
  ·rename_i e;unfold Qw.f at a;split at a
   ·exact .inr ⟨p,iP p (QF ..),e,nc2 (hs p (QF ..)) a⟩
   ·exact hv j a
  ·exact hv j a
def gi(a:List Nat)(L:Nat→Bool)(l:List Qw)(id:Nat)(o:Option yP):Prop:=∀b,o=some b→RK a L l id∧∀j∈tg b,RK a L l j
theorem nzs{k:List Nat}{L:Nat→Bool}{id:Nat} :∀(l b:List Qw) (v:Option yP),(∀p∈l,kT P Γ ops p)→(∀p∈l,p∈b)→gi k L b id v→gi k L b id (Rv L l id v)
 | [],_,v,_,_,hv=>hv
 | p::l,b,v,hs,iP,hv=>by
  unfold Rv;simp only[List.foldl_cons];refine nzs l b _ (λq c=>hs q (Pe _ c)) (λq c=>iP q (Pe _ c)) ?_;split
  ·rename_i d;have m:=hs p (QF ..);have e:=iP p (QF ..);unfold Qw.h;split
   ·rename_i x o
    rintro r rfl
    have:=nzo m (nue o);exact⟨.inr ⟨p,e,d,this.1⟩,λj a=> .inr ⟨p,e,d,this.2 j a⟩⟩
   ·unfold AL;split
    ·rename_i i off u s;split
     ·split
      ·rename_i t f
       rintro r n
       simp only[VR] at n;subst n;have g:=hv _ rfl;refine⟨g.1,λj a=>?_⟩;simp only[tg,Ge,TM,Pc] at a;rcases a with a | a | a
       ·exact g.2 j (nnM a)
       ·exact .inr ⟨p,e,d,nhZ m s j a⟩
       ·exact g.2 j (na3 a)
      ·exact hv
     ·exact hv
    ·exact hv
  ·exact hv
theorem nj4{a b:Yv}{s:Nat}(c:a.d=some s)(e:s∈b.rs):uA a b=true:=by have:SB (YZ a.d) (b.rs++YZ b.d)=true:=vH (i:=s) (by simp[c,YZ]) (U8 _ e);simp[uA,this]
theorem npJ{a b:Yv}{s:Nat}(c:a.d=some s)(e:b.d=some s):uA a b=true:=by have:SB (YZ a.d) (b.rs++YZ b.d)=true:=vH (i:=s) (by simp[c,YZ]) (mi _ (by simp[e,YZ]));simp[uA,this]
theorem nBR{a b:Yv}{s:Nat}(c:s∈a.rs)(e:b.d=some s):uA a b=true:=by have:SB a.rs (YZ b.d)=true:=vH (i:=s) c (by simp[e,YZ]);simp[uA,this]
theorem nEa{a b:Yv}{s:Nat}(c:s∈a.wo)(d:s∈b.wo):uA a b=true:=by have:SB a.wo (b.ro++b.wo)=true:=vH (i:=s) c (mi _ d);simp[uA,this]
theorem neM{a b:Yv}{s:Nat}(c:s∈a.wo)(d:s∈b.ro):uA a b=true:=by have:SB a.wo (b.ro++b.wo)=true:=vH (i:=s) c (U8 _ d);simp[uA,this]
theorem neu{a b:Yv}{s:Nat}(c:s∈a.ro)(d:s∈b.wo):uA a b=true:=by have:SB a.ro b.wo=true:=vH (i:=s) c d;simp[uA,this]
theorem ntz{a b:Yv}{j:Nat}(c:a.d=some (j / 64))(e:j∈b.m):uA a b=true:=by
 have:(b.m.any λi=>Pd (i / 64) (j / 64))=true:=by simp only[List.any_eq_true];exact⟨j,e,aae _⟩
 unfold uA;rw[c];simp only[this,Bool.or_true]
theorem nfK{a b:Yv}{j:Nat}(c:b.d=some (j / 64))(e:j∈a.m):Yr b a=true:=by unfold Yr;rw[c];simp only[List.any_eq_true];exact⟨j,e,aae _⟩
theorem nns{p q:Nat→Bool} :∀(l:List Nat),(∀k∈l,q k=true→p k=true)→(∃k∈l,p k=true∧q k=false)→l.countP q<l.countP p
 | [],_,h=>by simp at h
 | x::l,h,⟨k,a,hp,hq⟩=>by
  have e:l.countP q≤l.countP p:=List.countP_mono_left (λy b c=>h y (Pe _ b) c);simp only[List.countP_cons];rcases QE.1 a with rfl | a
  ·rw[hp,hq];simp;omega
  ·have:=nns l (λy b=>h y (Pe _ b)) ⟨k,a,hp,hq⟩;have f:=h x (QF ..);cases d:q x
   ·simp;omega
   ·rw[f d];simp;omega
def SP(ops:Array Oper)(a:Array Bool):Nat:=(List.range ops.size).countP λk=> !(a.getD k true)
def TB(w0:aaP)(S:Own)(st:CO)(l:List Qw)(L:Nat→Bool)(a:Act)(w:aaP):Prop:=∃b:CO,Rel w0 S b a w∧b.n=st.n∧(∀s,b.get s=dS L l s (st.get s))∧∀id,b.obj id=Rv L l id (st.obj id)
theorem nu5{α:Type}{step:Qw→α→α}{T:Qw→Prop}(e:∀p v,¬T p→step p v=v){L:Nat→Bool}{l:List Qw}{p:Qw}(v:α)
  (f:∀q∈l,T q→q.i<p.i→L q.i=true) (g:∀q∈l,T q→p.i<q.i→L q.i=false) (h:L p.i=false):
  l.foldl (λv q=>if L q.i then step q v else v) v=l.foldl (λv q=>if decide (q.i<p.i) then step q v else v) v:=by
 refine fold_congr step T e (L:=L) (L':=λk=>decide (k<p.i)) l v (λq b c=>?_);rcases Yb q.i p.i with d | a | j
 ·rw[f q b c d];simp[d]
 ·rw[a,h];simp
 ·rw[g q b c j];simp;omega
theorem ss{o:Oper}{d:Nat} :∀ {l:List Oper},o∈l→o.dst=some d→d∈cK l
 | [],a,_=>by simp at a
 | x::r,a,C0=>by
  simp only[cK];rcases QE.1 a with rfl | a
  ·rw[C0];exact QF ..
  ·split
   ·exact Pe _ (ss a C0)
   ·exact ss a C0
theorem naC(eO:Wq P Γ){st:CO}{l:List Qw}{fin:CO}(y:Path P Γ ops gs ops.toList 0 st l fin)(Dc:dD (jG ops.toList []) (l.map (·.log))=true)
  (bR:gT (cK ops.toList) st=true) {L:Nat→Bool} (B5:∀k,L k=true→yh ops L k) {p:Qw} (u:p∈l) (hg:yh ops L p.i) (G:L p.i=false)
  {Q:Exit→Act→aaP→Prop} {a:Act} {w:aaP} (Es:TB w0 S st l L a w) {K:Act→aaP→Prop} (hK:∀a' w',TB w0 S st l (λk=>L k || k==p.i) a' w'→K a' w'):wpOp P ops Q p.i K a w:=by
 obtain⟨m,H,U,AF,iL⟩:=Es;have I:=nlv y;have ji:=ndx y;have mz:=I p u;have I_:=njn B5 ops.toList [] [] rfl rfl (by simp);have N:∀q∈l,q.log.d=q.o.dst:=λq c=>((XF y).2.2 q c).2;have hA:∀q∈l,q.i<p.i→uA q.log p.log=true→L q.i=true:=λq c t W=>I_ p.i q.i hg ((qM y Dc c u t).1 W);have X:∀q∈l,p.i<q.i→uA p.log q.log=true→L q.i=false:=by
  intro q c t W;cases O:L q.i
  ·rfl
  ·have:=I_ q.i p.i (B5 _ O) ((qM y Dc u c t).1 W);rw[G] at this;cases this
 obtain⟨MW,MX,Ma⟩:=ji.1 p u;have dI:∀s∈p.log.rs,m.get s=p.st.get s:=by intro s B;rw[AF s,MW s];refine nu5 (step:=λq v=>Qw.f q s v) (T:=λq=>q.tF s) (λq v h=>Qw.I1 h v) _ (λq c C t=>hA q c t (nj4 ((N q c).trans C) B)) (λq c C t=>X q c t (nBR B ((N q c).trans C))) G
 have aQ:∀id∈p.log.ro,m.obj id=p.st.obj id:=by intro id B;rw[iL id,MX id];refine nu5 (step:=λq v=>Qw.h q id v) (T:=λq=>q.tH id) (λq v h=>Qw.I7 h v) _ (λq c C t=>hA q c t (neM (FV (I q c) C) B)) (λq c C t=>X q c t (neu B (FV (I q c) C))) G
 have Z:(l.map (·.i)).Nodup:=by rw[(XF y).1];exact List.nodup_range'
 have JL:l.Pairwise (λa b=>a.i<b.i):=by have:=List.pairwise_lt_range' (s:=0) (n:=ops.toList.length);rw[←(XF y).1] at this;exact aan.1 this
 have Iv:∀s,dS (λk=>L k || k==p.i) l s (st.get s)=p.f s (m.get s):=by intro s;rw[AF s];exact Sp (λq v=>Qw.f q s v) (λq=>q.tF s) (λq v h=>Qw.I1 h v) (L:=L) (q:=p) l (st.get s) u Z G JL (λq c t h1 h2=>X q c t (npJ ((N p u).trans h1) ((N q c).trans h2)))
 have Iw:∀id,Rv (λk=>L k || k==p.i) l id (st.obj id)=p.h id (m.obj id):=by intro id;rw[iL id];exact Sp (λq v=>Qw.h q id v) (λq=>q.tH id) (λq v h=>Qw.I7 h v) (L:=L) (q:=p) l (st.obj id) u Z G JL (λq c t h1 h2=>X q c t (nEa (FV mz h1) (FV (I q c) h2)))
 have Lx:ops[p.i]? =some p.o:=by rw[←ZX];exact (Vp y u).2.1
 have MQ:∀d,p.o.dst=some d→d∈cK ops.toList:=by intro d x;have D:p.o∈ops.toList:=List.mem_of_getElem? (Vp y u).2.1;exact ss D x
 have H6:Sa ops p.o ⊆ p.log.rs:=by
  rcases mz with ⟨_,_,_,E⟩ | ⟨_,e,s,r,hr,_,E,_⟩
  ·rw[E];exact λ_ h=>h
  ·rw[E];simp only[SC,hr];exact λ_ h=>U8 _ h
 have A9:PS ops m p.o=PS ops p.st p.o:=by
  unfold PS;split
  ·rfl
  ·rename_i j want MY;split
   ·rfl
   ·rename_i s B;rw[dI s (H6 (by unfold Sa;simp[MY,B,YZ]))]
 unfold wpOp;rw[Lx];simp only;have hw:PS ops m p.o=some true∨PS ops m p.o=some false:=by
  rw[A9];rcases mz with ⟨h,_⟩ | ⟨h,_⟩
  ·exact .inr h
  ·exact .inl h
 rcases mz with ⟨JU,z,R,E⟩ | ⟨JU,e,s,r,hr,R,E,z⟩
 ·rw[←A9] at JU;rw[if_neg (by rw[AX H JU];simp)];refine hK _ _ ⟨m.skip p.o.dst, ?_,U,λs=>?_,λid=>?_⟩
  ·have Ii:∀d,p.o.dst=some d→IW m.n d:=by intro d x;simp only[CO.skip,CO.apply,DT] at R;have:=R.2;rw[x] at this;have:=Ea this;rw[U,←Ma];exact this
   obtain⟨β,φ,W⟩:=H.core;exact zf (e:= {sv:= .undef}) H Ii H.kept ⟨β,φ,W,by simp[dg]⟩
  ·rw[Iv s];unfold CO.skip;rw[←z];exact (ZJ m p s)
  ·rw[Iw id];unfold CO.skip;rw[←z];exact (kU m p id)
 ·rw[←A9] at JU;rw[if_pos (AX H JU)];refine .inl ?_;have LG:∀k∈s,m.get k=p.st.get k:=λk A=>dI k (by rw[E];simp only[SC,hr];exact mi _ A);have BI:∀k∈r,m.obj k=p.st.obj k:=λk A=>aQ k (by rw[E];simp only[SC,hr];exact mi _ A);have bH:=M.lA (evalOp P Γ p.o) hr LG BI;simp only[CO.apply,DT] at R;have Cl:=noq eO H (M.dR _ bH) R.1.2 (λd x=>by have:=R.2;rw[x] at this;have:=Ea this;rw[U,←Ma];exact this) (λ_ d x=>?_) Q
  ·refine Oper.wp_mono ?_ Cl
   rintro a' w' ⟨v,rfl,fv⟩
   rcases z with z | ⟨d,g,x,fK,z⟩
   ·refine hK _ _ ⟨m.apply p.o.dst e,fv,U,λs=>?_,λid=>?_⟩
    ·rw[Iv s,←z];exact ZJ m p s
    ·rw[Iw id,←z];exact kU m p id
   ·have hb:(m.apply p.o.dst e).get d= .bool g:=by rw[x,apply_get,fK];simp[PB]
    have Io:=fv.Bh hb;refine hK _ _ ⟨(m.apply p.o.dst e).reset.gr d g,fv.reset.gr Io,U,λs=>?_,λid=>?_⟩
    ·rw[Iv s];exact npB x p rfl z s
    ·rw[Iw id];exact nti p rfl z id
  ·have key:∀j,RK (cK ops.toList) L l j→j / 64≠d:=by
    rintro j (F | ⟨q,c,O,F⟩) rfl
    ·exact F (MQ _ x)
    ·rcases Yb q.i p.i with t | heq | GI
     ·have:=(qM y Dc c u t).2;rw[nfK ((N p u).trans x) F] at this;cases this
     ·rw[heq,G] at O;cases O
     ·have:=X q c GI (ntz ((N p u).trans x) F);rw[this] at O;cases O
   have KZ:=λd' Jg=>nnJ bR d' Jg;constructor
   ·intro i j F;rw[AF i] at F;refine key j (nt2 l l _ I (λ_ h=>h) (λk A=> .inl (λD=>?_)) j F);exact (KZ _ D).slot i k A rfl
   ·intro j ob jN;rw[iL j] at jN;have h0:gi (cK ops.toList) L l j (st.obj j):=by intro F9 kv;refine⟨.inl (λD=>((KZ _ D).obj j F9 kv).1 rfl),λk A=> .inl (λD=>((KZ _ D).obj j F9 kv).2 k A rfl)⟩
    have:=nzs l l _ I (λ_ h=>h) h0 ob jN;exact⟨key j this.1,λk A=>key k (this.2 k A)⟩
theorem nnw(eO:Wq P Γ){st:CO}{l:List Qw}{fin:CO}(u:Path P Γ ops gs ops.toList 0 st l fin)(Dc:dD (jG ops.toList []) (l.map (·.log))=true)
  (bR:gT (cK ops.toList) st=true) (MR:Tq ops.toList 0=true) {Q:Exit→Act→aaP→Prop} (hQ:∀a w,Rel w0 S fin a w→Q .normal a w):
  ∀(c:Nat) (b:Array Bool) (a:Act) (w:aaP),b.size=ops.size→(∀k,b.getD k false=true→yh ops (λk=>b.getD k false) k)→SP ops b≤c→
   TB w0 S st l (λk=>b.getD k false) a w→wpAny P .any ops Q c b a w:=by
 have A:=ndx u;have R:l.length=ops.size:=by
  have:(l.map (·.o)).length=ops.toList.length:=by rw[(XF u).2.1]
  simpa using this
 have j:∀(b:Array Bool) (a:Act) (w:aaP),b.size=ops.size→Region.ready .any ops b=[]→TB w0 S st l (λk=>b.getD k false) a w→Q .normal a w:=by
  intro b a w y n ⟨T,z,U,AF,iL⟩;have I9:∀k,k<ops.size→b.getD k false=true:=by
   intro k
   induction k using Nat.strongRecOn with
   | ind k H=>
    intro d;cases MF:b.getD k false
    ·have:k∈Region.ready .any ops b:=by
      rw[mem_ready];refine⟨?_,ops[k],aaf d,λe r t=>?_⟩
      ·rw[←MF];simp only[Tb,aaf (show k<b.size by omega),Option.getD_some]
      ·have:=nrM ops.toList 0 MR k ops[k] (by simp[ZX,d]) e r t;exact H e.on (by omega) (by omega)
     rw[n] at this;cases this
    ·rfl
  refine hQ a w ?_;have W:∀q∈l,b.getD q.i false=true:=by intro q g;have:=(Vp u g).2.2;exact I9 q.i (by simpa using this)
  have e1:T.get=fin.get:=by funext s;rw[AF s,A.2.1 s];exact fold_congr (λq v=>Qw.f q s v) (λ_=>True) (λ_ _ h=>absurd trivial h) (L:=λk=>b.getD k false) (L':=λ_=>true) l _ (λq g _=>W q g)
  have e2:T.obj=fin.obj:=by funext s;rw[iL s,A.2.2.1 s];exact fold_congr (λq v=>Qw.h q s v) (λ_=>True) (λ_ _ h=>absurd trivial h) (L:=λk=>b.getD k false) (L':=λ_=>true) l _ (λq g _=>W q g)
  obtain⟨β,φ,B⟩:=z.core;refine⟨?_,λx I=>by rw[A.2.2.2,←U];exact z.fx x I,z.defers,z.kept,β,φ, ?_⟩
  ·rw[z.size,U,A.2.2.2]
  ·rw[←e1,←e2];exact B
 intro c
 induction c with
 | zero=>
  intro b a w y M JS C;have n:Region.ready .any ops b=[]:=by
   cases N:Region.ready .any ops b with
   | nil=>rfl
   | cons x xs=>
    have I:x∈Region.ready .any ops b:=by rw[N];exact QF ..
    obtain⟨D,o,E,_⟩:=mem_ready.1 I;have F:=(X8.1 E).1;have:0<SP ops b:=by unfold SP;rw[List.countP_pos_iff];exact⟨x,List.mem_range.2 F,by simp only[D];rfl⟩
    omega
  exact⟨n,j b a w y n C⟩
 | succ c H=>
  intro b a w y M JS C;refine⟨λn=>j b a w y n C,λi hi=>?_⟩;obtain⟨D,o,E,KX⟩:=mem_ready.1 hi;have F:=(X8.1 E).1;have X:i<l.length:=by omega
  have G:l[i].i=i:=by
   have:(l.map (·.i))[i]? =(List.range' 0 ops.toList.length)[i]? :=by rw[(XF u).1]
   rw[aad,XT X,aam (by simpa using F)] at this;simpa using this
  have Z:∀k,(b.setIfInBounds i true).getD k false=(b.getD k false || k==i):=by
   intro k;simp only[Tb,aag];by_cases d:i=k
   ·subst d;simp[show i<b.size by omega]
   ·have:(k==i)=false:=by simpa using λh=>d h.symm
    simp[d,this]
  have ME:b.getD i false=false:=by rw[←D];simp only[Tb,aaf (show i<b.size by omega),Option.getD_some]
  have Mc:yh ops (λk=>b.getD k false) i:=by intro O m e r t;rw[E] at m;injection m with m;subst m;exact KX e r t
  have:=naC (w0:=w0) (S:=S) (Q:=Q) eO u Dc bR M (p:=l[i]) (List.getElem_mem X) (by rw[G];exact Mc) (by rw[G];exact ME) C
   (K:=wpAny P .any ops Q c (b.setIfInBounds i true)) (λa' w' B=>?_)
  ·rw[G] at this;exact this
  ·refine H _ a' w' (by simpa using y) (λk d=>?_) ?_ ?_
   ·intro O m e r t;show (b.setIfInBounds i true).getD e.on false=true;rw[Z] at d ⊢;simp only[Bool.or_eq_true,beq_iff_eq] at d ⊢;rcases d with d | rfl
    ·exact .inl (M k d O m e r t)
    ·exact .inl (Mc O m e r t)
   ·have:SP ops (b.setIfInBounds i true)<SP ops b:=by
     unfold SP;refine nns _ (λk d g=>?_) ⟨i,List.mem_range.2 F,by simp only[D];rfl, ?_⟩
     ·simp only[XQ,Tb,aag] at g ⊢;split at g
      ·split at g<;>simp at g
      ·exact g
     ·simp[aag,show i<b.size by omega]
    omega
   ·have e:(λk=>(b.setIfInBounds i true).getD k false)=(λk=>b.getD k false || k==i):=funext Z;rw[e];rw[G] at B;exact B
theorem Rel.drew{st:CO}{a:Act}{w:aaP}(c:Rel w0 S st a w):Rel w0 S st a {w with drawn:=w.drawn+1} :=by
 obtain⟨β,φ,d⟩:=c.core;refine⟨c.size,c.fx,c.defers,⟨c.kept.os,c.kept.tape,c.kept.output,c.kept.size,c.kept.block⟩,β,φ, ?_⟩;exact d.step (h':=st.obj) (β':=β) (φ':=φ) (w':= {w with drawn:=w.drawn+1}) (λ_=>False) (Xs _) (λ_ _ _=>rfl) (λb e=> .inl e) (λ_ _ _ h=>h) (λ_ _=>⟨rfl,rfl⟩)
  (λid o f=> .inl ⟨λh=>h,f,rfl,λ_ _ h=>h,λ_ _=>rfl⟩) d.sep
theorem npZ(i:Wq P Γ){st:CO}{a:Act}{w:aaP}{id:Nat}{b:Bool}{Q:Exit→Act→aaP→Prop}(j:Rel w0 S st a w)(h:(O5 P Γ ops b st).ok=true)
  (d:∀e w',Rel w0 S (O5 P Γ ops b st) e w'→Q .normal e w'):(Code.region id ops b).wp P Q a w:=by
 cases b with
 | false=>exact nqI i j h d
 | true=>
  unfold O5 at h d;simp only[HI] at h d;cases c:gT (cK ops.toList) st && Tq ops.toList 0 && P.follows .mixedOrders
  ·simp[c,r9] at h
  ·simp only[c,HI] at h d;simp only[gF] at c;obtain⟨l,fin,m,_,n,r⟩:=br _ _ _ _ h;refine wp_region_any c.2 (nnw i m (by simpa using n) c.1.1 c.1.2 (λe w' t=>d e w' (r w0 S e w' t)) _ _ a _ (by simp) (λk g=>?_) ?_ ?_)
   ·rw[Tb,aah] at g;split at g<;>simp at g
   ·unfold SP;have:=List.countP_le_length (p:=λk=> !((TO ops.size false).getD k true)) (l:=List.range ops.size);simpa using this
   ·refine⟨st,j.drew,rfl,λs=>?_,λo=>?_⟩
    ·refine (D6 (λq v=>Qw.f q s v) (L:=λk=>(TO ops.size false).getD k false) l (st.get s) (λq _=>?_)).symm;rw[Tb,aah];split<;>rfl
    ·refine (D6 (λq v=>Qw.h q o v) (L:=λk=>(TO ops.size false).getD k false) l (st.obj o) (λq _=>?_)).symm;rw[Tb,aah];split<;>rfl
end
section
variable {P:aaO} {Γ:Ctx} {w0:aaP} {S:Own}
theorem N4{st:CO}{c:aaQ}{b:Bool} :(st.dz c b).ok=st.ok:=by unfold CO.dz;split<;>rfl
theorem nes{st:CO}{c:aaQ}{b:Bool}(h:st.ok=true):D0 st (st.dz c b):=by
 unfold CO.dz;split
 ·exact R6 h
 ·exact D0.refl h
theorem yx{st:CO}{a:Act}{w:aaP}{c:aaQ}{b:Bool}(d:Rel w0 S st a w)(e:a.eval c= .bool b):Rel w0 S (st.dz c b) a w:=by
 unfold CO.dz;split
 ·exact d.gr e
 ·exact d
theorem lJ{st:CO}{a:Act}{w:aaP}(b:Rel w0 S st a w)(c:aaQ):∃β,dg w (uh st.obj β) β (ev st c) (a.eval c):=by
 obtain⟨β,φ,d⟩:=b.core;refine⟨β, ?_⟩;cases c with
 | tmp t=>exact d.cx t
 | const v=>exact QV v
 | global g=>simp[ev,dg]
 | func g=>simp[ev,dg]
theorem nCU{st:CO}{a:Act}{w:aaP}(d:Rel w0 S st a w){c:aaQ}{t:Bool}(h:ev st c= .kb t):a.eval c= .bool t:=by obtain⟨β,b⟩:=lJ d c;rw[h] at b;simpa only[dg] using b
theorem rpF{st:CO}{a:Act}{w:aaP}(d:Rel w0 S st a w){c:aaQ}{t:Bool}(h:ev st c= .bool t):a.eval c= .bool t:=by obtain⟨β,b⟩:=lJ d c;rw[h] at b;simpa only[dg] using b
theorem Qc:∀(c:Code) (st:CO),(exec P Γ c st).ok=true→D0 st (exec P Γ c st)
 | .skip,st,h=>by simp only[exec] at h ⊢;exact D0.refl h
 | .region id ops draw,st,h=>by simp only[exec] at h ⊢;exact nDa h
 | .seq a b,st,h=>by simp only[exec] at h ⊢;have e:=Qc b _ h;exact (Qc a _ e.ok).trans e
 | .cond c a b,st,h=>by
  simp only[exec] at h ⊢;split
  ·rename_i t d;simp only[d] at h;cases t with
   | true=>simp only[HI] at h ⊢;exact Qc a _ h
   | false=>simp only[rl] at h ⊢;exact Qc b _ h
  ·rename_i g d;simp only[d] at h;have f:=ZT h;have i:st.ok=true:=by
    cases g with
    | true=>
     have:=(Qc a _ (f.1 rfl)).ok;rw[N4] at this;exact this
    | false=>
     have:=(Qc b _ (f.2 rfl)).ok;rw[N4] at this;exact this
   exact nvN i h
  ·rename_i j e;exfalso;revert h;split
   ·rename_i t d;exact absurd d (j t)
   ·rename_i g d;exact absurd d (e g)
   ·simp[r9]
 | .block ..,st,h=>by simp[exec,r9] at h
 | .loop ..,st,h=>by simp[exec,r9] at h
 | .exit ..,st,h=>by simp[exec,r9] at h
 | .goto ..,st,h=>by simp[exec,r9] at h
 | .label ..,st,h=>by simp[exec,r9] at h
 | .ret,st,h=>by simp[exec,r9] at h
theorem fi(d:Wq P Γ):∀(c:Code) (st:CO) (a:Act) (w:aaP) (Q:Exit→Act→aaP→Prop),Rel w0 S st a w→(exec P Γ c st).ok=true→
  (∀b w',Rel w0 S (exec P Γ c st) b w'→Q .normal b w')→c.wp P Q a w
 | .skip,st,a,w,Q,hR,h,hQ=>by simp only[exec] at h hQ;exact wp_skip (hQ a w hR)
 | .region id ops draw,st,a,w,Q,hR,h,hQ=>by simp only[exec] at h hQ;exact npZ d hR h hQ
 | .seq x y,st,a,w,Q,hR,h,hQ=>by simp only[exec] at h hQ;have n:=Qc y _ h;refine wp_seq (fi d x st a w _ hR n.ok (λb w' e=>?_));exact fi d y _ b w' Q e h hQ
 | .cond c x y,st,a,w,Q,hR,h,hQ=>by
  simp only[exec] at h hQ;split at h
  ·rename_i t f;simp only[f] at hQ;refine wp_cond (nCU hR f) ?_;cases t with
   | true=>simp only[HI] at h hQ;exact fi d x st a w Q hR h hQ
   | false=>simp only[rl] at h hQ;exact fi d y st a w Q hR h hQ
  ·rename_i g f;simp only[f] at hQ;have m:=ZT h;have k:=rpF hR f;refine wp_cond k ?_;cases g with
   | true=>
    have i:=m.1 rfl;have j:=Qc x _ i;refine fi d x _ a w Q (yx hR.reset k) i (λb w' e=>hQ b w' ?_);have l:st.reset.ok=true:=by have:=j.ok;rwa[N4] at this
    exact BZ (λ_=>⟨(nes l).trans j,e⟩) (by simp) h
   | false=>
    have i:=m.2 rfl;have j:=Qc y _ i;refine fi d y _ a w Q (yx hR.reset k) i (λb w' e=>hQ b w' ?_);have l:st.reset.ok=true:=by have:=j.ok;rwa[N4] at this
    exact BZ (by simp) (λ_=>⟨(nes l).trans j,e⟩) h
  ·simp[r9] at h
 | .block ..,st,_,_,_,_,h,_=>by simp[exec,r9] at h
 | .loop ..,st,_,_,_,_,h,_=>by simp[exec,r9] at h
 | .rangeFunc ..,st,_,_,_,_,h,_=>by simp[exec,r9] at h
 | .exit ..,st,_,_,_,_,h,_=>by simp[exec,r9] at h
 | .scope ..,st,_,_,_,_,h,_=>by simp[exec,r9] at h
 | .goto ..,st,_,_,_,_,h,_=>by simp[exec,r9] at h
 | .label ..,st,_,_,_,_,h,_=>by simp[exec,r9] at h
 | .ret,st,_,_,_,_,h,_=>by simp[exec,r9] at h
 | .refuse ..,st,_,_,_,_,h,_=>by simp[exec,r9] at h
abbrev Sz:=List (Nat×yP×Option Nat)
def eF:Sz→Nat→Option (yP×Option Nat)
 | [],_=>none
 | (i,x)::l,j=>if j=i then some x else eF l j
def Env.jv(β:Env)(R:Sz):Env:=
 ⟨β.cY,λj=>match eF R j with | some (_,some id)=>β.val id | some (_,none)=> .slice none 0 0 | none=>β.val j,β.gV,
  λj=>match eF R j with | some (_,some id)=>β.nb id | some (_,none)=>[] | none=>β.nb j⟩
def ni6(o:yP):Prop:=(∃t e,o= .row t e [] false true)∨(∃t e a,o= .deep t e a [] none)
def Ya(o:yP):Prop:=(∃t e r a u,o= .row t e r a u)∨(∃t e b r,o= .deep t e b r none)
def cT(φ:Nat→List Nat)(R:Sz)(j:Nat):List Nat:=
 match eF R j with | some (_,some id)=>φ id | some (_,none)=>[] | none=>φ j
def zF(h:Nat→Option yP)(x:Nat×yP×Option Nat):Prop:=(∃id,Ya x.2.1∧x.2.2=some id∧h id=some x.2.1)∨(ni6 x.2.1∧x.2.2=none)
theorem nnF{w:aaP}{d av':Nat→Prop}{β:Env}{R:Sz} :∀(a:List bg) (l:List aaR),jy a=true→qV w d β a l→qV w av' (β.jv R) a l
 | [],l,_,h=>by simpa only[qV] using h
 | s::a,l,hp,h=>by
  simp only[qV] at h ⊢;obtain⟨v,b,rfl,c,e⟩:=h;cases s with
  | ptr id off=>
   refine⟨v,b,rfl, ?_,nnF a b hp e⟩;simp only[dg] at c ⊢;exact c
  | _=>simp[jy] at hp
theorem nvq{i:List (Nat×yP)}{f:Nat→bg}{β:Env}{φ:Nat→List Nat}{tm:Array aaR}{w:aaP}(p:Core w0 S f (CH i) β φ tm w){ck:gR}{nid:Nat}{s:bg}{v:aaR}{av':Nat→Prop}
  (a:dg w (uh (CH i) β) β s v) (y:∀b,av' b→uh (CH i) β b) {R:Sz} (h:∀x∈(Cb P i ck nid s).2,eF R x.1=some x.2):
  dg w av' (β.jv R) (Cb P i ck nid s).1 v∧∀x∈(Cb P i ck nid s).2,zF (CH i) x:=by
 have c:∀k,jH k=[]→dg w (uh (CH i) β) β k v→dg w av' (β.jv R) k v:=λk z A=>
  dg.mono (Xs _) (λ_ _ _=>rfl) (λb B=> .inl (y b B)) k v A (by rw[z];simp)
 cases s with
 | own id=>
  simp only[Cb] at h ⊢;simp only[dg] at a;cases j:CH i id with
  | none=>simp[dg]
  | some o=>
   cases o with
   | box=>simp[dg]
   | row t e r fz u=>
    simp only[j] at h;simp only;cases ck with
    | eN=>simp[dg]
    | Ay=>
     have:=h _ (Pb.2 rfl);simp only at this;refine⟨?_, ?_⟩
     ·simp only[dg,Env.jv,this];exact a
     ·intro x d;rw[Pb] at d;subst d;exact .inl ⟨id,.inl ⟨t,e,r,fz,u,rfl⟩,rfl,j⟩
    | own=>
     have:=h _ (Pb.2 rfl);simp only at this;refine⟨?_, ?_⟩
     ·simp only[dg,Env.jv,this];exact a
     ·intro x d;rw[Pb] at d;subst d;exact .inl ⟨id,.inl ⟨t,e,r,fz,u,rfl⟩,rfl,j⟩
    | deep=>
     have:=h _ (Pb.2 rfl);simp only at this;refine⟨?_, ?_⟩
     ·simp only[dg,Env.jv,this];exact a
     ·intro x d;rw[Pb] at d;subst d;exact .inl ⟨id,.inl ⟨t,e,r,fz,u,rfl⟩,rfl,j⟩
   | deep t e ts r ku=>
    cases ku with
    | some q=>simp[dg]
    | none=>
    simp only[j] at h;simp only;cases ck with
    | eN=>simp[dg]
    | Ay=>
     have:=h _ (Pb.2 rfl);simp only at this;refine⟨?_, ?_⟩
     ·simp only[dg,Env.jv,this];exact a
     ·intro x d;rw[Pb] at d;subst d;exact .inl ⟨id,.inr ⟨t,e,ts,r,rfl⟩,rfl,j⟩
    | own=>
     have:=h _ (Pb.2 rfl);simp only at this;refine⟨?_, ?_⟩
     ·simp only[dg,Env.jv,this];exact a
     ·intro x d;rw[Pb] at d;subst d;exact .inl ⟨id,.inr ⟨t,e,ts,r,rfl⟩,rfl,j⟩
    | deep=>
     have:=h _ (Pb.2 rfl);simp only at this;refine⟨?_, ?_⟩
     ·simp only[dg,Env.jv,this];exact a
     ·intro x d;rw[Pb] at d;subst d;exact .inl ⟨id,.inr ⟨t,e,ts,r,rfl⟩,rfl,j⟩
   | eN e r=>
    simp only;refine⟨?_,by simp⟩;have n:=(p.aC id _ j).1;rw[←a.1] at n;exact c _ rfl n
 | nil=>
  simp only[Cb] at h ⊢;simp only[dg] at a;cases ck with
  | Ay=>
   refine⟨?_,by simp⟩;simp only[dg];exact a
  | own t=>
   simp only at h ⊢;cases m:Ol P 16 t with
   | none=>simp[dg]
   | some e=>
    simp only[m] at h;have:=h _ (Pb.2 rfl);simp only at this;refine⟨?_, ?_⟩
    ·simp only[dg,Env.jv,this];rw[a];exact⟨rfl,rfl⟩
    ·intro x d;rw[Pb] at d;subst d;exact .inr ⟨.inl ⟨t,e,rfl⟩,rfl⟩
  | deep t ts=>
   simp only at h ⊢;cases m:Ol P 16 t with
   | none=>simp[dg]
   | some e=>
    simp only[m] at h;have:=h _ (Pb.2 rfl);simp only at this;refine⟨?_, ?_⟩
    ·simp only[dg,Env.jv,this];rw[a];exact⟨rfl,rfl⟩
    ·intro x d;rw[Pb] at d;subst d;exact .inr ⟨.inr ⟨t,e,ts,rfl⟩,rfl⟩
  | eN t=>
   simp only at h ⊢;cases m:Ol P 16 t with
   | none=>simp[dg]
   | some e=>
    refine⟨?_,by simp⟩;simp only[dg,kL];exact⟨[],⟨[],none,0,0,rfl,a,rfl,Xs _,Nat.zero_le _,.inl ⟨rfl,rfl⟩⟩,by simp⟩
 | kb b=>
  simp only[Cb];refine⟨?_,by simp⟩;simp only[dg] at a ⊢;exact a
 | agg=>simp[Cb,dg]
 | Ej=>simp[Cb,dg]
 | eK=>simp[Cb,dg]
 | Gx=>simp[Cb,dg]
 | GC g cs=>
  simp only[Cb];cases i:jy cs
  ·simp[dg]
  ·simp only[HI];refine⟨?_,by simp⟩;simp only[dg] at a ⊢;obtain⟨l,rfl,j⟩:=a;exact⟨l,rfl,nnF cs l i j⟩
 | ptr id off=>
  simp only[Cb];refine⟨?_,by simp⟩;simp only[dg] at a ⊢;exact a
 | fV=>exact⟨c _ rfl a,by simp[Cb]⟩
 | undef=>exact⟨c _ rfl a,by simp[Cb]⟩
 | int=>exact⟨c _ rfl a,by simp[Cb]⟩
 | bool=>exact⟨c _ rfl a,by simp[Cb]⟩
 | str=>exact⟨c _ rfl a,by simp[Cb]⟩
 | sl=>exact⟨c _ rfl a,by simp[Cb]⟩
 | iv=>exact⟨c _ rfl a,by simp[Cb]⟩
theorem nCp{c:List (Nat×yP)}{f:Nat→bg}{β:Env}{φ:Nat→List Nat}{tm:Array aaR}{w:aaP}(g:Core w0 S f (CH c) β φ tm w){d:List (Nat×gR)}{b:Nat}{av':Nat→Prop}
  (h:∀b,av' b→uh (CH c) β b) {R:Sz} :∀(l:List bg) (k:Nat) (e:List aaR),qV w (uh (CH c) β) β l e→(∀x∈(tq P c d b k l).2,eF R x.1=some x.2)→
  qV w av' (β.jv R) (tq P c d b k l).1 e∧∀x∈(tq P c d b k l).2,zF (CH c) x
 | [],k,e,hl,_=>by simp only[tq,qV] at hl ⊢;exact⟨hl,by simp⟩
 | s::l,k,e,hl,hR=>by
  simp only[qV] at hl;obtain⟨v,i,rfl,n,o⟩:=hl;simp only[tq] at hR ⊢;have j:=nvq (P:=P) g (ck:=Wg d k) (nid:=G8 (20000+b*4) k) n h (R:=R) (λx a=>hR x (U8 _ a));have m:=nCp g h l (k+1) i o (λx a=>hR x (mi _ a));refine⟨?_,λx a=>?_⟩
  ·simp only[qV];exact⟨v,i,rfl,j.1,m.1⟩
  ·rcases Pc.1 a with a | a
   ·exact j.2 x a
   ·exact m.2 x a
end
set_option linter.unusedVariables false
set_option linter.unusedSimpArgs false
section
variable {P:aaO} {Γ:Ctx} {w0:aaP} {S:Own}
theorem I0{l:List Nat}(h:zS l=true):l.Nodup:=by
 induction l with
 | nil=>simp
 | cons i l a=>
  simp only[zS,gF,XQ] at h;rw[SO];refine⟨λb=>?_,a h.2⟩;rw[mj.2 b] at h;simp at h
theorem nq6{R:Sz}{j:Nat}{x:yP×Option Nat}(h:eF R j=some x):(j,x)∈R:=by
 induction R with
 | nil=>simp[eF] at h
 | cons y l a=>
  obtain⟨i,z⟩:=y;simp only[eF] at h;split at h
  ·rename_i b;injection h with h;subst h b;exact QF ..
  ·exact Pe _ (a h)
theorem nei{R:Sz}{x:Nat×yP×Option Nat}(a:x∈R)(b:(R.map (·.1)).Nodup):eF R x.1=some x.2:=by
 induction R with
 | nil=>simp at a
 | cons y l c=>
  obtain⟨i,z⟩:=y;simp only[T1,SO] at b;simp only[eF];rcases QE.1 a with rfl | a
  ·simp
  ·have:x.1≠i:=λe=>b.1 (e ▸ X9 a);rw[if_neg this];exact c a b.2
theorem niI{R:Sz}{j:Nat}(h:j ∉ R.map (·.1)):eF R j=none:=by
 induction R with
 | nil=>rfl
 | cons y l a=>
  obtain⟨i,z⟩:=y;simp only[T1,QE,not_or] at h;simp only[eF];rw[if_neg h.1];exact a h.2
theorem nbs{R:Sz}(h:(lB R).Nodup){x y:Nat×yP×Option Nat}{id:Nat}(b:x∈R)(a:y∈R)(c:x.2.2=some id)(d:y.2.2=some id):x=y:=by
 have mem:∀(R:Sz) (z:Nat×yP×Option Nat),z∈R→z.2.2=some id→id∈lB R:=by
  intro R
  induction R with
  | nil=>simp
  | cons u l e=>
   obtain⟨i,o,f⟩:=u;intro z j g;rcases QE.1 j with rfl | m
   ·simp only at g;subst g;simp[lB]
   ·have:=e z m g;cases f with
    | none=>simpa [lB] using this
    | some k=>simp[lB,this]
 induction R with
 | nil=>simp at b
 | cons u l e=>
  obtain⟨i,o,f⟩:=u;cases f with
  | none=>
   simp only[lB] at h;rcases QE.1 b with rfl | b
   ·cases c
   ·rcases QE.1 a with rfl | a
    ·cases d
    ·exact e h b a
  | some k=>
   simp only[lB,SO] at h;rcases QE.1 b with rfl | b
   ·simp only[VR] at c;rcases QE.1 a with rfl | a
    ·rfl
    ·exact absurd (c ▸ mem l y a d) h.1
   ·rcases QE.1 a with rfl | a
    ·simp only[VR] at d;exact absurd (d ▸ mem l x b c) h.1
    ·exact e h.2 b a
theorem nlT{st:CO}{i:Nat} :∀(l:List (Nat×gR)),PM (Vw P st l).1 i= .fV∨
  ∃ck,PM (Vw P st l).1 i=(Cb P st.hp ck (G8 (10000+i) 0) (st.get i)).1∧∀x∈(Cb P st.hp ck (G8 (10000+i) 0) (st.get i)).2,x∈(Vw P st l).2
 | []=> .inl rfl
 | (k,ck)::l=>by
  simp only[Vw,PM];cases b:Pd k i
  ·simp only[rl];rcases nlT l with h | ⟨c,d,e⟩
   ·exact .inl h
   ·exact .inr ⟨c,d,λx a=>mi _ (e x a)⟩
  ·have:=cL b;subst this;simp only[HI];exact .inr ⟨ck,rfl,λx a=>U8 _ a⟩
theorem npR{st:CO}{x:Nat×yP×Option Nat} :∀(l:List (Nat×gR)),x∈(Vw P st l).2→∃i ck,x∈(Cb P st.hp ck (G8 (10000+i) 0) (st.get i)).2
 | [],h=>by simp[Vw] at h
 | (k,ck)::l,h=>by
  simp only[Vw] at h;rcases Pc.1 h with h | h
  ·exact⟨k,ck,h⟩
  ·exact npR l h
theorem FY{c:List (Nat×yP)}{j:Nat}{o:yP} :∀(l:List (Nat×List (Nat×gR))),(j,o)∈(BV P c l).1→
  ∃d t a,CH c j=some (.box t a)∧o= .box t (tq P c d j 0 a).1∧∀x∈(tq P c d j 0 a).2,x∈(BV P c l).2
 | [],h=>by simp[BV] at h
 | (b,d)::l,h=>by
  simp only[BV] at h ⊢;split at h
  ·rename_i t a f;simp only at h ⊢;rcases QE.1 h with h | h
   ·simp only[Prod.mk.injEq] at h;obtain⟨rfl,rfl⟩:=h;refine⟨d,t,a,f,rfl,λx e=>?_⟩;exact U8 _ e
   ·obtain⟨g,i,k,m,n,p⟩:=FY l h;exact⟨g,i,k,m,n,λx e=>mi _ (p x e)⟩
  ·rename_i f;exact FY l h
theorem WO{c:List (Nat×yP)}{x:Nat×yP×Option Nat} :∀(l:List (Nat×List (Nat×gR))),x∈(BV P c l).2→
  ∃d j t a,CH c j=some (.box t a)∧x∈(tq P c d j 0 a).2
 | [],h=>by simp[BV] at h
 | (b,d)::l,h=>by
  simp only[BV] at h;split at h
  ·rename_i t a e;simp only at h;rcases Pc.1 h with h | h
   ·exact⟨d,b,t,a,e,h⟩
   ·exact WO l h
  ·exact WO l h
theorem naP{c:List (Nat×yP)}{ck:gR}{d:Nat}{s:bg} :∀x∈(Cb P c ck d s).2,zF (CH c) x:=by
 intro x a;cases s with
 | own id=>
  simp only[Cb] at a;cases b:CH c id with
  | none=>simp[b] at a
  | some o=>
   cases o with
   | box=>simp[b] at a
   | eN=>simp[b] at a
   | deep t e ts r ku=>
    cases ku with
    | some q=>simp[b] at a
    | none=>
    simp only[b] at a;cases ck with
    | eN=>simp at a
    | Ay=>
     rw[Pb] at a;subst a;exact .inl ⟨id,.inr ⟨t,e,ts,r,rfl⟩,rfl,b⟩
    | own=>
     rw[Pb] at a;subst a;exact .inl ⟨id,.inr ⟨t,e,ts,r,rfl⟩,rfl,b⟩
    | deep=>
     rw[Pb] at a;subst a;exact .inl ⟨id,.inr ⟨t,e,ts,r,rfl⟩,rfl,b⟩
   | row t e r fz u=>
    simp only[b] at a;cases ck with
    | eN=>simp at a
    | Ay=>
     rw[Pb] at a;subst a;exact .inl ⟨id,.inl ⟨t,e,r,fz,u,rfl⟩,rfl,b⟩
    | own=>
     rw[Pb] at a;subst a;exact .inl ⟨id,.inl ⟨t,e,r,fz,u,rfl⟩,rfl,b⟩
    | deep=>
     rw[Pb] at a;subst a;exact .inl ⟨id,.inl ⟨t,e,r,fz,u,rfl⟩,rfl,b⟩
 | nil=>
  simp only[Cb] at a;cases ck with
  | Ay=>simp at a
  | eN t=>
   simp only at a;split at a<;>simp at a
  | own t=>
   simp only at a;split at a
   ·rename_i e f;rw[Pb] at a;subst a;exact .inr ⟨.inl ⟨t,e,rfl⟩,rfl⟩
   ·simp at a
  | deep t ts=>
   simp only at a;split at a
   ·rename_i e f;rw[Pb] at a;subst a;exact .inr ⟨.inr ⟨t,e,ts,rfl⟩,rfl⟩
   ·simp at a
 | kb=>simp[Cb] at a
 | agg=>simp[Cb] at a
 | Ej=>simp[Cb] at a
 | eK=>simp[Cb] at a
 | ptr=>simp[Cb] at a
 | fV=>simp[Cb] at a
 | undef=>simp[Cb] at a
 | int=>simp[Cb] at a
 | bool=>simp[Cb] at a
 | str=>simp[Cb] at a
 | sl=>simp[Cb] at a
 | iv=>simp[Cb] at a
 | Gx=>simp[Cb] at a
 | GC g cs=>
  simp only[Cb] at a;cases c:jy cs<;>simp[c] at a
theorem nkw{c:List (Nat×yP)}{d:List (Nat×gR)}{b:Nat} :∀(l:List bg) (k:Nat),∀x∈(tq P c d b k l).2,zF (CH c) x
 | [],_,x,a=>by simp[tq] at a
 | s::l,k,x,a=>by
  simp only[tq] at a;rcases Pc.1 a with a | a
  ·exact naP x a
  ·exact nkw l (k+1) x a
def ndQ(h:Nat→Option yP)(R:Sz)(β:Env)(φ:Nat→List Nat)(j:Nat)(o:yP):Prop:=(eF R j=none∧∃t a,h j=some (.box t a)∧∃b,o= .box t b)∨ (∃id,eF R j=some (o,some id)∧h id=some o∧Ya o)∨ (eF R j=some (o,none)∧ni6 o)
theorem Ya.Gk{o:yP}(a:Ya o){β:Env}{R:Sz}{j id:Nat}{b:yP}(c:eF R j=some (b,some id)):ar (β.jv R) j o=ar β id o:=by rcases a with ⟨t,e,r,d,u,rfl⟩ | ⟨t,e,f,r,rfl⟩<;>simp[ar,Env.jv,c]
theorem Ya.G4{o:yP}(m:Ya o){w:aaP}{k av':Nat→Prop}{β:Env}{R:Sz}{j id:Nat}{n:yP}{φ:List Nat}(l:eF R j=some (n,some id))(p:∀b,av' b→k b)(h:ef w k β id o φ):ef w av' (β.jv R) j o φ:=by
 have a:(β.jv R).val j=β.val id:=by simp[Env.jv,l]
 have q:(β.jv R).nb j=β.nb id:=by simp[Env.jv,l]
 rcases m with ⟨t,e,r,z,u,rfl⟩ | ⟨t,e,A,r,rfl⟩
 ·obtain⟨c,s,d,f,g,i⟩:=h;exact⟨c,s,by rw[a];exact d,f,λb v x=>g b v (p b x),by rw[a];exact i⟩
 ·obtain⟨c,y,d,f,g,i⟩:=h;exact⟨c,y,by rw[a];exact d,f,by rw[q];exact g,by rw[a];exact i⟩
theorem Ya.Dx{o:yP}(a:Ya o){t:TypeId}{b:List bg}(h:o= .box t b):False:=by rcases a with ⟨_,_,_,_,_,rfl⟩ | ⟨_,_,_,_,rfl⟩<;>cases h
theorem nb7{f A:Nat→bg}{h n:Nat→Option yP}{β:Env}{φ:Nat→List Nat}{tm:Array aaR}{w:aaP}(l:Core w0 S f h β φ tm w){R:Sz}(s:(lB R).Nodup)
  (u:∀j o,n j=some o→ndQ h R β φ j o)
  (E:(∀b,uh n (β.jv R) b→uh h β b)→(∀i,dg w (uh n (β.jv R)) (β.jv R) (A i) (tm.getD i undef))∧
   ∀j t a p,n j=some (.box t p)→h j=some (.box t a)→∀v,qV w (uh h β) β a v→qV w (uh n (β.jv R)) (β.jv R) p v):
  Core w0 S A n (β.jv R) (cT φ R) tm w:=by
 have B:∀b,uh n (β.jv R) b→uh h β b:=by
  rintro b (⟨j,o,m,g⟩ | g)
  ·rcases u j o m with ⟨c,t,a,d,p,rfl⟩ | ⟨id,c,d,r⟩ | ⟨c,x⟩
   ·exact .inl ⟨j,_,d,by simpa [ar,Env.jv] using g⟩
   ·refine .inl ⟨id,_,d, ?_⟩;rw[r.Gk c] at g;exact g
   ·rcases x with ⟨t,e,rfl⟩ | ⟨t,e,F,rfl⟩<;>simp[ar,Env.jv,c,T2] at g
  ·exact .inr g
 obtain⟨G,H⟩:=E B;refine⟨G,λj o m=>?_,λj o m=>?_,λi j I K C L m b g=>?_,l.gV,l.bars⟩
 ·rcases u j o m with ⟨c,t,a,d,p,rfl⟩ | ⟨id,c,d,r⟩ | ⟨c,x⟩
  ·obtain⟨v,M,N,O,P⟩:=l.aC j _ d;refine⟨v,M,H j t a p m d v N,O, ?_⟩;simp only[cT,c];exact P
  ·simp only[cT,c];exact r.G4 c B (l.aC id _ d)
  ·have k:(β.jv R).val j= .slice none 0 0:=by simp[Env.jv,c]
   have Q:(β.jv R).nb j=[]:=by simp[Env.jv,c]
   rcases x with ⟨t,e,rfl⟩ | ⟨t,e,F,rfl⟩
   ·refine⟨[],[],⟨by simp,.inl ⟨k,rfl,rfl⟩⟩,⟨rfl,by simp⟩,by simp, ?_⟩;simp[cT,c,k,T2]
   ·refine⟨[],[],⟨by simp,.inl ⟨k,rfl,rfl⟩⟩,⟨rfl,by simp⟩,by rw[Q];rfl, ?_⟩;simp[cT,c,k,T2]
 ·rcases u j o m with ⟨c,t,a,d,p,rfl⟩ | ⟨id,c,d,r⟩ | ⟨c,x⟩
  ·simp only[cT,c];exact l.fresh j _ d
  ·simp only[cT,c];exact l.fresh id _ d
  ·simp[cT,c]
 ·rcases u i I L with ⟨c,t,a,d,p,rfl⟩ | ⟨id,c,d,r⟩ | ⟨c,x⟩<;>
   rcases u j K m with ⟨y,U,W,q,X,rfl⟩ | ⟨D,y,q,T⟩ | ⟨y,Z⟩<;>
   simp only[cT,c,y] at g ⊢
  ·exact l.sep i j _ _ C d q b g
  ·refine l.sep i D _ _ (λe=>?_) d q b g;rw[e,q,VR] at d;exact T.Dx d
  ·simp
  ·refine l.sep id j _ _ (λz=>?_) d q b g;rw[z,q,VR] at d;exact r.Dx d.symm
  ·refine l.sep id D _ _ (λz=>?_) d q b g;subst z;have:=nbs s (nq6 c) (nq6 y) rfl rfl;simp only[Prod.mk.injEq] at this;exact C this.1
  ·simp
  ·simp at g
  ·simp at g
  ·simp at g
theorem nhi{an:iT}{st:CO}{a:Act}{w:aaP}(n:Rel w0 S st a w)(l:(OI P an st).ok=true):Rel w0 S (OI P an st) a w∧st.ok=true:=by
 unfold OI at l ⊢;simp only at l ⊢;cases g:zS (lB ((Vw P st an.cx).2++(BV P st.hp an.boxes).2)) &&
   zS ((BV P st.hp an.boxes).1.map (·.1)++((Vw P st an.cx).2++(BV P st.hp an.boxes).2).map (·.1))
 ·rw[g] at l;simp[r9] at l
 rw[g] at l;simp only[HI] at l ⊢;refine⟨?_,l⟩;simp only[gF] at g;obtain⟨β,φ,A⟩:=n.core;have p:=I0 g.1;have B:=I0 g.2;rw[Q3] at B;obtain⟨H,I,K⟩:=B;have L:∀x∈(Vw P st an.cx).2,x∈(Vw P st an.cx).2++(BV P st.hp an.boxes).2:=λx d=>U8 _ d;have M:∀x∈(BV P st.hp an.boxes).2,x∈(Vw P st an.cx).2++(BV P st.hp an.boxes).2:=λx d=>mi _ d;have C:∀x∈(Vw P st an.cx).2++(BV P st.hp an.boxes).2,zF (CH st.hp) x:=by
  intro x d;rcases Pc.1 d with d | d
  ·obtain⟨i,ck,c⟩:=npR _ d;exact naP x c
  ·obtain⟨D,j,t,b,c,h⟩:=WO _ d;exact nkw b 0 x h
 generalize (Vw P st an.cx).2++(BV P st.hp an.boxes).2=R at*;have s:∀x∈R,eF R x.1=some x.2:=λx d=>nei d I;have v:Core w0 S st.get (CH st.hp) β φ a.tmps w:=A;refine⟨n.size,n.fx,n.defers,n.kept,β.jv R,cT φ R, ?_⟩;have E:∀j o,CH ((BV P st.hp an.boxes).1++R.map (λx=>(x.1,x.2.1))) j=some o→(j,o)∈(BV P st.hp an.boxes).1∨∃q,(j,o,q)∈R:=by
  intro j o r;rcases Pc.1 (nL6 r) with c | c
  ·exact .inl c
  ·obtain⟨x,d,F⟩:=aai.1 c;obtain⟨k,U,q⟩:=x;simp only[Prod.mk.injEq] at F;obtain⟨rfl,rfl⟩:=F;exact .inr ⟨q,d⟩
 refine nb7 v p (λj o r=>?_) (λG=>⟨λi=>?_,λj t b W r N O y=>?_⟩)
 ·rcases E j o r with c | ⟨q,c⟩
  ·obtain⟨D,t,b,h,u,_⟩:=FY _ c;refine .inl ⟨niI (λQ=>K j (X9 (f:=(·.1)) c) j Q rfl),t,b,h,_,u⟩
  ·rcases C _ c with ⟨id,e,m,z⟩ | ⟨e,m⟩
   ·simp only at e m z;subst m;exact .inr (.inl ⟨id,s _ c,z,e⟩)
   ·simp only at e m;subst m;exact .inr (.inr ⟨s _ c,e⟩)
 ·show dg w _ _ (PM (Vw P st an.cx).1 i) _;rcases nlT (P:=P) (st:=st) (i:=i) an.cx with c | ⟨ck,c,h⟩
  ·rw[c];simp[dg]
  ·rw[c];exact (nvq v (A.cx i) G (λx d=>s x (L x (h x d)))).1
 ·rcases E j _ r with c | ⟨q,c⟩
  ·obtain⟨D,X,Z,h,u,T⟩:=FY _ c;rw[N] at h;simp only[VR,yP.box.injEq] at h;obtain⟨rfl,rfl⟩:=h;simp only[yP.box.injEq,true_and] at u;rw[u];exact (nCp v G b 0 O y (λx d=>s x (M x (T x d)))).1
  ·rcases C _ c with ⟨id,e,m,z⟩ | ⟨e,m⟩
   ·exact (e.Dx rfl).elim
   ·rcases e with ⟨_,_,e⟩ | ⟨_,_,_,e⟩<;>cases e
theorem nzm(st:CO):st.Ez.ok=st.ok:=by
 unfold CO.Ez;split
 ·split
  ·split
   ·rename_i r _ _;generalize (Pd _ _ && _ && _ && _ && _:Bool)=c;cases c<;>rfl
   ·rfl
  ·rfl
 ·rfl
theorem npL{st:CO}{a:Act}{w:aaP}(b:Rel w0 S st a w):Rel w0 S st.Ez a w:=by
 unfold CO.Ez;split
 ·rename_i id F;split
  ·rename_i t e p c i d q;split
   ·rename_i n h r u s;cases o:Pd n p && ak e h && Pd (Zv e) 1 && !(Pd d id) && zP h
    ·exact b
    ·simp only[HI];simp only[gF,XQ] at o;obtain⟨⟨⟨⟨k,f⟩,v⟩,x⟩,y⟩:=o;have k:=cL k;subst k;have z:∃g,e[Xf e]? =some (.sl g)∧g=h:=by
      unfold ak at f;split at f
      ·rename_i g A;exact⟨g,A,xp _ _ f⟩
      ·cases f
     have B:d≠id:=aaj x;obtain⟨β,φ,C⟩:=b.core;obtain⟨l,m,D⟩:=nki C (h':=CH (Vs [(id,some (.deep t e [n] (c.set i (CI (c.getD i []) (Xf e) [.sl r])) none)),(d,none)] st.hp)) q s z (cL v) B y
      (by rw[gN];simp[xO,PB]) (λj E=>by rw[gN];simp[xO,PB,E];rfl)
     exact⟨b.size,b.fx,b.defers,b.kept,l,m,D⟩
   ·exact b
  ·exact b
 ·exact b
theorem U4(st:CO):∀(l:List (Nat×gR)),VQ st.obj (CV st l)∧gf (CV st l)=true
 | []=>⟨by simp[CV,VQ],rfl⟩
 | (i,.Ay)::l=>U4 st l
 | (i,.own _)::l=>U4 st l
 | (i,.deep _ _)::l=>U4 st l
 | (i,.eN _)::l=>by
  have a:=U4 st l;simp only[CV];split
  ·rename_i id g;split
   ·rename_i t e r c u d;cases f:Nh id (CV st l)
    ·exact a
    ·refine⟨λx b=>?_,by simp only[HI,gf,f,a.2,Bool.and_self]⟩;simp only[HI] at b;rcases QE.1 b with rfl | b
     ·exact⟨_,d,.inl ⟨t,c,rfl⟩⟩
     ·exact a.1 x b
   ·exact a
  ·exact a
theorem nuL{an:iT}{st:CO}{a:Act}{w:aaP}(b:Rel w0 S st a w):Rel w0 S (st.KL an) a w:=by obtain⟨β,φ,c⟩:=b.core;obtain⟨d,e⟩:=U4 st an.cx;refine⟨b.size,b.fx,b.defers,b.kept,β,TE φ (CV st an.cx), ?_⟩;have:=c.gg _ d e;show Core w0 S st.get (CH (Vs (qv (CV st an.cx)) st.hp)) _ _ _ _;rw[gN];exact this
theorem nsU{an:iT}{st:CO}{a:Act}{w:aaP}(c:Rel w0 S st a w)(d:(canon P an st).ok=true):Rel w0 S (canon P an st) a w∧st.ok=true:=by have:=nhi (nuL (an:=an) (npL c)) d;have b:=this.2;simp only[CO.KL] at b;rw[nzm] at b;exact⟨this.1,b⟩
end
section
variable {P:aaO} {Γ:Ctx} {w0:aaP} {S:Own} {A:List (Nat×iT)} {N:Nat} {r:List DC}
structure nyL (K:Zx) (r:List DC):Prop where
 fq:∀st,K.fq st=(true,r)→st.ok=true
 ext:∀i st,K.ext i st=(true,r)→st.ok=true
 ret:∀st,K.ret st=(true,r)→st.ok=true
theorem ncP{an:iT}{st:CO}(h:(OI P an st).ok=true):st.ok=true:=by
 unfold OI at h;simp only at h;cases a:zS (lB ((Vw P st an.cx).2++(BV P st.hp an.boxes).2)) &&
   zS ((BV P st.hp an.boxes).1.map (·.1)++((Vw P st an.cx).2++(BV P st.hp an.boxes).2).map (·.1))
 ·rw[a] at h;simp[r9] at h
 ·rw[a] at h;exact h
theorem AM{an:iT}{st:CO}(h:(canon P an st).ok=true):st.ok=true:=by have:=ncP h;have a:st.Ez.ok=true:=this;rwa[nzm] at a
theorem pV:kW≠(true,r):=by simp[kW]
theorem nt3{st:CO}{c:aaQ}{x y:Code}{g:Bool}(h:(merge st g (exec P Γ x (st.reset.dz c true)) (exec P Γ y (st.reset.dz c false))).ok=true):st.ok=true:=by
 have a:=ZT h;cases g with
 | true=>have:=(Qc x _ (a.1 rfl)).ok;rwa[N4] at this
 | false=>have:=(Qc y _ (a.2 rfl)).ok;rwa[N4] at this
def Aj(P:aaO)(Γ:Ctx)(A:List (Nat×iT))(N:Nat)(x:Code)(an:iT)(K:Zx)(n:Nat):CO→zW:=Nat.rec (motive:=λ_=>CO→zW) (λ_=>kW) (λ_ a s=>run P Γ A N x s {fq:=λb=>a (canon P an b),ext:=K.ext,ret:=K.ret}) n
theorem eT{x:Code}{an:iT}{K:Zx}{n:Nat}{s:CO} :Aj P Γ A N x an K (n+1) s=run P Γ A N x s {fq:=λa=>Aj P Γ A N x an K n (canon P an a),ext:=K.ext,ret:=K.ret} :=rfl
theorem aF:∀(c:Code) (st:CO) (K:Zx),nyL K r→run P Γ A N c st K=(true,r)→st.ok=true
 | .skip,st,K,hK,h=>hK.fq st (by simpa only[run] using h)
 | .region id ops draw,st,K,hK,h=>by simp only[run] at h;exact (nDa (hK.fq _ (UM h))).ok
 | .seq x y,st,K,hK,h=>by simp only[run] at h;exact aF x st {fq:=λs=>run P Γ A N y s K,ext:=K.ext,ret:=K.ret} ⟨λs a=>aF y s K hK a,hK.ext,hK.ret⟩ h
 | .cond c x y,st,K,hK,h=>by
  simp only[run] at h;split at h
  ·rename_i t f;cases t with
   | true=>exact aF x st K hK h
   | false=>exact aF y st K hK h
  ·rename_i g f;cases b:simple x && simple y && WK Γ st g (exec P Γ x (st.reset.dz c true)) (exec P Γ y (st.reset.dz c false))
   ·rw[b] at h;simp only[rl] at h;cases g with
    | true=>
     have:=aF x _ K hK h;rwa[N4] at this
    | false=>
     have:=aF y _ K hK h;rwa[N4] at this
   ·rw[b] at h;simp only[HI] at h;exact nt3 (hK.fq _ (UM h))
  ·exact absurd h pV
 | .block id x,st,K,hK,h=>by
  simp only[run] at h;refine aF x st {fq:=K.fq,ext:=λi s=>bif Pd i id then K.fq s else K.ext i s,ret:=K.ret} ⟨hK.fq,λi s a=>?_,hK.ret⟩ h;simp only at a;cases d:Pd i id
  ·rw[d] at a;exact hK.ext i s a
  ·rw[d] at a;exact hK.fq s a
 | .loop x,st,K,hK,h=>by
  simp only[run] at h;split at h
  ·rename_i an l;have key:∀n s,Aj P Γ A N x an K n s=(true,r)→s.ok=true:=by
    intro n
    induction n with
    | zero=>intro s a;exact absurd a pV
    | succ n j=>
     intro s a;rw[eT] at a;exact aF x s {fq:=λe=>Aj P Γ A N x an K n (canon P an e),ext:=K.ext,ret:=K.ret} ⟨λe k=>AM (j _ k),hK.ext,hK.ret⟩ a
   exact AM (key N _ h)
  ·exact absurd h pV
 | .exit id,st,K,hK,h=>hK.ext id st (by simpa only[run] using h)
 | .ret,st,K,hK,h=>hK.ret st (by simpa only[run] using h)
 | .rangeFunc ..,st,_,_,h=>by simp only[run] at h;exact absurd h pV
 | .scope ..,st,_,_,h=>by simp only[run] at h;exact absurd h pV
 | .goto ..,st,_,_,h=>by simp only[run] at h;exact absurd h pV
 | .label ..,st,_,_,h=>by simp only[run] at h;exact absurd h pV
 | .refuse ..,st,_,_,h=>by simp only[run] at h;exact absurd h pV
structure nxv (w0:aaP) (S:Own) (K:Zx) (r:List DC) (Q:Exit→Act→aaP→Prop):Prop where
 fq:∀st a w,Rel w0 S st a w→K.fq st=(true,r)→Q .normal a w
 ext:∀i st a w,Rel w0 S st a w→K.ext i st=(true,r)→Q (.exit i) a w
 ret:∀st a w,Rel w0 S st a w→K.ret st=(true,r)→Q .ret a w
theorem wV(k:Wq P Γ):∀(c:Code) (st:CO) (K:Zx) (a:Act) (w:aaP) (Q:Exit→Act→aaP→Prop),nyL K r→Rel w0 S st a w→run P Γ A N c st K=(true,r)→nxv w0 S K r Q→c.wp P Q a w
 | .skip,st,K,a,w,Q,hK,d,h,hQ=>wp_skip (hQ.fq st a w d (by simpa only[run] using h))
 | .region id ops draw,st,K,a,w,Q,hK,d,h,hQ=>by simp only[run] at h;have h:=UM h;exact npZ k d (hK.fq _ h) (λe w' f=>hQ.fq _ e w' f h)
 | .seq x y,st,K,a,w,Q,hK,d,h,hQ=>by
  simp only[run] at h;refine wp_seq (wV k x st {fq:=λs=>run P Γ A N y s K,ext:=K.ext,ret:=K.ret} a w _ ⟨λs b=>aF y s K hK b,hK.ext,hK.ret⟩ d h ⟨λs e w' f b=>?_,λi s e w' f b=>?_,λs e w' f b=>?_⟩)
  ·exact wV k y s K e w' Q hK f b hQ
  ·exact hQ.ext i s e w' f b
  ·exact hQ.ret s e w' f b
 | .cond c x y,st,K,a,w,Q,hK,d,h,hQ=>by
  simp only[run] at h;split at h
  ·rename_i t o;refine wp_cond (nCU d o) ?_;cases t with
   | true=>exact wV k x st K a w Q hK d h hQ
   | false=>exact wV k y st K a w Q hK d h hQ
  ·rename_i g o;have j:=rpF d o;cases u:simple x && simple y && WK Γ st g (exec P Γ x (st.reset.dz c true)) (exec P Γ y (st.reset.dz c false))
   ·rw[u] at h;simp only[rl] at h;refine wp_cond j ?_;cases g with
    | true=>exact wV k x _ K a w Q hK (yx d j) h hQ
    | false=>exact wV k y _ K a w Q hK (yx d j) h hQ
   ·rw[u] at h;simp only[HI] at h;have h:=UM h;have z:=hK.fq _ h;have v:exec P Γ (.cond c x y) st=merge st g (exec P Γ x (st.reset.dz c true)) (exec P Γ y (st.reset.dz c false)):=by simp only[exec,o]
    exact fi k (.cond c x y) st a w Q d (by rw[v];exact z) (λe w' f=>hQ.fq _ e w' f (by rw[v];exact h))
  ·exact absurd h pV
 | .block id x,st,K,a,w,Q,hK,d,h,hQ=>by
  simp only[run] at h;refine wp_block (wV k x st {fq:=K.fq,ext:=λi s=>bif Pd i id then K.fq s else K.ext i s,ret:=K.ret} a w _ ⟨hK.fq,λi s b=>?_,hK.ret⟩ d h ⟨λs e w' f b=>hQ.fq s e w' f b,λi s e w' f b=>?_,λs e w' f b=>hQ.ret s e w' f b⟩)
  ·simp only at b;cases j:Pd i id
   ·rw[j] at b;exact hK.ext i s b
   ·rw[j] at b;exact hK.fq s b
  ·simp only at b;simp only[Exit.inBlock];cases j:Pd i id
   ·rw[j] at b;rw[if_neg (aaj j)];exact hQ.ext i s e w' f b
   ·rw[j] at b;rw[if_pos (cL j)];exact hQ.fq s e w' f b
 | .loop x,st,K,a,w,Q,hK,d,h,hQ=>by
  simp only[run] at h;split at h
  ·rename_i an B;have p:∀n s,Aj P Γ A N x an K n s=(true,r)→s.ok=true:=by
    intro n
    induction n with
    | zero=>intro s b;exact absurd b pV
    | succ n q=>
     intro s b;rw[eT] at b;exact aF x s {fq:=λl=>Aj P Γ A N x an K n (canon P an l),ext:=K.ext,ret:=K.ret} ⟨λl m=>AM (q _ m),hK.ext,hK.ret⟩ b
   have key:∀n s a w,Rel w0 S s a w→Aj P Γ A N x an K n s=(true,r)→Code.rounds P x Q n a w:=by
    intro n
    induction n with
    | zero=>intro s a w _ b;exact absurd b pV
    | succ n q=>
     intro s a w d b;rw[eT] at b;rw[rounds_succ];refine wV k x s {fq:=λl=>Aj P Γ A N x an K n (canon P an l),ext:=K.ext,ret:=K.ret} a w _ ⟨λl m=>AM (p _ _ m),hK.ext,hK.ret⟩ d b ⟨λl e w' f m=>?_,λi l e w' f m=>?_,λl e w' f m=>?_⟩
     ·exact q _ e w' (nsU f (p _ _ m)).1 m
     ·exact hQ.ext i l e w' f m
     ·exact hQ.ret l e w' f m
   exact wp_loop_rounds N (key N _ a w (nsU d (p _ _ h)).1 h)
  ·exact absurd h pV
 | .exit id,st,K,a,w,Q,hK,d,h,hQ=>wp_exit (hQ.ext id st a w d (by simpa only[run] using h))
 | .ret,st,K,a,w,Q,hK,d,h,hQ=>wp_ret (hQ.ret st a w d (by simpa only[run] using h))
 | .rangeFunc ..,st,_,_,_,_,_,_,h,_=>by simp only[run] at h;exact absurd h pV
 | .scope ..,st,_,_,_,_,_,_,h,_=>by simp only[run] at h;exact absurd h pV
 | .goto ..,st,_,_,_,_,_,_,h,_=>by simp only[run] at h;exact absurd h pV
 | .label ..,st,_,_,_,_,_,_,h,_=>by simp only[run] at h;exact absurd h pV
 | .refuse ..,st,_,_,_,_,_,_,h,_=>by simp only[run] at h;exact absurd h pV
end
section
variable {P:aaO} {Γ:Ctx} {w0:aaP} {S:Own} {A:List (Nat×iT)} {N:Nat}
variable {f:Nat→bg} {h:Nat→Option yP} {β:Env} {φ:Nat→List Nat} {tm:Array aaR} {w:aaP}
def ZF(tmps:Array aaR):ResultVar→Sem aaR
 | .tmp t=>pure (tmps.getD t undef)
 | .cell a t=>do loadVar t (←asAddr (tmps.getD a undef))
theorem nBx(o:Core w0 S f h β φ tm w){id off:Nat}{t:TypeId}{e:R_}(a:(oK P t (.ptr id off)).val f h=some e){v:aaR}(k:v= .pointer (some ⟨β.cY id,off,none⟩)):
  ∃u,(do loadVar t (←asAddr v):Sem aaR).run P w= .ok u w∧dg w (uh h β) β e.sv u:=by
 have conv:∀u,(Instr.loadAt t v).run P w= .ok u w→(do loadVar t (←asAddr v):Sem aaR).run P w= .ok u w:=by intro u l;subst k;exact l
 unfold oK at a;split at a
 case h_2=>simp at a
 rename_i E l;simp only[lW,M.aY,sC] at a;obtain⟨F,p,a⟩:=a;split at a
 ·rename_i G b;cases c:Oz P t
  ·simp only[c,rl] at a;split at a
   ·rename_i s r;simp only[M.ab,VR] at a;subst a;obtain⟨vs,m,d,_,_⟩:=o.aC id _ p;obtain⟨u,x,z⟩:=qV.get _ _ _ _ d r;refine⟨u,conv u ?_,z⟩;rw[k];exact RQ c l (by rw[Q9 m];exact x)
   ·simp at a
  ·simp only[c,HI] at a;split at a
   ·rename_i i A;cases n:Nat.ble (off+i.size) b.length
    ·simp[n] at a
    ·simp only[n,HI,M.ab,VR] at a;subst a;have B:=ZY n;obtain⟨vs,m,d,C,_⟩:=o.aC id _ p;have q:=qV.length _ _ d;refine⟨.agg ((vs.drop off).take i.size).toArray,conv _ ?_, ?_⟩
     ·rw[k];refine zX (vs:=(vs.drop off).take i.size) c A (by simp;omega) (λj v g=>?_);rw[Q9 m];rw[List.getElem?_take] at g;split at g
      ·simpa using g
      ·cases g
     ·simp only[dg];exact⟨_,rfl,qV.take _ _ _ (qV.drop _ _ _ d),λy D=>C y (List.mem_of_mem_drop (List.mem_of_mem_take D))⟩
   ·simp at a
 ·simp at a
theorem fM(b:Core w0 S f h β φ tm w):∀(l:List ResultVar) (AK:List bg),(jj P l).val f h=some AK→∃a,(l.mapM (ZF tm)).run P w= .ok a w∧qV w (uh h β) β AK a
 | [],AK,hs=>by simp only[jj,M.ab,VR] at hs;subst hs;exact⟨[],by simp,by simp[qV]⟩
 | .tmp t::l,AK,hs=>by
  simp only[jj,M.jd,M.ag,sC,M.ab,VR] at hs;obtain⟨r,c,rfl⟩:=hs;obtain⟨a,d,g⟩:=fM b l r c;refine⟨tm.getD t undef::a, ?_, ?_⟩
  ·simp only[List.mapM_cons,ZF,Sem.run_bind,Sem.run_pure,Result.andThen_ok,d]
  ·simp only[qV];exact⟨_,_,rfl,b.cx t,g⟩
 | .cell p t::l,AK,hs=>by
  simp only[jj,M.jd,M.ag,sC,M.ab,VR] at hs;obtain⟨e,i,r,c,rfl⟩:=hs;obtain⟨a,d,g⟩:=fM b l r c;have j:=b.cx p;split at i
  ·rename_i id off k;rw[k] at j;simp only[dg] at j;obtain⟨u,m,n⟩:=nBx b i j;refine⟨u::a, ?_, ?_⟩
   ·simp only[List.mapM_cons,Sem.run_bind,Sem.run_pure];have:(ZF tm (.cell p t)).run P w= .ok u w:=m;simp only[this,Result.andThen_ok,d]
   ·simp only[qV];exact⟨_,_,rfl,n,g⟩
  ·simp at i
theorem ni9{fn:Func} :results fn tm=(do let a ←fn.results.mapM (ZF tm);pure (if h:a.size=1 then a[0] else .tuple a)):=by
 unfold results
 congr 1
theorem big(l:List aaR):(if h:l.toArray.size=1 then l.toArray[0] else .tuple l.toArray)=pack l:=by
 cases l with
 | nil=>rfl
 | cons x l=>
  cases l with
  | nil=>rfl
  | cons y l=>simp[pack]
theorem CL{fn:Func}{a:List aaR}(b:(fn.results.toList.mapM (ZF tm)).run P w= .ok a w):(results fn tm).run P w= .ok (pack a) w:=by rw[ni9,Array.mapM_eq_mapM_toList];simp only[Sem.run_bind,map_eq_pure_bind,Sem.run_pure,b,Result.andThen_ok,bind_assoc,pure_bind];rw[big]
theorem Eh(z:Core w0 S f h β φ tm w):∀(P:List DB) (AK:List bg) (F:List aaR) (q:List DC×List Nat×List Nat),qV w (uh h β) β AK F→(yG P AK).val f h=some q→
  ∃D im tp,je w P q.1 F D im tp∧(∀b∈D,∃i∈q.2.1,(∃o,h i=some o)∧b∈φ i)∧(∀b∈tp,∃i o,i∈q.2.1∧h i=some o∧b∈ar β i o)∧(q.2.1.Nodup→D.Nodup)∧
   (∀b∈im,¬uh h β b∨∃i∈q.2.2,(∃o,h i=some o)∧b∈φ i)
 | [],[],F,q,hs,hq=>by simp only[yG,M.ab,VR] at hq;subst hq;simp only[qV] at hs;exact⟨[],[],[],⟨rfl,hs,rfl,rfl,rfl⟩,by simp,by simp,by simp,by simp⟩
 | [],_::_,F,q,hs,hq=>by simp[yG] at hq
 | _::_,[],F,q,hs,hq=>by simp[yG] at hq
 | rc::P,s::AK,F,q,hs,hq=>by
  simp only[qV] at hs;obtain⟨v,l,rfl,j,h2⟩:=hs;simp only[yG,M.ag,sC,M.ab,VR] at hq;obtain⟨q1,c,G,cM,rfl⟩:=hq;obtain⟨A,H,B,I,E,K,L,N⟩:=Eh z P AK l G h2 cM;cases rc with
  | eN ct=>
   simp only[tE,M.ag,sC,M.ab,VR] at c;obtain⟨p,hp,rfl⟩:=c;obtain⟨fp,r1,r2,_,r4,_⟩:=w7 z j hp;refine⟨A,fp++H,B,⟨p.1,G.1,v,l,fp,H,rfl,rfl,r1,I,rfl⟩, ?_, ?_, ?_, ?_⟩
   ·simpa using E
   ·simpa using K
   ·simpa using L
   ·intro b a;rcases Pc.1 a with a | a
    ·rcases r4 b a with d | ⟨x,hx,d⟩
     ·exact .inl d
     ·obtain⟨_,R,_⟩:=r2 x hx;exact .inr ⟨x.1,U8 _ (X9 hx),⟨_,R⟩,al (z.aC _ _ R) b (by rw[BP R] at d;exact d)⟩
    ·rcases N b a with d | ⟨i,k,d⟩
     ·exact .inl d
     ·exact .inr ⟨i,mi _ k,d⟩
  | own t e=>
   cases s with
   | nil=>
    simp only[tE,M.ab,VR] at c;subst c;simp only[dg] at j;subst j;refine⟨A,H,B,⟨[],G.1,_,l,[],[],A,B,rfl,rfl,⟨by simp,.inl ⟨rfl,rfl,rfl⟩⟩,⟨rfl,by simp⟩,I,by simp[T2],by simp[T2]⟩, ?_, ?_, ?_, ?_⟩
    ·simpa using E
    ·simpa using K
    ·simpa using L
    ·simpa using N
   | own id=>
    simp only[tE,M.aY,sC] at c;obtain⟨ob,m,c⟩:=c;split at c
    ·rename_i T U r u;cases C:Pd t T && pc e U && u
     ·simp[C] at c
     ·simp only[C,HI,M.ab,VR] at c;subst c;simp only[gF] at C;obtain⟨⟨W,X⟩,Z⟩:=C;have LJ:=cL W;have Kk:=xp _ _ X;subst LJ Kk Z;simp only[dg] at j;obtain⟨n,aE,O,o2,o3,y⟩:=z.aC id _ m;rw[←j.1] at O;simp only[HI] at y;rw[←j.1] at y;refine⟨(v.ownBlock.toList++aE.flatten)++A,H,v.ownBlock.toList++B,⟨r,G.1,v,l,n,aE,A,B,rfl,rfl,O,o2,I,rfl,rfl⟩, ?_, ?_, ?_, ?_⟩
      ·intro b a;rcases Pc.1 a with a | a
       ·exact⟨id,U8 _ (Pb.2 rfl),⟨_,m⟩,by rw[y];exact a⟩
       ·obtain⟨i,k,d⟩:=E b a;exact⟨i,mi _ k,d⟩
      ·intro b a;rcases Pc.1 a with a | a
       ·exact⟨id,_,U8 _ (Pb.2 rfl),m,by rw[j.1] at a;simpa [ar] using a⟩
       ·obtain⟨i,o,k,d⟩:=K b a;exact⟨i,o,mi _ k,d⟩
      ·intro g;simp only[aap,SO] at g;rw[Q3];refine⟨y ▸ (z.fresh id _ m).1,L g.2,λb a b' aB e=>?_⟩;subst e;obtain⟨i,k,⟨o,C1⟩,d⟩:=E b aB;have c8:id≠i:=λe=>g.1 (e ▸ k);exact z.sep id i _ _ c8 m C1 b (y ▸ a) d
      ·simpa using N
    ·simp at c
   | _=>simp[tE] at c
  | deep t e ts=>
   cases s with
   | nil=>
    simp only[tE,M.ab,VR] at c;subst c;simp only[dg] at j;subst j;refine⟨A,H,B,⟨[],G.1,_,l,[],[],A,B,rfl,rfl,⟨by simp,.inl ⟨rfl,rfl,rfl⟩⟩,⟨rfl,by simp⟩,I,by simp[T2],by simp[T2]⟩, ?_, ?_, ?_, ?_⟩
    ·simpa using E
    ·simpa using K
    ·simpa using L
    ·simpa using N
   | own id=>
    simp only[tE,M.aY,sC] at c;obtain⟨ob,m,c⟩:=c;split at c
    ·rename_i T U d7 r;cases C:Pd t T && pc e U && EN ts d7
     ·simp[C] at c
     ·simp only[C,HI,M.ab,VR] at c;subst c;simp only[gF] at C;obtain⟨⟨W,X⟩,Z⟩:=C;have LJ:=cL W;have Kk:=xp _ _ X;have Dp:=xX _ _ Z;subst LJ Kk Dp;simp only[dg] at j;obtain⟨n,Q,O,o2,o3,y⟩:=z.aC id _ m;rw[←j.1] at O;rw[←j.1] at y;have bR:∀b∈(v.ownBlock.toList++Q.flatten),b∈ar β id (.deep t e ts r none):=λb a=>by rw[j.1] at a;simpa only[ar,o3] using a
      refine⟨(v.ownBlock.toList++Q.flatten)++A,H,(v.ownBlock.toList++Q.flatten)++B,⟨r,G.1,v,l,n,Q,A,B,rfl,rfl,O,o2,I,rfl,rfl⟩, ?_, ?_, ?_, ?_⟩
      ·intro b a;rcases Pc.1 a with a | a
       ·exact⟨id,U8 _ (Pb.2 rfl),⟨_,m⟩,by rw[y];exact a⟩
       ·obtain⟨i,k,d⟩:=E b a;exact⟨i,mi _ k,d⟩
      ·intro b a;rcases Pc.1 a with a | a
       ·exact⟨id,_,U8 _ (Pb.2 rfl),m,bR b a⟩
       ·obtain⟨i,o,k,d⟩:=K b a;exact⟨i,o,mi _ k,d⟩
      ·intro g;simp only[aap,SO] at g;rw[Q3];refine⟨y ▸ (z.fresh id _ m).1,L g.2,λb a b' aB e=>?_⟩;subst e;obtain⟨i,k,⟨o,C1⟩,d⟩:=E b aB;have c8:id≠i:=λe=>g.1 (e ▸ k);exact z.sep id i _ _ c8 m C1 b (y ▸ a) d
      ·simpa using N
    ·simp at c
   | _=>simp[tE] at c
theorem Xl(H:Core w0 S f h β φ tm w):∀(P:List VC) (AK:List bg) (z:List aaR) (q:List DC×List Nat×List Nat),qV w (uh h β) β AK z→(Fb P AK).val f h=some q→
  ∃n Q R,f_ w P q.1 z n Q R∧(∀b∈n,∃i∈q.2.1,(∃o,h i=some o)∧b∈φ i)∧(∀b∈R,∃i o,i∈q.2.1∧h i=some o∧b∈ar β i o)∧(q.2.1.Nodup→n.Nodup)∧
   (∀b∈Q,¬uh h β b∨∃i∈q.2.2,(∃o,h i=some o)∧b∈φ i)
 | [],[],z,q,hs,hq=>by simp only[Fb,M.ab,VR] at hq;subst hq;simp only[qV] at hs;exact⟨[],[],[],⟨rfl,hs,rfl,rfl,rfl⟩,by simp,by simp,by simp,by simp⟩
 | [],_::_,z,q,hs,hq=>by simp[Fb] at hq
 | _::_,[],z,q,hs,hq=>by simp[Fb] at hq
 | k::ks,s::AK,z,q,hs,hq=>by
  simp only[qV] at hs;obtain⟨v,l,rfl,I,h2⟩:=hs;simp only[Fb,M.ag,sC,M.ab,VR] at hq;obtain⟨p,A,T,cM,rfl⟩:=hq;obtain⟨U,W,X,g1,Z,g3,g4,g5⟩:=Xl H ks AK l T h2 cM;have K:∃r:List aaR,(bif k.agg then v= .agg r.toArray else r=[v])∧(∀x∈r,x.oneCell'=true)∧∃B D E,je w k.cells p.1 r B D E∧(∀b∈B,∃i∈p.2.1,(∃o,h i=some o)∧b∈φ i)∧
    (∀b∈E,∃i o,i∈p.2.1∧h i=some o∧b∈ar β i o)∧(p.2.1.Nodup→B.Nodup)∧(∀b∈D,¬uh h β b∨∃i∈p.2.2,(∃o,h i=some o)∧b∈φ i):=by
   cases L:k.agg with
   | true=>
    cases s with
    | agg cs=>
     simp only[L] at A;simp only[dg] at I;obtain⟨r,rfl,N,O⟩:=I;exact⟨r,rfl,O,Eh H k.cells cs r p N A⟩
    | _=>simp[L] at A
   | false=>
    have mh:(yG k.cells [s]).val f h=some p:=by
     cases s<;>simp only[L] at A<;>first | exact A | (simp at A)
    have iO:qV w (uh h β) β [s] [v]:=by simp only[qV];exact⟨v,[],rfl,I,rfl⟩
    have BH:=Eh H k.cells [s] [v] p iO mh;refine⟨[v],rfl, ?_,BH⟩;obtain⟨_,_,_,C,_⟩:=BH;intro x hx;rw[Pb] at hx;subst hx;cases fX:k.cells with
    | nil=>rw[fX] at C;simp[je] at C
    | cons c cs=>
     rw[fX] at C;cases c with
     | eN ct=>
      obtain⟨d,bf,v',c9,f1,FT,_,y,a,_⟩:=C;simp only[List.cons.injEq] at y;rw[y.1];exact a.one
     | own t e=>
      obtain⟨F,bf,v',c9,G,aE,n,B2,_,y,a,_⟩:=C;simp only[List.cons.injEq] at y;rw[y.1];exact a.one
     | deep t e ts=>
      obtain⟨F,bf,v',c9,G,aE,n,B2,_,y,a,_⟩:=C;simp only[List.cons.injEq] at y;rw[y.1];exact a.one
  obtain⟨r,N,O,B,D,E,k1,k2,k3,k4,k5⟩:=K;refine⟨B++U,D++W,E++X,⟨p.1,T.1,v,l,r,B,U,D,W,E,X,rfl,rfl,N,O,k1,g1,rfl,rfl,rfl⟩, ?_, ?_, ?_, ?_⟩
  ·intro b g;rcases Pc.1 g with g | g
   ·obtain⟨i,m,a⟩:=k2 b g;exact⟨i,U8 _ m,a⟩
   ·obtain⟨i,m,a⟩:=Z b g;exact⟨i,mi _ m,a⟩
  ·intro b g;rcases Pc.1 g with g | g
   ·obtain⟨i,o,m,a⟩:=k3 b g;exact⟨i,o,U8 _ m,a⟩
   ·obtain⟨i,o,m,a⟩:=g3 b g;exact⟨i,o,mi _ m,a⟩
  ·intro u;rw[Q3] at u ⊢;refine⟨k4 u.1,g4 u.2.1,λb g b' aB e=>?_⟩;subst e;obtain⟨i,m,⟨o,C1⟩,a⟩:=k2 b g;obtain⟨j,hj,⟨o',jN⟩,h4⟩:=Z b aB;exact H.sep i j _ _ (u.2.2 i m j hj) C1 jN b a h4
  ·intro b g;rcases Pc.1 g with g | g
   ·rcases k5 b g with a | ⟨i,m,a⟩
    ·exact .inl a
    ·exact .inr ⟨i,U8 _ m,a⟩
   ·rcases g5 b g with a | ⟨i,m,a⟩
    ·exact .inl a
    ·exact .inr ⟨i,mi _ m,a⟩
end
mutual
def Oj:CT→DC→Prop
 | .int k,d=>∃n,d= .int n∧bp k n=true
 | .bool,d=>∃b,d= .bool b
 | .str,d=>∃s:List UInt8,d= .str s∧s.length≤maxLen
 | .sl e,d=>∃a:List (List DC),d= .sl a∧a.length≤maxLen∧∀r∈a,i_ e r
def i_:List CT→List DC→Prop
 | [],r=>r=[]
 | c::cs,r=>∃d a,r=d::a∧Oj c d∧i_ cs a
end
mutual
theorem kL.wt{w:aaP} :∀(c:CT) (d:DC) (v:aaR) (q:List Nat),kL w c d v q→Oj c d
 | .int k,_,_,_,h=>by simp only[kL,Oj] at h ⊢;obtain⟨n,g,_,j,_⟩:=h;exact⟨n,g,j⟩
 | .bool,_,_,_,h=>by simp only[kL,Oj] at h ⊢;obtain⟨n,g,_⟩:=h;exact⟨n,g⟩
 | .str,_,_,_,h=>by simp only[kL,Oj] at h ⊢;obtain⟨s,g,_,j,_⟩:=h;exact⟨s,g,j⟩
 | .sl e,_,_,_,h=>by
  simp only[kL,Oj] at h ⊢;obtain⟨f,a,n,c,rfl,_,p,x,y,l⟩:=h;refine⟨f,rfl,by omega,λr m=>?_⟩;rcases l with ⟨t,_⟩ | ⟨_,b,o,u,_,_,z,_,l⟩
  ·rw[t] at p;rw[aaq.1 p] at m;simp at m
  ·obtain⟨i,A,rfl⟩:=ZZ m;exact bj.wt e _ _ _ (l i f[i] u[i] (by simp) (by simp))
theorem bj.wt{w:aaP} :∀(a:List CT) (r:List DC) (f:Nat→Option aaR) (e:List Nat),bj w a r f e→i_ a r
 | [],_,_,_,h=>by simp only[bj,i_] at h ⊢;exact h.1
 | c::a,_,_,_,h=>by simp only[bj,i_] at h ⊢;obtain⟨d,b,v,g,i,j,_,k,l,_⟩:=h;exact⟨d,b,j,kL.wt c d v g k,bj.wt a b _ i l⟩
end
def Uc:List de→List CT
 | []=>[]
 | k::ks=>k.bF++Uc ks
theorem i_.append:∀ {a b:List CT} {r e:List DC},i_ a r→i_ b e→i_ (a++b) (r++e)
 | [],_,_,_,h,h'=>by simp only[i_] at h;subst h;exact h'
 | c::a,_,_,_,h,h'=>by simp only[i_] at h;obtain⟨d,f,rfl,g,i⟩:=h;simp only[X_,i_];exact⟨d,f++_,rfl,g,i.append h'⟩
theorem CN.wt{w:aaP} :∀(a:List de) (b:List DC) (c:List aaR) (d:List Nat),CN w a b c d→i_ (Uc a) b
 | [],_,_,_,h=>by simp only[Uc,i_];exact h.1
 | k::a,_,_,_,h=>by obtain⟨l,e,v,f,m,g,rfl,rfl,⟨n,_,_,i,_⟩,j,rfl⟩:=h;exact i_.append (bj.wt _ _ _ _ i) (CN.wt a e f g j)
section
variable {P:aaO} {Γ:Ctx} {A:List (Nat×iT)} {w:aaP}
theorem nlh:∀(a:List CT) (b d:List DC) (k:Nat),k+a.length≤b.length→BT a (b++d) k=BT a b k
 | [],_,_,_,_=>rfl
 | c::a,b,d,k,h=>by
  simp only[BT];simp only[di] at h;rw[nlh a b d (k+1) (by omega)]
  congr 2
  simp only[XG];rw[aal (by omega)]
theorem nCK{g:Nat→Prop}{β:Env}{k:de}{d:List DC}{v:aaR}{i:List Nat}(h:OH w k d v i)(n:∀b∈i,¬g b):
  dg w g β (bif k.agg then .agg (BT k.bF d 0) else (BT k.bF d 0).headD .fV) v:=by
 obtain⟨o,a,x,p,y⟩:=h;obtain⟨f,z,q,c,r⟩:=bj.b7 (β:=β) p n k.bF.length 0 (by omega);have e:f=o:=by
  apply aar;intro j;by_cases A:j<f.length
  ·have:=q j f[j] (by simp);simp only[Nat.zero_add] at this;rw[this];simp
  ·rw[XP (by omega),XP (by omega)]
 subst e;simp only[List.drop_zero,List.take_length] at c;cases l:k.agg with
 | true=>
  rw[l] at a;simp only[HI] at a ⊢;simp only[dg];exact⟨f,a,c,r⟩
 | false=>
  rw[l] at a;simp only[rl] at a ⊢;rw[a.1] at c;cases t:BT k.bF d 0 with
  | nil=>simp[dg]
  | cons s AK=>
   rw[t] at c;simp only[qV] at c;obtain⟨B,C,m,u,_⟩:=c;simp only[List.cons.injEq] at m;rw[m.1];exact u
theorem nne{av:Nat→Prop}{β:Env} :∀(c:List de) (d:List DC) (f:List aaR) (g:List Nat) (a:Nat),CN w c d f g→(∀b∈g,¬av b)→∀i,
  PM (PU a c d) i= .fV∨∃j v,i=a+j∧f[j]? =some v∧dg w av β (PM (PU a c d) i) v
 | [],_,_,_,_,_,_,i=> .inl rfl
 | k::c,_,_,_,a,h,c7,i=>by
  obtain⟨m,n,v,o,A,p,rfl,rfl,l,q,rfl⟩:=h;have r:m.length=k.bF.length:=by obtain⟨B,_,_,s,_⟩:=l;exact bj.length _ _ _ _ s
  simp only[PU,PM];rw[nlh _ _ _ _ (by omega)];cases t:Pd a i
  ·simp only[rl];rw[←r,Xv];rcases nne (av:=av) (β:=β) c n o p (a+1) q (λb e=>c7 b (mi _ e)) i with u | ⟨j,x,C,y,z⟩
   ·exact .inl u
   ·exact .inr ⟨j+1,x,by omega,by simpa using y,z⟩
  ·have:=cL t;subst this;simp only[HI];exact .inr ⟨0,v,rfl,rfl,nCK l (λb e=>c7 b (U8 _ e))⟩
theorem CN.length:∀(a:List de) (c:List DC) (b:List aaR) (d:List Nat),CN w a c b d→b.length=a.length
 | [],_,_,_,h=>by rw[h.2.1];rfl
 | k::a,_,_,_,h=>by obtain⟨j,e,v,f,l,g,rfl,rfl,m,i,rfl⟩:=h;simp[CN.length a e f g i]
theorem nzO{fn:Func}{s:Sum}{st:CO}{r:List DC}(h:fin P fn s st=(true,r)):st.ok=true:=by
 unfold fin at h;split at h
 ·split at h
  ·simp only[Prod.mk.injEq] at h;exact h.1
  ·exact absurd h pV
 split at h
 ·simp only[Prod.mk.injEq,gF] at h;exact h.1.1.1
 ·exact absurd h pV
theorem nen{fn:Func}{s:Sum}{t:TypeId}{bF:List CT}(H:s.pt=some (t,bF)){st:CO}{r:List DC}{w w':aaP}{n:List Nat}{a:Act}(h:fin P fn s st=(true,r))(e:Rel w ⟨λ_=>False,λb=>b<w.heap.size∧b ∉ n,[]⟩ st a w'):
  a.defers=[]∧∃v,(results fn a.tmps).run P w'= .ok v w'∧∃(b:Nat) (f:List aaR) (u:List Nat),Ending.returned v= .returned (.pointer (some ⟨b,0,none⟩))∧Kept Own.none w w'∧w.heap.size≤b∧b<w'.heap.size∧
   w'.heap[b]? =some (.cells f.toArray t (0,0))∧(∀x∈f,x.oneCell'=true)∧bj w' bF r (λj=>f[j]?) u∧f.length=bF.length∧∀x∈u,(x∈n∨w.heap.size≤x)∧x≠b:=by
 unfold fin at h;rw[H] at h;simp only at h;split at h
 case h_2=>exact absurd h pV
 rename_i ds x I;simp only[Prod.mk.injEq] at h;obtain⟨_,rfl⟩:=h;obtain⟨β,φ,i⟩:=e.core;have d:=M.dR _ I;simp only[M.ag,sC] at d;obtain⟨AK,K,c⟩:=d;obtain⟨vs,L,z⟩:=fM i _ _ K;unfold nxr at c;split at c
 case h_2=>simp at c
 rename_i id;simp only[M.aY,sC] at c;obtain⟨ob,o,c⟩:=c;split at c
 case h_2=>simp at c
 rename_i N g;cases m:Pd N t
 ·simp[m] at c
 have m:=cL m;subst m;simp only[aae,HI,M.ag,sC] at c;obtain⟨q,A,c⟩:=c;cases p:q.2.1.isEmpty
 ·simp[p] at c
 simp only[p,HI,M.ab,VR] at c;subst c;simp only[qV] at z;obtain⟨v,l',rfl,B,rfl⟩:=z;simp only[dg] at B;subst B;obtain⟨f,O,C,Q,R⟩:=i.aC id _ o;obtain⟨S,T,_,U,_⟩:=eV i bF g f q C A;have hl:=qV.length _ _ C;have ku:=Y8 _ _ _ A;have W:β.cY id∈φ id:=by rw[R];simp
 have D:=(i.fresh id _ o).2 _ W;refine⟨e.defers,pack [.pointer (some ⟨β.cY id,0,none⟩)],CL L,β.cY id,f,S,rfl,⟨e.kept.os,e.kept.tape,e.kept.output,e.kept.size,λk X hn=>e.kept.block k X (λh=>h)⟩, ?_,D.2,O,Q,T,by omega, ?_⟩
 ·rcases D.1 with l | l
  ·exact l
  ·exact l.elim
 ·intro b Z;have E:¬uh st.obj β b:=by
   rcases U b Z with l | ⟨y,F,_⟩
   ·exact l
   ·rw[List.isEmpty_iff.1 p] at F;simp at F
  refine⟨?_,λhx=>E (.inl ⟨id,_,o,by subst hx;simp[ar]⟩)⟩;by_cases cA:b<w.heap.size
  ·by_cases G:b∈n
   ·exact .inl G
   ·refine absurd (.inr ?_) E;rw[i.bars];exact⟨cA,G⟩
  ·exact .inr (by omega)
theorem nqn{fn:Func}{s:Sum}(E:s.pt=none){st:CO}{r:List DC}{w w':aaP}{q:List Nat}{a:Act}(h:fin P fn s st=(true,r))(e:Rel w ⟨λ_=>False,λb=>b<w.heap.size∧b ∉ q,[]⟩ st a w'):
  a.defers=[]∧∃v,(results fn a.tmps).run P w'= .ok v w'∧∃g φ t B,Ending.returned v= .returned (pack g)∧Kept Own.none w w'∧f_ w' s.rs r g φ t B∧φ.Nodup∧
   (∀b∈φ,w.heap.size≤b∧b<w'.heap.size)∧∀b∈t,(b∈q∨w.heap.size≤b)∧b ∉ B:=by
 unfold fin at h;rw[E] at h;simp only at h;split at h
 case h_2=>exact absurd h pV
 rename_i ds own t x F;simp only[Prod.mk.injEq,gF,List.all_eq_true,XQ] at h;obtain⟨⟨⟨_,G⟩,H⟩,rfl⟩:=h;obtain⟨β,φ,f⟩:=e.core;have d:=M.dR _ F;simp only[M.ag,sC] at d;obtain⟨AK,I,K⟩:=d;obtain⟨g,L,N⟩:=fM f _ _ I;obtain⟨u,O,Q,R,S,C,T,U⟩:=Xl f _ _ _ _ N K;refine⟨e.defers,pack g,CL L,g,u,O,Q,rfl,⟨e.kept.os,e.kept.tape,e.kept.output,e.kept.size,λk W hn=>e.kept.block k W (λh=>h)⟩,R,T (I0 G), ?_, ?_⟩
 ·intro b y;obtain⟨i,_,⟨o,l⟩,m⟩:=S b y;have:=(f.fresh i o l).2 b m;rcases this.1 with c | c
  ·exact⟨c,this.2⟩
  ·exact c.elim
 ·intro b y;rcases U b y with c | ⟨i,X,⟨o,l⟩,m⟩
  ·refine⟨?_,λz=>?_⟩
   ·by_cases Z:b<w.heap.size
    ·by_cases D:b∈q
     ·exact .inl D
     ·refine absurd (.inr ?_) c;rw[f.bars];exact⟨Z,D⟩
    ·exact .inr (by omega)
   ·obtain⟨j,n,_,p,A⟩:=C b z;exact c (.inl ⟨j,n,p,A⟩)
  ·refine⟨?_,λz=>?_⟩
   ·rcases ((f.fresh i o l).2 b m).1 with c | c
    ·exact .inr c
    ·exact c.elim
   ·obtain⟨j,n,Cn,p,A⟩:=C b z;have c8:i≠j:=by
     rintro rfl
     have:=H i X;rw[mj.2 Cn] at this;cases this
    exact f.sep i j o n c8 l p b m (al (f.aC j n p) b A)
theorem nzH(E:Wq P Γ){g:Nat}{fn:Func}{s:Sum}(F:P.funcs[g]? =some fn)(G:fn.body.isSome=true)(T:(fn.name== "runtime.NumGoroutine")=false)(z:s.ps.length≤fn.ntmps)(H:fn.ntmps<1099511627776)
  (h:∀e,i_ (Uc s.ps) e→(s.fn e).1=true→∃N,Xe P Γ A N fn s e=(true,(s.fn e).2)) {w:aaP} {e:List DC} {d:List aaR} {l:List Nat} (q:CN w s.ps e d l) (I:(s.fn e).1=true) {Q:Ending→aaP→Prop}
  (B:∀(st:CO) (a:Act) (w':aaP),Rel w ⟨λ_=>False,λb=>b<w.heap.size∧b ∉ l,[]⟩ st a w'→fin P fn s st=(true,(s.fn e).2)→a.defers=[]∧∃v,(results fn a.tmps).run P w'= .ok v w'∧Q (.returned v) w'):Calls P g d.toArray w Q:=by
 obtain⟨N,t⟩:=h e (CN.wt _ _ _ _ q) I;obtain⟨c,C⟩:=Option.isSome_iff_exists.1 G;unfold Xe at t;rw[C] at t;simp only at t;have U:=CN.length _ _ _ _ q;refine calls_of_wp F C ?_;let S:Own:=⟨λ_=>False,λb=>b<w.heap.size∧b ∉ l,[]⟩;let β:Env:=⟨λ_=>0,λ_=>undef,S.gV,λ_=>[]⟩;have W:=CN.lt _ _ _ _ q;have K:Rel w S {n:=fn.ntmps,sl:=PU 0 s.ps e,hp:=[],ok:=true,ls:=[],lm:=[]} {tmps:=d.toArray++TO (fn.ntmps - d.toArray.size) undef,defers:=[]} w:=by
  refine⟨by simp only[Array.size_append,List.size_toArray,Array.size_replicate];rw[Nat.mod_eq_of_lt H];omega,λx m=>by simp[S] at m,rfl,⟨rfl,rfl,rfl,Xs _,λ_ _ _=>rfl⟩,β,λ_=>[], ?_⟩;refine⟨λi=>?_,λid o k=>by simp[CO.obj,CH] at k,λid o k=>by simp[CO.obj,CH] at k,λi j o p _ k=>by simp[CO.obj,CH] at k,λb u=>⟨u.1,λh=>h⟩,rfl⟩;have L:∀b∈l,¬uh (CH []) β b:=by
   intro b u m;rcases m with ⟨id,o,k,_⟩ | m
   ·simp[CH] at k
   ·exact m.2 u
  rcases nne (av:=uh (CH []) β) (β:=β) s.ps e d l 0 q L i with M | ⟨j,v,X,D,O⟩
  ·show dg w _ _ (PM (PU 0 s.ps e) i) _;rw[M];simp[dg]
  ·have R:(d.toArray++TO (fn.ntmps - d.toArray.size) undef).getD i undef=v:=by
    have Z:j<d.length:=(Th.1 D).1;rw[Tb,aas (by simp;omega)];have:i=j:=by omega
    subst this;simp[D]
   rw[R];exact O
 refine wV (r:=(s.fn e).2) E c _ {fq:=fin P fn s,ext:=λ_ _=>kW,ret:=fin P fn s} _ w _ ⟨λst f=>nzO f,λi st f=>absurd f pV,λst f=>nzO f⟩ K t ⟨?_, ?_, ?_⟩
 ·intro st a w' y f;exact B st a w' y f
 ·intro i st a w' _ f;exact absurd f pV
 ·intro st a w' y f;exact B st a w' y f
theorem nkm(j:Wq P Γ){g:Nat}{fn:Func}{s:Sum}(d:P.funcs[g]? =some fn)(e:fn.body.isSome=true)(f:(fn.name== "runtime.NumGoroutine")=false)(b:s.ps.length≤fn.ntmps)(k:fn.ntmps<1099511627776)
  (h:∀c,i_ (Uc s.ps) c→(s.fn c).1=true→∃N,Xe P Γ A N fn s c=(true,(s.fn c).2)) (l:s.pt=none:=by rfl):gk P g s:=
 ⟨⟨fn,d,e,f⟩,λw c i q m n=>nzH j d e f b k h m n λst a w' o p=>nqn l p o⟩
theorem nyC(j:Wq P Γ){g:Nat}{fn:Func}{s:Sum}{t:TypeId}{bF:List CT}(d:P.funcs[g]? =some fn)(e:fn.body.isSome=true)(f:(fn.name== "runtime.NumGoroutine")=false)(b:s.ps.length≤fn.ntmps)(k:fn.ntmps<1099511627776)
  (h:∀c,i_ (Uc s.ps) c→(s.fn c).1=true→∃N,Xe P Γ A N fn s c=(true,(s.fn c).2)) (l:s.pt=some (t,bF):=by rfl):jA P g s t bF:=
 ⟨⟨fn,d,e,f⟩,λw c i q m n=>nzH j d e f b k h m n λst a w' o p=>nen l p o⟩
end
def focus(P:aaO)(Γ:Ctx)(A:List (Nat×iT))(N:Nat):List Bool→List (CO→zW)→Code→Zx→Code×Zx
 | [],_,c,K=>(c,K)
 | x::p,is,c,K=>
  match c with
  | .seq a b=>bif x then focus P Γ A N p is b K else focus P Γ A N p is a {fq:=λs=>run P Γ A N b s K,ext:=K.ext,ret:=K.ret}
  | .cond _ a b=>bif x then focus P Γ A N p is b K else focus P Γ A N p is a K
  | .block id a=>focus P Γ A N p is a {fq:=K.fq,ext:=λi s=>bif Pd i id then K.fq s else K.ext i s,ret:=K.ret}
  | .loop a=>match is,(QW a).bind (w_ A) with
   | ih::is',some an=>focus P Γ A N p is' a {fq:=λd=>ih (canon P an d),ext:=K.ext,ret:=K.ret}
   | _,_=>(c,K)
  | _=>(c,K)
def HN(P:aaO)(Γ:Ctx)(A:List (Nat×iT))(N:Nat)(fn:Func)(s:Sum)(p:List Bool)(b:List (CO→zW))(d:CO→zW)(st:CO):zW:=
 match fn.body with
 | some c=>match focus P Γ A N p b c {fq:=fin P fn s,ext:=λ_ _=>kW,ret:=fin P fn s} with
  | (.loop a,K)=>match (QW a).bind (w_ A) with
   | some an=>run P Γ A N a st {fq:=λe=>d (canon P an e),ext:=K.ext,ret:=K.ret}
   | none=>kW
  | _=>kW
 | none=>kW
def Vd(B:(CO→zW)→CO→zW)(n:Nat):CO→zW:=Nat.rec (motive:=λ_=>CO→zW) (λ_=>kW) (λ_ a s=>B a s) n
theorem cU{α β:Type}{c:Bool}{x y:α}{a b:β}{K:β→α}(d:x=K a)(e:y=K b):(bif c then x else y)=K (bif c then a else b):=by
 cases c
 ·exact e
 ·exact d
def iV:Sum:= {ps:=[],rs:=[],fn:=λ_=>(false,[]),Hd:=true}
theorem XH{P:aaO}{g:Nat} :xC P g iV:=trivial
theorem Ns{P:aaO} :Wq P []:=λ_ _ h=>by simp[OT] at h
theorem aU{P:aaO}{g:Nat}{s:Sum}{Γ:Ctx}(h:xC P g s)(d:Wq P Γ):Wq P ((g,s)::Γ):=by
 intro c e a;simp only[OT] at a;cases b:Pd g c
 ·rw[b] at a;exact d c e a
 ·rw[b] at a;have:=cL b;subst this;simp only[HI,VR] at a;subst a;exact h
def pid(i j:Nat):Nat:=G8 (5000000+i) j
def EV(i:Nat):Nat→List CT→List YY→List DC→List bg×List (Nat×yP)
 | _,[],_,_=>([],[])
 | j,.sl e::cs,ts,ds=>
  let q:=EV i (j+1) cs ts.tail ds.tail
  (.own (pid i j)::q.1,(pid i j,vb (ts.headD (.flat 0)) e (ds.headD default).cG)::q.2)
 | j,.int k::cs,ts,ds=>let q:=EV i (j+1) cs ts ds.tail;(RL (.int k) (ds.headD default)::q.1,q.2)
 | j,.bool::cs,ts,ds=>let q:=EV i (j+1) cs ts ds.tail;(RL .bool (ds.headD default)::q.1,q.2)
 | j,.str::cs,ts,ds=>let q:=EV i (j+1) cs ts ds.tail;(RL .str (ds.headD default)::q.1,q.2)
def QM:Nat→List de→List (Option lz)→List DC→List (Nat×bg)×List (Nat×yP)
 | _,[],_,_=>([],[])
 | i,k::ks,ms,ds=>
  let q:=QM (i+1) ks ms.tail (ds.drop k.bF.length)
  match ms.headD none with
  | none=>((i,bif k.agg then .agg (BT k.bF ds 0) else (BT k.bF ds 0).headD .fV)::q.1,q.2)
  | some (.box t)=>((i,.ptr (pid i 0) 0)::q.1,(pid i 0,.box t (BT k.bF ds 0))::q.2)
  | some (.rows ts)=>
   let c:=EV i 0 k.bF ts ds
   ((i,bif k.agg then .agg c.1 else c.1.headD .fV)::q.1,c.2++q.2)
  | some (.km ts)=>
   let c:=EV i 0 k.bF ts ds
   ((i,bif k.agg then .agg c.1 else c.1.headD .fV)::q.1,c.2++q.2)
  | some (.cZ t ts)=>
   let c:=EV i 0 k.bF ts ds
   ((i,.ptr (pid i 62) 0)::q.1,(pid i 62,.box t c.1)::(c.2++q.2))
def Om(e:List CT)(t:YY)(s:bg):M (DC×Nat):=
 match s with
 | .own id=> .obj id fun
  | .row t' e' r false _=>match t with
   | .flat t=>bif Pd t' t && pc e' e && zP e then .pure (.sl r,id) else .fail
   | .deep _ _=> .fail
  | .deep t' e' d7 r none=>match t with
   | .flat _=> .fail
   | .deep t its=>bif Pd t' t && pc e' e && EN d7 its then .pure (.sl r,id) else .fail
  | _=> .fail
 | _=> .fail
def Bg:List CT→List YY→List bg→M (List DC×List Nat)
 | [],_,[]=> .pure ([],[])
 | .sl e::cs,t::ts,s::AK=>(Om e t s).bind λq=>(Bg cs ts AK).bind λr=> .pure (q.1::r.1,q.2::r.2)
 | .int _::cs,ts,_::AK=>Bg cs ts AK
 | .bool::cs,ts,_::AK=>Bg cs ts AK
 | .str::cs,ts,_::AK=>Bg cs ts AK
 | _,_,_=> .fail
def eX:List CT→List YY→List bg→M (List DC×List Nat)
 | [],[],[]=> .pure ([],[])
 | .sl e::cs,t::ts,s::AK=>(Om e t s).bind λq=>(eX cs ts AK).bind λr=> .pure (q.1::r.1,q.2::r.2)
 | .int k::cs,ts,s::AK=>(W9 (.int k) s).bind λq=>(eX cs ts AK).bind λr=> .pure (q.1::r.1,r.2)
 | .bool::cs,ts,s::AK=>(W9 .bool s).bind λq=>(eX cs ts AK).bind λr=> .pure (q.1::r.1,r.2)
 | .str::cs,ts,s::AK=>(W9 .str s).bind λq=>(eX cs ts AK).bind λr=> .pure (q.1::r.1,r.2)
 | _,_,_=> .fail
def cS:Nat→List de→List (Option lz)→M (List DC×List Nat)
 | _,[],[]=> .pure ([],[])
 | i,_::ks,none::ms=>cS (i+1) ks ms
 | i,k::ks,some (.box t)::ms=> .slot i fun
  | .ptr id 0=> .obj id fun
   | .box t' cells=>bif Pd t' t then
     (jk k.bF cells).bind λr=>bif r.2.1.isEmpty then (cS (i+1) ks ms).bind λq=> .pure (r.1++q.1,id::q.2) else .fail
    else .fail
   | _=> .fail
  | _=> .fail
 | i,k::ks,some (.rows ts)::ms=> .slot i λs=>
  (match k.agg,s with
   | true,.agg cs=>Bg k.bF ts cs
   | true,_=> .fail
   | false,.agg _=> .fail
   | false,s=>Bg k.bF ts [s]).bind λr=>(cS (i+1) ks ms).bind λq=> .pure (r.1++q.1,r.2++q.2)
 | i,_::ks,some (.km _)::ms=>cS (i+1) ks ms
 | i,k::ks,some (.cZ t ts)::ms=> .slot i fun
  | .ptr id 0=> .obj id fun
   | .box t' cells=>bif Pd t' t then
     (eX k.bF ts cells).bind λr=>(cS (i+1) ks ms).bind λq=> .pure (r.1++q.1,id::(r.2++q.2))
    else .fail
   | _=> .fail
  | _=> .fail
 | _,_,_=> .fail
def gP:List YY→Bool
 | []=>true
 | .flat _::l=>gP l
 | .deep _ _::_=>false
def xK:List (Option lz)→Bool
 | []=>true
 | some (.rows ts)::l=>gP ts && xK l
 | some (.km _)::_=>false
 | some (.cZ _ _)::_=>false
 | some (.box _)::l=>xK l
 | none::l=>xK l
def WQ(P:aaO)(fn:Func)(s:Sum)(st:CO):zW:=
 match ((jj P fn.results.toList).bind λl=>(Fb s.rs l).bind λq=>(cS 0 s.ps s.ms).bind λr=> .pure (q,r)).run st.get st.obj with
 | some (((ds,own,im),(od,ids)),_)=>(st.ok && zS (own++ids) && (xK s.ms || Av s.ms),ds++od)
 | none=>kW
def y3:List (Option lz)→Nat
 | []=>0
 | m::l=>bif XS 0 (y3 l) then y3 l+1 else bif m.isSome then 1 else 0
theorem nmY:∀ {l:List (Option lz)} {j:Nat} {m:lz},l[j]? =some (some m)→j<y3 l
 | [],j,m,h=>by simp at h
 | x::l,0,m,h=>by simp only[ZW,VR] at h;subst h;simp only[y3];cases XS 0 (y3 l)<;>simp
 | x::l,j+1,m,h=>by have:=nmY (l:=l) (j:=j) (m:=m) (by simpa using h);simp only[y3];have a:XS 0 (y3 l)=true:=aat (by omega);rw[a];simp only[HI];omega
def Nu(P:aaO)(Γ:Ctx)(A:List (Nat×iT))(N:Nat)(fn:Func)(s:Sum)(a:List DC):zW:=
 match fn.body with
 | some c=>run P Γ A N c {n:=fn.ntmps+y3 s.ms*1099511627776,sl:=(QM 0 s.ps s.ms a).1,hp:=(QM 0 s.ps s.ms a).2,ok:=true,ls:=[],lm:=[]} {fq:=WQ P fn s,ext:=λ_ _=>kW,ret:=WQ P fn s}
 | none=>kW
section
variable {P:aaO} {Γ:Ctx} {w0:aaP} {S:Own} {A:List (Nat×iT)} {N:Nat}
variable {f:Nat→bg} {h:Nat→Option yP} {β:Env} {φ:Nat→List Nat} {tm:Array aaR} {w:aaP}
theorem nwc(l:Core w0 S f h β φ tm w){e:List CT}{t:YY}{s:bg}{v:aaR}{q:DC×Nat}(g:dg w (uh h β) β s v)(a:(Om e t s).val f h=some q):
  ∃d k o,q.1= .sl d∧XI w t e d v k∧h q.2=some o∧k=ar β q.2 o∧k.Nodup∧(gP [t]=true→k=v.ownBlock.toList):=by
 have B:v.ownBlock.toList.Nodup:=by cases v.ownBlock<;>simp
 unfold Om at a;cases s with
 | own id=>
  simp only[M.aY,sC] at a;obtain⟨H,i,a⟩:=a;simp only[dg] at g;split at a
  ·rename_i m n r u;cases t with
   | deep t its=>simp at a
   | flat t=>
    simp only at a;cases b:Pd m t && pc n e && zP e
    ·simp[b] at a
    ·simp only[b,HI,M.ab,VR] at a;subst a;simp only[gF] at b;have p:=cL b.1.1;have x:=xp _ _ b.1.2;subst p x;obtain⟨c,C,j,y,_,_⟩:=l.aC id _ i;rw[←g.1] at j;exact⟨r,v.ownBlock.toList,_,rfl,⟨b.2,c,C,j,y,rfl⟩,i,by simp only[ar,g.1],B,λ_=>rfl⟩
  ·rename_i m n D r;cases t with
   | flat t=>simp at a
   | deep t its=>
    simp only at a;cases b:Pd m t && pc n e && EN D its
    ·simp[b] at a
    ·simp only[b,HI,M.ab,VR] at a;subst a;simp only[gF] at b;have p:=cL b.1.1;have x:=xp _ _ b.1.2;have E:=xX _ _ b.2;subst p x E;have z:=(l.fresh id _ i).1;obtain⟨c,A,j,y,F,G⟩:=l.aC id _ i;rw[G] at z;rw[←g.1] at j z;exact⟨r,v.ownBlock.toList++A.flatten,_,rfl,⟨c,A,j,y,rfl⟩,i,by simp only[ar,F,g.1],z,λh=>by simp[gP] at h⟩
  ·simp at a
 | _=>simp at a
theorem O7(u:Core w0 S f h β φ tm w):∀(m:List CT) (j:List YY) (AK:List bg) (x:List aaR) (q:List DC×List Nat),qV w (uh h β) β AK x→(Bg m j AK).val f h=some q→
  ∃l,TR w m j q.1 x l∧(∀b∈l,∃id∈q.2,∃o,h id=some o∧b∈ar β id o)∧(q.2.Nodup→l.Nodup)∧
   (gP j=true→∀(p:aaP) (F:List DC) (r:List Nat),mE p m j F x r→∀b∈r,∃id∈q.2,∃o,h id=some o∧b∈ar β id o)
 | [],j,AK,x,q,hs,hq=>by
  cases AK with
  | nil=>
   simp only[Bg,M.ab,VR] at hq;subst hq;simp only[qV] at hs;refine⟨[],⟨rfl,hs,rfl⟩,by simp,by simp,λ_ p F r g b c=>?_⟩;simp only[mE] at g;rw[g.2.2.2] at c;simp at c
  | cons s AK=>simp[Bg] at hq
 | .int k::m,j,AK,x,q,hs,hq=>by
  cases AK with
  | nil=>simp[Bg] at hq
  | cons s AK=>
   simp only[qV] at hs;obtain⟨v,n,rfl,I,A⟩:=hs;simp only[Bg] at hq;obtain⟨l,B,y,C,D⟩:=O7 u m j AK n q A hq;refine⟨l, ?_,y,C,λa p F r g b c=>?_⟩
   ·simp only[TR];exact⟨v,n,rfl,B⟩
   ·simp only[mE] at g;obtain⟨d,E,R,L,rfl,z,_,g⟩:=g;simp only[List.cons.injEq] at z;obtain⟨rfl,rfl⟩:=z;exact D a p E r g b c
 | .bool::m,j,AK,x,q,hs,hq=>by
  cases AK with
  | nil=>simp[Bg] at hq
  | cons s AK=>
   simp only[qV] at hs;obtain⟨v,n,rfl,I,A⟩:=hs;simp only[Bg] at hq;obtain⟨l,B,y,C,D⟩:=O7 u m j AK n q A hq;refine⟨l, ?_,y,C,λa p F r g b c=>?_⟩
   ·simp only[TR];exact⟨v,n,rfl,B⟩
   ·simp only[mE] at g;obtain⟨d,E,R,L,rfl,z,_,g⟩:=g;simp only[List.cons.injEq] at z;obtain⟨rfl,rfl⟩:=z;exact D a p E r g b c
 | .str::m,j,AK,x,q,hs,hq=>by
  cases AK with
  | nil=>simp[Bg] at hq
  | cons s AK=>
   simp only[qV] at hs;obtain⟨v,n,rfl,I,A⟩:=hs;simp only[Bg] at hq;obtain⟨l,B,y,C,D⟩:=O7 u m j AK n q A hq;refine⟨l, ?_,y,C,λa p F r g b c=>?_⟩
   ·simp only[TR];exact⟨v,n,rfl,B⟩
   ·simp only[mE] at g;obtain⟨d,E,R,L,rfl,z,_,g⟩:=g;simp only[List.cons.injEq] at z;obtain⟨rfl,rfl⟩:=z;exact D a p E r g b c
 | .sl el::m,j,AK,x,q,hs,hq=>by
  cases j with
  | nil=>cases AK<;>simp[Bg] at hq
  | cons t j=>
   cases AK with
   | nil=>simp[Bg] at hq
   | cons s AK=>
    simp only[qV] at hs;obtain⟨v,n,rfl,I,A⟩:=hs;simp only[Bg,M.ag,sC,M.ab,VR] at hq;obtain⟨N,aR,T,cM,rfl⟩:=hq;obtain⟨l,B,y,C,D⟩:=O7 u m j AK n T A cM;obtain⟨G,U,o,r1,r2,K,O,r5,r6⟩:=nwc u I aR;refine⟨U++l, ?_,λb c=>?_,λa=>?_,λa p F r g b c=>?_⟩
    ·simp only[TR];exact⟨t,j,G,T.1,v,n,U,l,rfl,by rw[r1],rfl,r2,B,rfl⟩
    ·rcases Pc.1 c with c | c
     ·exact⟨N.2,QF ..,o,K,O ▸ c⟩
     ·obtain⟨i,H,P,Q⟩:=y b c;exact⟨i,Pe _ H,P,Q⟩
    ·simp only[SO] at a;rw[Q3];refine⟨r5,C a.2,λb c b' aB e=>?_⟩;subst e;obtain⟨i,H,P,W,mV⟩:=y b aB;rw[O] at c;exact u.sep N.2 i o P (λe=>a.1 (e ▸ H)) K W b (al (u.aC _ _ K) b c) (al (u.aC _ _ W) b mV)
    ·simp only[mE] at g;obtain⟨t1,Ha,Mw,E,v1,L,m1,gK,X,rfl,Z,Fs,g,rfl⟩:=g;simp only[List.cons.injEq] at X Z;obtain⟨rfl,rfl⟩:=X;obtain⟨rfl,rfl⟩:=Z;cases t with
     | deep t its=>simp[gP] at a
     | flat t=>
      obtain⟨_,vals,aE,_,_,rfl⟩:=Fs;rcases Pc.1 c with c | c
      ·refine⟨N.2,QF ..,o,K, ?_⟩;rw[←O,r6 rfl];exact c
      ·obtain⟨i,H,o,Q⟩:=D (by simpa only[gP] using a) p E gK g b c;exact⟨i,Pe _ H,o,Q⟩
theorem ye(j:Core w0 S f h β φ tm w):∀(p:List CT) (d:List YY) (AK:List bg) (z:List aaR) (q:List DC×List Nat),qV w (uh h β) β AK z→(eX p d AK).val f h=some q→
  ∃g,mE w p d q.1 z g∧(∀b∈g,∃id∈q.2,∃o,h id=some o∧b∈ar β id o)∧(q.2.Nodup→g.Nodup)
 | [],d,AK,z,q,hs,hq=>by
  cases d with
  | cons _ _=>cases AK<;>simp[eX] at hq
  | nil=>
  cases AK with
  | nil=>
   simp only[eX,M.ab,VR] at hq;subst hq;simp only[qV] at hs;exact⟨[],⟨rfl,rfl,hs,rfl⟩,by simp,by simp⟩
  | cons s AK=>simp[eX] at hq
 | .int k::p,d,AK,z,q,hs,hq=>by
  cases AK with
  | nil=>simp[eX] at hq
  | cons s AK=>
   simp only[qV] at hs;obtain⟨v,l,rfl,A,B⟩:=hs;simp only[eX,M.ag,sC,M.ab,VR] at hq;obtain⟨r,C,m,D,rfl⟩:=hq;obtain⟨N,u,_⟩:=w7 j A C;obtain⟨g,E,x,F⟩:=ye j p d AK l m B D;refine⟨g, ?_,x,F⟩;simp only[mE];refine⟨r.1,m.1,v,l,rfl,rfl, ?_,E⟩;simp only[kL] at u ⊢;obtain⟨n,a,b,c,_⟩:=u;exact⟨n,a,b,c,trivial⟩
 | .bool::p,d,AK,z,q,hs,hq=>by
  cases AK with
  | nil=>simp[eX] at hq
  | cons s AK=>
   simp only[qV] at hs;obtain⟨v,l,rfl,A,B⟩:=hs;simp only[eX,M.ag,sC,M.ab,VR] at hq;obtain⟨r,C,m,D,rfl⟩:=hq;obtain⟨N,u,_⟩:=w7 j A C;obtain⟨g,E,x,F⟩:=ye j p d AK l m B D;refine⟨g, ?_,x,F⟩;simp only[mE];refine⟨r.1,m.1,v,l,rfl,rfl, ?_,E⟩;simp only[kL] at u ⊢;obtain⟨n,a,b,_⟩:=u;exact⟨n,a,b,trivial⟩
 | .str::p,d,AK,z,q,hs,hq=>by
  cases AK with
  | nil=>simp[eX] at hq
  | cons s AK=>
   simp only[qV] at hs;obtain⟨v,l,rfl,A,B⟩:=hs;simp only[eX,M.ag,sC,M.ab,VR] at hq;obtain⟨r,C,m,D,rfl⟩:=hq;obtain⟨N,u,_⟩:=w7 j A C;obtain⟨g,E,x,F⟩:=ye j p d AK l m B D;refine⟨g, ?_,x,F⟩;simp only[mE];refine⟨r.1,m.1,v,l,rfl,rfl, ?_,E⟩;simp only[kL] at u ⊢;obtain⟨n,a,b,c,_⟩:=u;exact⟨n,a,b,c,trivial⟩
 | .sl el::p,d,AK,z,q,hs,hq=>by
  cases d with
  | nil=>cases AK<;>simp[eX] at hq
  | cons t d=>
   cases AK with
   | nil=>simp[eX] at hq
   | cons s AK=>
    simp only[qV] at hs;obtain⟨v,l,rfl,A,B⟩:=hs;simp only[eX,M.ag,sC,M.ab,VR] at hq;obtain⟨r,C,m,D,rfl⟩:=hq;obtain⟨g,E,x,F⟩:=ye j p d AK l m B D;obtain⟨H,O,o,R,T,I,P,U,r6⟩:=nwc j A C;refine⟨O++g, ?_,λb y=>?_,λG=>?_⟩
    ·simp only[mE];exact⟨t,d,H,m.1,v,l,O,g,rfl,by rw[R],rfl,T,E,rfl⟩
    ·rcases Pc.1 y with y | y
     ·exact⟨r.2,QF ..,o,I,P ▸ y⟩
     ·obtain⟨i,K,L,W⟩:=x b y;exact⟨i,Pe _ K,L,W⟩
    ·simp only[SO] at G;rw[Q3];refine⟨U,F G.2,λb y b' X e=>?_⟩;subst e;obtain⟨i,K,L,Q,Z⟩:=x b X;rw[P] at y;exact j.sep r.2 i o L (λe=>G.1 (e ▸ K)) I Q b (al (j.aC _ _ I) b y) (al (j.aC _ _ Q) b Z)
theorem zI(n:Core w0 S f h β φ tm w):∀(i:Nat) (H:List de) (p:List (Option lz)) (r:List aaR) (q:List DC×List Nat),(∀(j:Nat) v m,r[j]? =some v→p[j]? =some (some m)→tm.getD (i+j) undef=v)→r.length=H.length→(cS i H p).val f h=some q→
  ∃A B,vG w H p q.1 r A B∧(∀b∈A,¬uh h β b)∧(Av p=true→A=[])∧(∀b∈B,∃id∈q.2,∃o,h id=some o∧b∈ar β id o)∧(q.2.Nodup→B.Nodup)∧
   (xK p=true→∀(I:aaP) (ds:List DC) (fp Q:List Nat),dJ I H p ds r fp Q→∀b∈Q,∃id∈q.2,∃o,h id=some o∧b∈ar β id o)
 | i,[],p,r,q,hv,hl,c=>by
  cases p with
  | nil=>
   simp only[cS,M.ab,VR] at c;subst c;have hl:r=[]:=aaq.1 hl;subst hl;refine⟨[],[],⟨rfl,rfl,rfl,rfl⟩,by simp,λ_=>rfl,by simp,by simp,λ_ I ds fp Q y b a=>?_⟩;simp only[dJ] at y;rw[y.2.2.2.2] at a;simp at a
  | cons m p=>simp[cS] at c
 | i,k::H,p,r,q,hv,hl,c=>by
  cases p with
  | nil=>simp[cS] at c
  | cons m p=>
   cases r with
   | nil=>simp at hl
   | cons v r=>
    have hv':∀(j:Nat) u m,r[j]? =some u→p[j]? =some (some m)→tm.getD (i+1+j) undef=u:=λj u m' hu y=>by have:=hv (j+1) u m' (by simpa using hu) (by simpa using y);rw[show i+1+j=i+(j+1) by omega];exact this
    have EM:r.length=H.length:=by simpa using hl
    have E:=n.cx i;cases m with
    | none=>
     simp only[cS] at c;obtain⟨A,B,R,T,Z,F,U,k3⟩:=zI n (i+1) H p r q hv' EM c;refine⟨A,B,⟨none,p,[],q.1,v,r,[],A,[],B,rfl,rfl,rfl,⟨rfl,rfl,rfl⟩,R,rfl,rfl⟩,T,Z,F,U,λd I ds fp Q y b a=>?_⟩;simp only[dJ] at y;obtain⟨m',EP,d1,d2,v',c9,f1,f2,b1,b2,e1,rfl,e2,L,y,rfl,rfl⟩:=y;simp only[List.cons.injEq] at e1 e2;obtain⟨rfl,rfl⟩:=e1;obtain⟨rfl,rfl⟩:=e2;simp only[dP] at L;rw[L.2] at a;exact k3 d I d2 f2 b2 y b (by simpa using a)
    | some m=>
     have Hx:tm.getD i undef=v:=hv 0 v m rfl rfl;rw[Hx] at E;cases m with
     | box t=>
      simp only[cS,M.jd] at c;cases fK:f i with
      | ptr id off=>
       rw[fK] at c E;cases off with
       | succ off=>simp at c
       | zero=>
        simp only[M.aY,sC] at c;obtain⟨ob,N,c⟩:=c;cases ob with
        | box t' cells=>
         simp only at c;cases lr:Pd t' t
         ·simp[lr] at c
         ·have lu:=cL lr;subst lu;simp only[lr,HI,M.ag,sC] at c;obtain⟨C,G,c⟩:=c;cases Gn:C.2.1.isEmpty
          ·simp[Gn] at c
          ·simp only[Gn,HI,M.ag,sC,M.ab,VR] at c;obtain⟨q2,cM,rfl⟩:=c;obtain⟨A,B,R,T,Z,F,U,k3⟩:=zI n (i+1) H p r q2 hv' EM cM;obtain⟨D,g1,g2,g3,_⟩:=n.aC id _ N;obtain⟨mw,hr,GN,ko,_⟩:=eV n k.bF cells D C g2 G;have hlc:=qV.length _ _ g2;have ku:=Y8 _ _ _ G;simp only[dg] at E;have Lk:C.2.1=[]:=List.isEmpty_iff.1 Gn;refine⟨mw++A,[β.cY id]++B,⟨some (.box t'),p,C.1,q2.1,v,r,mw,A,[β.cY id],B,rfl,rfl,rfl,⟨β.cY id,D,E,g1,g3,hr,by omega,rfl⟩,R,rfl,rfl⟩, ?_,λh=>by simp[Av] at h,λb a=>?_,λd=>?_,λd I ds fp Q y b a=>?_⟩
           ·intro b a;rcases Pc.1 a with a | a
            ·rcases ko b a with h3 | ⟨x,hx,h3⟩
             ·exact h3
             ·rw[Lk] at hx;simp at hx
            ·exact T b a
           ·rcases Pc.1 a with a | a
            ·exact⟨id,QF ..,_,N,by simpa only[ar] using a⟩
            ·obtain⟨j,l,o,z⟩:=F b a;exact⟨j,Pe _ l,o,z⟩
           ·simp only[SO] at d;rw[Q3];refine⟨by simp,U d.2,λb a b' aB e=>?_⟩;subst e;obtain⟨j,l,O,K,W⟩:=F b aB;exact n.sep id j _ O (λe=>d.1 (e ▸ l)) N K b (al (n.aC _ _ N) b (by simpa only[ar] using a)) (al (n.aC _ _ K) b W)
           ·simp only[dJ] at y;obtain⟨m',EP,d1,d2,v',c9,f1,f2,b1,b2,e1,rfl,e2,L,y,rfl,rfl⟩:=y;simp only[List.cons.injEq] at e1 e2;obtain⟨rfl,rfl⟩:=e1;obtain⟨rfl,rfl⟩:=e2;simp only[dP] at L;obtain⟨g,Gy,ev,_,_,_,_,rfl⟩:=L;rcases Pc.1 a with a | a
            ·refine⟨id,QF ..,_,N, ?_⟩;rw[E] at ev;simp only[Value.pointer.injEq,VR,Addr.mk.injEq,and_true] at ev;simp only[ar];rw[ev];exact a
            ·obtain⟨j,l,o,z⟩:=k3 d I d2 f2 b2 y b a;exact⟨j,Pe _ l,o,z⟩
        | row _ _ _ _ _=>simp at c
        | eN _ _=>simp at c
        | deep _ _ _ _ _=>simp at c
      | _=>rw[fK] at c;simp at c
     | rows ts=>
      simp only[cS,M.jd,M.ag,sC,M.ab,VR] at c;obtain⟨C,G,q2,cM,rfl⟩:=c;obtain⟨A,B,R,T,Z,F,U,k3⟩:=zI n (i+1) H p r q2 hv' EM cM;have one:∃D:List aaR,(bif k.agg then v= .agg D.toArray else D=[v])∧∃P,TR w k.bF ts C.1 D P∧(∀b∈P,∃id∈C.2,∃o,h id=some o∧b∈ar β id o)∧(C.2.Nodup→P.Nodup)∧
        (gP ts=true→∀(I:aaP) (ds:List DC) (Q:List Nat),mE I k.bF ts ds D Q→∀b∈Q,∃id∈C.2,∃o,h id=some o∧b∈ar β id o):=by
       cases hk:k.agg with
       | true=>
        generalize f i=s at G E;cases s with
        | agg cs=>
         simp only[hk] at G;simp only[dg] at E;obtain⟨D,rfl,X,bo⟩:=E;exact⟨D,rfl,O7 n k.bF ts cs D C X G⟩
        | _=>simp[hk] at G
       | false=>
        generalize f i=s at G E;have mh:(Bg k.bF ts [s]).val f h=some C:=by
         cases s<;>simp only[hk] at G<;>first | exact G | (simp at G)
        have iO:qV w (uh h β) β [s] [v]:=by simp only[qV];exact⟨v,[],rfl,E,rfl⟩
        exact⟨[v],rfl,O7 n k.bF ts [s] [v] C iO mh⟩
      obtain⟨D,X,P,r1,r3,r4,r2⟩:=one;refine⟨A,P++B,⟨some (.rows ts),p,C.1,q2.1,v,r,[],A,P,B,rfl,rfl,rfl,⟨D,X,r1,rfl⟩,R,rfl,rfl⟩,T,λh=>Z (by simpa only[Av] using h),λb a=>?_,λd=>?_,λd I ds fp Q y b a=>?_⟩
      ·rcases Pc.1 a with a | a
       ·obtain⟨j,l,o,z⟩:=r3 b a;exact⟨j,U8 _ l,o,z⟩
       ·obtain⟨j,l,o,z⟩:=F b a;exact⟨j,mi _ l,o,z⟩
      ·rw[Q3] at d;obtain⟨n1,n2,n3⟩:=d;rw[Q3];refine⟨r4 n1,U n2,λb a b' aB e=>?_⟩;subst e;obtain⟨i1,Ko,o1,Hu,Gl⟩:=r3 b a;obtain⟨j,l,O,K,W⟩:=F b aB;exact n.sep i1 j o1 O (λe=>n3 i1 Ko j l e) Hu K b (al (n.aC _ _ Hu) b Gl) (al (n.aC _ _ K) b W)
      simp only[xK,gF] at d;simp only[dJ] at y;obtain⟨m',EP,d1,d2,v',c9,f1,f2,b1,b2,e1,rfl,e2,L,y,rfl,rfl⟩:=y;simp only[List.cons.injEq] at e1 e2;obtain⟨rfl,rfl⟩:=e1;obtain⟨rfl,rfl⟩:=e2;simp only[dP] at L;obtain⟨Gy,Cu,_,L,_⟩:=L;have hue:Gy=D:=by
       cases hk:k.agg with
       | true=>
        rw[hk] at X Cu;simp only[HI] at X Cu;rw[X] at Cu;simp only[Value.agg.injEq] at Cu;simpa using (congrArg Array.toList Cu).symm
       | false=>
        rw[hk] at X Cu;simp only[rl] at X Cu;rw[X,Cu.1]
      subst hue;rcases Pc.1 a with a | a
      ·obtain⟨j,l,o,z⟩:=r2 d.1 I d1 b1 L b a;exact⟨j,U8 _ l,o,z⟩
      ·obtain⟨j,l,o,z⟩:=k3 d.2 I d2 f2 b2 y b a;exact⟨j,mi _ l,o,z⟩
     | km ts=>
      simp only[cS] at c;obtain⟨A,B,R,T,Z,F,U,k3⟩:=zI n (i+1) H p r q hv' EM c;exact⟨A,B,⟨some (.km ts),p,[],q.1,v,r,[],A,[],B,rfl,rfl,rfl,⟨rfl,rfl,rfl⟩,R,rfl,rfl⟩,T,λh=>Z (by simpa only[Av] using h),F,U,λd=>by simp[xK] at d⟩
     | cZ t ts=>
      simp only[cS,M.jd] at c;cases fK:f i with
      | ptr id off=>
       rw[fK] at c E;cases off with
       | succ off=>simp at c
       | zero=>
        simp only[M.aY,sC] at c;obtain⟨ob,N,c⟩:=c;cases ob with
        | box t' cells=>
         simp only at c;cases lr:Pd t' t
         ·simp[lr] at c
         ·have lu:=cL lr;subst lu;simp only[lr,HI,M.ag,sC,M.ab,VR] at c;obtain⟨C,G,q2,cM,rfl⟩:=c;obtain⟨A,B,R,T,Z,F,U,k3⟩:=zI n (i+1) H p r q2 hv' EM cM;obtain⟨D,g1,g2,g3,_⟩:=n.aC id _ N;obtain⟨P,r1,r2,r3⟩:=ye n k.bF ts cells D C g2 G;simp only[dg] at E;refine⟨A,(β.cY id::P)++B,⟨some (.cZ t' ts),p,C.1,q2.1,v,r,[],A,β.cY id::P,B,rfl,rfl,rfl,⟨β.cY id,D,P,E,g1,g3,r1,rfl,rfl⟩,R,rfl,rfl⟩,T,λh=>Z (by simpa only[Av] using h),λb a=>?_,λd=>?_,λd=>by simp[xK] at d⟩
          ·simp only[X_,QE,Pc] at a;rcases a with rfl | a | a
           ·exact⟨id,QF ..,_,N,by simp only[ar];exact Pb.2 rfl⟩
           ·obtain⟨j,l,o,z⟩:=r2 b a;exact⟨j,Pe _ (U8 _ l),o,z⟩
           ·obtain⟨j,l,o,z⟩:=F b a;exact⟨j,Pe _ (mi _ l),o,z⟩
          ·simp only[SO,Pc,not_or,Q3] at d;obtain⟨⟨n1,n2⟩,n3,n4,n5⟩:=d;have A3:∀j O,j≠id→h j=some O→β.cY id ∉ ar β j O:=by intro j O l K a;exact n.sep id j _ O (Ne.symm l) N K _ (al (n.aC _ _ N) _ (by simp only[ar];exact Pb.2 rfl)) (al (n.aC _ _ K) _ a)
           rw[X_,SO,Q3];refine⟨λa=>?_,r3 n3,U n4,λb a b' aB e=>?_⟩
           ·rcases Pc.1 a with a | a
            ·obtain⟨j,l,o,z,W⟩:=r2 _ a;exact A3 j o (λe=>n1 (e ▸ l)) z W
            ·obtain⟨j,l,o,z,W⟩:=F _ a;exact A3 j o (λe=>n2 (e ▸ l)) z W
           ·subst e;obtain⟨i1,Ko,o1,Hu,Gl⟩:=r2 b a;obtain⟨j,l,O,K,W⟩:=F b aB;exact n.sep i1 j o1 O (λe=>n5 i1 Ko j l e) Hu K b (al (n.aC _ _ Hu) b Gl) (al (n.aC _ _ K) b W)
        | row _ _ _ _ _=>simp at c
        | eN _ _=>simp at c
        | deep _ _ _ _ _=>simp at c
      | _=>rw[fK] at c;simp at c
end
structure bI where
 id:Nat
 o:yP
 cY:Nat
 val:aaR
 φ:List Nat
 nb:List Nat
def bI.ok(w:aaP)(a:Nat→Prop)(β:Env)(x:bI):Prop:=ef w a β x.id x.o x.φ∧ar β x.id x.o=x.φ
section
variable {P:aaO} {Γ:Ctx} {A:List (Nat×iT)} {w:aaP} {i:Nat}
theorem WE:∀(j:Nat) (f:List CT) (g:List YY) (q:List DC) (s:List aaR) (n:List Nat),mE w f g q s n→
  ∃E:List bI,(EV i j f g q).2=E.map (λx=>(x.id,x.o))∧E.flatMap (·.φ)=n∧∀(b:Nat→Prop) (β:Env),(∀x∈E,β.cY x.id=x.cY∧β.val x.id=x.val∧β.nb x.id=x.nb)→
   qV w b β (EV i j f g q).1 s∧∀x∈E,x.ok w b β
 | j,[],g,q,s,n,a=>by simp only[mE] at a;obtain⟨rfl,rfl,rfl,rfl⟩:=a;exact⟨[],rfl,rfl,λb β _=>⟨by simp[EV,qV],by simp⟩⟩
 | j,.int k::f,g,q,s,n,a=>by simp only[mE] at a;obtain⟨d,u,v,h,rfl,rfl,p,a⟩:=a;obtain⟨E,y,z,A⟩:=WE (j+1) f g u h n a;refine⟨E,by simpa only[EV,QG] using y,z,λb β r=>?_⟩;obtain⟨B,C⟩:=A b β r;refine⟨?_,C⟩;simp only[EV,QH,QG,qV];exact⟨v,h,rfl,mu p (by simp),B⟩
 | j,.bool::f,g,q,s,n,a=>by simp only[mE] at a;obtain⟨d,u,v,h,rfl,rfl,p,a⟩:=a;obtain⟨E,y,z,A⟩:=WE (j+1) f g u h n a;refine⟨E,by simpa only[EV,QG] using y,z,λb β r=>?_⟩;obtain⟨B,C⟩:=A b β r;refine⟨?_,C⟩;simp only[EV,QH,QG,qV];exact⟨v,h,rfl,mu p (by simp),B⟩
 | j,.str::f,g,q,s,n,a=>by simp only[mE] at a;obtain⟨d,u,v,h,rfl,rfl,p,a⟩:=a;obtain⟨E,y,z,A⟩:=WE (j+1) f g u h n a;refine⟨E,by simpa only[EV,QG] using y,z,λb β r=>?_⟩;obtain⟨B,C⟩:=A b β r;refine⟨?_,C⟩;simp only[EV,QH,QG,qV];exact⟨v,h,rfl,mu p (by simp),B⟩
 | j,.sl e::f,g,q,s,n,a=>by
  simp only[mE] at a;obtain⟨t,N,l,u,v,h,H,O,rfl,rfl,rfl,I,a,rfl⟩:=a;obtain⟨E,y,z,A⟩:=WE (j+1) f N u h O a;have D:∃nb:List Nat,∀(b:Nat→Prop) (β:Env),β.val (pid i j)=v→β.nb (pid i j)=nb→ef w b β (pid i j) (vb t e l) H∧ar β (pid i j) (vb t e l)=H:=by
   cases t with
   | flat t=>
    obtain⟨L,m,P,p,F,rfl⟩:=I;refine⟨[],λb β c K=>⟨⟨m,P,by rw[c];exact p,F,by rw[SF L F];simp, ?_⟩, ?_⟩⟩
    ·rw[c,SF L F];simp
    ·simp only[vb,ar,c]
   | deep t its=>
    obtain⟨m,M,p,F,rfl⟩:=I;exact⟨M.flatten,λb β c K=>⟨⟨m,M,by rw[c];exact p,F,K,by rw[c]⟩,by simp only[vb,ar,c,K]⟩⟩
  obtain⟨nb,D⟩:=D;refine⟨⟨pid i j,vb t e l,0,v,H,nb⟩::E, ?_, ?_,λb β r=>?_⟩
  ·simp only[EV,QH,QG,T1,y,DC.cG]
  ·simp only[aau,z]
  ·obtain⟨B,C⟩:=A b β (λx G=>r x (Pe _ G));have c:=(r _ (QF ..)).2;simp only at c;refine⟨?_,λx G=>?_⟩
   ·simp only[EV,QH,QG,qV];refine⟨v,h,rfl, ?_,B⟩;simp only[dg];exact⟨c.1.symm,I.one⟩
   ·rcases QE.1 G with rfl | G
    ·exact D b β c.1 c.2
    ·exact C x G
theorem XI.lt{t:YY}{e:List CT}{a:List (List DC)}{v:aaR}{g:List Nat}(h:XI w t e a v g):∀b∈g,b<w.heap.size:=by
 cases t with
 | flat t=>
  obtain⟨_,c,j,f,_,rfl⟩:=h;exact f.lt
 | deep t its=>
  obtain⟨c,k,f,i,rfl⟩:=h;intro b d;rcases Pc.1 d with d | d
  ·exact f.lt b d
  ·exact i.lt b d
theorem XI.reads{t:YY}{e:List CT}{b:List (List DC)}{v:aaR}{g:List Nat}(h:XI w t e b v g):∃i a c,Em w i e.length false v b.length a∧RN w e b a c:=by
 cases t with
 | flat t=>
  obtain⟨_,a,c,d,f,_⟩:=h;exact⟨t,a,c,d,f⟩
 | deep t its=>
  obtain⟨a,k,d,f,_⟩:=h;obtain⟨c,j,_⟩:=f.reads;exact⟨t,a,c,d,j⟩
theorem mE.length:∀(a:List CT) (b:List YY) (f:List DC) (j:List aaR) (c:List Nat),mE w a b f j c→f.length=a.length
 | [],b,f,j,c,h=>by simp only[mE] at h;simp[h.2.1]
 | .sl e::a,b,f,j,c,h=>by simp only[mE] at h;obtain⟨t,m,l,g,v,i,o,n,rfl,rfl,rfl,_,h,_⟩:=h;simp[mE.length a m g i n h]
 | .int k::a,b,f,j,c,h=>by simp only[mE] at h;obtain⟨d,g,v,i,rfl,rfl,_,h⟩:=h;simp[mE.length a b g i c h]
 | .bool::a,b,f,j,c,h=>by simp only[mE] at h;obtain⟨d,g,v,i,rfl,rfl,_,h⟩:=h;simp[mE.length a b g i c h]
 | .str::a,b,f,j,c,h=>by simp only[mE] at h;obtain⟨d,g,v,i,rfl,rfl,_,h⟩:=h;simp[mE.length a b g i c h]
theorem jg:∀(j:Nat) (b:List CT) (d:List YY) (a e:List DC),b.length≤a.length→EV i j b d (a++e)=EV i j b d a
 | _,[],_,_,_,_=>rfl
 | j,c::b,d,a,e,hl=>by
  cases a with
  | nil=>simp at hl
  | cons x a=>
   have f:b.length≤a.length:=by simpa using hl
   cases c<;>simp only[X_,EV,QH,QG]<;>rw[jg _ b _ a e f]
theorem nsN:∀(i:Nat) (P:List de) (G:List (Option lz)) (Q:List DC) (H:List aaR) (fp mb:List Nat),dJ w P G Q H fp mb→
  ∃E:List bI,(QM i P G Q).2=E.map (λx=>(x.id,x.o))∧E.flatMap (·.φ)=mb∧∀(av:Nat→Prop) (β:Env),(∀x∈E,β.cY x.id=x.cY∧β.val x.id=x.val∧β.nb x.id=x.nb)→(∀b∈fp,¬av b)→
   (∀n,PM (QM i P G Q).1 n= .fV∨∃j v,n=i+j∧H[j]? =some v∧dg w av β (PM (QM i P G Q).1 n) v)∧∀x∈E,x.ok w av β
 | i,[],G,Q,H,fp,mb,L=>by simp only[dJ] at L;obtain⟨rfl,rfl,rfl,rfl,rfl⟩:=L;exact⟨[],rfl,rfl,λav β _ _=>⟨λn=> .inl rfl,by simp⟩⟩
 | i,k::P,G,Q,H,fp,mb,L=>by
  simp only[dJ] at L;obtain⟨m,G,d,f,v,H,f1,f2,b1,b2,rfl,rfl,rfl,p,L,rfl,rfl⟩:=L;obtain⟨E,R,S,T⟩:=nsN (i+1) P G f H f2 b2 L;have step:∀(av:Nat→Prop) (β:Env) (s:bg) (l:List (Nat×bg)),(∀n,PM l n= .fV∨∃j u,n=i+1+j∧H[j]? =some u∧dg w av β (PM l n) u)→dg w av β s v→
    ∀n,PM ((i,s)::l) n= .fV∨∃j u,n=i+j∧(v::H)[j]? =some u∧dg w av β (PM ((i,s)::l) n) u:=by
   intro av β s l z hs n;simp only[PM];cases M:Pd i n
   ·simp only[rl];rcases z n with h3 | ⟨j,u,hn,hj,hu⟩
    ·exact .inl h3
    ·exact .inr ⟨j+1,u,by omega,by simpa using hj,hu⟩
   ·have:=cL M;subst this;simp only[HI];exact .inr ⟨0,v,rfl,rfl,hs⟩
  cases m with
  | none=>
   simp only[dP] at p;obtain⟨p,rfl⟩:=p;have z:d.length=k.bF.length:=by obtain⟨A,_,_,hr,_⟩:=p;exact bj.length _ _ _ _ hr
   have h:(d++f).drop k.bF.length=f:=by rw[←z,Xv]
   refine⟨E,by simp only[QM,QH,QG,h,R],by simpa using S,λav β c B=>?_⟩;obtain⟨D,F⟩:=T av β c (λb c=>B b (mi _ c));refine⟨?_,F⟩;simp only[QM,QH,QG,h];refine step av β _ _ D ?_;rw[xz _ _ _ _ (by omega)];exact nCK p (λb c=>B b (U8 _ c))
  | some m=>
   cases m with
   | box t=>
    simp only[dP] at p;obtain⟨g,A,rfl,hg,N,hr,hlu,rfl⟩:=p;have z:d.length=k.bF.length:=bj.length _ _ _ _ hr;have h:(d++f).drop k.bF.length=f:=by rw[←z,Xv]
    refine⟨⟨pid i 0,.box t (BT k.bF d 0),g,undef,[g],[]⟩::E, ?_,by simp[S],λav β c B=>?_⟩
    ·simp only[QM,QH,QG,h,R,T1];rw[xz _ _ _ _ (by omega)]
    ·obtain⟨D,F⟩:=T av β (λx a=>c x (Pe _ a)) (λb c=>B b (mi _ c));have C:=(c _ (QF ..)).1;simp only at C;refine⟨?_,λx a=>?_⟩
     ·simp only[QM,QH,QG,h];refine step av β _ _ D ?_;simp only[dg,C]
     ·rcases QE.1 a with rfl | a
      ·obtain⟨c9,l1,l2,l3,l4⟩:=bj.b7 (β:=β) (av:=av) hr (λb c=>B b (U8 _ c)) k.bF.length 0 (by omega);have ee:c9=A:=by
        apply aar;intro j;by_cases hj:j<c9.length
        ·have:=l2 j c9[j] (by simp);simp only[Nat.zero_add] at this;rw[this];simp
        ·rw[XP (by omega),XP (by omega)]
       subst ee;simp only[List.drop_zero,List.take_length] at l3;exact⟨⟨c9,by rw[C];exact hg,l3,N,by simp only[C]⟩,by simp only[ar,C]⟩
      ·exact F x a
   | rows ts=>
    simp only[dP] at p;obtain⟨A,r,N,I,rfl⟩:=p;obtain⟨U,W,X,Z⟩:=WE (i:=i) 0 k.bF ts d A b1 I;have z:d.length=k.bF.length:=mE.length _ _ _ _ _ I;have h:(d++f).drop k.bF.length=f:=by rw[←z,Xv]
    have K:EV i 0 k.bF ts (d++f)=EV i 0 k.bF ts d:=jg _ _ _ _ _ (by omega);refine⟨U++E, ?_,by simp[X,S],λav β c B=>?_⟩
    ·simp only[QM,QH,QG,h,K,R,W,aak]
    ·obtain⟨D,F⟩:=T av β (λx a=>c x (mi _ a)) (λb c=>B b (by simpa using c));obtain⟨e,c2⟩:=Z av β (λx a=>c x (U8 _ a));refine⟨?_,λx a=>?_⟩
     ·simp only[QM,QH,QG,h,K];refine step av β _ _ D ?_;cases M:k.agg with
      | true=>
       rw[M] at r;simp only[HI] at r ⊢;simp only[dg];exact⟨A,r,e,N⟩
      | false=>
       rw[M] at r;simp only[rl] at r ⊢;rw[r.1] at e;generalize (EV i 0 k.bF ts d).1=q at e;cases q with
       | nil=>simp[qV] at e
       | cons y l=>
        simp only[qV] at e;obtain⟨v',l',O,e5,_⟩:=e;injection O with O;subst O;simpa using e5
     ·rcases Pc.1 a with a | a
      ·exact c2 x a
      ·exact F x a
   | km ts=>
    simp only[dP] at p;obtain⟨A,r,N,I,rfl⟩:=p;obtain⟨U,W,X,Z⟩:=WE (i:=i) 0 k.bF ts d A b1 I;have z:d.length=k.bF.length:=mE.length _ _ _ _ _ I;have h:(d++f).drop k.bF.length=f:=by rw[←z,Xv]
    have K:EV i 0 k.bF ts (d++f)=EV i 0 k.bF ts d:=jg _ _ _ _ _ (by omega);refine⟨U++E, ?_,by simp[X,S],λav β c B=>?_⟩
    ·simp only[QM,QH,QG,h,K,R,W,aak]
    ·obtain⟨D,F⟩:=T av β (λx a=>c x (mi _ a)) (λb c=>B b (by simpa using c));obtain⟨e,c2⟩:=Z av β (λx a=>c x (U8 _ a));refine⟨?_,λx a=>?_⟩
     ·simp only[QM,QH,QG,h,K];refine step av β _ _ D ?_;cases M:k.agg with
      | true=>
       rw[M] at r;simp only[HI] at r ⊢;simp only[dg];exact⟨A,r,e,N⟩
      | false=>
       rw[M] at r;simp only[rl] at r ⊢;rw[r.1] at e;generalize (EV i 0 k.bF ts d).1=q at e;cases q with
       | nil=>simp[qV] at e
       | cons y l=>
        simp only[qV] at e;obtain⟨v',l',O,e5,_⟩:=e;injection O with O;subst O;simpa using e5
     ·rcases Pc.1 a with a | a
      ·exact c2 x a
      ·exact F x a
   | cZ t ts=>
    simp only[dP] at p;obtain⟨g,A,mm,rfl,hg,N,I,rfl,rfl⟩:=p;obtain⟨U,W,X,Z⟩:=WE (i:=i) 0 k.bF ts d A mm I;have z:d.length=k.bF.length:=mE.length _ _ _ _ _ I;have h:(d++f).drop k.bF.length=f:=by rw[←z,Xv]
    have K:EV i 0 k.bF ts (d++f)=EV i 0 k.bF ts d:=jg _ _ _ _ _ (by omega);refine⟨⟨pid i 62,.box t (EV i 0 k.bF ts d).1,g,undef,[g],[]⟩::(U++E), ?_,by simp[X,S],λav β c B=>?_⟩
    ·simp only[QM,QH,QG,h,K,R,W,aak,T1]
    ·obtain⟨D,F⟩:=T av β (λx a=>c x (Pe _ (mi _ a))) (λb c=>B b (by simpa using c));obtain⟨e,c2⟩:=Z av β (λx a=>c x (Pe _ (U8 _ a)));have C:=(c _ (QF ..)).1;simp only at C;refine⟨?_,λx a=>?_⟩
     ·simp only[QM,QH,QG,h,K];refine step av β _ _ D ?_;simp only[dg,C]
     ·rcases QE.1 a with rfl | a
      ·exact⟨⟨A,by rw[C];exact hg,e,N,by simp only[C]⟩,by simp only[ar,C]⟩
      ·rcases Pc.1 a with a | a
       ·exact c2 x a
       ·exact F x a
theorem mE.lt:∀(c:List CT) (f:List YY) (j:List DC) (l:List aaR) (a:List Nat),mE w c f j l a→∀b∈a,b<w.heap.size
 | [],f,j,l,a,h=>by simp only[mE] at h;simp[h.2.2.2]
 | .sl e::c,f,j,l,a,h=>by
  simp only[mE] at h;obtain⟨t,o,n,g,v,i,r,p,rfl,rfl,rfl,q,h,rfl⟩:=h;intro b m;rcases Pc.1 m with m | m
  ·exact q.lt b m
  ·exact mE.lt c o g i p h b m
 | .int k::c,f,j,l,a,h=>by simp only[mE] at h;obtain⟨d,g,v,i,rfl,rfl,_,h⟩:=h;exact mE.lt c f g i a h
 | .bool::c,f,j,l,a,h=>by simp only[mE] at h;obtain⟨d,g,v,i,rfl,rfl,_,h⟩:=h;exact mE.lt c f g i a h
 | .str::c,f,j,l,a,h=>by simp only[mE] at h;obtain⟨d,g,v,i,rfl,rfl,_,h⟩:=h;exact mE.lt c f g i a h
theorem dJ.facts:∀(f:List de) (o:List (Option lz)) (p:List DC) (i:List aaR) (j l:List Nat),dJ w f o p i j l→(∀b∈l,b<w.heap.size)∧(∀b∈j,b<w.heap.size)∧i.length=f.length
 | [],o,p,i,j,l,h=>by simp only[dJ] at h;obtain⟨_,_,rfl,rfl,rfl⟩:=h;simp
 | k::f,o,p,i,j,l,h=>by
  simp only[dJ] at h;obtain⟨m,s,F,u,v,x,y,z,A,B,rfl,rfl,rfl,c,h,rfl,rfl⟩:=h;obtain⟨C,D,E⟩:=dJ.facts f s u x z B h;have d:(∀b∈A,b<w.heap.size)∧∀b∈y,b<w.heap.size:=by
   cases m with
   | none=>
    simp only[dP] at c;obtain⟨⟨n,_,_,q,_⟩,rfl⟩:=c;exact⟨by simp,bj.lt _ _ _ _ q⟩
   | some m=>
    cases m with
    | box t=>
     simp only[dP] at c;obtain⟨g,n,_,r,_,q,_,rfl⟩:=c;refine⟨λb a=>?_,bj.lt _ _ _ _ q⟩;simp only[Pb] at a;subst a;exact (X8.1 r).1
    | rows ts=>
     simp only[dP] at c;obtain⟨n,_,_,e,rfl⟩:=c;exact⟨mE.lt _ _ _ _ _ e,by simp⟩
    | km ts=>
     simp only[dP] at c;obtain⟨n,_,_,e,rfl⟩:=c;exact⟨mE.lt _ _ _ _ _ e,by simp⟩
    | cZ t ts=>
     simp only[dP] at c;obtain⟨g,n,G,_,r,_,e,rfl,rfl⟩:=c;refine⟨λb a=>?_,by simp⟩;rcases QE.1 a with rfl | a
     ·exact (X8.1 r).1
     ·exact mE.lt _ _ _ _ _ e b a
  refine⟨λb a=>?_,λb a=>?_,by simp[E]⟩
  ·rcases Pc.1 a with a | a
   ·exact d.1 b a
   ·exact C b a
  ·rcases Pc.1 a with a | a
   ·exact d.2 b a
   ·exact D b a
theorem nvQ{E:List bI}(h:(E.flatMap (·.φ)).Nodup):(∀x∈E,x.φ.Nodup)∧∀x∈E,∀y∈E,x≠y→∀b∈x.φ,b ∉ y.φ:=by
 induction E with
 | nil=>simp
 | cons z l j=>
  rw[aau,Q3] at h;obtain⟨k,m,g⟩:=h;obtain⟨n,o⟩:=j m;refine⟨λx a=>?_,λx a y p i b e f=>?_⟩
  ·rcases QE.1 a with rfl | a
   ·exact k
   ·exact n x a
  ·rcases QE.1 a with c | c<;>rcases QE.1 p with d | d
   ·exact i (c.trans d.symm)
   ·subst c;exact g b e b (XR.2 ⟨y,d,f⟩) rfl
   ·subst d;exact g b f b (XR.2 ⟨x,c,e⟩) rfl
   ·exact o x c y d i b e f
theorem f_.count{w:aaP} :∀(e:List VC) (a:List DC) (b:List aaR) (φ c d:List Nat),f_ w e a b φ c d→a.length=gW e
 | [],a,b,φ,c,d,h=>by simp only[f_] at h;simp[h.1,gW]
 | r::rs,a,b,φ,c,d,h=>by simp only[f_] at h;obtain⟨k,f,v,g,l,m,n,o,p,q,s,rfl,rfl,_,_,i,j,_⟩:=h;simp only[Qe,gW,je.length _ _ _ _ _ _ i,f_.count rs f g _ _ _ j]
theorem mE.wt:∀(a:List CT) (c:List YY) (l:List DC) (o:List aaR) (f:List Nat),mE w a c l o f→i_ a l
 | [],c,l,o,f,h=>by simp only[mE] at h;simp only[i_];exact h.2.1
 | .sl e::a,c,l,o,f,h=>by
  simp only[mE] at h;obtain⟨t,u,j,b,v,m,D,x,rfl,rfl,rfl,y,h,_⟩:=h;obtain⟨E,p,q,n,s⟩:=y.reads;simp only[i_,Oj];refine⟨_,_,rfl,⟨j,rfl, ?_,λr z=>?_⟩,mE.wt a u b m x h⟩
  ·rcases n.2 with ⟨_,A,_⟩ | ⟨g,cap,B,_,_,F,G,_⟩
   ·rw[A];exact Nat.zero_le _
   ·omega
  ·obtain⟨i,H,rfl⟩:=ZZ z;have C:i<q.length:=by have:=s.1;omega
   exact bj.wt e _ _ _ (s.2 i j[i] q[i] (by simp) (by simp[C]))
 | .int k::a,c,l,o,f,h=>by simp only[mE] at h;obtain⟨d,b,v,m,rfl,rfl,n,h⟩:=h;simp only[i_];exact⟨d,b,rfl,kL.wt _ _ _ _ n,mE.wt a c b m f h⟩
 | .bool::a,c,l,o,f,h=>by simp only[mE] at h;obtain⟨d,b,v,m,rfl,rfl,n,h⟩:=h;simp only[i_];exact⟨d,b,rfl,kL.wt _ _ _ _ n,mE.wt a c b m f h⟩
 | .str::a,c,l,o,f,h=>by simp only[mE] at h;obtain⟨d,b,v,m,rfl,rfl,n,h⟩:=h;simp only[i_];exact⟨d,b,rfl,kL.wt _ _ _ _ n,mE.wt a c b m f h⟩
theorem dJ.wt:∀(c:List de) (f:List (Option lz)) (d:List DC) (i:List aaR) (j l:List Nat),dJ w c f d i j l→i_ (Uc c) d
 | [],f,d,i,j,l,h=>by simp only[dJ] at h;simp only[Uc,i_];exact h.2.1
 | k::c,f,d,i,j,l,h=>by
  simp only[dJ] at h;obtain⟨m,o,u,p,v,q,x,r,y,s,rfl,rfl,rfl,a,h,_⟩:=h;refine i_.append ?_ (dJ.wt c o p q r s h);cases m with
  | none=>
   simp only[dP] at a;obtain⟨⟨e,_,_,n,_⟩,_⟩:=a;exact bj.wt _ _ _ _ n
  | some m=>
   cases m with
   | box t=>
    simp only[dP] at a;obtain⟨g,e,_,_,_,n,_⟩:=a;exact bj.wt _ _ _ _ n
   | rows ts=>
    simp only[dP] at a;obtain⟨e,_,_,b,_⟩:=a;exact mE.wt _ _ _ _ _ b
   | km ts=>
    simp only[dP] at a;obtain⟨e,_,_,b,_⟩:=a;exact mE.wt _ _ _ _ _ b
   | cZ t ts=>
    simp only[dP] at a;obtain⟨g,e,z,_,_,_,b,_⟩:=a;exact mE.wt _ _ _ _ _ b
def sk:List bI→Nat→Option bI
 | [],_=>none
 | x::l,i=>if i=x.id then some x else sk l i
theorem W8{E:List bI}{j:Nat}{x:bI}(h:sk E j=some x):x∈E∧x.id=j:=by
 induction E with
 | nil=>simp[sk] at h
 | cons y l a=>
  simp only[sk] at h;split at h
  ·rename_i b;injection h with h;subst h;exact⟨QF ..,b.symm⟩
  ·obtain⟨c,d⟩:=a h;exact⟨Pe _ c,d⟩
theorem nkL{E:List bI}{x:bI}(a:x∈E)(b:(E.map (·.id)).Nodup):sk E x.id=some x:=by
 induction E with
 | nil=>simp at a
 | cons y l c=>
  simp only[T1,SO] at b;simp only[sk];rcases QE.1 a with rfl | a
  ·simp
  ·have:x.id≠y.id:=λe=>b.1 (e ▸ X9 a);rw[if_neg this];exact c a b.2
theorem dA{E:List bI}{j:Nat}{o:yP}(h:CH (E.map λx=>(x.id,x.o)) j=some o):∃x,sk E j=some x∧x.o=o:=by
 induction E with
 | nil=>simp[CH] at h
 | cons y l b=>
  simp only[T1,CH] at h;simp only[sk];cases a:Pd y.id j
  ·rw[a] at h;rw[if_neg (λe=>aaj a e.symm)];exact b h
  ·rw[a] at h;have:=cL a;subst this;simp only[HI,VR] at h;exact⟨y,by simp,h⟩
theorem no1{fn:Func}{s:Sum}{st:CO}{r:List DC}(h:WQ P fn s st=(true,r)):st.ok=true:=by
 unfold WQ at h;split at h
 ·simp only[Prod.mk.injEq,gF] at h;exact h.1.1.1
 ·exact absurd h pV
theorem nrs{fn:Func}{s:Sum}{st:CO}{r:List DC}{w w':aaP}{U:List DC}{d:List aaR}{A g:List Nat}{a:Act}(BJ:shares s=false)(I:dJ w s.ps s.ms U d A g)
  (h:WQ P fn s st=(true,r)) (u:Rel w ⟨λb=>b∈g,λb=>b<w.heap.size∧b ∉ A∧b ∉ g,(d.zipIdx.filter (λx=>XS x.2 (y3 s.ms))).map (λx=>(x.2,x.1))⟩ st a w'):
  a.defers=[]∧∃v,(results fn a.tmps).run P w'= .ok v w'∧∃B φ W X C D K k,Ending.returned v= .returned (pack B)∧r=D++K∧D.length=gW s.rs∧Kept ⟨λb=>b∈g,λ_=>False,[]⟩ w w'∧f_ w' s.rs D B φ W X∧φ.Nodup∧
   (∀b∈φ,(b∈g∨w.heap.size≤b)∧b<w'.heap.size)∧vG w' s.ps s.ms K d C k∧k.Nodup∧(∀b∈k,(b∈g∨w.heap.size≤b)∧b<w'.heap.size∧b ∉ φ)∧∀b∈C,(b∈A∨w.heap.size≤b)∧b ∉ X∧b ∉ k∧Av s.ms=false:=by
 obtain⟨_,_,BK⟩:=dJ.facts _ _ _ _ _ _ I;unfold WQ at h;split at h
 case h_2=>exact absurd h pV
 rename_i D own W K O x hr;simp only[Prod.mk.injEq,gF] at h;obtain⟨⟨⟨_,bk⟩,FD⟩,rfl⟩:=h;obtain⟨β,φ,l⟩:=u.core;have y:=M.dR _ hr;simp only[M.ag,sC,M.ab,VR,Prod.mk.injEq] at y;obtain⟨AK,h1,q,h2,q2,h3,e1,e2⟩:=y;subst e1;subst e2;obtain⟨B,g1,g2⟩:=fM l _ _ h1;obtain⟨E,FT,B2,Z,k2,k3,k4,k5⟩:=Xl l _ _ _ _ g2 h2;have MV:∀(j:Nat) v m,d[j]? =some v→s.ms[j]? =some (some m)→a.tmps.getD (0+j) undef=v:=by intro j v m Q I;have:=(u.fx (j,v) (aai.2 ⟨(v,j),List.mem_filter.2 ⟨by rw[aav];exact Q,aat (nmY I)⟩,rfl⟩)).2;simpa using this
 obtain⟨C,k,o1,o2,o4,R,o6,o3⟩:=zI l 0 s.ps s.ms d _ MV BK h3;have n:=I0 bk;rw[Q3] at n;have J1:∀b∈k,∀i∈own,∀o,st.obj i=some o→b ∉ φ i:=by intro b c i L o F G;obtain⟨id,N,z,p,t⟩:=R b c;have c8:i≠id:=λe=>n.2.2 i L id N e;exact absurd (al (l.aC _ _ p) b t) (l.sep i id o z c8 F p b G)
 have Is:∀b∈k,b ∉ E:=by intro b c fZ;obtain⟨i,L,⟨o,F⟩,G⟩:=k2 b fZ;exact J1 b c i L o F G
 have J0:∀b∈k,uh st.obj β b:=λb c=>by obtain⟨id,N,z,p,t⟩:=R b c;exact .inl ⟨id,z,p,t⟩
 have BD:∀b∈C,b<w.heap.size→b ∉ A→False:=by
  intro b c S f;rcases Bool.or_eq_true_iff.1 FD with T | T
  ·have Hr:∀b∈g,∃id∈O,∃o,st.obj id=some o∧b∈ar β id o:=o3 T w U A g I;have H:=o2 b c;have JC:b ∉ g:=λJb=>by obtain⟨id,N,z,p,t⟩:=Hr b Jb;exact H (.inl ⟨id,z,p,t⟩)
   refine absurd (.inr ?_) H;rw[l.bars];exact⟨S,f,JC⟩
  ·rw[o4 T] at c;simp at c
 refine⟨u.defers,pack B,CL g1,B,E,FT,B2,C,D,K,k,rfl,rfl,f_.count _ _ _ _ _ _ Z,⟨u.kept.os,u.kept.tape,u.kept.output,u.kept.size,u.kept.block⟩,Z,k4 n.1, ?_,o1,o6 n.2.1, ?_, ?_⟩
 ·intro b c;obtain⟨i,L,⟨o,F⟩,G⟩:=k2 b c;have f:=(l.fresh i o F).2 b G;exact⟨f.1.symm,f.2⟩
 ·intro b c;obtain⟨id,N,z,p,t⟩:=R b c;have f:=(l.fresh id z p).2 b (al (l.aC _ _ p) b t);exact⟨f.1.symm,f.2,Is b c⟩
 ·intro b c;have H:=o2 b c;refine⟨?_,λt=>?_,λKS=>H (J0 b KS), ?_⟩
  ·by_cases S:b<w.heap.size
   ·by_cases f:b∈A
    ·exact .inl f
    ·exact (BD b c S f).elim
   ·exact .inr (by omega)
  ·obtain⟨j,oj,_,Q,bB⟩:=k3 b t;exact H (.inl ⟨j,oj,Q,bB⟩)
  ·cases ju:Av s.ms with
   | false=>rfl
   | true=>
    rw[o4 ju] at c;simp at c
theorem nwI(eO:Wq P Γ){g:Nat}{fn:Func}{s:Sum}(K:P.funcs[g]? =some fn)(L:fn.body.isSome=true)(hn:(fn.name== "runtime.NumGoroutine")=false)(M:s.ps.length≤fn.ntmps)(Gr:fn.ntmps<1099511627776)
  (O:shares s=false) (eA:∀e,zS ((QM 0 s.ps s.ms e).2.map (·.1))=true)
  (h:∀e,i_ (Uc s.ps) e→(s.fn e).1=true→∃N,Nu P Γ A N fn s e=(true,(s.fn e).2)):UY P g s:=by
 refine⟨⟨fn,K,L,hn⟩,λw e d F C t Q Lj aN=>?_⟩;obtain⟨N,D⟩:=h e (dJ.wt _ _ _ _ _ _ t) aN;obtain⟨c,R⟩:=Option.isSome_iff_exists.1 L;unfold Nu at D;rw[R] at D;simp only at D;obtain⟨Ll,MT,BK⟩:=dJ.facts _ _ _ _ _ _ t;refine calls_of_wp K R ?_;let S:Own:=⟨λb=>b∈C,λb=>b<w.heap.size∧b ∉ F∧b ∉ C,(d.zipIdx.filter (λx=>XS x.2 (y3 s.ms))).map (λx=>(x.2,x.1))⟩;obtain⟨E,u,G,T⟩:=nsN 0 s.ps s.ms e d F C t;have K7:(E.map (·.id)).Nodup:=by have:=I0 (eA e);rw[u,List.map_map] at this;exact this
 let β:Env:=⟨λj=>match sk E j with | some x=>x.cY | none=>0,λj=>match sk E j with | some x=>x.val | none=>undef,S.gV,λj=>match sk E j with | some x=>x.nb | none=>[]⟩;have U:∀x∈E,β.cY x.id=x.cY∧β.val x.id=x.val∧β.nb x.id=x.nb:=by intro x f;simp only[β,nkL f K7,and_self]
 have H:∀x∈E,∀b∈x.φ,b∈C:=λx f b k=>by rw[←G];exact XR.2 ⟨x,f,k⟩
 have A7:∀x∈E,ar β x.id x.o=x.φ:=λx f=>((T (λ_=>False) β U (λ_ _ h=>h)).2 x f).2;have Ic:∀b∈F,¬uh (CH (QM 0 s.ps s.ms e).2) β b:=by
  rintro b k (⟨j,o,p,kq⟩ | f)
  ·rw[u] at p;obtain⟨x,f,rfl⟩:=dA p;obtain⟨m,rfl⟩:=W8 f;rw[A7 x m] at kq;exact Lj b (H x m b kq) k
  ·exact f.2.1 k
 obtain⟨ll,aQ⟩:=T (uh (CH (QM 0 s.ps s.ms e).2) β) β U Ic;have hR:Rel w S {n:=fn.ntmps+y3 s.ms*1099511627776,sl:=(QM 0 s.ps s.ms e).1,hp:=(QM 0 s.ps s.ms e).2,ok:=true,ls:=[],lm:=[]} {tmps:=d.toArray++TO (fn.ntmps - d.toArray.size) undef,defers:=[]} w:=by
  have W:∀(j:Nat) v,d[j]? =some v→(d.toArray++TO (fn.ntmps - d.toArray.size) undef).getD j undef=v:=by intro j v q;have H8:j<d.length:=(Th.1 q).1;rw[Tb,aas (by simp;omega)];simp[q]
  refine⟨by simp;omega, ?_,rfl,⟨rfl,rfl,rfl,Xs _,λ_ _ _=>rfl⟩,β,λj=>match sk E j with | some x=>x.φ | none=>[], ?_⟩
  ·intro x f;obtain⟨⟨v,j⟩,z,rfl⟩:=aai.1 f;obtain⟨z,X⟩:=List.mem_filter.1 z;have X:j<y3 s.ms:=ZY X;rw[aav] at z;have H8:j<d.length:=(Th.1 z).1;exact⟨by simp only;omega,W j v z⟩
  ·refine⟨λi=>?_,λid o p=>?_,λid o p=>?_,λi j oi oj c8 Z q b k=>?_,λb k=>⟨k.1,k.2.2⟩,rfl⟩
   ·rcases ll i with h1 | ⟨j,v,Z,q,hs⟩
    ·show dg w _ _ (PM (QM 0 s.ps s.ms e).1 i) _;rw[h1];simp[dg]
    ·have:i=j:=by omega
     subst this;rw[W i v q];exact hs
   ·have B:CH (QM 0 s.ps s.ms e).2 id=some o:=p;rw[u] at B;obtain⟨x,f,rfl⟩:=dA B;obtain⟨m,rfl⟩:=W8 f;simp only[f];exact (aQ x m).1
   ·have B:CH (QM 0 s.ps s.ms e).2 id=some o:=p;rw[u] at B;obtain⟨x,f,rfl⟩:=dA B;obtain⟨m,rfl⟩:=W8 f;simp only[f];refine⟨?_,λb k=>⟨.inr (H x m b k),Ll b (H x m b k)⟩⟩;exact (nvQ (E:=E) (by rw[G];exact Q)).1 x m
   ·have ey:CH (QM 0 s.ps s.ms e).2 i=some oi:=Z;have gI:CH (QM 0 s.ps s.ms e).2 j=some oj:=q;rw[u] at ey gI;obtain⟨x,f,rfl⟩:=dA ey;obtain⟨y,hy,rfl⟩:=dA gI;simp only[f] at k;simp only[hy];have JV:=W8 f;have Ky:=W8 hy;have A_:x≠y:=by
     rintro rfl
     exact c8 (JV.2.symm.trans Ky.2)
    exact (nvQ (E:=E) (by rw[G];exact Q)).2 x JV.1 y Ky.1 A_ b k
 refine wV (r:=(s.fn e).2) eO c _ {fq:=WQ P fn s,ext:=λ_ _=>kW,ret:=WQ P fn s} _ w _ ⟨λst l=>no1 l,λi st l=>absurd l pV,λst l=>no1 l⟩ hR D ⟨?_, ?_, ?_⟩
 ·intro st a w' I l;exact nrs O t l I
 ·intro i st a w' _ l;exact absurd l pV
 ·intro st a w' I l;exact nrs O t l I
end
def E0(P:aaO)(Γ:Ctx)(A:List (Nat×iT))(N:Nat)(fn:Func)(s:Sum)(p:List Bool)(b:List (CO→zW))(d:CO→zW)(st:CO):zW:=
 match fn.body with
 | some c=>match focus P Γ A N p b c {fq:=WQ P fn s,ext:=λ_ _=>kW,ret:=WQ P fn s} with
  | (.loop a,K)=>match (QW a).bind (w_ A) with
   | some an=>run P Γ A N a st {fq:=λe=>d (canon P an e),ext:=K.ext,ret:=K.ret}
   | none=>kW
  | _=>kW
 | none=>kW
end Go.Proofs.YteffpikahopfoaaGreat.Vm
