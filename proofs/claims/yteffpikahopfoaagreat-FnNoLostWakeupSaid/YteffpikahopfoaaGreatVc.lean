/- Conditions: as each says. -/
import Derived.Test.YteffpikahopfoaaGreatVb
import Derived.ArgAppend
set_option linter.unusedVariables false
set_option linter.unusedSimpArgs false
open Nat renaming beq→Jn,succ_mul→JF,zero_add→JI,le_of_ble_eq_true→JM,mul_le_mul_right→JR,mul_one→J2,add_zero→Kg,ble→Kl,le_refl→Kp,min→Ky,blt→KN,ne_of_beq_eq_false→Mp
open List renaming mem_cons→Jw,replicate→JA,mem_append→JC,length_nil→JV,nodup_append→JX,getElem?_take→J1,mem_cons_of_mem→J6,getElem?_drop→J_,nil_append→Kb,length_take→Kd,getElem?_cons_zero→Kf,length_drop→Kh,append_assoc→Kr,mem_cons_self→Ks,foldl_cons→Kx,cons_append→KE,take_succ_cons→KJ,flatten_append→KM,getElem?_eq_some_iff→KS,mem_of_getElem?→KV,getElem?_set_self→K2,drop_drop→K8,getElem?_map→Lb,getElem?_eq_getElem→Lc,size_toArray→Lj,map_cons→Lk,eq_nil_of_length_eq_zero→Lu,take_append_drop→Lv,take_of_length_le→Lw,mem_flatten→LF,drop_succ_cons→LH,getElem?_set_ne→LI,drop_zero→LJ,append_nil→LK,drop_append→LN,mem_map_of_mem→LR,range'_succ→LU,mem_replicate→LW,getElem_of_mem→LX,getElem?_append_left→L4,getElem?_append_right→L6,ext_getElem?→L_,replicate_succ→Mh,drop_of_length_le→Mk,take_append_of_le_length→Ml,set_eq_of_length_le→Mm,mem_singleton→Mo
open Go.Value renaming ownBlock→JB,int→La
open Array renaming length_toList→KB,toArray_toList→LV,getD_eq_getD_getElem?→My
open Go renaming Program→aao,World→aap,Value→aaq,TypeId→aar,Operand→aas
namespace Go.Proofs.YteffpikahopfoaaGreat.Vm
section
variable {P:aao} {Γ:Ctx} {w0:aap} {S:Own} {st:E} {o:Oper} {e:Nf} {a:Act} {w w':aap}
variable {f:Nat→X} {h:Nat→Option xC} {β:L} {φ:Nat→List Nat} {tm:Array aaq}
theorem nfv(F:Rel w0 S st a w)(G:∀d,o.dst=some d→sP st.n d){t:aar}{x:aas}{j p:Option aas}(ad6:o.op= .slice t x j p none){q:X}{s v:Option X}
  (I:(zQ x).val st.get st.obj=some q) (J:(tE j).val st.get st.obj=some s) (K:(tE p).val st.get st.obj=some v)
  (b:(nBP P t q s v).val st.get st.obj=some e) (y:e.ok=true):R P w0 S st o e a w:=by
 unfold nBP at b;split at b
 ·rename_i z id k l L;simp only[M.aY,UI] at b;obtain⟨ais,N,b⟩:=b;split at b
  ·rename_i afJ A r Z u;cases f:Jn afJ z && Fe P z A.length
   ·simp[f] at b
   simp only[f,H,M.ab,Y] at b;subst b;simp only[Bl] at f;simp only[Bl,js] at y;obtain⟨i,Q,agB⟩:=TL f.2;refine zt F G rfl rfl λβ φ h=>?_;have B:=h.ev I;simp only[O] at B;obtain⟨C,aE,T,_⟩:=h.aC id _ N;rcases T.2 with ⟨_,h0,_⟩ | ⟨g,cap,U,D,hg,V,EU,gg,FY⟩
   ·omega
   have W:=hsI (P:=P) (isS:=true) (n:=r.length) (cap:=cap) (l:=l.toNat) (m:=r.length) (c:=decide (0≤l) && decide (l≤(r.length:Int))) V h J K rfl (by simp only[Bl,js];exact y.1);refine⟨.slice (some ⟨g,if l.toNat<cap then l.toNat*A.length else 0,none⟩) (r.length - l.toNat) (cap - l.toNat), ?_, ?_⟩
   ·have ahY:(execOp a.eval o).run P w= .ok (.value (.slice (if cap=l.toNat then some ⟨g,0,none⟩ else (some (⟨g,0,none⟩:Addr)).map (·.add (l.toNat*i.size))) (r.length - l.toNat) (cap - l.toNat))) w:=by simp[execOp,ad6,B.1,D,Instr.sliceAt,Instr.slice,run_underlying L,W,sizeOf,typeInfo,Q]
    rw[ahY];by_cases E:l.toNat<cap
    ·rw[if_neg (by omega),if_pos E,agB];simp[ZB]
    ·rw[if_pos (by omega),if_neg E]
   ·simp only[O];exact⟨g,r.length,cap,D,by omega,rfl⟩
  ·simp at b
 ·simp at b
theorem Uv.take{c:List CT}{a:List (List DC)}{b:List aaq}{g:List (List Nat)}(h:Uv w c a b g)(k:Nat):Uv w c (a.take k) (b.take (k*c.length)) (g.take k):=by
 refine⟨by simp[h.1],λi r f d e=>?_⟩;rw[J1] at d e;split at d
 ·rename_i l;rw[if_pos l] at e;refine dr.bj.kd (λj u n m=>?_) (h.2 i r f d e);rw[J1,if_pos]
  ·exact m
  ·have:(i+1)*c.length≤k*c.length:=JR _ l;rw[JF] at this;omega
 ·cases d
theorem Uv.drop{c:List CT}{a:List (List DC)}{b:List aaq}{d:List (List Nat)}(e:Uv w c a b d)(k:Nat):Uv w c (a.drop k) (b.drop (k*c.length)) (d.drop k):=by
 refine⟨by simp[e.1],λi r f g h=>?_⟩;rw[J_] at g h;refine dr.bj.kd (λj u m l=>?_) (e.2 (k+i) r f g h);rw[J_,←l]
 congr 1
 rw[Nat.add_mul];omega
theorem nAJ(K:Rel w0 S st a w)(hd:∀d,o.dst=some d→sP st.n d){t t2:aar}{x y:aas}{c:Call}(ho:o.op= .call c)(hb:c.callee= .builtin .copy)(cr:c.args= #[x,y])(GP:c.argTypes= #[t,t2]){ait Z:X}
  (L:(zQ x).val st.get st.obj=some ait) (N:(zQ y).val st.get st.obj=some Z) (q:(Wl P t ait Z).val st.get st.obj=some e) (aN:e.ok=true):R P w0 S st o e a w:=by
 unfold Wl at q;split at q
 ·rename_i et id f z s hu;simp only[M.aY,UI] at q;obtain⟨ob,E,q⟩:=q;split at q
  ·rename_i F ct r G u;cases C:Jn F et && Fe P et 1 && Jn z 1 && cB ct [.int .u8]
   ·simp[C] at q
   simp only[C,H,M.ab,Y] at q;subst q;simp only[Bl] at C;have Cr:=uG _ _ C.2;subst Cr;have AU:=Vs C.1.2;subst AU;obtain⟨i,hi,bJ⟩:=TL C.1.1.2;have Lm:f≤r.length:=by simpa using aN
   obtain⟨β,φ,B⟩:=K.core;have FU:=B.ev L;simp only[O] at FU;obtain⟨g,n,cap,m,hln,CB⟩:=FU;have afK:=B.ev N;simp only[O] at afK;obtain⟨p,I,bk,Q,Ig,lE⟩:=B.aC id _ E;have GQ:g∈ar β id (.row F [.int .u8] r G u):=by simp[ar,m,JB]
   rcases bk.2 with ⟨HF,_,_⟩ | ⟨g',I6,h,hv',agC,BN,EU,T,FY⟩
   ·rw[m] at HF;cases HF
   rw[m] at hv';injection hv' with ad7 e2 e3;injection ad7 with ad7;injection ad7 with ad7;subst ad7 e2 e3;have Dq:=al (B.aC id _ E) g GQ;have Mj:=(B.fresh id _ E).2 g Dq;have U:=bk.1;simp only[I_,JV,JI,J2] at U T FY CB;have Cs:Sw [CT.int .u8]=true:=rfl;let l:List aaq:=(s.take (r.length - f)).map λb=>La .u8 b.toNat;have ag2:l.length=min s.length (r.length - f):=by simp[l,Nat.min_comm]
   have bo:∀v∈l,v.oneCell'=true:=by intro v hv;simp only[l,List.mem_map] at hv;obtain⟨b,_,rfl⟩:=hv;rfl
   have FE:∀j,j<h.size→¬((cond G (h.size,h.size+1) ((0,0):Nat×Nat)).1≤j∧j<(cond G (h.size,h.size+1) ((0,0):Nat×Nat)).2):=by intro j hj;cases G<;>simp<;>omega
   have It:l=[]∨(if f<cap then f else 0)=f:=by
    rcases Nat.lt_or_ge f cap with A | A
    ·exact .inr (if_pos A)
    ·refine .inl ?_;have:l.length=0:=by rw[ag2];omega
     exact Lu this
   have Iy:(storeCells ⟨g,if f<cap then f else 0,none⟩ l 0).run P w= .ok () (w.setRow g (h.toList.take f++(l++h.toList.drop (f+l.length))).toArray):=by
    rcases It with A | A
    ·rw[A];simp only[storeCells,Kb,JV,Kg,Lv,LV];rw[setRow_self w g h F _ agC];rfl
    ·rw[A];have:=P1 P g f F _ l 0 h w agC FE (by rw[ag2,T];omega) bo;simpa only[Kg] using this
   have Ae:(Builtin.firstCells i.size (Ky s.length (r.length - f)) (.string ⟨s.toArray⟩)).run P w= .ok l.toArray w:=by
    have:((⟨s.toArray⟩:ByteArray).extract 0 (Ky s.length (r.length - f))).data.map (λb=>La .u8 b.toNat)=l.toArray:=by
     rw[xg];have e5:s.take (Ky s.length (r.length - f))=s.take (r.length - f):=by
      rcases Nat.le_total s.length (r.length - f) with A | A
      ·rw[show Ky s.length (r.length - f)=s.length from Nat.min_eq_left A,List.take_length,Lw A]
      ·rw[show Ky s.length (r.length - f)=r.length - f from Nat.min_eq_right A]
     simp[l,e5]
    simp only[Builtin.firstCells,Sem.run_pure,this]
   have Ag:(h.toList.take f++(l++h.toList.drop (f+l.length))).length=h.size:=by simp only[fK,Kd,Kh,KB];omega
   have J:(r.take f++(((s.take (r.length - f)).map dc)++r.drop (f+min s.length (r.length - f)))).length=r.length:=by simp only[fK,Kd,Kh,List.length_map];omega
   have Lg:Uv w [.int .u8] ((s.take (r.length - f)).map dc) l (JA l.length []):=by
    refine⟨by simp[l],λk r' f' W hf=>?_⟩;have Gx:k<(s.take (r.length - f)).length:=by have:=(KS.1 W).1;simpa using this
    have FT:r'=dc (s.take (r.length - f))[k]:=by rw[Lb,Lc Gx] at W;simpa using W.symm
    have Cd:f'=[]:=by have:=KV hf;exact (LW.1 this).2
    subst FT Cd;unfold dc;simp only[bj,Z8];refine⟨.int (s.take (r.length - f))[k].toNat,[],.int .u8 (s.take (r.length - f))[k].toNat,[],[],rfl, ?_,⟨_,rfl,rfl, ?_,rfl⟩,⟨rfl,rfl⟩,rfl⟩
    ·simp only[l,I_,JV,JI,J2,Kg];rw[Lb,Lc Gx];rfl
    ·rw[aL];have L:IntKind.u8.min=0:=by decide
     have N:IntKind.u8.max=255:=by decide
     have:=(s.take (r.length - f))[k].toNat_lt;omega
   have Ah:Uv w [.int .u8] (r.take f++(((s.take (r.length - f)).map dc)++r.drop (f+min s.length (r.length - f)))) (p.take f++(l++p.drop (f+l.length))) (I.take f++(JA l.length []++I.drop (f+l.length))):=by
    have a1:=Q.take f;have a2:=Q.drop (f+l.length);simp only[I_,JV,JI,J2] at a1 a2;rw[←ag2];refine a1.append ?_ (Lg.append ?_ a2)
    ·simp only[I_,JV,JI,J2,Kd,U]
    ·simp[l]
   have ahZ:=Ah.flat Cs;have Iz:φ id=[g]:=by rw[lE,Q.flat Cs,m];cases u<;>simp[JB]
   refine HI K hd (v:= .int .i64 (min s.length (r.length - f):Nat)) (w':=w.setRow g (h.toList.take f++(l++h.toList.drop (f+l.length))).toArray) ?_ (K.kept.setRow Mj.1 _)
    ⟨β,L9 φ id [g], ?_, ?_⟩
   ·have AF:Ky s.length (r.length - f)=min s.length (r.length - f):=rfl;simp[execOp,ho,resolve,hb,cr,GP,invoke,builtin,Builtin.copy_,run_underlying hu,CB,afK.1,Builtin.lenOf,sizeOf,typeInfo,hi,Ch,Ae,Iy,goInt]
   ·show V w0 S st.get (L9 st.obj id (some (.row F [.int .u8] (r.take f++(((s.take (r.length - f)).map dc)++r.drop (f+min s.length (r.length - f)))) G u))) _ _ _ _;refine B.rewrite E GQ (λb D=>D) ?_ (by simp) ?_
    ·refine⟨p.take f++(l++p.drop (f+l.length)),I.take f++(JA l.length []++I.drop (f+l.length)),⟨?_,.inr ⟨g,cap,(h.toList.take f++(l++h.toList.drop (f+l.length))).toArray,by rw[J];exact m, ?_,by rw[J];exact BN,EU, ?_, ?_⟩⟩, ?_, ?_, ?_⟩
     ·rw[J];simp only[I_,JV,JI,J2,fK,Kd,Kh,U];omega
     ·rw[setRow_heap w _ _ _ _ _ agC];simp only[Lj,Ag]
     ·simp only[Lj,Ag,I_,JV,JI,J2];exact T
     ·rw[J];simp only[I_,JV,JI,J2];rw[yT _ _ _ _ (by omega) (by simp only[KB];omega),FY]
     ·exact Ah.mono (by simp) (λb D=>by rw[ahZ] at D;simp at D)
     ·rw[ahZ];simp
     ·rw[ahZ,m];cases u<;>simp[JB]
    ·intro b D;have MV:b=g:=by simpa using D
     subst MV;exact⟨Mj,λj oj hj jV=>B.sep id j _ _ (Ne.symm hj) E jV b Dq⟩
   ·unfold O;refine⟨rfl, ?_⟩;rw[aL];have L:IntKind.i64.min= -9223372036854775808:=by decide
    have N:IntKind.i64.max=9223372036854775807:=by decide
    have:=afK.2;simp only[maxLen] at this;omega
  ·simp at q
 ·simp at q
end
set_option linter.unusedVariables false
set_option linter.unusedSimpArgs false
theorem oh(c:CT):(∃e,c= .sl e)∨Sw [c]=true:=by
 cases c with
 | sl e=>exact .inl ⟨e,rfl⟩
 | _=>exact .inr rfl
theorem Tu{c:CT}{a:List CT} :Sw (c::a)=(Sw [c] && Sw a):=by
 cases c<;>rfl
theorem VR{c:CT}{a:List CT}(b:Sw [c]=true):Qn (c::a)=Qn a:=by
 cases c with
 | sl e=>simp[Sw] at b
 | _=>rfl
theorem CO:∀ {a:List CT},Qn a=0→Sw a=true
 | [],_=>rfl
 | c::a,h=>by
  rcases oh c with ⟨e,rfl⟩ | b
  ·simp[Qn] at h
  ·rw[VR b] at h;rw[Tu,b,CO h];rfl
theorem Ed:∀(a b:List CT),Qn (a++b)=Qn a+Qn b
 | [],b=>by simp[Qn]
 | c::cs,b=>by
  rcases oh c with ⟨e,rfl⟩ | d
  ·simp only[KE,Qn,Ed cs b];omega
  ·rw[KE,VR d,VR d,Ed cs b]
theorem flat_get:∀ {a:List CT} {k:Nat} {e:List CT},Sw a=true→a[k]? =some (.sl e)→False
 | [],k,e,_,h=>by simp at h
 | c::a,k,e,hf,h=>by
  rw[Tu,Bl] at hf;cases k with
  | zero=>
   simp only[Kf,Y] at h;subst h;simp[Sw] at hf
  | succ k=>exact flat_get hf.2 (by simpa using h)
section
variable {w:aap}
theorem D7.length{i:Option aaq} :∀(a:List CT) (j:List aar) (b:List DC) (f:List aaq) (k:List Nat),D7 w i a j b f k→f.length=a.length∧b.length=a.length
 | [],_,_,_,_,h=>by simp only[D7] at h;obtain⟨_,rfl,rfl,_⟩:=h;exact⟨rfl,rfl⟩
 | c::a,_,_,_,_,h=>by
  rcases oh c with ⟨e,rfl⟩ | l
  ·simp only[D7] at h;obtain⟨t,q,g,m,v,n,r,s,rfl,rfl,rfl,_,_,o,rfl⟩:=h;have:=D7.length a _ _ _ _ o;simp[this.1,this.2]
  ·rw[D7.flat l] at h;obtain⟨d,m,v,n,rfl,rfl,_,p⟩:=h;have:=D7.length a _ _ _ _ p;simp[this.1,this.2]
theorem D7.lt{g:Option aaq} :∀(f:List CT) (m:List aar) (n:List DC) (o:List aaq) (i:List Nat),D7 w g f m n o i→∀b∈i,b<w.heap.size
 | [],_,_,_,_,h=>by simp only[D7] at h;simp[h.2.2.2]
 | c::f,_,_,_,_,h=>by
  rcases oh c with ⟨e,rfl⟩ | p
  ·simp only[D7] at h;obtain⟨t,y,j,q,v,r,z,A,rfl,rfl,rfl,_,k,s,rfl⟩:=h;intro b a;rcases JC.1 a with a | a
   ·cases g with
    | none=>
     obtain⟨l,B,u,_,rfl⟩:=k;exact u.lt b a
    | some v0=>
     rw[k.2.2] at a;simp at a
   ·exact D7.lt f _ _ _ _ s b a
  ·rw[D7.flat p] at h;obtain⟨d,q,v,r,rfl,rfl,_,x⟩:=h;exact D7.lt f _ _ _ _ x
theorem Ni.lt{e:List CT}{g:List aar}{a:List (List DC)}{c:List aaq}{j:Nat→Option aaq}{d:List (List Nat)}(h:Ni w e g a c j d):∀b∈d.flatten,b<w.heap.size:=by
 intro b f;obtain⟨m,k,f⟩:=LF.1 f;obtain⟨i,l,rfl⟩:=LX k;have n:i<a.length:=by have:=h.1;omega
 exact D7.lt _ _ _ _ _ (h.2 i a[i] d[i] (by simp) (by simp)) b f
theorem D7.split{o:Option aaq} :∀(a b:List CT) (i:List aar) (j:List DC) (k:List aaq) (l:List Nat),D7 w o (a++b) i j k l→
  ∃x y f z,i=x++y∧l=f++z∧D7 w o a x (j.take a.length) (k.take a.length) f∧D7 w o b y (j.drop a.length) (k.drop a.length) z
 | [],b,i,j,k,l,h=>⟨[],i,[],l,rfl,rfl,by simp[D7],by simpa using h⟩
 | c::cs,b,_,_,_,_,h=>by
  rw[KE] at h;rcases oh c with ⟨e,rfl⟩ | A
  ·simp only[D7] at h;obtain⟨t,G,g,B,v,C,f,H,rfl,rfl,rfl,p,D,E,rfl⟩:=h;obtain⟨m,q,n,r,rfl,rfl,s,u⟩:=D7.split cs b _ _ _ _ E;refine⟨t::m,q,f++n,r,rfl,by simp, ?_,by simpa using u⟩;simp only[D7,I_,KJ];exact⟨t,m,g,_,v,_,f,n,rfl,rfl,rfl,p,D,s,rfl⟩
  ·rw[D7.flat A] at h;obtain⟨d,B,v,C,rfl,rfl,F,p⟩:=h;obtain⟨m,q,n,r,rfl,rfl,s,u⟩:=D7.split cs b _ _ _ _ p;refine⟨m,q,n,r,rfl,rfl, ?_,by simpa using u⟩;rw[D7.flat A];simp only[I_,KJ];exact⟨d,_,v,_,rfl,rfl,F,s⟩
theorem D7.join{g:Option aaq} :∀(j a:List CT) (k l:List aar) (m n:List DC) (o p:List aaq) (f q:List Nat),D7 w g j k m o f→D7 w g a l n p q→
  D7 w g (j++a) (k++l) (m++n) (o++p) (f++q)
 | [],a,_,_,_,_,_,_,_,_,h,h2=>by simp only[D7] at h;obtain⟨rfl,rfl,rfl,rfl⟩:=h;simpa using h2
 | c::cs,a,_,_,_,_,_,_,_,_,h,h2=>by
  rcases oh c with ⟨e,rfl⟩ | r
  ·simp only[D7] at h;obtain⟨t,A,b,s,v,u,f,B,rfl,rfl,rfl,i,x,y,rfl⟩:=h;simp only[KE,D7];exact⟨t,_,b,_,v,_,f,_,rfl,rfl,rfl,i,x,D7.join cs a _ _ _ _ _ _ _ _ y h2,by simp⟩
  ·rw[D7.flat r] at h;obtain⟨d,s,v,u,rfl,rfl,z,i⟩:=h;simp only[KE];rw[D7.flat r];exact⟨d,_,v,_,rfl,rfl,z,D7.join cs a _ _ _ _ _ _ _ _ i h2⟩
theorem D7.DH{m:Option aaq} :∀(b:List CT) (e:List DC) (a:List aaq) (f:List Nat),Sw b=true→bj w b e (λj=>a[j]?) f→a.length=b.length→D7 w m b [] e a []
 | [],e,a,f,_,h,hl=>by simp only[bj] at h;simp only[D7];exact⟨trivial,h.1,by simpa using hl,trivial⟩
 | c::b,e,a,f,hf,h,hl=>by
  rw[Tu,Bl] at hf;simp only[bj] at h;obtain⟨d,i,v,g,n,rfl,k,l,o,rfl⟩:=h;cases a with
  | nil=>simp at hl
  | cons u a=>
   simp only[Kf,Y] at k;subst k;rw[D7.flat hf.1];refine⟨d,i,u,a,rfl,rfl, ?_,D7.DH b i a n hf.2 (by simpa using o) (by simpa using hl)⟩;have p:g=[]:=Uv.mX [c] [d] (λ_=>some u) g hf.1 (by simp only[bj];exact⟨d,[],u,g,[],rfl,rfl,l,by simp,by simp⟩);subst p;exact l
theorem D7.toFlat{i:Option aaq} :∀(a:List CT) (b:List aar) (e:List DC) (f:List aaq) (g:List Nat),Sw a=true→D7 w i a b e f g→b=[]∧g=[]∧bj w a e (λj=>f[j]?) []
 | [],_,_,_,_,_,h=>by simp only[D7] at h;obtain⟨rfl,rfl,rfl,rfl⟩:=h;exact⟨rfl,rfl,by simp[bj]⟩
 | c::a,_,_,_,_,hf,h=>by rw[Tu,Bl] at hf;rw[D7.flat hf.1] at h;obtain⟨d,k,v,q,rfl,rfl,l,m⟩:=h;obtain⟨n,o,p⟩:=D7.toFlat a _ _ _ _ hf.2 m;refine⟨n,o, ?_⟩;simp only[bj];exact⟨d,k,v,[],[],rfl,rfl,l,by simpa using p,rfl⟩
theorem D7.B1{g hv':Option aaq}{a:List CT}{b:List aar}{c:List DC}{d:List aaq}{e:List Nat}(f:Sw a=true)(h:D7 w g a b c d e):D7 w hv' a b c d e:=by obtain⟨rfl,rfl,i⟩:=D7.toFlat _ _ _ _ _ f h;exact D7.DH _ _ _ _ f i (D7.length _ _ _ _ _ h).1
theorem D7.out:∀(e:List CT) (off:Nat) (f:List CT) (q:List aar) (r:List DC) (l:List aaq) (m:List Nat),e[off]? =some (.sl f)→Qn e=1→D7 w none e q r l m→
  ∃g v a,q=[g]∧l[off]? =some v∧r[off]? =some (.sl a)∧Sw f=true∧Zx w none g f a v m∧D7 w (some v) e [g] r l []
 | [],_,_,_,_,_,_,h,_,_=>by simp at h
 | c::cs,off,f,_,_,_,_,h,hn,hc=>by
  rcases oh c with ⟨e,rfl⟩ | i
  ·simp only[Qn] at hn;have n:Sw cs=true:=CO (by omega);cases off with
   | zero=>
    simp only[Kf,Y,CT.sl.injEq] at h;subst h;simp only[D7] at hc;obtain⟨t,G,b,o,v,p,H,I,rfl,rfl,rfl,j,s,u,rfl⟩:=hc;obtain⟨rfl,rfl,_⟩:=D7.toFlat _ _ _ _ _ n u;have y:v.oneCell'=true:=by obtain⟨x,J,z,_⟩:=s;exact z.one
    refine⟨t,v,b,rfl,rfl,rfl,j,by simpa using s, ?_⟩;simp only[D7];exact⟨t,[],b,o,v,p,[],[],rfl,rfl,rfl,j,⟨rfl,y,rfl⟩,D7.B1 n u,rfl⟩
   | succ k=>exact (flat_get n (by simpa using h)).elim
  ·cases off with
   | zero=>
    simp only[Kf,Y] at h;subst h;simp[Sw] at i
   | succ k=>
    rw[D7.flat i] at hc;obtain⟨d,o,v,p,rfl,rfl,A,j⟩:=hc;rw[VR i] at hn;obtain⟨g,v1,a,rfl,B,C,D,E,F⟩:=D7.out cs k f _ _ _ _ (by simpa using h) hn j;refine⟨g,v1,a,rfl,by simpa using B,by simpa using C,D,E, ?_⟩;rw[D7.flat i];exact⟨d,o,v,p,rfl,rfl,A,F⟩
theorem nyL{c:CT}{a:List CT}(b:Sw [c]=true):Yp (c::a)=Yp a+1:=by
 cases c with
 | sl e=>simp[Sw] at b
 | _=>rfl
theorem D7.back{v:aaq}{a:List (List DC)}{g:List Nat} :∀(e:List CT) (f:List CT) (b:aar) (r:List DC) (o:List aaq) (m:List Nat),e[Yp e]? =some (.sl f)→Qn e=1→D7 w (some v) e [b] r o m→
  Zx w none b f a v g→D7 w none e [b] (Sk r (Yp e) [.sl a]) o g
 | [],_,_,_,_,_,h,_,_,_=>by simp[Yp] at h
 | c::cs,f,b,_,_,_,h,hn,hc,hs=>by
  rcases oh c with ⟨e,rfl⟩ | i
  ·simp only[Qn] at hn;have p:Sw cs=true:=CO (by omega);simp only[Yp,Kf,Y,CT.sl.injEq] at h;subst h;simp only[D7] at hc;obtain⟨t,A,q,j,k,l,x,B,s,rfl,rfl,n,⟨rfl,C,rfl⟩,u,rfl⟩:=hc;simp only[List.cons.injEq] at s;obtain⟨rfl,rfl⟩:=s;obtain⟨_,rfl,_⟩:=D7.toFlat _ _ _ _ _ p u;simp only[Yp,Sk,D7];exact⟨b,[],a,j,k,l,g,[],rfl,by simp,rfl,n,hs,D7.B1 p u,by simp⟩
  ·rw[nyL i] at h ⊢;rw[D7.flat i] at hc ⊢;obtain⟨d,j,k,l,rfl,rfl,y,n⟩:=hc;rw[VR i] at hn;refine⟨d,Sk j (Yp cs) [.sl a],k,l, ?_,rfl,y,D7.back cs f b _ _ _ (by simpa using h) hn n hs⟩;have z:Yp cs+1+([DC.sl a]:List DC).length=(Yp cs+([DC.sl a]:List DC).length)+1:=by omega
   simp only[Sk,z,KJ,LH,KE]
theorem gp{α:Type}(l nu:List α)(p j:Nat)(h:p+nu.length≤l.length):(l.take p++(nu++l.drop (p+nu.length)))[j]? =if j<p then l[j]? else if j<p+nu.length then nu[j - p]? else l[j]? :=by
 have b:(l.take p).length=p:=by simp;omega
 split
 ·rename_i a;rw[L4 (by omega),J1,if_pos a]
 ·rename_i a;rw[L6 (by omega),b];split
  ·rw[L4 (by omega)]
  ·rw[L6 (by omega),J_]
   congr 1
   omega
theorem nto{α:Type}(a nu:List α)(i off b:Nat)(f:off+nu.length≤b)(g:i*b+b≤a.length):
  ((a.take (i*b+off)++(nu++a.drop (i*b+off+nu.length))).drop (i*b)).take b=((a.drop (i*b)).take b).take off++(nu++((a.drop (i*b)).take b).drop (off+nu.length)):=by
 apply L_;intro j;rw[gp _ _ _ _ (by simp;omega),J1,J_,gp _ _ _ _ (by omega)];simp only[J1,J_];by_cases c:j<b
 ·rw[if_pos c,if_pos c];by_cases d:j<off
  ·rw[if_pos (by omega),if_pos d]
  ·rw[if_neg (by omega),if_neg d];by_cases e:j<off+nu.length
   ·rw[if_pos (by omega),if_pos e]
    congr 1
    omega
   ·rw[if_neg (by omega),if_neg e]
 ·rw[if_neg c,if_neg c,if_neg (by omega),if_neg (by omega)]
theorem nyE{α:Type}(b nu:List α)(i off a k:Nat)(e:off+nu.length≤a)(f:i*a+a≤b.length)(g:k≠i):
  ((b.take (i*a+off)++(nu++b.drop (i*a+off+nu.length))).drop (k*a)).take a=(b.drop (k*a)).take a:=by
 apply L_;intro j;rw[J1,J_,gp _ _ _ _ (by omega),J1,J_];by_cases c:j<a
 ·rw[if_pos c,if_pos c];rcases Nat.lt_or_ge k i with d | h
  ·have:k*a+a≤i*a:=by rw[←JF];exact JR _ d
   rw[if_pos (by omega)]
  ·have:i*a+a≤k*a:=by rw[←JF];exact JR _ (by omega)
   rw[if_neg (by omega),if_neg (by omega)]
 ·rw[if_neg c,if_neg c]
theorem Ni.set{w w':aap}{e:List CT}{ts:List aar}{rows:List (List DC)}{a:List aaq}{o hv':Nat→Option aaq}{l:List (List Nat)}(h:Ni w e ts rows a o l)(s:w.heap.size≤w'.heap.size)(hl:a.length=rows.length*e.length)
  {i off:Nat} (n:i<rows.length) {nu:List aaq} (p:off+nu.length≤e.length) {r:List DC} {m:List Nat} (t:∀j,j≠i→∀c,l[j]? =some c→∀b∈c,w'.heap[b]? =w.heap[b]?)
  (u:∀j,j≠i→hv' j=o j) (v:D7 w' (hv' i) e ts r (((a.drop (i*e.length)).take e.length).take off++(nu++((a.drop (i*e.length)).take e.length).drop (off+nu.length))) m):
  Ni w' e ts (rows.set i r) (a.take (i*e.length+off)++(nu++a.drop (i*e.length+off+nu.length))) hv' (l.set i m):=by
 have q:i*e.length+e.length≤a.length:=by rw[hl,←JF];exact JR _ n
 refine⟨by simp[h.1],λk x c g d=>?_⟩;by_cases f:k=i
 ·subst f;rw[K2 n,Y] at g;rw[K2 (by rw[h.1];exact n),Y] at d;subst g d;rw[nto _ _ _ _ _ p q];exact v
 ·rw[LI (Ne.symm f)] at g d;rw[nyE _ _ _ _ _ _ p q f,u k f];exact D7.mono s _ _ _ _ _ (h.2 k x c g d) (t k f c d)
end
def L.f_(β:L)(id:Nat)(l:List Nat):L:=⟨β.cY,β.val,β.hX,L9 β.nb id l⟩
def L.gY(β:L)(id:Nat)(v:aaq)(l:List Nat):L:=⟨β.cY,L9 β.val id v,β.hX,L9 β.nb id l⟩
section
variable {P:aao} {Γ:Ctx} {w0:aap} {S:Own} {st:E} {o:Oper} {e:Nf} {a:Act} {w w':aap}
variable {f:Nat→X} {h:Nat→Option xC} {β:L} {φ:Nat→List Nat} {tm:Array aaq}
theorem V.En(m:V w0 S f h β φ tm w){id:Nat}{n:xC}{t:aar}{ct:List CT}{ts:List aar}{rows:List (List DC)}{hl:Option (Nat×Nat)}{o:List Nat}{G:Nat→Prop}{u:Nat→Option xC}
  (r:h id=some n) (U:∀k,G k→k≠id) (E:u id=some (.deep t ct ts rows hl)) (s:∀j,j≠id→∀x,u j=some x→h j=some x∧¬G j)
  (J:w.heap.size≤w'.heap.size) (F:∀b,b<w.heap.size→b ∉ (β.val id).ownBlock.toList→w'.heap[b]? =w.heap[b]?)
  (z:∀b∈(β.val id).ownBlock.toList,b∈ar β id n)
  (K:∀b∈o,b∈ar β id n∨∃k x,G k∧h k=some x∧b∈ar β k x)
  (Z:zC w' (oa u (β.f_ id o)) (β.f_ id o) id (.deep t ct ts rows hl) ((β.val id).ownBlock.toList++o)) (A:((β.val id).ownBlock.toList++o).Nodup):
  V w0 S f u (β.f_ id o) (L9 φ id ((β.val id).ownBlock.toList++o)) tm w':=by
 have M:∀j a,j≠id→ar (β.f_ id o) j a=ar β j a:=by intro j a d;cases a<;>simp[ar,L.f_,L9,d]
 have N:∀b∈(β.val id).ownBlock.toList++o,b∈ar β id n∨∃k x,G k∧h k=some x∧b∈ar β k x:=by
  intro b c;rcases JC.1 c with c | c
  ·exact .inl (z b c)
  ·exact K b c
 have v:∀b∈(β.val id).ownBlock.toList++o,((w0.heap.size≤b∨S b)∧b<w.heap.size)∧oa h β b∧∀j a,j≠id→h j=some a→¬G j→b ∉ φ j:=by
  intro b c;rcases N b c with g | ⟨k,x,O,q,g⟩
  ·have p:=al (m.aC id n r) b g;exact⟨(m.fresh id n r).2 b p,.inl ⟨id,n,r,g⟩,λj a d B _=>m.sep id j n a (Ne.symm d) r B b p⟩
  ·have p:=al (m.aC k x q) b g;exact⟨(m.fresh k x q).2 b p,.inl ⟨k,x,q,g⟩,λj a d B P=>m.sep k j x a (λe=>P (e ▸ O)) q B b p⟩
 refine m.AA (λ_=>False) J (λb c Q=>F b c (λq=>Q (.inl ⟨id,n,r,z b q⟩))) ?_ (λ_ _ _ h=>h) (λ_ _=>⟨rfl,rfl⟩) ?_ ?_
 ·rintro b (⟨j,a,d,bB⟩ | c)
  case inr=>exact .inl (.inr c)
  by_cases l:j=id
  ·subst l;rw[E,Y] at d;subst d;refine .inl (v b ?_).2.1;simpa [ar,L.f_,L9] using bB
  ·rw[M j a l] at bB;exact .inl (.inl ⟨j,a,(s j l a d).1,bB⟩)
 ·intro j a d;by_cases l:j=id
  ·subst l;rw[E,Y] at d;subst d;refine .inr ⟨by simpa [L9] using Z,by simpa [L9] using A,λb c=>?_⟩;have:=(v b (by simpa [L9] using c)).1;exact⟨this.1,by omega⟩
  ·have g:=(s j l a d).1;refine .inl ⟨λh=>h,g,by simp[L.f_,L9,l],by simp[L9,l],λ_ _ h=>h,λb c=>?_⟩;have H:=al (m.aC j a g) b c;exact F b ((m.fresh j a g).2 b H).2 (λq=>m.sep id j n a (Ne.symm l) r g b (al (m.aC id n r) b (z b q)) H)
 ·intro i j C a I R d b c;by_cases y:i=id
  ·subst y;have D:j≠i:=Ne.symm I;simp only[L9,if_true] at c;simp only[L9,D,if_false];obtain⟨g,p⟩:=s j D a d;exact (v b c).2.2 j a D g p
  ·simp only[L9,y,if_false] at c;obtain⟨g,p⟩:=s i y C R;by_cases l:j=id
   ·subst l;simp only[L9,if_true];exact λT=>(v b T).2.2 i C y g p c
   ·simp only[L9,l,if_false];exact m.sep i j C a I g (s j l a d).1 b c
theorem niZ(f:Rel w0 S st a w)(h:∀d,o.dst=some d→sP st.n d){c:Call}{x:aas}{t:aar}(i:o.op= .call c)(j:c.callee= .builtin .len)
  (k:c.args= #[x]) (l:c.argTypes= #[t]) {p:X} (m:(zQ x).val st.get st.obj=some p) (b:(btw P t p).val st.get st.obj=some e):R P w0 S st o e a w:=by
 unfold btw at b;split at b
 ·rename_i id;simp only[M.aY,UI] at b;obtain⟨F,z,b⟩:=b;split at b
  ·rename_i G H I r J;split at b
   ·rename_i K A;simp only[M.ab,Y] at b;subst b;refine zt f h rfl rfl λβ φ s=>?_;have u:=s.ev m;simp only[O] at u;obtain⟨v,L,B,_⟩:=s.aC id _ z;have key:∃q cap,β.val id= .slice q r.length cap∧r.length≤maxLen:=by
     rcases B.2 with ⟨hv',C,_⟩ | ⟨g,cap,D,hv',_,N,y,_⟩
     ·exact⟨none,0,by rw[hv',C],by omega⟩
     ·exact⟨_,cap,hv',by omega⟩
    obtain⟨q,cap,E,y⟩:=key;refine⟨.int .i64 r.length, ?_,by unfold O;exact⟨rfl,uV y⟩⟩;simp[execOp,i,resolve,j,k,l,invoke,builtin,u.1,E,Builtin.len_,run_underlying A,goInt]
   ·simp at b
  ·refine na0 f h i j k l m ?_;exact b
 ·exact na0 f h i j k l m b
theorem nuk(f:Rel w0 S st a w)(h:∀d,o.dst=some d→sP st.n d){t:aar}{x i:aas}(j:o.op= .indexAddr t x i){s u:X}
  (l:(zQ x).val st.get st.obj=some s) (m:(zQ i).val st.get st.obj=some u) (b:(my P t s u).val st.get st.obj=some e) (c:e.ok=true):R P w0 S st o e a w:=by
 unfold my at b;split at b
 ·rename_i id;simp only[M.aY,UI] at b;obtain⟨J,A,b⟩:=b;split at b
  ·rename_i K B L r N;split at b
   ·rename_i C k n D;cases p:Fe P C B.length
    ·simp[p] at b
    simp only[p,H,M.ab,Y] at b;subst b;simp only[Bl,js] at c;obtain⟨E,F,G⟩:=TL p;refine zt f h rfl rfl λβ φ q=>?_;have v:=q.ev l;have y:=q.ev m;simp only[O] at v y;obtain⟨z,T,Z,_⟩:=q.aC id _ A;rcases Z.2 with ⟨_,Q,_⟩ | ⟨g,cap,I,hv',_⟩
    ·omega
    ·refine⟨.pointer (some ⟨g,0+n.toNat*E.size,none⟩), ?_, ?_⟩
     ·simp[execOp,j,v.1,hv',y.1,Instr.indexAt,asIntOf,run_underlying D,c.1,c.2,sizeOf,typeInfo,F,ZB]
     ·simp only[O];exact⟨g,by rw[hv'];rfl,by rw[G];simp⟩
   ·simp at b
  ·exact niv f h j l m b c
 ·exact niv f h j l m b c
theorem ndu(q:V w0 S f h β φ tm w){id:Nat}{t:aar}{b:List CT}{d:List aar}{a:List (List DC)}{e:Option (Nat×Nat)}(r:h id=some (.deep t b d a e)){i:Nat}(k:i<a.length){g:Nat}(s:(β.val id).ownBlock=some g):
  ∃(c:List aaq) (m:List Nat),D7 w (Mz β e i) b d (a.getD i []) c m∧c.length=b.length∧∀j u,c[j]? =some u→w.cell? ⟨g,i*b.length+j,none⟩=some u:=by
 obtain⟨l,n,v,o,_,_⟩:=q.aC id _ r;have y:i<n.length:=by rw[o.1];exact k
 have p:=o.2 i (a.getD i []) n[i] (bl k) (by simp);exact⟨_,_,p,(D7.length _ _ _ _ _ p).1,λj u x=>v.cell s (nys x)⟩
theorem D7.get{l:Option aaq} :∀(a:List CT) (n:List aar) (r:List DC) (i:List aaq) (m:List Nat) (k:Nat) (c:CT),D7 w l a n r i m→a[k]? =some c→Sw [c]=true→
  ∃v,i[k]? =some v∧Z8 w c (r.getD k default) v []
 | [],_,_,_,_,_,_,_,hk,_=>by simp at hk
 | c0::a,_,_,_,_,k,c,h,hk,hf=>by
  rcases oh c0 with ⟨e,rfl⟩ | o
  ·simp only[D7] at h;obtain⟨t,y,j,p,v,q,z,A,rfl,rfl,rfl,_,_,s,rfl⟩:=h;cases k with
   | zero=>
    simp only[Kf,Y] at hk;subst hk;simp[Sw] at hf
   | succ k=>
    obtain⟨b,f,g⟩:=D7.get a _ _ _ _ k c s (by simpa using hk) hf;exact⟨b,by simpa using f,by simpa using g⟩
  ·rw[D7.flat o] at h;obtain⟨d,p,v,q,rfl,rfl,u,x⟩:=h;cases k with
   | zero=>
    simp only[Kf,Y] at hk;subst hk;exact⟨v,by simp,by simpa using u⟩
   | succ k=>
    obtain⟨b,f,g⟩:=D7.get a _ _ _ _ k c x (by simpa using hk) hf;exact⟨b,by simpa using f,by simpa using g⟩
theorem D7.b7{l:Option aaq}{av:Nat→Prop}{a:List CT}{f:List aar}{r:List DC}{c:List aaq}{m:List Nat}(h:D7 w l a f r c m):
  ∀(n k:Nat),k+n≤a.length→Sw ((a.drop k).take n)=true→∃b:List aaq,b.length=n∧(∀j v,b[j]? =some v→c[k+j]? =some v)∧Z w av β (C4 ((a.drop k).take n) r k) b∧∀x∈b,x.oneCell'=true
 | 0,k,_,_=>⟨[],rfl,by simp,by simp[C4,Z],by simp⟩
 | n+1,k,hk,hf=>by
  have o:k<a.length:=by omega
  have g:(a.drop k).take (n+1)=a[k]::(a.drop (k+1)).take n:=by rw[List.drop_eq_getElem_cons o,KJ]
  rw[g,Tu,Bl] at hf;obtain⟨v,p,i⟩:=D7.get a f r c m k a[k] h (by simp) hf.1;obtain⟨b,q,s,t,y⟩:=D7.b7 h n (k+1) (by omega) hf.2;refine⟨v::b,by simp[q], ?_, ?_, ?_⟩
  ·intro j u d;cases j with
   | zero=>simp at d;subst d;simpa using p
   | succ j=>have:=s j u (by simpa using d);rw[←this];congr 1;omega
  ·rw[g];simp only[C4,Z];exact⟨v,b,rfl,WH i (by simp),t⟩
  ·intro x e;rcases Jw.1 e with rfl | e
   ·exact i.one
   ·exact y x e
theorem nFb(ad8:Rel w0 S st a w)(I:∀d,o.dst=some d→sP st.n d){t:aar}{x:aas}(aeU:o.op= .load t x){id i z off:Nat}{Q:aar}{p:List CT}{K:List aar}{b:List (List DC)}{L:Option (Nat×Nat)}
  (agD:(zQ x).val st.get st.obj=some (.eS id i z off)) (T:st.obj id=some (.deep Q p K b L)) (f:(nE6 P t i z off p b).val st.get st.obj=some e) (N:e.ok=true):R P w0 S st o e a w:=by
 unfold nE6 at f;cases C:Jn z p.length
 ·simp[C] at f
 have U:=Vs C;simp only[C,Bool.not_true,J] at f;split at f
 ·simp at f
 rename_i td ag3;have l:∀β φ,V w0 S st.get st.obj β φ a.tmps w→i<b.length→∃g q m,a.eval x= .pointer (some ⟨g,i*p.length+off,none⟩)∧D7 w (Mz β L i) p K (b.getD i []) q m∧
   ∀j u,q[j]? =some u→w.cell? ⟨g,i*p.length+j,none⟩=some u:=by
  intro β φ r s;have afL:=r.ev agD;simp only[O] at afL;obtain⟨g,W,y⟩:=afL;obtain⟨q,m,X,_,aiu⟩:=ndu r T s W;exact⟨g,q,m,by rw[y,U],X,aiu⟩
 cases B:fC P t
 ·simp only[B,J] at f;split at f
  ·rename_i c Z;cases D:Sw [c]
   ·simp[D] at f
   simp only[D,H,M.ab,Y] at f;subst f;have s:i<b.length:=by simpa using N
   refine zt ad8 I rfl rfl λβ φ r=>?_;obtain⟨g,q,m,y,E,h⟩:=l β φ r s;obtain⟨v,e1,e2⟩:=D7.get _ _ _ _ _ _ _ E Z D;refine⟨v, ?_,WH e2 (by simp)⟩;simp[execOp,aeU,y,Xh B ag3 (h _ _ e1)]
  ·simp at f
 ·simp only[B,H] at f;split at f
  ·rename_i j hj;cases A:Kl (off+j.size) p.length && Sw ((p.drop off).take j.size)
   ·simp[A] at f
   simp only[A,H,M.ab,Y] at f;subst f;simp only[Bl] at A;have s:i<b.length:=by simpa using N
   have F:=JM A.1;refine zt ad8 I rfl rfl λβ φ r=>?_;obtain⟨g,q,m,y,E,h⟩:=l β φ r s;obtain⟨G,l1,l2,l3,l4⟩:=D7.b7 (β:=β) (av:=oa st.obj β) E j.size off F A.2;refine⟨.agg G.toArray, ?_, ?_⟩
   ·have:∀k v,G[k]? =some v→w.cell? ⟨g,(i*p.length+off)+k,none⟩=some v:=λk v hk=>by rw[Nat.add_assoc];exact h _ _ (l2 k v hk)
    simp[execOp,aeU,y,ZO B hj l1 this]
   ·simp only[O];exact⟨G,rfl,l3,l4⟩
  ·simp at f
theorem nhI{c:List (List Nat)}{i:Nat}(d:i<c.length):∀b∈(c.set i []).flatten,b∈c.flatten:=by intro b a;rw[dh d] at a;rw[AJ d];simp only[Kb,JC] at a ⊢;rcases a with a | a<;>simp[a]
theorem noy(hR:Rel w0 S st a w){d:Nat}(X:iC st d){β:L}{φ:Nat→List Nat}(z:V w0 S st.get st.obj β φ a.tmps w){id i off g:Nat}{N D:aar}{y I:List CT}{h:List (List DC)}
  (hg:(β.val id).ownBlock=some g) (A:st.obj id=some (.deep N y [D] h none)) (jW:y[off]? =some (.sl I)) (Dm:Qn y=1) (aiv:i<h.length):
  ∃(O:List aaq) (v:aaq) (f:L) (n:Nat→List Nat),O.length=y.length∧(∀j u,O[j]? =some u→w.cell? ⟨g,i*y.length+j,none⟩=some u)∧O[off]? =some v∧v.oneCell'=true∧D7 w (some v) y [D] (h.getD i []) O []∧f.val (Uc d 0)=v∧
   V w0 S st.get (L9 (L9 st.obj id (some (.deep N y [D] h (some (i,Uc d 0))))) (Uc d 0) (some (.row D I ((h.getD i []).getD off default).cG false true))) f n a.tmps w:=by
 have Z:Uc d 0 / 64=d:=jG d 0 (by omega);generalize aaa:Uc d 0=nid at*;have c8:id≠nid:=λe=>(X.obj id _ A).1 (e ▸ Z);obtain⟨J,p,bk,P,jC,lE⟩:=z.aC id _ A;have E:i<p.length:=by rw[P.1];exact aiv
 have ft:=P.2 i (h.getD i []) p[i] (bl aiv) (by simp);obtain⟨t1',v,F,KF,hv,JW,ff,lA,JO⟩:=D7.out y off I _ _ _ _ jW Dm ft;simp only[List.cons.injEq,and_true] at KF;subst KF;obtain⟨Bv,GN,HC,LD,Hz⟩:=lA;have LP:((h.getD i []).getD off default).cG=F:=by rw[List.getD_eq_getElem?_getD,JW];rfl
 rw[LP];have Q:=(z.fresh id _ A).1;rw[lE] at Q;have R:∀b∈v.ownBlock.toList,b∈p.flatten:=by intro b c;rw[AJ E,Hz];simp[c]
 have Ji:∀b∈(β.val id).ownBlock.toList++p.flatten,oa st.obj β b:=λb c=> .inl ⟨id,_,A,by simpa [ar,jC] using c⟩;have H:∀b∈(β.val id).ownBlock.toList++p.flatten,b∈φ id:=λb c=>by rw[lE];exact c
 have T:∀b∈(β.val id).ownBlock.toList++(p.set i []).flatten,b∈(β.val id).ownBlock.toList++p.flatten:=by
  intro b c;rcases JC.1 c with c | c
  ·exact Ss _ c
  ·exact wZ _ (nhI E b c)
 have D_:∀b∈v.ownBlock.toList,b ∉ (β.val id).ownBlock.toList++(p.set i []).flatten:=by
  intro b c t;rw[AJ E,JX] at Q;obtain⟨_,n2,n3⟩:=Q;rw[JX] at n2;obtain⟨_,n4,n5⟩:=n2;rw[JX] at n4;obtain⟨_,_,n6⟩:=n4;rw[←Hz] at c;rcases JC.1 t with t | t
  ·exact n3 b t b (by simp[c]) rfl
  ·rw[dh E] at t;simp only[Kb,JC] at t;rcases t with t | t
   ·exact n5 b t b (by simp[c]) rfl
   ·exact n6 b c b t rfl
 have FQ:((β.val id).ownBlock.toList++(p.set i []).flatten).Nodup:=by refine List.Sublist.nodup ?_ Q;refine (List.Sublist.refl _).append ?_;rw[dh E,AJ E];exact (List.Sublist.refl _).append ((List.nil_sublist _).append (List.Sublist.refl _))
 have G3:v.ownBlock.toList.Nodup:=by cases v.ownBlock<;>simp
 let f:L:=⟨β.cY,L9 β.val nid v,β.hX,L9 β.nb id (p.set i []).flatten⟩;have FZ:f.val id=β.val id:=by simp[f,L9,c8]
 have K:f.val nid=v:=by simp[f,L9]
 have JG:f.nb id=(p.set i []).flatten:=by simp[f,L9]
 let h':Nat→Option xC:=L9 (L9 st.obj id (some (.deep N y [D] h (some (i,nid))))) nid (some (.row D I F false true));let n:Nat→List Nat:=L9 (L9 φ id ((β.val id).ownBlock.toList++(p.set i []).flatten)) nid v.ownBlock.toList;have Cq:V w0 S st.get h' f n a.tmps w:=by
  have e1:h' nid=some (.row D I F false true):=by simp[h',L9]
  have e2:h' id=some (.deep N y [D] h (some (i,nid))):=by simp[h',L9,c8]
  have e3:∀j,j≠nid→j≠id→h' j=st.obj j:=λj afh M=>by simp[h',L9,afh,M]
  have U:n nid=v.ownBlock.toList:=by simp[n,L9]
  have ag4:n id=(β.val id).ownBlock.toList++(p.set i []).flatten:=by simp[n,L9,c8]
  have p3:∀j,j≠nid→j≠id→n j=φ j:=λj afh M=>by simp[n,L9,afh,M]
  have iY:∀j o,j≠nid→j≠id→ar f j o=ar β j o:=by intro j o afh M;cases o<;>simp[ar,f,L9,afh,M]
  have KY:∀b,oa h' f b→oa st.obj β b:=by
   rintro b (⟨j,o,l,bB⟩ | c)
   case inr=>exact .inr c
   by_cases q:j=nid
   ·subst q;rw[e1,Y] at l;subst l;exact Ji b (wZ _ (R b (by simpa [ar,K] using bB)))
   ·by_cases s:j=id
    ·subst s;rw[e2,Y] at l;subst l;exact Ji b (T b (by simpa only[ar,FZ,JG] using bB))
    ·rw[e3 j q s] at l;rw[iY j o q s] at bB;exact .inl ⟨j,o,l,bB⟩
  have bP:=(z.fresh id _ A).2;refine z.AA (λj=>j=nid) (Kp _) (λ_ _ _=>rfl) (λb c=> .inl (KY b c)) (λk j l e=>X.slot k j l (e ▸ Z)) (λj l=>⟨by simp[f,L9,l],rfl⟩) ?_ ?_
  ·intro j o l;by_cases q:j=nid
   ·subst q;rw[e1,Y] at l;subst l;refine .inr ⟨?_,by rw[U];exact G3,λb c=>?_⟩
    ·refine⟨Bv,GN,by rw[K];exact HC,LD, ?_, ?_⟩
     ·rw[LD.El ff];simp
     ·rw[U,K,LD.El ff];simp
    ·rw[U] at c;exact bP b (H b (wZ _ (R b c)))
   ·by_cases s:j=id
    ·subst s;rw[e2,Y] at l;subst l;refine .inr ⟨?_,by rw[ag4];exact FQ,λb c=>?_⟩
     ·refine⟨J,p.set i [],by rw[FZ];exact bk,⟨by simp[P.1],λk r m G W=>?_⟩,JG,by rw[ag4,FZ]⟩;by_cases Bc:k=i
      ·subst Bc;rw[K2 E,Y] at W;subst W;have FT:r=h.getD k []:=by rw[bl (d:=[]) aiv,Y] at G;exact G.symm
       subst FT;simp only[Mz,if_true];rw[K];exact JO
      ·rw[LI (Ne.symm Bc)] at W;simp only[Mz,Bc,if_false];exact P.2 k r m G W
     ·rw[ag4] at c;exact bP b (H b (T b c))
    ·rw[e3 j q s] at l;refine .inl ⟨q,l,by simp[f,L9,s],p3 j q s,λk G e=>(X.obj j o l).2 k G (e ▸ Z),λ_ _=>rfl⟩
  ·have x:∀j o,h' j=some o→∀b∈n j,(j=nid∧b∈v.ownBlock.toList)∨(j=id∧b∈(β.val id).ownBlock.toList++(p.set i []).flatten)∨(j≠nid∧j≠id∧st.obj j=some o∧b∈φ j):=by
    intro j o l b c;by_cases q:j=nid
    ·subst q;rw[U] at c;exact .inl ⟨rfl,c⟩
    ·by_cases s:j=id
     ·subst s;rw[ag4] at c;exact .inr (.inl ⟨rfl,c⟩)
     ·rw[p3 j q s] at c;rw[e3 j q s] at l;exact .inr (.inr ⟨q,s,l,c⟩)
   intro j k o ok Li l G b c aB;rcases x j o l b c with ⟨rfl,B⟩ | ⟨rfl,B⟩ | ⟨x0,MF,B,x2⟩<;>rcases x k ok G b aB with ⟨rfl,C⟩ | ⟨rfl,C⟩ | ⟨y0,MG,C,y2⟩
   ·exact Li rfl
   ·exact D_ b B C
   ·exact z.sep id k _ ok (Ne.symm MG) A C b (H b (wZ _ (R b B))) y2
   ·exact D_ b C B
   ·exact Li rfl
   ·exact z.sep _ k _ ok (Ne.symm MG) A C b (H b (T b B)) y2
   ·exact z.sep id j _ o (Ne.symm MF) A B b (H b (wZ _ (R b C))) x2
   ·exact z.sep _ j _ o (Ne.symm MF) A B b (H b (T b C)) x2
   ·exact z.sep j k o ok Li B C b x2 y2
 exact⟨_,v,f,n,(D7.length _ _ _ _ _ ft).1,λj u l=>bk.cell hg (nys l),hv,HC.one,JO,K,Cq⟩
theorem no_(h:Rel w0 S st a w){d:Nat}(y:o.dst=some d)(z:sP st.n d)(A:iC st d){t:aar}{x:aas}(B:o.op= .load t x){id i off:Nat}{r l:aar}{f s:List CT}{c:List (List DC)}{C:TypeDesc}
  (D:(zQ x).val st.get st.obj=some (.eS id i f.length off)) (E:st.obj id=some (.deep r f [l] c none)) (F:f[off]? =some (.sl s)) (G:Qn f=1) (H:fC P t=false) (I:P.underlying t=some C) (J:i<c.length)
  (K:e.sv= .own (Uc d 0)) (L:e.cw=none) (m:e.ow=[(Uc d 0,some (.row l s ((c.getD i []).getD off default).cG false true)),(id,some (.deep r f [l] c (some (i,Uc d 0))))]):R P w0 S st o e a w:=by
 obtain⟨β,φ,u⟩:=h.core;have j:=u.ev D;simp only[O] at j;obtain⟨g,M,j⟩:=j;obtain⟨T,v,p,q,_,b,N,Z,_,Q,Y⟩:=noy h A u M E F G J;have b:=b _ _ N;refine HI h (λU k=>by rw[y] at k;injection k with k;exact k ▸ z) (v:=v) (w':=w) ?_ h.kept ⟨p,q, ?_, ?_⟩
 ·simp[execOp,B,j,Xh H I b]
 ·rw[m,L];exact Y
 ·rw[K];unfold O;exact⟨Q.symm,Z⟩
theorem D7.outs{w:aap}{av:Nat→Prop}{β:L}{s:aaq}{g:Nat}(k:β.val g=s):
  ∀(i:List CT) (A:List aar) (r:List DC) (l:List aaq) (m:List Nat) (pre:List DC),D7 w (some s) i A r l m→
  Z w av β (UB g i (pre++r) pre.length) l∧∀x∈l,x.oneCell'=true
 | [],_,_,_,_,_,h=>by simp only[D7] at h;obtain⟨_,_,rfl,_⟩:=h;simp[UB,Z]
 | c::i,_,_,_,_,pre,h=>by
  rcases oh c with ⟨e,rfl⟩ | u
  ·simp only[D7] at h;obtain⟨t,F,a,n,v,j,G,H,rfl,rfl,rfl,_,B,C,rfl⟩:=h;obtain⟨rfl,y,_⟩:=B;obtain⟨b,o⟩:=D7.outs k i _ _ _ _ (pre++[.sl a]) C;have p:(pre++[DC.sl a]).length=pre.length+1:=by simp
   rw[p,Kr] at b;refine⟨?_, ?_⟩
   ·simp only[UB,Z];exact⟨v,j,rfl,by simp only[O];exact⟨k.symm,y⟩,b⟩
   ·intro x f;rcases Jw.1 f with rfl | f
    ·exact y
    ·exact o x f
  ·rw[D7.flat u] at h;obtain⟨d,n,v,j,rfl,rfl,z,D⟩:=h;obtain⟨b,o⟩:=D7.outs k i _ _ _ _ (pre++[d]) D;have p:(pre++[d]).length=pre.length+1:=by simp
   rw[p,Kr] at b;have E:(pre++d::n).getD pre.length default=d:=by simp
   have q:O w av β (yz c ((pre++d::n).getD pre.length default)) v:=by rw[E];exact WH z (by simp)
   refine⟨?_, ?_⟩
   ·cases c with
    | sl e=>simp[Sw] at u
    | int x=>simp only[UB,Z];exact⟨v,j,rfl,q,b⟩
    | bool=>simp only[UB,Z];exact⟨v,j,rfl,q,b⟩
    | str=>simp only[UB,Z];exact⟨v,j,rfl,q,b⟩
   ·intro x f;rcases Jw.1 f with rfl | f
    ·exact z.one
    ·exact o x f
theorem E3(a:Nat):∀(d:List CT) (b:List DC) (k n m:Nat),((UB a d b k).drop n).take m=UB a ((d.drop n).take m) b (k+n)
 | [],b,k,n,m=>by simp[UB]
 | c::d,b,k,0,0=>by simp[UB]
 | c::d,b,k,0,m+1=>by have:=E3 a d b (k+1) 0 m;simp only[LJ,Kg] at this ⊢;cases c<;>simp only[UB,KJ,this]
 | c::d,b,k,n+1,m=>by
  have:=E3 a d b (k+1) n m;have e:k+(n+1)=k+1+n:=by omega
  rw[e];cases c<;>simp only[UB,LH,this]
theorem Z.part{w:aap}{b:Nat→Prop}{β:L} :∀(U:List X) (a:List aaq) (n m:Nat),Z w b β U a→Z w b β ((U.drop n).take m) ((a.drop n).take m)
 | [],a,n,m,h=>by simp only[Z] at h;subst h;simp[Z]
 | s::U,a,n,m,h=>by
  have f:=h;simp only[Z] at h;obtain⟨v,c,rfl,e,d⟩:=h;cases n with
  | zero=>
   cases m with
   | zero=>simp[Z]
   | succ m=>
    have:=Z.part U c 0 m d;simp only[LJ,KJ,Z] at this ⊢;exact⟨v,_,rfl,e,this⟩
  | succ n=>simpa only[LH] using Z.part U c n m d
theorem nrt(r:Rel w0 S st a w){d:Nat}(G:o.dst=some d)(H:sP st.n d)(I:iC st d){t:aar}{x:aas}(J:o.op= .load t x){id i off:Nat}{A h:aar}{c B:List CT}{b:List (List DC)}{j:TypeInfo}
  (K:(zQ x).val st.get st.obj=some (.eS id i c.length off)) (L:st.obj id=some (.deep A c [h] b none)) (M:c[qc c]? =some (.sl B)) (N:Qn c=1) (afM:fC P t=true) (Q:P.info? t=some j) (agE:off+j.size≤c.length) (T:i<b.length)
  (U:e.sv= .agg (UB (Uc d 0) ((c.drop off).take j.size) (b.getD i []) off)) (E:e.cw=none) (m:e.ow=[(Uc d 0,some (.row h B ((b.getD i []).getD (qc c) default).cG false true)),(id,some (.deep A c [h] b (some (i,Uc d 0))))]):R P w0 S st o e a w:=by
 obtain⟨β,φ,F⟩:=r.core;have l:=F.ev K;simp only[O] at l;obtain⟨g,V,l⟩:=l;obtain⟨s,v,p,C,Dy,f,_,_,W,X,Y⟩:=noy r I F V L M N T;obtain⟨aiY,q2⟩:=D7.outs (w:=w) (av:=oa (L9 (L9 st.obj id (some (.deep A c [h] b (some (i,Uc d 0))))) (Uc d 0) (some (.row h B ((b.getD i []).getD (qc c) default).cG false true))) p) X c [h] (b.getD i []) s [] [] W;have D:=Z.part _ _ off j.size aiY;simp only[Kb,JV] at D;rw[E3,JI] at D;have q:((s.drop off).take j.size).length=j.size:=by rw[Kd,Kh];omega
 refine HI r (λd' y=>by rw[G] at y;injection y with y;exact y ▸ H) (v:= .agg ((s.drop off).take j.size).toArray) (w':=w) ?_ r.kept ⟨p,C, ?_, ?_⟩
 ·have:∀k u,((s.drop off).take j.size)[k]? =some u→w.cell? ⟨g,(i*c.length+off)+k,none⟩=some u:=λk u z=>by
   rw[Nat.add_assoc];refine f _ _ ?_;rw[J1] at z;split at z
   ·simpa using z
   ·cases z
  simp[execOp,J,l,ZO afM Q q this]
 ·rw[m,E];exact Y
 ·rw[U];simp only[O];refine⟨_,rfl, ?_,λx l=>q2 x (List.mem_of_mem_drop (List.mem_of_mem_take l))⟩;rw[m,E];exact D
end
section
variable {P:aao} {Γ:Ctx} {w0:aap} {S:Own} {st:E} {o:Oper} {e:Nf} {a:Act} {w w':aap}
variable {f:Nat→X} {h:Nat→Option xC} {β:L} {φ:Nat→List Nat} {tm:Array aaq}
theorem D7.Hh{a:Option aaq}{pre part suf:List CT}{c:List aar}{r d:List DC}{b nu:List aaq}{m:List Nat}(h:D7 w a (pre++(part++suf)) c r b m)(g:Sw part=true)(e:D7 w a part [] d nu []):
  D7 w a (pre++(part++suf)) c (Sk r pre.length d) (b.take pre.length++(nu++b.drop (pre.length+nu.length))) m:=by
 obtain⟨q,s,t,u,rfl,rfl,i,j⟩:=D7.split _ _ _ _ _ _ h;obtain⟨k,l,v,x,rfl,rfl,n,f⟩:=D7.split _ _ _ _ _ _ j;obtain⟨rfl,rfl,_⟩:=D7.toFlat _ _ _ _ _ g n;obtain⟨o,p⟩:=D7.length _ _ _ _ _ e;rw[K8,K8] at f;have:=D7.join _ _ _ _ _ _ _ _ _ _ i (D7.join _ _ _ _ _ _ _ _ _ _ e f);simpa only[Sk,o,p] using this
theorem D7.Hg{k:Option aaq}{pre part suf:List CT}{l c:List aar}{r d:List DC}{a nu:List aaq}{m e:List Nat}(h:D7 w k (pre++(part++suf)) l r a m)(n:Qn part=Qn (pre++(part++suf)))(f:D7 w none part c d nu e):
  D7 w none (pre++(part++suf)) c (Sk r pre.length d) (a.take pre.length++(nu++a.drop (pre.length+nu.length))) e:=by
 rw[Ed,Ed] at n;have g:Sw pre=true:=CO (by omega);have i:Sw suf=true:=CO (by omega);obtain⟨u,v,x,y,rfl,rfl,j,o⟩:=D7.split _ _ _ _ _ _ h;obtain⟨p,q,z,A,rfl,rfl,B,b⟩:=D7.split _ _ _ _ _ _ o;obtain⟨rfl,rfl,_⟩:=D7.toFlat _ _ _ _ _ g j;obtain⟨rfl,rfl,_⟩:=D7.toFlat _ _ _ _ _ i b;obtain⟨s,t⟩:=D7.length _ _ _ _ _ f;rw[K8,K8] at b;have:=D7.join _ _ _ _ _ _ _ _ _ _ (D7.B1 (hv':=none) g j) (D7.join _ _ _ _ _ _ _ _ _ _ f (D7.B1 (hv':=none) i b));simpa only[Sk,s,t,Kb,LK] using this
theorem w_.cells:∀(a:List CT) (l:List aar) (m:List DC) (n:List aaq) (o:List Nat),w_ w a l m n o→D7 w none a l m n o
 | [],_,_,_,_,h=>by simpa only[w_,D7] using h
 | .sl e::a,_,_,_,_,h=>by simp only[w_] at h;obtain⟨t,p,g,b,v,c,i,q,r,rfl,rfl,rfl,f,s,u,x,rfl⟩:=h;simp only[D7];exact⟨t,p,g,b,v,c,_,r,rfl,rfl,rfl,f,⟨i,q,s,u,rfl⟩,w_.cells a _ _ _ _ x,rfl⟩
 | .int k::a,_,_,_,_,h=>by simp only[w_] at h;obtain⟨d,b,v,c,rfl,rfl,j,f⟩:=h;simp only[D7];exact⟨d,b,v,c,rfl,rfl,j,w_.cells a _ _ _ _ f⟩
 | .bool::a,_,_,_,_,h=>by simp only[w_] at h;obtain⟨d,b,v,c,rfl,rfl,j,f⟩:=h;simp only[D7];exact⟨d,b,v,c,rfl,rfl,j,w_.cells a _ _ _ _ f⟩
 | .str::a,_,_,_,_,h=>by simp only[w_] at h;obtain⟨d,b,v,c,rfl,rfl,j,f⟩:=h;simp only[D7];exact⟨d,b,v,c,rfl,rfl,j,w_.cells a _ _ _ _ f⟩
theorem three(a:List CT)(off n:Nat):a.take off++((a.drop off).take n++a.drop (off+n))=a:=by rw[←K8,Lv,Lv]
theorem ngX{t e:aar}{x y:aas}(m:o.op= .store t x y){g i off:Nat}{c:List CT}{n cap:Nat}{d:Array aaq}(p:a.eval x= .pointer (some ⟨g,i*c.length+off,none⟩)){f:TypeInfo}(q:P.info? t=some f)(r:f.size=(a.eval y).cells.size)
  (s:∀v∈(a.eval y).cells.toList,v.oneCell'=true) (u:w.heap[g]? =some (.cells d e (0,0))) (z:i<n) (A:n≤cap) (B:d.size=cap*c.length) (C:off+(a.eval y).cells.toList.length≤c.length):
  (execOp a.eval o).run P w= .ok .skip (w.setRow g (d.toList.take (i*c.length+off)++((a.eval y).cells.toList++d.toList.drop (i*c.length+off+(a.eval y).cells.toList.length))).toArray):=by
 have k:i*c.length+c.length≤n*c.length:=by rw[←JF];exact JR _ z
 have D:n*c.length≤cap*c.length:=JR _ A;have l:=P1 P g (i*c.length+off) e (0,0) (a.eval y).cells.toList 0 d w u (λj _ h=>by simp at h) (by omega) s;simp only[Kg] at l;have:=qq (P:=P) (t:=t) (b:=g) (off:=i*c.length+off) (x:=a.eval y) q r l;simp[execOp,m,p,this]
theorem pz.written{t:aar}{b i off n:Nat}{v:aaq}{c nu:List aaq}(f:pz w t b false v n c){g:Nat}(l:v.ownBlock=some g)(m:i<n)(z:off+nu.length≤b){cap:Nat}{a:Array aaq}(h:w.heap[g]? =some (.cells a t (0,0)))(A:a.size=cap*b)(o:n≤cap):
  pz (w.setRow g (a.toList.take (i*b+off)++(nu++a.toList.drop (i*b+off+nu.length))).toArray) t b false v n (c.take (i*b+off)++(nu++c.drop (i*b+off+nu.length))):=by
 have j:i*b+b≤n*b:=by rw[←JF];exact JR _ m
 have B:n*b≤cap*b:=JR _ o;have p:(a.toList.take (i*b+off)++(nu++a.toList.drop (i*b+off+nu.length))).length=a.size:=by simp only[fK,Kd,Kh,KB];omega
 rcases f.2 with ⟨d,C,_⟩ | ⟨k,q,D,d,e,r,s,u,x⟩
 ·omega
 have y:k=g:=by simpa [d,JB] using l
 subst y;rw[h] at e;simp only[J,Y,Obj.cells.injEq] at e;obtain⟨rfl,_⟩:=e;refine⟨?_,.inr ⟨k,q,(a.toList.take (i*b+off)++(nu++a.toList.drop (i*b+off+nu.length))).toArray,d, ?_,r,s,by simpa [p] using u, ?_⟩⟩
 ·have:=f.1;simp only[fK,Kd,Kh];omega
 ·rw[setRow_heap w _ _ _ _ _ h];simp
 ·simp only;rw[yT _ _ _ _ (by omega) (by simp only[KB];omega),x]
theorem neD(H:Rel w0 S st a w)(hd:∀d,o.dst=some d→sP st.n d){t u:aar}{x y:aas}(ho:o.op= .store t x y){id i off:Nat}{agF:X}{m:List X}{f:List CT}{v:List aar}{c:List (List DC)}{q:Option (Nat×Nat)}{r:List DC×yF×Bool}
  (h1:(zQ x).val st.get st.obj=some (.eS id i f.length off)) (h2:(zQ y).val st.get st.obj=some agF) (gg:(E9 agF).val st.get st.obj=some m) (dT:Fe P t m.length=true)
  (A:st.obj id=some (.deep u f v c q)) (E:off+m.length≤f.length) (I:Sw ((f.drop off).take m.length)=true) (T:(cQ ((f.drop off).take m.length) m).val st.get st.obj=some r)
  (B:i<c.length) (kB:e.cw=none) (CB:e.sv= .undef) (aeV:e.ow=[(id,some (.deep u f v (c.set i (Sk (c.getD i []) off r.1)) q))]):R P w0 S st o e a w:=by
 obtain⟨ti,G1,bJ⟩:=TL dT;obtain⟨β,φ,p⟩:=H.core;have F:=p.ev h1;simp only[O] at F;obtain⟨g,G,F⟩:=F;obtain⟨U,bo⟩:=ZW (p.ev h2) gg;have kD:=Z.length _ _ U;have ag5:(a.eval y).cells.size=m.length:=by simpa using kD
 obtain⟨fp,W,_,_,_⟩:=Ok p _ _ _ r U T;obtain⟨ah0,h,K,L,jC,Y⟩:=p.aC id _ A;have aiZ:g∈ar β id (.deep u f v c q):=by simp[ar,G]
 rcases K.2 with ⟨hv,h0,_⟩ | ⟨s,cap,C,hv,M,BN,EU,Af,FY⟩
 ·omega
 have Ic:s=g:=by simpa [hv,JB] using G
 subst Ic;simp only[J] at M;have N:(a.eval y).cells.toList.length=m.length:=by simpa using ag5
 have bH:=ngX (P:=P) ho F G1 (bJ.trans ag5.symm) bo M B BN Af (by rw[N];exact E);have I0:=K.written (off:=off) (nu:=(a.eval y).cells.toList) G B (by rw[N];exact E) M Af BN;generalize (a.eval y).cells.toList=nu at*;rw[←N] at E I W T;have kh:i<h.length:=by rw[L.1];exact B
 have ft:=L.2 i (c.getD i []) h[i] (bl B) (by simp);have Hy:(f.take off).length=off:=by simp;omega
 have Jz:((f.drop off).take nu.length).length=nu.length:=by simp;omega
 have bN:=D7.Hh (pre:=f.take off) (part:=(f.drop off).take nu.length) (suf:=f.drop (off+nu.length)) (by rw[three];exact ft) I (D7.DH _ _ _ _ I W Jz.symm);rw[three,Hy] at bN;have afN:=p.fresh id _ A;have l:=afN.1;rw[Y] at l;have KD:∀b∈h.flatten,b≠s:=by intro b k e;subst e;rw[JX] at l;exact l.2.2 b (by simp[G]) b k rfl
 have lz:∀j z,h[j]? =some z→∀b∈z,b∈h.flatten:=λj z D b k=>LF.2 ⟨z,KV D,k⟩;have Q:h.set i h[i]=h:=List.set_getElem_self ..;have Ah:=L.set (w':=w.setRow s (C.toList.take (i*f.length+off)++(nu++C.toList.drop (i*f.length+off+nu.length))).toArray) (hv':=Mz β q) (by simp) K.1 B E
  (λj _ z D b k=>setRow_other w s b _ (KD b (lz j z D b k))) (λ_ _=>rfl)
  (D7.mono (by simp) _ _ _ _ _ bN (λb k=>setRow_other w s b _ (KD b (lz i h[i] (by simp) b k))))
 rw[Q] at Ah;have Be:∀b∈ar β id (.deep u f v (c.set i (Sk (c.getD i []) off r.1)) q),b∈ar β id (.deep u f v c q):=λb k=>k;refine Au H hd bH (H.kept.setRow (afN.2 s (al (p.aC id _ A) s aiZ)).1 _) ⟨β,L9 φ id ((β.val id).ownBlock.toList++h.flatten), ?_,by rw[CB];simp[O]⟩;rw[aeV,kB];show V w0 S st.get (L9 st.obj id (some (.deep u f v (c.set i (Sk (c.getD i []) off r.1)) q))) _ _ _ _;refine p.rewrite A aiZ Be ?_ l ?_
 ·exact⟨_,h,by simpa using I0,Ah,jC,rfl⟩
 ·intro b k;have aB:b∈φ id:=by rw[Y];exact k
  exact⟨afN.2 b aB,λj oj D jV=>p.sep id j _ _ (Ne.symm D) A jV b aB⟩
theorem vc:∀(U:List HV) (h:Nat→Option xC) (j:Nat),ji (yQ U) h j=if j∈gk U then none else h j
 | [],h,j=>by simp[yQ,gk,ji]
 | x::l,h,j=>by
  have b:=vc l h j;cases x<;>simp only[yQ,gk,ji,L9]<;>first | exact b | (by_cases a:j=_<;>simp[a,b]<;>done) | skip
  all_goals
   simp only[Jw,b];split<;>rename_i a
   ·simp[a]
   ·simp[a]
theorem nsc(N:Rel w0 S st a w)(hd:∀d,o.dst=some d→sP st.n d){t K:aar}{x y:aas}(ho:o.op= .store t x y){id i off:Nat}{W:X}{s:List X}{ct:List CT}{ts:List aar}{rows:List (List DC)}{hl:Option (Nat×Nat)}{r:List DC×List HV}
  (h1:(zQ x).val st.get st.obj=some (.eS id i ct.length off)) (h2:(zQ y).val st.get st.obj=some W) (gg:(E9 W).val st.get st.obj=some s) (dT:Fe P t s.length=true)
  (E:st.obj id=some (.deep K ct ts rows hl)) (afi:off+s.length≤ct.length) (ah1:Qn ((ct.drop off).take s.length)=Qn ct) (Y:(Gr ((ct.drop off).take s.length) ts s).val st.get st.obj=some r)
  (J0:XG (id::gk r.2)=true) (F:i<rows.length) (Js:cf hl i=true) (kB:e.cw=none) (CB:e.sv= .undef) (afO:e.ow=(id,some (.deep K ct ts (rows.set i (Sk (rows.getD i []) off r.1)) none))::yQ r.2):R P w0 S st o e a w:=by
 obtain⟨ti,G1,bJ⟩:=TL dT;obtain⟨β,φ,h⟩:=N.core;have l:=h.ev h1;simp only[O] at l;obtain⟨g,H,l⟩:=l;obtain⟨ai0,bo⟩:=ZW (h.ev h2) gg;have kD:=Z.length _ _ ai0;have AO:(a.eval y).cells.size=s.length:=by simpa using kD
 obtain⟨lZ,C_⟩:=UU h _ _ _ _ r ai0 Y;have JH:=w_.cells _ _ _ _ _ lZ;obtain⟨AR,LS⟩:=qN J0;have AF:=SJ h C_ LS;have KA:∀b∈r.2.flatMap (nM β),∃k∈gk r.2,∃u,st.obj k=some u∧b∈ar β k u:=bg C_;obtain⟨vals,f,Q,agG,jC,lE⟩:=h.aC id _ E;have lY:g∈ar β id (.deep K ct ts rows hl):=by simp[ar,H]
 rcases Q.2 with ⟨hv,h0,_⟩ | ⟨m,cap,I,hv,T,BN,EU,Af,FY⟩
 ·omega
 have Ic:m=g:=by simpa [hv,JB] using H
 subst Ic;simp only[J] at T;have U:(a.eval y).cells.toList.length=s.length:=by simpa using AO
 have bH:=ngX (P:=P) ho l G1 (bJ.trans AO.symm) bo T F BN Af (by rw[U];exact afi);have I0:=Q.written (off:=off) (nu:=(a.eval y).cells.toList) H F (by rw[U];exact afi) T Af BN;generalize (a.eval y).cells.toList=nu at*;rw[←U] at afi ah1 JH Y;have C:i<f.length:=by rw[agG.1];exact F
 have ft:=agG.2 i (rows.getD i []) f[i] (bl F) (by simp);have Hy:(ct.take off).length=off:=by simp;omega
 have bN:=D7.Hg (pre:=ct.take off) (part:=(ct.drop off).take nu.length) (suf:=ct.drop (off+nu.length)) (by rw[three];exact ft) (by rw[three];exact ah1) JH;rw[three,Hy] at bN;have bP:=h.fresh id _ E;have p:=bP.1;rw[lE] at p;have Dq:m∈φ id:=al (h.aC id _ E) m lY;have KD:∀b∈f.flatten,b≠m:=by intro b c e;subst e;rw[JX] at p;exact p.2.2 b (by simp[H]) b c rfl
 have GX:∀b∈r.2.flatMap (nM β),b ∉ φ id:=by intro b c aeW;obtain⟨k,v,u,Jy,Ba⟩:=KA b c;exact h.sep k id u _ (λe=>AR (e ▸ v)) Jy E b (al (h.aC k u Jy) b Ba) aeW
 have Lx:∀b∈r.2.flatMap (nM β),b≠m:=λb c e=>GX b c (e ▸ Dq);have lz:∀j D,f[j]? =some D→∀b∈D,b∈f.flatten:=λj D z b c=>LF.2 ⟨D,KV z,c⟩;have Ld:∀j,j≠i→(none:Option aaq)=Mz β hl j:=by
  intro j z;cases hl with
  | none=>rfl
  | some q=>
   obtain⟨k,nid⟩:=q;have:=Vs Js;subst this;simp[Mz,z]
 have Ah:=agG.set (w':=w.setRow m (I.toList.take (i*ct.length+off)++(nu++I.toList.drop (i*ct.length+off+nu.length))).toArray) (hv':=λ_=>none) (by simp) Q.1 F afi
  (λj _ D z b c=>setRow_other w m b _ (KD b (lz j D z b c))) Ld
  (D7.mono (by simp) _ _ _ _ _ bN (λb c=>setRow_other w m b _ (Lx b c)))
 have FQ:((β.val id).ownBlock.toList++(f.set i (r.2.flatMap (nM β))).flatten).Nodup:=by
  rw[dh C];have M:=p;rw[AJ C] at M;have V:=Fk (A:=(β.val id).ownBlock.toList++(f.take i).flatten) (p1:=[]) (p2:=f[i]) (p3:=[]) (B:=(f.drop (i+1)).flatten) (n:=r.2.flatMap (nM β)) (by simpa using M) AF
   (λb c aeW=>GX b c (by rw[lE,AJ C];simpa using aeW))
  simpa using V
 refine Au N hd bH (N.kept.setRow (bP.2 m Dq).1 _) ⟨β.f_ id (f.set i (r.2.flatMap (nM β))).flatten,L9 φ id ((β.val id).ownBlock.toList++(f.set i (r.2.flatMap (nM β))).flatten), ?_,by rw[CB];simp[O]⟩;rw[afO,kB];refine h.En (t:=K) (ct:=ct) (ts:=ts) (rows:=rows.set i (Sk (rows.getD i []) off r.1)) (hl:=none) (G:=λk=>k∈gk r.2) E (λk v e=>AR (e ▸ v)) (by simp[ji,L9,ey]) (λj z x l=>?_) (by simp) (λb c aeW=>setRow_other w m b _ (λe=>aeW (by rw[e,H];simp))) (λb c=>by simp only[ar];exact Ss _ c) (λb c=>?_) ?_ FQ
 ·simp only[ji,L9,z,if_false,ey] at l;rw[vc] at l;split at l
  ·cases l
  ·rename_i v;exact⟨l,v⟩
 ·rw[dh C] at c;simp only[JC] at c;rcases c with c | c | c
  ·left;simp only[ar,jC];rw[AJ C];simp[c]
  ·right;obtain⟨k,v,u,M,V⟩:=KA b c;exact⟨k,u,v,M,V⟩
  ·left;simp only[ar,jC];rw[AJ C];simp[c]
 ·exact⟨_,_,by simpa [L.f_] using I0,Ah,by simp[L.f_,L9],by simp[L.f_]⟩
theorem nbE(m:Rel w0 S st a w){d:Nat}(E:o.dst=some d)(F:sP st.n d)(p:iC st d){t:aar}{q:List CT}{z:List aar}{c:List (List DC)}{w':aap}{v:aaq}
  (G:(execOp a.eval o).run P w= .ok (.value v) w') (H:Kept S w0 w') (I:w.heap.size≤w'.heap.size) (J:∀b,b<w.heap.size→w'.heap[b]? =w.heap[b]?)
  (A:∀b∈v.ownBlock.toList,b=w.heap.size) {vals:List aaq} (r:pz w' t q.length false v c.length vals)
  (K:Ni w' q z c vals (λ_=>none) (JA c.length []))
  (Z:e.sv= .own (Uc d 0)) (M:e.cw=none) (s:e.ow=[(Uc d 0,some (.deep t q z c none))]):R P w0 S st o e a w:=by
 obtain⟨β,φ,B⟩:=m.core;have u:Uc d 0 / 64=d:=jG d 0 (by omega);have x:=m.kept.size;have C:(JA c.length ([]:List Nat)).flatten=[]:=by simp
 have f:(β.gY (Uc d 0) v []).val (Uc d 0)=v:=by simp[L.gY,L9]
 have D:(β.gY (Uc d 0) v []).nb (Uc d 0)=[]:=by simp[L.gY,L9]
 have N:v.ownBlock.toList.Nodup:=by cases v.ownBlock<;>simp
 refine HI m (λT l=>by rw[E] at l;injection l with l;exact l ▸ F) G H
  ⟨β.gY (Uc d 0) v [],L9 φ (Uc d 0) v.ownBlock.toList, ?_, ?_⟩
 ·rw[s,M];refine B.create I J (λi y=>p.slot i _ y u) (λj h g y=>(p.obj j h g).2 _ y u) ?_ (λj g=>⟨by simp[L.gY,L9,g],rfl⟩) ?_ ?_ N ?_ rfl (λj g=>by simp[L.gY,L9,g])
  ·cases Y:st.obj (Uc d 0) with
   | none=>rfl
   | some h=>exact absurd u (p.obj _ h Y).1
  ·intro b k;simp only[ar,f,D,LK] at k;rw[A b k];exact Kp _
  ·exact⟨vals,JA c.length [],by rw[f];exact r,K,by rw[D,C],by rw[f,C,LK]⟩
  ·intro b k;have Q:=A b k;subst Q;refine⟨⟨.inl x,r.lt _ k⟩,λj h g X=>?_⟩;have:=((B.fresh j h g).2 _ X).2;omega
 ·rw[Z];unfold O;exact⟨f.symm,r.one⟩
theorem nx5{α:Type}(z:List α):∀(n k:Nat),k<n→(((JA n z).flatten).drop (k*z.length)).take z.length=z
 | 0,k,h=>by omega
 | n+1,0,_=>by simp[Mh]
 | n+1,k+1,h=>by rw[Mh,List.flatten_cons,JF,Nat.add_comm,LN,Mk (by omega),Kb];rw[show z.length+k*z.length - z.length=k*z.length by omega];exact nx5 z n k (by omega)
theorem Ni.replicate{a:List CT}{c:List aar}{r:List DC}{z:List aaq}(h:D7 w none a c r z [])(f:z.length=a.length)(n:Nat):Ni w a c (JA n r) (JA n z).flatten (λ_=>none) (JA n []):=by
 refine⟨by simp,λi g m b d=>?_⟩;have e:i<n:=by have:=(KS.1 b).1;simpa using this
 rw[List.getElem?_replicate_of_lt e,Y] at b d;subst b d;rw[←f,nx5 z n i e];exact h
theorem nuQ:∀ {U:List HV},gk U=[]→U.flatMap (nM β)=[]
 | [],_=>rfl
 | x::l,h=>by
  cases x<;>simp[gk] at h;simp[nM,nuQ h]
theorem nlu(p:Rel w0 S st a w){d:Nat}(E:o.dst=some d)(F:sP st.n d)(G:iC st d){t g:aar}{l c:aas}(H:o.op= .makeSlice t l c){n m:Int}{h:List CT}{q:List aar}{i:TypeInfo}{z:List X}{r:List DC×List HV}
  (I:(zQ l).val st.get st.obj=some (.int .i64 n)) (J:(zQ c).val st.get st.obj=some (.int .i64 m)) (K:P.underlying t=some (.slice g)) (y:P.info? g=some i) (A:i.size=h.length)
  (L:(X8 P g).val st.get st.obj=some z) (M:(Gr h q z).val st.get st.obj=some r) (N:gk r.2=[])
  (afP:e= {sv:= .own (Uc d 0),ow:=[(Uc d 0,some (.deep g h q (JA n.toNat r.1) none))],ok:=decide (0≤n) && decide (n≤m) && decide (m.toNat*i.bytes≤140737488355328) && decide (m≤9223372036854775807)})
  (B:e.ok=true):R P w0 S st o e a w:=by
 subst afP;simp only[Bl,js] at B;obtain⟨⟨⟨Q,agH⟩,Z⟩,T⟩:=B;obtain⟨i',f,k,U,rfl,bo⟩:=xz L;rw[y] at k;injection k with k;subst k;obtain⟨Ki,Kj,s⟩:=p.core;obtain⟨V,_⟩:=UU s h q _ _ r (Wq f.cells.toList) M;have u:=w_.cells _ _ _ _ _ V;rw[nuQ N] at u;have j:f.cells.toList.length=h.length:=(D7.length _ _ _ _ _ u).1;have W:(madeCells f.cells (m.toNat*i.size)).toList=(JA m.toNat f.cells.toList).flatten:=by have:=ndi f.cells m.toNat;rw[A,←j];simpa using this
 have C:=s.ev I;have D:=s.ev J;simp only[O] at C D;have x:(i.bytes:Int)*m≤281474976710656:=by
  have ah2:((m.toNat*i.bytes:Nat):Int)≤140737488355328:=by omega
  rw[Int.natCast_mul,Int.toNat_of_nonneg (by omega),Int.mul_comm] at ah2;omega
 have Y:=run_make (P:=P) w t g i f K y U .i64 .i64 n m Q agH x T;refine nbE p E F G (vals:=(JA n.toNat f.cells.toList).flatten) (v:= .slice (some ⟨w.heap.size,0,none⟩) n.toNat m.toNat)
  (w':=w.alloc (.cells (madeCells f.cells (m.toNat*i.size)) g)) ?_ (p.kept.alloc _) (by rw[aD];omega) (λb x=>alloc_old _ b x) (by simp[JB]) ?_ ?_ rfl rfl rfl
 ·simp[execOp,H,C.1,D.1,Y]
 ·refine⟨by simp[j],.inr ⟨w.heap.size,m.toNat,_,by simp,by simpa using Xd _,by simp;omega,by simp only[maxLen];omega,by rw[size_madeCells,A], ?_⟩⟩;rw[W];have:JA m.toNat f.cells.toList=JA n.toNat f.cells.toList++JA (m.toNat - n.toNat) f.cells.toList:=by
   rw[List.replicate_append_replicate]
   congr 1
   omega
  rw[this,KM,Ml (by simp[j]),Lw (by simp[j])]
 ·rw[List.length_replicate];exact Ni.replicate (D7.mono (by rw[aD];omega) _ _ _ _ _ u (by simp)) j _
theorem nzM(o:V w0 S f h β φ tm w){id a i:Nat}{t p:aar}{ct H:List CT}{rows r:List (List DC)}{u:Bool}{h':Nat→Option xC}(z:h id=some (.deep t ct [p] rows (some (i,a))))(C:h a=some (.row p H r false u))(I:∃s,ct[Yp ct]? =some (.sl s)∧s=H)(Q:Qn ct=1)
  (N:a≠id) (hf:Sw H=true) (R:h' id=some (.deep t ct [p] (rows.set i (Sk (rows.getD i []) (Yp ct) [.sl r])) none)) (T:∀j,j≠id→h' j=if j=a then none else h j):
  ∃J K,V w0 S f h' J K tm w:=by
 obtain⟨s,I,rfl⟩:=I;obtain⟨v,d,U,D,ag6,O⟩:=o.aC id _ z;obtain⟨W,X,aiw,Z,_,_⟩:=o.aC a _ C;have l:=(o.fresh id _ z).1;rw[O] at l;have P:ar β a (.row p s r false u)=(β.val a).ownBlock.toList:=rfl;have GX:∀b∈(β.val a).ownBlock.toList,b ∉ φ id:=λb c=>o.sep a id _ _ N C z b (al (o.aC a _ C) b (P ▸ c));have G3:(β.val a).ownBlock.toList.Nodup:=by cases (β.val a).ownBlock<;>simp
 have lz:∀b∈(d.set i (β.val a).ownBlock.toList).flatten,b∈d.flatten∨b∈(β.val a).ownBlock.toList:=by
  intro b c;by_cases q:i<d.length
  ·rw[dh q] at c;rw[AJ q];simp only[JC] at c ⊢;rcases c with c | c | c<;>simp[c]
  ·rw[Mm (by omega)] at c;exact .inl c
 have FQ:((β.val id).ownBlock.toList++(d.set i (β.val a).ownBlock.toList).flatten).Nodup:=by
  by_cases q:i<d.length
  ·rw[dh q];have y:=l;rw[AJ q] at y;have h4:=Fk (A:=(β.val id).ownBlock.toList++(d.take i).flatten) (p1:=[]) (p2:=d[i]) (p3:=[]) (B:=(d.drop (i+1)).flatten) (n:=(β.val a).ownBlock.toList) (by simpa using y) G3
    (λb c jq=>GX b c (by rw[O,AJ q];simpa using jq))
   simpa using h4
  ·rw[Mm (by omega)];exact l
 refine⟨β.f_ id (d.set i (β.val a).ownBlock.toList).flatten,L9 φ id ((β.val id).ownBlock.toList++(d.set i (β.val a).ownBlock.toList).flatten), ?_⟩;refine o.En (t:=t) (ct:=ct) (ts:=[p]) (rows:=rows.set i (Sk (rows.getD i []) (Yp ct) [.sl r])) (hl:=none) (G:=λk=>k=a) z (λk g e=>N (g ▸ e)) R (λj hj x E=>?_) (Kp _) (λ_ _ _=>rfl) (λb c=>by simp only[ar];exact Ss _ c) (λb c=>?_) ?_ FQ
 ·rw[T j hj] at E;split at E
  ·cases E
  ·rename_i g;exact⟨E,g⟩
 ·rcases lz b c with c | c
  ·left;simp only[ar,ag6];exact wZ _ c
  ·exact .inr ⟨a,_,rfl,C,P ▸ c⟩
 ·refine⟨v,d.set i (β.val a).ownBlock.toList,by simpa [L.f_] using U,⟨by simp[D.1],λk r' m g F=>?_⟩,by simp[L.f_,L9],by simp[L.f_]⟩;by_cases afj:k=i
  ·subst afj;have M:k<rows.length:=by have:=(KS.1 g).1;simpa using this
   have GS:k<d.length:=by rw[D.1];exact M
   rw[K2 M,Y] at g;rw[K2 GS,Y] at F;subst g F;have y:=D.2 k (rows.getD k []) d[k] (bl M) (by simp);simp only[Mz,if_true] at y;exact D7.back _ s p _ _ d[k] I Q y ⟨W,X,aiw,Z,rfl⟩
  ·rw[LI (Ne.symm afj)] at g F;have:=D.2 k r' m g F;simp only[Mz,afj,if_false] at this;exact this
end
section
variable {P:aao} {Γ:Ctx} {w0:aap} {S:Own} {st:E} {o:Oper} {e:Nf} {a:Act} {w w':aap}
variable {f:Nat→X} {h:Nat→Option xC} {β:L} {φ:Nat→List Nat} {tm:Array aaq}
theorem V.compose(q:V w0 S f h β φ tm w){id:Nat}{G:Nat→Prop}{z:Nat→Option xC}{v':aaq}{t:aar}{A:List CT}{K:List aar}{m:List (List DC)}{n:List aaq}{o:List (List Nat)}
  (R:∀i,id ∉ zX (f i)) (T:∀j x,h j=some x→id ∉ c4 x) (Mn:h id=none)
  (afk:z id=some (.deep t A K m none)) (v:∀j,j≠id→∀x,z j=some x→h j=some x∧¬G j)
  (U:w.heap.size≤w'.heap.size) (hk:w0.heap.size≤w.heap.size) (M:∀b,b<w.heap.size→(∀k x,G k→h k=some x→b ∉ ar β k x)→w'.heap[b]? =w.heap[b]?)
  (ag7:∀b∈v'.ownBlock.toList++o.flatten,(∃k x,G k∧h k=some x∧b∈ar β k x)∨(b=w.heap.size∧b<w'.heap.size))
  (W:pz w' t A.length false v' m.length n) (X:Ni w' A K m n (λ_=>none) o) (B:(v'.ownBlock.toList++o.flatten).Nodup):
  V w0 S f z (β.gY id v' o.flatten) (L9 φ id (v'.ownBlock.toList++o.flatten)) tm w':=by
 have p:(β.gY id v' o.flatten).val id=v':=by simp[L.gY,L9]
 have N:(β.gY id v' o.flatten).nb id=o.flatten:=by simp[L.gY,L9]
 have aix:∀j a,j≠id→ar (β.gY id v' o.flatten) j a=ar β j a:=by intro j a c;cases a<;>simp[ar,L.gY,L9,c]
 have y:∀b∈v'.ownBlock.toList++o.flatten,((w0.heap.size≤b∨S b)∧b<w'.heap.size)∧(oa h β b∨w.heap.size≤b)∧∀j a,h j=some a→¬G j→b ∉ φ j:=by
  intro b d;rcases ag7 b d with ⟨k,x,C,r,g⟩ | ⟨g,s⟩
  ·have s:=al (q.aC k x r) b g;have Z:=(q.fresh k x r).2 b s;exact⟨⟨Z.1,by omega⟩,.inl (.inl ⟨k,x,r,g⟩),λj a D E=>q.sep k j x a (λe=>E (e ▸ C)) r D b s⟩
  ·exact⟨⟨.inl (by omega),s⟩,.inr (by omega),λj a D _ u=>by have:=((q.fresh j a D).2 b u).2;omega⟩
 refine q.AA (λj=>j=id) U (λb d hn=>M b d (λk x _ r F=>hn (.inl ⟨k,x,r,F⟩))) ?_ (λi j c e=>R i (e ▸ c)) (λj c=>⟨by simp[L.gY,L9,c],rfl⟩) ?_ ?_
 ·rintro b (⟨j,a,c,u⟩ | d)
  case inr=>exact .inl (.inr d)
  by_cases l:j=id
  ·subst l;rw[afk,Y] at c;subst c;simp only[ar,p,N] at u;exact (y b u).2.1
  ·rw[aix j a l] at u;exact .inl (.inl ⟨j,a,(v j l a c).1,u⟩)
 ·intro j a c;by_cases l:j=id
  ·subst l;rw[afk,Y] at c;subst c;refine .inr ⟨?_,by simpa [L9] using B,λb d=>(y b (by simpa [L9] using d)).1⟩;exact⟨n,o,by rw[p];exact W,X,N,by rw[p];simp[L9]⟩
  ·obtain⟨g,E⟩:=v j l a c;refine .inl ⟨l,g,by simp[L.gY,L9,l],by simp[L9,l],λk H e=>T j a g (e ▸ H),λb d=>?_⟩;have O:=al (q.aC j a g) b d;exact M b ((q.fresh j a g).2 b O).2 (λk x C r F=>q.sep k j x a (λe=>E (e ▸ C)) r g b (al (q.aC k x r) b F) O)
 ·intro i j I a P hi c b d;by_cases J:i=id
  ·subst J;have Q:j≠i:=Ne.symm P;simp only[L9,if_true] at d;simp only[L9,Q,if_false];obtain⟨g,s⟩:=v j Q a c;exact (y b d).2.2 j a g s
  ·simp only[L9,J,if_false] at d;obtain⟨g,s⟩:=v i J I hi;by_cases l:j=id
   ·subst l;simp only[L9,if_true];exact λaB=>(y b aB).2.2 i I g s d
   ·simp only[L9,l,if_false];exact q.sep i j I a P g (v j l a c).1 b d
theorem Ni.append{a:List CT}{e:List aar}{r1 j:List (List DC)}{v1 d:List aaq}{m1 k:List (List Nat)}(f:Ni w a e r1 v1 (λ_=>none) m1)(g:v1.length=r1.length*a.length)(l:Ni w a e j d (λ_=>none) k):
  Ni w a e (r1++j) (v1++d) (λ_=>none) (m1++k):=by
 refine⟨by simp[f.1,l.1],λi r m c b=>?_⟩;rw[List.getElem?_append] at c b;rw[f.1] at b;by_cases h:i<r1.length
 ·rw[if_pos h] at c b;have n:i*a.length+a.length≤v1.length:=by rw[g,←JF];exact JR _ h
  have:=f.2 i r m c b;rw[List.drop_append_of_le_length (by omega),Ml (by simp;omega)];exact this
 ·rw[if_neg h] at c b;have:=l.2 (i - r1.length) r m c b;have o:(v1++d).drop (i*a.length)=d.drop ((i - r1.length)*a.length):=by
   have p:v1.length≤i*a.length:=by rw[g];exact JR _ (by omega)
   rw[LN,Mk p,Kb,g,Nat.sub_mul]
  rw[o];exact this
theorem D7.one:∀(b:List CT) (j:List aar) (k:List DC) (f:List aaq) (l:List Nat),D7 w none b j k f l→∀u∈f,u.oneCell'=true
 | [],_,_,_,_,h=>by simp only[D7] at h;simp[h.2.2.1]
 | c::b,_,_,_,_,h=>by
  rcases oh c with ⟨e,rfl⟩ | m
  ·simp only[D7] at h;obtain⟨t,x,g,n,v,o,y,z,rfl,rfl,rfl,_,⟨i,A,p,_⟩,q,rfl⟩:=h;intro u a;rcases Jw.1 a with rfl | a
   ·exact p.one
   ·exact D7.one b _ _ _ _ q u a
  ·rw[D7.flat m] at h;obtain⟨d,n,v,o,rfl,rfl,r,s⟩:=h;intro u a;rcases Jw.1 a with rfl | a
   ·exact r.one
   ·exact D7.one b _ _ _ _ s u a
theorem Ni.one{b:List CT}{f:List aar}{a:List (List DC)}{c:List aaq}{d:List (List Nat)}(h:Ni w b f a c (λ_=>none) d)(n:c.length=a.length*b.length)(e:0<b.length):∀u∈c,u.oneCell'=true:=by
 intro u g;obtain⟨p,j,rfl⟩:=LX g;have k:p / b.length<a.length:=by rw[Nat.div_lt_iff_lt_mul e];omega
 have l:=Nat.mod_lt p e;have o:p / b.length<d.length:=by rw[h.1];exact k
 have m:=h.2 (p / b.length) a[p / b.length] d[p / b.length] (by simp) (by simp);refine D7.one _ _ _ _ _ m _ (KV (i:=p % b.length) ?_);rw[J1,if_pos l,J_];have:p / b.length*b.length+p % b.length=p:=by rw[Nat.mul_comm];exact Nat.div_add_mod p b.length
 rw[this];simp[j]
theorem ntI(m:V w0 S f h β φ tm w){i:aar}{g:List CT}{j:List aar}{s:X}{v:aaq}{q:List (List DC)×List Nat}(e:O w (oa h β) β s v)(b:(cJ i g j s).val f h=some q):
  ∃a c,pz w i g.length false v q.1.length a∧Ni w g j q.1 a (λ_=>none) c∧(v.ownBlock.toList++c.flatten).Nodup∧
   ((q.2=[]∧v= .slice none 0 0∧c=[])∨∃id,q.2=[id]∧∃x,h id=some x∧ar β id x=v.ownBlock.toList++c.flatten):=by
 unfold cJ at b;split at b
 ·simp only[M.ab,Y] at b;subst b;simp only[O] at e;subst e;exact⟨[],[],⟨by simp,.inl ⟨rfl,rfl,rfl⟩⟩,⟨rfl,by simp⟩,by simp[JB],.inl ⟨rfl,rfl,rfl⟩⟩
 ·rename_i id;simp only[M.aY,UI] at b;obtain⟨D,k,b⟩:=b;simp only[O] at e;split at b
  ·rename_i o p t r;cases d:Jn o i && cB p g && UW t j
   ·simp[d] at b
   simp only[d,H,M.ab,Y] at b;subst b;simp only[Bl] at d;have u:=Vs d.1.1;have y:=uG _ _ d.1.2;have z:=Xo _ _ d.2;subst u y z;have l:=(m.fresh id _ k).1;obtain⟨a,c,n,A,B,C⟩:=m.aC id _ k;rw[C] at l;rw[←e.1] at n l;exact⟨a,c,n,A,l,.inr ⟨id,rfl,_,k,by simp only[ar,B,e.1]⟩⟩
  ·simp at b
 ·simp at b
theorem nur:∀(a:List Nat) (h:Nat→Option xC) (j:Nat),ji (gone a) h j=if j∈a then none else h j
 | [],h,j=>by simp[gone,ji]
 | i::l,h,j=>by
  have c:=nur l h j;show L9 (ji (gone l) h) i none j=_;simp only[L9,Jw];by_cases b:j=i
  ·simp[b]
  ·simp only[b,if_false,false_or];exact c
theorem ngi{l m:List Nat}(b:XG (l++m)=true):∀i∈l,i ∉ m:=by
 induction l with
 | nil=>simp
 | cons x l c=>
  obtain⟨d,e⟩:=qN (i:=x) (l:=l++m) b;intro i a;rcases Jw.1 a with rfl | a
  ·exact λf=>d (wZ _ f)
  ·exact c e i a
theorem nyx(afQ:Rel w0 S st a w){d:Nat}(aM:o.dst=some d)(hd:sP st.n d)(W:iC st d){t C:aar}{s x:aas}{c:Call}(ho:o.op= .call c)(hb:c.callee= .builtin .append)(cr:c.args= #[s,x])
  (GP:c.argTypes= #[t,t]) {U sx:X} {D:List CT} {agI:List aar} {p q:List (List DC)×List Nat} {z:List X} (h1:(zQ s).val st.get st.obj=some U) (h2:(zQ x).val st.get st.obj=some sx) (hu:P.underlying t=some (.slice C))
  (dT:Fe P C D.length=true) (hp:0<D.length) (hz:(X8 P C).val st.get st.obj=some z) (kJ:z.length=D.length) (LL:(cJ C D agI U).val st.get st.obj=some p) (LM:(cJ C D agI sx).val st.get st.obj=some q) (ah3:XG (p.2++q.2)=true)
  (fq:wF P C (p.1.length+q.1.length)=true) (fR:e.sv= .own (Uc d 0)) (kB:e.cw=none)
  (aiy:e.ow=(Uc d 0,some (.deep C D agI (p.1++q.1) none))::gone (p.2++q.2)):R P w0 S st o e a w:=by
 obtain⟨i,K,bJ⟩:=TL dT;obtain⟨i',zv,T,AV,rfl,_⟩:=xz hz;rw[K] at T;injection T with T;subst T;obtain⟨β,φ,A⟩:=afQ.core;obtain⟨HR,H,o1,d1,n1,k1⟩:=ntI A (A.ev h1) LL;obtain⟨Z,I,ahi,d2,n2,k2⟩:=ntI A (A.ev h2) LM;have bo:=d2.one ahi.1 hp;obtain⟨Q,cc,HH,IZ,J⟩:∃Q cc,a.eval x= .slice Q q.1.length cc∧(Q=none→q.1.length=0)∧∀ad,Q=some ad→∀j u,Z[j]? =some u→w.cell? (ad.add j)=some u:=by
  rcases ahi.2 with ⟨E,h0,_⟩ | ⟨g,cap,cur,E,_⟩
  ·exact⟨none,0,by rw[E,h0],λ_=>h0,by simp⟩
  ·refine⟨some ⟨g,0,none⟩,cap,E,by simp,λad IV j u afl=>?_⟩;simp only[Y] at IV;subst IV;rw[ZB];have:=ahi.cell (g:=g) (by rw[E];rfl) afl;simpa using this
 obtain⟨F,w',bH,gR,M,gP⟩:=pM (P:=P) (ty:=o.type) (c:=cc) hu K AV bJ (by simpa using kJ) hp o1 ahi.1 IZ J bo fq;have bN:Uc d 0 / 64=d:=jG d 0 (by omega);have N:∀b∈(a.eval s).ownBlock.toList++H.flatten,∃k y,k∈p.2∧st.obj k=some y∧b∈ar β k y:=by
  intro b f;rcases k1 with ⟨_,E,hm⟩ | ⟨id,eG,y,h,ht⟩
  ·rw[E,hm] at f;simp[JB] at f
  ·exact⟨id,y,by rw[eG];simp,h,by rw[ht];exact f⟩
 have kC:∀b∈(a.eval x).ownBlock.toList++I.flatten,∃k y,k∈q.2∧st.obj k=some y∧b∈ar β k y:=by
  intro b f;rcases k2 with ⟨_,E,hm⟩ | ⟨id,eG,y,h,ht⟩
  ·rw[E,hm] at f;simp[JB] at f
  ·exact⟨id,y,by rw[eG];simp,h,by rw[ht];exact f⟩
 have H7:=ngi ah3;have Dl:∀b∈(a.eval s).ownBlock.toList++H.flatten,b ∉ (a.eval x).ownBlock.toList++I.flatten:=by intro b m l;obtain⟨k,y,r,h,Gu⟩:=N b m;obtain⟨k',y',Cw,J4,jq⟩:=kC b l;exact A.sep k k' y y' (λe=>H7 k r (e ▸ Cw)) h J4 b (al (A.aC k y h) b Gu) (al (A.aC k' y' J4) b jq)
 have gz:∀b,b<w.heap.size→(a.eval s).ownBlock≠some b→w'.heap[b]? =w.heap[b]? :=λb f c8=>M.block b f (λe=>c8 e.symm);have GU:=d1.lt;have GV:=d2.lt;have Lz:∀b∈H.flatten,(a.eval s).ownBlock≠some b:=by intro b f e;rw[JX] at n1;exact n1.2.2 b (by rw[e];simp) b f rfl
 have LA:∀b∈I.flatten,(a.eval s).ownBlock≠some b:=by intro b f e;exact Dl b (Ss _ (by rw[e];simp)) (wZ _ f)
 have Mr:∀b∈F.ownBlock.toList,b∈(a.eval s).ownBlock.toList∨b=w.heap.size:=by
  intro b f;rcases gP with m | m
  ·rw[m] at f;exact .inl f
  ·rw[m] at f;exact .inr (by simpa using f)
 have G3:F.ownBlock.toList.Nodup:=by cases F.ownBlock<;>simp
 have Io:(F.ownBlock.toList++(H++I).flatten).Nodup:=by
  rw[KM,JX];rw[JX] at n1 n2;refine⟨G3, ?_,λb m b' l e=>?_⟩
  ·rw[JX];refine⟨n1.2.1,n2.2.1,λb m b' l e=>?_⟩;subst e;exact Dl b (wZ _ m) (wZ _ l)
  ·subst e;rcases Mr b m with h5 | h5
   ·rcases JC.1 l with l | l
    ·exact n1.2.2 b h5 b l rfl
    ·exact Dl b (Ss _ h5) (wZ _ l)
   ·rcases JC.1 l with l | l
    ·have:=GU b l;omega
    ·have:=GV b l;omega
 have Jp:Ni w' D agI (p.1++q.1) (HR++Z) (λ_=>none) (H++I):=by
  refine Ni.append ?_ o1.1 ?_
  ·exact d1.mono M.size (λb f=>gz b (GU b f) (Lz b f)) (λ_=>rfl)
  ·exact d2.mono M.size (λb f=>gz b (GV b f) (LA b f)) (λ_=>rfl)
 have JS:pz w' C D.length false F (p.1++q.1).length (HR++Z):=by rw[fK];exact gR
 have Jx:∀b,(a.eval s).ownBlock=some b→w0.heap.size≤b∨S b:=by intro b f;obtain⟨k,y,_,h,B⟩:=N b (Ss _ (by rw[f];simp));exact ((A.fresh k y h).2 b (al (A.aC k y h) b B)).1
 refine HI afQ (λd' V=>by rw[aM] at V;injection V with V;exact V ▸ hd) (v:=F) (w':=w') ?_ (afQ.kept.grown M Jx)
  ⟨β.gY (Uc d 0) F (H++I).flatten,L9 φ (Uc d 0) (F.ownBlock.toList++(H++I).flatten), ?_, ?_⟩
 ·simp[execOp,ho,resolve,hb,cr,GP,invoke,builtin,HH,bH]
 ·rw[aiy,kB];refine A.compose (G:=λk=>k∈p.2++q.2) (λi K=>W.slot i _ K bN) (λj ob afl K=>(W.obj j ob afl).2 _ K bN) ?_ (by simp[ji,L9,ey]) (λj afl y h=>?_) M.size afQ.kept.size (λb f hn=>?_) (λb f=>?_) JS Jp Io
  ·cases hn:st.obj (Uc d 0) with
   | none=>rfl
   | some ob=>exact absurd bN (W.obj _ ob hn).1
  ·simp only[ji,L9,afl,if_false,ey] at h;rw[nur] at h;split at h
   ·cases h
   ·rename_i r;exact⟨h,r⟩
  ·refine gz b f (λe=>?_);obtain⟨k,y,r,h,B⟩:=N b (Ss _ (by rw[e];simp));exact hn k y (Ss _ r) h B
  ·rcases JC.1 f with f | f
   ·rcases Mr b f with m | m
    ·obtain⟨k,y,r,h,B⟩:=N b (Ss _ m);exact .inl ⟨k,y,Ss _ r,h,B⟩
    ·exact .inr ⟨m,gR.lt b f⟩
   ·rw[KM] at f;rcases JC.1 f with f | f
    ·obtain⟨k,y,r,h,B⟩:=N b (wZ _ f);exact .inl ⟨k,y,Ss _ r,h,B⟩
    ·obtain⟨k,y,r,h,B⟩:=kC b (wZ _ f);exact .inl ⟨k,y,wZ _ r,h,B⟩
 ·rw[fR];unfold O;exact⟨by simp[L.gY,L9],gR.one⟩
theorem Ni.cons{c:List CT}{d:List aar}{r:List DC}{l:List aaq}{m:List Nat}{a:List (List DC)}{b:List aaq}{f:List (List Nat)}(h:D7 w none c d r l m)(j:l.length=c.length)(k:Ni w c d a b (λ_=>none) f):
  Ni w c d (r::a) (l++b) (λ_=>none) (m::f):=by
 have:=Ni.append (r1:=[r]) (v1:=l) (m1:=[m]) ⟨rfl,λi o p e g=>by
  have n:i=0:=by have:=(KS.1 e).1;simpa using this
  subst n;simp only[Kf,Y] at e g;subst e g;rw[Nat.zero_mul,LJ,Lw (by omega)];exact h⟩ (by simp[j]) k
 simpa using this
theorem nh5(m:V w0 S st.get st.obj β φ a.tmps w){e:List CT}{n:List aar} :∀(b:List (Nat×aas)) (k:Nat) (q:List (List DC)×List HV),(QA e n k b).val st.get st.obj=some q→
  ∃(d:List aaq) (g:List (List Nat)),d.length=b.length*e.length∧q.1.length=b.length∧Ni w e n q.1 d (λ_=>none) g∧g.flatten=q.2.flatMap (nM β)∧Fb st.obj q.2∧
   ∀(pre c:List aaq),pre.length=k*e.length→c.length=b.length*e.length→
    Instr.fill (λi=>some (i*e.length,e.length)) (pre++c).toArray (b.map λx=>(x.1,a.eval x.2))=some (pre++d).toArray
 | [],k,q,hq=>by
  simp only[QA,M.ab,Y] at hq;subst hq;refine⟨[],[],by simp,rfl,⟨rfl,by simp⟩,rfl,trivial,λpre c h j=>?_⟩;have:c=[]:=by simpa using j
  subst this;simp[Instr.fill]
 | (i,x)::rest,k,q,hq=>by
  simp only[QA] at hq;cases l:Jn i k
  ·simp[l] at hq
  have l:=Vs l;subst l;simp only[Nat.beq_refl,H,M.ag,UI,M.ab,Y] at hq;obtain⟨s,t,K,u,r,v,y,z,rfl⟩:=hq;obtain⟨A,L⟩:=ZW (m.ev t) u;obtain⟨B,C⟩:=UU m e n _ _ r A v;have o:=w_.cells _ _ _ _ _ B;have p:=(D7.length _ _ _ _ _ o).1;have f:(a.eval x).cells.size=e.length:=by simpa using p
  obtain⟨d,g,D,E,F,G,Z,I⟩:=nh5 m rest (i+1) y z;refine⟨(a.eval x).cells.toList++d,(r.2.flatMap (nM β))::g, ?_,by simp[E],Ni.cons o p F,by simp[G],C.append Z, ?_⟩
  ·simp only[fK,D,I_,KB,f,JF];omega
  ·intro pre c h j;simp only[I_,JF] at j;simp only[Lk];rw[Wh (off:=i*e.length) (by rw[f]) (by simp[h,f];omega)];have J:((pre++c).toArray.toList.take (i*e.length)++((a.eval x).cells.toList++(pre++c).toArray.toList.drop (i*e.length+(a.eval x).cells.size)))=(pre++(a.eval x).cells.toList)++c.drop e.length:=by simp only[f,←h];simp[LN]
   rw[J,I (pre++(a.eval x).cells.toList) (c.drop e.length) (by simp[h,f,JF]) (by simp[j])];simp
theorem nEl(B:Rel w0 S st a w){d:Nat}(aM:o.dst=some d)(hd:sP st.n d)(I:iC st d){t l:aar}{len:Nat}{c:Array (Nat×aas)}(ho:o.op= .buildSlice t len c){m:List CT}{V:List aar}{q:List (List DC)×List HV}
  (W:P.underlying t=some (.slice l)) (dT:Fe P l m.length=true) (X:0<m.length) (g:len=c.toList.length) (JY:len*m.length≤16777216) (J:∃z,(X8 P l).val st.get st.obj=some z)
  (hq:(QA m V 0 c.toList).val st.get st.obj=some q) (K:XG (gk q.2)=true)
  (he:e= {sv:= .own (Uc d 0),ow:=(Uc d 0,some (.deep l m V q.1 none))::yQ q.2}):R P w0 S st o e a w:=by
 subst he;obtain⟨i,r,afm⟩:=TL dT;obtain⟨β,φ,M⟩:=B.core;obtain⟨f,Y,C,D,Z,ff,C_,lX⟩:=nh5 M c.toList 0 q hq;obtain⟨z,J⟩:=J;obtain⟨i',s,E,AV,_,_⟩:=xz J;rw[r] at E;injection E with E;subst E;have N:len≤maxLen:=by have:len≤len*m.length:=Nat.le_mul_of_pos_right _ X;simp only[maxLen];omega
 have bH:(Instr.buildSlice t len (c.map λx=>(x.1,a.eval x.2))).run P w= .ok (.slice (some ⟨w.heap.size,0,none⟩) len len) (w.alloc (.cells f.toArray l)):=by
  rcases Nat.eq_zero_or_pos len with F | F
  ·have hp:c= #[]:=by
    have:c.toList.length=0:=by omega
    simpa using this
   have hv:f=[]:=by
    have:f.length=0:=by rw[C,←g,F,Nat.zero_mul]
    simpa using this
   subst hp hv F;simp[Instr.buildSlice,run_underlying W,sizeOf,typeInfo,r,Instr.fill,newRow,Array.range_zero']
  ·refine run_buildSlice (P:=P) w t l len _ f.toArray i s W r AV (by rw[afm];omega) (by rw[afm];exact Nat.ne_of_gt (Nat.mul_pos F X)) ?_;have:=lX [] ((Array.range (len*m.length)).map (s.cells[· % s.cells.size]!)).toList (by simp) (by simp[g]);rw[afm];generalize (Array.range (len*m.length)).map (s.cells[· % s.cells.size]!)=A at this ⊢;simpa using this
 have afR:Uc d 0 / 64=d:=jG d 0 (by omega);have AF:=SJ M C_ K;have KA:∀b∈q.2.flatMap (nM β),∃k∈gk q.2,∃p,st.obj k=some p∧b∈ar β k p:=bg C_;have cA:=Z.lt;have bk:pz (w.alloc (.cells f.toArray l)) l m.length false (.slice (some ⟨w.heap.size,0,none⟩) len len) q.1.length f:=by refine⟨by rw[C,D],.inr ⟨w.heap.size,len,f.toArray,by rw[D,←g],by simpa using Xd _,by rw[D,←g];exact Kp _,N,by simp[C,g], ?_⟩⟩;rw[D,←C];simp
 refine HI B (λd' H=>by rw[aM] at H;injection H with H;exact H ▸ hd) (v:= .slice (some ⟨w.heap.size,0,none⟩) len len) (w':=w.alloc (.cells f.toArray l)) ?_ (B.kept.alloc _)
  ⟨β.gY (Uc d 0) (.slice (some ⟨w.heap.size,0,none⟩) len len) Y.flatten,L9 φ (Uc d 0) ([w.heap.size]++Y.flatten), ?_, ?_⟩
 ·simp[execOp,ho,bH]
 ·refine M.compose (v':= .slice (some ⟨w.heap.size,0,none⟩) len len) (G:=λk=>k∈gk q.2) (λi r=>I.slot i _ r afR) (λj p Q r=>(I.obj j p Q).2 _ r afR) ?_ (by simp[ji,L9,ey]) (λj Q y u=>?_) (by rw[aD];omega) B.kept.size (λb h _=>alloc_old _ b h) (λb h=>?_) bk (Z.mono (by rw[aD];omega) (λb h=>alloc_old _ b (cA b h)) (λ_=>rfl)) ?_
  ·cases K:st.obj (Uc d 0) with
   | none=>rfl
   | some p=>exact absurd afR (I.obj _ p K).1
  ·simp only[ji,L9,Q,if_false,ey] at u;rw[vc] at u;split at u
   ·cases u
   ·rename_i agJ;exact⟨u,agJ⟩
  ·rcases JC.1 h with h | h
   ·right;have:b=w.heap.size:=by simpa [JB] using h
    exact⟨this,by rw[aD];omega⟩
   ·left;rw[ff] at h;obtain⟨k,agJ,p,T,U⟩:=KA b h;exact⟨k,p,agJ,T,U⟩
  ·rw[JX];refine⟨by simp[JB],by rw[ff];exact AF,λb T b' U e=>?_⟩;subst e;have h5:b=w.heap.size:=by simpa [JB] using T
   have:=cA b U;omega
 ·unfold O;exact⟨by simp[L.gY,L9],rfl⟩
end
section
variable {P:aao} {Γ:Ctx} {w0:aap} {S:Own} {st:E} {o:Oper} {e:Nf} {a:Act} {w:aap}
variable {f:Nat→X} {h:Nat→Option xC} {β:L} {φ:Nat→List Nat} {tm:Array aaq}
def gK(b:List UInt8):List aaq:=b.map λc=>La .u8 c.toNat
theorem wE(k:Nat)(b:List UInt8)(w:aap):(Builtin.firstCells k b.length (.string ⟨b.toArray⟩)).run P w= .ok (gK b).toArray w:=by
 have:((⟨b.toArray⟩:ByteArray).extract 0 b.length).data.map (λc=>La .u8 c.toNat)=(gK b).toArray:=by rw[xg];simp[gK]
 simp only[Builtin.firstCells,Sem.run_pure,this]
theorem ndM{t u ty d:aar}{i:TypeInfo}{q:aaq}(B:P.underlying t=some (.slice d))(r:P.underlying u=some .string)(y:P.info? d=some i)(L:i.zero=some q)(M:i.size=1)(S:q.cells.size=1)
  {v:aaq} {n:Nat} {a:List aaq} (s:pz w d 1 false v n a) (b:List UInt8) (T:wF P d (n+b.length)=true):
  ∃C w',(Builtin.append_ #[t,u] ty #[v,.string ⟨b.toArray⟩]).run P w= .ok C w'∧pz w' d 1 false C (n+b.length) (a++gK b)∧w.grownBy w' v.ownBlock∧(C.ownBlock=v.ownBlock∨C.ownBlock=some w.heap.size):=by
 obtain⟨N,O⟩:=nuc y T;have LQ:n+b.length≤9223372036854775807:=by simp only[maxLen] at O;omega
 have D:(gK b).length=b.length:=by simp[gK]
 have U:∀u∈gK b,u.oneCell'=true:=by intro u r;obtain⟨c,_,rfl⟩:=List.mem_map.1 r;rfl
 have h:(a++gK b).length=(n+b.length)*1:=by rw[fK,s.1,D];omega
 have l:∀(m:Nat),m<n+b.length→∀(z:Option Nat),
   pz (w.drew.alloc (.cells (a.toArray++(gK b).toArray++Builtin.zeroCells q.cells (grownCap w (n+b.length) m d - (n+b.length))) d)) d 1 false
    (.slice (some ⟨w.heap.size,0,none⟩) (n+b.length) (grownCap w (n+b.length) m d)) (n+b.length) (a++gK b)∧
   w.grownBy (w.drew.alloc (.cells (a.toArray++(gK b).toArray++Builtin.zeroCells q.cells (grownCap w (n+b.length) m d - (n+b.length))) d)) z:=by
  intro m ho z;have V:=grownCap_ge w (n+b.length) m d;have E:grownCap w (n+b.length) m d≤maxLen:=grownCap_le_maxLen w (n+b.length) m d O;refine⟨⟨h,.inr ⟨w.heap.size,_,_,rfl,heap_alloc_new w.drew _,V,E, ?_, ?_⟩⟩,⟨rfl,rfl,rfl,by simp,λk F _=>heap_alloc_old w.drew _ F⟩⟩
  ·simp only[Array.size_append,Lj,size_zeroCells,S,s.1,D];omega
  ·simp only[Array.toList_append,Kr];rw[←Kr,←h];exact List.take_left
 rcases s.2 with ⟨rfl,rfl,_⟩ | ⟨g,cap,f,rfl,W,BN,E,X,Y⟩
 ·have Z:a=[]:=Lu (by simpa using s.1);subst Z;by_cases Q:b.length=0
  ·have Md:b=[]:=Lu Q;subst Md;refine⟨.slice none 0 0,w, ?_,⟨by simp[gK],.inl ⟨rfl,rfl,rfl⟩⟩,⟨rfl,rfl,rfl,Kp _,λ_ _ _=>rfl⟩,.inl rfl⟩;have o:=wE (P:=P) i.size [] w;simp[Builtin.append_,run_underlying B,run_underlying r,sizeOf,typeInfo,y,Builtin.lenOf,Ch] at o ⊢;simp[o]
  ·have G:¬(b.length=0):=Q;have H:¬(9223372036854775807<(b.length:Int)):=by omega
   have I:¬(281474976710656<Builtin.nextslicecap b.length 0*i.bytes):=by have hb:=N;rw[JI] at hb;rw[nextslicecap_zero (by omega)];omega
   have o:=wE (P:=P) i.size b w.drew;have A:(Builtin.append_ #[t,u] ty #[.slice none 0 0,.string ⟨b.toArray⟩]).run P w=
     .ok (.slice (some ⟨w.heap.size,0,none⟩) b.length (grownCap w b.length 0 d)) (w.drew.alloc (.cells ((gK b).toArray++Builtin.zeroCells q.cells (grownCap w b.length 0 d - b.length)) d)):=by
    simp[Builtin.append_,run_underlying B,run_underlying r,sizeOf,typeInfo,zeroValue,y,L,Builtin.lenOf,Ch,G,H,I,Question.forced,run_firstCells_none,o,newRow,grownCap]
   have x:=l 0 (by omega) (JB (.slice none 0 0));simp only[JI,Kb,Array.empty_append] at x ⊢;exact⟨_,_,A,x.1,x.2,.inr rfl⟩
 ·by_cases J:n+b.length≤cap
  ·have eE:n*1+(gK b).length≤f.size:=by rw[D,X];omega
   have o:=wE (P:=P) 1 b w;have R:w.heap[g]? =some (.cells f d (0,0)):=by simpa using W
   have K:=run_storeCells_at P g (n*1) d (gK b) 0 f w R (by simpa using eE) U;simp only[Kg] at K;have A:(Builtin.append_ #[t,u] ty #[.slice (some ⟨g,0,none⟩) n cap,.string ⟨b.toArray⟩]).run P w=
     .ok (.slice (some ⟨g,0,none⟩) (n+b.length) cap) (w.setRow g (f.toList.take (n*1)++gK b++f.toList.drop (n*1+(gK b).length)).toArray):=by
    simp only[J2] at K;simp[Builtin.append_,run_underlying B,run_underlying r,sizeOf,typeInfo,y,M,Builtin.lenOf,Ch,J,o,Addr.add_lit,K]
   refine⟨_,_,A,⟨h,.inr ⟨g,cap,_,rfl,setRow_heap w g f _ d _ R,J,E, ?_, ?_⟩⟩,⟨rfl,rfl,rfl,by simp,λk _ F=>setRow_other w g k _ (λe=>F (by simp[JB,e]))⟩,.inl rfl⟩
   ·simp only[Lj,fK,Kd,Kh,KB];omega
   ·simp only[Kr];have FY:f.toList.take (n*1)=a:=Y;rw[FY,←h];rw[←Kr];exact List.take_left
  ·have p:∀j u,a[j]? =some u→w.cell? ((⟨g,0,none⟩:Addr).add j)=some u:=s.owns.cells (g:=g) rfl;have G:¬(n+b.length≤cap):=J;have H:¬(9223372036854775807<((n:Int)+(b.length:Int))):=by omega
   have I:¬(281474976710656<Builtin.nextslicecap (n+b.length) cap*i.bytes):=by have:=growslice_fits (bytes:=i.bytes) (show cap<n+b.length by omega) N;omega
   have o:=wE (P:=P) i.size b w.drew;have Ku:=run_firstCells_some (P:=P) w.drew i.size n ⟨g,0,none⟩ n cap a (by rw[M];exact s.1) (by simpa using p);have A:(Builtin.append_ #[t,u] ty #[.slice (some ⟨g,0,none⟩) n cap,.string ⟨b.toArray⟩]).run P w=
     .ok (.slice (some ⟨w.heap.size,0,none⟩) (n+b.length) (grownCap w (n+b.length) cap d)) (w.drew.alloc (.cells (a.toArray++(gK b).toArray++Builtin.zeroCells q.cells (grownCap w (n+b.length) cap d - (n+b.length))) d)):=by
    simp[Builtin.append_,run_underlying B,run_underlying r,sizeOf,typeInfo,zeroValue,y,L,Builtin.lenOf,Ch,G,H,I,Question.forced,o,Ku,newRow,grownCap]
    congr 2
    apply Array.ext';simp[Kr]
   have x:=l cap (by omega) (JB (.slice (some ⟨g,0,none⟩) n cap));exact⟨_,_,A,x.1,x.2,.inr rfl⟩
theorem hfM(b:List UInt8):Uv w [.int .u8] (b.map dc) (gK b) (JA b.length []):=by
 refine⟨by simp[gK],λk d e a f=>?_⟩;have c:k<b.length:=by have:=(KS.1 a).1;simpa using this
 have g:d=dc b[k]:=by rw[Lb,Lc c] at a;simpa using a.symm
 have h:e=[]:=by have:=KV f;exact (LW.1 this).2
 subst g h;unfold dc;simp only[bj,Z8];refine⟨.int b[k].toNat,[],.int .u8 b[k].toNat,[],[],rfl, ?_,⟨_,rfl,rfl, ?_,rfl⟩,⟨rfl,rfl⟩,rfl⟩
 ·simp only[gK,I_,JV,JI,J2,Kg];rw[Lb,Lc c];rfl
 ·rw[aL];have i:IntKind.u8.min=0:=by decide
  have j:IntKind.u8.max=255:=by decide
  have:=b[k].toNat_lt;omega
theorem nxC(afn:Rel w0 S st a w)(hd:∀d,o.dst=some d→sP st.n d)(F:e.ow≠[]→∀d,o.dst=some d→iC st d){t t':aar}{s x:aas}{c:Call}(ho:o.op= .call c)(U:c.callee= .builtin .append)(cr:c.args= #[s,x])
  (GP:c.argTypes= #[t,t']) {sx sy:X} (h1:(zQ s).val st.get st.obj=some sx) (h2:(zQ x).val st.get st.obj=some sy) (l:(ndT P o.dst t t' sx sy).val st.get st.obj=some e) (aN:e.ok=true):R P w0 S st o e a w:=by
 unfold ndT at l;split at l
 case h_2=>simp at l
 rename_i et d id b hu Dx aM;simp only[M.aY,UI] at l;obtain⟨ob,C,l⟩:=l;split at l
 case h_2=>simp at l
 rename_i G ct r u;cases E:Jn G et && cB ct [.int .u8] && Fe P et 1
 ·simp[E] at l
 simp only[E,H,M.ag,UI] at l;obtain⟨z,hz,l⟩:=l;cases ag8:Jn z.length 1
 ·simp[ag8] at l
 simp only[ag8,H,M.ab,Y] at l;simp only[Bl] at E;have KF:=Vs E.1.1;have Cr:=uG _ _ E.1.2;subst KF Cr;have F:=F (by rw[←l];simp) d aM;have fq:wF P G (r.length+b.length)=true:=by rw[←l] at aN;exact aN
 have G4:=Vs ag8;obtain⟨i,hi,bJ⟩:=TL E.2;obtain⟨i',zv,N,AV,rfl,_⟩:=xz hz;rw[hi] at N;injection N with N;subst N;obtain⟨β,φ,B⟩:=afn.core;have FU:=B.ev h1;simp only[O] at FU;have Ms:=B.ev h2;simp only[O] at Ms;obtain⟨ad9,aE,bk,dk,Ig,lE⟩:=B.aC id _ C;obtain⟨y,w',bH,W,I,gP⟩:=ndM (P:=P) (ty:=o.type) hu Dx hi AV bJ (by simpa using G4) bk b fq;have afS:aE.flatten=[]:=dk.flat rfl;have ah4:φ id=(β.val id).ownBlock.toList:=by rw[lE,afS];cases u<;>simp
 have aiz:Uc d 0 / 64=d:=jG d 0 (by omega);have Jt:id≠Uc d 0:=λe=>(F.obj id _ C).1 (e ▸ aiz);have gA:∀j,j≠Uc d 0→(β.gE (Uc d 0) y).val j=β.val j∧(β.gE (Uc d 0) y).cY j=β.cY j:=by intro j h;exact⟨by simp[L.gE,L9,h],rfl⟩
 have p:(β.gE (Uc d 0) y).val (Uc d 0)=y:=by simp[L.gE,L9]
 have bP:=B.fresh id _ C;have BO:y.ownBlock.toList.Nodup:=by cases y.ownBlock<;>simp
 have Z:∀b∈y.ownBlock.toList,b∈φ id∨b=w.heap.size:=by
  intro b f;rcases gP with m | m
  ·rw[m] at f;exact .inl (by rw[ah4];exact f)
  ·rw[m] at f;exact .inr (by simpa using f)
 have iV:∀b,(β.val id).ownBlock=some b→b∈φ id:=λb f=>by rw[ah4,f];simp
 have J:∀j g,L9 (L9 st.obj id none) (Uc d 0) (some (.row G [.int .u8] (r++b.map dc) false u)) j=some g→j≠Uc d 0→j≠id∧st.obj j=some g:=by
  intro j g h Q;simp only[L9,Q,if_false] at h;split at h
  ·cases h
  ·exact⟨by assumption,h⟩
 have gz:∀b,b<w.heap.size→(β.val id).ownBlock≠some b→w'.heap[b]? =w.heap[b]? :=λb f agK=>I.block b f (λe=>agK e.symm);have CA:∀b∈y.ownBlock.toList,∀j g,j≠id→st.obj j=some g→b ∉ φ j:=by
  intro b f j g h jV D;rcases Z b f with m | m
  ·exact B.sep id j _ _ (Ne.symm h) C jV b m D
  ·have:=((B.fresh j g jV).2 b D).2;omega
 have BK:∀K,oa (L9 (L9 st.obj id none) (Uc d 0) (some (.row G [.int .u8] (r++b.map dc) false u))) (β.gE (Uc d 0) y) K→oa st.obj β K∨w.heap.size≤K:=by
  rintro K (⟨j,g,h,D⟩ | U)
  case inr=>exact .inl (.inr U)
  by_cases A:j=Uc d 0
  ·subst A;simp only[L9,if_true,Y] at h;subst h;simp only[ar,p] at D;rcases Z K D with m | m
   ·exact .inl (.inl ⟨id,_,C,by simp only[ar];rw[←ah4];exact m⟩)
   ·exact .inr (by omega)
  ·obtain⟨_,q⟩:=J j g h A;refine .inl (.inl ⟨j,g,q, ?_⟩);cases g<;>simp only[ar,gA j A] at D ⊢ <;>exact D
 refine HI afn hd (v:=y) (w':=w') ?_ (afn.kept.grown I (λb f=>(bP.2 b (iV b f)).1))
  ⟨β.gE (Uc d 0) y,L9 φ (Uc d 0) y.ownBlock.toList, ?_, ?_⟩
 ·simp[execOp,ho,resolve,U,cr,GP,invoke,builtin,FU.1,Ms.1,bH]
 ·rw[←l];show V w0 S st.get (L9 (L9 st.obj id none) (Uc d 0) (some (.row G [.int .u8] (r++b.map dc) false u))) _ _ _ _;refine B.step (λj=>j=Uc d 0) I.size (λb f hn=>gz b f (λe=>hn (.inl ⟨id,_,C,by simp[ar,e]⟩))) BK
   (λk j h e=>F.slot k j h (by rw[e];exact aiz)) gA ?_ ?_
  ·intro j g h;by_cases A:j=Uc d 0
   ·subst A;have q:=h;simp only[L9,if_true,Y] at q;subst q;refine .inr ⟨?_,by simp only[L9,if_true];exact BO, ?_⟩
    ·have Ah:=(dk.append (by simpa using bk.1) (hfM (w:=w) b)).mono (w':=w') I.size (λb f=>by rw[KM,afS] at f;simp at f)
     refine⟨ad9++gK b,aE++JA b.length [], ?_,Ah, ?_, ?_⟩
     ·rw[p];have:(r++b.map dc).length=r.length+b.length:=by simp
      rw[this];exact W
     ·rw[KM,afS];simp
     ·rw[p,KM,afS];cases u<;>simp[L9]
    ·simp only[L9,if_true];intro b f;rcases Z b f with m | m
     ·have:=bP.2 b m;exact⟨this.1,by have:=I.size;omega⟩
     ·subst m;exact⟨.inl afn.kept.size,W.lt _ f⟩
   ·obtain⟨T,q⟩:=J j g h A;refine .inl ⟨A,q,by simp[L9,A], ?_, ?_⟩
    ·intro k hk e;exact (F.obj j g q).2 k hk (by rw[e];exact aiz)
    ·intro b f;have gi:=al (B.aC j g q) b f;refine gz b ((B.fresh j g q).2 b gi).2 (λe=>?_);exact B.sep id j _ _ (Ne.symm T) C q b (iV b e) gi
  ·intro k j ok g agK hk h b f;by_cases Ii:k=Uc d 0
   ·subst Ii;have Q:j≠Uc d 0:=Ne.symm agK;obtain⟨T,q⟩:=J j g h Q;simp only[L9,if_true] at f;simp only[L9,Q,if_false];exact CA b f j g T q
   ·obtain⟨Bc,Cw⟩:=J k ok hk Ii;simp only[L9,Ii,if_false] at f;by_cases A:j=Uc d 0
    ·subst A;simp only[L9,if_true];exact λm=>CA b m k ok Bc Cw f
    ·obtain⟨T,q⟩:=J j g h A;simp only[L9,A,if_false];exact B.sep k j ok g agK Cw q b f
 ·rw[←l];unfold O;exact⟨p.symm,W.one⟩
end
theorem nFf{α:Type}{l:Array α}{x:α}(h:l.toList=[x]):l= #[x]:=by
 cases l;simp at h;subst h;rfl
theorem XB{α:Type}{l:Array α}{x y:α}(h:l.toList=[x,y]):l= #[x,y]:=by
 cases l;simp at h;subst h;rfl
theorem nEX{P:aao}{Γ:Ctx}{w0:aap}{S:Own}{st:E}{o:Oper}{e:Nf}{a:Act}{w:aap}(eW:qk P Γ)(D:Rel w0 S st a w)
  (b:(evalOp P Γ o).val st.get st.obj=some e) (G:e.ok=true) (ads:∀d,o.dst=some d→sP st.n d) (agL:e.ow≠[]→∀d,o.dst=some d→iC st d):R P w0 S st o e a w:=by
 unfold evalOp at b;split at b
 ·rename_i x k;simp only[M.ag,UI,M.ab,Y] at b;obtain⟨s,B,rfl⟩:=b;exact nod D ads (.inl k) B rfl
 ·rename_i x k;simp only[M.ag,UI,M.ab,Y] at b;obtain⟨s,B,rfl⟩:=b;exact nod D ads (.inr k) B rfl
 ·rename_i c x y k;simp only[M.ag,UI] at b;obtain⟨sc,h0,ahj,B,sy,ad_,b⟩:=b;exact nka D ads k h0 B ad_ b
 ·rename_i t k;split at b
  ·rename_i d A;simp only[M.ag,UI,M.ab,Y] at b;obtain⟨z,aeX,rfl⟩:=b;exact nio D A (ads d A) (agL (by simp) d A) k aeX rfl
  ·simp at b
 ·rename_i t x k;split at b
  ·rename_i d A;simp only[M.ag,UI,M.ab,Y] at b;obtain⟨s,hs,cs,gg,rfl⟩:=b;exact by4 D A (ads d A) (agL (by simp) d A) k hs gg rfl
  ·simp at b
 ·rename_i t T k;split at b
  ·rename_i fs L;split at b
   ·rename_i places hp;simp only[M.ag,UI,M.ab,Y] at b;obtain⟨z,aeX,cs,gg,rfl⟩:=b;exact nyh D ads k L hp aeX gg rfl
   ·simp at b
  ·simp at b
 ·rename_i t len T k;cases K:VS Γ o.dst with
  | true=>
   simp only[K,H] at b;unfold nEU at b;split at b
   ·rename_i V d L A;split at b
    ·rename_i F ts Cr GD;cases C:Fe P V F.length && KN 0 F.length && Jn len T.toList.length && Kl (len*F.length) 16777216
     ·simp only[C,J,M.AD,reduceCtorEq] at b
     simp only[C,H,M.ag,UI] at b;obtain⟨z,aeX,q,hq,b⟩:=b;cases N:XG (gk q.2)
     ·simp[N] at b
     simp only[N,H,M.ab,Y] at b;simp only[Bl] at C;exact nEl D A (ads d A) (agL (by rw[←b];simp) d A) k L C.1.1.1 (JM C.1.1.2) (Vs C.1.2) (JM C.2) ⟨z,aeX⟩ hq N b.symm
    ·simp at b
   ·simp at b
  | false=>
  simp only[K,J] at b;split at b
  ·rename_i V d L A;split at b
   ·rename_i F Cr;cases C:Fe P V F.length && KN 0 F.length && Jn len T.toList.length && Kl (len*F.length) 16777216
    ·simp only[C,J,M.AD,reduceCtorEq] at b
    simp only[C,H,M.ag,UI] at b;obtain⟨z,aeX,q,hq,b⟩:=b;cases N:Eg q.2.1
    ·simp[N] at b
    simp only[N,H,M.ab,Y] at b;simp only[Bl] at C;exact nxZ D A (ads d A) (agL (by rw[←b];simp) d A) k L C.1.1.1 (JM C.1.1.2) (Vs C.1.2) (JM C.2) hq ⟨z,aeX⟩ N b.symm
   ·simp at b
  ·simp at b
 ·rename_i t x k;simp only[M.ag,UI] at b;obtain⟨s,B,b⟩:=b;unfold nDQ at b;split at b
  ·rename_i id i z off;simp only[M.aY,UI] at b;obtain⟨ob,W,b⟩:=b;split at b
   ·rename_i t' F ts I hl;cases K:VS Γ o.dst with
    | false=>
     simp only[K,J] at b;exact nFb D ads k B W b G
    | true=>
     simp only[K,H] at b;cases ET:fC P t with
     | true=>
      simp only[ET,H] at b;unfold nbb at b;split at b
      ·rename_i e' t1 d j jW A Lh;cases C:Jn z F.length && Jn (Qn F) 1 && Kl (off+j.size) F.length
       ·simp[C] at b
       simp only[C,H,M.ab,Y] at b;simp only[Bl] at C;obtain⟨⟨b1,b2⟩,b3⟩:=C;have b1:=Vs b1;subst b1;have O:i<I.length:=by rw[←b] at G;simpa using G
       exact nrt D A (ads d A) (agL (by rw[←b];simp) d A) k B W jW (Vs b2) ET Lh (JM b3) O (by rw[←b]) (by rw[←b]) (by rw[←b])
      ·simp at b
     | false=>
     simp only[ET,J] at b;unfold nCD at b;split at b
     ·rename_i e' t1 d jW A;cases C:Jn z F.length && Jn (Qn F) 1 && !(fC P t) && (P.underlying t).isSome
      ·simp[C] at b
      simp only[C,H,M.ab,Y] at b;simp only[Bl,Bool.not_eq_true'] at C;obtain⟨⟨⟨b1,b2⟩,b3⟩,b4⟩:=C;have b1:=Vs b1;subst b1;obtain⟨td,L⟩:=Option.isSome_iff_exists.1 b4;have O:i<I.length:=by rw[←b] at G;simpa using G
      exact no_ D A (ads d A) (agL (by rw[←b];simp) d A) k B W jW (Vs b2) b3 L O (by rw[←b]) (by rw[←b]) (by rw[←b])
     ·simp at b
   ·exact naD D ads k B b G
  ·exact naD D ads k B b G
 ·rename_i t x y k;simp only[M.ag,UI] at b;obtain⟨ahj,B,sy,ad_,b⟩:=b;have Z:(IG P t ahj sy).val st.get st.obj=some e→R P w0 S st o e a w:=by
   clear b;intro b;unfold IG at b;simp only[M.ag,UI] at b;obtain⟨b7,gg,b⟩:=b;cases dT:Fe P t b7.length
   ·simp[dT] at b
   simp only[dT,H] at b;split at b
   ·rename_i id off;simp only[M.aY,UI] at b;obtain⟨ob,W,b⟩:=b;split at b
    ·rename_i t' cells;cases eE:Kl (off+b7.length) cells.length
     ·simp[eE] at b
     simp only[eE,H,M.ab,Y] at b;exact nsg D ads k B ad_ gg dT W (JM eE) b.symm
    ·simp at b
   ·rename_i id i z off;simp only[M.aY,UI] at b;obtain⟨ob,W,b⟩:=b;split at b
    ·rename_i t' F I fz u;cases eE:Jn z F.length && Kl (off+b7.length) F.length
     ·simp[eE] at b
     simp only[eE,H,M.ag,UI] at b;obtain⟨r,hr,b⟩:=b;cases Q:V8 id r.2.1 && Eg r.2.1
     ·simp[Q] at b
     simp only[Q,H,M.ab,Y] at b;simp only[Bl] at eE Q;have aeX:=Vs eE.1;subst aeX;have O:i<I.length:=by rw[←b] at G;simpa using G
     exact nah D ads k B ad_ gg dT W (JM eE.2) hr Q.1 Q.2 O (by rw[←b]) (by rw[←b]) (by rw[←b])
    ·simp at b
   ·simp at b
  unfold noO at b;split at b
  ·rename_i id i z off;simp only[M.aY,UI] at b;obtain⟨ob,W,b⟩:=b;split at b
   ·rename_i t' F ts I hl;unfold ntt at b;simp only[M.ag,UI] at b;obtain⟨b7,gg,b⟩:=b;cases dT:Fe P t b7.length && Jn z F.length && Kl (off+b7.length) F.length
    ·simp[dT] at b
    simp only[dT,H] at b;simp only[Bl] at dT;obtain⟨⟨s1,s2⟩,s3⟩:=dT;have s2:=Vs s2;subst s2;have s3:=JM s3;cases hf:Sw ((F.drop off).take b7.length) with
    | true=>
     simp only[hf,H,M.ag,UI] at b;obtain⟨r,hr,b⟩:=b;cases Q:r.2.1.isEmpty
     ·simp[Q] at b
     simp only[Q,H,M.ab,Y] at b;have O:i<I.length:=by rw[←b] at G;simpa using G
     exact neD D ads k B ad_ gg s1 W s3 hf hr O (by rw[←b]) (by rw[←b]) (by rw[←b])
    | false=>
     simp only[hf,J] at b;cases K3:Jn (Qn ((F.drop off).take b7.length)) (Qn F)
     ·simp[K3] at b
     simp only[K3,H,M.ag,UI] at b;obtain⟨r,hr,b⟩:=b;cases Q:XG (id::gk r.2)
     ·simp[Q] at b
     simp only[Q,H,M.ab,Y] at b;have O:i<I.length∧cf hl i=true:=by rw[←b] at G;simpa using G
     exact nsc D ads k B ad_ gg s1 W s3 (Vs K3) hr Q O.1 O.2 (by rw[←b]) (by rw[←b]) (by rw[←b])
   ·exact Z b
  ·exact Z b
 ·rename_i x k;simp only[M.ag,UI] at b;obtain⟨s,B,b⟩:=b;exact nwb D ads k B b
 ·rename_i op t x y t' k;simp only[M.ag,UI] at b;obtain⟨ahj,B,sy,ad_,b⟩:=b;exact nL4 D ads k B ad_ b G
 ·rename_i op t x k;simp only[M.ag,UI] at b;obtain⟨ahj,B,b⟩:=b;exact nbl D ads k B b
 ·rename_i s t x k;simp only[M.ag,UI] at b;obtain⟨ahj,B,b⟩:=b;exact nzZ D ads agL k B b
 ·rename_i t l c k;simp only[M.ag,UI] at b;obtain⟨sl,B,sc,ad_,b⟩:=b;cases K:VS Γ o.dst with
  | true=>
   simp only[K,H] at b;unfold nn7 at b;split at b
   ·rename_i V n m d L A;split at b
    ·rename_i F ts i Cr GD O;cases C:Jn i.size F.length && KN 0 F.length
     ·simp[C] at b
     simp only[C,H,M.ag,UI] at b;obtain⟨z,aeX,r,hr,b⟩:=b;cases C_:(gk r.2).isEmpty
     ·simp[C_] at b
     simp only[C_,H,M.ab,Y] at b;simp only[Bl] at C;exact nlu D A (ads d A) (agL (by rw[←b];simp) d A) k B ad_ L O (Vs C.1) aeX hr (by simpa using C_) b.symm G
    ·simp at b
   ·simp at b
  | false=>
  simp only[K,J] at b;unfold niA at b;split at b
  ·rename_i V n m d L A;split at b
   ·rename_i F i Cr O;cases C:Jn i.size F.length && KN 0 F.length
    ·simp[C] at b
    simp only[C,H,M.ag,UI,M.ab,Y] at b;obtain⟨z,aeX,r,hr,b⟩:=b;simp only[Bl] at C;exact nik D A (ads d A) (agL (by rw[←b];simp) d A) k B ad_ L O (Vs C.1) aeX hr b.symm G
   ·simp at b
  ·simp at b
 ·rename_i t x lo O mx k;split at b
  ·simp only[M.ag,UI] at b;obtain⟨ahj,B,sl,ad_,sh,h3,b⟩:=b;cases K:VS Γ o.dst
   ·simp only[K,J] at b;exact ngb D ads k B ad_ h3 b G
   ·simp only[K,H] at b;exact nfv D ads k B ad_ h3 b G
  ·simp at b
 ·rename_i t x f k;split at b
  ·rename_i fs L;split at b
   ·rename_i fd hf;cases aeX:Fe P fd.type 0
    ·simp only[aeX,J] at b;split at b
     ·simp at b
     ·rename_i i O;simp only[M.ag,UI] at b;obtain⟨s,B,b⟩:=b;exact nmj D ads k L hf aeX O B b
    ·simp[aeX] at b
   ·simp at b
  ·simp at b
 ·rename_i t x i k;simp only[M.ag,UI] at b;obtain⟨ahj,B,si,ad_,b⟩:=b;exact nuk D ads k B ad_ b G
 ·rename_i t x i k;simp only[M.ag,UI] at b;obtain⟨ahj,B,si,ad_,b⟩:=b;exact nm0 D ads k B ad_ b G
 ·rename_i x i k;simp only[M.ag,UI] at b;obtain⟨ahj,B,b⟩:=b;split at b
  ·rename_i vs;split at b
   ·rename_i v hvi;simp only[M.ab,Y] at b;exact ncz D ads k B hvi b.symm
   ·simp at b
  ·simp at b
 ·rename_i c k;split at b
  ·rename_i g hg;simp only[M.ag,UI] at b;obtain⟨l,hl,b⟩:=b;cases ki:F5 Γ g with
   | none=>
    unfold ov at b;rw[ki] at b;simp at b
   | some s=>
    cases K:s.Hl with
    | true=>
     unfold ov at b;rw[ki] at b;simp only[K,H] at b;simp at b
    | false=>
    cases hp:s.pt with
    | some q=>
     obtain⟨t,bF⟩:=q;cases A:o.dst with
     | none=>
      unfold ov at b;rw[ki,A] at b;simp only[K,J,hp] at b;simp at b
     | some d=>
      rw[A] at b;exact nEc eW ki K hp D A (ads d A) (λh=>agL h d A) k hg hl b G
    | none=>
    cases Q:s.ms with
    | nil=>
     cases A:o.dst with
     | none=>
      unfold ov at b;rw[ki,A] at b;simp only[K,J,hp,Q] at b;simp at b
     | some d=>
      rw[A] at b;exact nbU eW ki K hp Q D A (ads d A) (λh=>agL h d A) k hg hl b G
    | cons m ms=>
     have hv':(Ny s o.dst l).val st.get st.obj=some e:=by unfold ov at b;rw[ki] at b;simp only[K,J,hp,Q] at b;exact b
     refine nuP eW ki K hp (by rw[Q];simp) D ads (λd A h=>agL h d A) (us:=c.args.toList.map a.eval) (λfn hf C N=>?_) (λβ φ hc=>Yk hc _ l hl) hv' G;have CD:c.args.map a.eval=(c.args.toList.map a.eval).toArray:=by rw[←Array.toList_map,LV]
     rw[←CD];exact Nu k hg hf C N
  ·rename_i C;split at b
   ·rename_i x t X ht;simp only[M.ag,UI] at b;obtain⟨s,B,b⟩:=b;exact niZ D ads k C (nFf X) (nFf ht) B b
   ·simp at b
  ·rename_i C;split at b
   ·rename_i x y X;simp only[M.ag,UI] at b;obtain⟨s,B,s2,ad_,b⟩:=b;exact nC3 (mx:=false) D ads k C (XB X) B ad_ b
   ·simp at b
  ·rename_i C;split at b
   ·rename_i x y X;simp only[M.ag,UI] at b;obtain⟨s,B,s2,ad_,b⟩:=b;exact nC3 (mx:=true) D ads k C (XB X) B ad_ b
   ·simp at b
  ·rename_i C;split at b
   ·rename_i s x t t' X ht;cases lC:Jn t t'
    ·simp only[lC,J,M.ag,UI] at b;obtain⟨U,B,ahj,ad_,b⟩:=b;exact nxC D ads agL k C (XB X) (XB ht) B ad_ b G
    simp only[lC,H] at b;have lD:=Vs lC;subst lD;simp only[M.ag,UI] at b;obtain⟨U,B,ahj,ad_,b⟩:=b;cases K:VS Γ o.dst with
    | true=>
     simp only[K,H] at b;unfold nom at b;split at b
     ·rename_i V d L A;split at b
      ·rename_i F ts Cr GD;cases aiA:Fe P V F.length && KN 0 F.length
       ·simp[aiA] at b
       simp only[aiA,H,M.ag,UI] at b;obtain⟨z,aeX,b⟩:=b;cases kJ:Jn z.length F.length
       ·simp[kJ] at b
       simp only[kJ,H,M.ag,UI] at b;obtain⟨p,LL,q,LM,b⟩:=b;cases N:XG (p.2++q.2)
       ·simp[N] at b
       simp only[N,H,M.ab,Y] at b;simp only[Bl] at aiA;have fq:wF P V (p.1.length+q.1.length)=true:=by rw[←b] at G;exact G
       exact nyx D A (ads d A) (agL (by rw[←b];simp) d A) k C (XB X) (XB ht) B ad_ L aiA.1 (JM aiA.2) aeX (Vs kJ) LL LM N fq (by rw[←b]) (by rw[←b]) (by rw[←b])
      ·simp at b
     ·simp at b
    | false=>
    simp only[K,J] at b;unfold nsX at b;split at b
    ·rename_i V d L A;split at b
     ·rename_i F Cr;cases aiA:Fe P V F.length && KN 0 F.length
      ·simp[aiA] at b
      simp only[aiA,H,M.ag,UI] at b;obtain⟨z,aeX,b⟩:=b;cases kJ:Jn z.length F.length
      ·simp[kJ] at b
      simp only[kJ,H] at b;have G4:=Vs kJ;simp only[Bl] at aiA;have kF:0<F.length:=JM aiA.2;split at b
      ·simp only[M.ag,UI,M.ab,Y] at b;obtain⟨q,hq,b⟩:=b;have fq:wF P V q.1.length=true:=by rw[←b] at G;exact G
       exact niK D A (ads d A) (agL (by rw[←b];simp) d A) k C (XB X) (XB ht) B ad_ L aiA.1 kF aeX G4 hq fq (by rw[←b]) (by rw[←b]) (by rw[←b])
      ·rename_i id;simp only[M.aY,UI] at b;obtain⟨ob,W,b⟩:=b;split at b
       ·rename_i t' e' r u;cases he:Jn t' V && cB e' F
        ·simp[he] at b
        simp only[he,H,M.ag,UI] at b;obtain⟨q,hq,b⟩:=b;cases N:V8 id q.2.1
        ·simp[N] at b
        simp only[N,H,M.ab,Y] at b;simp only[Bl] at he;have e1:=Vs he.1;have e2:=uG _ _ he.2;subst e1 e2;have fq:wF P t' (r.length+q.1.length)=true:=by rw[←b] at G;exact G
        exact nvL D A (ads d A) (agL (by rw[←b];simp) d A) k C (XB X) (XB ht) B ad_ W L aiA.1 kF aeX G4 hq N fq (by rw[←b]) (by rw[←b]) (by rw[←b])
       ·simp at b
      ·simp at b
     ·simp at b
    ·simp at b
   ·simp at b
  ·rename_i C;split at b
   ·rename_i s x t t' X ht;simp only[M.ag,UI] at b;obtain⟨U,B,ahj,ad_,b⟩:=b;exact nAJ D ads k C (XB X) (XB ht) B ad_ b G
   ·simp at b
  ·simp at b
 ·simp at b
structure j9 (st IM:E):Prop where
 n:IM.n=st.n
 ok:st.ok=true
 get:∀i,i ∉ IM.ls→IM.get i=st.get i
 ls:∀i∈st.ls,i∈IM.ls
 obj:∀id o,st.obj id=some o→id ∉ IM.lm→IM.obj id=some o
 lm:∀i∈st.lm,i∈IM.lm
theorem j9.refl{st:E}(h:st.ok=true):j9 st st:=⟨rfl,h,λ_ _=>rfl,λ_ h=>h,λ_ _ h _=>h,λ_ h=>h⟩
theorem j9.trans{a b c:E}(h:j9 a b)(k:j9 b c):j9 a c:=
 ⟨k.n.trans h.n,h.ok,λi d=>(k.get i d).trans (h.get i (λe=>d (k.ls i e))),λi d=>k.ls i (h.ls i d),
  λid o f d=>k.obj id o (h.obj id o f (λe=>d (k.lm id e))) d,λi d=>k.lm i (h.lm i d)⟩
theorem nhw{ow:List (Nat×Option xC)}{h:Nat→Option xC}{j:Nat}(a:j ∉ ow.map (·.1)):ji ow h j=h j:=by
 induction ow with
 | nil=>rfl
 | cons x l b=>
  obtain⟨i,c⟩:=x;simp only[Lk,Jw,not_or] at a;simp only[ji,L9,a.1,if_false];exact b a.2
theorem ndc{st:E}{d:Option Nat}{e:Nf}(c:(st.apply d e).ok=true):j9 st (st.apply d e):=by
 have g:st.ok=true:=by simp only[E.apply,cI] at c;exact c.1.1
 refine⟨rfl,g,λi a=>?_,λi a=>?_,λid o f a=>?_,λi a=>?_⟩
 ·cases d with
  | none=>rfl
  | some d=>
   have j:i≠d:=λh=>a (by simp[E.apply,h]);rw[apply_get];simp[L9,j]
 ·cases d<;>simp[E.apply,a]
 ·rw[VK];simp only[E.apply,JC,not_or] at a;rw[nhw a.2.1];cases l:e.cw with
  | none=>exact f
  | some x=>
   obtain⟨k,off,m⟩:=x;simp only[l,Mo] at a;rw[←f];simp only[ey];cases st.obj k with
   | none=>rfl
   | some b=>cases b<;>simp[L9,a.1]
 ·simp only[E.apply,JC];exact .inr (.inr a)
theorem om{st:E} :st.fail.ok=false:=rfl
theorem naN{P:aao}{Γ:Ctx}{st:E}{o:Oper}(a:(st.cP P Γ o).ok=true):j9 st (st.cP P Γ o):=by
 unfold E.cP at a ⊢;split
 ·rename_i e r b;simp only[b] at a;cases c:jO o.dst e st
  ·simp[c,om] at a
  ·simp only[c,H] at a ⊢;exact ndc a
 ·rename_i b;simp[b,om] at a
theorem nDx(st:E)(s:Nat)(b:Bool):(st.gB s b).get=L9 st.get s (.kb b):=by
 funext i;show XH ((s,.kb b)::st.sl) i=_;simp only[XH,L9,E.get];cases a:Jn s i
 ·have c:=Mp a;rw[if_neg (λh=>c h.symm)];rfl
 ·simp[(Vs a).symm]
theorem Z4{st:E}{s:Nat}{b:Bool}(c:st.ok=true):j9 st (st.gB s b):=by refine⟨rfl,c,λi a=>?_,λi a=>by simp[E.gB,a],λ_ _ h _=>h,λ_ h=>h⟩;rw[nDx];have:i≠s:=λh=>a (by simp[E.gB,h]);simp[L9,this]
theorem jw{i:Nat}{l:List Nat} :Rf i l=true↔i∈l:=by
 induction l with
 | nil=>simp[Rf]
 | cons k l a=>
  simp only[Rf,Bool.or_eq_true,Jw,a];constructor
  ·rintro (h | h)
   ·exact .inl (Vs h).symm
   ·exact .inr h
  ·rintro (rfl | h)
   ·exact .inl (Nat.beq_refl i)
   ·exact .inr h
theorem nvQ{i:Nat}{l:List Nat} :i∈dedup l↔i∈l:=by
 induction l with
 | nil=>simp[dedup]
 | cons k l a=>
  simp only[dedup];cases b:Rf k l
  ·simp[a]
  ·simp only[H,Jw,a];constructor
   ·exact .inr
   ·rintro (rfl | h)
    ·exact jw.1 b
    ·exact h
theorem npS{g:Bool}{f h:Nat→X}{l:List (Nat×X)} :∀(r:List Nat) (i:Nat),XH (Nt g f h r l) i=if i∈r then ij g (f i) (h i) else XH l i
 | [],i=>by simp[Nt]
 | k::r,i=>by
  simp only[Nt,XH];cases b:Jn k i
  ·have c:=Mp b;simp only[J,npS r i,Jw];by_cases a:i∈r
   ·simp[a]
   ·rw[if_neg a,if_neg (λh=>h.elim (λh=>c h.symm) a)]
  ·have d:=Vs b;subst d;simp
theorem a_{c:List (Nat×xC)} :∀ {l:List Nat} {i:Nat},i∈A7 c l↔i∈l∧∃o,e6 c i=some o
 | [],i=>by simp[A7]
 | k::l,i=>by
  simp only[A7];cases d:e6 c k with
  | none=>
   simp only[a_ (l:=l),Jw];constructor
   ·rintro ⟨b,a⟩
    exact⟨.inr b,a⟩
   ·rintro ⟨rfl | b,a⟩
    ·rw[d] at a;obtain⟨o,a⟩:=a;cases a
    ·exact⟨b,a⟩
  | some o=>
   simp only[Jw,a_ (l:=l)];constructor
   ·rintro (rfl | ⟨b,a⟩)
    ·exact⟨.inl rfl,o,d⟩
    ·exact⟨.inr b,a⟩
   ·rintro ⟨rfl | b,a⟩
    ·exact .inl rfl
    ·exact .inr ⟨b,a⟩
theorem ne2{g:Bool}{f k h:Nat→Option xC} :∀(l:List Nat) (i:Nat),ji (F_ g f k l) h i=if i∈l then oe g (f i) (k i) else h i
 | [],i=>by simp[F_,ji]
 | j::l,i=>by
  simp only[F_,ji,L9,Jw];by_cases a:i=j
  ·subst a;simp
  ·simp only[a,if_false,false_or];exact ne2 l i
theorem nbk(pre:E)(g:Bool)(a b:E)(i:Nat):(merge pre g a b).obj i=if i∈A7 pre.hp (dedup (a.lm++b.lm)) then oe g (a.obj i) (b.obj i) else pre.obj i:=by show e6 (ax _ pre.hp) i=_;rw[Qt,ne2];rfl
theorem noX{pre a b:E}{g:Bool}(d:pre.ok=true)(f:(merge pre g a b).ok=true):j9 pre (merge pre g a b):=by
 refine⟨rfl,d,λi c=>?_,λi c=>wZ _ c,λi o h c=>?_,λi h=>wZ _ h⟩
 ·have c:i ∉ dedup (a.ls++b.ls)∧i ∉ pre.ls:=by simpa only[merge,JC,not_or] using c
  show XH (Nt g a.get b.get (dedup (a.ls++b.ls)) pre.sl) i=XH pre.sl i;rw[npS,if_neg c.1]
 ·have c:i ∉ A7 pre.hp (dedup (a.lm++b.lm)):=λe=>c (Ss _ e);rw[nbk,if_neg c];exact h
theorem V.sub{w0:aap}{S:Own}{f u:Nat→X}{h h':Nat→Option xC}{β:L}{φ:Nat→List Nat}{tm:Array aaq}{w:aap}(l:V w0 S f h β φ tm w)
  (x:∀j o,h' j=some o→h j=some o∨∃t m n,o= .box t n∧h j=some (.box t m)∧∀g,Z w (oa h' β) β m g→Z w (oa h' β) β n g)
  (z:∀i v,O w (oa h' β) β (f i) v→O w (oa h' β) β (u i) v):V w0 S u h' β φ tm w:=by
 have q:∀j o,h' j=some o→∃d,h j=some d∧ar β j o=ar β j d:=by
  intro j o r;rcases x j o r with a | ⟨t,m,n,rfl,a,_⟩
  ·exact⟨o,a,rfl⟩
  ·exact⟨_,a,rfl⟩
 have y:∀b,oa h' β b→oa h β b:=λb c=>c.imp (λ⟨j,o,s,c⟩=>by obtain⟨d,a,k⟩:=q j o s;exact⟨j,d,a,k ▸ c⟩) id
 have e:=l.step (h':=h') (β':=β) (φ':=φ) (w':=w) (λ_=>False) (Kp _) (λ_ _ _=>rfl) (λb c=> .inl (y b c)) (λ_ _ _ h=>h) (λ_ _=>⟨rfl,rfl⟩)
  (λid o r=>by
   rcases x id o r with a | ⟨t,m,n,rfl,a,k⟩
   ·exact .inl ⟨λh=>h,a,rfl,λ_ _ h=>h,λ_ _=>rfl⟩
   ·refine .inr ⟨?_,l.fresh id _ a⟩;have A:=(l.aC id _ a).mono (w':=w) (av':=oa h' β) (β':=β) (Kp _) (λ_ _ _=>rfl) (λb c=> .inl (y b c)) (λ_ _=>⟨rfl,rfl⟩) (λ_ _=>rfl) rfl;obtain⟨g,B,C,D,E⟩:=A;exact⟨g,B,k g C,D,E⟩)
  (λi j o p F G s b c=>by obtain⟨d,a,_⟩:=q i o G;obtain⟨H,k,_⟩:=q j p s;exact l.sep i j d H F a k b c)
 exact⟨λi=>z i _ (e.cx i),e.aC,e.fresh,e.sep,e.hX,e.bars⟩
theorem nwQ{w:aap}{av:Nat→Prop}{β:L}{g:Bool}{x y:Option xC}{o:xC}(h:oe g x y=some o):
  (cond g x y)=some o∨∃t b c,o= .box t c∧(cond g x y)=some (.box t b)∧∀d,Z w av β b d→Z w av β c d:=by
 unfold oe at h;split at h
 ·rename_i t b f c;cases a:Jn t f && Jn b.length c.length
  ·simp[a] at h
  ·simp only[a,H,Y] at h;simp only[Bl] at a;have i:=Vs a.1;have m:=Vs a.2;subst i h;refine .inr ⟨t,cond g b c,_,rfl,by cases g<;>rfl,λd n=>Z.merge g b c d m n⟩
 ·rename_i t e r j u f p z k l;cases a:Jn t f && cB e p && (j==k) && (u==l)
  ·simp[a] at h
  ·simp only[a,H,Y] at h;simp only[Bl] at a;have i:=Vs a.1.1.1;have q:=uG _ _ a.1.1.2;have s:j=k:=by simpa using a.1.2
   have v:u=l:=by simpa using a.2
   subst i q s v h;refine .inl ?_;cases g<;>rfl
 ·cases h
theorem NF{w0:aap}{S:Own}{pre b c:E}{g:Bool}{a:Act}{w:aap}(s:g=true→j9 pre.reset b∧Rel w0 S b a w)(t:g=false→j9 pre.reset c∧Rel w0 S c a w)
  (C:(merge pre g b c).ok=true):Rel w0 S (merge pre g b c) a w:=by
 have key:∀r:E,j9 pre.reset r→Rel w0 S r a w→(∀i∈r.ls,i∈b.ls++c.ls)→(∀i∈r.lm,i∈b.lm++c.lm)→(∀i v av β,O w av β (r.get i) v→O w av β (ij g (b.get i) (c.get i)) v)→
   (∀i,(cond g (b.obj i) (c.obj i))=r.obj i)→Rel w0 S (merge pre g b c) a w:=by
  intro r f d m u p y;obtain⟨β,φ,z⟩:=d.core;refine⟨d.size.trans (congrArg (· % 1099511627776) f.n),λx A=>by have q:=d.fx x A;rw[f.n] at q;exact q,d.defers,d.kept,β,φ, ?_⟩;refine z.sub (λj o l=>?_) (λi v k=>?_)
  ·rw[nbk] at l;split at l
   ·have:=nwQ (w:=w) (av:=oa (merge pre g b c).obj β) (β:=β) l;rw[y j] at this;exact this
   ·rename_i B;refine .inl (f.obj j o l (λh=>B ?_));exact a_.2 ⟨nvQ.2 (u j h),o,l⟩
  ·show O w _ β (XH (Nt g b.get c.get (dedup (b.ls++c.ls)) pre.sl) i) v;rw[npS];split
   ·exact p i v _ β k
   ·rename_i e;have:r.get i=pre.get i:=f.get i (λh=>e (nvQ.2 (m i h)));rw[this] at k;exact k
 cases g with
 | true=>
  obtain⟨f,d⟩:=s rfl;exact key b f d (λi e=>Ss _ e) (λi e=>Ss _ e) (λi v av β k=>O.merge true _ _ _ k) (λ_=>rfl)
 | false=>
  obtain⟨f,d⟩:=t rfl;exact key c f d (λi e=>wZ _ e) (λi e=>wZ _ e) (λi v av β k=>O.merge false _ _ _ k) (λ_=>rfl)
theorem Rel.reset{w0:aap}{S:Own}{st:E}{a:Act}{w:aap}(h:Rel w0 S st a w):Rel w0 S st.reset a w:=⟨h.size,h.fx,h.defers,h.kept,h.core⟩
theorem Rel.gB{w0:aap}{S:Own}{st:E}{a:Act}{w:aap}(h:Rel w0 S st a w){s:Nat}{b:Bool}(e:a.tmps.getD s undef= .bool b):Rel w0 S (st.gB s b) a w:=by
 obtain⟨β,φ,c⟩:=h.core;refine⟨h.size,h.fx,h.defers,h.kept,β,φ, ?_⟩;rw[nDx];exact⟨λi=>by
  by_cases d:i=s
  ·subst d;simp only[L9,if_true,O];exact e
  ·have:=c.cx i;show O w (oa st.obj β) β _ _;simpa only[L9,d,if_false] using this,c.aC,c.fresh,c.sep,c.hX,c.bars⟩
theorem Rel.Bp{w0:aap}{S:Own}{st:E}{a:Act}{w:aap}(h:Rel w0 S st a w){s:Nat}{g:Bool}(b:st.get s= .bool g):a.tmps.getD s undef= .bool g:=by obtain⟨β,φ,c⟩:=h.core;have:=c.cx s;rw[b] at this;simpa only[O] using this
theorem Db{P:aao}{Γ:Ctx}{ops:Array Oper}{gs:List Nat}{e:List CM→Bool} :∀(a:List Oper) (i:Nat) (b:List CM) (st:E),(Ho P Γ ops gs e a i b st).ok=true→
  j9 st (Ho P Γ ops gs e a i b st)
 | [],i,b,st,h=>by simp only[Ho] at h ⊢;simp only[cI] at h;exact⟨rfl,h.1,λ_ _=>rfl,λ_ h=>h,λ_ _ h _=>h,λ_ h=>h⟩
 | o::a,i,b,st,h=>by
  rw[Ho] at h ⊢;split
  ·rename_i f;simp[f,om] at h
  ·rename_i f;simp only[f] at h;have j:=Db a _ _ _ h;exact (ndc j.ok).trans j
  ·rename_i f;simp only[f] at h;have c:(Ho P Γ ops gs e a (i+1) (b++[ni P Γ ops i st o]) (st.cP P Γ o)).ok=true→j9 st (Ho P Γ ops gs e a (i+1) (b++[ni P Γ ops i st o]) (st.cP P Γ o)):=by intro d;have j:=Db a _ _ _ d;exact (naN j.ok).trans j
   split
   ·rename_i k;simp only[k] at h;exact c h
   ·rename_i s k;simp only[k] at h;cases m:Rf s gs
    ·simp only[m,J] at h ⊢;exact c h
    ·simp only[m,H] at h ⊢;split
     ·rename_i g l;simp only[l] at h;have n:(st.cP P Γ o).ok=true:=by
       have d:=h;simp only[merge,Vn] at d;cases g with
       | true=>simp only[H] at d;exact (Db a _ _ _ d).ok
       | false=>simp only[J] at d;exact (Db a _ _ _ d).ok
      exact (naN n).trans (noX n h)
     ·rename_i l;have d:(Ho P Γ ops gs e a (i+1) (b++[ni P Γ ops i st o]) (st.cP P Γ o)).ok=true:=by
       revert h;split
       ·rename_i g p;exact absurd p (l g)
       ·exact id
      exact c d
theorem fm{b l:List Nat}(h:Xb b l=true):∀i∈l,i / 64 ∉ b:=by
 induction l with
 | nil=>simp
 | cons k l c=>
  simp only[Xb,Bl,Bool.not_eq_true'] at h;intro i a;rcases Jw.1 a with rfl | a
  ·intro d;rw[jw.2 d] at h;simp at h
  ·exact c h.2 i a
theorem nrp{l:List (Nat×X)}{i:Nat} :XH l i= .ga∨∃x∈l,XH l i=x.2:=by
 induction l with
 | nil=>exact .inl rfl
 | cons y l a=>
  obtain⟨k,s⟩:=y;simp only[XH];cases Jn k i
  ·rcases a with h | ⟨x,b,h⟩
   ·exact .inl h
   ·exact .inr ⟨x,J6 _ b,h⟩
  ·exact .inr ⟨_,Ks ..,rfl⟩
theorem nbO{l:List (Nat×xC)}{i:Nat}{b:xC}(h:e6 l i=some b):(i,b)∈l:=by
 induction l with
 | nil=>simp[e6] at h
 | cons y l c=>
  obtain⟨k,s⟩:=y;simp only[e6] at h;cases a:Jn k i
  ·simp only[a,J] at h;exact J6 _ (c h)
  ·simp only[a,H,Y] at h;rw[Vs a,h];exact Ks ..
theorem nzp{f:List Nat}{st:E}(h:HQ f st=true):∀d∈f,iC st d:=by
 intro d b;simp only[HQ,Bl,List.all_eq_true] at h;constructor
 ·intro i j a;rcases nrp (l:=st.sl) (i:=i) with c | ⟨x,m,c⟩
  ·have:st.get i= .ga:=c;rw[this] at a;simp[zX] at a
  ·have:st.get i=x.2:=c;rw[this] at a;exact λe=>fm (h.1 x m) j a (e ▸ b)
 ·intro j o a;have g:=h.2 _ (nbO a);refine⟨λe=>fm g j (Ks ..) (e ▸ b),λk n e=>fm g k (J6 _ n) (e ▸ b)⟩
section
variable {P:aao} {Γ:Ctx} {w0:aap} {S:Own} {ops:Array Oper} {gs:List Nat}
theorem kx{st:E}{o:Oper}(h:(st.cP P Γ o).ok=true):∃e s r,(evalOp P Γ o).run st.get st.obj=some (e,s,r)∧jO o.dst e st=true∧st.cP P Γ o=st.apply o.dst e:=by
 unfold E.cP at h ⊢;split at h
 ·rename_i e r b;obtain⟨s,r⟩:=r;cases a:jO o.dst e st
  ·simp[a,om] at h
  ·exact⟨e,s,r,b,a,by simp[b,a]⟩
 ·simp[om] at h
theorem npn(k:qk P Γ){st:E}{o:Oper}{a:Act}{w:aap}(m:Rel w0 S st a w)(h:(st.cP P Γ o).ok=true)(Q:Exit→Act→aap→Prop):
  o.wp P a w (λi w'=>∃v,i=a.put o.dst v∧Rel w0 S (st.cP P Γ o) i w') Q:=by
 obtain⟨e,s,r,n,b,p⟩:=kx h;rw[p] at h ⊢;simp only[E.apply,cI] at h;refine nEX k m (M.dX _ n) h.1.2 (λd c=>?_) (λf d c=>?_) Q
 ·have:=h.2;rw[c] at this;exact CV this
 ·unfold jO at b;rw[c] at b;split at b
  ·rename_i t _ g;injection g with g;subst g;exact nzp b d (Mo.2 rfl)
  ·rename_i q;cases j:e.ow with
   | nil=>exact absurd j f
   | cons x l=>exact (q x l d j rfl).elim
theorem nyJ{st:E}{o:Oper}{a:Act}{w:aap}{b:Bool}(l:Rel w0 S st a w)(h:yG ops st o=some b):Region.wanted o (yielded ops a.tmps)=b:=by
 obtain⟨β,φ,m⟩:=l.core;unfold yG at h;unfold Region.wanted;split at h
 ·rename_i f;simp only[f];simpa using h
 ·rename_i j i f;simp only[f];split at h
  ·cases h
  ·rename_i s k;have d:=m.cx s;split at h
   ·rename_i n g;rw[g] at d;simp only[O] at d;have:a.tmps[s]? =some (.bool n):=by
     rw[My] at d;cases e:a.tmps[s]? with
     | none=>rw[e] at d;simp[undef] at d
     | some v=>rw[e] at d;simpa using d
    simp only[yielded,k,Option.bind_some,this];have h:=Option.some.inj h;rw[←h];rfl
   ·rename_i g;rw[g] at d;simp only[O] at d;have:∀c,a.tmps[s]? ≠some (.bool c):=by intro c e;rw[My,e] at d;simp[undef] at d
    have p:yielded ops a.tmps j=none:=by unfold yielded;rw[k];simp only[Option.bind_some]
    rw[p];have h:=Option.some.inj h;rw[←h];rfl
   ·cases h
theorem nkf{st:E}{o:Oper}{a:Act}{w:aap}(b:Rel w0 S st a w)(h:(st.skip o.dst).ok=true):Rel w0 S (st.skip o.dst) (a.put o.dst undef) w:=by obtain⟨β,φ,c⟩:=b.core;refine L8 b (λd e=>?_) b.kept ⟨β,φ,c,by simp[O]⟩;simp only[E.skip,E.apply,cI] at h;have:=h.2;rw[e] at this;exact CV this
theorem Rel.HM{st:E}{a:Act}{w:aap}(c:Rel w0 S st a w)(b:Bool):Rel w0 S {st with ok:=b} a w:=⟨c.size,c.fx,c.defers,c.kept,c.core⟩
theorem E7{pre a b:E}{g:Bool}(h:(merge pre g a b).ok=true):(g=true→a.ok=true)∧(g=false→b.ok=true):=by
 simp only[merge,Vn] at h;cases g
 ·exact⟨by simp,λ_=>h⟩
 ·exact⟨λ_=>h,by simp⟩
theorem Gd(h:qk P Γ){j:List CM→Bool}{Q:Exit→Act→aap→Prop} :∀(c:List Oper) (i:Nat) (d:List CM) (st:E) (a:Act) (w:aap),Rel w0 S st a w→
  (Ho P Γ ops gs j c i d st).ok=true→(∀f w',Rel w0 S (Ho P Γ ops gs j c i d st) f w'→Q .normal f w')→wpList P ops Q c a w
 | [],i,d,st,a,w,hR,aN,hQ=>by simp only[Ho] at hQ;exact hQ a w (hR.HM _)
 | o::c,i,d,st,a,w,hR,aN,hQ=>by
  rw[Ho] at aN hQ;cases p:yG ops st o with
  | none=>simp[p,om] at aN
  | some b=>
   simp only[p] at aN hQ;have x:=nyJ hR p;unfold wpList;cases b with
   | false=>
    rw[if_neg (by rw[x];simp)];simp only at aN hQ;exact Gd h c _ _ _ _ w (nkf hR (Db c _ _ _ aN).ok) aN hQ
   | true=>
    rw[if_pos x];simp only at aN hQ;refine .inl ?_;have e:(Ho P Γ ops gs j c (i+1) (d++[ni P Γ ops i st o]) (st.cP P Γ o)).ok=true→
      (∀f w',Rel w0 S (Ho P Γ ops gs j c (i+1) (d++[ni P Γ ops i st o]) (st.cP P Γ o)) f w'→Q .normal f w')→o.wp P a w (wpList P ops Q c) Q:=by
     intro y D;have k:=(Db c _ _ _ y).ok;refine Oper.wp_mono ?_ (npn h hR k Q)
     rintro f w' ⟨v,rfl,l⟩
     exact Gd h c _ _ _ _ w' l y D
    split at aN
    ·rename_i k;simp only[k] at hQ;exact e aN hQ
    ·rename_i s k;simp only[k] at hQ;cases z:Rf s gs
     ·simp only[z,J] at aN hQ;exact e aN hQ
     ·simp only[z,H] at aN hQ;split at aN
      ·rename_i g m;simp only[m] at hQ;have n:=E7 aN;have q:(st.cP P Γ o).ok=true:=by
        cases g with
        | true=>exact (Db c _ _ _ (n.1 rfl)).ok
        | false=>exact (Db c _ _ _ (n.2 rfl)).ok
       refine Oper.wp_mono ?_ (npn h hR q Q)
       rintro f w' ⟨v,rfl,l⟩
       have A:=l.Bp m;cases g with
       | true=>
        have B:=n.1 rfl;refine Gd h c (i+1) (d++[ni P Γ ops i st o]) ((st.cP P Γ o).reset.gB s true) _ w' (l.reset.gB A) B ?_;intro r t u;exact hQ r t (NF (λ_=>⟨(Z4 (st:=(st.cP P Γ o).reset) q).trans (Db c _ _ _ B),u⟩) (by simp) aN)
       | false=>
        have C:=n.2 rfl;refine Gd h c (i+1) (d++[ni P Γ ops i st o]) ((st.cP P Γ o).reset.gB s false) _ w' (l.reset.gB A) C ?_;intro r t u;exact hQ r t (NF (by simp) (λ_=>⟨(Z4 (st:=(st.cP P Γ o).reset) q).trans (Db c _ _ _ C),u⟩) aN)
      ·rename_i m;have Z:∀f w',Rel w0 S (Ho P Γ ops gs j c (i+1) (d++[ni P Γ ops i st o]) (st.cP P Γ o)) f w'→Q .normal f w':=by
        revert hQ;split
        ·rename_i g F;exact absurd F (m g)
        ·exact id
       exact e aN Z
theorem niq{a:Bool}{st:E}(h:(fw P Γ ops a st).ok=true):j9 st (fw P Γ ops a st):=by
 unfold fw at h ⊢;cases a
 ·simp only[J] at h ⊢;exact Db _ _ _ _ h
 ·simp only[H] at h ⊢;cases b:HQ (oK ops.toList) st && eB ops.toList 0 && P.follows .mixedOrders
  ·simp[b,om] at h
  ·simp only[b,H] at h ⊢;exact Db _ _ _ _ h
theorem nkS(d:qk P Γ){st:E}{a:Act}{w:aap}{id:Nat}{Q:Exit→Act→aap→Prop}(e:Rel w0 S st a w)(h:(fw P Γ ops false st).ok=true)
  (b:∀c w',Rel w0 S (fw P Γ ops false st) c w'→Q .normal c w'):(Code.region id ops false).wp P Q a w:=by
 unfold fw at h b;simp only[J] at h b;exact wp_region_list (Gd d _ _ _ _ a w e h b)
end
theorem M.lI{α:Type}{f g:Nat→X}{h l:Nat→Option xC} :∀(m:M α) {a:α} {s o:List Nat},m.run f h=some (a,s,o)→(∀i∈s,g i=f i)→(∀i∈o,l i=h i)→m.run g l=some (a,s,o)
 | .pure a,_,_,_,e,_,_=>by simpa [M.run] using e
 | .fail,_,_,_,e,_,_=>by simp[M.run] at e
 | .slot i k,a,s,o,e,hs,ho=>by
  simp only[M.run] at e ⊢;split at e
  ·rename_i b n p c;simp only[Y,Prod.mk.injEq] at e;obtain⟨rfl,rfl,rfl⟩:=e;rw[hs i (Ks ..),M.lI (k (f i)) c (λj d=>hs j (J6 _ d)) ho]
  ·cases e
 | .obj i k,a,s,o,e,hs,ho=>by
  simp only[M.run] at e ⊢;split at e
  ·rename_i x q;split at e
   ·rename_i b n p c;simp only[Y,Prod.mk.injEq] at e;obtain⟨rfl,rfl,rfl⟩:=e;rw[ho i (Ks ..),q];simp only;rw[M.lI (k x) c hs (λj d=>ho j (J6 _ d))]
   ·cases e
  ·cases e
structure R0 where
 i:Nat
 o:Oper
 run:Bool
 st:E
 e:Nf
 log:CM
def R0.f(p:R0)(s:Nat)(v:X):X:=if p.o.dst=some s then p.e.sv else v
def P_:List (Nat×Option xC)→Nat→Option (Option xC)
 | [],_=>none
 | (i,x)::l,j=>if j=i then some x else P_ l j
def xD(cw:Option (Nat×Nat×List X))(id:Nat)(v:Option xC):Option xC:=
 match cw with
 | some (i,off,b7)=>if id=i then (match v with | some (.box t cells)=>some (.box t (fW cells off b7)) | o=>o) else v
 | none=>v
def R0.h(p:R0)(id:Nat)(v:Option xC):Option xC:=
 match P_ p.e.ow id with
 | some x=>x
 | none=>xD p.e.cw id v
theorem npV(cw:Option (Nat×Nat×List X))(h:Nat→Option xC)(id:Nat):ey cw h id=xD cw id (h id):=by
 cases cw with
 | none=>rfl
 | some x=>
  obtain⟨i,off,d⟩:=x;simp only[ey,xD];by_cases a:id=i
  ·subst a;rw[if_pos rfl];cases c:h id with
   | none=>simp[c]
   | some b=>cases b<;>simp[L9,c]
  ·rw[if_neg a];cases h i with
   | none=>rfl
   | some b=>cases b<;>simp[L9,a]
theorem nkp(ow:List (Nat×Option xC))(h:Nat→Option xC)(id:Nat):ji ow h id=match P_ ow id with | some x=>x | none=>h id:=by
 induction ow with
 | nil=>rfl
 | cons x l a=>
  obtain⟨i,b⟩:=x;simp only[ji,L9,P_];split
  ·rfl
  ·exact a
theorem yb(st:E)(p:R0)(id:Nat):(st.apply p.o.dst p.e).obj id=p.h id (st.obj id):=by rw[VK,nkp];unfold R0.h;rw[npV]
theorem Kk(st:E)(p:R0)(s:Nat):(st.apply p.o.dst p.e).get s=p.f s (st.get s):=by
 unfold R0.f;cases b:p.o.dst with
 | none=>simp[nsE]
 | some d=>
  rw[apply_get];simp only[L9,Y];by_cases a:s=d
  ·simp[a]
  ·rw[if_neg a,if_neg (λh:d=s=>a h.symm)]
inductive Path (P:aao) (Γ:Ctx) (ops:Array Oper) (gs:List Nat):List Oper→Nat→E→List R0→E→Prop where
 | nil (i:Nat) (st:E):Path P Γ ops gs [] i st [] st
 | skip (o:Oper) (rest:List Oper) (i:Nat) (st:E) (l:List R0) (W:E) (hw:yG ops st o=some false) (aN:(st.skip o.dst).ok=true) (h:Path P Γ ops gs rest (i+1) (st.skip o.dst) l W):
   Path P Γ ops gs (o::rest) i st (⟨i,o,false,st, {sv:= .undef},V5 ops i o⟩::l) W
 | op (o:Oper) (rest:List Oper) (i:Nat) (st:E) (l:List R0) (W:E) (e:Nf) (hw:yG ops st o=some true) (aN:(st.cP P Γ o).ok=true) (he:st.cP P Γ o=st.apply o.dst e)
   (hr:∃s r,(evalOp P Γ o).run st.get st.obj=some (e,s,r)) (h:Path P Γ ops gs rest (i+1) (st.cP P Γ o) l W):
   Path P Γ ops gs (o::rest) i st (⟨i,o,true,st,e,ni P Γ ops i st o⟩::l) W
 | KI (o:Oper) (rest:List Oper) (i:Nat) (st:E) (l:List R0) (W:E) (e:Nf) (s:Nat) (g:Bool) (hw:yG ops st o=some true) (aN:(st.cP P Γ o).ok=true) (he:st.cP P Γ o=st.apply o.dst e)
   (hr:∃s r,(evalOp P Γ o).run st.get st.obj=some (e,s,r)) (hd:o.dst=some s) (hg:e.sv= .bool g) (h:Path P Γ ops gs rest (i+1) ((st.cP P Γ o).reset.gB s g) l W):
   Path P Γ ops gs (o::rest) i st (⟨i,o,true,st, {e with sv:= .kb g},ni P Γ ops i st o⟩::l) W
section
variable {P:aao} {Γ:Ctx} {w0:aap} {S:Own} {ops:Array Oper} {gs:List Nat}
theorem NL{j:List CM→Bool} :∀(c:List Oper) (i:Nat) (d:List CM) (st:E),(Ho P Γ ops gs j c i d st).ok=true→
  ∃l W,Path P Γ ops gs c i st l W∧W.ok=true∧j (d++l.map (·.log))=true∧∀(w0:aap) (S:Own) (a:Act) (w:aap),Rel w0 S W a w→Rel w0 S (Ho P Γ ops gs j c i d st) a w
 | [],i,d,st,aN=>by simp only[Ho,cI] at aN ⊢;exact⟨[],st,.nil i st,aN.1,by simpa using aN.2,λw0 S a w h=>h.HM _⟩
 | o::c,i,d,st,aN=>by
  rw[Ho] at aN ⊢;cases m:yG ops st o with
  | none=>simp[m,om] at aN
  | some b=>
   simp only[m] at aN ⊢;cases b with
   | false=>
    simp only at aN ⊢;obtain⟨l,W,n,Z,F,G⟩:=NL c _ _ _ aN;exact⟨_,W,.skip o c i st l W m (Db c _ _ _ aN).ok n,Z,by simpa using F,G⟩
   | true=>
    simp only at aN ⊢;have f:(Ho P Γ ops gs j c (i+1) (d++[ni P Γ ops i st o]) (st.cP P Γ o)).ok=true→
      ∃l W,Path P Γ ops gs (o::c) i st l W∧W.ok=true∧j (d++l.map (·.log))=true∧∀(w0:aap) (S:Own) (a:Act) (w:aap),Rel w0 S W a w→
       Rel w0 S (Ho P Γ ops gs j c (i+1) (d++[ni P Γ ops i st o]) (st.cP P Γ o)) a w:=by
     intro n;have k:=(Db c _ _ _ n).ok;obtain⟨l,W,u,v,x,y⟩:=NL c _ _ _ n;obtain⟨e,s,r,z,_,p⟩:=kx k;exact⟨_,W,.op o c i st l W e m k p ⟨s,r,z⟩ u,v,by simpa using x,y⟩
    split at aN
    ·rename_i k;exact f aN
    ·rename_i s k;cases B:Rf s gs
     ·simp only[B,J] at aN ⊢;exact f aN
     ·simp only[B,H] at aN ⊢;split at aN
      ·rename_i g A;have C:=E7 aN;have q:∀b:Bool,g=b→(Ho P Γ ops gs j c (i+1) (d++[ni P Γ ops i st o]) ((st.cP P Γ o).reset.gB s b)).ok=true:=by
        rintro b rfl
        cases g with
        | true=>exact C.1 rfl
        | false=>exact C.2 rfl
       have Y:=(Db c _ _ _ (q g rfl)).ok;have t:(st.cP P Γ o).ok=true:=Y;obtain⟨l,W,u,v,x,y⟩:=NL c (i+1) (d++[ni P Γ ops i st o]) _ (q g rfl);obtain⟨e,I,r,z,_,p⟩:=kx t;have X:e.sv= .bool g:=by rw[p,k,apply_get] at A;simpa [L9] using A
       refine⟨_,W,.KI o c i st l W e s g m t p ⟨I,r,z⟩ k X u,v,by simpa using x,λw0 S a w K=>?_⟩;have D:=y w0 S a w K;refine NF (λL=>?_) (λM=>?_) aN
       ·subst L;exact⟨(Z4 (st:=(st.cP P Γ o).reset) t).trans (Db c _ _ _ (q true rfl)),D⟩
       ·subst M;exact⟨(Z4 (st:=(st.cP P Γ o).reset) t).trans (Db c _ _ _ (q false rfl)),D⟩
      ·rename_i A;exact f aN
def EK(L:Nat→Bool)(l:List R0)(s:Nat)(v:X):X:=l.foldl (λv p=>if L p.i then p.f s v else v) v
def EF(L:Nat→Bool)(l:List R0)(id:Nat)(v:Option xC):Option xC:=l.foldl (λv p=>if L p.i then p.h id v else v) v
def R0.tF(p:R0)(s:Nat):Prop:=p.o.dst=some s
def R0.tH(p:R0)(id:Nat):Prop:=id∈p.e.ow.map (·.1)∨∃off a,p.e.cw=some (id,off,a)
theorem R0.I9{p:R0}{s:Nat}(h:¬p.tF s)(v:X):p.f s v=v:=by unfold R0.f R0.tF at*;rw[if_neg h]
theorem nFU{ow:List (Nat×Option xC)}{id:Nat}(h:id ∉ ow.map (·.1)):P_ ow id=none:=by
 induction ow with
 | nil=>rfl
 | cons x l a=>
  obtain⟨i,b⟩:=x;simp only[Lk,Jw,not_or] at h;simp only[P_];rw[if_neg h.1];exact a h.2
theorem R0.Je{p:R0}{id:Nat}(h:¬p.tH id)(v:Option xC):p.h id v=v:=by
 unfold R0.tH at h;simp only[not_or] at h;unfold R0.h;rw[nFU h.1];simp only;unfold xD;split
 ·rename_i i off b c;by_cases a:id=i
  ·subst a;exact absurd ⟨off,b,c⟩ h.2
  ·rw[if_neg a]
 ·rfl
theorem Xe{α:Type}(step:R0→α→α){L:Nat→Bool} :∀(l:List R0) (v:α),(∀q∈l,L q.i=false)→l.foldl (λv q=>if L q.i then step q v else v) v=v
 | [],v,_=>rfl
 | z::l,v,h=>by simp only[Kx,h z (Ks ..),Bool.false_eq_true,if_false];exact Xe step l v (λq a=>h q (J6 _ a))
section Jb
variable {α:Type} (step:R0→α→α) (T:R0→Prop)
theorem fold_congr(a:∀p v,¬T p→step p v=v){L L':Nat→Bool} :∀(l:List R0) (v:α),(∀p∈l,T p→L p.i=L' p.i)→
  l.foldl (λv p=>if L p.i then step p v else v) v=l.foldl (λv p=>if L' p.i then step p v else v) v
 | [],v,_=>rfl
 | p::l,v,h=>by
  simp only[Kx];have:(if L p.i then step p v else v)=if L' p.i then step p v else v:=by
   by_cases b:T p
   ·rw[h p (Ks ..) b]
   ·rw[a p v b];simp
  rw[this];exact fold_congr a l _ (λq c=>h q (J6 _ c))
theorem yY(d:∀p v,¬T p→step p v=v){L:Nat→Bool}{q:R0} :∀(l:List R0) (v:α),q∈l→(l.map (·.i)).Nodup→L q.i=false→l.Pairwise (λa b=>a.i<b.i)→(∀p∈l,q.i<p.i→T q→T p→L p.i=false)→
  l.foldl (λv p=>if (L p.i || p.i==q.i) then step p v else v) v=step q (l.foldl (λv p=>if L p.i then step p v else v) v)
 | [],v,hq,_,_,_,_=>by simp at hq
 | p::l,v,hq,hn,hL,hp,Cy=>by
  simp only[Kx];simp only[Lk,List.nodup_cons] at hn;rw[List.pairwise_cons] at hp;rcases Jw.1 hq with rfl | h
  ·simp only[hL,beq_self_eq_true,Bool.or_true,if_true,Bool.false_eq_true,if_false];have m:l.foldl (λv p=>if (L p.i || p.i==q.i) then step p v else v) (step q v)=l.foldl (λv p=>if L p.i then step p v else v) (step q v):=by refine fold_congr step T d (L:=λk=>L k || k==q.i) (L':=L) l _ (λr c _=>?_);have:r.i≠q.i:=λe=>hn.1 (e ▸ LR c);simp[this]
   rw[m];by_cases f:T q
   ·have j:∀u,l.foldl (λv p=>if L p.i then step p v else v) u=u:=by intro u;have:=fold_congr step T d (L:=L) (L':=λ_=>false) l u (λr c g=>Cy r (J6 _ c) (hp.1 r c) f g);rw[this];exact Xe step (L:=λ_=>false) l u (λ_ _=>rfl)
    rw[j,j]
   ·rw[d q v f,d q _ f]
  ·have n:p.i≠q.i:=λe=>hn.1 (e ▸ LR h);have:(if (L p.i || p.i==q.i) then step p v else v)=if L p.i then step p v else v:=by simp[n]
   rw[this];exact yY d l _ h hn.2 hL hp.2 (λr c=>Cy r (J6 _ c))
end Jb
theorem De:∀ {a:List Oper} {i:Nat} {st:E} {l:List R0} {W:E},Path P Γ ops gs a i st l W→l.map (·.i)=List.range' i a.length∧l.map (·.o)=a∧(∀p∈l,p.log.i=p.i∧p.log.d=p.o.dst):=by
 intro a i st l W h
 induction h with
 | nil=>exact⟨rfl,rfl,by simp⟩
 | skip o a i st l W hw aN h ih=>
  refine⟨by simp[ih.1,LU],by simp[ih.2.1],λp b=>?_⟩;rcases Jw.1 b with rfl | b
  ·exact⟨rfl,rfl⟩
  ·exact ih.2.2 p b
 | op o a i st l W e hw aN he c h ih=>
  refine⟨by simp[ih.1,LU],by simp[ih.2.1],λp b=>?_⟩;rcases Jw.1 b with rfl | b
  ·obtain⟨s,r,c⟩:=c;simp[ni,c]
  ·exact ih.2.2 p b
 | KI o a i st l W e s g hw aN he c hd hg h ih=>
  refine⟨by simp[ih.1,LU],by simp[ih.2.1],λp b=>?_⟩;rcases Jw.1 b with rfl | b
  ·obtain⟨s,r,c⟩:=c;simp[ni,c]
  ·exact ih.2.2 p b
def nEC(st:E)(l:List R0)(W:E):Prop:=(∀p∈l,(∀s,p.st.get s=EK (λk=>decide (k<p.i)) l s (st.get s))∧(∀id,p.st.obj id=EF (λk=>decide (k<p.i)) l id (st.obj id))∧p.st.n=st.n)∧ (∀s,W.get s=EK (λ_=>true) l s (st.get s))∧(∀id,W.obj id=EF (λ_=>true) l id (st.obj id))∧W.n=st.n
theorem F6(c:R0){st e:E}{x:List Oper}{b:List R0}{j:E}{i:Nat}(D:c.i=i)(l:c.st=st)(o:∀s,e.get s=c.f s (st.get s))(r:∀id,e.obj id=c.h id (st.obj id))(t:e.n=st.n)
  (y:Path P Γ ops gs x (i+1) e b j) (g:nEC e b j):nEC st (c::b) j:=by
 have z:=(De y).1;have u:∀p∈b,i+1≤p.i:=by intro p d;have:p.i∈b.map (·.i):=LR d;rw[z] at this;exact (List.mem_range'_1.1 this).1
 refine⟨λp d=>?_,λs=>?_,λid=>?_,g.2.2.2.trans t⟩
 ·rcases Jw.1 d with rfl | d
  ·have a:∀q∈p::b,decide (q.i<p.i)=false:=by
    intro q m;rcases Jw.1 m with rfl | m
    ·simp
    ·have:=u q m;simp;omega
   refine⟨λs=>?_,λid=>?_,by rw[l]⟩
   ·have:=Xe (λq v=>R0.f q s v) (L:=λk=>decide (k<p.i)) (p::b) (st.get s) a;rw[l];exact this.symm
   ·have:=Xe (λq v=>R0.h q id v) (L:=λk=>decide (k<p.i)) (p::b) (st.obj id) a;rw[l];exact this.symm
  ·have Z:=u p d;have w:decide (c.i<p.i)=true:=by simp;omega
   obtain⟨A,B,C⟩:=g.1 p d;refine⟨λs=>?_,λid=>?_,C.trans t⟩
   ·rw[A s,o s];unfold EK;simp only[Kx,w,if_true]
   ·rw[B id,r id];unfold EF;simp only[Kx,w,if_true]
 ·rw[g.2.1 s,o s];unfold EK;simp only[Kx,if_true]
 ·rw[g.2.2.1 id,r id];unfold EF;simp only[Kx,if_true]
theorem nCz{st:E}{o:Oper}{e:Nf}{s:Nat}{g:Bool}(b:o.dst=some s)(p:R0)(c:p.o=o)(d:p.e= {e with sv:= .kb g})(k:Nat):(((st.apply o.dst e).reset).gB s g).get k=p.f k (st.get k):=by
 rw[nDx];have i:(st.apply o.dst e).reset.get=(st.apply o.dst e).get:=rfl;rw[i,b,apply_get];unfold R0.f;rw[c,b,d];simp only[L9,Y];by_cases a:k=s
 ·simp[a]
 ·rw[if_neg a,if_neg a,if_neg (λh:s=k=>a h.symm)]
theorem nD6{st:E}{o:Oper}{e:Nf}{s:Nat}{g:Bool}(p:R0)(c:p.o=o)(a:p.e= {e with sv:= .kb g})(id:Nat):(((st.apply o.dst e).reset).gB s g).obj id=p.h id (st.obj id):=by
 have b:(((st.apply o.dst e).reset).gB s g).obj id=(st.apply p.o.dst p.e).obj id:=by rw[VK,a];show (st.apply o.dst e).obj id=_;rw[VK]
 rw[b];exact yb st p id
theorem nea{a:List Oper}{i:Nat}{st:E}{l:List R0}{W:E}(h:Path P Γ ops gs a i st l W):nEC st l W:=by
 induction h with
 | nil=>exact⟨by simp,λ_=>rfl,λ_=>rfl,rfl⟩
 | skip o a i st l W hw aN h ih=>
  exact F6 ⟨i,o,false,st, {sv:= .undef},V5 ops i o⟩ rfl rfl (λs=>Kk st ⟨i,o,false,st, {sv:= .undef},V5 ops i o⟩ s) (λid=>yb st ⟨i,o,false,st, {sv:= .undef},V5 ops i o⟩ id) rfl h ih
 | op o a i st l W e hw aN he hr h ih=>
  refine F6 ⟨i,o,true,st,e,ni P Γ ops i st o⟩ rfl rfl (λs=>?_) (λid=>?_) ?_ h ih
  ·rw[he];exact Kk st ⟨i,o,true,st,e,ni P Γ ops i st o⟩ s
  ·rw[he];exact yb st ⟨i,o,true,st,e,ni P Γ ops i st o⟩ id
  ·rw[he];rfl
 | KI o a i st l W e s g hw aN he hr hd hg h ih=>
  refine F6 ⟨i,o,true,st, {e with sv:= .kb g},ni P Γ ops i st o⟩ rfl rfl (λs=>?_) (λid=>?_) ?_ h ih
  ·rw[he];exact nCz hd ⟨i,o,true,st, {e with sv:= .kb g},ni P Γ ops i st o⟩ rfl rfl s
  ·rw[he];exact nD6 ⟨i,o,true,st, {e with sv:= .kb g},ni P Γ ops i st o⟩ rfl rfl id
  ·rw[he];rfl
def SL(P:aao)(Γ:Ctx)(ops:Array Oper)(p:R0):Prop:=(yG ops p.st p.o=some false∧p.e= {sv:= .undef} ∧(p.st.skip p.o.dst).ok=true∧p.log=V5 ops p.i p.o)∨ (yG ops p.st p.o=some true∧∃e s r,(evalOp P Γ p.o).run p.st.get p.st.obj=some (e,s,r)∧(p.st.apply p.o.dst e).ok=true∧p.log=ni P Γ ops p.i p.st p.o∧ (p.e=e∨∃d g,p.o.dst=some d∧e.sv= .bool g∧p.e= {e with sv:= .kb g}))
theorem nnP{a:List Oper}{i:Nat}{st:E}{l:List R0}{W:E}(h:Path P Γ ops gs a i st l W):∀p∈l,SL P Γ ops p:=by
 induction h with
 | nil=>simp
 | skip o a i st l W hw aN h ih=>
  intro p b;rcases Jw.1 b with rfl | b
  ·exact .inl ⟨hw,rfl,aN,rfl⟩
  ·exact ih p b
 | op o a i st l W e hw aN he c h ih=>
  intro p b;rcases Jw.1 b with rfl | b
  ·obtain⟨s,r,c⟩:=c;exact .inr ⟨hw,e,s,r,c,by rw[←he];exact aN,rfl,.inl rfl⟩
  ·exact ih p b
 | KI o a i st l W e s g hw aN he c hd hg h ih=>
  intro p b;rcases Jw.1 b with rfl | b
  ·obtain⟨d,r,c⟩:=c;exact .inr ⟨hw,e,d,r,c,by rw[←he];exact aN,rfl,.inr ⟨s,g,hd,hg,rfl⟩⟩
  ·exact ih p b
end
end Go.Proofs.YteffpikahopfoaaGreat.Vm
