/- The value machine: calls, every operation, regions in every order. Conditions: as each lemma says. -/
import Derived.Test.YteffpikahopfoaaGreatVb
import Derived.ArgAppend
set_option linter.unusedVariables false
set_option linter.unusedSimpArgs false
open Nat renaming beq→JY,succ_mul→J9,zero_add→J_,le_of_ble_eq_true→Kd,mul_le_mul_right→Kh,mul_one→Kt,add_zero→KU,ble→K3,le_refl→K4,min→Lm,blt→Lz,ne_of_beq_eq_false→OF
open List renaming mem_cons→J2,replicate→J4,mem_append→J8,length_nil→Kj,nodup_append→Kp,getElem?_take→Kq,mem_cons_of_mem→Kw,getElem?_drop→KE,nil_append→KF,length_take→KJ,getElem?_cons_zero→KM,length_drop→K0,append_assoc→K5,mem_cons_self→Lb,foldl_cons→Lc,cons_append→Lo,take_succ_cons→Lw,flatten_append→Ly,getElem?_eq_some_iff→LB,mem_of_getElem?→LF,getElem?_set_self→LL,drop_drop→LM,getElem?_map→LO,getElem?_eq_getElem→LW,size_toArray→LY,map_cons→L2,eq_nil_of_length_eq_zero→L_,take_append_drop→Md,take_of_length_le→Me,mem_flatten→Mg,drop_succ_cons→Mh,getElem?_set_ne→Mq,drop_zero→Mt,append_nil→Mz,drop_append→MA,mem_map_of_mem→MC,range'_succ→MH,mem_replicate→MN,getElem_of_mem→MP,getElem?_append_left→MZ,getElem?_append_right→M0,ext_getElem?→M4,replicate_succ→M6,drop_of_length_le→M7,take_append_of_le_length→Na,set_eq_of_length_le→Nb,mem_singleton→NO
open Go.Value renaming ownBlock→J6,int→LN
open Array renaming length_toList→Ln,toArray_toList→MJ,getD_eq_getD_getElem?→Pa
open Go renaming Program→aaJ,World→aaK,Value→aaL,TypeId→aaM,Operand→aaN
namespace Go.Proofs.YteffpikahopfoaaGreat.Vm
section
variable {P:aaJ} {Γ:Ctx} {w0:aaK} {S:Own} {st:CO} {o:Oper} {e:R_} {a:Act} {w w':aaK}
variable {f:Nat→bg} {h:Nat→Option yP} {β:Env} {φ:Nat→List Nat} {tm:Array aaL}
theorem nsZ(F:Rel w0 S st a w)(G:∀d,o.dst=some d→IW st.n d){t:aaM}{x:aaN}{j p:Option aaN}(H:o.op= .slice t x j p none){q:bg}{s v:Option bg}
  (I:(hF x).val st.get st.obj=some q) (K:(Ee j).val st.get st.obj=some s) (L:(Ee p).val st.get st.obj=some v)
  (b:(TP P t q s v).val st.get st.obj=some e) (y:e.ok=true):Good P w0 S st o e a w:=by
 unfold TP at b;split at b
 ·rename_i z id k l N;simp only[M.aY,sC] at b;obtain⟨ob,O,b⟩:=b;split at b
  ·rename_i Q A r fz u;cases f:JY Q z && fF P z A.length
   ·simp[f] at b
   simp only[f,HI,M.ab,VR] at b;subst b;simp only[gF] at f;simp only[gF,kQ] at y;obtain⟨i,R,T⟩:=Xo f.2;refine R7 F G rfl rfl λβ φ h=>?_;have B:=h.ev I;simp only[dg] at B;obtain⟨C,aE,U,_⟩:=h.aC id _ O;rcases U.2 with ⟨_,h0,_⟩ | ⟨g,cap,W,D,hg,X,EK,fX,FP⟩
   ·omega
   have Z:=QY (P:=P) (isS:=true) (n:=r.length) (cap:=cap) (l:=l.toNat) (m:=r.length) (c:=decide (0≤l) && decide (l≤(r.length:Int))) X h K L rfl (by simp only[gF,kQ];exact y.1);refine⟨.slice (some ⟨g,if l.toNat<cap then l.toNat*A.length else 0,none⟩) (r.length - l.toNat) (cap - l.toNat), ?_, ?_⟩
   ·have bH:(execOp a.eval o).run P w= .ok (.value (.slice (if cap=l.toNat then some ⟨g,0,none⟩ else (some (⟨g,0,none⟩:Addr)).map (·.add (l.toNat*i.size))) (r.length - l.toNat) (cap - l.toNat))) w:=by simp[execOp,H,B.1,D,Instr.sliceAt,Instr.slice,run_underlying N,Z,sizeOf,typeInfo,R]
    rw[bH];by_cases E:l.toNat<cap
    ·rw[if_neg (by omega),if_pos E,T];simp[yM]
    ·rw[if_pos (by omega),if_neg E]
   ·simp only[dg];exact⟨g,r.length,cap,D,by omega,rfl⟩
  ·simp at b
 ·simp at b
theorem RN.take{c:List CT}{a:List (List DC)}{b:List aaL}{g:List (List Nat)}(h:RN w c a b g)(k:Nat):RN w c (a.take k) (b.take (k*c.length)) (g.take k):=by
 refine⟨by simp[h.1],λi r f d e=>?_⟩;rw[Kq] at d e;split at d
 ·rename_i l;rw[if_pos l] at e;refine aG.bj.jX (λj u n m=>?_) (h.2 i r f d e);rw[Kq,if_pos]
  ·exact m
  ·have:(i+1)*c.length≤k*c.length:=Kh _ l;rw[J9] at this;omega
 ·cases d
theorem RN.drop{c:List CT}{a:List (List DC)}{b:List aaL}{d:List (List Nat)}(e:RN w c a b d)(k:Nat):RN w c (a.drop k) (b.drop (k*c.length)) (d.drop k):=by
 refine⟨by simp[e.1],λi r f g h=>?_⟩;rw[KE] at g h;refine aG.bj.jX (λj u m l=>?_) (e.2 (k+i) r f g h);rw[KE,←l]
 congr 1
 rw[Nat.add_mul];omega
theorem nAm(L:Rel w0 S st a w)(hd:∀d,o.dst=some d→IW st.n d){t t2:aaM}{x y:aaN}{c:Call}(ho:o.op= .call c)(hb:c.callee= .builtin .copy)(cr:c.args= #[x,y])(GH:c.argTypes= #[t,t2]){sx sy:bg}
  (N:(hF x).val st.get st.obj=some sx) (O:(hF y).val st.get st.obj=some sy) (q:(ZB P t sx sy).val st.get st.obj=some e) (aN:e.ok=true):Good P w0 S st o e a w:=by
 unfold ZB at q;split at q
 ·rename_i et id f z s hu;simp only[M.aY,sC] at q;obtain⟨ob,E,q⟩:=q;split at q
  ·rename_i F ct r G u;cases C:JY F et && fF P et 1 && JY z 1 && pc ct [.int .u8]
   ·simp[C] at q
   simp only[C,HI,M.ab,VR] at q;subst q;simp only[gF] at C;have Cj:=xp _ _ C.2;subst Cj;have AH:=cL C.1.2;subst AH;obtain⟨i,hi,bJ⟩:=Xo C.1.1.2;have Le:f≤r.length:=by simpa using aN
   obtain⟨β,φ,B⟩:=L.core;have FL:=B.ev N;simp only[dg] at FL;obtain⟨g,n,cap,m,hln,Ct⟩:=FL;have Q:=B.ev O;simp only[dg] at Q;obtain⟨p,I,bk,R,H7,lv⟩:=B.aC id _ E;have GI:g∈ar β id (.row F [.int .u8] r G u):=by simp[ar,m,J6]
   rcases bk.2 with ⟨Hx,_,_⟩ | ⟨g',IY,h,hv',T,BF,EK,U,FP⟩
   ·rw[m] at Hx;cases Hx
   rw[m] at hv';injection hv' with H e2 e3;injection H with H;injection H with H;subst H e2 e3;have Dh:=al (B.aC id _ E) g GI;have Mb:=(B.fresh id _ E).2 g Dh;have W:=bk.1;simp only[di,Kj,J_,Kt] at W U FP Ct;have Ck:zP [CT.int .u8]=true:=rfl;let l:List aaL:=(s.take (r.length - f)).map λb=>LN .u8 b.toNat;have X:l.length=min s.length (r.length - f):=by simp[l,Nat.min_comm]
   have bo:∀v∈l,v.oneCell'=true:=by intro v hv;simp only[l,List.mem_map] at hv;obtain⟨b,_,rfl⟩:=hv;rfl
   have Fw:∀j,j<h.size→¬((bif G then (h.size,h.size+1) else ((0,0):Nat×Nat)).1≤j∧j<(bif G then (h.size,h.size+1) else ((0,0):Nat×Nat)).2):=by intro j hj;cases G<;>simp<;>omega
   have Ik:l=[]∨(if f<cap then f else 0)=f:=by
    rcases Nat.lt_or_ge f cap with A | A
    ·exact .inr (if_pos A)
    ·refine .inl ?_;have:l.length=0:=by rw[X];omega
     exact L_ this
   have Iq:(storeCells ⟨g,if f<cap then f else 0,none⟩ l 0).run P w= .ok () (w.setRow g (h.toList.take f++(l++h.toList.drop (f+l.length))).toArray):=by
    rcases Ik with A | A
    ·rw[A];simp only[storeCells,KF,Kj,KU,Md,MJ];rw[setRow_self w g h F _ T];rfl
    ·rw[A];have:=uY P g f F _ l 0 h w T Fw (by rw[X,U];omega) bo;simpa only[KU] using this
   have mX:(Builtin.firstCells i.size (Lm s.length (r.length - f)) (.string ⟨s.toArray⟩)).run P w= .ok l.toArray w:=by
    have:((⟨s.toArray⟩:ByteArray).extract 0 (Lm s.length (r.length - f))).data.map (λb=>LN .u8 b.toNat)=l.toArray:=by
     rw[TT];have e5:s.take (Lm s.length (r.length - f))=s.take (r.length - f):=by
      rcases Nat.le_total s.length (r.length - f) with A | A
      ·rw[show Lm s.length (r.length - f)=s.length from Nat.min_eq_left A,List.take_length,Me A]
      ·rw[show Lm s.length (r.length - f)=r.length - f from Nat.min_eq_right A]
     simp[l,e5]
    simp only[Builtin.firstCells,Sem.run_pure,this]
   have mZ:(h.toList.take f++(l++h.toList.drop (f+l.length))).length=h.size:=by simp only[Qe,KJ,K0,Ln];omega
   have K:(r.take f++(((s.take (r.length - f)).map db)++r.drop (f+min s.length (r.length - f)))).length=r.length:=by simp only[Qe,KJ,K0,List.length_map];omega
   have K9:RN w [.int .u8] ((s.take (r.length - f)).map db) l (J4 l.length []):=by
    refine⟨by simp[l],λk r' f' Z hf=>?_⟩;have Gp:k<(s.take (r.length - f)).length:=by have:=(LB.1 Z).1;simpa using this
    have FK:r'=db (s.take (r.length - f))[k]:=by rw[LO,LW Gp] at Z;simpa using Z.symm
    have B6:f'=[]:=by have:=LF hf;exact (MN.1 this).2
    subst FK B6;unfold db;simp only[bj,kL];refine⟨.int (s.take (r.length - f))[k].toNat,[],.int .u8 (s.take (r.length - f))[k].toNat,[],[],rfl, ?_,⟨_,rfl,rfl, ?_,rfl⟩,⟨rfl,rfl⟩,rfl⟩
    ·simp only[l,di,Kj,J_,Kt,KU];rw[LO,LW Gp];rfl
    ·rw[Az];have N:IntKind.u8.min=0:=by decide
     have O:IntKind.u8.max=255:=by decide
     have:=(s.take (r.length - f))[k].toNat_lt;omega
   have m0:RN w [.int .u8] (r.take f++(((s.take (r.length - f)).map db)++r.drop (f+min s.length (r.length - f)))) (p.take f++(l++p.drop (f+l.length))) (I.take f++(J4 l.length []++I.drop (f+l.length))):=by
    have a1:=R.take f;have a2:=R.drop (f+l.length);simp only[di,Kj,J_,Kt] at a1 a2;rw[←X];refine a1.append ?_ (K9.append ?_ a2)
    ·simp only[di,Kj,J_,Kt,KJ,W]
    ·simp[l]
   have H2:=m0.flat Ck;have Ir:φ id=[g]:=by rw[lv,R.flat Ck,m];cases u<;>simp[J6]
   refine yu L hd (v:= .int .i64 (min s.length (r.length - f):Nat)) (w':=w.setRow g (h.toList.take f++(l++h.toList.drop (f+l.length))).toArray) ?_ (L.kept.setRow Mb.1 _)
    ⟨β,PB φ id [g], ?_, ?_⟩
   ·have Aw:Lm s.length (r.length - f)=min s.length (r.length - f):=rfl;simp[execOp,ho,resolve,hb,cr,GH,invoke,builtin,Builtin.copy_,run_underlying hu,Ct,Q.1,Builtin.lenOf,sizeOf,typeInfo,hi,Eb,mX,Iq,goInt]
   ·show Core w0 S st.get (PB st.obj id (some (.row F [.int .u8] (r.take f++(((s.take (r.length - f)).map db)++r.drop (f+min s.length (r.length - f)))) G u))) _ _ _ _;refine B.rewrite E GI (λb D=>D) ?_ (by simp) ?_
    ·refine⟨p.take f++(l++p.drop (f+l.length)),I.take f++(J4 l.length []++I.drop (f+l.length)),⟨?_,.inr ⟨g,cap,(h.toList.take f++(l++h.toList.drop (f+l.length))).toArray,by rw[K];exact m, ?_,by rw[K];exact BF,EK, ?_, ?_⟩⟩, ?_, ?_, ?_⟩
     ·rw[K];simp only[di,Kj,J_,Kt,Qe,KJ,K0,W];omega
     ·rw[setRow_heap w _ _ _ _ _ T];simp only[LY,mZ]
     ·simp only[LY,mZ,di,Kj,J_,Kt];exact U
     ·rw[K];simp only[di,Kj,J_,Kt];rw[ZQ _ _ _ _ (by omega) (by simp only[Ln];omega),FP]
     ·exact m0.mono (by simp) (λb D=>by rw[H2] at D;simp at D)
     ·rw[H2];simp
     ·rw[H2,m];cases u<;>simp[J6]
    ·intro b D;have MM:b=g:=by simpa using D
     subst MM;exact⟨Mb,λj oj hj jN=>B.sep id j _ _ (Ne.symm hj) E jN b Dh⟩
   ·unfold dg;refine⟨rfl, ?_⟩;rw[Az];have N:IntKind.i64.min= -9223372036854775808:=by decide
    have O:IntKind.i64.max=9223372036854775807:=by decide
    have:=Q.2;simp only[maxLen] at this;omega
  ·simp at q
 ·simp at q
end
set_option linter.unusedVariables false
set_option linter.unusedSimpArgs false
theorem zq(c:CT):(∃e,c= .sl e)∨zP [c]=true:=by
 cases c with
 | sl e=>exact .inl ⟨e,rfl⟩
 | _=>exact .inr rfl
theorem NK{c:CT}{a:List CT} :zP (c::a)=(zP [c] && zP a):=by
 cases c<;>rfl
theorem jn{c:CT}{a:List CT}(b:zP [c]=true):Zv (c::a)=Zv a:=by
 cases c with
 | sl e=>simp[zP] at b
 | _=>rfl
theorem Ca:∀ {a:List CT},Zv a=0→zP a=true
 | [],_=>rfl
 | c::a,h=>by
  rcases zq c with ⟨e,rfl⟩ | b
  ·simp[Zv] at h
  ·rw[jn b] at h;rw[NK,b,Ca h];rfl
theorem uS:∀(a b:List CT),Zv (a++b)=Zv a+Zv b
 | [],b=>by simp[Zv]
 | c::cs,b=>by
  rcases zq c with ⟨e,rfl⟩ | d
  ·simp only[Lo,Zv,uS cs b];omega
  ·rw[Lo,jn d,jn d,uS cs b]
theorem flat_get:∀ {a:List CT} {k:Nat} {e:List CT},zP a=true→a[k]? =some (.sl e)→False
 | [],k,e,_,h=>by simp at h
 | c::a,k,e,hf,h=>by
  rw[NK,gF] at hf;cases k with
  | zero=>
   simp only[KM,VR] at h;subst h;simp[zP] at hf
  | succ k=>exact flat_get hf.2 (by simpa using h)
section
variable {w:aaK}
theorem QJ.length{i:Option aaL} :∀(a:List CT) (j:List aaM) (b:List DC) (f:List aaL) (k:List Nat),QJ w i a j b f k→f.length=a.length∧b.length=a.length
 | [],_,_,_,_,h=>by simp only[QJ] at h;obtain⟨_,rfl,rfl,_⟩:=h;exact⟨rfl,rfl⟩
 | c::a,_,_,_,_,h=>by
  rcases zq c with ⟨e,rfl⟩ | l
  ·simp only[QJ] at h;obtain⟨t,q,g,m,v,n,r,s,rfl,rfl,rfl,_,_,o,rfl⟩:=h;have:=QJ.length a _ _ _ _ o;simp[this.1,this.2]
  ·rw[QJ.flat l] at h;obtain⟨d,m,v,n,rfl,rfl,_,p⟩:=h;have:=QJ.length a _ _ _ _ p;simp[this.1,this.2]
theorem QJ.lt{g:Option aaL} :∀(f:List CT) (m:List aaM) (n:List DC) (o:List aaL) (i:List Nat),QJ w g f m n o i→∀b∈i,b<w.heap.size
 | [],_,_,_,_,h=>by simp only[QJ] at h;simp[h.2.2.2]
 | c::f,_,_,_,_,h=>by
  rcases zq c with ⟨e,rfl⟩ | p
  ·simp only[QJ] at h;obtain⟨t,y,j,q,v,r,z,A,rfl,rfl,rfl,_,k,s,rfl⟩:=h;intro b a;rcases J8.1 a with a | a
   ·cases g with
    | none=>
     obtain⟨l,B,u,_,rfl⟩:=k;exact u.lt b a
    | some v0=>
     rw[k.2.2] at a;simp at a
   ·exact QJ.lt f _ _ _ _ s b a
  ·rw[QJ.flat p] at h;obtain⟨d,q,v,r,rfl,rfl,_,x⟩:=h;exact QJ.lt f _ _ _ _ x
theorem R9.lt{e:List CT}{g:List aaM}{a:List (List DC)}{c:List aaL}{j:Nat→Option aaL}{d:List (List Nat)}(h:R9 w e g a c j d):∀b∈d.flatten,b<w.heap.size:=by
 intro b f;obtain⟨m,k,f⟩:=Mg.1 f;obtain⟨i,l,rfl⟩:=MP k;have n:i<a.length:=by have:=h.1;omega
 exact QJ.lt _ _ _ _ _ (h.2 i a[i] d[i] (by simp) (by simp)) b f
theorem QJ.split{o:Option aaL} :∀(a b:List CT) (i:List aaM) (j:List DC) (k:List aaL) (l:List Nat),QJ w o (a++b) i j k l→
  ∃x y f z,i=x++y∧l=f++z∧QJ w o a x (j.take a.length) (k.take a.length) f∧QJ w o b y (j.drop a.length) (k.drop a.length) z
 | [],b,i,j,k,l,h=>⟨[],i,[],l,rfl,rfl,by simp[QJ],by simpa using h⟩
 | c::cs,b,_,_,_,_,h=>by
  rw[Lo] at h;rcases zq c with ⟨e,rfl⟩ | A
  ·simp only[QJ] at h;obtain⟨t,G,g,B,v,C,f,H,rfl,rfl,rfl,p,D,E,rfl⟩:=h;obtain⟨m,q,n,r,rfl,rfl,s,u⟩:=QJ.split cs b _ _ _ _ E;refine⟨t::m,q,f++n,r,rfl,by simp, ?_,by simpa using u⟩;simp only[QJ,di,Lw];exact⟨t,m,g,_,v,_,f,n,rfl,rfl,rfl,p,D,s,rfl⟩
  ·rw[QJ.flat A] at h;obtain⟨d,B,v,C,rfl,rfl,F,p⟩:=h;obtain⟨m,q,n,r,rfl,rfl,s,u⟩:=QJ.split cs b _ _ _ _ p;refine⟨m,q,n,r,rfl,rfl, ?_,by simpa using u⟩;rw[QJ.flat A];simp only[di,Lw];exact⟨d,_,v,_,rfl,rfl,F,s⟩
theorem QJ.join{g:Option aaL} :∀(j a:List CT) (k l:List aaM) (m n:List DC) (o p:List aaL) (f q:List Nat),QJ w g j k m o f→QJ w g a l n p q→
  QJ w g (j++a) (k++l) (m++n) (o++p) (f++q)
 | [],a,_,_,_,_,_,_,_,_,h,h2=>by simp only[QJ] at h;obtain⟨rfl,rfl,rfl,rfl⟩:=h;simpa using h2
 | c::cs,a,_,_,_,_,_,_,_,_,h,h2=>by
  rcases zq c with ⟨e,rfl⟩ | r
  ·simp only[QJ] at h;obtain⟨t,A,b,s,v,u,f,B,rfl,rfl,rfl,i,x,y,rfl⟩:=h;simp only[Lo,QJ];exact⟨t,_,b,_,v,_,f,_,rfl,rfl,rfl,i,x,QJ.join cs a _ _ _ _ _ _ _ _ y h2,by simp⟩
  ·rw[QJ.flat r] at h;obtain⟨d,s,v,u,rfl,rfl,z,i⟩:=h;simp only[Lo];rw[QJ.flat r];exact⟨d,_,v,_,rfl,rfl,z,QJ.join cs a _ _ _ _ _ _ _ _ i h2⟩
theorem QJ.Dy{m:Option aaL} :∀(b:List CT) (e:List DC) (a:List aaL) (f:List Nat),zP b=true→bj w b e (λj=>a[j]?) f→a.length=b.length→QJ w m b [] e a []
 | [],e,a,f,_,h,hl=>by simp only[bj] at h;simp only[QJ];exact⟨trivial,h.1,by simpa using hl,trivial⟩
 | c::b,e,a,f,hf,h,hl=>by
  rw[NK,gF] at hf;simp only[bj] at h;obtain⟨d,i,v,g,n,rfl,k,l,o,rfl⟩:=h;cases a with
  | nil=>simp at hl
  | cons u a=>
   simp only[KM,VR] at k;subst k;rw[QJ.flat hf.1];refine⟨d,i,u,a,rfl,rfl, ?_,QJ.Dy b i a n hf.2 (by simpa using o) (by simpa using hl)⟩;have p:g=[]:=RN.mP [c] [d] (λ_=>some u) g hf.1 (by simp only[bj];exact⟨d,[],u,g,[],rfl,rfl,l,by simp,by simp⟩);subst p;exact l
theorem QJ.toFlat{i:Option aaL} :∀(a:List CT) (b:List aaM) (e:List DC) (f:List aaL) (g:List Nat),zP a=true→QJ w i a b e f g→b=[]∧g=[]∧bj w a e (λj=>f[j]?) []
 | [],_,_,_,_,_,h=>by simp only[QJ] at h;obtain⟨rfl,rfl,rfl,rfl⟩:=h;exact⟨rfl,rfl,by simp[bj]⟩
 | c::a,_,_,_,_,hf,h=>by rw[NK,gF] at hf;rw[QJ.flat hf.1] at h;obtain⟨d,k,v,q,rfl,rfl,l,m⟩:=h;obtain⟨n,o,p⟩:=QJ.toFlat a _ _ _ _ hf.2 m;refine⟨n,o, ?_⟩;simp only[bj];exact⟨d,k,v,[],[],rfl,rfl,l,by simpa using p,rfl⟩
theorem QJ.BS{g hv':Option aaL}{a:List CT}{b:List aaM}{c:List DC}{d:List aaL}{e:List Nat}(f:zP a=true)(h:QJ w g a b c d e):QJ w hv' a b c d e:=by obtain⟨rfl,rfl,i⟩:=QJ.toFlat _ _ _ _ _ f h;exact QJ.Dy _ _ _ _ f i (QJ.length _ _ _ _ _ h).1
theorem QJ.out:∀(e:List CT) (off:Nat) (f:List CT) (q:List aaM) (r:List DC) (l:List aaL) (m:List Nat),e[off]? =some (.sl f)→Zv e=1→QJ w none e q r l m→
  ∃g v a,q=[g]∧l[off]? =some v∧r[off]? =some (.sl a)∧zP f=true∧bC w none g f a v m∧QJ w (some v) e [g] r l []
 | [],_,_,_,_,_,_,h,_,_=>by simp at h
 | c::cs,off,f,_,_,_,_,h,hn,hc=>by
  rcases zq c with ⟨e,rfl⟩ | i
  ·simp only[Zv] at hn;have n:zP cs=true:=Ca (by omega);cases off with
   | zero=>
    simp only[KM,VR,CT.sl.injEq] at h;subst h;simp only[QJ] at hc;obtain⟨t,G,b,o,v,p,H,I,rfl,rfl,rfl,j,s,u,rfl⟩:=hc;obtain⟨rfl,rfl,_⟩:=QJ.toFlat _ _ _ _ _ n u;have y:v.oneCell'=true:=by obtain⟨x,K,z,_⟩:=s;exact z.one
    refine⟨t,v,b,rfl,rfl,rfl,j,by simpa using s, ?_⟩;simp only[QJ];exact⟨t,[],b,o,v,p,[],[],rfl,rfl,rfl,j,⟨rfl,y,rfl⟩,QJ.BS n u,rfl⟩
   | succ k=>exact (flat_get n (by simpa using h)).elim
  ·cases off with
   | zero=>
    simp only[KM,VR] at h;subst h;simp[zP] at i
   | succ k=>
    rw[QJ.flat i] at hc;obtain⟨d,o,v,p,rfl,rfl,A,j⟩:=hc;rw[jn i] at hn;obtain⟨g,v1,a,rfl,B,C,D,E,F⟩:=QJ.out cs k f _ _ _ _ (by simpa using h) hn j;refine⟨g,v1,a,rfl,by simpa using B,by simpa using C,D,E, ?_⟩;rw[QJ.flat i];exact⟨d,o,v,p,rfl,rfl,A,F⟩
theorem nai{c:CT}{a:List CT}(b:zP [c]=true):Xf (c::a)=Xf a+1:=by
 cases c with
 | sl e=>simp[zP] at b
 | _=>rfl
theorem QJ.back{v:aaL}{a:List (List DC)}{g:List Nat} :∀(e:List CT) (f:List CT) (b:aaM) (r:List DC) (o:List aaL) (m:List Nat),e[Xf e]? =some (.sl f)→Zv e=1→QJ w (some v) e [b] r o m→
  bC w none b f a v g→QJ w none e [b] (CI r (Xf e) [.sl a]) o g
 | [],_,_,_,_,_,h,_,_,_=>by simp[Xf] at h
 | c::cs,f,b,_,_,_,h,hn,hc,hs=>by
  rcases zq c with ⟨e,rfl⟩ | i
  ·simp only[Zv] at hn;have p:zP cs=true:=Ca (by omega);simp only[Xf,KM,VR,CT.sl.injEq] at h;subst h;simp only[QJ] at hc;obtain⟨t,A,q,j,k,l,x,B,s,rfl,rfl,n,⟨rfl,C,rfl⟩,u,rfl⟩:=hc;simp only[List.cons.injEq] at s;obtain⟨rfl,rfl⟩:=s;obtain⟨_,rfl,_⟩:=QJ.toFlat _ _ _ _ _ p u;simp only[Xf,CI,QJ];exact⟨b,[],a,j,k,l,g,[],rfl,by simp,rfl,n,hs,QJ.BS p u,by simp⟩
  ·rw[nai i] at h ⊢;rw[QJ.flat i] at hc ⊢;obtain⟨d,j,k,l,rfl,rfl,y,n⟩:=hc;rw[jn i] at hn;refine⟨d,CI j (Xf cs) [.sl a],k,l, ?_,rfl,y,QJ.back cs f b _ _ _ (by simpa using h) hn n hs⟩;have z:Xf cs+1+([DC.sl a]:List DC).length=(Xf cs+([DC.sl a]:List DC).length)+1:=by omega
   simp only[CI,z,Lw,Mh,Lo]
theorem wX{α:Type}(l nu:List α)(p j:Nat)(h:p+nu.length≤l.length):(l.take p++(nu++l.drop (p+nu.length)))[j]? =if j<p then l[j]? else if j<p+nu.length then nu[j - p]? else l[j]? :=by
 have b:(l.take p).length=p:=by simp;omega
 split
 ·rename_i a;rw[MZ (by omega),Kq,if_pos a]
 ·rename_i a;rw[M0 (by omega),b];split
  ·rw[MZ (by omega)]
  ·rw[M0 (by omega),KE]
   congr 1
   omega
theorem nkr{α:Type}(a nu:List α)(i off b:Nat)(f:off+nu.length≤b)(g:i*b+b≤a.length):
  ((a.take (i*b+off)++(nu++a.drop (i*b+off+nu.length))).drop (i*b)).take b=((a.drop (i*b)).take b).take off++(nu++((a.drop (i*b)).take b).drop (off+nu.length)):=by
 apply M4;intro j;rw[wX _ _ _ _ (by simp;omega),Kq,KE,wX _ _ _ _ (by omega)];simp only[Kq,KE];by_cases c:j<b
 ·rw[if_pos c,if_pos c];by_cases d:j<off
  ·rw[if_pos (by omega),if_pos d]
  ·rw[if_neg (by omega),if_neg d];by_cases e:j<off+nu.length
   ·rw[if_pos (by omega),if_pos e]
    congr 1
    omega
   ·rw[if_neg (by omega),if_neg e]
 ·rw[if_neg c,if_neg c,if_neg (by omega),if_neg (by omega)]
theorem nba{α:Type}(b nu:List α)(i off a k:Nat)(e:off+nu.length≤a)(f:i*a+a≤b.length)(g:k≠i):
  ((b.take (i*a+off)++(nu++b.drop (i*a+off+nu.length))).drop (k*a)).take a=(b.drop (k*a)).take a:=by
 apply M4;intro j;rw[Kq,KE,wX _ _ _ _ (by omega),Kq,KE];by_cases c:j<a
 ·rw[if_pos c,if_pos c];rcases Nat.lt_or_ge k i with d | h
  ·have:k*a+a≤i*a:=by rw[←J9];exact Kh _ d
   rw[if_pos (by omega)]
  ·have:i*a+a≤k*a:=by rw[←J9];exact Kh _ (by omega)
   rw[if_neg (by omega),if_neg (by omega)]
 ·rw[if_neg c,if_neg c]
theorem R9.set{w w':aaK}{e:List CT}{ts:List aaM}{rows:List (List DC)}{a:List aaL}{o hv':Nat→Option aaL}{l:List (List Nat)}(h:R9 w e ts rows a o l)(s:w.heap.size≤w'.heap.size)(hl:a.length=rows.length*e.length)
  {i off:Nat} (n:i<rows.length) {nu:List aaL} (p:off+nu.length≤e.length) {r:List DC} {m:List Nat} (t:∀j,j≠i→∀c,l[j]? =some c→∀b∈c,w'.heap[b]? =w.heap[b]?)
  (u:∀j,j≠i→hv' j=o j) (v:QJ w' (hv' i) e ts r (((a.drop (i*e.length)).take e.length).take off++(nu++((a.drop (i*e.length)).take e.length).drop (off+nu.length))) m):
  R9 w' e ts (rows.set i r) (a.take (i*e.length+off)++(nu++a.drop (i*e.length+off+nu.length))) hv' (l.set i m):=by
 have q:i*e.length+e.length≤a.length:=by rw[hl,←J9];exact Kh _ n
 refine⟨by simp[h.1],λk x c g d=>?_⟩;by_cases f:k=i
 ·subst f;rw[LL n,VR] at g;rw[LL (by rw[h.1];exact n),VR] at d;subst g d;rw[nkr _ _ _ _ _ p q];exact v
 ·rw[Mq (Ne.symm f)] at g d;rw[nba _ _ _ _ _ _ p q f,u k f];exact QJ.mono s _ _ _ _ _ (h.2 k x c g d) (t k f c d)
end
def Env.fU(β:Env)(id:Nat)(l:List Nat):Env:=⟨β.cY,β.val,β.gV,PB β.nb id l⟩
def Env.gQ(β:Env)(id:Nat)(v:aaL)(l:List Nat):Env:=⟨β.cY,PB β.val id v,β.gV,PB β.nb id l⟩
section
variable {P:aaJ} {Γ:Ctx} {w0:aaK} {S:Own} {st:CO} {o:Oper} {e:R_} {a:Act} {w w':aaK}
variable {f:Nat→bg} {h:Nat→Option yP} {β:Env} {φ:Nat→List Nat} {tm:Array aaL}
theorem Core.Ef(m:Core w0 S f h β φ tm w){id:Nat}{n:yP}{t:aaM}{ct:List CT}{ts:List aaM}{rows:List (List DC)}{hl:Option (Nat×Nat)}{o:List Nat}{G:Nat→Prop}{u:Nat→Option yP}
  (r:h id=some n) (W:∀k,G k→k≠id) (E:u id=some (.deep t ct ts rows hl)) (s:∀j,j≠id→∀x,u j=some x→h j=some x∧¬G j)
  (K:w.heap.size≤w'.heap.size) (F:∀b,b<w.heap.size→b ∉ (β.val id).ownBlock.toList→w'.heap[b]? =w.heap[b]?)
  (z:∀b∈(β.val id).ownBlock.toList,b∈ar β id n)
  (L:∀b∈o,b∈ar β id n∨∃k x,G k∧h k=some x∧b∈ar β k x)
  (M:ef w' (uh u (β.fU id o)) (β.fU id o) id (.deep t ct ts rows hl) ((β.val id).ownBlock.toList++o)) (A:((β.val id).ownBlock.toList++o).Nodup):
  Core w0 S f u (β.fU id o) (PB φ id ((β.val id).ownBlock.toList++o)) tm w':=by
 have N:∀j a,j≠id→ar (β.fU id o) j a=ar β j a:=by intro j a d;cases a<;>simp[ar,Env.fU,PB,d]
 have O:∀b∈(β.val id).ownBlock.toList++o,b∈ar β id n∨∃k x,G k∧h k=some x∧b∈ar β k x:=by
  intro b c;rcases J8.1 c with c | c
  ·exact .inl (z b c)
  ·exact L b c
 have v:∀b∈(β.val id).ownBlock.toList++o,((w0.heap.size≤b∨S b)∧b<w.heap.size)∧uh h β b∧∀j a,j≠id→h j=some a→¬G j→b ∉ φ j:=by
  intro b c;rcases O b c with g | ⟨k,x,P,q,g⟩
  ·have p:=al (m.aC id n r) b g;exact⟨(m.fresh id n r).2 b p,.inl ⟨id,n,r,g⟩,λj a d B _=>m.sep id j n a (Ne.symm d) r B b p⟩
  ·have p:=al (m.aC k x q) b g;exact⟨(m.fresh k x q).2 b p,.inl ⟨k,x,q,g⟩,λj a d B Q=>m.sep k j x a (λe=>Q (e ▸ P)) q B b p⟩
 refine m.Aq (λ_=>False) K (λb c R=>F b c (λq=>R (.inl ⟨id,n,r,z b q⟩))) ?_ (λ_ _ _ h=>h) (λ_ _=>⟨rfl,rfl⟩) ?_ ?_
 ·rintro b (⟨j,a,d,bB⟩ | c)
  case inr=>exact .inl (.inr c)
  by_cases l:j=id
  ·subst l;rw[E,VR] at d;subst d;refine .inl (v b ?_).2.1;simpa [ar,Env.fU,PB] using bB
  ·rw[N j a l] at bB;exact .inl (.inl ⟨j,a,(s j l a d).1,bB⟩)
 ·intro j a d;by_cases l:j=id
  ·subst l;rw[E,VR] at d;subst d;refine .inr ⟨by simpa [PB] using M,by simpa [PB] using A,λb c=>?_⟩;have:=(v b (by simpa [PB] using c)).1;exact⟨this.1,by omega⟩
  ·have g:=(s j l a d).1;refine .inl ⟨λh=>h,g,by simp[Env.fU,PB,l],by simp[PB,l],λ_ _ h=>h,λb c=>?_⟩;have H:=al (m.aC j a g) b c;exact F b ((m.fresh j a g).2 b H).2 (λq=>m.sep id j n a (Ne.symm l) r g b (al (m.aC id n r) b (z b q)) H)
 ·intro i j C a I T d b c;by_cases y:i=id
  ·subst y;have D:j≠i:=Ne.symm I;simp only[PB,if_true] at c;simp only[PB,D,if_false];obtain⟨g,p⟩:=s j D a d;exact (v b c).2.2 j a D g p
  ·simp only[PB,y,if_false] at c;obtain⟨g,p⟩:=s i y C T;by_cases l:j=id
   ·subst l;simp only[PB,if_true];exact λU=>(v b U).2.2 i C y g p c
   ·simp only[PB,l,if_false];exact m.sep i j C a I g (s j l a d).1 b c
theorem nsf(f:Rel w0 S st a w)(h:∀d,o.dst=some d→IW st.n d){c:Call}{x:aaN}{t:aaM}(i:o.op= .call c)(j:c.callee= .builtin .len)
  (k:c.args= #[x]) (l:c.argTypes= #[t]) {p:bg} (m:(hF x).val st.get st.obj=some p) (b:(u0 P t p).val st.get st.obj=some e):Good P w0 S st o e a w:=by
 unfold u0 at b;split at b
 ·rename_i id;simp only[M.aY,sC] at b;obtain⟨F,z,b⟩:=b;split at b
  ·rename_i G H I r K;split at b
   ·rename_i L A;simp only[M.ab,VR] at b;subst b;refine R7 f h rfl rfl λβ φ s=>?_;have u:=s.ev m;simp only[dg] at u;obtain⟨v,N,B,_⟩:=s.aC id _ z;have key:∃q cap,β.val id= .slice q r.length cap∧r.length≤maxLen:=by
     rcases B.2 with ⟨hv',C,_⟩ | ⟨g,cap,D,hv',_,O,y,_⟩
     ·exact⟨none,0,by rw[hv',C],by omega⟩
     ·exact⟨_,cap,hv',by omega⟩
    obtain⟨q,cap,E,y⟩:=key;refine⟨.int .i64 r.length, ?_,by unfold dg;exact⟨rfl,V2 y⟩⟩;simp[execOp,i,resolve,j,k,l,invoke,builtin,u.1,E,Builtin.len_,run_underlying A,goInt]
   ·simp at b
  ·refine njl f h i j k l m ?_;exact b
 ·exact njl f h i j k l m b
theorem nyj(f:Rel w0 S st a w)(h:∀d,o.dst=some d→IW st.n d){t:aaM}{x i:aaN}(j:o.op= .indexAddr t x i){s u:bg}
  (l:(hF x).val st.get st.obj=some s) (m:(hF i).val st.get st.obj=some u) (b:(nt P t s u).val st.get st.obj=some e) (c:e.ok=true):Good P w0 S st o e a w:=by
 unfold nt at b;split at b
 ·rename_i id;simp only[M.aY,sC] at b;obtain⟨K,A,b⟩:=b;split at b
  ·rename_i L B N r O;split at b
   ·rename_i C k n D;cases p:fF P C B.length
    ·simp[p] at b
    simp only[p,HI,M.ab,VR] at b;subst b;simp only[gF,kQ] at c;obtain⟨E,F,G⟩:=Xo p;refine R7 f h rfl rfl λβ φ q=>?_;have v:=q.ev l;have y:=q.ev m;simp only[dg] at v y;obtain⟨z,Q,H,_⟩:=q.aC id _ A;rcases H.2 with ⟨_,R,_⟩ | ⟨g,cap,I,hv',_⟩
    ·omega
    ·refine⟨.pointer (some ⟨g,0+n.toNat*E.size,none⟩), ?_, ?_⟩
     ·simp[execOp,j,v.1,hv',y.1,Instr.indexAt,asIntOf,run_underlying D,c.1,c.2,sizeOf,typeInfo,F,yM]
     ·simp only[dg];exact⟨g,by rw[hv'];rfl,by rw[G];simp⟩
   ·simp at b
  ·exact ns2 f h j l m b c
 ·exact ns2 f h j l m b c
theorem nq0(q:Core w0 S f h β φ tm w){id:Nat}{t:aaM}{b:List CT}{d:List aaM}{a:List (List DC)}{e:Option (Nat×Nat)}(r:h id=some (.deep t b d a e)){i:Nat}(k:i<a.length){g:Nat}(s:(β.val id).ownBlock=some g):
  ∃(c:List aaL) (m:List Nat),QJ w (b_ β e i) b d (a.getD i []) c m∧c.length=b.length∧∀j u,c[j]? =some u→w.cell? ⟨g,i*b.length+j,none⟩=some u:=by
 obtain⟨l,n,v,o,_,_⟩:=q.aC id _ r;have y:i<n.length:=by rw[o.1];exact k
 have p:=o.2 i (a.getD i []) n[i] (G1 k) (by simp);exact⟨_,_,p,(QJ.length _ _ _ _ _ p).1,λj u x=>v.cell s (uR x)⟩
theorem QJ.get{l:Option aaL} :∀(a:List CT) (n:List aaM) (r:List DC) (i:List aaL) (m:List Nat) (k:Nat) (c:CT),QJ w l a n r i m→a[k]? =some c→zP [c]=true→
  ∃v,i[k]? =some v∧kL w c (r.getD k default) v []
 | [],_,_,_,_,_,_,_,hk,_=>by simp at hk
 | c0::a,_,_,_,_,k,c,h,hk,hf=>by
  rcases zq c0 with ⟨e,rfl⟩ | o
  ·simp only[QJ] at h;obtain⟨t,y,j,p,v,q,z,A,rfl,rfl,rfl,_,_,s,rfl⟩:=h;cases k with
   | zero=>
    simp only[KM,VR] at hk;subst hk;simp[zP] at hf
   | succ k=>
    obtain⟨b,f,g⟩:=QJ.get a _ _ _ _ k c s (by simpa using hk) hf;exact⟨b,by simpa using f,by simpa using g⟩
  ·rw[QJ.flat o] at h;obtain⟨d,p,v,q,rfl,rfl,u,x⟩:=h;cases k with
   | zero=>
    simp only[KM,VR] at hk;subst hk;exact⟨v,by simp,by simpa using u⟩
   | succ k=>
    obtain⟨b,f,g⟩:=QJ.get a _ _ _ _ k c x (by simpa using hk) hf;exact⟨b,by simpa using f,by simpa using g⟩
theorem QJ.b7{l:Option aaL}{av:Nat→Prop}{a:List CT}{f:List aaM}{r:List DC}{c:List aaL}{m:List Nat}(h:QJ w l a f r c m):
  ∀(n k:Nat),k+n≤a.length→zP ((a.drop k).take n)=true→∃b:List aaL,b.length=n∧(∀j v,b[j]? =some v→c[k+j]? =some v)∧qV w av β (BT ((a.drop k).take n) r k) b∧∀x∈b,x.oneCell'=true
 | 0,k,_,_=>⟨[],rfl,by simp,by simp[BT,qV],by simp⟩
 | n+1,k,hk,hf=>by
  have o:k<a.length:=by omega
  have g:(a.drop k).take (n+1)=a[k]::(a.drop (k+1)).take n:=by rw[List.drop_eq_getElem_cons o,Lw]
  rw[g,NK,gF] at hf;obtain⟨v,p,i⟩:=QJ.get a f r c m k a[k] h (by simp) hf.1;obtain⟨b,q,s,t,y⟩:=QJ.b7 h n (k+1) (by omega) hf.2;refine⟨v::b,by simp[q], ?_, ?_, ?_⟩
  ·intro j u d;cases j with
   | zero=>simp at d;subst d;simpa using p
   | succ j=>have:=s j u (by simpa using d);rw[←this];congr 1;omega
  ·rw[g];simp only[BT,qV];exact⟨v,b,rfl,mu i (by simp),t⟩
  ·intro x e;rcases J2.1 e with rfl | e
   ·exact i.one
   ·exact y x e
theorem nwZ(H:Rel w0 S st a w)(I:∀d,o.dst=some d→IW st.n d){t:aaM}{x:aaN}(K:o.op= .load t x){id i z off:Nat}{R:aaM}{p:List CT}{L:List aaM}{b:List (List DC)}{N:Option (Nat×Nat)}
  (T:(hF x).val st.get st.obj=some (.eK id i z off)) (U:st.obj id=some (.deep R p L b N)) (f:(ao P t i z off p b).val st.get st.obj=some e) (O:e.ok=true):Good P w0 S st o e a w:=by
 unfold ao at f;cases C:JY z p.length
 ·simp[C] at f
 have W:=cL C;simp only[C,Bool.not_true,rl] at f;split at f
 ·simp at f
 rename_i td X;have l:∀β φ,Core w0 S st.get st.obj β φ a.tmps w→i<b.length→∃g q m,a.eval x= .pointer (some ⟨g,i*p.length+off,none⟩)∧QJ w (b_ β N i) p L (b.getD i []) q m∧
   ∀j u,q[j]? =some u→w.cell? ⟨g,i*p.length+j,none⟩=some u:=by
  intro β φ r s;have Q:=r.ev T;simp only[dg] at Q;obtain⟨g,Z,y⟩:=Q;obtain⟨q,m,k1,_,k3⟩:=nq0 r U s Z;exact⟨g,q,m,by rw[y,W],k1,k3⟩
 cases B:Oz P t
 ·simp only[B,rl] at f;split at f
  ·rename_i c BC;cases D:zP [c]
   ·simp[D] at f
   simp only[D,HI,M.ab,VR] at f;subst f;have s:i<b.length:=by simpa using O
   refine R7 H I rfl rfl λβ φ r=>?_;obtain⟨g,q,m,y,E,h⟩:=l β φ r s;obtain⟨v,e1,e2⟩:=QJ.get _ _ _ _ _ _ _ E BC D;refine⟨v, ?_,mu e2 (by simp)⟩;simp[execOp,K,y,RQ B X (h _ _ e1)]
  ·simp at f
 ·simp only[B,HI] at f;split at f
  ·rename_i j hj;cases A:K3 (off+j.size) p.length && zP ((p.drop off).take j.size)
   ·simp[A] at f
   simp only[A,HI,M.ab,VR] at f;subst f;simp only[gF] at A;have s:i<b.length:=by simpa using O
   have F:=Kd A.1;refine R7 H I rfl rfl λβ φ r=>?_;obtain⟨g,q,m,y,E,h⟩:=l β φ r s;obtain⟨G,l1,l2,l3,l4⟩:=QJ.b7 (β:=β) (av:=uh st.obj β) E j.size off F A.2;refine⟨.agg G.toArray, ?_, ?_⟩
   ·have:∀k v,G[k]? =some v→w.cell? ⟨g,(i*p.length+off)+k,none⟩=some v:=λk v hk=>by rw[Nat.add_assoc];exact h _ _ (l2 k v hk)
    simp[execOp,K,y,zX B hj l1 this]
   ·simp only[dg];exact⟨G,rfl,l3,l4⟩
  ·simp at f
theorem nd2{c:List (List Nat)}{i:Nat}(d:i<c.length):∀b∈(c.set i []).flatten,b∈c.flatten:=by intro b a;rw[T3 d] at a;rw[Qg d];simp only[KF,J8] at a ⊢;rcases a with a | a<;>simp[a]
theorem nDj(hR:Rel w0 S st a w){d:Nat}(bR:T7 st d){β:Env}{φ:Nat→List Nat}(z:Core w0 S st.get st.obj β φ a.tmps w){id i off g:Nat}{O D:aaM}{y I:List CT}{h:List (List DC)}
  (hg:(β.val id).ownBlock=some g) (A:st.obj id=some (.deep O y [D] h none)) (jO:y[off]? =some (.sl I)) (De:Zv y=1) (hi:i<h.length):
  ∃(P:List aaL) (v:aaL) (f:Env) (n:Nat→List Nat),P.length=y.length∧(∀j u,P[j]? =some u→w.cell? ⟨g,i*y.length+j,none⟩=some u)∧P[off]? =some v∧v.oneCell'=true∧QJ w (some v) y [D] (h.getD i []) P []∧f.val (G8 d 0)=v∧
   Core w0 S st.get (PB (PB st.obj id (some (.deep O y [D] h (some (i,G8 d 0))))) (G8 d 0) (some (.row D I ((h.getD i []).getD off default).cG false true))) f n a.tmps w:=by
 have bN:G8 d 0 / 64=d:=DV d 0 (by omega);generalize M_:G8 d 0=nid at*;have c8:id≠nid:=λe=>(bR.obj id _ A).1 (e ▸ bN);obtain⟨K,p,bk,Q,ju,lv⟩:=z.aC id _ A;have E:i<p.length:=by rw[Q.1];exact hi
 have fg:=Q.2 i (h.getD i []) p[i] (G1 hi) (by simp);obtain⟨t1',v,F,Kx,hv,JO,eY,ll,JG⟩:=QJ.out y off I _ _ _ _ jO De fg;simp only[List.cons.injEq,and_true] at Kx;subst Kx;obtain⟨Bm,GF,Hu,Lv,Hr⟩:=ll;have LH:((h.getD i []).getD off default).cG=F:=by rw[List.getD_eq_getElem?_getD,JO];rfl
 rw[LH];have R:=(z.fresh id _ A).1;rw[lv] at R;have T:∀b∈v.ownBlock.toList,b∈p.flatten:=by intro b c;rw[Qg E,Hr];simp[c]
 have Ja:∀b∈(β.val id).ownBlock.toList++p.flatten,uh st.obj β b:=λb c=> .inl ⟨id,_,A,by simpa [ar,ju] using c⟩;have H:∀b∈(β.val id).ownBlock.toList++p.flatten,b∈φ id:=λb c=>by rw[lv];exact c
 have U:∀b∈(β.val id).ownBlock.toList++(p.set i []).flatten,b∈(β.val id).ownBlock.toList++p.flatten:=by
  intro b c;rcases J8.1 c with c | c
  ·exact U8 _ c
  ·exact mi _ (nd2 E b c)
 have D2:∀b∈v.ownBlock.toList,b ∉ (β.val id).ownBlock.toList++(p.set i []).flatten:=by
  intro b c t;rw[Qg E,Kp] at R;obtain⟨_,n2,n3⟩:=R;rw[Kp] at n2;obtain⟨_,n4,n5⟩:=n2;rw[Kp] at n4;obtain⟨_,_,n6⟩:=n4;rw[←Hr] at c;rcases J8.1 t with t | t
  ·exact n3 b t b (by simp[c]) rfl
  ·rw[T3 E] at t;simp only[KF,J8] at t;rcases t with t | t
   ·exact n5 b t b (by simp[c]) rfl
   ·exact n6 b c b t rfl
 have FI:((β.val id).ownBlock.toList++(p.set i []).flatten).Nodup:=by refine List.Sublist.nodup ?_ R;refine (List.Sublist.refl _).append ?_;rw[T3 E,Qg E];exact (List.Sublist.refl _).append ((List.nil_sublist _).append (List.Sublist.refl _))
 have GV:v.ownBlock.toList.Nodup:=by cases v.ownBlock<;>simp
 let f:Env:=⟨β.cY,PB β.val nid v,β.gV,PB β.nb id (p.set i []).flatten⟩;have FQ:f.val id=β.val id:=by simp[f,PB,c8]
 have L:f.val nid=v:=by simp[f,PB]
 have Jy:f.nb id=(p.set i []).flatten:=by simp[f,PB]
 let h':Nat→Option yP:=PB (PB st.obj id (some (.deep O y [D] h (some (i,nid))))) nid (some (.row D I F false true));let n:Nat→List Nat:=PB (PB φ id ((β.val id).ownBlock.toList++(p.set i []).flatten)) nid v.ownBlock.toList;have Ci:Core w0 S st.get h' f n a.tmps w:=by
  have e1:h' nid=some (.row D I F false true):=by simp[h',PB]
  have e2:h' id=some (.deep O y [D] h (some (i,nid))):=by simp[h',PB,c8]
  have e3:∀j,j≠nid→j≠id→h' j=st.obj j:=λj M N=>by simp[h',PB,M,N]
  have W:n nid=v.ownBlock.toList:=by simp[n,PB]
  have X:n id=(β.val id).ownBlock.toList++(p.set i []).flatten:=by simp[n,PB,c8]
  have p3:∀j,j≠nid→j≠id→n j=φ j:=λj M N=>by simp[n,PB,M,N]
  have iQ:∀j o,j≠nid→j≠id→ar f j o=ar β j o:=by intro j o M N;cases o<;>simp[ar,f,PB,M,N]
  have KP:∀b,uh h' f b→uh st.obj β b:=by
   rintro b (⟨j,o,l,bB⟩ | c)
   case inr=>exact .inr c
   by_cases q:j=nid
   ·subst q;rw[e1,VR] at l;subst l;exact Ja b (mi _ (T b (by simpa [ar,L] using bB)))
   ·by_cases s:j=id
    ·subst s;rw[e2,VR] at l;subst l;exact Ja b (U b (by simpa only[ar,FQ,Jy] using bB))
    ·rw[e3 j q s] at l;rw[iQ j o q s] at bB;exact .inl ⟨j,o,l,bB⟩
  have bP:=(z.fresh id _ A).2;refine z.Aq (λj=>j=nid) (K4 _) (λ_ _ _=>rfl) (λb c=> .inl (KP b c)) (λk j l e=>bR.slot k j l (e ▸ bN)) (λj l=>⟨by simp[f,PB,l],rfl⟩) ?_ ?_
  ·intro j o l;by_cases q:j=nid
   ·subst q;rw[e1,VR] at l;subst l;refine .inr ⟨?_,by rw[W];exact GV,λb c=>?_⟩
    ·refine⟨Bm,GF,by rw[L];exact Hu,Lv, ?_, ?_⟩
     ·rw[Lv.Ed eY];simp
     ·rw[W,L,Lv.Ed eY];simp
    ·rw[W] at c;exact bP b (H b (mi _ (T b c)))
   ·by_cases s:j=id
    ·subst s;rw[e2,VR] at l;subst l;refine .inr ⟨?_,by rw[X];exact FI,λb c=>?_⟩
     ·refine⟨K,p.set i [],by rw[FQ];exact bk,⟨by simp[Q.1],λk r m G Z=>?_⟩,Jy,by rw[X,FQ]⟩;by_cases A5:k=i
      ·subst A5;rw[LL E,VR] at Z;subst Z;have FK:r=h.getD k []:=by rw[G1 (d:=[]) hi,VR] at G;exact G.symm
       subst FK;simp only[b_,if_true];rw[L];exact JG
      ·rw[Mq (Ne.symm A5)] at Z;simp only[b_,A5,if_false];exact Q.2 k r m G Z
     ·rw[X] at c;exact bP b (H b (U b c))
    ·rw[e3 j q s] at l;refine .inl ⟨q,l,by simp[f,PB,s],p3 j q s,λk G e=>(bR.obj j o l).2 k G (e ▸ bN),λ_ _=>rfl⟩
  ·have x:∀j o,h' j=some o→∀b∈n j,(j=nid∧b∈v.ownBlock.toList)∨(j=id∧b∈(β.val id).ownBlock.toList++(p.set i []).flatten)∨(j≠nid∧j≠id∧st.obj j=some o∧b∈φ j):=by
    intro j o l b c;by_cases q:j=nid
    ·subst q;rw[W] at c;exact .inl ⟨rfl,c⟩
    ·by_cases s:j=id
     ·subst s;rw[X] at c;exact .inr (.inl ⟨rfl,c⟩)
     ·rw[p3 j q s] at c;rw[e3 j q s] at l;exact .inr (.inr ⟨q,s,l,c⟩)
   intro j k o ok La l G b c aB;rcases x j o l b c with ⟨rfl,B⟩ | ⟨rfl,B⟩ | ⟨x0,Mx,B,x2⟩<;>rcases x k ok G b aB with ⟨rfl,C⟩ | ⟨rfl,C⟩ | ⟨y0,My,C,y2⟩
   ·exact La rfl
   ·exact D2 b B C
   ·exact z.sep id k _ ok (Ne.symm My) A C b (H b (mi _ (T b B))) y2
   ·exact D2 b C B
   ·exact La rfl
   ·exact z.sep _ k _ ok (Ne.symm My) A C b (H b (U b B)) y2
   ·exact z.sep id j _ o (Ne.symm Mx) A B b (H b (mi _ (T b C))) x2
   ·exact z.sep _ j _ o (Ne.symm Mx) A B b (H b (U b C)) x2
   ·exact z.sep j k o ok La B C b x2 y2
 exact⟨_,v,f,n,(QJ.length _ _ _ _ _ fg).1,λj u l=>bk.cell hg (uR l),hv,Hu.one,JG,L,Ci⟩
theorem nvz(h:Rel w0 S st a w){d:Nat}(y:o.dst=some d)(z:IW st.n d)(A:T7 st d){t:aaM}{x:aaN}(B:o.op= .load t x){id i off:Nat}{r l:aaM}{f s:List CT}{c:List (List DC)}{C:TypeDesc}
  (D:(hF x).val st.get st.obj=some (.eK id i f.length off)) (E:st.obj id=some (.deep r f [l] c none)) (F:f[off]? =some (.sl s)) (G:Zv f=1) (H:Oz P t=false) (I:P.underlying t=some C) (K:i<c.length)
  (L:e.sv= .own (G8 d 0)) (M:e.cw=none) (m:e.ow=[(G8 d 0,some (.row l s ((c.getD i []).getD off default).cG false true)),(id,some (.deep r f [l] c (some (i,G8 d 0))))]):Good P w0 S st o e a w:=by
 obtain⟨β,φ,u⟩:=h.core;have j:=u.ev D;simp only[dg] at j;obtain⟨g,N,j⟩:=j;obtain⟨U,v,p,q,_,b,O,Q,_,R,T⟩:=nDj h A u N E F G K;have b:=b _ _ O;refine yu h (λW k=>by rw[y] at k;injection k with k;exact k ▸ z) (v:=v) (w':=w) ?_ h.kept ⟨p,q, ?_, ?_⟩
 ·simp[execOp,B,j,RQ H I b]
 ·rw[m,M];exact T
 ·rw[L];unfold dg;exact⟨R.symm,Q⟩
theorem QJ.outs{w:aaK}{av:Nat→Prop}{β:Env}{s:aaL}{g:Nat}(k:β.val g=s):
  ∀(i:List CT) (A:List aaM) (r:List DC) (l:List aaL) (m:List Nat) (pre:List DC),QJ w (some s) i A r l m→
  qV w av β (Oq g i (pre++r) pre.length) l∧∀x∈l,x.oneCell'=true
 | [],_,_,_,_,_,h=>by simp only[QJ] at h;obtain⟨_,_,rfl,_⟩:=h;simp[Oq,qV]
 | c::i,_,_,_,_,pre,h=>by
  rcases zq c with ⟨e,rfl⟩ | u
  ·simp only[QJ] at h;obtain⟨t,F,a,n,v,j,G,H,rfl,rfl,rfl,_,B,C,rfl⟩:=h;obtain⟨rfl,y,_⟩:=B;obtain⟨b,o⟩:=QJ.outs k i _ _ _ _ (pre++[.sl a]) C;have p:(pre++[DC.sl a]).length=pre.length+1:=by simp
   rw[p,K5] at b;refine⟨?_, ?_⟩
   ·simp only[Oq,qV];exact⟨v,j,rfl,by simp only[dg];exact⟨k.symm,y⟩,b⟩
   ·intro x f;rcases J2.1 f with rfl | f
    ·exact y
    ·exact o x f
  ·rw[QJ.flat u] at h;obtain⟨d,n,v,j,rfl,rfl,z,D⟩:=h;obtain⟨b,o⟩:=QJ.outs k i _ _ _ _ (pre++[d]) D;have p:(pre++[d]).length=pre.length+1:=by simp
   rw[p,K5] at b;have E:(pre++d::n).getD pre.length default=d:=by simp
   have q:dg w av β (RL c ((pre++d::n).getD pre.length default)) v:=by rw[E];exact mu z (by simp)
   refine⟨?_, ?_⟩
   ·cases c with
    | sl e=>simp[zP] at u
    | int x=>simp only[Oq,qV];exact⟨v,j,rfl,q,b⟩
    | bool=>simp only[Oq,qV];exact⟨v,j,rfl,q,b⟩
    | str=>simp only[Oq,qV];exact⟨v,j,rfl,q,b⟩
   ·intro x f;rcases J2.1 f with rfl | f
    ·exact z.one
    ·exact o x f
theorem cg(a:Nat):∀(d:List CT) (b:List DC) (k n m:Nat),((Oq a d b k).drop n).take m=Oq a ((d.drop n).take m) b (k+n)
 | [],b,k,n,m=>by simp[Oq]
 | c::d,b,k,0,0=>by simp[Oq]
 | c::d,b,k,0,m+1=>by have:=cg a d b (k+1) 0 m;simp only[Mt,KU] at this ⊢;cases c<;>simp only[Oq,Lw,this]
 | c::d,b,k,n+1,m=>by
  have:=cg a d b (k+1) n m;have e:k+(n+1)=k+1+n:=by omega
  rw[e];cases c<;>simp only[Oq,Mh,this]
theorem qV.part{w:aaK}{b:Nat→Prop}{β:Env} :∀(AK:List bg) (a:List aaL) (n m:Nat),qV w b β AK a→qV w b β ((AK.drop n).take m) ((a.drop n).take m)
 | [],a,n,m,h=>by simp only[qV] at h;subst h;simp[qV]
 | s::AK,a,n,m,h=>by
  have f:=h;simp only[qV] at h;obtain⟨v,c,rfl,e,d⟩:=h;cases n with
  | zero=>
   cases m with
   | zero=>simp[qV]
   | succ m=>
    have:=qV.part AK c 0 m d;simp only[Mt,Lw,qV] at this ⊢;exact⟨v,_,rfl,e,this⟩
  | succ n=>simpa only[Mh] using qV.part AK c n m d
theorem npT(r:Rel w0 S st a w){d:Nat}(G:o.dst=some d)(H:IW st.n d)(I:T7 st d){t:aaM}{x:aaN}(K:o.op= .load t x){id i off:Nat}{A h:aaM}{c B:List CT}{b:List (List DC)}{j:TypeInfo}
  (L:(hF x).val st.get st.obj=some (.eK id i c.length off)) (M:st.obj id=some (.deep A c [h] b none)) (N:c[xW c]? =some (.sl B)) (O:Zv c=1) (Q:Oz P t=true) (R:P.info? t=some j) (T:off+j.size≤c.length) (U:i<b.length)
  (W:e.sv= .agg (Oq (G8 d 0) ((c.drop off).take j.size) (b.getD i []) off)) (E:e.cw=none) (m:e.ow=[(G8 d 0,some (.row h B ((b.getD i []).getD (xW c) default).cG false true)),(id,some (.deep A c [h] b (some (i,G8 d 0))))]):Good P w0 S st o e a w:=by
 obtain⟨β,φ,F⟩:=r.core;have l:=F.ev L;simp only[dg] at l;obtain⟨g,X,l⟩:=l;obtain⟨s,v,p,C,Dq,f,_,_,Z,kA,Ci⟩:=nDj r I F X M N O U;obtain⟨q1,q2⟩:=QJ.outs (w:=w) (av:=uh (PB (PB st.obj id (some (.deep A c [h] b (some (i,G8 d 0))))) (G8 d 0) (some (.row h B ((b.getD i []).getD (xW c) default).cG false true))) p) kA c [h] (b.getD i []) s [] [] Z;have D:=qV.part _ _ off j.size q1;simp only[KF,Kj] at D;rw[cg,J_] at D;have q:((s.drop off).take j.size).length=j.size:=by rw[KJ,K0];omega
 refine yu r (λd' y=>by rw[G] at y;injection y with y;exact y ▸ H) (v:= .agg ((s.drop off).take j.size).toArray) (w':=w) ?_ r.kept ⟨p,C, ?_, ?_⟩
 ·have:∀k u,((s.drop off).take j.size)[k]? =some u→w.cell? ⟨g,(i*c.length+off)+k,none⟩=some u:=λk u z=>by
   rw[Nat.add_assoc];refine f _ _ ?_;rw[Kq] at z;split at z
   ·simpa using z
   ·cases z
  simp[execOp,K,l,zX Q R q this]
 ·rw[m,E];exact Ci
 ·rw[W];simp only[dg];refine⟨_,rfl, ?_,λx l=>q2 x (List.mem_of_mem_drop (List.mem_of_mem_take l))⟩;rw[m,E];exact D
end
section
variable {P:aaJ} {Γ:Ctx} {w0:aaK} {S:Own} {st:CO} {o:Oper} {e:R_} {a:Act} {w w':aaK}
variable {f:Nat→bg} {h:Nat→Option yP} {β:Env} {φ:Nat→List Nat} {tm:Array aaL}
theorem QJ.G_{a:Option aaL}{pre part suf:List CT}{c:List aaM}{r d:List DC}{b nu:List aaL}{m:List Nat}(h:QJ w a (pre++(part++suf)) c r b m)(g:zP part=true)(e:QJ w a part [] d nu []):
  QJ w a (pre++(part++suf)) c (CI r pre.length d) (b.take pre.length++(nu++b.drop (pre.length+nu.length))) m:=by
 obtain⟨q,s,t,u,rfl,rfl,i,j⟩:=QJ.split _ _ _ _ _ _ h;obtain⟨k,l,v,x,rfl,rfl,n,f⟩:=QJ.split _ _ _ _ _ _ j;obtain⟨rfl,rfl,_⟩:=QJ.toFlat _ _ _ _ _ g n;obtain⟨o,p⟩:=QJ.length _ _ _ _ _ e;rw[LM,LM] at f;have:=QJ.join _ _ _ _ _ _ _ _ _ _ i (QJ.join _ _ _ _ _ _ _ _ _ _ e f);simpa only[CI,o,p] using this
theorem QJ.G9{k:Option aaL}{pre part suf:List CT}{l c:List aaM}{r d:List DC}{a nu:List aaL}{m e:List Nat}(h:QJ w k (pre++(part++suf)) l r a m)(n:Zv part=Zv (pre++(part++suf)))(f:QJ w none part c d nu e):
  QJ w none (pre++(part++suf)) c (CI r pre.length d) (a.take pre.length++(nu++a.drop (pre.length+nu.length))) e:=by
 rw[uS,uS] at n;have g:zP pre=true:=Ca (by omega);have i:zP suf=true:=Ca (by omega);obtain⟨u,v,x,y,rfl,rfl,j,o⟩:=QJ.split _ _ _ _ _ _ h;obtain⟨p,q,z,A,rfl,rfl,B,b⟩:=QJ.split _ _ _ _ _ _ o;obtain⟨rfl,rfl,_⟩:=QJ.toFlat _ _ _ _ _ g j;obtain⟨rfl,rfl,_⟩:=QJ.toFlat _ _ _ _ _ i b;obtain⟨s,t⟩:=QJ.length _ _ _ _ _ f;rw[LM,LM] at b;have:=QJ.join _ _ _ _ _ _ _ _ _ _ (QJ.BS (hv':=none) g j) (QJ.join _ _ _ _ _ _ _ _ _ _ f (QJ.BS (hv':=none) i b));simpa only[CI,s,t,KF,Mz] using this
theorem ft.cells:∀(a:List CT) (l:List aaM) (m:List DC) (n:List aaL) (o:List Nat),ft w a l m n o→QJ w none a l m n o
 | [],_,_,_,_,h=>by simpa only[ft,QJ] using h
 | .sl e::a,_,_,_,_,h=>by simp only[ft] at h;obtain⟨t,p,g,b,v,c,i,q,r,rfl,rfl,rfl,f,s,u,x,rfl⟩:=h;simp only[QJ];exact⟨t,p,g,b,v,c,_,r,rfl,rfl,rfl,f,⟨i,q,s,u,rfl⟩,ft.cells a _ _ _ _ x,rfl⟩
 | .int k::a,_,_,_,_,h=>by simp only[ft] at h;obtain⟨d,b,v,c,rfl,rfl,j,f⟩:=h;simp only[QJ];exact⟨d,b,v,c,rfl,rfl,j,ft.cells a _ _ _ _ f⟩
 | .bool::a,_,_,_,_,h=>by simp only[ft] at h;obtain⟨d,b,v,c,rfl,rfl,j,f⟩:=h;simp only[QJ];exact⟨d,b,v,c,rfl,rfl,j,ft.cells a _ _ _ _ f⟩
 | .str::a,_,_,_,_,h=>by simp only[ft] at h;obtain⟨d,b,v,c,rfl,rfl,j,f⟩:=h;simp only[QJ];exact⟨d,b,v,c,rfl,rfl,j,ft.cells a _ _ _ _ f⟩
theorem three(a:List CT)(off n:Nat):a.take off++((a.drop off).take n++a.drop (off+n))=a:=by rw[←LM,Md,Md]
theorem ntb{t e:aaM}{x y:aaN}(m:o.op= .store t x y){g i off:Nat}{c:List CT}{n cap:Nat}{d:Array aaL}(p:a.eval x= .pointer (some ⟨g,i*c.length+off,none⟩)){f:TypeInfo}(q:P.info? t=some f)(r:f.size=(a.eval y).cells.size)
  (s:∀v∈(a.eval y).cells.toList,v.oneCell'=true) (u:w.heap[g]? =some (.cells d e (0,0))) (z:i<n) (A:n≤cap) (B:d.size=cap*c.length) (C:off+(a.eval y).cells.toList.length≤c.length):
  (execOp a.eval o).run P w= .ok .skip (w.setRow g (d.toList.take (i*c.length+off)++((a.eval y).cells.toList++d.toList.drop (i*c.length+off+(a.eval y).cells.toList.length))).toArray):=by
 have k:i*c.length+c.length≤n*c.length:=by rw[←J9];exact Kh _ z
 have D:n*c.length≤cap*c.length:=Kh _ A;have l:=uY P g (i*c.length+off) e (0,0) (a.eval y).cells.toList 0 d w u (λj _ h=>by simp at h) (by omega) s;simp only[KU] at l;have:=fk (P:=P) (t:=t) (b:=g) (off:=i*c.length+off) (x:=a.eval y) q r l;simp[execOp,m,p,this]
theorem Em.written{t:aaM}{b i off n:Nat}{v:aaL}{c nu:List aaL}(f:Em w t b false v n c){g:Nat}(l:v.ownBlock=some g)(m:i<n)(z:off+nu.length≤b){cap:Nat}{a:Array aaL}(h:w.heap[g]? =some (.cells a t (0,0)))(A:a.size=cap*b)(o:n≤cap):
  Em (w.setRow g (a.toList.take (i*b+off)++(nu++a.toList.drop (i*b+off+nu.length))).toArray) t b false v n (c.take (i*b+off)++(nu++c.drop (i*b+off+nu.length))):=by
 have j:i*b+b≤n*b:=by rw[←J9];exact Kh _ m
 have B:n*b≤cap*b:=Kh _ o;have p:(a.toList.take (i*b+off)++(nu++a.toList.drop (i*b+off+nu.length))).length=a.size:=by simp only[Qe,KJ,K0,Ln];omega
 rcases f.2 with ⟨d,C,_⟩ | ⟨k,q,D,d,e,r,s,u,x⟩
 ·omega
 have y:k=g:=by simpa [d,J6] using l
 subst y;rw[h] at e;simp only[rl,VR,Obj.cells.injEq] at e;obtain⟨rfl,_⟩:=e;refine⟨?_,.inr ⟨k,q,(a.toList.take (i*b+off)++(nu++a.toList.drop (i*b+off+nu.length))).toArray,d, ?_,r,s,by simpa [p] using u, ?_⟩⟩
 ·have:=f.1;simp only[Qe,KJ,K0];omega
 ·rw[setRow_heap w _ _ _ _ _ h];simp
 ·simp only;rw[ZQ _ _ _ _ (by omega) (by simp only[Ln];omega),x]
theorem ngJ(H:Rel w0 S st a w)(hd:∀d,o.dst=some d→IW st.n d){t u:aaM}{x y:aaN}(ho:o.op= .store t x y){id i off:Nat}{R:bg}{m:List bg}{f:List CT}{v:List aaM}{c:List (List DC)}{q:Option (Nat×Nat)}{r:List DC×Wk×Bool}
  (h1:(hF x).val st.get st.obj=some (.eK id i f.length off)) (h2:(hF y).val st.get st.obj=some R) (fX:(R8 R).val st.get st.obj=some m) (dO:fF P t m.length=true)
  (A:st.obj id=some (.deep u f v c q)) (E:off+m.length≤f.length) (I:zP ((f.drop off).take m.length)=true) (T:(jk ((f.drop off).take m.length) m).val st.get st.obj=some r)
  (B:i<c.length) (kr:e.cw=none) (Ct:e.sv= .undef) (K:e.ow=[(id,some (.deep u f v (c.set i (CI (c.getD i []) off r.1)) q))]):Good P w0 S st o e a w:=by
 obtain⟨ti,GS,bJ⟩:=Xo dO;obtain⟨β,φ,p⟩:=H.core;have F:=p.ev h1;simp only[dg] at F;obtain⟨g,G,F⟩:=F;obtain⟨U,bo⟩:=Rg (p.ev h2) fX;have ku:=qV.length _ _ U;have W:(a.eval y).cells.size=m.length:=by simpa using ku
 obtain⟨fp,X,_,_,_⟩:=eV p _ _ _ r U T;obtain⟨Z,h,L,M,ju,lv⟩:=p.aC id _ A;have lP:g∈ar β id (.deep u f v c q):=by simp[ar,G]
 rcases L.2 with ⟨hv,h0,_⟩ | ⟨s,cap,C,hv,N,BF,EK,mY,FP⟩
 ·omega
 have H5:s=g:=by simpa [hv,J6] using G
 subst H5;simp only[rl] at N;have O:(a.eval y).cells.toList.length=m.length:=by simpa using W
 have bH:=ntb (P:=P) ho F GS (bJ.trans W.symm) bo N B BF mY (by rw[O];exact E);have IP:=L.written (off:=off) (nu:=(a.eval y).cells.toList) G B (by rw[O];exact E) N mY BF;generalize (a.eval y).cells.toList=nu at*;rw[←O] at E I X T;have j9:i<h.length:=by rw[M.1];exact B
 have fg:=M.2 i (c.getD i []) h[i] (G1 B) (by simp);have Hq:(f.take off).length=off:=by simp;omega
 have Jr:((f.drop off).take nu.length).length=nu.length:=by simp;omega
 have bN:=QJ.G_ (pre:=f.take off) (part:=(f.drop off).take nu.length) (suf:=f.drop (off+nu.length)) (by rw[three];exact fg) I (QJ.Dy _ _ _ _ I X Jr.symm);rw[three,Hq] at bN;have Q:=p.fresh id _ A;have l:=Q.1;rw[lv] at l;have Kv:∀b∈h.flatten,b≠s:=by intro b k e;subst e;rw[Kp] at l;exact l.2.2 b (by simp[G]) b k rfl
 have lk:∀j z,h[j]? =some z→∀b∈z,b∈h.flatten:=λj z D b k=>Mg.2 ⟨z,LF D,k⟩;have M8:h.set i h[i]=h:=List.set_getElem_self ..;have m0:=M.set (w':=w.setRow s (C.toList.take (i*f.length+off)++(nu++C.toList.drop (i*f.length+off+nu.length))).toArray) (hv':=b_ β q) (by simp) L.1 B E
  (λj _ z D b k=>setRow_other w s b _ (Kv b (lk j z D b k))) (λ_ _=>rfl)
  (QJ.mono (by simp) _ _ _ _ _ bN (λb k=>setRow_other w s b _ (Kv b (lk i h[i] (by simp) b k))))
 rw[M8] at m0;have A7:∀b∈ar β id (.deep u f v (c.set i (CI (c.getD i []) off r.1)) q),b∈ar β id (.deep u f v c q):=λb k=>k;refine tW H hd bH (H.kept.setRow (Q.2 s (al (p.aC id _ A) s lP)).1 _) ⟨β,PB φ id ((β.val id).ownBlock.toList++h.flatten), ?_,by rw[Ct];simp[dg]⟩;rw[K,kr];show Core w0 S st.get (PB st.obj id (some (.deep u f v (c.set i (CI (c.getD i []) off r.1)) q))) _ _ _ _;refine p.rewrite A lP A7 ?_ l ?_
 ·exact⟨_,h,by simpa using IP,m0,ju,rfl⟩
 ·intro b k;have aB:b∈φ id:=by rw[lv];exact k
  exact⟨Q.2 b aB,λj oj D jN=>p.sep id j _ _ (Ne.symm D) A jN b aB⟩
theorem r_:∀(U:List Zq) (h:Nat→Option yP) (j:Nat),xO (AO U) h j=if j∈RI U then none else h j
 | [],h,j=>by simp[AO,RI,xO]
 | x::l,h,j=>by
  have b:=r_ l h j;cases x<;>simp only[AO,RI,xO,PB]<;>first | exact b | (by_cases a:j=_<;>simp[a,b]<;>done) | skip
  all_goals
   simp only[J2,b];split<;>rename_i a
   ·simp[a]
   ·simp[a]
theorem nxK(O:Rel w0 S st a w)(hd:∀d,o.dst=some d→IW st.n d){t L:aaM}{x y:aaN}(ho:o.op= .store t x y){id i off:Nat}{Z:bg}{s:List bg}{ct:List CT}{ts:List aaM}{rows:List (List DC)}{hl:Option (Nat×Nat)}{r:List DC×List Zq}
  (h1:(hF x).val st.get st.obj=some (.eK id i ct.length off)) (h2:(hF y).val st.get st.obj=some Z) (fX:(R8 Z).val st.get st.obj=some s) (dO:fF P t s.length=true)
  (E:st.obj id=some (.deep L ct ts rows hl)) (M:off+s.length≤ct.length) (hf:Zv ((ct.drop off).take s.length)=Zv ct) (hr:(zM ((ct.drop off).take s.length) ts s).val st.get st.obj=some r)
  (JS:lC (id::RI r.2)=true) (F:i<rows.length) (Jk:pB hl i=true) (kr:e.cw=none) (Ct:e.sv= .undef) (Q:e.ow=(id,some (.deep L ct ts (rows.set i (CI (rows.getD i []) off r.1)) none))::AO r.2):Good P w0 S st o e a w:=by
 obtain⟨ti,GS,bJ⟩:=Xo dO;obtain⟨β,φ,h⟩:=O.core;have l:=h.ev h1;simp only[dg] at l;obtain⟨g,H,l⟩:=l;obtain⟨fK,bo⟩:=Rg (h.ev h2) fX;have ku:=qV.length _ _ fK;have AD:(a.eval y).cells.size=s.length:=by simpa using ku
 obtain⟨lQ,C2⟩:=mr h _ _ _ _ r fK hr;have Jz:=ft.cells _ _ _ _ _ lQ;obtain⟨AG,LK⟩:=WM JS;have Aw:=xb h C2 LK;have Ks:∀b∈r.2.flatMap (Zt β),∃k∈RI r.2,∃u,st.obj k=some u∧b∈ar β k u:=jK C2;obtain⟨vals,f,R,T,ju,lv⟩:=h.aC id _ E;have lP:g∈ar β id (.deep L ct ts rows hl):=by simp[ar,H]
 rcases R.2 with ⟨hv,h0,_⟩ | ⟨m,cap,I,hv,U,BF,EK,mY,FP⟩
 ·omega
 have H5:m=g:=by simpa [hv,J6] using H
 subst H5;simp only[rl] at U;have W:(a.eval y).cells.toList.length=s.length:=by simpa using AD
 have bH:=ntb (P:=P) ho l GS (bJ.trans AD.symm) bo U F BF mY (by rw[W];exact M);have IP:=R.written (off:=off) (nu:=(a.eval y).cells.toList) H F (by rw[W];exact M) U mY BF;generalize (a.eval y).cells.toList=nu at*;rw[←W] at M hf Jz hr;have C:i<f.length:=by rw[T.1];exact F
 have fg:=T.2 i (rows.getD i []) f[i] (G1 F) (by simp);have Hq:(ct.take off).length=off:=by simp;omega
 have bN:=QJ.G9 (pre:=ct.take off) (part:=(ct.drop off).take nu.length) (suf:=ct.drop (off+nu.length)) (by rw[three];exact fg) (by rw[three];exact hf) Jz;rw[three,Hq] at bN;have bP:=h.fresh id _ E;have p:=bP.1;rw[lv] at p;have Dh:m∈φ id:=al (h.aC id _ E) m lP;have Kv:∀b∈f.flatten,b≠m:=by intro b c e;subst e;rw[Kp] at p;exact p.2.2 b (by simp[H]) b c rfl
 have GO:∀b∈r.2.flatMap (Zt β),b ∉ φ id:=by intro b c K;obtain⟨k,v,u,Jq,A3⟩:=Ks b c;exact h.sep k id u _ (λe=>AG (e ▸ v)) Jq E b (al (h.aC k u Jq) b A3) K
 have Lp:∀b∈r.2.flatMap (Zt β),b≠m:=λb c e=>GO b c (e ▸ Dh);have lk:∀j D,f[j]? =some D→∀b∈D,b∈f.flatten:=λj D z b c=>Mg.2 ⟨D,LF z,c⟩;have K6:∀j,j≠i→(none:Option aaL)=b_ β hl j:=by
  intro j z;cases hl with
  | none=>rfl
  | some q=>
   obtain⟨k,nid⟩:=q;have:=cL Jk;subst this;simp[b_,z]
 have m0:=T.set (w':=w.setRow m (I.toList.take (i*ct.length+off)++(nu++I.toList.drop (i*ct.length+off+nu.length))).toArray) (hv':=λ_=>none) (by simp) R.1 F M
  (λj _ D z b c=>setRow_other w m b _ (Kv b (lk j D z b c))) K6
  (QJ.mono (by simp) _ _ _ _ _ bN (λb c=>setRow_other w m b _ (Lp b c)))
 have FI:((β.val id).ownBlock.toList++(f.set i (r.2.flatMap (Zt β))).flatten).Nodup:=by
  rw[T3 C];have N:=p;rw[Qg C] at N;have X:=cm (A:=(β.val id).ownBlock.toList++(f.take i).flatten) (p1:=[]) (p2:=f[i]) (p3:=[]) (B:=(f.drop (i+1)).flatten) (n:=r.2.flatMap (Zt β)) (by simpa using N) Aw
   (λb c K=>GO b c (by rw[lv,Qg C];simpa using K))
  simpa using X
 refine tW O hd bH (O.kept.setRow (bP.2 m Dh).1 _) ⟨β.fU id (f.set i (r.2.flatMap (Zt β))).flatten,PB φ id ((β.val id).ownBlock.toList++(f.set i (r.2.flatMap (Zt β))).flatten), ?_,by rw[Ct];simp[dg]⟩;rw[Q,kr];refine h.Ef (t:=L) (ct:=ct) (ts:=ts) (rows:=rows.set i (CI (rows.getD i []) off r.1)) (hl:=none) (G:=λk=>k∈RI r.2) E (λk v e=>AG (e ▸ v)) (by simp[xO,PB,Zs]) (λj z x l=>?_) (by simp) (λb c K=>setRow_other w m b _ (λe=>K (by rw[e,H];simp))) (λb c=>by simp only[ar];exact U8 _ c) (λb c=>?_) ?_ FI
 ·simp only[xO,PB,z,if_false,Zs] at l;rw[r_] at l;split at l
  ·cases l
  ·rename_i v;exact⟨l,v⟩
 ·rw[T3 C] at c;simp only[J8] at c;rcases c with c | c | c
  ·left;simp only[ar,ju];rw[Qg C];simp[c]
  ·right;obtain⟨k,v,u,N,X⟩:=Ks b c;exact⟨k,u,v,N,X⟩
  ·left;simp only[ar,ju];rw[Qg C];simp[c]
 ·exact⟨_,_,by simpa [Env.fU] using IP,m0,by simp[Env.fU,PB],by simp[Env.fU]⟩
theorem naD(m:Rel w0 S st a w){d:Nat}(E:o.dst=some d)(F:IW st.n d)(p:T7 st d){t:aaM}{q:List CT}{z:List aaM}{c:List (List DC)}{w':aaK}{v:aaL}
  (G:(execOp a.eval o).run P w= .ok (.value v) w') (H:Kept S w0 w') (I:w.heap.size≤w'.heap.size) (K:∀b,b<w.heap.size→w'.heap[b]? =w.heap[b]?)
  (A:∀b∈v.ownBlock.toList,b=w.heap.size) {vals:List aaL} (r:Em w' t q.length false v c.length vals)
  (L:R9 w' q z c vals (λ_=>none) (J4 c.length []))
  (M:e.sv= .own (G8 d 0)) (N:e.cw=none) (s:e.ow=[(G8 d 0,some (.deep t q z c none))]):Good P w0 S st o e a w:=by
 obtain⟨β,φ,B⟩:=m.core;have u:G8 d 0 / 64=d:=DV d 0 (by omega);have x:=m.kept.size;have C:(J4 c.length ([]:List Nat)).flatten=[]:=by simp
 have f:(β.gQ (G8 d 0) v []).val (G8 d 0)=v:=by simp[Env.gQ,PB]
 have D:(β.gQ (G8 d 0) v []).nb (G8 d 0)=[]:=by simp[Env.gQ,PB]
 have O:v.ownBlock.toList.Nodup:=by cases v.ownBlock<;>simp
 refine yu m (λU l=>by rw[E] at l;injection l with l;exact l ▸ F) G H
  ⟨β.gQ (G8 d 0) v [],PB φ (G8 d 0) v.ownBlock.toList, ?_, ?_⟩
 ·rw[s,N];refine B.create I K (λi y=>p.slot i _ y u) (λj h g y=>(p.obj j h g).2 _ y u) ?_ (λj g=>⟨by simp[Env.gQ,PB,g],rfl⟩) ?_ ?_ O ?_ rfl (λj g=>by simp[Env.gQ,PB,g])
  ·cases Q:st.obj (G8 d 0) with
   | none=>rfl
   | some h=>exact absurd u (p.obj _ h Q).1
  ·intro b k;simp only[ar,f,D,Mz] at k;rw[A b k];exact K4 _
  ·exact⟨vals,J4 c.length [],by rw[f];exact r,L,by rw[D,C],by rw[f,C,Mz]⟩
  ·intro b k;have R:=A b k;subst R;refine⟨⟨.inl x,r.lt _ k⟩,λj h g T=>?_⟩;have:=((B.fresh j h g).2 _ T).2;omega
 ·rw[M];unfold dg;exact⟨f.symm,r.one⟩
theorem neN{α:Type}(z:List α):∀(n k:Nat),k<n→(((J4 n z).flatten).drop (k*z.length)).take z.length=z
 | 0,k,h=>by omega
 | n+1,0,_=>by simp[M6]
 | n+1,k+1,h=>by rw[M6,List.flatten_cons,J9,Nat.add_comm,MA,M7 (by omega),KF];rw[show z.length+k*z.length - z.length=k*z.length by omega];exact neN z n k (by omega)
theorem R9.replicate{a:List CT}{c:List aaM}{r:List DC}{z:List aaL}(h:QJ w none a c r z [])(f:z.length=a.length)(n:Nat):R9 w a c (J4 n r) (J4 n z).flatten (λ_=>none) (J4 n []):=by
 refine⟨by simp,λi g m b d=>?_⟩;have e:i<n:=by have:=(LB.1 b).1;simpa using this
 rw[List.getElem?_replicate_of_lt e,VR] at b d;subst b d;rw[←f,neN z n i e];exact h
theorem nc1:∀ {U:List Zq},RI U=[]→U.flatMap (Zt β)=[]
 | [],_=>rfl
 | x::l,h=>by
  cases x<;>simp[RI] at h;simp[Zt,nc1 h]
theorem nrz(p:Rel w0 S st a w){d:Nat}(E:o.dst=some d)(F:IW st.n d)(G:T7 st d){t g:aaM}{l c:aaN}(H:o.op= .makeSlice t l c){n m:Int}{h:List CT}{q:List aaM}{i:TypeInfo}{z:List bg}{r:List DC×List Zq}
  (I:(hF l).val st.get st.obj=some (.int .i64 n)) (K:(hF c).val st.get st.obj=some (.int .i64 m)) (L:P.underlying t=some (.slice g)) (y:P.info? g=some i) (A:i.size=h.length)
  (M:(tO P g).val st.get st.obj=some z) (N:(zM h q z).val st.get st.obj=some r) (O:RI r.2=[])
  (Q:e= {sv:= .own (G8 d 0),ow:=[(G8 d 0,some (.deep g h q (J4 n.toNat r.1) none))],ok:=decide (0≤n) && decide (n≤m) && decide (m.toNat*i.bytes≤140737488355328) && decide (m≤9223372036854775807)})
  (B:e.ok=true):Good P w0 S st o e a w:=by
 subst Q;simp only[gF,kQ] at B;obtain⟨⟨⟨R,T⟩,B4⟩,U⟩:=B;obtain⟨i',f,k,W,rfl,bo⟩:=Zy M;rw[y] at k;injection k with k;subst k;obtain⟨Ka,Kb,s⟩:=p.core;obtain⟨X,_⟩:=mr s h q _ _ r (YT f.cells.toList) N;have u:=ft.cells _ _ _ _ _ X;rw[nc1 O] at u;have j:f.cells.toList.length=h.length:=(QJ.length _ _ _ _ _ u).1;have Z:(madeCells f.cells (m.toNat*i.size)).toList=(J4 m.toNat f.cells.toList).flatten:=by have:=nyx f.cells m.toNat;rw[A,←j];simpa using this
 have C:=s.ev I;have D:=s.ev K;simp only[dg] at C D;have x:(i.bytes:Int)*m≤281474976710656:=by
  have h1:((m.toNat*i.bytes:Nat):Int)≤140737488355328:=by omega
  rw[Int.natCast_mul,Int.toNat_of_nonneg (by omega),Int.mul_comm] at h1;omega
 have bH:=run_make (P:=P) w t g i f L y W .i64 .i64 n m R T x U;refine naD p E F G (vals:=(J4 n.toNat f.cells.toList).flatten) (v:= .slice (some ⟨w.heap.size,0,none⟩) n.toNat m.toNat)
  (w':=w.alloc (.cells (madeCells f.cells (m.toNat*i.size)) g)) ?_ (p.kept.alloc _) (by rw[rV];omega) (λb x=>alloc_old _ b x) (by simp[J6]) ?_ ?_ rfl rfl rfl
 ·simp[execOp,H,C.1,D.1,bH]
 ·refine⟨by simp[j],.inr ⟨w.heap.size,m.toNat,_,by simp,by simpa using zb _,by simp;omega,by simp only[maxLen];omega,by rw[size_madeCells,A], ?_⟩⟩;rw[Z];have:J4 m.toNat f.cells.toList=J4 n.toNat f.cells.toList++J4 (m.toNat - n.toNat) f.cells.toList:=by
   rw[List.replicate_append_replicate]
   congr 1
   omega
  rw[this,Ly,Na (by simp[j]),Me (by simp[j])]
 ·rw[List.length_replicate];exact R9.replicate (QJ.mono (by rw[rV];omega) _ _ _ _ _ u (by simp)) j _
theorem nki(o:Core w0 S f h β φ tm w){id a i:Nat}{t p:aaM}{ct H:List CT}{rows r:List (List DC)}{u:Bool}{h':Nat→Option yP}(z:h id=some (.deep t ct [p] rows (some (i,a))))(C:h a=some (.row p H r false u))(I:∃s,ct[Xf ct]? =some (.sl s)∧s=H)(R:Zv ct=1)
  (O:a≠id) (hf:zP H=true) (T:h' id=some (.deep t ct [p] (rows.set i (CI (rows.getD i []) (Xf ct) [.sl r])) none)) (U:∀j,j≠id→h' j=if j=a then none else h j):
  ∃K L,Core w0 S f h' K L tm w:=by
 obtain⟨s,I,rfl⟩:=I;obtain⟨v,d,W,D,X,P⟩:=o.aC id _ z;obtain⟨Z,AA,JJ,kt,_,_⟩:=o.aC a _ C;have l:=(o.fresh id _ z).1;rw[P] at l;have Q:ar β a (.row p s r false u)=(β.val a).ownBlock.toList:=rfl;have GO:∀b∈(β.val a).ownBlock.toList,b ∉ φ id:=λb c=>o.sep a id _ _ O C z b (al (o.aC a _ C) b (Q ▸ c));have GV:(β.val a).ownBlock.toList.Nodup:=by cases (β.val a).ownBlock<;>simp
 have lk:∀b∈(d.set i (β.val a).ownBlock.toList).flatten,b∈d.flatten∨b∈(β.val a).ownBlock.toList:=by
  intro b c;by_cases q:i<d.length
  ·rw[T3 q] at c;rw[Qg q];simp only[J8] at c ⊢;rcases c with c | c | c<;>simp[c]
  ·rw[Nb (by omega)] at c;exact .inl c
 have FI:((β.val id).ownBlock.toList++(d.set i (β.val a).ownBlock.toList).flatten).Nodup:=by
  by_cases q:i<d.length
  ·rw[T3 q];have y:=l;rw[Qg q] at y;have h4:=cm (A:=(β.val id).ownBlock.toList++(d.take i).flatten) (p1:=[]) (p2:=d[i]) (p3:=[]) (B:=(d.drop (i+1)).flatten) (n:=(β.val a).ownBlock.toList) (by simpa using y) GV
    (λb c jh=>GO b c (by rw[P,Qg q];simpa using jh))
   simpa using h4
  ·rw[Nb (by omega)];exact l
 refine⟨β.fU id (d.set i (β.val a).ownBlock.toList).flatten,PB φ id ((β.val id).ownBlock.toList++(d.set i (β.val a).ownBlock.toList).flatten), ?_⟩;refine o.Ef (t:=t) (ct:=ct) (ts:=[p]) (rows:=rows.set i (CI (rows.getD i []) (Xf ct) [.sl r])) (hl:=none) (G:=λk=>k=a) z (λk g e=>O (g ▸ e)) T (λj hj x E=>?_) (K4 _) (λ_ _ _=>rfl) (λb c=>by simp only[ar];exact U8 _ c) (λb c=>?_) ?_ FI
 ·rw[U j hj] at E;split at E
  ·cases E
  ·rename_i g;exact⟨E,g⟩
 ·rcases lk b c with c | c
  ·left;simp only[ar,X];exact mi _ c
  ·exact .inr ⟨a,_,rfl,C,Q ▸ c⟩
 ·refine⟨v,d.set i (β.val a).ownBlock.toList,by simpa [Env.fU] using W,⟨by simp[D.1],λk r' m g F=>?_⟩,by simp[Env.fU,PB],by simp[Env.fU]⟩;by_cases M:k=i
  ·subst M;have N:k<rows.length:=by have:=(LB.1 g).1;simpa using this
   have GK:k<d.length:=by rw[D.1];exact N
   rw[LL N,VR] at g;rw[LL GK,VR] at F;subst g F;have y:=D.2 k (rows.getD k []) d[k] (G1 N) (by simp);simp only[b_,if_true] at y;exact QJ.back _ s p _ _ d[k] I R y ⟨Z,AA,JJ,kt,rfl⟩
  ·rw[Mq (Ne.symm M)] at g F;have:=D.2 k r' m g F;simp only[b_,M,if_false] at this;exact this
end
section
variable {P:aaJ} {Γ:Ctx} {w0:aaK} {S:Own} {st:CO} {o:Oper} {e:R_} {a:Act} {w w':aaK}
variable {f:Nat→bg} {h:Nat→Option yP} {β:Env} {φ:Nat→List Nat} {tm:Array aaL}
theorem Core.compose(q:Core w0 S f h β φ tm w){id:Nat}{G:Nat→Prop}{z:Nat→Option yP}{v':aaL}{t:aaM}{A:List CT}{K:List aaM}{m:List (List DC)}{n:List aaL}{o:List (List Nat)}
  (R:∀i,id ∉ jH (f i)) (T:∀j x,h j=some x→id ∉ tg x) (Mf:h id=none)
  (L:z id=some (.deep t A K m none)) (v:∀j,j≠id→∀x,z j=some x→h j=some x∧¬G j)
  (U:w.heap.size≤w'.heap.size) (hk:w0.heap.size≤w.heap.size) (M:∀b,b<w.heap.size→(∀k x,G k→h k=some x→b ∉ ar β k x)→w'.heap[b]? =w.heap[b]?)
  (W:∀b∈v'.ownBlock.toList++o.flatten,(∃k x,G k∧h k=some x∧b∈ar β k x)∨(b=w.heap.size∧b<w'.heap.size))
  (X:Em w' t A.length false v' m.length n) (Z:R9 w' A K m n (λ_=>none) o) (B:(v'.ownBlock.toList++o.flatten).Nodup):
  Core w0 S f z (β.gQ id v' o.flatten) (PB φ id (v'.ownBlock.toList++o.flatten)) tm w':=by
 have p:(β.gQ id v' o.flatten).val id=v':=by simp[Env.gQ,PB]
 have N:(β.gQ id v' o.flatten).nb id=o.flatten:=by simp[Env.gQ,PB]
 have iQ:∀j a,j≠id→ar (β.gQ id v' o.flatten) j a=ar β j a:=by intro j a c;cases a<;>simp[ar,Env.gQ,PB,c]
 have y:∀b∈v'.ownBlock.toList++o.flatten,((w0.heap.size≤b∨S b)∧b<w'.heap.size)∧(uh h β b∨w.heap.size≤b)∧∀j a,h j=some a→¬G j→b ∉ φ j:=by
  intro b d;rcases W b d with ⟨k,x,C,r,g⟩ | ⟨g,s⟩
  ·have s:=al (q.aC k x r) b g;have h3:=(q.fresh k x r).2 b s;exact⟨⟨h3.1,by omega⟩,.inl (.inl ⟨k,x,r,g⟩),λj a D E=>q.sep k j x a (λe=>E (e ▸ C)) r D b s⟩
  ·exact⟨⟨.inl (by omega),s⟩,.inr (by omega),λj a D _ u=>by have:=((q.fresh j a D).2 b u).2;omega⟩
 refine q.Aq (λj=>j=id) U (λb d hn=>M b d (λk x _ r F=>hn (.inl ⟨k,x,r,F⟩))) ?_ (λi j c e=>R i (e ▸ c)) (λj c=>⟨by simp[Env.gQ,PB,c],rfl⟩) ?_ ?_
 ·rintro b (⟨j,a,c,u⟩ | d)
  case inr=>exact .inl (.inr d)
  by_cases l:j=id
  ·subst l;rw[L,VR] at c;subst c;simp only[ar,p,N] at u;exact (y b u).2.1
  ·rw[iQ j a l] at u;exact .inl (.inl ⟨j,a,(v j l a c).1,u⟩)
 ·intro j a c;by_cases l:j=id
  ·subst l;rw[L,VR] at c;subst c;refine .inr ⟨?_,by simpa [PB] using B,λb d=>(y b (by simpa [PB] using d)).1⟩;exact⟨n,o,by rw[p];exact X,Z,N,by rw[p];simp[PB]⟩
  ·obtain⟨g,E⟩:=v j l a c;refine .inl ⟨l,g,by simp[Env.gQ,PB,l],by simp[PB,l],λk M3 e=>T j a g (e ▸ M3),λb d=>?_⟩;have O:=al (q.aC j a g) b d;exact M b ((q.fresh j a g).2 b O).2 (λk x C r F=>q.sep k j x a (λe=>E (e ▸ C)) r g b (al (q.aC k x r) b F) O)
 ·intro i j H a P hi c b d;by_cases I:i=id
  ·subst I;have Q:j≠i:=Ne.symm P;simp only[PB,if_true] at d;simp only[PB,Q,if_false];obtain⟨g,s⟩:=v j Q a c;exact (y b d).2.2 j a g s
  ·simp only[PB,I,if_false] at d;obtain⟨g,s⟩:=v i I H hi;by_cases l:j=id
   ·subst l;simp only[PB,if_true];exact λaB=>(y b aB).2.2 i H g s d
   ·simp only[PB,l,if_false];exact q.sep i j H a P g (v j l a c).1 b d
theorem R9.append{a:List CT}{e:List aaM}{r1 j:List (List DC)}{v1 d:List aaL}{m1 k:List (List Nat)}(f:R9 w a e r1 v1 (λ_=>none) m1)(g:v1.length=r1.length*a.length)(l:R9 w a e j d (λ_=>none) k):
  R9 w a e (r1++j) (v1++d) (λ_=>none) (m1++k):=by
 refine⟨by simp[f.1,l.1],λi r m c b=>?_⟩;rw[List.getElem?_append] at c b;rw[f.1] at b;by_cases h:i<r1.length
 ·rw[if_pos h] at c b;have n:i*a.length+a.length≤v1.length:=by rw[g,←J9];exact Kh _ h
  have:=f.2 i r m c b;rw[List.drop_append_of_le_length (by omega),Na (by simp;omega)];exact this
 ·rw[if_neg h] at c b;have:=l.2 (i - r1.length) r m c b;have o:(v1++d).drop (i*a.length)=d.drop ((i - r1.length)*a.length):=by
   have p:v1.length≤i*a.length:=by rw[g];exact Kh _ (by omega)
   rw[MA,M7 p,KF,g,Nat.sub_mul]
  rw[o];exact this
theorem QJ.one:∀(b:List CT) (j:List aaM) (k:List DC) (f:List aaL) (l:List Nat),QJ w none b j k f l→∀u∈f,u.oneCell'=true
 | [],_,_,_,_,h=>by simp only[QJ] at h;simp[h.2.2.1]
 | c::b,_,_,_,_,h=>by
  rcases zq c with ⟨e,rfl⟩ | m
  ·simp only[QJ] at h;obtain⟨t,x,g,n,v,o,y,z,rfl,rfl,rfl,_,⟨i,A,p,_⟩,q,rfl⟩:=h;intro u a;rcases J2.1 a with rfl | a
   ·exact p.one
   ·exact QJ.one b _ _ _ _ q u a
  ·rw[QJ.flat m] at h;obtain⟨d,n,v,o,rfl,rfl,r,s⟩:=h;intro u a;rcases J2.1 a with rfl | a
   ·exact r.one
   ·exact QJ.one b _ _ _ _ s u a
theorem R9.one{b:List CT}{f:List aaM}{a:List (List DC)}{c:List aaL}{d:List (List Nat)}(h:R9 w b f a c (λ_=>none) d)(n:c.length=a.length*b.length)(e:0<b.length):∀u∈c,u.oneCell'=true:=by
 intro u g;obtain⟨p,j,rfl⟩:=MP g;have k:p / b.length<a.length:=by rw[Nat.div_lt_iff_lt_mul e];omega
 have l:=Nat.mod_lt p e;have o:p / b.length<d.length:=by rw[h.1];exact k
 have m:=h.2 (p / b.length) a[p / b.length] d[p / b.length] (by simp) (by simp);refine QJ.one _ _ _ _ _ m _ (LF (i:=p % b.length) ?_);rw[Kq,if_pos l,KE];have:p / b.length*b.length+p % b.length=p:=by rw[Nat.mul_comm];exact Nat.div_add_mod p b.length
 rw[this];simp[j]
theorem rxP(m:Core w0 S f h β φ tm w){i:aaM}{g:List CT}{j:List aaM}{s:bg}{v:aaL}{q:List (List DC)×List Nat}(e:dg w (uh h β) β s v)(b:(lX i g j s).val f h=some q):
  ∃a c,Em w i g.length false v q.1.length a∧R9 w g j q.1 a (λ_=>none) c∧(v.ownBlock.toList++c.flatten).Nodup∧
   ((q.2=[]∧v= .slice none 0 0∧c=[])∨∃id,q.2=[id]∧∃x,h id=some x∧ar β id x=v.ownBlock.toList++c.flatten):=by
 unfold lX at b;split at b
 ·simp only[M.ab,VR] at b;subst b;simp only[dg] at e;subst e;exact⟨[],[],⟨by simp,.inl ⟨rfl,rfl,rfl⟩⟩,⟨rfl,by simp⟩,by simp[J6],.inl ⟨rfl,rfl,rfl⟩⟩
 ·rename_i id;simp only[M.aY,sC] at b;obtain⟨D,k,b⟩:=b;simp only[dg] at e;split at b
  ·rename_i o p t r;cases d:JY o i && pc p g && EN t j
   ·simp[d] at b
   simp only[d,HI,M.ab,VR] at b;subst b;simp only[gF] at d;have u:=cL d.1.1;have y:=xp _ _ d.1.2;have z:=xX _ _ d.2;subst u y z;have l:=(m.fresh id _ k).1;obtain⟨a,c,n,A,B,C⟩:=m.aC id _ k;rw[C] at l;rw[←e.1] at n l;exact⟨a,c,n,A,l,.inr ⟨id,rfl,_,k,by simp only[ar,B,e.1]⟩⟩
  ·simp at b
 ·simp at b
theorem neC:∀(a:List Nat) (h:Nat→Option yP) (j:Nat),xO (gone a) h j=if j∈a then none else h j
 | [],h,j=>by simp[gone,xO]
 | i::l,h,j=>by
  have c:=neC l h j;show PB (xO (gone l) h) i none j=_;simp only[PB,J2];by_cases b:j=i
  ·simp[b]
  ·simp only[b,if_false,false_or];exact c
theorem nqQ{l m:List Nat}(b:lC (l++m)=true):∀i∈l,i ∉ m:=by
 induction l with
 | nil=>simp
 | cons x l c=>
  obtain⟨d,e⟩:=WM (i:=x) (l:=l++m) b;intro i a;rcases J2.1 a with rfl | a
  ·exact λf=>d (mi _ f)
  ·exact c e i a
theorem nk8(R:Rel w0 S st a w){d:Nat}(aM:o.dst=some d)(hd:IW st.n d)(Z:T7 st d){t C:aaM}{s x:aaN}{c:Call}(ho:o.op= .call c)(hb:c.callee= .builtin .append)(cr:c.args= #[s,x])
  (GH:c.argTypes= #[t,t]) {AK sx:bg} {D:List CT} {T:List aaM} {p q:List (List DC)×List Nat} {z:List bg} (h1:(hF s).val st.get st.obj=some AK) (h2:(hF x).val st.get st.obj=some sx) (hu:P.underlying t=some (.slice C))
  (dO:fF P C D.length=true) (hp:0<D.length) (hz:(tO P C).val st.get st.obj=some z) (kB:z.length=D.length) (LC:(lX C D T AK).val st.get st.obj=some p) (LD:(lX C D T sx).val st.get st.obj=some q) (hnd:lC (p.2++q.2)=true)
  (ff:Qi P C (p.1.length+q.1.length)=true) (fK:e.sv= .own (G8 d 0)) (kr:e.cw=none)
  (how:e.ow=(G8 d 0,some (.deep C D T (p.1++q.1) none))::gone (p.2++q.2)):Good P w0 S st o e a w:=by
 obtain⟨i,L,bJ⟩:=Xo dO;obtain⟨i',zv,U,AJ,rfl,_⟩:=Zy hz;rw[L] at U;injection U with U;subst U;obtain⟨β,φ,A⟩:=R.core;obtain⟨HJ,H,o1,d1,n1,k1⟩:=rxP A (A.ev h1) LC;obtain⟨CX,I,W,d2,n2,k2⟩:=rxP A (A.ev h2) LD;have bo:=d2.one W.1 hp;obtain⟨Q,cc,Hz,IM,K⟩:∃Q cc,a.eval x= .slice Q q.1.length cc∧(Q=none→q.1.length=0)∧∀ad,Q=some ad→∀j u,CX[j]? =some u→w.cell? (ad.add j)=some u:=by
  rcases W.2 with ⟨E,h0,_⟩ | ⟨g,cap,cur,E,_⟩
  ·exact⟨none,0,by rw[E,h0],λ_=>h0,by simp⟩
  ·refine⟨some ⟨g,0,none⟩,cap,E,by simp,λad II j u M=>?_⟩;simp only[VR] at II;subst II;rw[yM];have:=W.cell (g:=g) (by rw[E];rfl) M;simpa using this
 obtain⟨F,w',bH,gJ,N,gG⟩:=ZP (P:=P) (ty:=o.type) (c:=cc) hu L AJ bJ (by simpa using kB) hp o1 W.1 IM K bo ff;have bN:G8 d 0 / 64=d:=DV d 0 (by omega);have O:∀b∈(a.eval s).ownBlock.toList++H.flatten,∃k y,k∈p.2∧st.obj k=some y∧b∈ar β k y:=by
  intro b f;rcases k1 with ⟨_,E,hm⟩ | ⟨id,eA,y,h,ht⟩
  ·rw[E,hm] at f;simp[J6] at f
  ·exact⟨id,y,by rw[eA];simp,h,by rw[ht];exact f⟩
 have kt:∀b∈(a.eval x).ownBlock.toList++I.flatten,∃k y,k∈q.2∧st.obj k=some y∧b∈ar β k y:=by
  intro b f;rcases k2 with ⟨_,E,hm⟩ | ⟨id,eA,y,h,ht⟩
  ·rw[E,hm] at f;simp[J6] at f
  ·exact⟨id,y,by rw[eA];simp,h,by rw[ht];exact f⟩
 have HY:=nqQ hnd;have Dd:∀b∈(a.eval s).ownBlock.toList++H.flatten,b ∉ (a.eval x).ownBlock.toList++I.flatten:=by intro b m l;obtain⟨k,y,r,h,Gl⟩:=O b m;obtain⟨k',y',Co,JW,jh⟩:=kt b l;exact A.sep k k' y y' (λe=>HY k r (e ▸ Co)) h JW b (al (A.aC k y h) b Gl) (al (A.aC k' y' JW) b jh)
 have gm:∀b,b<w.heap.size→(a.eval s).ownBlock≠some b→w'.heap[b]? =w.heap[b]? :=λb f c8=>N.block b f (λe=>c8 e.symm);have GL:=d1.lt;have GM:=d2.lt;have Lr:∀b∈H.flatten,(a.eval s).ownBlock≠some b:=by intro b f e;rw[Kp] at n1;exact n1.2.2 b (by rw[e];simp) b f rfl
 have Ls:∀b∈I.flatten,(a.eval s).ownBlock≠some b:=by intro b f e;exact Dd b (U8 _ (by rw[e];simp)) (mi _ f)
 have Mj:∀b∈F.ownBlock.toList,b∈(a.eval s).ownBlock.toList∨b=w.heap.size:=by
  intro b f;rcases gG with m | m
  ·rw[m] at f;exact .inl f
  ·rw[m] at f;exact .inr (by simpa using f)
 have GV:F.ownBlock.toList.Nodup:=by cases F.ownBlock<;>simp
 have Ie:(F.ownBlock.toList++(H++I).flatten).Nodup:=by
  rw[Ly,Kp];rw[Kp] at n1 n2;refine⟨GV, ?_,λb m b' l e=>?_⟩
  ·rw[Kp];refine⟨n1.2.1,n2.2.1,λb m b' l e=>?_⟩;subst e;exact Dd b (mi _ m) (mi _ l)
  ·subst e;rcases Mj b m with h5 | h5
   ·rcases J8.1 l with l | l
    ·exact n1.2.2 b h5 b l rfl
    ·exact Dd b (U8 _ h5) (mi _ l)
   ·rcases J8.1 l with l | l
    ·have:=GL b l;omega
    ·have:=GM b l;omega
 have Jh:R9 w' D T (p.1++q.1) (HJ++CX) (λ_=>none) (H++I):=by
  refine R9.append ?_ o1.1 ?_
  ·exact d1.mono N.size (λb f=>gm b (GL b f) (Lr b f)) (λ_=>rfl)
  ·exact d2.mono N.size (λb f=>gm b (GM b f) (Ls b f)) (λ_=>rfl)
 have JK:Em w' C D.length false F (p.1++q.1).length (HJ++CX):=by rw[Qe];exact gJ
 have Jp:∀b,(a.eval s).ownBlock=some b→w0.heap.size≤b∨S b:=by intro b f;obtain⟨k,y,_,h,B⟩:=O b (U8 _ (by rw[f];simp));exact ((A.fresh k y h).2 b (al (A.aC k y h) b B)).1
 refine yu R (λd' X=>by rw[aM] at X;injection X with X;exact X ▸ hd) (v:=F) (w':=w') ?_ (R.kept.grown N Jp)
  ⟨β.gQ (G8 d 0) F (H++I).flatten,PB φ (G8 d 0) (F.ownBlock.toList++(H++I).flatten), ?_, ?_⟩
 ·simp[execOp,ho,resolve,hb,cr,GH,invoke,builtin,Hz,bH]
 ·rw[how,kr];refine A.compose (G:=λk=>k∈p.2++q.2) (λi L=>Z.slot i _ L bN) (λj ob M L=>(Z.obj j ob M).2 _ L bN) ?_ (by simp[xO,PB,Zs]) (λj M y h=>?_) N.size R.kept.size (λb f hn=>?_) (λb f=>?_) JK Jh Ie
  ·cases hn:st.obj (G8 d 0) with
   | none=>rfl
   | some ob=>exact absurd bN (Z.obj _ ob hn).1
  ·simp only[xO,PB,M,if_false,Zs] at h;rw[neC] at h;split at h
   ·cases h
   ·rename_i r;exact⟨h,r⟩
  ·refine gm b f (λe=>?_);obtain⟨k,y,r,h,B⟩:=O b (U8 _ (by rw[e];simp));exact hn k y (U8 _ r) h B
  ·rcases J8.1 f with f | f
   ·rcases Mj b f with m | m
    ·obtain⟨k,y,r,h,B⟩:=O b (U8 _ m);exact .inl ⟨k,y,U8 _ r,h,B⟩
    ·exact .inr ⟨m,gJ.lt b f⟩
   ·rw[Ly] at f;rcases J8.1 f with f | f
    ·obtain⟨k,y,r,h,B⟩:=O b (mi _ f);exact .inl ⟨k,y,U8 _ r,h,B⟩
    ·obtain⟨k,y,r,h,B⟩:=kt b (mi _ f);exact .inl ⟨k,y,mi _ r,h,B⟩
 ·rw[fK];unfold dg;exact⟨by simp[Env.gQ,PB],gJ.one⟩
theorem R9.cons{c:List CT}{d:List aaM}{r:List DC}{l:List aaL}{m:List Nat}{a:List (List DC)}{b:List aaL}{f:List (List Nat)}(h:QJ w none c d r l m)(j:l.length=c.length)(k:R9 w c d a b (λ_=>none) f):
  R9 w c d (r::a) (l++b) (λ_=>none) (m::f):=by
 have:=R9.append (r1:=[r]) (v1:=l) (m1:=[m]) ⟨rfl,λi o p e g=>by
  have n:i=0:=by have:=(LB.1 e).1;simpa using this
  subst n;simp only[KM,VR] at e g;subst e g;rw[Nat.zero_mul,Mt,Me (by omega)];exact h⟩ (by simp[j]) k
 simpa using this
theorem ngl(m:Core w0 S st.get st.obj β φ a.tmps w){e:List CT}{n:List aaM} :∀(b:List (Nat×aaN)) (k:Nat) (q:List (List DC)×List Zq),(iE e n k b).val st.get st.obj=some q→
  ∃(d:List aaL) (g:List (List Nat)),d.length=b.length*e.length∧q.1.length=b.length∧R9 w e n q.1 d (λ_=>none) g∧g.flatten=q.2.flatMap (Zt β)∧kn st.obj q.2∧
   ∀(pre c:List aaL),pre.length=k*e.length→c.length=b.length*e.length→
    Instr.fill (λi=>some (i*e.length,e.length)) (pre++c).toArray (b.map λx=>(x.1,a.eval x.2))=some (pre++d).toArray
 | [],k,q,hq=>by
  simp only[iE,M.ab,VR] at hq;subst hq;refine⟨[],[],by simp,rfl,⟨rfl,by simp⟩,rfl,trivial,λpre c h j=>?_⟩;have:c=[]:=by simpa using j
  subst this;simp[Instr.fill]
 | (i,x)::rest,k,q,hq=>by
  simp only[iE] at hq;cases l:JY i k
  ·simp[l] at hq
  have l:=cL l;subst l;simp only[Nat.beq_refl,HI,M.ag,sC,M.ab,VR] at hq;obtain⟨s,t,L,u,r,v,y,z,rfl⟩:=hq;obtain⟨A,N⟩:=Rg (m.ev t) u;obtain⟨B,C⟩:=mr m e n _ _ r A v;have o:=ft.cells _ _ _ _ _ B;have p:=(QJ.length _ _ _ _ _ o).1;have f:(a.eval x).cells.size=e.length:=by simpa using p
  obtain⟨d,g,D,E,F,G,H,I⟩:=ngl m rest (i+1) y z;refine⟨(a.eval x).cells.toList++d,(r.2.flatMap (Zt β))::g, ?_,by simp[E],R9.cons o p F,by simp[G],C.append H, ?_⟩
  ·simp only[Qe,D,di,Ln,f,J9];omega
  ·intro pre c h j;simp only[di,J9] at j;simp only[L2];rw[sA (off:=i*e.length) (by rw[f]) (by simp[h,f];omega)];have K:((pre++c).toArray.toList.take (i*e.length)++((a.eval x).cells.toList++(pre++c).toArray.toList.drop (i*e.length+(a.eval x).cells.size)))=(pre++(a.eval x).cells.toList)++c.drop e.length:=by simp only[f,←h];simp[MA]
   rw[K,I (pre++(a.eval x).cells.toList) (c.drop e.length) (by simp[h,f,J9]) (by simp[j])];simp
theorem nsM(B:Rel w0 S st a w){d:Nat}(aM:o.dst=some d)(hd:IW st.n d)(I:T7 st d){t l:aaM}{len:Nat}{c:Array (Nat×aaN)}(ho:o.op= .buildSlice t len c){m:List CT}{X:List aaM}{q:List (List DC)×List Zq}
  (Z:P.underlying t=some (.slice l)) (dO:fF P l m.length=true) (kx:0<m.length) (g:len=c.toList.length) (JQ:len*m.length≤16777216) (K:∃z,(tO P l).val st.get st.obj=some z)
  (hq:(iE m X 0 c.toList).val st.get st.obj=some q) (L:lC (RI q.2)=true)
  (he:e= {sv:= .own (G8 d 0),ow:=(G8 d 0,some (.deep l m X q.1 none))::AO q.2}):Good P w0 S st o e a w:=by
 subst he;obtain⟨i,r,M⟩:=Xo dO;obtain⟨β,φ,N⟩:=B.core;obtain⟨f,a_,C,D,dj,eY,C2,lO⟩:=ngl N c.toList 0 q hq;obtain⟨z,K⟩:=K;obtain⟨i',s,E,AJ,_,_⟩:=Zy K;rw[r] at E;injection E with E;subst E;have O:len≤maxLen:=by have:len≤len*m.length:=Nat.le_mul_of_pos_right _ kx;simp only[maxLen];omega
 have bH:(Instr.buildSlice t len (c.map λx=>(x.1,a.eval x.2))).run P w= .ok (.slice (some ⟨w.heap.size,0,none⟩) len len) (w.alloc (.cells f.toArray l)):=by
  rcases Nat.eq_zero_or_pos len with F | F
  ·have hp:c= #[]:=by
    have:c.toList.length=0:=by omega
    simpa using this
   have hv:f=[]:=by
    have:f.length=0:=by rw[C,←g,F,Nat.zero_mul]
    simpa using this
   subst hp hv F;simp[Instr.buildSlice,run_underlying Z,sizeOf,typeInfo,r,Instr.fill,newRow,Array.range_zero']
  ·refine run_buildSlice (P:=P) w t l len _ f.toArray i s Z r AJ (by rw[M];omega) (by rw[M];exact Nat.ne_of_gt (Nat.mul_pos F kx)) ?_;have:=lO [] ((Array.range (len*m.length)).map (s.cells[· % s.cells.size]!)).toList (by simp) (by simp[g]);rw[M];generalize (Array.range (len*m.length)).map (s.cells[· % s.cells.size]!)=A at this ⊢;simpa using this
 have Q:G8 d 0 / 64=d:=DV d 0 (by omega);have Aw:=xb N C2 L;have Ks:∀b∈q.2.flatMap (Zt β),∃k∈RI q.2,∃p,st.obj k=some p∧b∈ar β k p:=jK C2;have cA:=dj.lt;have bk:Em (w.alloc (.cells f.toArray l)) l m.length false (.slice (some ⟨w.heap.size,0,none⟩) len len) q.1.length f:=by refine⟨by rw[C,D],.inr ⟨w.heap.size,len,f.toArray,by rw[D,←g],by simpa using zb _,by rw[D,←g];exact K4 _,O,by simp[C,g], ?_⟩⟩;rw[D,←C];simp
 refine yu B (λd' H=>by rw[aM] at H;injection H with H;exact H ▸ hd) (v:= .slice (some ⟨w.heap.size,0,none⟩) len len) (w':=w.alloc (.cells f.toArray l)) ?_ (B.kept.alloc _)
  ⟨β.gQ (G8 d 0) (.slice (some ⟨w.heap.size,0,none⟩) len len) a_.flatten,PB φ (G8 d 0) ([w.heap.size]++a_.flatten), ?_, ?_⟩
 ·simp[execOp,ho,bH]
 ·refine N.compose (v':= .slice (some ⟨w.heap.size,0,none⟩) len len) (G:=λk=>k∈RI q.2) (λi r=>I.slot i _ r Q) (λj p R r=>(I.obj j p R).2 _ r Q) ?_ (by simp[xO,PB,Zs]) (λj R y u=>?_) (by rw[rV];omega) B.kept.size (λb h _=>alloc_old _ b h) (λb h=>?_) bk (dj.mono (by rw[rV];omega) (λb h=>alloc_old _ b (cA b h)) (λ_=>rfl)) ?_
  ·cases L:st.obj (G8 d 0) with
   | none=>rfl
   | some p=>exact absurd Q (I.obj _ p L).1
  ·simp only[xO,PB,R,if_false,Zs] at u;rw[r_] at u;split at u
   ·cases u
   ·rename_i T;exact⟨u,T⟩
  ·rcases J8.1 h with h | h
   ·right;have:b=w.heap.size:=by simpa [J6] using h
    exact⟨this,by rw[rV];omega⟩
   ·left;rw[eY] at h;obtain⟨k,T,p,U,W⟩:=Ks b h;exact⟨k,p,T,U,W⟩
  ·rw[Kp];refine⟨by simp[J6],by rw[eY];exact Aw,λb U b' W e=>?_⟩;subst e;have h5:b=w.heap.size:=by simpa [J6] using U
   have:=cA b W;omega
 ·unfold dg;exact⟨by simp[Env.gQ,PB],rfl⟩
end
section
variable {P:aaJ} {Γ:Ctx} {w0:aaK} {S:Own} {st:CO} {o:Oper} {e:R_} {a:Act} {w:aaK}
variable {f:Nat→bg} {h:Nat→Option yP} {β:Env} {φ:Nat→List Nat} {tm:Array aaL}
def S6(b:List UInt8):List aaL:=b.map λc=>LN .u8 c.toNat
theorem Pv(k:Nat)(b:List UInt8)(w:aaK):(Builtin.firstCells k b.length (.string ⟨b.toArray⟩)).run P w= .ok (S6 b).toArray w:=by
 have:((⟨b.toArray⟩:ByteArray).extract 0 b.length).data.map (λc=>LN .u8 c.toNat)=(S6 b).toArray:=by rw[TT];simp[S6]
 simp only[Builtin.firstCells,Sem.run_pure,this]
theorem nxd{t u ty d:aaM}{i:TypeInfo}{q:aaL}(B:P.underlying t=some (.slice d))(r:P.underlying u=some .string)(y:P.info? d=some i)(M:i.zero=some q)(N:i.size=1)(T:q.cells.size=1)
  {v:aaL} {n:Nat} {a:List aaL} (s:Em w d 1 false v n a) (b:List UInt8) (U:Qi P d (n+b.length)=true):
  ∃C w',(Builtin.append_ #[t,u] ty #[v,.string ⟨b.toArray⟩]).run P w= .ok C w'∧Em w' d 1 false C (n+b.length) (a++S6 b)∧w.grownBy w' v.ownBlock∧(C.ownBlock=v.ownBlock∨C.ownBlock=some w.heap.size):=by
 obtain⟨O,Q⟩:=nmQ y U;have LI:n+b.length≤9223372036854775807:=by simp only[maxLen] at Q;omega
 have D:(S6 b).length=b.length:=by simp[S6]
 have W:∀u∈S6 b,u.oneCell'=true:=by intro u r;obtain⟨c,_,rfl⟩:=List.mem_map.1 r;rfl
 have h:(a++S6 b).length=(n+b.length)*1:=by rw[Qe,s.1,D];omega
 have l:∀(m:Nat),m<n+b.length→∀(z:Option Nat),
   Em (w.drew.alloc (.cells (a.toArray++(S6 b).toArray++Builtin.zeroCells q.cells (grownCap w (n+b.length) m d - (n+b.length))) d)) d 1 false
    (.slice (some ⟨w.heap.size,0,none⟩) (n+b.length) (grownCap w (n+b.length) m d)) (n+b.length) (a++S6 b)∧
   w.grownBy (w.drew.alloc (.cells (a.toArray++(S6 b).toArray++Builtin.zeroCells q.cells (grownCap w (n+b.length) m d - (n+b.length))) d)) z:=by
  intro m ho z;have X:=grownCap_ge w (n+b.length) m d;have E:grownCap w (n+b.length) m d≤maxLen:=grownCap_le_maxLen w (n+b.length) m d Q;refine⟨⟨h,.inr ⟨w.heap.size,_,_,rfl,heap_alloc_new w.drew _,X,E, ?_, ?_⟩⟩,⟨rfl,rfl,rfl,by simp,λk F _=>heap_alloc_old w.drew _ F⟩⟩
  ·simp only[Array.size_append,LY,size_zeroCells,T,s.1,D];omega
  ·simp only[Array.toList_append,K5];rw[←K5,←h];exact List.take_left
 rcases s.2 with ⟨rfl,rfl,_⟩ | ⟨g,cap,f,rfl,Z,BF,E,fX,FO⟩
 ·have hx:a=[]:=L_ (by simpa using s.1);subst hx;by_cases R:b.length=0
  ·have L6:b=[]:=L_ R;subst L6;refine⟨.slice none 0 0,w, ?_,⟨by simp[S6],.inl ⟨rfl,rfl,rfl⟩⟩,⟨rfl,rfl,rfl,K4 _,λ_ _ _=>rfl⟩,.inl rfl⟩;have o:=Pv (P:=P) i.size [] w;simp[Builtin.append_,run_underlying B,run_underlying r,sizeOf,typeInfo,y,Builtin.lenOf,Eb] at o ⊢;simp[o]
  ·have G:¬(b.length=0):=R;have H:¬(9223372036854775807<(b.length:Int)):=by omega
   have I:¬(281474976710656<Builtin.nextslicecap b.length 0*i.bytes):=by have hb:=O;rw[J_] at hb;rw[nextslicecap_zero (by omega)];omega
   have o:=Pv (P:=P) i.size b w.drew;have A:(Builtin.append_ #[t,u] ty #[.slice none 0 0,.string ⟨b.toArray⟩]).run P w=
     .ok (.slice (some ⟨w.heap.size,0,none⟩) b.length (grownCap w b.length 0 d)) (w.drew.alloc (.cells ((S6 b).toArray++Builtin.zeroCells q.cells (grownCap w b.length 0 d - b.length)) d)):=by
    simp[Builtin.append_,run_underlying B,run_underlying r,sizeOf,typeInfo,zeroValue,y,M,Builtin.lenOf,Eb,G,H,I,Question.forced,run_firstCells_none,o,newRow,grownCap]
   have x:=l 0 (by omega) (J6 (.slice none 0 0));simp only[J_,KF,Array.empty_append] at x ⊢;exact⟨_,_,A,x.1,x.2,.inr rfl⟩
 ·by_cases K:n+b.length≤cap
  ·have eu:n*1+(S6 b).length≤f.size:=by rw[D,fX];omega
   have o:=Pv (P:=P) 1 b w;have S:w.heap[g]? =some (.cells f d (0,0)):=by simpa using Z
   have L:=run_storeCells_at P g (n*1) d (S6 b) 0 f w S (by simpa using eu) W;simp only[KU] at L;have A:(Builtin.append_ #[t,u] ty #[.slice (some ⟨g,0,none⟩) n cap,.string ⟨b.toArray⟩]).run P w=
     .ok (.slice (some ⟨g,0,none⟩) (n+b.length) cap) (w.setRow g (f.toList.take (n*1)++S6 b++f.toList.drop (n*1+(S6 b).length)).toArray):=by
    simp only[Kt] at L;simp[Builtin.append_,run_underlying B,run_underlying r,sizeOf,typeInfo,y,N,Builtin.lenOf,Eb,K,o,Addr.add_lit,L]
   refine⟨_,_,A,⟨h,.inr ⟨g,cap,_,rfl,setRow_heap w g f _ d _ S,K,E, ?_, ?_⟩⟩,⟨rfl,rfl,rfl,by simp,λk _ F=>setRow_other w g k _ (λe=>F (by simp[J6,e]))⟩,.inl rfl⟩
   ·simp only[LY,Qe,KJ,K0,Ln];omega
   ·simp only[K5];have FP:f.toList.take (n*1)=a:=FO;rw[FP,←h];rw[←K5];exact List.take_left
  ·have p:∀j u,a[j]? =some u→w.cell? ((⟨g,0,none⟩:Addr).add j)=some u:=s.owns.cells (g:=g) rfl;have G:¬(n+b.length≤cap):=K;have H:¬(9223372036854775807<((n:Int)+(b.length:Int))):=by omega
   have I:¬(281474976710656<Builtin.nextslicecap (n+b.length) cap*i.bytes):=by have:=growslice_fits (bytes:=i.bytes) (show cap<n+b.length by omega) O;omega
   have o:=Pv (P:=P) i.size b w.drew;have Km:=run_firstCells_some (P:=P) w.drew i.size n ⟨g,0,none⟩ n cap a (by rw[N];exact s.1) (by simpa using p);have A:(Builtin.append_ #[t,u] ty #[.slice (some ⟨g,0,none⟩) n cap,.string ⟨b.toArray⟩]).run P w=
     .ok (.slice (some ⟨w.heap.size,0,none⟩) (n+b.length) (grownCap w (n+b.length) cap d)) (w.drew.alloc (.cells (a.toArray++(S6 b).toArray++Builtin.zeroCells q.cells (grownCap w (n+b.length) cap d - (n+b.length))) d)):=by
    simp[Builtin.append_,run_underlying B,run_underlying r,sizeOf,typeInfo,zeroValue,y,M,Builtin.lenOf,Eb,G,H,I,Question.forced,o,Km,newRow,grownCap]
    congr 2
    apply Array.ext';simp[K5]
   have x:=l cap (by omega) (J6 (.slice (some ⟨g,0,none⟩) n cap));exact⟨_,_,A,x.1,x.2,.inr rfl⟩
theorem nr4(b:List UInt8):RN w [.int .u8] (b.map db) (S6 b) (J4 b.length []):=by
 refine⟨by simp[S6],λk d e a f=>?_⟩;have c:k<b.length:=by have:=(LB.1 a).1;simpa using this
 have g:d=db b[k]:=by rw[LO,LW c] at a;simpa using a.symm
 have h:e=[]:=by have:=LF f;exact (MN.1 this).2
 subst g h;unfold db;simp only[bj,kL];refine⟨.int b[k].toNat,[],.int .u8 b[k].toNat,[],[],rfl, ?_,⟨_,rfl,rfl, ?_,rfl⟩,⟨rfl,rfl⟩,rfl⟩
 ·simp only[S6,di,Kj,J_,Kt,KU];rw[LO,LW c];rfl
 ·rw[Az];have i:IntKind.u8.min=0:=by decide
  have j:IntKind.u8.max=255:=by decide
  have:=b[k].toNat_lt;omega
theorem nz5(N:Rel w0 S st a w)(hd:∀d,o.dst=some d→IW st.n d)(F:e.ow≠[]→∀d,o.dst=some d→T7 st d){t t':aaM}{s x:aaN}{c:Call}(ho:o.op= .call c)(W:c.callee= .builtin .append)(cr:c.args= #[s,x])
  (GH:c.argTypes= #[t,t']) {sx sy:bg} (h1:(hF s).val st.get st.obj=some sx) (h2:(hF x).val st.get st.obj=some sy) (l:(Nf P o.dst t t' sx sy).val st.get st.obj=some e) (aN:e.ok=true):Good P w0 S st o e a w:=by
 unfold Nf at l;split at l
 case h_2=>simp at l
 rename_i et d id b hu Dp aM;simp only[M.aY,sC] at l;obtain⟨ob,C,l⟩:=l;split at l
 case h_2=>simp at l
 rename_i G ct r u;cases E:JY G et && pc ct [.int .u8] && fF P et 1
 ·simp[E] at l
 simp only[E,HI,M.ag,sC] at l;obtain⟨z,hz,l⟩:=l;cases X:JY z.length 1
 ·simp[X] at l
 simp only[X,HI,M.ab,VR] at l;simp only[gF] at E;have Kx:=cL E.1.1;have Cj:=xp _ _ E.1.2;subst Kx Cj;have F:=F (by rw[←l];simp) d aM;have ff:Qi P G (r.length+b.length)=true:=by rw[←l] at aN;exact aN
 have GW:=cL X;obtain⟨i,hi,bJ⟩:=Xo E.2;obtain⟨i',zv,O,AJ,rfl,_⟩:=Zy hz;rw[hi] at O;injection O with O;subst O;obtain⟨β,φ,B⟩:=N.core;have FL:=B.ev h1;simp only[dg] at FL;have Mk:=B.ev h2;simp only[dg] at Mk;obtain⟨H,aE,bk,dj,H7,lv⟩:=B.aC id _ C;obtain⟨y,w',bH,Z,I,gG⟩:=nxd (P:=P) (ty:=o.type) hu Dp hi AJ bJ (by simpa using GW) bk b ff;have Q:aE.flatten=[]:=dj.flat rfl;have It:φ id=(β.val id).ownBlock.toList:=by rw[lv,Q];cases u<;>simp
 have bN:G8 d 0 / 64=d:=DV d 0 (by omega);have Jl:id≠G8 d 0:=λe=>(F.obj id _ C).1 (e ▸ bN);have gn:∀j,j≠G8 d 0→(β.gw (G8 d 0) y).val j=β.val j∧(β.gw (G8 d 0) y).cY j=β.cY j:=by intro j h;exact⟨by simp[Env.gw,PB,h],rfl⟩
 have p:(β.gw (G8 d 0) y).val (G8 d 0)=y:=by simp[Env.gw,PB]
 have bP:=B.fresh id _ C;have BG:y.ownBlock.toList.Nodup:=by cases y.ownBlock<;>simp
 have A8:∀b∈y.ownBlock.toList,b∈φ id∨b=w.heap.size:=by
  intro b f;rcases gG with m | m
  ·rw[m] at f;exact .inl (by rw[It];exact f)
  ·rw[m] at f;exact .inr (by simpa using f)
 have iN:∀b,(β.val id).ownBlock=some b→b∈φ id:=λb f=>by rw[It,f];simp
 have K:∀j g,PB (PB st.obj id none) (G8 d 0) (some (.row G [.int .u8] (r++b.map db) false u)) j=some g→j≠G8 d 0→j≠id∧st.obj j=some g:=by
  intro j g h R;simp only[PB,R,if_false] at h;split at h
  ·cases h
  ·exact⟨by assumption,h⟩
 have gm:∀b,b<w.heap.size→(β.val id).ownBlock≠some b→w'.heap[b]? =w.heap[b]? :=λb f T=>I.block b f (λe=>T e.symm);have Cs:∀b∈y.ownBlock.toList,∀j g,j≠id→st.obj j=some g→b ∉ φ j:=by
  intro b f j g h jN D;rcases A8 b f with m | m
  ·exact B.sep id j _ _ (Ne.symm h) C jN b m D
  ·have:=((B.fresh j g jN).2 b D).2;omega
 have BB:∀L,uh (PB (PB st.obj id none) (G8 d 0) (some (.row G [.int .u8] (r++b.map db) false u))) (β.gw (G8 d 0) y) L→uh st.obj β L∨w.heap.size≤L:=by
  rintro L (⟨j,g,h,D⟩ | W)
  case inr=>exact .inl (.inr W)
  by_cases A:j=G8 d 0
  ·subst A;simp only[PB,if_true,VR] at h;subst h;simp only[ar,p] at D;rcases A8 L D with m | m
   ·exact .inl (.inl ⟨id,_,C,by simp only[ar];rw[←It];exact m⟩)
   ·exact .inr (by omega)
  ·obtain⟨_,q⟩:=K j g h A;refine .inl (.inl ⟨j,g,q, ?_⟩);cases g<;>simp only[ar,gn j A] at D ⊢ <;>exact D
 refine yu N hd (v:=y) (w':=w') ?_ (N.kept.grown I (λb f=>(bP.2 b (iN b f)).1))
  ⟨β.gw (G8 d 0) y,PB φ (G8 d 0) y.ownBlock.toList, ?_, ?_⟩
 ·simp[execOp,ho,resolve,W,cr,GH,invoke,builtin,FL.1,Mk.1,bH]
 ·rw[←l];show Core w0 S st.get (PB (PB st.obj id none) (G8 d 0) (some (.row G [.int .u8] (r++b.map db) false u))) _ _ _ _;refine B.step (λj=>j=G8 d 0) I.size (λb f hn=>gm b f (λe=>hn (.inl ⟨id,_,C,by simp[ar,e]⟩))) BB
   (λk j h e=>F.slot k j h (by rw[e];exact bN)) gn ?_ ?_
  ·intro j g h;by_cases A:j=G8 d 0
   ·subst A;have q:=h;simp only[PB,if_true,VR] at q;subst q;refine .inr ⟨?_,by simp only[PB,if_true];exact BG, ?_⟩
    ·have m0:=(dj.append (by simpa using bk.1) (nr4 (w:=w) b)).mono (w':=w') I.size (λb f=>by rw[Ly,Q] at f;simp at f)
     refine⟨H++S6 b,aE++J4 b.length [], ?_,m0, ?_, ?_⟩
     ·rw[p];have:(r++b.map db).length=r.length+b.length:=by simp
      rw[this];exact Z
     ·rw[Ly,Q];simp
     ·rw[p,Ly,Q];cases u<;>simp[PB]
    ·simp only[PB,if_true];intro b f;rcases A8 b f with m | m
     ·have:=bP.2 b m;exact⟨this.1,by have:=I.size;omega⟩
     ·subst m;exact⟨.inl N.kept.size,Z.lt _ f⟩
   ·obtain⟨U,q⟩:=K j g h A;refine .inl ⟨A,q,by simp[PB,A], ?_, ?_⟩
    ·intro k hk e;exact (F.obj j g q).2 k hk (by rw[e];exact bN)
    ·intro b f;have fZ:=al (B.aC j g q) b f;refine gm b ((B.fresh j g q).2 b fZ).2 (λe=>?_);exact B.sep id j _ _ (Ne.symm U) C q b (iN b e) fZ
  ·intro k j ok g T hk h b f;by_cases H9:k=G8 d 0
   ·subst H9;have R:j≠G8 d 0:=Ne.symm T;obtain⟨U,q⟩:=K j g h R;simp only[PB,if_true] at f;simp only[PB,R,if_false];exact Cs b f j g U q
   ·obtain⟨A5,Co⟩:=K k ok hk H9;simp only[PB,H9,if_false] at f;by_cases A:j=G8 d 0
    ·subst A;simp only[PB,if_true];exact λm=>Cs b m k ok A5 Co f
    ·obtain⟨U,q⟩:=K j g h A;simp only[PB,A,if_false];exact B.sep k j ok g T Co q b f
 ·rw[←l];unfold dg;exact⟨p.symm,Z.one⟩
end
theorem nfH{α:Type}{l:Array α}{x:α}(h:l.toList=[x]):l= #[x]:=by
 cases l;simp at h;subst h;rfl
theorem wy{α:Type}{l:Array α}{x y:α}(h:l.toList=[x,y]):l= #[x,y]:=by
 cases l;simp at h;subst h;rfl
theorem noq{P:aaJ}{Γ:Ctx}{w0:aaK}{S:Own}{st:CO}{o:Oper}{e:R_}{a:Act}{w:aaK}(eO:Wq P Γ)(D:Rel w0 S st a w)
  (b:(evalOp P Γ o).val st.get st.obj=some e) (G:e.ok=true) (E:∀d,o.dst=some d→IW st.n d) (T:e.ow≠[]→∀d,o.dst=some d→T7 st d):Good P w0 S st o e a w:=by
 unfold evalOp at b;split at b
 ·rename_i x k;simp only[M.ag,sC,M.ab,VR] at b;obtain⟨s,B,rfl⟩:=b;exact nhl D E (.inl k) B rfl
 ·rename_i x k;simp only[M.ag,sC,M.ab,VR] at b;obtain⟨s,B,rfl⟩:=b;exact nhl D E (.inr k) B rfl
 ·rename_i c x y k;simp only[M.ag,sC] at b;obtain⟨sc,h0,W,B,sy,H,b⟩:=b;exact nBu D E k h0 B H b
 ·rename_i t k;split at b
  ·rename_i d A;simp only[M.ag,sC,M.ab,VR] at b;obtain⟨z,K,rfl⟩:=b;exact nCS D A (E d A) (T (by simp) d A) k K rfl
  ·simp at b
 ·rename_i t x k;split at b
  ·rename_i d A;simp only[M.ag,sC,M.ab,VR] at b;obtain⟨s,hs,cs,fX,rfl⟩:=b;exact nbY D A (E d A) (T (by simp) d A) k hs fX rfl
  ·simp at b
 ·rename_i t U k;split at b
  ·rename_i fs N;split at b
   ·rename_i places hp;simp only[M.ag,sC,M.ab,VR] at b;obtain⟨z,K,cs,fX,rfl⟩:=b;exact neO D E k N hp K fX rfl
   ·simp at b
  ·simp at b
 ·rename_i t len U k;cases L:BX Γ o.dst with
  | true=>
   simp only[L,HI] at b;unfold nfe at b;split at b
   ·rename_i X d N A;split at b
    ·rename_i F ts Cj Gu;cases C:fF P X F.length && Lz 0 F.length && JY len U.toList.length && K3 (len*F.length) 16777216
     ·simp only[C,rl,M.As,reduceCtorEq] at b
     simp only[C,HI,M.ag,sC] at b;obtain⟨z,K,q,hq,b⟩:=b;cases O:lC (RI q.2)
     ·simp[O] at b
     simp only[O,HI,M.ab,VR] at b;simp only[gF] at C;exact nsM D A (E d A) (T (by rw[←b];simp) d A) k N C.1.1.1 (Kd C.1.1.2) (cL C.1.2) (Kd C.2) ⟨z,K⟩ hq O b.symm
    ·simp at b
   ·simp at b
  | false=>
  simp only[L,rl] at b;split at b
  ·rename_i X d N A;split at b
   ·rename_i F Cj;cases C:fF P X F.length && Lz 0 F.length && JY len U.toList.length && K3 (len*F.length) 16777216
    ·simp only[C,rl,M.As,reduceCtorEq] at b
    simp only[C,HI,M.ag,sC] at b;obtain⟨z,K,q,hq,b⟩:=b;cases O:gf q.2.1
    ·simp[O] at b
    simp only[O,HI,M.ab,VR] at b;simp only[gF] at C;exact nfr D A (E d A) (T (by rw[←b];simp) d A) k N C.1.1.1 (Kd C.1.1.2) (cL C.1.2) (Kd C.2) hq ⟨z,K⟩ O b.symm
   ·simp at b
  ·simp at b
 ·rename_i t x k;simp only[M.ag,sC] at b;obtain⟨s,B,b⟩:=b;unfold nkt at b;split at b
  ·rename_i id i z off;simp only[M.aY,sC] at b;obtain⟨ob,Z,b⟩:=b;split at b
   ·rename_i t' F ts I hl;cases L:BX Γ o.dst with
    | false=>
     simp only[L,rl] at b;exact nwZ D E k B Z b G
    | true=>
     simp only[L,HI] at b;cases EJ:Oz P t with
     | true=>
      simp only[EJ,HI] at b;unfold nqq at b;split at b
      ·rename_i e' t1 d j jO A K_;cases C:JY z F.length && JY (Zv F) 1 && K3 (off+j.size) F.length
       ·simp[C] at b
       simp only[C,HI,M.ab,VR] at b;simp only[gF] at C;obtain⟨⟨b1,b2⟩,b3⟩:=C;have b1:=cL b1;subst b1;have Q:i<I.length:=by rw[←b] at G;simpa using G
       exact npT D A (E d A) (T (by rw[←b];simp) d A) k B Z jO (cL b2) EJ K_ (Kd b3) Q (by rw[←b]) (by rw[←b]) (by rw[←b])
      ·simp at b
     | false=>
     simp only[EJ,rl] at b;unfold niP at b;split at b
     ·rename_i e' t1 d jO A;cases C:JY z F.length && JY (Zv F) 1 && !(Oz P t) && (P.underlying t).isSome
      ·simp[C] at b
      simp only[C,HI,M.ab,VR] at b;simp only[gF,Bool.not_eq_true'] at C;obtain⟨⟨⟨b1,b2⟩,b3⟩,b4⟩:=C;have b1:=cL b1;subst b1;obtain⟨td,N⟩:=Option.isSome_iff_exists.1 b4;have Q:i<I.length:=by rw[←b] at G;simpa using G
      exact nvz D A (E d A) (T (by rw[←b];simp) d A) k B Z jO (cL b2) b3 N Q (by rw[←b]) (by rw[←b]) (by rw[←b])
     ·simp at b
   ·exact nyY D E k B b G
  ·exact nyY D E k B b G
 ·rename_i t x y k;simp only[M.ag,sC] at b;obtain⟨W,B,sy,H,b⟩:=b;have plain:(xq P t W sy).val st.get st.obj=some e→Good P w0 S st o e a w:=by
   clear b;intro b;unfold xq at b;simp only[M.ag,sC] at b;obtain⟨b7,fX,b⟩:=b;cases dO:fF P t b7.length
   ·simp[dO] at b
   simp only[dO,HI] at b;split at b
   ·rename_i id off;simp only[M.aY,sC] at b;obtain⟨ob,Z,b⟩:=b;split at b
    ·rename_i t' cells;cases eu:K3 (off+b7.length) cells.length
     ·simp[eu] at b
     simp only[eu,HI,M.ab,VR] at b;exact dvO D E k B H fX dO Z (Kd eu) b.symm
    ·simp at b
   ·rename_i id i z off;simp only[M.aY,sC] at b;obtain⟨ob,Z,b⟩:=b;split at b
    ·rename_i t' F I fz u;cases eu:JY z F.length && K3 (off+b7.length) F.length
     ·simp[eu] at b
     simp only[eu,HI,M.ag,sC] at b;obtain⟨r,hr,b⟩:=b;cases R:Nh id r.2.1 && gf r.2.1
     ·simp[R] at b
     simp only[R,HI,M.ab,VR] at b;simp only[gF] at eu R;have K:=cL eu.1;subst K;have Q:i<I.length:=by rw[←b] at G;simpa using G
     exact net D E k B H fX dO Z (Kd eu.2) hr R.1 R.2 Q (by rw[←b]) (by rw[←b]) (by rw[←b])
    ·simp at b
   ·simp at b
  unfold nkJ at b;split at b
  ·rename_i id i z off;simp only[M.aY,sC] at b;obtain⟨ob,Z,b⟩:=b;split at b
   ·rename_i t' F ts I hl;unfold ngb at b;simp only[M.ag,sC] at b;obtain⟨b7,fX,b⟩:=b;cases dO:fF P t b7.length && JY z F.length && K3 (off+b7.length) F.length
    ·simp[dO] at b
    simp only[dO,HI] at b;simp only[gF] at dO;obtain⟨⟨s1,s2⟩,s3⟩:=dO;have s2:=cL s2;subst s2;have s3:=Kd s3;cases hf:zP ((F.drop off).take b7.length) with
    | true=>
     simp only[hf,HI,M.ag,sC] at b;obtain⟨r,hr,b⟩:=b;cases R:r.2.1.isEmpty
     ·simp[R] at b
     simp only[R,HI,M.ab,VR] at b;have Q:i<I.length:=by rw[←b] at G;simpa using G
     exact ngJ D E k B H fX s1 Z s3 hf hr Q (by rw[←b]) (by rw[←b]) (by rw[←b])
    | false=>
     simp only[hf,rl] at b;cases KV:JY (Zv ((F.drop off).take b7.length)) (Zv F)
     ·simp[KV] at b
     simp only[KV,HI,M.ag,sC] at b;obtain⟨r,hr,b⟩:=b;cases R:lC (id::RI r.2)
     ·simp[R] at b
     simp only[R,HI,M.ab,VR] at b;have Q:i<I.length∧pB hl i=true:=by rw[←b] at G;simpa using G
     exact nxK D E k B H fX s1 Z s3 (cL KV) hr R Q.1 Q.2 (by rw[←b]) (by rw[←b]) (by rw[←b])
   ·exact plain b
  ·exact plain b
 ·rename_i x k;simp only[M.ag,sC] at b;obtain⟨s,B,b⟩:=b;exact nrh D E k B b
 ·rename_i op t x y t' k;simp only[M.ag,sC] at b;obtain⟨W,B,sy,H,b⟩:=b;exact nfo D E k B H b G
 ·rename_i op t x k;simp only[M.ag,sC] at b;obtain⟨W,B,b⟩:=b;exact nc7 D E k B b
 ·rename_i s t x k;simp only[M.ag,sC] at b;obtain⟨W,B,b⟩:=b;exact neP D E T k B b
 ·rename_i t l c k;simp only[M.ag,sC] at b;obtain⟨sl,B,sc,H,b⟩:=b;cases L:BX Γ o.dst with
  | true=>
   simp only[L,HI] at b;unfold nhT at b;split at b
   ·rename_i X n m d N A;split at b
    ·rename_i F ts i Cj Gu Q;cases C:JY i.size F.length && Lz 0 F.length
     ·simp[C] at b
     simp only[C,HI,M.ag,sC] at b;obtain⟨z,K,r,hr,b⟩:=b;cases C2:(RI r.2).isEmpty
     ·simp[C2] at b
     simp only[C2,HI,M.ab,VR] at b;simp only[gF] at C;exact nrz D A (E d A) (T (by rw[←b];simp) d A) k B H N Q (cL C.1) K hr (by simpa using C2) b.symm G
    ·simp at b
   ·simp at b
  | false=>
  simp only[L,rl] at b;unfold nyr at b;split at b
  ·rename_i X n m d N A;split at b
   ·rename_i F i Cj Q;cases C:JY i.size F.length && Lz 0 F.length
    ·simp[C] at b
    simp only[C,HI,M.ag,sC,M.ab,VR] at b;obtain⟨z,K,r,hr,b⟩:=b;simp only[gF] at C;exact nhP D A (E d A) (T (by rw[←b];simp) d A) k B H N Q (cL C.1) K hr b.symm G
   ·simp at b
  ·simp at b
 ·rename_i t x lo Q mx k;split at b
  ·simp only[M.ag,sC] at b;obtain⟨W,B,sl,H,sh,h3,b⟩:=b;cases L:BX Γ o.dst
   ·simp only[L,rl] at b;exact nqx D E k B H h3 b G
   ·simp only[L,HI] at b;exact nsZ D E k B H h3 b G
  ·simp at b
 ·rename_i t x f k;split at b
  ·rename_i fs N;split at b
   ·rename_i fd hf;cases K:fF P fd.type 0
    ·simp only[K,rl] at b;split at b
     ·simp at b
     ·rename_i i Q;simp only[M.ag,sC] at b;obtain⟨s,B,b⟩:=b;exact nja D E k N hf K Q B b
    ·simp[K] at b
   ·simp at b
  ·simp at b
 ·rename_i t x i k;simp only[M.ag,sC] at b;obtain⟨W,B,si,H,b⟩:=b;exact nyj D E k B H b G
 ·rename_i t x i k;simp only[M.ag,sC] at b;obtain⟨W,B,si,H,b⟩:=b;exact neb D E k B H b G
 ·rename_i x i k;simp only[M.ag,sC] at b;obtain⟨W,B,b⟩:=b;split at b
  ·rename_i vs;split at b
   ·rename_i v hvi;simp only[M.ab,VR] at b;exact nnB D E k B hvi b.symm
   ·simp at b
  ·simp at b
 ·rename_i c k;split at b
  ·rename_i g hg;simp only[M.ag,sC] at b;obtain⟨l,hl,b⟩:=b;cases j_:OT Γ g with
   | none=>
    unfold gz at b;rw[j_] at b;simp at b
   | some s=>
    cases L:s.Hd with
    | true=>
     unfold gz at b;rw[j_] at b;simp only[L,HI] at b;simp at b
    | false=>
    cases hp:s.pt with
    | some q=>
     obtain⟨t,bF⟩:=q;cases A:o.dst with
     | none=>
      unfold gz at b;rw[j_,A] at b;simp only[L,rl,hp] at b;simp at b
     | some d=>
      rw[A] at b;exact cjX eO j_ L hp D A (E d A) (λh=>T h d A) k hg hl b G
    | none=>
    cases R:s.ms with
    | nil=>
     cases A:o.dst with
     | none=>
      unfold gz at b;rw[j_,A] at b;simp only[L,rl,hp,R] at b;simp at b
     | some d=>
      rw[A] at b;exact npb eO j_ L hp R D A (E d A) (λh=>T h d A) k hg hl b G
    | cons m ms=>
     have hv':(Hg s o.dst l).val st.get st.obj=some e:=by unfold gz at b;rw[j_] at b;simp only[L,rl,hp,R] at b;exact b
     refine nsl eO j_ L hp (by rw[R];simp) D E (λd A h=>T h d A) (us:=c.args.toList.map a.eval) (λfn hf C O=>?_) (λβ φ hc=>jR hc _ l hl) hv' G;have Cv:c.args.map a.eval=(c.args.toList.map a.eval).toArray:=by rw[←Array.toList_map,MJ]
     rw[←Cv];exact zs k hg hf C O
  ·rename_i C;split at b
   ·rename_i x t hx ht;simp only[M.ag,sC] at b;obtain⟨s,B,b⟩:=b;exact nsf D E k C (nfH hx) (nfH ht) B b
   ·simp at b
  ·rename_i C;split at b
   ·rename_i x y hx;simp only[M.ag,sC] at b;obtain⟨s,B,s2,H,b⟩:=b;exact nwg (mx:=false) D E k C (wy hx) B H b
   ·simp at b
  ·rename_i C;split at b
   ·rename_i x y hx;simp only[M.ag,sC] at b;obtain⟨s,B,s2,H,b⟩:=b;exact nwg (mx:=true) D E k C (wy hx) B H b
   ·simp at b
  ·rename_i C;split at b
   ·rename_i s x t t' hx ht;cases lr:JY t t'
    ·simp only[lr,rl,M.ag,sC] at b;obtain⟨AK,B,W,H,b⟩:=b;exact nz5 D E T k C (wy hx) (wy ht) B H b G
    simp only[lr,HI] at b;have lu:=cL lr;subst lu;simp only[M.ag,sC] at b;obtain⟨AK,B,W,H,b⟩:=b;cases L:BX Γ o.dst with
    | true=>
     simp only[L,HI] at b;unfold nbp at b;split at b
     ·rename_i X d N A;split at b
      ·rename_i F ts Cj Gu;cases AH:fF P X F.length && Lz 0 F.length
       ·simp[AH] at b
       simp only[AH,HI,M.ag,sC] at b;obtain⟨z,K,b⟩:=b;cases kB:JY z.length F.length
       ·simp[kB] at b
       simp only[kB,HI,M.ag,sC] at b;obtain⟨p,LC,q,LD,b⟩:=b;cases O:lC (p.2++q.2)
       ·simp[O] at b
       simp only[O,HI,M.ab,VR] at b;simp only[gF] at AH;have ff:Qi P X (p.1.length+q.1.length)=true:=by rw[←b] at G;exact G
       exact nk8 D A (E d A) (T (by rw[←b];simp) d A) k C (wy hx) (wy ht) B H N AH.1 (Kd AH.2) K (cL kB) LC LD O ff (by rw[←b]) (by rw[←b]) (by rw[←b])
      ·simp at b
     ·simp at b
    | false=>
    simp only[L,rl] at b;unfold hsI at b;split at b
    ·rename_i X d N A;split at b
     ·rename_i F Cj;cases AH:fF P X F.length && Lz 0 F.length
      ·simp[AH] at b
      simp only[AH,HI,M.ag,sC] at b;obtain⟨z,K,b⟩:=b;cases kB:JY z.length F.length
      ·simp[kB] at b
      simp only[kB,HI] at b;have GW:=cL kB;simp only[gF] at AH;have kx:0<F.length:=Kd AH.2;split at b
      ·simp only[M.ag,sC,M.ab,VR] at b;obtain⟨q,hq,b⟩:=b;have ff:Qi P X q.1.length=true:=by rw[←b] at G;exact G
       exact ngA D A (E d A) (T (by rw[←b];simp) d A) k C (wy hx) (wy ht) B H N AH.1 kx K GW hq ff (by rw[←b]) (by rw[←b]) (by rw[←b])
      ·rename_i id;simp only[M.aY,sC] at b;obtain⟨ob,Z,b⟩:=b;split at b
       ·rename_i t' e' r u;cases he:JY t' X && pc e' F
        ·simp[he] at b
        simp only[he,HI,M.ag,sC] at b;obtain⟨q,hq,b⟩:=b;cases O:Nh id q.2.1
        ·simp[O] at b
        simp only[O,HI,M.ab,VR] at b;simp only[gF] at he;have e1:=cL he.1;have e2:=xp _ _ he.2;subst e1 e2;have ff:Qi P t' (r.length+q.1.length)=true:=by rw[←b] at G;exact G
        exact nsH D A (E d A) (T (by rw[←b];simp) d A) k C (wy hx) (wy ht) B H Z N AH.1 kx K GW hq O ff (by rw[←b]) (by rw[←b]) (by rw[←b])
       ·simp at b
      ·simp at b
     ·simp at b
    ·simp at b
   ·simp at b
  ·rename_i C;split at b
   ·rename_i s x t t' hx ht;simp only[M.ag,sC] at b;obtain⟨AK,B,W,H,b⟩:=b;exact nAm D E k C (wy hx) (wy ht) B H b G
   ·simp at b
  ·simp at b
 ·simp at b
structure D0 (st ID:CO):Prop where
 n:ID.n=st.n
 ok:st.ok=true
 get:∀i,i ∉ ID.ls→ID.get i=st.get i
 ls:∀i∈st.ls,i∈ID.ls
 obj:∀id o,st.obj id=some o→id ∉ ID.lm→ID.obj id=some o
 lm:∀i∈st.lm,i∈ID.lm
theorem D0.refl{st:CO}(h:st.ok=true):D0 st st:=⟨rfl,h,λ_ _=>rfl,λ_ h=>h,λ_ _ h _=>h,λ_ h=>h⟩
theorem D0.trans{a b c:CO}(h:D0 a b)(k:D0 b c):D0 a c:=
 ⟨k.n.trans h.n,h.ok,λi d=>(k.get i d).trans (h.get i (λe=>d (k.ls i e))),λi d=>k.ls i (h.ls i d),
  λid o f d=>k.obj id o (h.obj id o f (λe=>d (k.lm id e))) d,λi d=>k.lm i (h.lm i d)⟩
theorem nBe{ow:List (Nat×Option yP)}{h:Nat→Option yP}{j:Nat}(a:j ∉ ow.map (·.1)):xO ow h j=h j:=by
 induction ow with
 | nil=>rfl
 | cons x l b=>
  obtain⟨i,c⟩:=x;simp only[L2,J2,not_or] at a;simp only[xO,PB,a.1,if_false];exact b a.2
theorem nwT{st:CO}{d:Option Nat}{e:R_}(c:(st.apply d e).ok=true):D0 st (st.apply d e):=by
 have g:st.ok=true:=by simp only[CO.apply,DT] at c;exact c.1.1
 refine⟨rfl,g,λi a=>?_,λi a=>?_,λid o f a=>?_,λi a=>?_⟩
 ·cases d with
  | none=>rfl
  | some d=>
   have j:i≠d:=λh=>a (by simp[CO.apply,h]);rw[apply_get];simp[PB,j]
 ·cases d<;>simp[CO.apply,a]
 ·rw[VZ];simp only[CO.apply,J8,not_or] at a;rw[nBe a.2.1];cases l:e.cw with
  | none=>exact f
  | some x=>
   obtain⟨k,off,m⟩:=x;simp only[l,NO] at a;rw[←f];simp only[Zs];cases st.obj k with
   | none=>rfl
   | some b=>cases b<;>simp[PB,a.1]
 ·simp only[CO.apply,J8];exact .inr (.inr a)
theorem r9{st:CO} :st.fail.ok=false:=rfl
theorem nx6{P:aaJ}{Γ:Ctx}{st:CO}{o:Oper}(a:(st.cP P Γ o).ok=true):D0 st (st.cP P Γ o):=by
 unfold CO.cP at a ⊢;split
 ·rename_i e r b;simp only[b] at a;cases c:ou o.dst e st
  ·simp[c,r9] at a
  ·simp only[c,HI] at a ⊢;exact nwT a
 ·rename_i b;simp[b,r9] at a
theorem bt(st:CO)(s:Nat)(b:Bool):(st.gr s b).get=PB st.get s (.kb b):=by
 funext i;show PM ((s,.kb b)::st.sl) i=_;simp only[PM,PB,CO.get];cases a:JY s i
 ·have c:=OF a;rw[if_neg (λh=>c h.symm)];rfl
 ·simp[(cL a).symm]
theorem R6{st:CO}{s:Nat}{b:Bool}(c:st.ok=true):D0 st (st.gr s b):=by refine⟨rfl,c,λi a=>?_,λi a=>by simp[CO.gr,a],λ_ _ h _=>h,λ_ h=>h⟩;rw[bt];have:i≠s:=λh=>a (by simp[CO.gr,h]);simp[PB,this]
theorem mj{i:Nat}{l:List Nat} :Uz i l=true↔i∈l:=by
 induction l with
 | nil=>simp[Uz]
 | cons k l a=>
  simp only[Uz,Bool.or_eq_true,J2,a];constructor
  ·rintro (h | h)
   ·exact .inl (cL h).symm
   ·exact .inr h
  ·rintro (rfl | h)
   ·exact .inl (Nat.beq_refl i)
   ·exact .inr h
theorem nwX{i:Nat}{l:List Nat} :i∈dedup l↔i∈l:=by
 induction l with
 | nil=>simp[dedup]
 | cons k l a=>
  simp only[dedup];cases b:Uz k l
  ·simp[a]
  ·simp only[HI,J2,a];constructor
   ·exact .inr
   ·rintro (rfl | h)
    ·exact mj.1 b
    ·exact h
theorem Ke{g:Bool}{f h:Nat→bg}{l:List (Nat×bg)} :∀(r:List Nat) (i:Nat),PM (N6 g f h r l) i=if i∈r then CG g (f i) (h i) else PM l i
 | [],i=>by simp[N6]
 | k::r,i=>by
  simp only[N6,PM];cases b:JY k i
  ·have c:=OF b;simp only[rl,Ke r i,J2];by_cases a:i∈r
   ·simp[a]
   ·rw[if_neg a,if_neg (λh=>h.elim (λh=>c h.symm) a)]
  ·have d:=cL b;subst d;simp
theorem qf{c:List (Nat×yP)} :∀ {l:List Nat} {i:Nat},i∈Ix c l↔i∈l∧∃o,CH c i=some o
 | [],i=>by simp[Ix]
 | k::l,i=>by
  simp only[Ix];cases d:CH c k with
  | none=>
   simp only[qf (l:=l),J2];constructor
   ·rintro ⟨b,a⟩
    exact⟨.inr b,a⟩
   ·rintro ⟨rfl | b,a⟩
    ·rw[d] at a;obtain⟨o,a⟩:=a;cases a
    ·exact⟨b,a⟩
  | some o=>
   simp only[J2,qf (l:=l)];constructor
   ·rintro (rfl | ⟨b,a⟩)
    ·exact⟨.inl rfl,o,d⟩
    ·exact⟨.inr b,a⟩
   ·rintro ⟨rfl | b,a⟩
    ·exact .inl rfl
    ·exact .inr ⟨b,a⟩
theorem ntJ{g:Bool}{f k h:Nat→Option yP} :∀(l:List Nat) (i:Nat),xO (YP g f k l) h i=if i∈l then Oi g (f i) (k i) else h i
 | [],i=>by simp[YP,xO]
 | j::l,i=>by
  simp only[YP,xO,PB,J2];by_cases a:i=j
  ·subst a;simp
  ·simp only[a,if_false,false_or];exact ntJ l i
theorem nA1(pre:CO)(g:Bool)(a b:CO)(i:Nat):(merge pre g a b).obj i=if i∈Ix pre.hp (dedup (a.lm++b.lm)) then Oi g (a.obj i) (b.obj i) else pre.obj i:=by show CH (Vs _ pre.hp) i=_;rw[gN,ntJ];rfl
theorem nvN{pre a b:CO}{g:Bool}(d:pre.ok=true)(f:(merge pre g a b).ok=true):D0 pre (merge pre g a b):=by
 refine⟨rfl,d,λi c=>?_,λi c=>mi _ c,λi o h c=>?_,λi h=>mi _ h⟩
 ·have c:i ∉ dedup (a.ls++b.ls)∧i ∉ pre.ls:=by simpa only[merge,J8,not_or] using c
  show PM (N6 g a.get b.get (dedup (a.ls++b.ls)) pre.sl) i=PM pre.sl i;rw[Ke,if_neg c.1]
 ·have c:i ∉ Ix pre.hp (dedup (a.lm++b.lm)):=λe=>c (U8 _ e);rw[nA1,if_neg c];exact h
theorem Core.sub{w0:aaK}{S:Own}{f u:Nat→bg}{h h':Nat→Option yP}{β:Env}{φ:Nat→List Nat}{tm:Array aaL}{w:aaK}(l:Core w0 S f h β φ tm w)
  (x:∀j o,h' j=some o→h j=some o∨∃t m n,o= .box t n∧h j=some (.box t m)∧∀g,qV w (uh h' β) β m g→qV w (uh h' β) β n g)
  (z:∀i v,dg w (uh h' β) β (f i) v→dg w (uh h' β) β (u i) v):Core w0 S u h' β φ tm w:=by
 have q:∀j o,h' j=some o→∃d,h j=some d∧ar β j o=ar β j d:=by
  intro j o r;rcases x j o r with a | ⟨t,m,n,rfl,a,_⟩
  ·exact⟨o,a,rfl⟩
  ·exact⟨_,a,rfl⟩
 have y:∀b,uh h' β b→uh h β b:=λb c=>c.imp (λ⟨j,o,s,c⟩=>by obtain⟨d,a,k⟩:=q j o s;exact⟨j,d,a,k ▸ c⟩) id
 have e:=l.step (h':=h') (β':=β) (φ':=φ) (w':=w) (λ_=>False) (K4 _) (λ_ _ _=>rfl) (λb c=> .inl (y b c)) (λ_ _ _ h=>h) (λ_ _=>⟨rfl,rfl⟩)
  (λid o r=>by
   rcases x id o r with a | ⟨t,m,n,rfl,a,k⟩
   ·exact .inl ⟨λh=>h,a,rfl,λ_ _ h=>h,λ_ _=>rfl⟩
   ·refine .inr ⟨?_,l.fresh id _ a⟩;have A:=(l.aC id _ a).mono (w':=w) (av':=uh h' β) (β':=β) (K4 _) (λ_ _ _=>rfl) (λb c=> .inl (y b c)) (λ_ _=>⟨rfl,rfl⟩) (λ_ _=>rfl) rfl;obtain⟨g,B,C,D,E⟩:=A;exact⟨g,B,k g C,D,E⟩)
  (λi j o p F G s b c=>by obtain⟨d,a,_⟩:=q i o G;obtain⟨H,k,_⟩:=q j p s;exact l.sep i j d H F a k b c)
 exact⟨λi=>z i _ (e.cx i),e.aC,e.fresh,e.sep,e.gV,e.bars⟩
theorem ntS{w:aaK}{av:Nat→Prop}{β:Env}{g:Bool}{x y:Option yP}{o:yP}(h:Oi g x y=some o):
  (bif g then x else y)=some o∨∃t b c,o= .box t c∧(bif g then x else y)=some (.box t b)∧∀d,qV w av β b d→qV w av β c d:=by
 unfold Oi at h;split at h
 ·rename_i t b f c;cases a:JY t f && JY b.length c.length
  ·simp[a] at h
  ·simp only[a,HI,VR] at h;simp only[gF] at a;have i:=cL a.1;have m:=cL a.2;subst i h;refine .inr ⟨t,bif g then b else c,_,rfl,by cases g<;>rfl,λd n=>qV.merge g b c d m n⟩
 ·rename_i t e r j u f p z k l;cases a:JY t f && pc e p && (j==k) && (u==l)
  ·simp[a] at h
  ·simp only[a,HI,VR] at h;simp only[gF] at a;have i:=cL a.1.1.1;have q:=xp _ _ a.1.1.2;have s:j=k:=by simpa using a.1.2
   have v:u=l:=by simpa using a.2
   subst i q s v h;refine .inl ?_;cases g<;>rfl
 ·cases h
theorem BZ{w0:aaK}{S:Own}{pre b c:CO}{g:Bool}{a:Act}{w:aaK}(p:g=true→D0 pre.reset b∧Rel w0 S b a w)(q:g=false→D0 pre.reset c∧Rel w0 S c a w)
  (C:(merge pre g b c).ok=true):Rel w0 S (merge pre g b c) a w:=by
 have key:∀r:CO,D0 pre.reset r→Rel w0 S r a w→(∀i∈r.ls,i∈b.ls++c.ls)→(∀i∈r.lm,i∈b.lm++c.lm)→(∀i v av β,dg w av β (r.get i) v→dg w av β (CG g (b.get i) (c.get i)) v)→
   (∀i,(bif g then b.obj i else c.obj i)=r.obj i)→Rel w0 S (merge pre g b c) a w:=by
  intro r f d s t u y;obtain⟨β,φ,z⟩:=d.core;refine⟨d.size.trans (congrArg (· % 1099511627776) f.n),λx A=>by have m:=d.fx x A;rw[f.n] at m;exact m,d.defers,d.kept,β,φ, ?_⟩;refine z.sub (λj o l=>?_) (λi v k=>?_)
  ·rw[nA1] at l;split at l
   ·have:=ntS (w:=w) (av:=uh (merge pre g b c).obj β) (β:=β) l;rw[y j] at this;exact this
   ·rename_i B;refine .inl (f.obj j o l (λh=>B ?_));exact qf.2 ⟨nwX.2 (t j h),o,l⟩
  ·show dg w _ β (PM (N6 g b.get c.get (dedup (b.ls++c.ls)) pre.sl) i) v;rw[Ke];split
   ·exact u i v _ β k
   ·rename_i e;have:r.get i=pre.get i:=f.get i (λh=>e (nwX.2 (s i h)));rw[this] at k;exact k
 cases g with
 | true=>
  obtain⟨f,d⟩:=p rfl;exact key b f d (λi e=>U8 _ e) (λi e=>U8 _ e) (λi v av β k=>dg.merge true _ _ _ k) (λ_=>rfl)
 | false=>
  obtain⟨f,d⟩:=q rfl;exact key c f d (λi e=>mi _ e) (λi e=>mi _ e) (λi v av β k=>dg.merge false _ _ _ k) (λ_=>rfl)
theorem Rel.reset{w0:aaK}{S:Own}{st:CO}{a:Act}{w:aaK}(h:Rel w0 S st a w):Rel w0 S st.reset a w:=⟨h.size,h.fx,h.defers,h.kept,h.core⟩
theorem Rel.gr{w0:aaK}{S:Own}{st:CO}{a:Act}{w:aaK}(h:Rel w0 S st a w){s:Nat}{b:Bool}(e:a.tmps.getD s undef= .bool b):Rel w0 S (st.gr s b) a w:=by
 obtain⟨β,φ,c⟩:=h.core;refine⟨h.size,h.fx,h.defers,h.kept,β,φ, ?_⟩;rw[bt];exact⟨λi=>by
  by_cases d:i=s
  ·subst d;simp only[PB,if_true,dg];exact e
  ·have:=c.cx i;show dg w (uh st.obj β) β _ _;simpa only[PB,d,if_false] using this,c.aC,c.fresh,c.sep,c.gV,c.bars⟩
theorem Rel.Bh{w0:aaK}{S:Own}{st:CO}{a:Act}{w:aaK}(h:Rel w0 S st a w){s:Nat}{g:Bool}(b:st.get s= .bool g):a.tmps.getD s undef= .bool g:=by obtain⟨β,φ,c⟩:=h.core;have:=c.cx s;rw[b] at this;simpa only[dg] using this
theorem dT{P:aaJ}{Γ:Ctx}{ops:Array Oper}{gs:List Nat}{e:List Yv→Bool} :∀(a:List Oper) (i:Nat) (b:List Yv) (st:CO),(Zk P Γ ops gs e a i b st).ok=true→
  D0 st (Zk P Γ ops gs e a i b st)
 | [],i,b,st,h=>by simp only[Zk] at h ⊢;simp only[DT] at h;exact⟨rfl,h.1,λ_ _=>rfl,λ_ h=>h,λ_ _ h _=>h,λ_ h=>h⟩
 | o::a,i,b,st,h=>by
  rw[Zk] at h ⊢;split
  ·rename_i f;simp[f,r9] at h
  ·rename_i f;simp only[f] at h;have j:=dT a _ _ _ h;exact (nwT j.ok).trans j
  ·rename_i f;simp only[f] at h;have c:(Zk P Γ ops gs e a (i+1) (b++[SC P Γ ops i st o]) (st.cP P Γ o)).ok=true→D0 st (Zk P Γ ops gs e a (i+1) (b++[SC P Γ ops i st o]) (st.cP P Γ o)):=by intro d;have j:=dT a _ _ _ d;exact (nx6 j.ok).trans j
   split
   ·rename_i k;simp only[k] at h;exact c h
   ·rename_i s k;simp only[k] at h;cases m:Uz s gs
    ·simp only[m,rl] at h ⊢;exact c h
    ·simp only[m,HI] at h ⊢;split
     ·rename_i g l;simp only[l] at h;have n:(st.cP P Γ o).ok=true:=by
       have d:=h;simp only[merge,Np] at d;cases g with
       | true=>simp only[HI] at d;exact (dT a _ _ _ d).ok
       | false=>simp only[rl] at d;exact (dT a _ _ _ d).ok
      exact (nx6 n).trans (nvN n h)
     ·rename_i l;have d:(Zk P Γ ops gs e a (i+1) (b++[SC P Γ ops i st o]) (st.cP P Γ o)).ok=true:=by
       revert h;split
       ·rename_i g p;exact absurd p (l g)
       ·exact id
      exact c d
theorem ba{b l:List Nat}(h:sL b l=true):∀i∈l,i / 64 ∉ b:=by
 induction l with
 | nil=>simp
 | cons k l c=>
  simp only[sL,gF,Bool.not_eq_true'] at h;intro i a;rcases J2.1 a with rfl | a
  ·intro d;rw[mj.2 d] at h;simp at h
  ·exact c h.2 i a
theorem ndc{l:List (Nat×bg)}{i:Nat} :PM l i= .fV∨∃x∈l,PM l i=x.2:=by
 induction l with
 | nil=>exact .inl rfl
 | cons y l a=>
  obtain⟨k,s⟩:=y;simp only[PM];cases JY k i
  ·rcases a with h | ⟨x,b,h⟩
   ·exact .inl h
   ·exact .inr ⟨x,Kw _ b,h⟩
  ·exact .inr ⟨_,Lb ..,rfl⟩
theorem nL6{l:List (Nat×yP)}{i:Nat}{b:yP}(h:CH l i=some b):(i,b)∈l:=by
 induction l with
 | nil=>simp[CH] at h
 | cons y l c=>
  obtain⟨k,s⟩:=y;simp only[CH] at h;cases a:JY k i
  ·simp only[a,rl] at h;exact Kw _ (c h)
  ·simp only[a,HI,VR] at h;rw[cL a,h];exact Lb ..
theorem nnJ{f:List Nat}{st:CO}(h:gT f st=true):∀d∈f,T7 st d:=by
 intro d b;simp only[gT,gF,List.all_eq_true] at h;constructor
 ·intro i j a;rcases ndc (l:=st.sl) (i:=i) with c | ⟨x,m,c⟩
  ·have:st.get i= .fV:=c;rw[this] at a;simp[jH] at a
  ·have:st.get i=x.2:=c;rw[this] at a;exact λe=>ba (h.1 x m) j a (e ▸ b)
 ·intro j o a;have g:=h.2 _ (nL6 a);refine⟨λe=>ba g j (Lb ..) (e ▸ b),λk n e=>ba g k (Kw _ n) (e ▸ b)⟩
section
variable {P:aaJ} {Γ:Ctx} {w0:aaK} {S:Own} {ops:Array Oper} {gs:List Nat}
theorem PW{st:CO}{o:Oper}(h:(st.cP P Γ o).ok=true):∃e s r,(evalOp P Γ o).run st.get st.obj=some (e,s,r)∧ou o.dst e st=true∧st.cP P Γ o=st.apply o.dst e:=by
 unfold CO.cP at h ⊢;split at h
 ·rename_i e r b;obtain⟨s,r⟩:=r;cases a:ou o.dst e st
  ·simp[a,r9] at h
  ·exact⟨e,s,r,b,a,by simp[b,a]⟩
 ·simp[r9] at h
theorem nwe(k:Wq P Γ){st:CO}{o:Oper}{a:Act}{w:aaK}(m:Rel w0 S st a w)(h:(st.cP P Γ o).ok=true)(Q:Exit→Act→aaK→Prop):
  o.wp P a w (λi w'=>∃v,i=a.put o.dst v∧Rel w0 S (st.cP P Γ o) i w') Q:=by
 obtain⟨e,s,r,n,b,p⟩:=PW h;rw[p] at h ⊢;simp only[CO.apply,DT] at h;refine noq k m (M.dR _ n) h.1.2 (λd c=>?_) (λf d c=>?_) Q
 ·have:=h.2;rw[c] at this;exact Ea this
 ·unfold ou at b;rw[c] at b;split at b
  ·rename_i t _ g;injection g with g;subst g;exact nnJ b d (NO.2 rfl)
  ·rename_i q;cases j:e.ow with
   | nil=>exact absurd j f
   | cons x l=>exact (q x l d j rfl).elim
theorem AX{st:CO}{o:Oper}{a:Act}{w:aaK}{b:Bool}(l:Rel w0 S st a w)(h:PS ops st o=some b):Region.wanted o (yielded ops a.tmps)=b:=by
 obtain⟨β,φ,m⟩:=l.core;unfold PS at h;unfold Region.wanted;split at h
 ·rename_i f;simp only[f];simpa using h
 ·rename_i j i f;simp only[f];split at h
  ·cases h
  ·rename_i s k;have d:=m.cx s;split at h
   ·rename_i n g;rw[g] at d;simp only[dg] at d;have:a.tmps[s]? =some (.bool n):=by
     rw[Pa] at d;cases e:a.tmps[s]? with
     | none=>rw[e] at d;simp[undef] at d
     | some v=>rw[e] at d;simpa using d
    simp only[yielded,k,Option.bind_some,this];have h:=Option.some.inj h;rw[←h];rfl
   ·rename_i g;rw[g] at d;simp only[dg] at d;have:∀c,a.tmps[s]? ≠some (.bool c):=by intro c e;rw[Pa,e] at d;simp[undef] at d
    have p:yielded ops a.tmps j=none:=by unfold yielded;rw[k];simp only[Option.bind_some]
    rw[p];have h:=Option.some.inj h;rw[←h];rfl
   ·cases h
theorem nuU{st:CO}{o:Oper}{a:Act}{w:aaK}(b:Rel w0 S st a w)(h:(st.skip o.dst).ok=true):Rel w0 S (st.skip o.dst) (a.put o.dst undef) w:=by obtain⟨β,φ,c⟩:=b.core;refine zf b (λd e=>?_) b.kept ⟨β,φ,c,by simp[dg]⟩;simp only[CO.skip,CO.apply,DT] at h;have:=h.2;rw[e] at this;exact Ea this
theorem Rel.HE{st:CO}{a:Act}{w:aaK}(c:Rel w0 S st a w)(b:Bool):Rel w0 S {st with ok:=b} a w:=⟨c.size,c.fx,c.defers,c.kept,c.core⟩
theorem ZT{pre a b:CO}{g:Bool}(h:(merge pre g a b).ok=true):(g=true→a.ok=true)∧(g=false→b.ok=true):=by
 simp only[merge,Np] at h;cases g
 ·exact⟨by simp,λ_=>h⟩
 ·exact⟨λ_=>h,by simp⟩
theorem Nq(h:Wq P Γ){j:List Yv→Bool}{Q:Exit→Act→aaK→Prop} :∀(c:List Oper) (i:Nat) (d:List Yv) (st:CO) (a:Act) (w:aaK),Rel w0 S st a w→
  (Zk P Γ ops gs j c i d st).ok=true→(∀f w',Rel w0 S (Zk P Γ ops gs j c i d st) f w'→Q .normal f w')→wpList P ops Q c a w
 | [],i,d,st,a,w,hR,aN,hQ=>by simp only[Zk] at hQ;exact hQ a w (hR.HE _)
 | o::c,i,d,st,a,w,hR,aN,hQ=>by
  rw[Zk] at aN hQ;cases p:PS ops st o with
  | none=>simp[p,r9] at aN
  | some b=>
   simp only[p] at aN hQ;have x:=AX hR p;unfold wpList;cases b with
   | false=>
    rw[if_neg (by rw[x];simp)];simp only at aN hQ;exact Nq h c _ _ _ _ w (nuU hR (dT c _ _ _ aN).ok) aN hQ
   | true=>
    rw[if_pos x];simp only at aN hQ;refine .inl ?_;have e:(Zk P Γ ops gs j c (i+1) (d++[SC P Γ ops i st o]) (st.cP P Γ o)).ok=true→
      (∀f w',Rel w0 S (Zk P Γ ops gs j c (i+1) (d++[SC P Γ ops i st o]) (st.cP P Γ o)) f w'→Q .normal f w')→o.wp P a w (wpList P ops Q c) Q:=by
     intro y D;have k:=(dT c _ _ _ y).ok;refine Oper.wp_mono ?_ (nwe h hR k Q)
     rintro f w' ⟨v,rfl,l⟩
     exact Nq h c _ _ _ _ w' l y D
    split at aN
    ·rename_i k;simp only[k] at hQ;exact e aN hQ
    ·rename_i s k;simp only[k] at hQ;cases z:Uz s gs
     ·simp only[z,rl] at aN hQ;exact e aN hQ
     ·simp only[z,HI] at aN hQ;split at aN
      ·rename_i g m;simp only[m] at hQ;have n:=ZT aN;have q:(st.cP P Γ o).ok=true:=by
        cases g with
        | true=>exact (dT c _ _ _ (n.1 rfl)).ok
        | false=>exact (dT c _ _ _ (n.2 rfl)).ok
       refine Oper.wp_mono ?_ (nwe h hR q Q)
       rintro f w' ⟨v,rfl,l⟩
       have A:=l.Bh m;cases g with
       | true=>
        have B:=n.1 rfl;refine Nq h c (i+1) (d++[SC P Γ ops i st o]) ((st.cP P Γ o).reset.gr s true) _ w' (l.reset.gr A) B ?_;intro r t u;exact hQ r t (BZ (λ_=>⟨(R6 (st:=(st.cP P Γ o).reset) q).trans (dT c _ _ _ B),u⟩) (by simp) aN)
       | false=>
        have C:=n.2 rfl;refine Nq h c (i+1) (d++[SC P Γ ops i st o]) ((st.cP P Γ o).reset.gr s false) _ w' (l.reset.gr A) C ?_;intro r t u;exact hQ r t (BZ (by simp) (λ_=>⟨(R6 (st:=(st.cP P Γ o).reset) q).trans (dT c _ _ _ C),u⟩) aN)
      ·rename_i m;have E:∀f w',Rel w0 S (Zk P Γ ops gs j c (i+1) (d++[SC P Γ ops i st o]) (st.cP P Γ o)) f w'→Q .normal f w':=by
        revert hQ;split
        ·rename_i g F;exact absurd F (m g)
        ·exact id
       exact e aN E
theorem nDa{a:Bool}{st:CO}(h:(O5 P Γ ops a st).ok=true):D0 st (O5 P Γ ops a st):=by
 unfold O5 at h ⊢;cases a
 ·simp only[rl] at h ⊢;exact dT _ _ _ _ h
 ·simp only[HI] at h ⊢;cases b:gT (cK ops.toList) st && Tq ops.toList 0 && P.follows .mixedOrders
  ·simp[b,r9] at h
  ·simp only[b,HI] at h ⊢;exact dT _ _ _ _ h
theorem nqI(d:Wq P Γ){st:CO}{a:Act}{w:aaK}{id:Nat}{Q:Exit→Act→aaK→Prop}(e:Rel w0 S st a w)(h:(O5 P Γ ops false st).ok=true)
  (b:∀c w',Rel w0 S (O5 P Γ ops false st) c w'→Q .normal c w'):(Code.region id ops false).wp P Q a w:=by
 unfold O5 at h b;simp only[rl] at h b;exact wp_region_list (Nq d _ _ _ _ a w e h b)
end
theorem M.lA{α:Type}{f g:Nat→bg}{h l:Nat→Option yP} :∀(m:M α) {a:α} {s o:List Nat},m.run f h=some (a,s,o)→(∀i∈s,g i=f i)→(∀i∈o,l i=h i)→m.run g l=some (a,s,o)
 | .pure a,_,_,_,e,_,_=>by simpa [M.run] using e
 | .fail,_,_,_,e,_,_=>by simp[M.run] at e
 | .slot i k,a,s,o,e,hs,ho=>by
  simp only[M.run] at e ⊢;split at e
  ·rename_i b n p c;simp only[VR,Prod.mk.injEq] at e;obtain⟨rfl,rfl,rfl⟩:=e;rw[hs i (Lb ..),M.lA (k (f i)) c (λj d=>hs j (Kw _ d)) ho]
  ·cases e
 | .obj i k,a,s,o,e,hs,ho=>by
  simp only[M.run] at e ⊢;split at e
  ·rename_i x q;split at e
   ·rename_i b n p c;simp only[VR,Prod.mk.injEq] at e;obtain⟨rfl,rfl,rfl⟩:=e;rw[ho i (Lb ..),q];simp only;rw[M.lA (k x) c hs (λj d=>ho j (Kw _ d))]
   ·cases e
  ·cases e
structure Qw where
 i:Nat
 o:Oper
 run:Bool
 st:CO
 e:R_
 log:Yv
def Qw.f(p:Qw)(s:Nat)(v:bg):bg:=if p.o.dst=some s then p.e.sv else v
def fO:List (Nat×Option yP)→Nat→Option (Option yP)
 | [],_=>none
 | (i,x)::l,j=>if j=i then some x else fO l j
def AL(cw:Option (Nat×Nat×List bg))(id:Nat)(v:Option yP):Option yP:=
 match cw with
 | some (i,off,b7)=>if id=i then (match v with | some (.box t cells)=>some (.box t (Ge cells off b7)) | o=>o) else v
 | none=>v
def Qw.h(p:Qw)(id:Nat)(v:Option yP):Option yP:=
 match fO p.e.ow id with
 | some x=>x
 | none=>AL p.e.cw id v
theorem nvj(cw:Option (Nat×Nat×List bg))(h:Nat→Option yP)(id:Nat):Zs cw h id=AL cw id (h id):=by
 cases cw with
 | none=>rfl
 | some x=>
  obtain⟨i,off,d⟩:=x;simp only[Zs,AL];by_cases a:id=i
  ·subst a;rw[if_pos rfl];cases c:h id with
   | none=>simp[c]
   | some b=>cases b<;>simp[PB,c]
  ·rw[if_neg a];cases h i with
   | none=>rfl
   | some b=>cases b<;>simp[PB,a]
theorem noy(ow:List (Nat×Option yP))(h:Nat→Option yP)(id:Nat):xO ow h id=match fO ow id with | some x=>x | none=>h id:=by
 induction ow with
 | nil=>rfl
 | cons x l a=>
  obtain⟨i,b⟩:=x;simp only[xO,PB,fO];split
  ·rfl
  ·exact a
theorem kU(st:CO)(p:Qw)(id:Nat):(st.apply p.o.dst p.e).obj id=p.h id (st.obj id):=by rw[VZ,noy];unfold Qw.h;rw[nvj]
theorem ZJ(st:CO)(p:Qw)(s:Nat):(st.apply p.o.dst p.e).get s=p.f s (st.get s):=by
 unfold Qw.f;cases b:p.o.dst with
 | none=>simp[nnV]
 | some d=>
  rw[apply_get];simp only[PB,VR];by_cases a:s=d
  ·simp[a]
  ·rw[if_neg a,if_neg (λh:d=s=>a h.symm)]
inductive Path (P:aaJ) (Γ:Ctx) (ops:Array Oper) (gs:List Nat):List Oper→Nat→CO→List Qw→CO→Prop where
 | nil (i:Nat) (st:CO):Path P Γ ops gs [] i st [] st
 | skip (o:Oper) (rest:List Oper) (i:Nat) (st:CO) (l:List Qw) (fin:CO) (hw:PS ops st o=some false) (aN:(st.skip o.dst).ok=true) (h:Path P Γ ops gs rest (i+1) (st.skip o.dst) l fin):
   Path P Γ ops gs (o::rest) i st (⟨i,o,false,st, {sv:= .undef},w4 ops i o⟩::l) fin
 | op (o:Oper) (rest:List Oper) (i:Nat) (st:CO) (l:List Qw) (fin:CO) (e:R_) (hw:PS ops st o=some true) (aN:(st.cP P Γ o).ok=true) (he:st.cP P Γ o=st.apply o.dst e)
   (hr:∃s r,(evalOp P Γ o).run st.get st.obj=some (e,s,r)) (h:Path P Γ ops gs rest (i+1) (st.cP P Γ o) l fin):
   Path P Γ ops gs (o::rest) i st (⟨i,o,true,st,e,SC P Γ ops i st o⟩::l) fin
 | KA (o:Oper) (rest:List Oper) (i:Nat) (st:CO) (l:List Qw) (fin:CO) (e:R_) (s:Nat) (g:Bool) (hw:PS ops st o=some true) (aN:(st.cP P Γ o).ok=true) (he:st.cP P Γ o=st.apply o.dst e)
   (hr:∃s r,(evalOp P Γ o).run st.get st.obj=some (e,s,r)) (hd:o.dst=some s) (hg:e.sv= .bool g) (h:Path P Γ ops gs rest (i+1) ((st.cP P Γ o).reset.gr s g) l fin):
   Path P Γ ops gs (o::rest) i st (⟨i,o,true,st, {e with sv:= .kb g},SC P Γ ops i st o⟩::l) fin
section
variable {P:aaJ} {Γ:Ctx} {w0:aaK} {S:Own} {ops:Array Oper} {gs:List Nat}
theorem br{j:List Yv→Bool} :∀(c:List Oper) (i:Nat) (d:List Yv) (st:CO),(Zk P Γ ops gs j c i d st).ok=true→
  ∃l fin,Path P Γ ops gs c i st l fin∧fin.ok=true∧j (d++l.map (·.log))=true∧∀(w0:aaK) (S:Own) (a:Act) (w:aaK),Rel w0 S fin a w→Rel w0 S (Zk P Γ ops gs j c i d st) a w
 | [],i,d,st,aN=>by simp only[Zk,DT] at aN ⊢;exact⟨[],st,.nil i st,aN.1,by simpa using aN.2,λw0 S a w h=>h.HE _⟩
 | o::c,i,d,st,aN=>by
  rw[Zk] at aN ⊢;cases m:PS ops st o with
  | none=>simp[m,r9] at aN
  | some b=>
   simp only[m] at aN ⊢;cases b with
   | false=>
    simp only at aN ⊢;obtain⟨l,fin,n,E,F,G⟩:=br c _ _ _ aN;exact⟨_,fin,.skip o c i st l fin m (dT c _ _ _ aN).ok n,E,by simpa using F,G⟩
   | true=>
    simp only at aN ⊢;have f:(Zk P Γ ops gs j c (i+1) (d++[SC P Γ ops i st o]) (st.cP P Γ o)).ok=true→
      ∃l fin,Path P Γ ops gs (o::c) i st l fin∧fin.ok=true∧j (d++l.map (·.log))=true∧∀(w0:aaK) (S:Own) (a:Act) (w:aaK),Rel w0 S fin a w→
       Rel w0 S (Zk P Γ ops gs j c (i+1) (d++[SC P Γ ops i st o]) (st.cP P Γ o)) a w:=by
     intro n;have k:=(dT c _ _ _ n).ok;obtain⟨l,fin,u,v,x,y⟩:=br c _ _ _ n;obtain⟨e,s,r,z,_,p⟩:=PW k;exact⟨_,fin,.op o c i st l fin e m k p ⟨s,r,z⟩ u,v,by simpa using x,y⟩
    split at aN
    ·rename_i k;exact f aN
    ·rename_i s k;cases B:Uz s gs
     ·simp only[B,rl] at aN ⊢;exact f aN
     ·simp only[B,HI] at aN ⊢;split at aN
      ·rename_i g A;have C:=ZT aN;have q:∀b:Bool,g=b→(Zk P Γ ops gs j c (i+1) (d++[SC P Γ ops i st o]) ((st.cP P Γ o).reset.gr s b)).ok=true:=by
        rintro b rfl
        cases g with
        | true=>exact C.1 rfl
        | false=>exact C.2 rfl
       have H:=(dT c _ _ _ (q g rfl)).ok;have t:(st.cP P Γ o).ok=true:=H;obtain⟨l,fin,u,v,x,y⟩:=br c (i+1) (d++[SC P Γ ops i st o]) _ (q g rfl);obtain⟨e,I,r,z,_,p⟩:=PW t;have K:e.sv= .bool g:=by rw[p,k,apply_get] at A;simpa [PB] using A
       refine⟨_,fin,.KA o c i st l fin e s g m t p ⟨I,r,z⟩ k K u,v,by simpa using x,λw0 S a w L=>?_⟩;have D:=y w0 S a w L;refine BZ (λM=>?_) (λN=>?_) aN
       ·subst M;exact⟨(R6 (st:=(st.cP P Γ o).reset) t).trans (dT c _ _ _ (q true rfl)),D⟩
       ·subst N;exact⟨(R6 (st:=(st.cP P Γ o).reset) t).trans (dT c _ _ _ (q false rfl)),D⟩
      ·rename_i A;exact f aN
def dS(L:Nat→Bool)(l:List Qw)(s:Nat)(v:bg):bg:=l.foldl (λv p=>if L p.i then p.f s v else v) v
def Rv(L:Nat→Bool)(l:List Qw)(id:Nat)(v:Option yP):Option yP:=l.foldl (λv p=>if L p.i then p.h id v else v) v
def Qw.tF(p:Qw)(s:Nat):Prop:=p.o.dst=some s
def Qw.tH(p:Qw)(id:Nat):Prop:=id∈p.e.ow.map (·.1)∨∃off a,p.e.cw=some (id,off,a)
theorem Qw.I1{p:Qw}{s:Nat}(h:¬p.tF s)(v:bg):p.f s v=v:=by unfold Qw.f Qw.tF at*;rw[if_neg h]
theorem nau{ow:List (Nat×Option yP)}{id:Nat}(h:id ∉ ow.map (·.1)):fO ow id=none:=by
 induction ow with
 | nil=>rfl
 | cons x l a=>
  obtain⟨i,b⟩:=x;simp only[L2,J2,not_or] at h;simp only[fO];rw[if_neg h.1];exact a h.2
theorem Qw.I7{p:Qw}{id:Nat}(h:¬p.tH id)(v:Option yP):p.h id v=v:=by
 unfold Qw.tH at h;simp only[not_or] at h;unfold Qw.h;rw[nau h.1];simp only;unfold AL;split
 ·rename_i i off b c;by_cases a:id=i
  ·subst a;exact absurd ⟨off,b,c⟩ h.2
  ·rw[if_neg a]
 ·rfl
theorem D6{α:Type}(step:Qw→α→α){L:Nat→Bool} :∀(l:List Qw) (v:α),(∀q∈l,L q.i=false)→l.foldl (λv q=>if L q.i then step q v else v) v=v
 | [],v,_=>rfl
 | z::l,v,h=>by simp only[Lc,h z (Lb ..),Bool.false_eq_true,if_false];exact D6 step l v (λq a=>h q (Kw _ a))
section I4
variable {α:Type} (step:Qw→α→α) (T:Qw→Prop)
theorem fold_congr(a:∀p v,¬T p→step p v=v){L L':Nat→Bool} :∀(l:List Qw) (v:α),(∀p∈l,T p→L p.i=L' p.i)→
  l.foldl (λv p=>if L p.i then step p v else v) v=l.foldl (λv p=>if L' p.i then step p v else v) v
 | [],v,_=>rfl
 | p::l,v,h=>by
  simp only[Lc];have:(if L p.i then step p v else v)=if L' p.i then step p v else v:=by
   by_cases b:T p
   ·rw[h p (Lb ..) b]
   ·rw[a p v b];simp
  rw[this];exact fold_congr a l _ (λq c=>h q (Kw _ c))
theorem Sp(d:∀p v,¬T p→step p v=v){L:Nat→Bool}{q:Qw} :∀(l:List Qw) (v:α),q∈l→(l.map (·.i)).Nodup→L q.i=false→l.Pairwise (λa b=>a.i<b.i)→(∀p∈l,q.i<p.i→T q→T p→L p.i=false)→
  l.foldl (λv p=>if (L p.i || p.i==q.i) then step p v else v) v=step q (l.foldl (λv p=>if L p.i then step p v else v) v)
 | [],v,hq,_,_,_,_=>by simp at hq
 | p::l,v,hq,hn,hL,hp,Cq=>by
  simp only[Lc];simp only[L2,List.nodup_cons] at hn;rw[List.pairwise_cons] at hp;rcases J2.1 hq with rfl | h
  ·simp only[hL,beq_self_eq_true,Bool.or_true,if_true,Bool.false_eq_true,if_false];have m:l.foldl (λv p=>if (L p.i || p.i==q.i) then step p v else v) (step q v)=l.foldl (λv p=>if L p.i then step p v else v) (step q v):=by refine fold_congr step T d (L:=λk=>L k || k==q.i) (L':=L) l _ (λr c _=>?_);have:r.i≠q.i:=λe=>hn.1 (e ▸ MC c);simp[this]
   rw[m];by_cases f:T q
   ·have j:∀u,l.foldl (λv p=>if L p.i then step p v else v) u=u:=by intro u;have:=fold_congr step T d (L:=L) (L':=λ_=>false) l u (λr c g=>Cq r (Kw _ c) (hp.1 r c) f g);rw[this];exact D6 step (L:=λ_=>false) l u (λ_ _=>rfl)
    rw[j,j]
   ·rw[d q v f,d q _ f]
  ·have n:p.i≠q.i:=λe=>hn.1 (e ▸ MC h);have:(if (L p.i || p.i==q.i) then step p v else v)=if L p.i then step p v else v:=by simp[n]
   rw[this];exact Sp d l _ h hn.2 hL hp.2 (λr c=>Cq r (Kw _ c))
end I4
theorem XF:∀ {a:List Oper} {i:Nat} {st:CO} {l:List Qw} {fin:CO},Path P Γ ops gs a i st l fin→l.map (·.i)=List.range' i a.length∧l.map (·.o)=a∧(∀p∈l,p.log.i=p.i∧p.log.d=p.o.dst):=by
 intro a i st l fin h
 induction h with
 | nil=>exact⟨rfl,rfl,by simp⟩
 | skip o a i st l fin hw aN h ih=>
  refine⟨by simp[ih.1,MH],by simp[ih.2.1],λp b=>?_⟩;rcases J2.1 b with rfl | b
  ·exact⟨rfl,rfl⟩
  ·exact ih.2.2 p b
 | op o a i st l fin e hw aN he c h ih=>
  refine⟨by simp[ih.1,MH],by simp[ih.2.1],λp b=>?_⟩;rcases J2.1 b with rfl | b
  ·obtain⟨s,r,c⟩:=c;simp[SC,c]
  ·exact ih.2.2 p b
 | KA o a i st l fin e s g hw aN he c hd hg h ih=>
  refine⟨by simp[ih.1,MH],by simp[ih.2.1],λp b=>?_⟩;rcases J2.1 b with rfl | b
  ·obtain⟨s,r,c⟩:=c;simp[SC,c]
  ·exact ih.2.2 p b
def Ub(st:CO)(l:List Qw)(fin:CO):Prop:=(∀p∈l,(∀s,p.st.get s=dS (λk=>decide (k<p.i)) l s (st.get s))∧(∀id,p.st.obj id=Rv (λk=>decide (k<p.i)) l id (st.obj id))∧p.st.n=st.n)∧ (∀s,fin.get s=dS (λ_=>true) l s (st.get s))∧(∀id,fin.obj id=Rv (λ_=>true) l id (st.obj id))∧fin.n=st.n
theorem oX(c:Qw){st e:CO}{x:List Oper}{b:List Qw}{j:CO}{i:Nat}(D:c.i=i)(l:c.st=st)(o:∀s,e.get s=c.f s (st.get s))(r:∀id,e.obj id=c.h id (st.obj id))(t:e.n=st.n)
  (y:Path P Γ ops gs x (i+1) e b j) (g:Ub e b j):Ub st (c::b) j:=by
 have z:=(XF y).1;have u:∀p∈b,i+1≤p.i:=by intro p d;have:p.i∈b.map (·.i):=MC d;rw[z] at this;exact (List.mem_range'_1.1 this).1
 refine⟨λp d=>?_,λs=>?_,λid=>?_,g.2.2.2.trans t⟩
 ·rcases J2.1 d with rfl | d
  ·have a:∀q∈p::b,decide (q.i<p.i)=false:=by
    intro q m;rcases J2.1 m with rfl | m
    ·simp
    ·have:=u q m;simp;omega
   refine⟨λs=>?_,λid=>?_,by rw[l]⟩
   ·have:=D6 (λq v=>Qw.f q s v) (L:=λk=>decide (k<p.i)) (p::b) (st.get s) a;rw[l];exact this.symm
   ·have:=D6 (λq v=>Qw.h q id v) (L:=λk=>decide (k<p.i)) (p::b) (st.obj id) a;rw[l];exact this.symm
  ·have E:=u p d;have w:decide (c.i<p.i)=true:=by simp;omega
   obtain⟨A,B,C⟩:=g.1 p d;refine⟨λs=>?_,λid=>?_,C.trans t⟩
   ·rw[A s,o s];unfold dS;simp only[Lc,w,if_true]
   ·rw[B id,r id];unfold Rv;simp only[Lc,w,if_true]
 ·rw[g.2.1 s,o s];unfold dS;simp only[Lc,if_true]
 ·rw[g.2.2.1 id,r id];unfold Rv;simp only[Lc,if_true]
theorem npB{st:CO}{o:Oper}{e:R_}{s:Nat}{g:Bool}(b:o.dst=some s)(p:Qw)(c:p.o=o)(d:p.e= {e with sv:= .kb g})(k:Nat):(((st.apply o.dst e).reset).gr s g).get k=p.f k (st.get k):=by
 rw[bt];have i:(st.apply o.dst e).reset.get=(st.apply o.dst e).get:=rfl;rw[i,b,apply_get];unfold Qw.f;rw[c,b,d];simp only[PB,VR];by_cases a:k=s
 ·simp[a]
 ·rw[if_neg a,if_neg a,if_neg (λh:s=k=>a h.symm)]
theorem nti{st:CO}{o:Oper}{e:R_}{s:Nat}{g:Bool}(p:Qw)(c:p.o=o)(a:p.e= {e with sv:= .kb g})(id:Nat):(((st.apply o.dst e).reset).gr s g).obj id=p.h id (st.obj id):=by
 have b:(((st.apply o.dst e).reset).gr s g).obj id=(st.apply p.o.dst p.e).obj id:=by rw[VZ,a];show (st.apply o.dst e).obj id=_;rw[VZ]
 rw[b];exact kU st p id
theorem ndx{a:List Oper}{i:Nat}{st:CO}{l:List Qw}{fin:CO}(h:Path P Γ ops gs a i st l fin):Ub st l fin:=by
 induction h with
 | nil=>exact⟨by simp,λ_=>rfl,λ_=>rfl,rfl⟩
 | skip o a i st l fin hw aN h ih=>
  exact oX ⟨i,o,false,st, {sv:= .undef},w4 ops i o⟩ rfl rfl (λs=>ZJ st ⟨i,o,false,st, {sv:= .undef},w4 ops i o⟩ s) (λid=>kU st ⟨i,o,false,st, {sv:= .undef},w4 ops i o⟩ id) rfl h ih
 | op o a i st l fin e hw aN he hr h ih=>
  refine oX ⟨i,o,true,st,e,SC P Γ ops i st o⟩ rfl rfl (λs=>?_) (λid=>?_) ?_ h ih
  ·rw[he];exact ZJ st ⟨i,o,true,st,e,SC P Γ ops i st o⟩ s
  ·rw[he];exact kU st ⟨i,o,true,st,e,SC P Γ ops i st o⟩ id
  ·rw[he];rfl
 | KA o a i st l fin e s g hw aN he hr hd hg h ih=>
  refine oX ⟨i,o,true,st, {e with sv:= .kb g},SC P Γ ops i st o⟩ rfl rfl (λs=>?_) (λid=>?_) ?_ h ih
  ·rw[he];exact npB hd ⟨i,o,true,st, {e with sv:= .kb g},SC P Γ ops i st o⟩ rfl rfl s
  ·rw[he];exact nti ⟨i,o,true,st, {e with sv:= .kb g},SC P Γ ops i st o⟩ rfl rfl id
  ·rw[he];rfl
def kT(P:aaJ)(Γ:Ctx)(ops:Array Oper)(p:Qw):Prop:=(PS ops p.st p.o=some false∧p.e= {sv:= .undef} ∧(p.st.skip p.o.dst).ok=true∧p.log=w4 ops p.i p.o)∨ (PS ops p.st p.o=some true∧∃e s r,(evalOp P Γ p.o).run p.st.get p.st.obj=some (e,s,r)∧(p.st.apply p.o.dst e).ok=true∧p.log=SC P Γ ops p.i p.st p.o∧ (p.e=e∨∃d g,p.o.dst=some d∧e.sv= .bool g∧p.e= {e with sv:= .kb g}))
theorem nlv{a:List Oper}{i:Nat}{st:CO}{l:List Qw}{fin:CO}(h:Path P Γ ops gs a i st l fin):∀p∈l,kT P Γ ops p:=by
 induction h with
 | nil=>simp
 | skip o a i st l fin hw aN h ih=>
  intro p b;rcases J2.1 b with rfl | b
  ·exact .inl ⟨hw,rfl,aN,rfl⟩
  ·exact ih p b
 | op o a i st l fin e hw aN he c h ih=>
  intro p b;rcases J2.1 b with rfl | b
  ·obtain⟨s,r,c⟩:=c;exact .inr ⟨hw,e,s,r,c,by rw[←he];exact aN,rfl,.inl rfl⟩
  ·exact ih p b
 | KA o a i st l fin e s g hw aN he c hd hg h ih=>
  intro p b;rcases J2.1 b with rfl | b
  ·obtain⟨d,r,c⟩:=c;exact .inr ⟨hw,e,d,r,c,by rw[←he];exact aN,rfl,.inr ⟨s,g,hd,hg,rfl⟩⟩
  ·exact ih p b
end
end Go.Proofs.YteffpikahopfoaaGreat.Vm
