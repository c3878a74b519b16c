/- Conditions: as each says. -/
import Derived.Test.YteffpikahopfoaaGreatVa
import Derived.Laws.Tables
import Derived.Great.BuildSlice
import Derived.Laws.CopyRow
open List renaming mem_append→C5,flatMap_cons→Dn,mem_cons→Dz,map_cons→DD,nodup_append→DE,replicate→DJ,mem_cons_of_mem→DO,mem_singleton→Ea,cons_append→Ey,mem_cons_self→EB,tail_cons→EC,mem_flatMap→EL,headD_cons→EM,map_append→EZ,getElem?_append_left→E1,getElem?_eq_some_iff→E8,range'→Fm,getElem?_append_right→Fz,append_assoc→FB,getElem?_eq_none→FF,flatten_cons→FX,flatten_append→F0,append_nil→Gl,mem_map→GJ,mem_map_of_mem→G0,flatMap_append→G5,getElem?_drop→Hs,getElem?_take→Hu,mem_of_mem_take→Hv,mem_of_mem_drop→Hw,length_drop→HB,length_take→HD,ext_getElem?→HU,nil_append→HY,take_append_drop→HZ,getElem?_eq_getElem→H5,map_map→H_,range'_succ→Is,range'_append_1→Iu,append_eq_nil_iff→Iv,drop_append_of_le_length→Ix,replicate_succ→IN,take_append_of_le_length→IP,take_of_length_le→IS,getElem?_set_self→IT,flatten_eq_nil_iff→IU,getElem_of_mem→IW,mem_range'_1→I7,nodup_range'→Jf,length_eq_zero_iff→Jk
open Nat renaming beq→ED,succ_mul→EE,le_refl→EV,add_zero→FH,mul_le_mul_right→FI,zero_add→FV,zero_le→Gv,add_assoc→Gy,lt_or_ge→GB,eq_zero_or_pos→Hk,ne_of_beq_eq_false→Hx,le_of_ble_eq_true→HN,mod_lt→HX
open Go.Value renaming ownBlock→ES,int→FJ
open Go.World renaming freeze→FC
open Bool renaming not_eq_true'→FM,false_or→GR,false_eq_true→IY
open Int renaming toNat_of_nonneg→FP
open Array renaming length_toList→GG,toArray_toList→H3,toList_inj→IB,getElem?_push→IF,getElem?_modify→IX,toList_map→I1
open Option renaming isSome_iff_exists→G2
open Go renaming World→aaj,Program→aak,Value→aal,Operand→aam,TypeId→aan
namespace Go.Proofs.YteffpikahopfoaaGreat.Vm
theorem ngx{w:aaj}{e:List CT}{r:List (List DC)}{q:Option Addr}{n c:Nat}{t:List Nat}(h:Z8 w (.sl e) (.sl r) (.slice q n c) t){l m:Nat}(J:l≤m)(K:m≤r.length):
  ∃u,Z8 w (.sl e) (.sl ((r.take m).drop l)) (.slice (if c=l then q else q.map (·.add (l*e.length))) (m - l) (c - l)) u∧∀b∈u,b∈t:=by
 obtain⟨q',L,M,y,N,O,P,z⟩:=t9 h;injection y with A B C;subst A B C;have a:((r.take m).drop l).length=m - l:=by simp;omega
 rcases Hk (m - l) with p | p
 ·exact⟨[],qv a (by omega) (by omega) (.inl ⟨p,rfl⟩),by simp⟩
 ·rcases z with ⟨D,_⟩ | ⟨_,b,o,s,rfl,E,Q,rfl,F⟩
  ·omega
  ·rw[if_neg (by omega)];refine⟨b::((s.take m).drop l).flatten,qv a (by omega) (by omega) (.inr ⟨p,b,o+l*e.length,(s.take m).drop l, ?_,E,by simp;omega,rfl,λi v f k d=>?_⟩), ?_⟩
   ·simp[ZB]
   ·have G:r[l+i]? =some v:=by
     rw[Hs,Hu] at k;split at k
     ·exact k
     ·cases k
    have H:s[l+i]? =some f:=by
     rw[Hs,Hu] at d;split at d
     ·exact d
     ·cases d
    have:=F (l+i) v f G H;have I:∀j,o+((l+i)*e.length+j)=o+l*e.length+(i*e.length+j):=by intro j;rw[Nat.add_mul];omega
    simpa only[I] using this
   ·intro x g;rcases Dz.1 g with rfl | g
    ·simp
    ·obtain⟨f,d,g⟩:=List.mem_flatten.1 g;exact DO _ (List.mem_flatten.2 ⟨f,Hv (Hw d),g⟩)
variable {P:aak} {Γ:Ctx} {w0:aaj} {S:Own} {st:E} {o:Oper} {e:Nf} {a:Act} {w:aaj}
theorem V.freeze{f:Nat→X}{h:Nat→Option xC}{β:L}{φ:Nat→List Nat}{tm:Array aal}(g:V w0 S f h β φ tm w){id:Nat}{o:xC}{ct:List CT}{r:List (List DC)}{u:Bool}
  (m:h id=some o) (x:N5 o ct r u):V w0 S f (L9 h id (some (.eV ct r))) β (L9 φ id []) tm w:=by
 have p:∀b,oa (L9 h id (some (.eV ct r))) β b→oa h β b:=by
  rintro b (⟨i,q,a,c⟩ | c)
  case inr=>exact .inr c
  by_cases d:i=id
  ·subst d;simp only[L9,if_true,Y] at a;subst a;simp[ar] at c
  ·simp only[L9,d,if_false] at a;exact .inl ⟨i,q,a,c⟩
 have n:=g.aC id _ m;refine g.step (λ_=>False) (EV _) (λ_ _ _=>rfl) (λb c=> .inl (p b c)) (λ_ _ _ h=>h) (λ_ _=>⟨rfl,rfl⟩) ?_ ?_
 ·intro i q a;by_cases d:i=id
  ·subst d;simp only[L9,if_true,Y] at a;subst a;refine .inr ⟨⟨?_,by simp[L9]⟩,by simp[L9],by simp[L9]⟩;obtain⟨y,z,A,_⟩:=nwI n x;simp only[O];refine⟨y,z,λb c k=>?_⟩;rcases A b c with s | B
   ·rcases k with ⟨j,E,e,t⟩ | k
    case inr=>exact g.B0 m (al n b s) k
    have l:j≠i:=by
     rintro rfl
     simp only[L9,if_true,Y] at e;subst e;simp[ar] at t
    simp only[L9,l,if_false] at e;exact g.sep i j _ _ (Ne.symm l) m e b (al n b s) (al (g.aC j _ e) b t)
   ·exact B (p b k)
  ·simp only[L9,d,if_false] at a;exact .inl ⟨λh=>h,a,by simp[L9,d],λ_ _ h=>h,λ_ _=>rfl⟩
 ·intro i j C D l a e b c;by_cases d:i=id
  ·subst d;simp[L9] at c
  ·by_cases v:j=id
   ·subst v;simp[L9]
   ·simp only[L9,d,v,if_false] at a e c ⊢;exact g.sep i j C D l a e b c
def A8(h:Nat→Option xC)(m:yF):Prop:=∀x∈m,∃o,h x.1=some o∧N5 o x.2.1 x.2.2.1 x.2.2.2
def SD(h:Nat→Option xC)(β:L)(i:Nat):List Nat:=
 match h i with
 | some o=>ar β i o
 | none=>[]
theorem Tn{h:Nat→Option xC}{β:L}{i:Nat}{o:xC}(a:h i=some o):SD h β i=ar β i o:=by simp only[SD,a]
def Wj(φ:Nat→List Nat):yF→Nat→List Nat
 | []=>φ
 | x::l=>L9 (Wj φ l) x.1 []
theorem zq{id:Nat}{m:yF}(h:V8 id m=true):∀x∈m,x.1≠id:=by
 induction m with
 | nil=>simp
 | cons y l b=>
  obtain⟨i,q⟩:=y;simp only[V8,Bl,FM] at h;intro x a;rcases Dz.1 a with rfl | a
  ·exact Hx h.1
  ·exact b h.2 x a
theorem Yv{h:Nat→Option xC}{m:yF}{id:Nat}(a:∀x∈m,x.1≠id):ji (Gj m) h id=h id:=by
 induction m with
 | nil=>rfl
 | cons y l b=>
  obtain⟨i,d,r,u⟩:=y;simp only[Gj,ji,L9];rw[if_neg (λe=>a _ (EB ..) e.symm)];exact b (λx c=>a x (DO _ c))
theorem WR{φ:Nat→List Nat}{m:yF}{id:Nat}(a:∀x∈m,x.1≠id):Wj φ m id=φ id:=by
 induction m with
 | nil=>rfl
 | cons y l b=>
  simp only[Wj,L9];rw[if_neg (λe=>a _ (EB ..) e.symm)];exact b (λx c=>a x (DO _ c))
theorem V.gr{f:Nat→X}{h:Nat→Option xC}{β:L}{φ:Nat→List Nat}{tm:Array aal}(a:V w0 S f h β φ tm w):∀(m:yF),A8 h m→Eg m=true→
  V w0 S f (ji (Gj m) h) β (Wj φ m) tm w
 | [],_,_=>a
 | (id,e',r,u)::l,hm,hn=>by simp only[Eg,Bl] at hn;have b:=V.gr a l (λx c=>hm x (DO _ c)) hn.2;obtain⟨o,d,e⟩:=hm _ (EB ..);have g:=zq hn.1;exact b.freeze (id:=id) (ct:=e') (r:=r) (u:=u) (by rw[Yv g];exact d) e
theorem xg(s:List UInt8)(l m:Nat):(⟨s.toArray⟩:ByteArray).extract l m=⟨((s.take m).drop l).toArray⟩:=by apply ByteArray.ext;apply IB.1;rw[Lib.extract_data];simp[List.drop_take]
theorem cy{n:Nat}{b d:Option X}{l m:Nat}{c:Bool}(h:Sm n b d=some (l,m,c))(a:c=true):
  l≤m∧m≤n∧((b=none∧l=0)∨∃k,b=some (.int k l))∧((d=none∧m=n)∨∃k,d=some (.int k m)):=by
 unfold Sm at h;split at h
 ·simp only[Y,Prod.mk.injEq] at h;obtain⟨rfl,rfl,_⟩:=h;exact⟨Gv _,EV _,.inl ⟨rfl,rfl⟩,.inl ⟨rfl,rfl⟩⟩
 ·rename_i k z;simp only[Y,Prod.mk.injEq] at h;obtain⟨rfl,rfl,rfl⟩:=h;simp only[Bl,js] at a;exact⟨by omega,EV _,.inr ⟨k,by rw[FP a.1]⟩,.inl ⟨rfl,rfl⟩⟩
 ·rename_i k z;simp only[Y,Prod.mk.injEq] at h;obtain⟨rfl,rfl,rfl⟩:=h;simp only[Bl,js] at a;exact⟨Gv _,by omega,.inl ⟨rfl,rfl⟩,.inr ⟨k,by rw[FP a.1]⟩⟩
 ·rename_i k z e f;simp only[Y,Prod.mk.injEq] at h;obtain⟨rfl,rfl,rfl⟩:=h;simp only[Bl,js] at a;exact⟨by omega,by omega,.inr ⟨k,by rw[FP a.1.1]⟩,.inr ⟨e,by rw[FP (by omega)]⟩⟩
 ·cases h
theorem RE{f:Nat→X}{h:Nat→Option xC}{x:Option aam}{s:X}(e:(tE x).val f h=some (some s)):∃y,x=some y∧(zQ y).val f h=some s:=by
 cases x with
 | none=>simp[tE] at e
 | some y=>
  simp only[tE,M.ag,UI,M.ab,Y] at e;obtain⟨b,a,rfl⟩:=e;exact⟨y,rfl,a⟩
theorem Cp{f:Nat→X}{h:Nat→Option xC}{x:Option aam}(e:(tE x).val f h=some none):x=none:=by
 cases x with
 | none=>rfl
 | some y=>simp[tE,UI] at e
theorem ru{x:Nat}{k:IntKind}{y:Nat}{a:BoundsCode}(h:x≤y):(Instr.sliceBound (.int k x) y a).run P w= .ok x w:=by simp[Instr.sliceBound,asIntOf,h]
theorem hsI{i j:Option aam}{o p:Option X}{n cap l m:Nat}{c isS:Bool}{β:L}{φ:Nat→List Nat}(v:n≤cap)(d:V w0 S st.get st.obj β φ a.tmps w)
  (e:(tE i).val st.get st.obj=some o) (f:(tE j).val st.get st.obj=some p) (h:Sm n o p=some (l,m,c)) (s:c=true):
  (Instr.sliceBounds isS n cap (i.map a.eval) (j.map a.eval) none).run P w= .ok (l,m,cap) w:=by
 obtain⟨q,x,t,u⟩:=cy h s;rcases t with ⟨rfl,rfl⟩ | ⟨k,rfl⟩<;>rcases u with ⟨rfl,rfl⟩ | ⟨r,rfl⟩
 ·simp[Cp e,Cp f,Instr.sliceBounds]
 ·obtain⟨y,rfl,b⟩:=RE f;have b:=d.ev b;simp only[O] at b;simp[Cp e,Instr.sliceBounds,b.1,ru (P:=P) (w:=w) (k:=r) (by omega:m≤cap)]
 ·obtain⟨y,rfl,b⟩:=RE e;have b:=d.ev b;simp only[O] at b;simp[Cp f,Instr.sliceBounds,b.1,ru (P:=P) (w:=w) (k:=k) q]
 ·obtain⟨y,rfl,b⟩:=RE e;have b:=d.ev b;obtain⟨z,rfl,g⟩:=RE f;have g:=d.ev g;simp only[O] at b g;simp[Instr.sliceBounds,b.1,g.1,ru (P:=P) (w:=w) (k:=k) q,ru (P:=P) (w:=w) (k:=r) (by omega:m≤cap)]
theorem ngb(C:Rel w0 S st a w)(Q:∀d,o.dst=some d→sP st.n d){t:aan}{x:aam}{W y:Option aam}(ahK:o.op= .slice t x W y none){aie:X}{T U:Option X}
  (agp:(zQ x).val st.get st.obj=some aie) (Z:(tE W).val st.get st.obj=some T) (h3:(tE y).val st.get st.obj=some U)
  (f:(AW P t aie T U).val st.get st.obj=some e) (g:e.ok=true):R P w0 S st o e a w:=by
 unfold AW at f;split at f
 ·rename_i agP;split at f
  ·rename_i s;split at f
   ·rename_i l m c k;simp only[M.ab,Y] at f;subst f;have g:c=true:=g;refine zt C Q rfl rfl λβ φ h=>?_;have j:=h.ev agp;simp only[O] at j;have z:=hsI (P:=P) (isS:=false) (EV _) h Z h3 k g;refine⟨.string ⟨((s.take m).drop l).toArray⟩, ?_, ?_⟩
    ·simp[execOp,ahK,j.1,Instr.sliceAt,Instr.slice,run_underlying agP,Ch,z,xg]
    ·unfold O;refine⟨rfl, ?_⟩;simp only[HB,HD];omega
   ·simp at f
  ·simp at f
 ·rename_i E agP;have run:∀(q:Option Addr) (n cap l m:Nat) (c:Bool) (i:TypeInfo) (β:L) (φ:Nat→List Nat),V w0 S st.get st.obj β φ a.tmps w→n≤cap→P.info? E=some i→Sm n T U=some (l,m,c)→c=true→
    a.eval x= .slice q n cap→(execOp a.eval o).run P w= .ok (.value (.slice (if cap=l then q else q.map (·.add (l*i.size))) (m - l) (cap - l))) w:=by
   intro q n cap l m c i β φ h B y k BL j;have z:=hsI (P:=P) (isS:=true) B h Z h3 k BL;simp[execOp,ahK,j,Instr.sliceAt,Instr.slice,run_underlying agP,z,sizeOf,typeInfo,y]
  split at f
  ·rename_i D r;cases p:Fe P E D.length
   ·simp[p] at f
   simp only[p,H] at f;obtain⟨i,y,F⟩:=TL p;split at f
   ·rename_i l m c k;simp only[M.ab,Y] at f;subst f;have g:c=true:=g;refine zt C Q rfl rfl λβ φ h=>?_;have j:=h.ev agp;simp only[O] at j;obtain⟨fp,v,G⟩:=j;obtain⟨q,n,cap,A,adT,B,_,_⟩:=t9 v;obtain⟨I,J,_⟩:=cy k g;rw[A] at v;obtain⟨K,ae_,N⟩:=ngx v I J;refine⟨_,run q n cap l m c i β φ h B y (by rw[←adT];exact k) g A, ?_⟩;simp only[O];rw[F];exact⟨K,ae_,λb z=>G b (N b z)⟩
   ·simp at f
  ·rename_i id;simp only[M.aY,UI] at f;obtain⟨ob,aQ,f⟩:=f;split at f
   ·rename_i t' D r u;cases p:ED t' E && Fe P E D.length
    ·simp[p] at f
    simp only[p,H] at f;simp only[Bl] at p;obtain⟨i,y,F⟩:=TL p.2;split at f
    ·rename_i l m c k;simp only[M.ab,Y] at f;subst f;have g:c=true:=g;obtain⟨β,φ,h⟩:=C.core;have j:=h.ev agp;simp only[O] at j;have Mf:=h.freeze aQ (.inl ⟨_,_,rfl⟩);have aft:=(Mf.aC id (.eV D r) (by simp[L9])).1;simp only[O] at aft;obtain⟨fp,v,G⟩:=aft;obtain⟨q,n,cap,A,adT,B,_,_⟩:=t9 v;obtain⟨I,J,_⟩:=cy k g;rw[A] at v;obtain⟨K,ae_,N⟩:=ngx v I J;refine HI C Q (run q n cap l m c i β φ h B y (by rw[←adT];exact k) g (j.1.trans A)) C.kept ⟨β,_,Mf, ?_⟩;simp only[O];rw[F];exact⟨K,ae_,λb z=>G b (N b z)⟩
    ·simp at f
   ·rename_i D r;cases p:Fe P E D.length
    ·simp[p] at f
    simp only[p,H] at f;obtain⟨i,y,F⟩:=TL p;split at f
    ·rename_i l m c k;simp only[M.ab,Y] at f;subst f;have g:c=true:=g;refine zt C Q rfl rfl λβ φ h=>?_;have j:=h.ev agp;simp only[O] at j;have aft:=(h.aC id _ aQ).1;simp only[O] at aft;obtain⟨fp,v,G⟩:=aft;obtain⟨q,n,cap,A,adT,B,_,_⟩:=t9 v;obtain⟨I,J,_⟩:=cy k g;rw[A] at v;obtain⟨K,ae_,N⟩:=ngx v I J;refine⟨_,run q n cap l m c i β φ h B y (by rw[←adT];exact k) g (j.1.trans A), ?_⟩;simp only[O];rw[F];exact⟨K,ae_,λb z=>G b (N b z)⟩
    ·simp at f
   ·simp at f
  ·simp at f
 ·simp at f
theorem ntR(off:Nat):∀(b:List aal) (k:Nat) (a:Array aal),off+k+b.length≤a.size→
  ((b.zipIdx k).foldl (λa (x:aal×Nat)=>a.setIfInBounds (off+x.2) x.1) a).toList=a.toList.take (off+k)++(b++a.toList.drop (off+k+b.length))
 | [],k,a,h=>by simp
 | v::b,k,a,h=>by
  simp only[List.zipIdx_cons,List.foldl_cons];simp only[I_] at h;rw[ntR off b (k+1) _ (by simp;omega)];have c:(a.setIfInBounds (off+k) v).toList=a.toList.set (off+k) v:=by simp
  have d:off+k<a.toList.length:=by simp;omega
  rw[c];have e:(a.toList.set (off+k) v).take (off+(k+1))=a.toList.take (off+k)++[v]:=by rw[←Gy,List.take_succ_eq_append_getElem (by simpa using d),List.take_set_of_le (EV _)];simp
  have f:(a.toList.set (off+k) v).drop (off+(k+1)+b.length)=a.toList.drop (off+k+(b.length+1)):=by
   rw[List.drop_set_of_lt (by omega)]
   congr 1
   omega
  rw[e,f];simp
theorem Wh{place:Nat→Option (Nat×Nat)}{a:Array aal}{i off:Nat}{v:aal}{b:List (Nat×aal)}(c:place i=some (off,v.cells.size))(d:off+v.cells.size≤a.size):
  Instr.fill place a ((i,v)::b)=Instr.fill place (a.toList.take off++(v.cells.toList++a.toList.drop (off+v.cells.size))).toArray b:=by
 have e:(v.cells.zipIdx.foldl (λf (x:aal×Nat)=>f.setIfInBounds (off+x.2) x.1) a)=(a.toList.take off++(v.cells.toList++a.toList.drop (off+v.cells.size))).toArray:=by apply IB.1;rw[←Array.foldl_toList,Array.toList_zipIdx];have:=ntR off v.cells.toList 0 a (by simpa using d);simpa using this
 simp only[Instr.fill,c];rw[if_neg (by simp;omega)];exact congrArg (λx=>Instr.fill place x b) e
theorem ZW{m:Nat→Prop}{β:L}{f:Nat→X}{h:Nat→Option xC}{s:X}{v:aal}{j:List X}(d:O w m β s v)(c:(E9 s).val f h=some j):
  Z w m β j v.cells.toList∧∀x∈v.cells.toList,x.oneCell'=true:=by
 have a:v.oneCell'=true→j=[s]→Z w m β j v.cells.toList∧∀x∈v.cells.toList,x.oneCell'=true:=by
  intro q t;have u:v.cells= #[v]:=by cases v<;>first | rfl | (simp[Value.oneCell'] at q)
  rw[u,t];simp only[Ea,forall_eq,Z];exact⟨⟨v,[],rfl,d,rfl⟩,q⟩
 cases s with
 | ga=>simp[E9] at c
 | undef=>simp[E9] at c
 | Es l=>simp[E9] at c
 | GL g l=>simp[E9] at c
 | GH id lo z=>simp[E9] at c
 | agg l=>
  simp only[E9,M.ab,Y] at c;subst c;simp only[O] at d;obtain⟨D,rfl,y,A⟩:=d;simpa [Value.cells] using ⟨y,A⟩
 | kb b=>simp only[E9,M.ab,Y] at c;exact a (by simp only[O] at d;subst d;rfl) c.symm
 | int k n=>simp only[E9,M.ab,Y] at c;exact a (by simp only[O] at d;rw[d.1];rfl) c.symm
 | bool b=>simp only[E9,M.ab,Y] at c;exact a (by simp only[O] at d;subst d;rfl) c.symm
 | str b=>simp only[E9,M.ab,Y] at c;exact a (by simp only[O] at d;rw[d.1];rfl) c.symm
 | sl e r=>simp only[E9,M.ab,Y] at c;exact a (by simp only[O] at d;obtain⟨B,C,_⟩:=d;exact C.one) c.symm
 | nil=>simp only[E9,M.ab,Y] at c;exact a (by simp only[O] at d;subst d;rfl) c.symm
 | own id=>simp only[E9,M.ab,Y] at c;exact a (by simp only[O] at d;exact d.2) c.symm
 | ptr id off=>simp only[E9,M.ab,Y] at c;exact a (by simp only[O] at d;subst d;rfl) c.symm
 | iD e r off=>simp only[E9,M.ab,Y] at c;exact a (by simp only[O] at d;obtain⟨b,o,B,p,_⟩:=d;subst p;rfl) c.symm
 | eS id i z off=>simp only[E9,M.ab,Y] at c;exact a (by simp only[O] at d;obtain⟨g,_,p⟩:=d;subst p;rfl) c.symm
theorem Wq{a:Nat→Prop}{β:L} :∀(l:List aal),Z w a β (l.map ofConst) l
 | []=>by simp[Z]
 | v::l=>by simp only[DD,Z];exact⟨v,l,rfl,B6 v,Wq l⟩
theorem nzA{c:Array Field}{a:List (Nat×Nat)}(h:c.toList.mapM (λf=>(P.info? f.type).map λi=>(f.offset,i.size))=some a){i:Nat}{f:Field}(k:c[i]? =some f):
  ∃d,P.info? f.type=some d∧a.toArray[i]? =some (f.offset,d.size):=by
 have b:c.toList[i]? =some f:=by simpa using k
 clear k;generalize c.toList=l at h b
 induction l generalizing a i with
 | nil=>simp at b
 | cons g l m=>
  simp only[List.mapM_cons,Option.bind_eq_bind,Option.pure_def] at h;cases e:P.info? g.type with
  | none=>simp[e] at h
  | some d=>
   cases j:l.mapM (λf=>(P.info? f.type).map λi=>(f.offset,i.size)) with
   | none=>simp[e,j] at h
   | some rest=>
    simp[e,j] at h;subst h;cases i with
    | zero=>
     simp at b;subst b;exact⟨d,e,by simp⟩
    | succ i=>
     obtain⟨n,o,p⟩:=m j (by simpa using b);exact⟨n,o,by simpa using p⟩
theorem ngW{β:L}{φ:Nat→List Nat}(o:V w0 S st.get st.obj β φ a.tmps w){p:Array Field}{c:List (Nat×Nat)}
  (q:p.toList.mapM (λf=>(P.info? f.type).map λi=>(f.offset,i.size))=some c):
  ∀(e:List (Nat×aam)) (b:List X) (j:List X) (g:List aal),(Ol P p e b).val st.get st.obj=some j→Z w (oa st.obj β) β b g→(∀x∈g,x.oneCell'=true)→
  ∃k:List aal,Instr.fill (c.toArray[·]?) g.toArray (e.map λx=>(x.1,a.eval x.2))=some k.toArray∧Z w (oa st.obj β) β j k∧∀x∈k,x.oneCell'=true
 | [],b,j,g,d,hr,h1=>by simp only[Ol,M.ab,Y] at d;subst d;exact⟨g,by simp[Instr.fill],hr,h1⟩
 | (i,x)::rest,b,j,g,d,hr,h1=>by
  simp only[Ol] at d;split at d
  ·rename_i f v;simp only[M.ag,UI] at d;obtain⟨s,z,l,A,d⟩:=d;cases m:Fe P f.type l.length && Nat.ble (f.offset+l.length) b.length
   ·simp[m] at d
   simp only[m,H] at d;simp only[Bl] at m;obtain⟨B,C,D⟩:=nzA q v;obtain⟨E,n,F⟩:=TL m.1;rw[C] at n;injection n with n;subst n;have G:=HN m.2;obtain⟨r,aiM⟩:=ZW (o.ev z) A;have t:=Z.length _ _ hr;have u:=Z.length _ _ r;have I:(a.eval x).cells.size=B.size:=by simpa [F] using u
   have J:f.offset+(a.eval x).cells.size≤g.toArray.size:=by simp;omega
   have K:Z w (oa st.obj β) β (b.take f.offset++(l++b.drop (f.offset+l.length))) (g.take f.offset++((a.eval x).cells.toList++g.drop (f.offset+(a.eval x).cells.size))):=by
    refine Z.append _ _ _ _ (Z.take _ _ _ hr) (Z.append _ _ _ _ r ?_);have:l.length=(a.eval x).cells.size:=by simpa using u.symm
    rw[this];exact Z.drop _ _ _ hr
   obtain⟨k,T,N,O⟩:=ngW o q rest _ j _ d K (by
    intro y h;simp only[C5] at h;rcases h with h | h | h
    ·exact h1 y (Hv h)
    ·exact aiM y h
    ·exact h1 y (Hw h))
   refine⟨k, ?_,N,O⟩;simp only[DD];rw[Wh (off:=f.offset) (by rw[I];exact D) J];simpa using T
  ·simp at d
theorem xz{f:Nat→X}{h:Nat→Option xC}{t:aan}{z:List X}(a:(X8 P t).val f h=some z):
  ∃i b,P.info? t=some i∧i.zero=some b∧z=b.cells.toList.map ofConst∧∀x∈b.cells.toList,x.oneCell'=true:=by
 unfold X8 at a;split at a
 ·rename_i i d;split at a
  ·rename_i b e;cases c:b.cells.toList.all (·.oneCell')
   ·simp[c] at a
   ·simp only[c,H,M.ab,Y] at a;exact⟨i,b,d,e,a.symm,λx g=>List.all_eq_true.1 c x g⟩
  ·simp at a
 ·simp at a
theorem nyh(l:Rel w0 S st a w)(m:∀d,o.dst=some d→sP st.n d){t:aan}{b:Array (Nat×aam)}(p:o.op= .build t b){h:Array Field}{c:List (Nat×Nat)}{z j:List X}
  (q:P.underlying t=some (.struct h)) (k:h.toList.mapM (λf=>(P.info? f.type).map λi=>(f.offset,i.size))=some c)
  (r:(X8 P t).val st.get st.obj=some z) (s:(Ol P h b.toList z).val st.get st.obj=some j) (u:e= {sv:= .agg j}):R P w0 S st o e a w:=by
 subst u;refine zt l m rfl rfl λβ φ v=>?_;obtain⟨i,y,A,B,rfl,C⟩:=xz r;obtain⟨g,D,E,F⟩:=ngW v k b.toList _ j _ s (Wq y.cells.toList) C;refine⟨.agg g.toArray, ?_,by unfold O;exact⟨g,rfl,E,F⟩⟩;have G:P.built t (b.map λx=>(x.1,a.eval x.2)).toList=some g.toArray:=by simp only[Program.built,A,q,B,k];simpa using D
 have:=run_build (P:=P) w t (b.map λx=>(x.1,a.eval x.2)) g.toArray G;simp[execOp,p,this]
def L.kg(β:L)(id b:Nat):L:=⟨L9 β.cY id b,β.val,β.hX,β.nb⟩
def L.gE(β:L)(id:Nat)(v:aal):L:=⟨β.cY,L9 β.val id v,β.hX,β.nb⟩
theorem nuK{i:Nat}{m n:yF} :V8 i (m++n)=(V8 i m && V8 i n):=by
 induction m with
 | nil=>simp[V8]
 | cons x l a=>obtain⟨j,q⟩:=x;simp[V8,a,Bool.and_assoc]
theorem nzW{m n:yF}(h:Eg (m++n)=true):Eg m=true∧Eg n=true∧∀x∈m,∀y∈n,x.1≠y.1:=by
 induction m with
 | nil=>exact⟨rfl,by simpa using h,by simp⟩
 | cons x l c=>
  obtain⟨j,q⟩:=x;simp only[Ey,Eg,nuK,Bl] at h;obtain⟨d,f,g⟩:=c h.2;refine⟨by simp[Eg,h.1.1,d],f,λx a y b=>?_⟩;rcases Dz.1 a with rfl | a
  ·exact λe=>zq h.1.2 y b e.symm
  ·exact g x a y b
variable {f:Nat→X} {h:Nat→Option xC} {β:L} {φ:Nat→List Nat} {tm:Array aal}
theorem Ty{m:yF}{b:Nat}(c:oa (ji (Gj m) h) β b):oa h β b:=by
 induction m generalizing b with
 | nil=>exact c
 | cons x l e=>
  obtain⟨i,g,r,u⟩:=x;rcases c with ⟨j,f,a,d⟩ | c
  case inr=>exact .inr c
  simp only[Gj,ji,L9] at a;split at a
  ·injection a with a;subst a;simp[ar] at d
  ·exact e (.inl ⟨j,f,a,d⟩)
theorem ZZ(k:V w0 S f h β φ tm w){m:yF}(v:A8 h m){x:Nat×List CT×List (List DC)×Bool}(q:x∈m){b:Nat}(n:b∈SD h β x.1):¬oa (ji (Gj m) h) β b:=by
 rintro (⟨j,ob,g,bB⟩ | eU)
 case inr=>
  obtain⟨o,c,_⟩:=v x q;rw[Tn c] at n;exact k.B0 c (al (k.aC _ _ c) b n) eU
 obtain⟨o,c,_⟩:=v x q;rw[Tn c] at n;have a:∀(l:yF) (j:Nat),(∃y∈l,y.1=j)→∃p r,ji (Gj l) h j=some (.eV p r):=by
  intro l
  induction l with
  | nil=>rintro j ⟨y,d,_⟩;simp at d
  | cons z l B=>
   obtain⟨i,p,r,u⟩:=z
   rintro j ⟨y,d,rfl⟩
   simp only[Gj,ji,L9];by_cases s:y.1=i
   ·rw[if_pos s];exact⟨p,r,rfl⟩
   ·rw[if_neg s];rcases Dz.1 d with rfl | d
    ·exact absurd rfl s
    ·exact B y.1 ⟨y,d,rfl⟩
 by_cases t:∃y∈m,y.1=j
 ·obtain⟨p,r,C⟩:=a m j t;rw[C] at g;injection g with g;subst g;simp[ar] at bB
 ·have A:h j=some ob:=by rw[Yv (λy d e=>t ⟨y,d,e⟩)] at g;exact g
  have D:x.1≠j:=λe=>t ⟨x,q,e⟩;exact k.sep x.1 j _ _ D c A b (al (k.aC x.1 _ c) b n) (al (k.aC j _ A) b bB)
theorem km(p:V w0 S f h β φ tm w){C:CT}{s:X}{v:aal}{q:DC×yF×Bool}(i:O w (oa h β) β s v)(a:(zo C s).val f h=some q):
  ∃g,Z8 w C q.1 v g∧A8 h q.2.1∧Eg q.2.1=true∧(∀b∈g,(¬oa h β b)∨∃x∈q.2.1,b∈SD h β x.1)∧
   (q.2.2=true→(∀b∈g,∃x∈q.2.1,b∈φ x.1)∧g.Nodup):=by
 have c:∀(d:DC) (E:Bool) (g:List Nat),q=(d,[],E)→Z8 w C d v g→(∀b∈g,¬oa h β b)→(E=true→g=[])→
   ∃g,Z8 w C q.1 v g∧A8 h q.2.1∧Eg q.2.1=true∧(∀b∈g,(¬oa h β b)∨∃x∈q.2.1,b∈SD h β x.1)∧(q.2.2=true→(∀b∈g,∃x∈q.2.1,b∈φ x.1)∧g.Nodup):=by
  rintro d E g rfl t y J
  refine⟨g,t,by simp[A8],rfl,λb e=> .inl (y b e),λK=>?_⟩;rw[J K];simp
 unfold zo at a;split at a
 ·rename_i k n;split at a
  ·rename_i L;by_cases G:k=L
   ·subst G;simp only[decide_true,H,M.ab,Y] at a;simp only[O] at i;exact c _ _ [] a.symm (by unfold Z8;exact⟨n,rfl,i.1,i.2,rfl⟩) (by simp) (by simp)
   ·simp[G] at a
  ·simp at a
 ·split at a
  ·simp only[M.ab,Y] at a;simp only[O] at i;exact c _ _ [] a.symm (by unfold Z8;exact⟨_,rfl,i,rfl⟩) (by simp) (by simp)
  ·simp at a
 ·split at a
  ·simp only[M.ab,Y] at a;simp only[O] at i;exact c _ _ [] a.symm (by unfold Z8;exact⟨_,rfl,i,rfl⟩) (by simp) (by simp)
  ·simp at a
 ·split at a
  ·simp only[M.ab,Y] at a;simp only[O] at i;exact c _ _ [] a.symm (by unfold Z8;exact⟨_,rfl,i.1,i.2,rfl⟩) (by simp) (by simp)
  ·simp at a
 ·rename_i z r;split at a
  ·rename_i l;cases e:cB z l
   ·simp[e] at a
   ·simp only[e,H,M.ab,Y] at a;have:=uG _ _ e;subst this;simp only[O] at i;obtain⟨g,t,y⟩:=i;exact c _ _ g a.symm t y (by simp)
  ·simp at a
 ·split at a
  ·simp only[M.ab,Y] at a;simp only[O] at i;subst i;exact c _ _ [] a.symm (qv rfl (EV _) (Gv _) (.inl ⟨rfl,rfl⟩)) (by simp) (by simp)
  ·simp at a
 ·rename_i id;split at a
  ·rename_i z;simp only[O] at i;obtain⟨i,_⟩:=i;subst i;simp only[M.aY,UI] at a;obtain⟨T,m,a⟩:=a;split at a
   ·rename_i D l r N u;cases e:cB l z
    ·simp[e] at a
    ·simp only[e,H,M.ab,Y] at a;have:=uG _ _ e;subst this a;obtain⟨g,o,F,A⟩:=dr (p.aC id _ m);refine⟨g,o, ?_,rfl,λb e=>?_,λB=>⟨λb e=>⟨_,Ea.2 rfl,(A B).1 b e⟩,(A B).2 (p.fresh id _ m).1⟩⟩
     ·intro x j;rw[Ea] at j;subst j;exact⟨_,m,.inl ⟨D,N,rfl⟩⟩
     ·rcases F b e with j | j
      ·exact .inr ⟨_,Ea.2 rfl,by rw[Tn m];exact j⟩
      ·exact .inl j
   ·rename_i l r;cases e:cB l z
    ·simp[e] at a
    ·simp only[e,H,M.ab,Y] at a;have:=uG _ _ e;subst this;obtain⟨o,_⟩:=p.aC id _ m;simp only[O] at o;obtain⟨g,t,y⟩:=o;exact c _ _ g a.symm t y (by simp)
   ·rename_i D l Z r;cases e:cB l z
    ·simp[e] at a
    ·simp only[e,H,M.ab,Y] at a;have:=uG _ _ e;subst this a;have I:N5 (.deep D l Z r none) l r true:= .inr ⟨D,Z,rfl,rfl⟩;obtain⟨g,o,F,A⟩:=nwI (p.aC id _ m) I;refine⟨g,o, ?_,rfl,λb e=>?_,λB=>⟨λb e=>⟨_,Ea.2 rfl,(A B).1 b e⟩,(A B).2 (p.fresh id _ m).1⟩⟩
     ·intro x j;rw[Ea] at j;subst j;exact⟨_,m,I⟩
     ·rcases F b e with j | j
      ·exact .inr ⟨_,Ea.2 rfl,by rw[Tn m];exact j⟩
      ·exact .inl j
   ·simp at a
  ·simp at a
 ·simp at a
theorem wz{m n:yF}(b:A8 h m)(c:A8 h n):A8 h (m++n):=λx a=>by
 rcases C5.1 a with a | a
 ·exact b x a
 ·exact c x a
theorem apart(e:V w0 S f h β φ tm w){m n:yF}(g:A8 h m)(i:A8 h n)(j:∀x∈m,∀y∈n,x.1≠y.1){p q:List Nat}
  (k:∀b∈p,∃x∈m,b∈φ x.1) (l:∀b∈q,∃x∈n,b∈φ x.1) (np:p.Nodup) (o:q.Nodup):(p++q).Nodup:=by
 rw[DE];refine⟨np,o,λb r c s t=>?_⟩;subst t;obtain⟨x,a,u⟩:=k b r;obtain⟨y,d,v⟩:=l b s;obtain⟨_,z,_⟩:=g x a;obtain⟨_,A,_⟩:=i y d;exact e.sep x.1 y.1 _ _ (j x a y d) z A b u v
theorem Ok(m:V w0 S f h β φ tm w):∀(bF:List CT) (p:List X) (i:List aal) (q:List DC×yF×Bool),Z w (oa h β) β p i→(cQ bF p).val f h=some q→
  ∃k,bj w bF q.1 (λj=>i[j]?) k∧A8 h q.2.1∧(∀b∈k,(¬oa h β b)∨∃x∈q.2.1,b∈SD h β x.1)∧
   (q.2.2=true→(∀b∈k,∃x∈q.2.1,b∈φ x.1)∧(Eg q.2.1=true→k.Nodup))
 | [],[],i,q,hs,hq=>by simp only[cQ,M.ab,Y] at hq;subst hq;exact⟨[],by simp[bj],by simp[A8],by simp,by simp⟩
 | [],_::_,i,q,hs,hq=>by simp[cQ] at hq
 | _::_,[],i,q,hs,hq=>by simp[cQ] at hq
 | c::cs,s::U,i,q,hs,hq=>by
  simp only[Z] at hs;obtain⟨v,l,rfl,A,B⟩:=hs;simp only[cQ,M.ag,UI,M.ab,Y] at hq;obtain⟨C,D,r,E,rfl⟩:=hq;obtain⟨t,F,u,n1,G,n⟩:=km m A D;obtain⟨y,H,z,I,o⟩:=Ok m cs U l r B E;refine⟨t++y, ?_,wz u z, ?_, ?_⟩
  ·simp only[bj];exact⟨C.1,r.1,v,t,y,rfl,by simp,F,by simpa using H,rfl⟩
  ·intro b a;rcases C5.1 a with a | a
   ·rcases G b a with d | ⟨x,d,e⟩
    ·exact .inl d
    ·exact .inr ⟨x,Ss _ d,e⟩
   ·rcases I b a with d | ⟨x,d,e⟩
    ·exact .inl d
    ·exact .inr ⟨x,wZ _ d,e⟩
  ·intro g;simp only[Bl] at g;refine⟨λb a=>?_,λJ=>?_⟩
   ·rcases C5.1 a with a | a
    ·obtain⟨x,d,e⟩:=(n g.1).1 b a;exact⟨x,Ss _ d,e⟩
    ·obtain⟨x,d,e⟩:=(o g.2).1 b a;exact⟨x,wZ _ d,e⟩
   ·obtain⟨_,K,L⟩:=nzW J;exact apart m u z L (n g.1).1 (o g.2).1 (n g.1).2 ((o g.2).2 K)
theorem V.create(m:V w0 S f h β φ tm w){w':aaj}{c:L}{id:Nat}{n:xC}{p:List Nat}(B:w.heap.size≤w'.heap.size)(s:∀b,b<w.heap.size→w'.heap[b]? =w.heap[b]?)
  (C:∀i,id ∉ zX (f i)) (D:∀j o,h j=some o→id ∉ c4 o) (I:h id=none) (t:∀j,j≠id→c.val j=β.val j∧c.cY j=β.cY j)
  (E:∀b∈ar c id n,w.heap.size≤b) (F:zC w' (oa (L9 h id (some n)) c) c id n p) (q:p.Nodup)
  (r:∀b∈p,((w0.heap.size≤b∨S b)∧b<w'.heap.size)∧∀j o,h j=some o→b ∉ φ j) (u:c.hX=β.hX:=by rfl) (v:∀j,j≠id→c.nb j=β.nb j:=by intro _ _;rfl):V w0 S f (L9 h id (some n)) c (L9 φ id p) tm w':=by
 have G:∀j o,j≠id→ar c j o=ar β j o:=by intro j o a;cases o<;>simp[ar,t j a,v j a]
 refine m.AA (λi=>i=id) B (λb d _=>s b d) ?_ (λi j a e=>C i (e ▸ a)) t ?_ ?_ u
 ·rintro b (⟨j,k,a,bB⟩ | d)
  case inr=>exact .inl (.inr (u ▸ d))
  by_cases g:j=id
  ·subst g;simp only[L9,if_true,Y] at a;subst a;exact .inr (E b bB)
  ·simp only[L9,g,if_false] at a;rw[G j k g] at bB;exact .inl (.inl ⟨j,k,a,bB⟩)
 ·intro j k a;by_cases g:j=id
  ·subst g;simp only[L9,if_true,Y] at a;subst a;exact .inr ⟨by simpa [L9] using F,by simpa [L9] using q,λb d=>(r b (by simpa [L9] using d)).1⟩
  ·simp only[L9,g,if_false] at a;refine .inl ⟨g,a,v j g,by simp[L9,g],λi l e=>D j k a (e ▸ l),λb d=>s b ?_⟩;exact ((m.fresh j k a).2 b (al (m.aC j k a) b d)).2
 ·intro i j x k y l a b d;by_cases z:i=id
  ·subst z;have A:j≠i:=Ne.symm y;simp only[L9,A,if_false] at a;simp only[L9,if_true] at d;simp only[L9,A,if_false];exact (r b d).2 j k a
  ·simp only[L9,z,if_false] at l d;by_cases g:j=id
   ·subst g;simp only[L9,if_true];exact λH=>(r b H).2 i x l d
   ·simp only[L9,g,if_false] at a ⊢;exact m.sep i j x k y l a b d
theorem Z.beside{w':aaj}{a:L}{id:Nat}{i:xC}(l:w.heap.size≤w'.heap.size)(m:∀b,b<w.heap.size→w'.heap[b]? =w.heap[b]?)
  (k:∀j,j≠id→a.val j=β.val j∧a.cY j=β.cY j) (n:∀b∈ar a id i,w.heap.size≤b) {U:List X} {f:List aal} (o:Z w (oa h β) β U f) (p:id ∉ PD U) (q:a.hX=β.hX:=by rfl) (r:∀j,j≠id→a.nb j=β.nb j:=by intro _ _;rfl):
  Z w' (oa (L9 h id (some i)) a) a U f:=by
 refine Z.mono l (λb g _=>m b g) ?_ U f o (λj c=>k j (λe=>p (e ▸ c)))
 rintro b (⟨j,oj,c,bB⟩ | g)
 case inr=>exact .inl (.inr (q ▸ g))
 by_cases d:j=id
 ·subst d;simp only[L9,if_true,Y] at c;subst c;exact .inr (n b bB)
 ·simp only[L9,d,if_false] at c;refine .inl (.inl ⟨j,oj,c, ?_⟩);cases oj<;>simp only[ar,k j d,r j d] at bB ⊢ <;>exact bB
structure iC (st:E) (d:Nat):Prop where
 slot:∀i,∀j∈zX (st.get i),j / 64≠d
 obj:∀j ob,st.obj j=some ob→j / 64≠d∧∀k∈c4 ob,k / 64≠d
theorem jG(d k:Nat)(a:k<64):Uc d k / 64=d:=by unfold Uc;omega
theorem Kept.alloc(a:Kept S w0 w)(b:Obj):Kept S w0 (w.alloc b):=
 ⟨a.os,a.tape,a.output,by have:=a.size;simp;omega,λk c d=>(by show (w.heap.push b)[k]? =_;rw[IF,if_neg (by have:=a.size;omega)];exact a.block k c d)⟩
theorem Kept.drew(a:Kept S w0 w):Kept S w0 w.drew:=⟨a.os,a.tape,a.output,a.size,a.block⟩
theorem aD(a:Obj):(w.alloc a).heap.size=w.heap.size+1:=by simp
theorem Xd(a:Obj):(w.alloc a).heap[w.heap.size]? =some a:=heap_alloc_new w a
theorem alloc_old(a:Obj)(b:Nat)(c:b<w.heap.size):(w.alloc a).heap[b]? =w.heap[b]? :=by show (w.heap.push a)[b]? =_;rw[IF,if_neg (by omega)]
theorem fsK(v:aal):zX (ofConst v)=[]:=by
 unfold ofConst;split
 ·rfl
 ·cases dQ _ _<;>rfl
 ·generalize Nat.ble _ _=c;cases c<;>rfl
 ·rfl
 ·rfl
theorem nbe:∀(l:List aal),PD (l.map ofConst)=[]
 | []=>rfl
 | v::l=>by simp[PD,fsK,nbe l]
theorem ncu{d:Nat}(b:iC st d){x:aam}{s:X}(c:(zQ x).val st.get st.obj=some s):∀j∈zX s,j / 64≠d:=by
 have:=naX c;subst this;cases x with
 | tmp t=>exact b.slot t
 | const v=>simp[iN,fsK]
 | global g=>intro j a;simp[iN,zX] at a
 | func g=>intro j a;simp[iN,zX] at a
theorem nic{s:X}{a:List X}(b:(E9 s).val f h=some a):PD a=zX s:=by
 cases s<;>simp[E9] at b<;>subst b<;>simp[zX,PD]
theorem nAl(l:Rel w0 S st a w){d:Nat}(z:o.dst=some d)(A:sP st.n d)(r:iC st d){t:aan}{c:List X}{vs:List aal}
  (B:(execOp a.eval o).run P w= .ok (.value (.pointer (some ⟨w.heap.size,0,none⟩))) (w.alloc (.cells vs.toArray t)))
  (C:∀β φ,V w0 S st.get st.obj β φ a.tmps w→Z w (oa st.obj β) β c vs) (D:∀x∈vs,x.oneCell'=true) (E:∀j∈PD c,j / 64≠d)
  (F:e= {sv:= .ptr (Uc d 0) 0,ow:=[(Uc d 0,some (.box t c))]}):R P w0 S st o e a w:=by
 subst F;obtain⟨β,φ,s⟩:=l.core;have m:Uc d 0 / 64=d:=jG d 0 (by omega);have v:∀j,j≠Uc d 0→(β.kg (Uc d 0) w.heap.size).val j=β.val j∧(β.kg (Uc d 0) w.heap.size).cY j=β.cY j:=by intro j g;exact⟨rfl,by simp[L.kg,L9,g]⟩
 have p:(β.kg (Uc d 0) w.heap.size).cY (Uc d 0)=w.heap.size:=by simp[L.kg,L9]
 have y:∀b∈ar (β.kg (Uc d 0) w.heap.size) (Uc d 0) (.box t c),w.heap.size≤b:=by intro b f;simp only[ar,p,Ea] at f;omega
 have u:=l.kept.size;refine HI l (λH q=>by rw[z] at q;injection q with q;exact q ▸ A) B (l.kept.alloc _) ⟨β.kg (Uc d 0) w.heap.size,L9 φ (Uc d 0) [w.heap.size], ?_, ?_⟩
 ·refine s.create (by rw[aD];omega) (λb f=>alloc_old _ b f) (λi h=>r.slot i _ h m) (λj k g h=>(r.obj j k g).2 _ h m) ?_ v y ?_ (by simp) ?_
  ·cases G:st.obj (Uc d 0) with
   | none=>rfl
   | some k=>exact absurd m (r.obj _ k G).1
  ·refine⟨vs,by rw[p];exact Xd _, ?_,D,by rw[p]⟩;exact Z.beside (by rw[aD];omega) (λb f=>alloc_old _ b f) v y (C β φ s) (λh=>E _ h m)
  ·intro b f;rw[Ea] at f;subst f;refine⟨⟨.inl u,by rw[aD];omega⟩,λj k g f=>?_⟩;have:=((s.fresh j k g).2 _ f).2;omega
 ·simp only[O,p]
theorem nio(b:Rel w0 S st a w){d:Nat}(c:o.dst=some d)(f:sP st.n d)(g:iC st d){t:aan}(h:o.op= .alloc t){z:List X}(j:(X8 P t).val st.get st.obj=some z)
  (k:e= {sv:= .ptr (Uc d 0) 0,ow:=[(Uc d 0,some (.box t z))]}):R P w0 S st o e a w:=by
 obtain⟨i,l,m,p,rfl,q⟩:=xz j;refine nAl b c f g (vs:=l.cells.toList) ?_ (λβ φ r=>Wq _) q (by simp[nbe]) k;simp[execOp,h,Instr.alloc,zeroValue,typeInfo,m,p,newVar,newRow]
theorem by4(f:Rel w0 S st a w){d:Nat}(i:o.dst=some d)(j:sP st.n d)(g:iC st d){t:aan}{x:aam}(k:o.op= .box t x){s:X}{h:List X}
  (b:(zQ x).val st.get st.obj=some s) (c:(E9 s).val st.get st.obj=some h)
  (l:e= {sv:= .ptr (Uc d 0) 0,ow:=[(Uc d 0,some (.box t h))]}):R P w0 S st o e a w:=by
 obtain⟨q,r,m⟩:=f.core;refine nAl f i j g (vs:=(a.eval x).cells.toList) ?_ (λβ φ p=>(ZW (p.ev b) c).1) (ZW (m.ev b) c).2 ?_ l
 ·simp[execOp,k,Instr.box,newVar,newRow]
 ·rw[nic c];exact ncu g b
theorem Uv.cons{c:List CT}{r:List DC}{l:List aal}{g:List Nat}{a:List (List DC)}{b:List aal}{h:List (List Nat)}(n:bj w c r (λj=>l[j]?) g)(k:l.length=c.length)
  (m:Uv w c a b h):Uv w c (r::a) (l++b) (g::h):=by
 refine⟨by simp[m.1],λi o p e f=>?_⟩;cases i with
 | zero=>
  simp at e f;subst e f;refine dr.bj.kQ (λj u d=>?_) n;simp only[Nat.zero_mul,FV];rw[E1 (by have:=E8.1 d;exact this.1)];exact d
 | succ i=>
  have:=m.2 i o p (by simpa using e) (by simpa using f);refine dr.bj.kQ (λj u d=>?_) this;rw[Fz (by rw[k,EE];omega)];rw[←d]
  congr 1
  rw[k,EE];omega
theorem Uv.nil{b:List CT}{a:List aal} :Uv w b [] a []:=⟨rfl,by simp⟩
theorem Uv.append{c:List CT}{a k:List (List DC)}{b l:List aal}{m n:List (List Nat)}(d:Uv w c a b m)(s:b.length=a.length*c.length)
  (o:Uv w c k l n):Uv w c (a++k) (b++l) (m++n):=by
 refine⟨by simp[d.1,o.1],λi r f e g=>?_⟩;rcases GB i a.length with p | q
 ·rw[E1 p] at e;rw[E1 (by rw[d.1];exact p)] at g;refine dr.bj.kQ (λj u h=>?_) (d.2 i r f e g);rw[E1 (by have:=E8.1 h;exact this.1)];exact h
 ·rw[Fz q] at e;rw[Fz (by rw[d.1];exact q),d.1] at g;refine dr.bj.kQ (λj u h=>?_) (o.2 _ r f e g);have t:i*c.length+j=a.length*c.length+((i - a.length)*c.length+j):=by
   have:i*c.length=a.length*c.length+(i - a.length)*c.length:=by rw[←Nat.add_mul];congr 1;omega
   omega
  rw[Fz (by omega)];rw[←h]
  congr 1
  omega
theorem Pn{m:yF}{j:Nat}{b:xC}(a:ji (Gj m) h j=some b):(h j=some b)∨(∃c r,b= .eV c r∧∃y∈m,y.1=j):=by
 induction m with
 | nil=>exact .inl a
 | cons x l e=>
  obtain⟨i,c,r,u⟩:=x;simp only[Gj,ji,L9] at a;split at a
  ·rename_i f;injection a with a;exact .inr ⟨c,r,a.symm,_,EB ..,f.symm⟩
  ·rcases e a with d | ⟨g,k,d,y,n,o⟩
   ·exact .inl d
   ·exact .inr ⟨g,k,d,y,DO _ n,o⟩
theorem ui{m:yF}{j:Nat}(c:∃y∈m,y.1=j):Wj φ m j=[]:=by
 induction m with
 | nil=>obtain⟨y,a,_⟩:=c;simp at a
 | cons z l d=>
  obtain⟨y,a,rfl⟩:=c;simp only[Wj,L9];by_cases b:y.1=z.1
  ·rw[if_pos b]
  ·rw[if_neg b];rcases Dz.1 a with rfl | a
   ·exact absurd rfl b
   ·exact d ⟨y,a,rfl⟩
theorem EG(afa:Rel w0 S st a w){d:Nat}(aM:o.dst=some d)(hd:sP st.n d)(C:iC st d){t:aan}{D:List CT}{g:List (List DC)}{fz u:Bool}{m:yF}{w':aaj}{v:aal}
  (bH:(execOp a.eval o).run P w= .ok (.value v) w') (hk:Kept S w0 w') (W:w.heap.size≤w'.heap.size) (X:∀b,b<w.heap.size→w'.heap[b]? =w.heap[b]?)
  (M:∀b∈v.ownBlock.toList,b=w.heap.size) (E:A8 st.obj m) (AF:Eg m=true) {vals:List aal} (N:pz w' t D.length fz v g.length vals)
  (F:∀β φ,V w0 S st.get st.obj β φ a.tmps w→∃p,Uv w D g vals p∧(∀b∈p.flatten,(¬oa st.obj β b)∨∃x∈m,b∈SD st.obj β x.1)∧
   (u=true→(∀b∈p.flatten,∃x∈m,b∈φ x.1)∧p.flatten.Nodup))
  (fR:e.sv= .own (Uc d 0)) (kB:e.cw=none) (afu:e.ow=(Uc d 0,some (.row t D g fz u))::Gj m):R P w0 S st o e a w:=by
 obtain⟨β,φ,A⟩:=afa.core;obtain⟨p,F,c7,aif⟩:=F β φ A;have Z:=A.gr m E AF;have G:Uc d 0 / 64=d:=jG d 0 (by omega);have gA:∀j,j≠Uc d 0→(β.gE (Uc d 0) v).val j=β.val j∧(β.gE (Uc d 0) v).cY j=β.cY j:=by intro j k;exact⟨by simp[L.gE,L9,k],rfl⟩
 have h:(β.gE (Uc d 0) v).val (Uc d 0)=v:=by simp[L.gE,L9]
 have iY:∀b∈ar (β.gE (Uc d 0) v) (Uc d 0) (.row t D g fz u),w.heap.size≤b:=by intro b f;simp only[ar,h] at f;rw[M b f];exact EV _
 have Q:=F.lt;have agq:=afa.kept.size;have ky:∀b∈p.flatten,¬oa (ji (Gj m) st.obj) β b:=by
  intro b f;rcases c7 b f with q | ⟨x,s,adU⟩
  ·exact λI=>q (Ty I)
  ·exact ZZ A E s adU
 refine HI afa (λd' J=>by rw[aM] at J;injection J with J;exact J ▸ hd) bH hk
  ⟨β.gE (Uc d 0) v,L9 (Wj φ m) (Uc d 0) (v.ownBlock.toList++(cond u p.flatten [])), ?_, ?_⟩
 ·rw[afu,kB];refine Z.create W X (λi K=>C.slot i _ K G) (λj z k K=>?_) ?_ gA iY ?_ ?_ ?_
  ·rcases Pn k with q | ⟨e',r,rfl,_⟩
   ·exact (C.obj j z q).2 _ K G
   ·simp[c4] at K
  ·cases hn:ji (Gj m) st.obj (Uc d 0) with
   | none=>rfl
   | some z=>
    rcases Pn hn with q | ⟨e',r,rfl,y,T,I⟩
    ·exact absurd G (C.obj _ z q).1
    ·obtain⟨_,B,_⟩:=E y T;rw[I] at B;exact absurd G (C.obj _ _ B).1
  ·refine⟨vals,p,by rw[h];exact N,F.mono W (λb f=>X b (Q b f)),λb f s=>?_,by rw[h]⟩;rcases s with ⟨j,oj,k,l⟩ | s
   case inr=>exact ky b f (.inr s)
   by_cases U:j=Uc d 0
   ·subst U;simp only[L9,if_true,Y] at k;subst k;have:=iY b l;have:=Q b f;omega
   ·simp only[L9,U,if_false] at k;refine ky b f (.inl ⟨j,oj,k, ?_⟩);cases oj<;>simp only[ar,gA j U] at l ⊢ <;>exact l
  ·have BO:v.ownBlock.toList.Nodup:=by cases v.ownBlock<;>simp
   cases u with
   | false=>simpa using BO
   | true=>
    rw[H,DE];refine⟨BO,(aif rfl).2,λb f c iQ Ez=>?_⟩;have q:=M b f;have I:=Q c iQ;omega
  ·intro b f;rcases C5.1 f with f | f
   ·have q:=M b f;subst q;refine⟨⟨.inl agq, ?_⟩,λj z k l=>?_⟩
    ·have:=N.lt _ f;exact this
    ·have:=((Z.fresh j z k).2 _ l).2;omega
   ·cases u with
    | false=>simp at f
    | true=>
     simp only[H] at f;obtain⟨x,s,adU⟩:=(aif rfl).1 b f;obtain⟨_,B,_⟩:=E x s;have h4:=(A.fresh x.1 _ B).2 b adU;refine⟨⟨h4.1,by omega⟩,λj z k l=>?_⟩;by_cases Cv:∃y∈m,y.1=j
     ·rw[ui Cv] at l;simp at l
     ·have agQ:∀y∈m,y.1≠j:=λy T e=>Cv ⟨y,T,e⟩;rw[Yv agQ] at k;rw[WR agQ] at l;exact A.sep x.1 j _ _ (agQ x s) B k b adU l
 ·rw[fR];unfold O;exact⟨h.symm,N.one⟩
theorem nuT{e:CT}{v:aal}{q:DC×yF×Bool}(a:(zo e (ofConst v)).val f h=some q):q.2.1=[]∧q.2.2=true:=by
 unfold ofConst at a;split at a
 ·simp only[zo] at a;split at a<;>simp at a;subst a;exact⟨rfl,rfl⟩
 ·rename_i k n;cases b:dQ k n
  ·simp[b,zo] at a
  ·simp only[b,H,zo] at a;split at a
   ·rename_i g;by_cases d:k=g
    ·simp[d] at a;subst a;exact⟨rfl,rfl⟩
    ·simp[d] at a
   ·simp at a
 ·generalize Nat.ble _ _=c at a;cases c
  ·simp[zo] at a
  ·simp only[H,zo] at a;split at a<;>simp at a;subst a;exact⟨rfl,rfl⟩
 ·simp only[zo] at a;split at a<;>simp at a;subst a;exact⟨rfl,rfl⟩
 ·simp[zo] at a
theorem nhA:∀(bF:List CT) (l:List aal) (q:List DC×yF×Bool),(cQ bF (l.map ofConst)).val f h=some q→q.2.1=[]∧q.2.2=true
 | [],[],q,hq=>by simp[cQ] at hq;subst hq;exact⟨rfl,rfl⟩
 | [],_::_,q,hq=>by simp[cQ] at hq
 | _::_,[],q,hq=>by simp[cQ] at hq
 | c::cs,v::l,q,hq=>by simp only[DD,cQ,M.ag,UI,M.ab,Y] at hq;obtain⟨k,a,b,d,rfl⟩:=hq;obtain⟨e,g⟩:=nuT a;obtain⟨i,j⟩:=nhA cs l b d;simp[e,g,i,j]
theorem QF:∀(bF:List CT) (l:List X) (q:List DC×yF×Bool),(cQ bF l).val f h=some q→l.length=bF.length
 | [],[],q,hq=>rfl
 | [],_::_,q,hq=>by simp[cQ] at hq
 | _::_,[],q,hq=>by simp[cQ] at hq
 | c::cs,v::l,q,hq=>by simp only[cQ,M.ag,UI,M.ab,Y] at hq;obtain⟨d,e,a,b,rfl⟩:=hq;simp[QF cs l a b]
theorem Uv.replicate{a:List CT}{r:List DC}{z:List aal}(b:bj w a r (λj=>z[j]?) [])(c:z.length=a.length):∀n,Uv w a (DJ n r) (DJ n z).flatten (DJ n [])
 | 0=>Uv.nil
 | n+1=>by simp only[IN,FX];exact Uv.cons b c (Uv.replicate b c n)
theorem ndi(z:Array aal):∀n,(madeCells z (n*z.size)).toList=(DJ n z.toList).flatten:=by
 intro n;apply HU;intro i;simp only[madeCells];rcases Hk z.size with c | d
 ·have e:z= #[]:=by simpa using c
  subst e;simp
 ·rcases GB i (n*z.size) with a | a
  ·have f:(DJ n z.toList).flatten[i]? =z.toList[i % z.size]? :=by
    have key:∀n i,i<n*z.size→(DJ n z.toList).flatten[i]? =z.toList[i % z.size]? :=by
     intro n
     induction n with
     | zero=>intro i a;simp at a
     | succ n g=>
      intro i a;simp only[IN,FX];rcases GB i z.size with b | b
      ·rw[E1 (by simpa using b),Nat.mod_eq_of_lt b]
      ·rw[Fz (by simpa using b)];have h:i - z.toList.length<n*z.size:=by simp;rw[EE] at a;omega
       rw[g _ h]
       congr 1
       simp only[GG];rw[←Nat.mod_eq_sub_mod b]
    exact key n i a
   rw[f];have j:i % z.size<z.size:=HX _ d;simp[a,j]
  ·rw[FF (by simp;omega),FF (by simp;omega)]
theorem nik(s:Rel w0 S st a w){d:Nat}(G:o.dst=some d)(H:sP st.n d)(I:iC st d){t h:aan}{l c:aam}(J:o.op= .makeSlice t l c){n m:Int}{j:List CT}{i:TypeInfo}{z:List X}{r:List DC×yF×Bool}
  (K:(zQ l).val st.get st.obj=some (.int .i64 n)) (L:(zQ c).val st.get st.obj=some (.int .i64 m)) (M:P.underlying t=some (.slice h)) (A:P.info? h=some i) (B:i.size=j.length)
  (N:(X8 P h).val st.get st.obj=some z) (y:(cQ j z).val st.get st.obj=some r)
  (afv:e= {sv:= .own (Uc d 0),ow:=[(Uc d 0,some (.row h j (DJ n.toNat r.1) false true))],ok:=decide (0≤n) && decide (n≤m) && decide (m.toNat*i.bytes≤140737488355328) && decide (m≤9223372036854775807)})
  (C:e.ok=true):R P w0 S st o e a w:=by
 subst afv;simp only[Bl,js] at C;obtain⟨⟨⟨Q,agr⟩,Cb⟩,T⟩:=C;obtain⟨i',f,q,U,rfl,bo⟩:=xz N;rw[A] at q;injection q with q;subst q;obtain⟨V,W⟩:=nhA _ _ _ y;have k:f.cells.toList.length=j.length:=by simpa using QF _ _ _ y
 have ahL:(madeCells f.cells (m.toNat*i.size)).toList=(DJ m.toNat f.cells.toList).flatten:=by have:=ndi f.cells m.toNat;rw[B,←k];simpa using this
 obtain⟨Ki,Kj,D⟩:=s.core;have p:=D.ev K;have E:=D.ev L;simp only[O] at p E;have g:(i.bytes:Int)*m≤281474976710656:=by
  have Y:((m.toNat*i.bytes:Nat):Int)≤140737488355328:=by omega
  rw[Int.natCast_mul,FP (by omega),Int.mul_comm] at Y;omega
 have Z:=run_make (P:=P) w t h i f M A U .i64 .i64 n m Q agr g T;refine EG s G H I (m:=[]) (fz:=false) (u:=true) (vals:=(DJ n.toNat f.cells.toList).flatten) (v:= .slice (some ⟨w.heap.size,0,none⟩) n.toNat m.toNat)
  (w':=w.alloc (.cells (madeCells f.cells (m.toNat*i.size)) h)) ?_ (s.kept.alloc _) (by rw[aD];omega) (λb g=>alloc_old _ b g) (by simp[ES]) (by simp[A8]) rfl ?_ ?_ rfl rfl rfl
 ·simp[execOp,J,p.1,E.1,Z]
 ·refine⟨by simp[k],.inr ⟨w.heap.size,m.toNat,_,by simp,by simpa using Xd _,by simp;omega,by simp only[maxLen];omega,by rw[size_madeCells,B], ?_⟩⟩;rw[ahL];have:DJ m.toNat f.cells.toList=DJ n.toNat f.cells.toList++DJ (m.toNat - n.toNat) f.cells.toList:=by
   rw[List.replicate_append_replicate]
   congr 1
   omega
  rw[this,F0,IP (by simp[k]),IS (by simp[k])]
 ·intro β φ hc;obtain⟨F,jK,_,_,Ce⟩:=Ok hc j _ _ r (Wq f.cells.toList) y;have Ly:F=[]:=by
   have:=(Ce W).1;cases F with
   | nil=>rfl
   | cons b l=>
    obtain⟨x,p,_⟩:=this b (EB ..);rw[V] at p;simp at p
  subst Ly;refine⟨DJ n.toNat [],Uv.replicate jK k n.toNat, ?_, ?_⟩
  ·intro b g;simp at g
  ·intro _;constructor
   ·intro b g;simp at g
   ·have:(DJ n.toNat ([]:List Nat)).flatten=[]:=by simp
    rw[this];simp
theorem Nn(o:V w0 S st.get st.obj β φ a.tmps w){g:List CT} :∀(c:List (Nat×aam)) (k:Nat) (q:List (List DC)×yF×Bool),(kn g k c).val st.get st.obj=some q→
  ∃(d:List aal) (m:List (List Nat)),d.length=c.length*g.length∧q.1.length=c.length∧(∀x∈d,x.oneCell'=true)∧Uv w g q.1 d m∧A8 st.obj q.2.1∧
   (∀b∈m.flatten,(¬oa st.obj β b)∨∃x∈q.2.1,b∈SD st.obj β x.1)∧(q.2.2=true→(∀b∈m.flatten,∃x∈q.2.1,b∈φ x.1)∧(Eg q.2.1=true→m.flatten.Nodup))∧
   ∀(pre e:List aal),pre.length=k*g.length→e.length=c.length*g.length→
    Instr.fill (λi=>some (i*g.length,g.length)) (pre++e).toArray (c.map λx=>(x.1,a.eval x.2))=some (pre++d).toArray
 | [],k,q,hq=>by
  simp only[kn,M.ab,Y] at hq;subst hq;refine⟨[],[],by simp,rfl,by simp,Uv.nil,by simp[A8],by simp,by simp,λpre e f p=>?_⟩;have:e=[]:=by simpa using p
  subst this;simp[Instr.fill]
 | (i,x)::rest,k,q,hq=>by
  simp only[kn] at hq;cases t:ED i k
  ·simp[t] at hq
  have t:=Vs t;subst t;simp only[Nat.beq_refl,H,M.ag,UI,M.ab,Y] at hq;obtain⟨s,D,E,F,r,z,G,adV,rfl⟩:=hq;obtain⟨A,I⟩:=ZW (o.ev D) F;have J:=QF _ _ _ z;have K:=Z.length _ _ A;have n:(a.eval x).cells.size=g.length:=by simpa [J] using K
  obtain⟨L,N,B,O,u⟩:=Ok o g E _ r A z;obtain⟨d,m,P,Q,R,T,C,U,v,agR⟩:=Nn o rest (i+1) G adV;refine⟨(a.eval x).cells.toList++d,L::m, ?_,by simp[Q], ?_,Uv.cons N (by simpa using n) T,wz B C, ?_, ?_, ?_⟩
  ·simp only[fK,P,I_,GG,n,EE];omega
  ·intro y h;rcases C5.1 h with h | h
   ·exact I y h
   ·exact R y h
  ·intro b j;simp only[FX,C5] at j;rcases j with j | j
   ·rcases O b j with f | ⟨y,h,f⟩
    ·exact .inl f
    ·exact .inr ⟨y,Ss _ h,f⟩
   ·rcases U b j with f | ⟨y,h,f⟩
    ·exact .inl f
    ·exact .inr ⟨y,wZ _ h,f⟩
  ·intro l;simp only[Bl] at l;refine⟨λb j=>?_,λW=>?_⟩
   ·simp only[FX,C5] at j;rcases j with j | j
    ·obtain⟨y,h,f⟩:=(u l.1).1 b j;exact⟨y,Ss _ h,f⟩
    ·obtain⟨y,h,f⟩:=(v l.2).1 b j;exact⟨y,wZ _ h,f⟩
   ·obtain⟨X,aih,aiN⟩:=nzW W;simp only[FX];exact apart o B C aiN (u l.1).1 (v l.2).1 ((u l.1).2 X) ((v l.2).2 aih)
  ·intro pre e f p;simp only[I_,EE] at p;simp only[DD];rw[Wh (off:=i*g.length) (by rw[n]) (by simp[f,n];omega)];have e1:((pre++e).toArray.toList.take (i*g.length)++((a.eval x).cells.toList++(pre++e).toArray.toList.drop (i*g.length+(a.eval x).cells.size)))=(pre++(a.eval x).cells.toList)++e.drop g.length:=by simp only[n,←f];simp[List.drop_append]
   rw[e1,agR (pre++(a.eval x).cells.toList) (e.drop g.length) (by simp[f,n,EE]) (by simp[p])];simp
theorem nxZ(y:Rel w0 S st a w){d:Nat}(N:o.dst=some d)(O:sP st.n d)(Q:iC st d){t j:aan}{len:Nat}{c:Array (Nat×aam)}(ags:o.op= .buildSlice t len c){g:List CT}{q:List (List DC)×yF×Bool}
  (G:P.underlying t=some (.slice j)) (T:Fe P j g.length=true) (H:0<g.length) (f:len=c.toList.length) (JY:len*g.length≤16777216)
  (I:(kn g 0 c.toList).val st.get st.obj=some q) (B:∃z,(X8 P j).val st.get st.obj=some z) (J:Eg q.2.1=true)
  (U:e= {sv:= .own (Uc d 0),ow:=(Uc d 0,some (.row j g q.1 false q.2.2))::Gj q.2.1}):R P w0 S st o e a w:=by
 subst U;obtain⟨i,C,D⟩:=TL T;obtain⟨Ki,Kj,V⟩:=y.core;obtain⟨vals,_,l,p,bo,_,W,_,_,K⟩:=Nn V c.toList 0 q I;obtain⟨z,B⟩:=B;obtain⟨i',k,r,X,_,_⟩:=xz B;rw[C] at r;injection r with r;subst r;have E:len≤maxLen:=by have:len≤len*g.length:=Nat.le_mul_of_pos_right _ H;simp only[maxLen];omega
 have Y:(Instr.buildSlice t len (c.map λx=>(x.1,a.eval x.2))).run P w= .ok (.slice (some ⟨w.heap.size,0,none⟩) len len) (w.alloc (.cells vals.toArray j)):=by
  rcases Hk len with s | s
  ·have Z:c= #[]:=by
    have:c.toList.length=0:=by omega
    simpa using this
   have hv:vals=[]:=by
    have:vals.length=0:=by rw[l,←f,s,Nat.zero_mul]
    simpa using this
   subst Z hv s;simp[Instr.buildSlice,run_underlying G,sizeOf,typeInfo,C,Instr.fill,newRow,Array.range_zero']
  ·refine run_buildSlice (P:=P) w t j len _ vals.toArray i k G C X (by rw[D];omega) (by rw[D];exact Nat.ne_of_gt (Nat.mul_pos s H)) ?_;have:=K [] ((Array.range (len*g.length)).map (k.cells[· % k.cells.size]!)).toList (by simp) (by simp[f]);rw[D];generalize (Array.range (len*g.length)).map (k.cells[· % k.cells.size]!)=A at this ⊢;simpa using this
 refine EG y N O Q (m:=q.2.1) (fz:=false) (u:=q.2.2) (vals:=vals) (v:= .slice (some ⟨w.heap.size,0,none⟩) len len) (w':=w.alloc (.cells vals.toArray j)) ?_ (y.kept.alloc _)
  (by rw[aD];omega) (λb hb=>alloc_old _ b hb) (by simp[ES]) W J ?_ ?_ rfl rfl rfl
 ·simp[execOp,ags,Y]
 ·refine⟨by rw[l,p],.inr ⟨w.heap.size,len,vals.toArray,by rw[p,←f],by simpa using Xd _,by rw[p,←f];exact EV _,E,by simp[l,f], ?_⟩⟩;rw[p,←l];simp
 ·intro β φ hc;obtain⟨Bv,aE,aad,aab,Aj,dk,Lo,c7,L,H9⟩:=Nn hc c.toList 0 q I;have F:Bv=vals:=by have h1:=K [] (DJ (c.toList.length*g.length) undef) (by simp) (by simp);have M:=H9 [] (DJ (c.toList.length*g.length) undef) (by simp) (by simp);rw[h1] at M;simpa using M.symm
  subst F;exact⟨aE,dk,c7,λh=>⟨(L h).1,(L h).2 J⟩⟩
theorem P1(P:aak)(g o:Nat)(t:aan)(b:Nat×Nat):∀(d:List aal) (i:Nat) (a:Array aal) (w:aaj),w.heap[g]? =some (.cells a t b)→(∀j,j<a.size→¬(b.1≤j∧j<b.2))→
  o+i+d.length≤a.size→(∀v∈d,v.oneCell'=true)→
  (storeCells ⟨g,o,none⟩ d i).run P w= .ok () (w.setRow g (a.toList.take (o+i)++(d++a.toList.drop (o+i+d.length))).toArray)
 | [],i,a,w,hg,_,_,_=>by simp only[storeCells,HY,List.length_nil,FH,HZ,H3];rw[setRow_self w g a t b hg];rfl
 | v::rest,i,a,w,hg,hfz,hl,h1=>by
  have e:o+i<a.size:=by simp at hl;omega
  have c:w.cell? ⟨g,o+i,none⟩=some a[o+i]:=by simp[World.cell?,hg,e]
  have f:w.frozen? ⟨g,o+i,none⟩=false:=by have:=hfz (o+i) e;obtain⟨m,n⟩:=b;simp only[World.frozen?,hg,Bool.and_eq_false_iff,decide_eq_false_iff_not];simp only at this;omega
  have h:(store ((⟨g,o,none⟩:Addr).add i) v).run P w= .ok () (w.setRow g (a.setIfInBounds (o+i) v)):=by rw[ZB,run_store P w _ v _ (h1 v (by simp)),c];simp[f,setCell_eq_setRow w g (o+i) a t b v hg]
  have k:=P1 P g o t b rest (i+1) (a.setIfInBounds (o+i) v) (w.setRow g (a.setIfInBounds (o+i) v)) (setRow_heap w g a _ t _ hg) (by simpa using hfz) (by simp at hl ⊢;omega) (λx l=>h1 x (by simp[l]));simp only[storeCells,Sem.run_bind,h,Result.andThen_ok,k,setRow_setRow]
  congr 3
  have:=list_seg_step a.toList (o+i) v rest (by simp at hl ⊢;omega);simp only[Array.toList_setIfInBounds,I_];rw[←Gy];simpa [FB] using this
theorem bj.split{w:aaj} :∀(a b:List CT) (r:List DC) (f:Nat→Option aal) (e:List Nat),bj w (a++b) r f e→
  ∃g i,bj w a (r.take a.length) f g∧bj w b (r.drop a.length) (λj=>f (a.length+j)) i∧e=g++i
 | [],b,r,f,e,h=>⟨[],e,by simp[bj],by simpa using h,rfl⟩
 | c::cs,b,r,f,e,h=>by
  simp only[Ey,bj] at h;obtain⟨d,m,v,k,n,rfl,o,p,q,rfl⟩:=h;obtain⟨l,s,t,u,rfl⟩:=bj.split cs b m _ n q;refine⟨k++l,s, ?_, ?_,by simp⟩
  ·simp only[I_,List.take_succ_cons,bj];exact⟨d,_,v,k,l,rfl,o,p,t,rfl⟩
  ·simp only[I_,List.drop_succ_cons];have:∀j,cs.length+1+j=cs.length+j+1:=by intro j;omega
   simpa only[this] using u
theorem bj.join{w:aaj} :∀(i e:List CT) (g a:List DC) (f:Nat→Option aal) (h b:List Nat),bj w i g f h→bj w e a (λj=>f (i.length+j)) b→
  bj w (i++e) (g++a) f (h++b)
 | [],e,g,a,f,h,b,h1,h2=>by simp only[bj] at h1;obtain⟨rfl,rfl⟩:=h1;simpa using h2
 | c::cs,e,g,a,f,h,b,h1,h2=>by
  simp only[bj] at h1;obtain⟨d,k,v,m,l,rfl,n,o,p,rfl⟩:=h1;simp only[Ey,bj];refine⟨d,k++a,v,m,l++b,rfl,n,o,bj.join cs e k a _ l b p ?_,by simp⟩;have:∀j,(c::cs).length+j=cs.length+j+1:=by intro j;simp only[I_];omega
  simpa only[this] using h2
theorem Kept.setRow(a:Kept S w0 w){g:Nat}(d:w0.heap.size≤g∨S g)(b:Array aal):Kept S w0 (w.setRow g b):=
 ⟨a.os,a.tape,a.output,by simpa using a.size,λk f c=>by rw[setRow_other w g k b (λe=>by subst e;rcases d with h | h;omega;exact c h)];exact a.block k f c⟩
theorem V.rewrite(m:V w0 S f h β φ tm w){id:Nat}{k n:xC}{g:Nat}{p:Array aal}{q:List Nat}(r:h id=some k)(y:g∈ar β id k)(B:∀b∈ar β id n,b∈ar β id k)
  (C:zC (w.setRow g p) (oa (L9 h id (some n)) β) β id n q) (s:q.Nodup) (t:∀b∈q,((w0.heap.size≤b∨S b)∧b<w.heap.size)∧∀j o,j≠id→h j=some o→b ∉ φ j):
  V w0 S f (L9 h id (some n)) β (L9 φ id q) tm (w.setRow g p):=by
 have D:=al (m.aC id k r) g y;refine m.step (λ_=>False) (by simp) (λb _ c=>setRow_other w g b p (λe=>c (e ▸ .inl ⟨id,k,r,y⟩))) ?_ (λ_ _ _ h=>h) (λ_ _=>⟨rfl,rfl⟩) ?_ ?_
 ·rintro b (⟨j,l,a,bB⟩ | c)
  case inr=>exact .inl (.inr c)
  by_cases d:j=id
  ·subst d;simp only[L9,if_true,Y] at a;subst a;exact .inl (.inl ⟨j,k,r,B b bB⟩)
  ·simp only[L9,d,if_false] at a;exact .inl (.inl ⟨j,l,a,bB⟩)
 ·intro j l a;by_cases d:j=id
  ·subst d;simp only[L9,if_true,Y] at a;subst a;exact .inr ⟨by simpa [L9] using C,by simpa [L9] using s,λb c=>by simpa using (t b (by simpa [L9] using c)).1⟩
  ·simp only[L9,d,if_false] at a;refine .inl ⟨λh=>h,a,by simp[L9,d],λ_ _ h=>h,λb c=>setRow_other w g b p (λe=>?_)⟩;subst e;exact m.sep id j _ _ (Ne.symm d) r a b D (al (m.aC j l a) b c)
 ·intro i j z l A u a b c;by_cases v:i=id
  ·subst v;have x:j≠i:=Ne.symm A;simp only[L9,x,if_false] at a;simp only[L9,if_true] at c;simp only[L9,x,if_false];exact (t b c).2 j l x a
  ·simp only[L9,v,if_false] at u c;by_cases d:j=id
   ·subst d;simp only[L9,if_true];exact λE=>(t b E).2 i z v u c
   ·simp only[L9,d,if_false] at a ⊢;exact m.sep i j z l A u a b c
theorem nqg{id:Nat}{c e:xC}(i:h id=some c)(k:∀b∈ar β id e,b∈ar β id c){b:Nat}(d:oa (L9 h id (some e)) β b):oa h β b:=by
 rcases d with ⟨j,l,a,f⟩ | d
 case inr=>exact .inr d
 by_cases g:j=id
 ·subst g;simp only[L9,if_true,Y] at a;subst a;exact .inl ⟨j,c,i,k b f⟩
 ·simp only[L9,g,if_false] at a;exact .inl ⟨j,l,a,f⟩
theorem qq{t:aan}{b off:Nat}{x:aal}{i:TypeInfo}(a:P.info? t=some i)(c:i.size=x.cells.size){w':aaj}(d:(storeCells ⟨b,off,none⟩ x.cells.toList 0).run P w= .ok () w'):
  (Instr.storeAt t (.pointer (some ⟨b,off,none⟩)) x).run P w= .ok () w':=by
 simp[Instr.storeAt,Instr.sureAddr,storeVar,sizeOf,typeInfo,a,c,d]
theorem nbF{c:Nat→Prop}{a d:List X}{e b:List aal}{off:Nat}(f:Z w c β a e)(g:Z w c β d b)(h:b.length=d.length):
  Z w c β (fW a off d) (e.take off++(b++e.drop (off+b.length))):=by
 unfold fW;refine Z.append _ _ _ _ (Z.take _ _ _ f) (Z.append _ _ _ _ g ?_);rw[h];exact Z.drop _ _ _ f
theorem nsg(q:Rel w0 S st a w)(L:∀d,o.dst=some d→sP st.n d){t m:aan}{x y:aam}(M:o.op= .store t x y){id off:Nat}{u:X}{f c:List X}
  (N:(zQ x).val st.get st.obj=some (.ptr id off)) (afw:(zQ y).val st.get st.obj=some u) (Q:(E9 u).val st.get st.obj=some f) (agt:Fe P t f.length=true)
  (h:st.obj id=some (.box m c)) (eE:off+f.length≤c.length) (T:e= {sv:= .undef,cw:=some (id,off,f)}):R P w0 S st o e a w:=by
 subst T;obtain⟨i,ahe,agS⟩:=TL agt;obtain⟨β,φ,l⟩:=q.core;have v:=l.ev N;simp only[O] at v;obtain⟨A,B⟩:=ZW (l.ev afw) Q;obtain⟨r,C,D,E,F⟩:=l.aC id _ h;have hl:=Z.length _ _ D;have G:=Z.length _ _ A;have W:(a.eval y).cells.size=f.length:=by simpa using G
 have H:=P1 P (β.cY id) off m (0,0) (a.eval y).cells.toList 0 r.toArray w C (by simp) (by simp;omega) B;simp only[FH] at H;have ahM:ey (some (id,off,f)) st.obj=L9 st.obj id (some (.box m (fW c off f))):=by simp only[ey,h]
 have I:=l.fresh id _ h;have Y:∀b,oa (L9 st.obj id (some (.box m (fW c off f)))) β b→oa st.obj β b:=λb k=>nqg h (by simp[ar]) k;have J:∀(U:List X) (p:List aal),Z w (oa st.obj β) β U p→∀s,Z (w.setRow (β.cY id) s) (oa (L9 st.obj id (some (.box m (fW c off f)))) β) β U p:=by intro U p aiO s;exact Z.mono (by simp) (λb _ k=>setRow_other w _ b s (λe=>k (e ▸ .inl ⟨id,_,h,by simp[ar]⟩))) (λb k=> .inl (Y b k)) U p aiO (λ_ _=>⟨rfl,rfl⟩)
 refine Au q L (w':=w.setRow (β.cY id) (r.take off++((a.eval y).cells.toList++r.drop (off+(a.eval y).cells.toList.length))).toArray) ?_ (q.kept.setRow (I.2 (β.cY id) (by rw[F];simp)).1 _) ⟨β,L9 φ id [β.cY id], ?_,by simp[O]⟩
 ·simp[execOp,M,v,qq ahe (agS.trans W.symm) H]
 ·show V w0 S st.get (ji [] (ey (some (id,off,f)) st.obj)) _ _ _ _;simp only[ji,ahM];refine l.rewrite h (by simp[ar]) (by simp[ar]) ?_ (by simp) ?_
  ·refine⟨_,setRow_heap w _ _ _ _ _ C,nbF (J _ _ D _) (J _ _ A _) G, ?_,rfl⟩;intro z g;simp only[C5] at g;rcases g with g | g | g
   ·exact E z (Hv g)
   ·exact B z g
   ·exact E z (Hw g)
  ·intro b k;have K:b∈φ id:=by rw[F];exact k
   exact⟨I.2 b K,λj oj hj jV=>l.sep id j _ _ (Ne.symm hj) h jV b K⟩
theorem dh{a:List (List Nat)}{i:Nat}(b:i<a.length)(x:List Nat):(a.set i x).flatten=(a.take i).flatten++(x++(a.drop (i+1)).flatten):=by rw[List.set_eq_take_append_cons_drop,if_pos b];simp
theorem AJ{a:List (List Nat)}{i:Nat}(b:i<a.length):a.flatten=(a.take i).flatten++(a[i]++(a.drop (i+1)).flatten):=by have:=dh b a[i];rwa[List.set_getElem_self] at this
theorem Uv.set{ct:List CT}{rows:List (List DC)}{a:List aal}{e:List (List Nat)}(n:Uv w ct rows a e)(hl:a.length=rows.length*ct.length){i:Nat}(o:i<rows.length)
  {off:Nat} {g:List DC} {b:List aal} {x:List Nat} (O:off+b.length≤ct.length) (z:bj w ((ct.drop off).take b.length) g (λj=>b[j]?) x):
  ∃h y l,e[i]? =some (h++(y++l))∧Uv w ct (rows.set i (Sk (rows.getD i []) off g)) (a.take (i*ct.length+off)++(b++a.drop (i*ct.length+off+b.length))) (e.set i (h++(x++l))):=by
 have A:i<e.length:=by rw[n.1];exact o
 have B:=n.2 i (rows.getD i []) e[i] (bl o) (by simp);generalize rows.getD i []=r at B ⊢;have C:ct=ct.take off++((ct.drop off).take b.length++ct.drop (off+b.length)):=by rw[←List.drop_drop,HZ,HZ]
 have p:(ct.take off).length=off:=by simp;omega
 have s:((ct.drop off).take b.length).length=b.length:=by simp;omega
 have H:g.length=b.length:=by rw[bj.length _ _ _ _ z,s]
 have I:bj w (ct.take off++((ct.drop off).take b.length++ct.drop (off+b.length))) r (λj=>a[i*ct.length+j]?) e[i]:=by rw[←C];exact B
 obtain⟨h,q,D,E,J⟩:=bj.split _ _ _ _ _ I;obtain⟨y,l,F,t,rfl⟩:=bj.split _ _ _ _ _ E;rw[p] at D E F t;rw[s] at F t;have P:i*ct.length+ct.length≤a.length:=by rw[hl,←EE];exact FI _ o
 refine⟨h,y,l,by rw[H5 A,J],by simp[n.1],λk K L f m=>?_⟩;have v:∀j,(a.take (i*ct.length+off)++(b++a.drop (i*ct.length+off+b.length)))[j]? =
   if j<i*ct.length+off then a[j]? else if j<i*ct.length+off+b.length then b[j - (i*ct.length+off)]? else a[j]? :=by
  intro j;have M:(a.take (i*ct.length+off)).length=i*ct.length+off:=by simp;omega
  split
  ·rename_i d;rw[E1 (by omega),Hu,if_pos d]
  ·rename_i d;rw[Fz (by omega),M];split
   ·rw[E1 (by omega)]
   ·rw[Fz (by omega),Hs]
    congr 1
    omega
 by_cases G:k=i
 ·subst G;rw[IT o] at f;rw[IT A] at m;simp only[Y] at f m;subst f m;have:=bj.join (w:=w) (ct.take off) ((ct.drop off).take b.length++ct.drop (off+b.length)) (r.take off) (g++r.drop (off+g.length))
   (λj=>(a.take (k*ct.length+off)++(b++a.drop (k*ct.length+off+b.length)))[k*ct.length+j]?) h (x++l) ?_ ?_
  ·rw[←C] at this;exact this
  ·refine dr.bj.kd ?_ D;intro j u d c;rw[p] at d;simp only[v];rw[if_pos (by omega)];exact c
  ·refine bj.join _ _ _ _ _ _ _ ?_ ?_
   ·refine dr.bj.kd ?_ z;intro j u d c;rw[s] at d;simp only[p,v];rw[if_neg (by omega),if_pos (by omega),←c]
    congr 1
    omega
   ·rw[H];simp only[List.drop_drop] at t;refine dr.bj.kQ ?_ t;intro j u c;simp only[p,s,v];rw[if_neg (by omega),if_neg (by omega)];rw[←c]
 ·rw[List.getElem?_set_ne (Ne.symm G)] at f m;refine dr.bj.kd ?_ (n.2 k K L f m);intro j u d c;have Q:k<rows.length:=(E8.1 f).1;rw[v];rcases GB k i with N | R
  ·have:k*ct.length+ct.length≤i*ct.length:=by rw[←EE];exact FI _ N
   rw[if_pos (by omega)];exact c
  ·have:i*ct.length+ct.length≤k*ct.length:=by rw[←EE];exact FI _ (by omega)
   rw[if_neg (by omega),if_neg (by omega)];exact c
theorem yT{α:Type}(l a:List α)(o m:Nat)(e:o+a.length≤m)(f:m≤l.length):
  (l.take o++(a++l.drop (o+a.length))).take m=(l.take m).take o++(a++(l.take m).drop (o+a.length)):=by
 rw[List.take_append,List.take_append];have b:(l.take o).length=o:=by simp;omega
 rw[b];have c:(l.take o).take m=(l.take m).take o:=by rw[List.take_take,List.take_take,Nat.min_comm]
 have d:a.take (m - o)=a:=IS (by omega);rw[c,d]
 congr 2
 rw[List.drop_take]
 congr 1
 omega
theorem Fk{A p1 p2 p3 B n:List Nat}(h:(A++((p1++(p2++p3))++B)).Nodup)(d:n.Nodup)(e:∀b∈n,b ∉ A++((p1++(p2++p3))++B)):(A++((p1++(n++p3))++B)).Nodup:=by
 have f:((A++p1)++(p3++B)).Nodup:=by refine List.Sublist.nodup ?_ h;simp only[FB];refine List.Sublist.append (List.Sublist.refl _) (List.Sublist.append (List.Sublist.refl _) ?_);exact List.sublist_append_right _ _
 have g:(n++((A++p1)++(p3++B))).Nodup:=by rw[DE];refine⟨d,f,λb i c a j=>?_⟩;subst j;refine e b i ?_;simp only[C5] at a ⊢;rcases a with (a | a) | a | a<;>simp[a]
 refine (List.Perm.nodup_iff ?_).1 g;have:A++((p1++(n++p3))++B)=(A++p1)++(n++(p3++B)):=by simp
 rw[this];exact (List.perm_append_comm_assoc _ _ _)
theorem nah(W:Rel w0 S st a w)(hd:∀d,o.dst=some d→sP st.n d){t v:aan}{x y:aam}(ho:o.op= .store t x y){id i off:Nat}{sy:X}{E:List X}{m:List CT}{h:List (List DC)}{q u:Bool}{r:List DC×yF×Bool}
  (ahN:(zQ x).val st.get st.obj=some (.eS id i m.length off)) (Y:(zQ y).val st.get st.obj=some sy) (gg:(E9 sy).val st.get st.obj=some E) (dT:Fe P t E.length=true)
  (aQ:st.obj id=some (.row v m h q u)) (eE:off+E.length≤m.length) (hr:(cQ ((m.drop off).take E.length) E).val st.get st.obj=some r) (AF:V8 id r.2.1=true) (L:Eg r.2.1=true)
  (aiP:i<h.length) (kB:e.cw=none) (CB:e.sv= .undef)
  (how:e.ow=(id,some (.row v m (h.set i (Sk (h.getD i []) off r.1)) q (u && r.2.2)))::Gj r.2.1):R P w0 S st o e a w:=by
 obtain⟨ti,G1,bJ⟩:=TL dT;obtain⟨β,φ,A⟩:=W.core;have I:=A.ev ahN;simp only[O] at I;obtain⟨g,hg,I⟩:=I;obtain⟨fR,bo⟩:=ZW (A.ev Y) gg;have kD:=Z.length _ _ fR;have AO:(a.eval y).cells.size=E.length:=by simpa using kD
 obtain⟨F,jK,Q,Jq,Ib⟩:=Ok A _ _ _ r fR hr;have M:=A.gr r.2.1 Q L;have Cy:=zq AF;have G:ji (Gj r.2.1) st.obj id=some (.row v m h q u):=by rw[Yv Cy];exact aQ
 have ky:∀b∈F,¬oa (ji (Gj r.2.1) st.obj) β b:=by
  intro b f;rcases Jq b f with ahN | ⟨z,adW,J⟩
  ·exact λY=>ahN (Ty Y)
  ·exact ZZ A Q adW J
 obtain⟨B,C,bk,dk,jU,lE⟩:=M.aC id _ G;have lY:g∈ar β id (.row v m h q u):=by simp[ar,hg]
 rcases bk.2 with ⟨hv,h0,_⟩ | ⟨D,cap,l,hv,hh,BN,EU,Af,FY⟩
 ·omega
 have Ic:D=g:=by simpa [hv,ES] using hg
 subst Ic;have hlen:i*m.length+m.length≤h.length*m.length:=by rw[←EE];exact FI _ aiP
 have Cx:h.length*m.length≤cap*m.length:=FI _ BN;have FE:∀j,j<l.size→¬((cond q (l.size,l.size+1) ((0,0):Nat×Nat)).1≤j∧j<(cond q (l.size,l.size+1) ((0,0):Nat×Nat)).2):=by intro j hj;cases q<;>simp<;>omega
 have Dy:(a.eval y).cells.toList.length=E.length:=by simpa using AO
 have bH:=P1 P D (i*m.length+off) v _ (a.eval y).cells.toList 0 l w hh FE (by rw[Dy,Af];omega) bo;simp only[FH] at bH;generalize g9:(a.eval y).cells.toList=us at*;rw[←Dy] at eE jK;obtain⟨N,p2,afx,K9,Ah⟩:=dk.set bk.1 aiP eE jK;have K:i<C.length:=by rw[dk.1];exact aiP
 have FD:C[i]=N++(p2++afx):=by simpa [K] using K9
 have Ec:∀b∈(C.set i (N++(F++afx))).flatten,b∈C.flatten∨b∈F:=by intro b f;rw[dh K] at f;rw[AJ K,FD];simp only[C5] at f ⊢;rcases f with f | (f | f | f) | f<;>simp[f]
 have jB:∀b∈(C.set i (N++(F++afx))).flatten,¬oa (ji (Gj r.2.1) st.obj) β b:=by
  intro b f;rcases Ec b f with f | f
  ·exact jU b f
  ·exact ky b f
 have bP:=M.fresh id _ G;have Ag:(l.toList.take (i*m.length+off)++(us++l.toList.drop (i*m.length+off+us.length))).length=l.size:=by simp only[fK,HD,HB,GG];rw[Af];omega
 have Be:∀b∈ar β id (.row v m (h.set i (Sk (h.getD i []) off r.1)) q (u && r.2.2)),b∈ar β id (.row v m h q u):=λb f=>f;refine Au W hd (w':=w.setRow D (l.toList.take (i*m.length+off)++(us++l.toList.drop (i*m.length+off+us.length))).toArray) ?_
  (W.kept.setRow (bP.2 D (al (M.aC id _ G) D lY)).1 _)
  ⟨β,L9 (Wj φ r.2.1) id ((β.val id).ownBlock.toList++(cond (u && r.2.2) (C.set i (N++(F++afx))).flatten [])), ?_,by rw[CB];simp[O]⟩
 ·have:=qq (P:=P) (t:=t) (b:=D) (off:=i*m.length+off) (x:=a.eval y) G1 (bJ.trans AO.symm) (by rw[g9];exact bH);simp[execOp,ho,I,this]
 ·rw[how,kB];show V w0 S st.get (L9 (ji (Gj r.2.1) st.obj) id (some (.row v m (h.set i (Sk (h.getD i []) off r.1)) q (u && r.2.2)))) _ _ _ _;refine M.rewrite G lY Be ?_ ?_ ?_
  ·refine⟨B.take (i*m.length+off)++(us++B.drop (i*m.length+off+us.length)),C.set i (N++(F++afx)),⟨?_,.inr ⟨D,cap,(l.toList.take (i*m.length+off)++(us++l.toList.drop (i*m.length+off+us.length))).toArray,by simpa using hv, ?_,by simpa using BN,EU,by simpa [Ag] using Af, ?_⟩⟩, ?_, ?_,rfl⟩
   ·have:=bk.1;simp only[fK,HD,HB,List.length_set];omega
   ·rw[setRow_heap w _ _ _ _ _ hh];simp only[List.size_toArray,Ag]
   ·simp only[List.length_set];rw[yT _ _ _ _ (by omega) (by simp only[GG];omega),FY]
   ·refine Ah.mono (by simp) (λb f=>setRow_other w D b _ (λe=>jB b f (e ▸ .inl ⟨id,_,G,lY⟩)))
   ·exact λb f I=>jB b f (nqg G Be I)
  ·have BO:(β.val id).ownBlock.toList.Nodup:=by cases (β.val id).ownBlock<;>simp
   cases s:(u && r.2.2) with
   | false=>simpa using BO
   | true=>
    simp only[Bl] at s;have Iz:Wj φ r.2.1 id=(β.val id).ownBlock.toList++C.flatten:=by rw[lE,s.1];rfl
    have Ik:=bP.1;rw[Iz,AJ K,FD,DE] at Ik;obtain⟨KC,Il,agu⟩:=Ik;have K_:=(Ib s.2).2 L;have Ia:∀b∈F,b ∉ Wj φ r.2.1 id:=by intro b f Ac;obtain⟨z,adW,J⟩:=(Ib s.2).1 b f;obtain⟨_,T,_⟩:=Q z adW;rw[WR Cy] at Ac;exact A.sep z.1 id _ _ (Cy z adW) T aQ b J Ac
    rw[Iz,AJ K,FD] at Ia;simp only[H];rw[dh K,DE];refine⟨KC,Fk Il K_ (λb f U=>Ia b f (wZ _ U)),λb f c p Ez=>?_⟩;subst Ez;simp only[C5] at p;rcases p with p | (p | p | p) | p
    ·exact agu b f b (by simp[p]) rfl
    ·exact agu b f b (by simp[p]) rfl
    ·exact Ia b p (Ss _ f)
    ·exact agu b f b (by simp[p]) rfl
    ·exact agu b f b (by simp[p]) rfl
  ·intro b f;have mK:b∈Wj φ r.2.1 id→((w0.heap.size≤b∨S b)∧b<w.heap.size)∧∀j oj,j≠id→ji (Gj r.2.1) st.obj j=some oj→b ∉ Wj φ r.2.1 j:=λU=>
    ⟨bP.2 b U,λj oj hj agT=>M.sep id j _ _ (Ne.symm hj) G agT b U⟩
   rcases C5.1 f with f | f
   ·exact mK (by rw[lE];exact Ss _ f)
   ·cases s:(u && r.2.2) with
    | false=>simp[s] at f
    | true=>
     simp only[s,H] at f;simp only[Bl] at s;rcases Ec b f with f | f
     ·exact mK (by rw[lE,s.1];exact wZ _ f)
     ·obtain⟨z,adW,J⟩:=(Ib s.2).1 b f;obtain⟨_,T,_⟩:=Q z adW;refine⟨(A.fresh z.1 _ T).2 b J,λj oj hj agT=>?_⟩;by_cases Cv:∃k∈r.2.1,k.1=j
      ·rw[ui Cv];simp
      ·have Du:∀k∈r.2.1,k.1≠j:=λk hk e=>Cv ⟨k,hk,e⟩;rw[Yv Du] at agT;rw[WR Du];exact A.sep z.1 j _ _ (Du z adW) T agT b J
theorem njd{w:aaj} :∀(b:List CT) (r:List DC) (f:Nat→Option aal) (g:List Nat),Sw b=true→bj w b r f g→g=[]
 | [],_,_,_,_,h=>by simp only[bj] at h;exact h.2
 | c::cs,_,_,_,hf,h=>by
  simp only[bj] at h;obtain⟨d,m,v,j,o,rfl,_,a,l,rfl⟩:=h;have i:j=[]∧Sw cs=true:=by
   cases c with
   | int k=>simp only[Z8] at a;obtain⟨n,_,_,_,e⟩:=a;exact⟨e,by simpa [Sw] using hf⟩
   | bool=>simp only[Z8] at a;obtain⟨n,_,_,e⟩:=a;exact⟨e,by simpa [Sw] using hf⟩
   | str=>simp only[Z8] at a;obtain⟨n,_,_,_,e⟩:=a;exact⟨e,by simpa [Sw] using hf⟩
   | sl e=>simp[Sw] at hf
  rw[i.1,njd cs _ _ _ i.2 l];rfl
theorem Uv.flat{w:aaj}{c:List CT}{a:List (List DC)}{b:List aal}{d:List (List Nat)}(h:Uv w c a b d)(e:Sw c=true):d.flatten=[]:=by
 rw[IU];intro l f;obtain⟨i,g,rfl⟩:=IW f;have j:i<a.length:=by have:=h.1;omega
 exact njd c _ _ _ e (h.2 i a[i] d[i] (by simp) (by simp))
theorem gl{w:aaj}{a:List CT}{r:List (List DC)}{q:Option Addr}{m c:Nat}{s:List Nat}(h:Z8 w (.sl a) (.sl r) (.slice q m c) s)(E:0<a.length):
  m=r.length∧∃(d:List aal) (g:List (List Nat)),d.length=m*a.length∧(q=none→m=0)∧(∀t,q=some t→∀j u,d[j]? =some u→w.cell? (t.add j)=some u)∧(∀x∈d,x.oneCell'=true)∧
   Uv w a r d g∧(∀b∈g.flatten,b∈s)∧(s.Nodup→g.flatten.Nodup):=by
 obtain⟨q',P,Q,F,k,R,S,G⟩:=t9 h;injection F with l v H;subst l v H;refine⟨k.symm, ?_⟩;rcases G with ⟨y,rfl⟩ | ⟨T,b,o,g,rfl,U,V,rfl,A⟩
 ·have I:r=[]:=by simpa [y] using k
  subst I;exact⟨[],[],by simp[y],λ_=>y,by simp,by simp,Uv.nil,by simp,by simp⟩
 ·have e:∀j,j<m*a.length→∃u,w.cell? ⟨b,o+j,none⟩=some u∧u.oneCell'=true:=by
   intro j f;have W:j / a.length<r.length:=by rw[k];exact Nat.div_lt_of_lt_mul (by rw[Nat.mul_comm];exact f)
   have X:j % a.length<a.length:=HX _ E;have B:j / a.length<g.length:=by omega
   obtain⟨u,Y,l,v,_⟩:=bj.get _ _ _ _ (j % a.length) a[j % a.length] (A (j / a.length) r[j / a.length] g[j / a.length] (by simp) (by simp)) (by simp);refine⟨u, ?_,v.one⟩;have:j / a.length*a.length+j % a.length=j:=by rw[Nat.mul_comm];exact Nat.div_add_mod j a.length
   rw[this] at l;exact l
  refine⟨(List.range (m*a.length)).map (λj=>(w.cell? ⟨b,o+j,none⟩).getD undef),g,by simp,by simp, ?_, ?_,⟨by omega, ?_⟩,λx n=>DO _ n,λk=>(List.nodup_cons.1 k).2⟩
  ·intro t z j u f;injection z with z;subst z;rw[ZB];have C:j<m*a.length:=by have:=(E8.1 f).1;simpa using this
   obtain⟨J,p,_⟩:=e j C;simp[C,p] at f;rw[p,f]
  ·intro x n;simp only[GJ,List.mem_range] at n;obtain⟨j,f,rfl⟩:=n;obtain⟨J,p,K⟩:=e j f;rw[p];exact K
  ·intro i L M D B;refine dr.bj.kd ?_ (A i L M D B);intro j u f N;have O:i<m:=by have:=(E8.1 D).1;omega
   have:i*a.length+j<m*a.length:=by
    have:i*a.length+a.length≤m*a.length:=by rw[←EE];exact FI _ O
    omega
   simp[this,N]
theorem run_append_nil(base:Nat)(t ty a:aan)(i:TypeInfo)(size:Nat)(b:P.underlying t=some (.slice a))(d:P.info? a=some i)
  (v:aal) (n:Nat) (e:List aal) (f:w.ownsRow base a size v n e) (c:Nat):(Builtin.append_ #[t,t] ty #[v,.slice none 0 c]).run P w= .ok v w:=by
 rcases f.2 with ⟨rfl,rfl⟩ | ⟨g,cap,h,rfl,_,_,j,_⟩
 ·simp[Builtin.append_,run_underlying b,sizeOf,typeInfo,d,Builtin.lenOf,Builtin.firstCells]
 ·simp[Builtin.append_,run_underlying b,sizeOf,typeInfo,d,Builtin.lenOf,Builtin.firstCells,j,storeCells]
theorem nuc{t:aan}{i:TypeInfo}{n:Nat}(a:P.info? t=some i)(h:wF P t n=true):n*i.bytes≤140737488355328∧n≤maxLen:=by simp only[wF,a,Bl,js] at h;exact⟨h.1,by simp only[maxLen];omega⟩
theorem pM{t ty e:aan}{i:TypeInfo}{h:aal}{d:List CT}(p:P.underlying t=some (.slice e))(k:P.info? e=some i)(s:i.zero=some h)(y:i.size=d.length)(z:h.cells.size=d.length)(A:0<d.length)
  {v:aal} {n:Nat} {b:List aal} (l:pz w e d.length false v n b) {q:Option Addr} {m c:Nat} {a:List aal} (r:a.length=m*d.length) (B:q=none→m=0)
  (C:∀g,q=some g→∀j u,a[j]? =some u→w.cell? (g.add j)=some u) (D:∀x∈a,x.oneCell'=true) (E:wF P e (n+m)=true):
  ∃f w',(Builtin.append_ #[t,t] ty #[v,.slice q m c]).run P w= .ok f w'∧pz w' e d.length false f (n+m) (b++a)∧w.grownBy w' v.ownBlock∧(f.ownBlock=v.ownBlock∨f.ownBlock=some w.heap.size):=by
 obtain⟨F,G⟩:=nuc k E;cases q with
 | none=>
  have o:=B rfl;subst o;have H:a=[]:=by simpa using r
  subst H;exact⟨v,w,run_append_nil 0 t ty e i d.length p k v n b l.owns c,by simpa using l,⟨rfl,rfl,rfl,EV _,λ_ _ _=>rfl⟩,.inl rfl⟩
 | some g=>
  obtain⟨f,w',I,J,K,_,L⟩:=run_append_own_at (P:=P) w 0 t ty e i h d.length i.bytes p k s y rfl z A v n b l.owns g m c a r (C g rfl) D G F (Gv _);exact⟨f,w',I,pz.IK J,K,L⟩
theorem Kept.grown(a:Kept S w0 w){w':aaj}{c:Option Nat}(d:w.grownBy w' c)(g:∀b,c=some b→w0.heap.size≤b∨S b):Kept S w0 w':=
 ⟨d.os.trans a.os,d.tape.trans a.tape,d.output.trans a.output,Nat.le_trans a.size d.size,λk i f=>by rw[d.block k (by have:=a.size;omega) (λe=>by rcases g k e.symm with h | h;omega;exact f h)];exact a.block k i f⟩
mutual
theorem nAD:∀(a:CT),Of a a=true
 | .int k=>by simp[Of]
 | .bool=>rfl
 | .str=>rfl
 | .sl e=>by simp only[Of];exact j_ e
theorem j_:∀(a:List CT),cB a a=true
 | []=>rfl
 | a::l=>by simp only[cB,Bl];exact⟨nAD a,j_ l⟩
end
theorem neb{c:List CT}{s:X}{q:List (List DC)×yF×Bool}(a:(xn c s).val f h=some q):(zo (.sl c) s).val f h=some (.sl q.1,q.2):=by
 unfold xn at a;split at a
 ·simp only[M.ab,Y] at a;subst a;simp[zo]
 ·rename_i d r;cases b:cB c d
  ·simp[b] at a
  ·simp only[b,H,M.ab,Y] at a;have:=uG _ _ b;subst this a;simp[zo,j_]
 ·rename_i id;simp only[M.aY,UI] at a;obtain⟨g,e,a⟩:=a;split at a
  ·rename_i i d r j u;cases b:cB c d
   ·simp[b] at a
   ·simp only[b,H,M.ab,Y] at a;have:=uG _ _ b;subst this a;simp[zo,e,j_]
  ·rename_i d r;cases b:cB c d
   ·simp[b] at a
   ·simp only[b,H,M.ab,Y] at a;have:=uG _ _ b;subst this a;simp[zo,e,j_]
  ·simp at a
 ·simp at a
theorem zM(d:V w0 S f h β φ tm w){c:List CT}{s:X}{v:aal}{q:List (List DC)×yF×Bool}(e:O w (oa h β) β s v)(g:(xn c s).val f h=some q):
  ∃a,Z8 w (.sl c) (.sl q.1) v a∧A8 h q.2.1∧Eg q.2.1=true∧(∀b∈a,(¬oa h β b)∨∃x∈q.2.1,b∈SD h β x.1)∧
   (q.2.2=true→(∀b∈a,∃x∈q.2.1,b∈φ x.1)∧a.Nodup):=km d e (neb g)
theorem nBo{ct:List CT}{m:yF}(a:A8 h m)(b:Eg m=true):A8 h (cond (Sw ct) [] m)∧Eg (cond (Sw ct) [] m)=true:=by
 cases Sw ct
 ·exact⟨a,b⟩
 ·exact⟨by simp[A8],rfl⟩
theorem njX{a:List CT}{m:yF} :(cond (Sw a) [] (Gj m))=Gj (cond (Sw a) [] m):=by cases Sw a<;>rfl
theorem niK(B:Rel w0 S st a w){d:Nat}(aM:o.dst=some d)(hd:sP st.n d)(bR:iC st d){t l:aan}{s x:aam}{c:Call}(ho:o.op= .call c)(C:c.callee= .builtin .append)(cr:c.args= #[s,x])
  (GP:c.argTypes= #[t,t]) {N:X} {ct:List CT} {q:List (List DC)×yF×Bool} {z:List X} (h1:(zQ s).val st.get st.obj=some .nil) (afy:(zQ x).val st.get st.obj=some N) (hu:P.underlying t=some (.slice l))
  (dT:Fe P l ct.length=true) (D:0<ct.length) (hz:(X8 P l).val st.get st.obj=some z) (kJ:z.length=ct.length) (agv:(xn ct N).val st.get st.obj=some q) (fq:wF P l q.1.length=true)
  (fR:e.sv= .own (Uc d 0)) (kB:e.cw=none) (E:e.ow=(Uc d 0,some (.row l ct q.1 false (Sw ct || q.2.2)))::(cond (Sw ct) [] (Gj q.2.1))):R P w0 S st o e a w:=by
 obtain⟨i,T,bJ⟩:=TL dT;obtain⟨i',zv,p,AV,rfl,_⟩:=xz hz;rw[T] at p;injection p with p;subst p;obtain⟨Ki,Kj,F⟩:=B.core;obtain⟨fp0,G,FO,Ij,_,_⟩:=zM F (F.ev afy) agv;obtain⟨Q,m,cc,H,hml,_,_,_⟩:=t9 G;rw[H] at G;obtain⟨U,f,MJ,Ip,V,g,bo,M_,_,_⟩:=gl G D;have W:=F.ev h1;simp only[O] at W;have JQ:pz w l ct.length false (.slice none 0 0) 0 []:=⟨by simp,.inl ⟨rfl,rfl,rfl⟩⟩;obtain⟨v',w',bH,gR,I,gP⟩:=pM (P:=P) (ty:=o.type) (c:=cc) hu T AV bJ (by simpa using kJ) D JQ Ip V g bo (by rw[U,FV];exact fq);obtain⟨HA,GY⟩:=nBo (ct:=ct) FO Ij;refine EG B aM hd bR (m:=cond (Sw ct) [] q.2.1) (fz:=false) (u:=Sw ct || q.2.2) (vals:=f) (v:=v') (w':=w') ?_ (B.kept.grown I (by simp[ES])) I.size
  (λb C=>I.block b C (by simp[ES])) ?_ HA GY ?_ ?_ fR kB (by rw[E,njX])
 ·simp[execOp,ho,resolve,C,cr,GP,invoke,builtin,W,H,bH]
 ·intro b h;rcases gP with J | J
  ·rw[J] at h;simp[ES] at h
  ·rw[J] at h;simpa using h
 ·rw[←U];simpa using gR
 ·intro β φ ahO;obtain⟨fp,Y,iE,AF,jU,Z⟩:=zM ahO (ahO.ev afy) agv;rw[H] at Y;obtain⟨_,Kc,aE,JJ,_,H6,_,r,iX,Iq⟩:=gl Y D;have K:Uv w ct q.1 f aE:=by
   refine⟨r.1,λk r' f' hk hf=>?_⟩;refine dr.bj.kd ?_ (r.2 k r' f' hk hf);intro j u hj L;have Ju:k*ct.length+j<Kc.length:=(E8.1 L).1;cases Q with
   | none=>
    have:m=0:=V rfl;subst this;simp at JJ;simp[JJ] at L
   | some ad=>
    have e1:=H6 ad rfl _ _ L;have cA:k*ct.length+j<f.length:=by omega
    have y:=g ad rfl (k*ct.length+j) f[k*ct.length+j] (by simp);rw[e1] at y;injection y with y;rw[H5 cA,←y]
  refine⟨aE,K, ?_, ?_⟩
  ·intro b h;cases A:Sw ct with
   | true=>rw[r.flat A] at h;simp at h
   | false=>simpa using jU b (iX b h)
  ·intro M;cases A:Sw ct with
   | true=>rw[r.flat A];simp
   | false=>
    rw[A,GR] at M;exact⟨λb h=>by simpa using (Z M).1 b (iX b h),Iq (Z M).2⟩
theorem nvL(hR:Rel w0 S st a w){d:Nat}(aM:o.dst=some d)(hd:sP st.n d)(bR:iC st d){t F:aan}{s x:aam}{c:Call}(ho:o.op= .call c)(hb:c.callee= .builtin .append)(cr:c.args= #[s,x])
  (GP:c.argTypes= #[t,t]) {id:Nat} {u:Bool} {r:List (List DC)} {sx:X} {ct:List CT} {q:List (List DC)×yF×Bool} {z:List X} (h1:(zQ s).val st.get st.obj=some (.own id)) (h2:(zQ x).val st.get st.obj=some sx)
  (aQ:st.obj id=some (.row F ct r false u)) (hu:P.underlying t=some (.slice F))
  (dT:Fe P F ct.length=true) (hp:0<ct.length) (hz:(X8 P F).val st.get st.obj=some z) (kJ:z.length=ct.length) (hq:(xn ct sx).val st.get st.obj=some q) (LC:V8 id q.2.1=true)
  (fq:wF P F (r.length+q.1.length)=true) (fR:e.sv= .own (Uc d 0)) (kB:e.cw=none)
  (how:e.ow=(Uc d 0,some (.row F ct (r++q.1) false (u && (Sw ct || q.2.2))))::(id,none)::(cond (Sw ct) [] (Gj q.2.1))):R P w0 S st o e a w:=by
 obtain⟨i,hi,bJ⟩:=TL dT;obtain⟨i',zv,eF,AV,rfl,_⟩:=xz hz;rw[hi] at eF;injection eF with eF;subst eF;obtain⟨β,φ,K⟩:=hR.core;obtain⟨fp,jK,FO,Ij,jU,Jr⟩:=zM K (K.ev h2) hq;obtain⟨Q,m,cc,HH,hml,_,_,_⟩:=t9 jK;rw[HH] at jK;obtain⟨JD,W,afb,Ip,IZ,M,bo,ahP,iX,Iq⟩:=gl jK hp;obtain⟨afz,GY⟩:=nBo (ct:=ct) FO Ij;have LB:=zq LC;have Cy:∀y∈(cond (Sw ct) [] q.2.1),y.1≠id:=by
  cases Sw ct
  ·exact LB
  ·simp
 generalize aii:(cond (Sw ct) [] q.2.1)=M' at afz GY Cy;have G:=K.gr M' afz GY;have adX:ji (Gj M') st.obj id=some (.row F ct r false u):=by rw[Yv Cy];exact aQ
 obtain⟨Z,agw,bk,dk,Ig,lE⟩:=G.aC id _ adX;have FU:=K.ev h1;simp only[O] at FU;obtain⟨D,w',bH,gR,T,gP⟩:=pM (P:=P) (ty:=o.type) (c:=cc) hu hi AV bJ (by simpa using kJ) hp bk Ip IZ M bo (by rw[JD];exact fq);have bN:Uc d 0 / 64=d:=jG d 0 (by omega);have Jt:id≠Uc d 0:=λe=>(bR.obj id _ aQ).1 (e ▸ bN);have gA:∀j,j≠Uc d 0→(β.gE (Uc d 0) D).val j=β.val j∧(β.gE (Uc d 0) D).cY j=β.cY j:=by intro j p;exact⟨by simp[L.gE,L9,p],rfl⟩
 have A:(β.gE (Uc d 0) D).val (Uc d 0)=D:=by simp[L.gE,L9]
 have kG:=al (G.aC id _ adX);have bP:=G.fresh id _ adX;have GU:=dk.lt;have GV:=ahP.lt;have jB:∀b∈afb.flatten,¬oa (ji (Gj M') st.obj) β b:=by
  intro b f;cases I:Sw ct with
  | true=>rw[ahP.flat I] at f;simp at f
  | false=>
   rw[I,J] at aii;subst aii;rcases jU b (iX b f) with g | ⟨y,aeO,N⟩
   ·exact λh4=>g (Ty h4)
   ·exact ZZ K afz aeO N
 have Dt:(u && (Sw ct || q.2.2))=true→∀b∈afb.flatten,∃y∈M',b∈φ y.1:=by
  intro h b f;cases I:Sw ct with
  | true=>rw[ahP.flat I] at f;simp at f
  | false=>
   rw[I,J] at aii;subst aii;rw[I,GR,Bl] at h;exact (Jr h.2).1 b (iX b f)
 have JL:(u && (Sw ct || q.2.2))=true→afb.flatten.Nodup:=by
  intro h;cases I:Sw ct with
  | true=>rw[ahP.flat I];simp
  | false=>
   rw[I,GR,Bl] at h;exact Iq (Jr h.2).2
 have kE:∀j l,L9 (L9 (ji (Gj M') st.obj) id none) (Uc d 0) (some (.row F ct (r++q.1) false (u && (Sw ct || q.2.2)))) j=some l→j≠Uc d 0→j≠id∧ji (Gj M') st.obj j=some l:=by
  intro j l p Ai;simp only[L9,Ai,if_false] at p;split at p
  ·cases p
  ·exact⟨by assumption,p⟩
 have iV:∀b,(β.val id).ownBlock=some b→b∈Wj φ M' id:=λb f=>kG b (by simp[ar,f]);have Bf:∀b∈D.ownBlock.toList,b∈Wj φ M' id∨b=w.heap.size:=by
  intro b f;rcases gP with g | g
  ·rw[g] at f;exact .inl (kG b (by simpa [ar] using f))
  ·rw[g] at f;exact .inr (by simpa using f)
 have IC:u=true→∀b∈agw.flatten,b∈Wj φ M' id:=by intro h b f;rw[lE,h];exact wZ _ f
 have CA:∀b,b∈D.ownBlock.toList++(cond (u && (Sw ct || q.2.2)) (agw++afb).flatten [])→∀j l,j≠id→ji (Gj M') st.obj j=some l→b ∉ Wj φ M' j:=by
  intro b f j l p jV B;have mK:b∈Wj φ M' id→False:=λg=>G.sep id j _ _ (Ne.symm p) adX jV b g B;rcases C5.1 f with f | f
  ·rcases Bf b f with g | g
   ·exact mK g
   ·have:=((G.fresh j l jV).2 b B).2;omega
  ·cases h:(u && (Sw ct || q.2.2)) with
   | false=>simp[h] at f
   | true=>
    simp only[h,H,F0,C5] at f;rcases f with f | f
    ·rw[Bl] at h;exact mK (IC h.1 b f)
    ·obtain⟨y,aeO,N⟩:=Dt h b f;obtain⟨_,g,_⟩:=afz y aeO;by_cases Cv:∃k∈M',k.1=j
     ·rw[ui Cv] at B;simp at B
     ·have Du:∀k∈M',k.1≠j:=λk U e=>Cv ⟨k,U,e⟩;rw[Yv Du] at jV;rw[WR Du] at B;exact K.sep y.1 j _ _ (Du y aeO) g jV b N B
 have gz:∀b,b<w.heap.size→(β.val id).ownBlock≠some b→w'.heap[b]? =w.heap[b]? :=λb f c8=>T.block b f (λe=>c8 e.symm);have agU:∀b∈(agw++afb).flatten,¬oa (ji (Gj M') st.obj) β b∧b<w.heap.size:=by
  intro b f;simp only[F0,C5] at f;rcases f with f | f
  ·exact⟨Ig b f,GU b f⟩
  ·exact⟨jB b f,GV b f⟩
 have BK:∀b,oa (L9 (L9 (ji (Gj M') st.obj) id none) (Uc d 0) (some (.row F ct (r++q.1) false (u && (Sw ct || q.2.2))))) (β.gE (Uc d 0) D) b→oa (ji (Gj M') st.obj) β b∨w.heap.size≤b:=by
  rintro b (⟨j,l,p,B⟩ | hb)
  case inr=>exact .inl (.inr hb)
  by_cases E:j=Uc d 0
  ·subst E;simp only[L9,if_true,Y] at p;subst p;simp only[ar,A] at B;rcases gP with g | g
   ·rw[g] at B;exact .inl (.inl ⟨id,_,adX,by simpa [ar] using B⟩)
   ·rw[g] at B;right;have:b=w.heap.size:=by simpa using B
    omega
  ·obtain⟨_,C⟩:=kE j l p E;refine .inl (.inl ⟨j,l,C, ?_⟩);cases l<;>simp only[ar,gA j E] at B ⊢ <;>exact B
 refine HI hR (λd' h'=>by rw[aM] at h';injection h' with h';exact h' ▸ hd) (v:=D) (w':=w') ?_ (hR.kept.grown T (λb f=>(bP.2 b (iV b f)).1))
  ⟨β.gE (Uc d 0) D,L9 (Wj φ M') (Uc d 0) (D.ownBlock.toList++(cond (u && (Sw ct || q.2.2)) (agw++afb).flatten [])), ?_, ?_⟩
 ·simp[execOp,ho,resolve,hb,cr,GP,invoke,builtin,FU.1,HH,bH]
 ·rw[how,kB,njX,aii];show V w0 S st.get (L9 (L9 (ji (Gj M') st.obj) id none) (Uc d 0) (some (.row F ct (r++q.1) false (u && (Sw ct || q.2.2))))) _ _ _ _;refine G.step (λj=>j=Uc d 0) T.size (λb f hn=>gz b f (λe=>hn (.inl ⟨id,_,adX,by simp[ar,e]⟩))) BK
   (λk j p e=>bR.slot k j p (by rw[e];exact bN)) gA ?_ ?_
  ·intro j l p;by_cases E:j=Uc d 0
   ·subst E;have C:=p;simp only[L9,if_true,Y] at C;subst C;refine .inr ⟨?_, ?_, ?_⟩
    ·refine⟨Z++W,agw++afb, ?_, ?_, ?_, ?_⟩
     ·rw[A];have:(r++q.1).length=r.length+m:=by simp[JD]
      rw[this];exact gR
     ·exact (dk.append bk.1 ahP).mono T.size (λb f=>gz b (agU b f).2 (λe=>(agU b f).1 (.inl ⟨id,_,adX,by simp[ar,e]⟩)))
     ·intro b f hx;rcases BK b hx with g | g
      ·exact (agU b f).1 g
      ·have:=(agU b f).2;omega
     ·rw[A];simp[L9]
    ·simp only[L9,if_true];have BO:D.ownBlock.toList.Nodup:=by cases D.ownBlock<;>simp
     cases h:(u && (Sw ct || q.2.2)) with
     | false=>simpa using BO
     | true=>
      have HE:u=true:=by rw[Bl] at h;exact h.1
      have Ik:=bP.1;rw[lE,HE,H,DE] at Ik;obtain⟨_,Il,JE⟩:=Ik;have Kt:((agw++afb).flatten).Nodup:=by rw[F0,DE];refine⟨Il,JL h,λb f c' iQ Ez=>?_⟩;subst Ez;obtain⟨y,aeO,N⟩:=Dt h b iQ;obtain⟨_,g,_⟩:=afz y aeO;have h4:=IC HE b f;rw[WR Cy] at h4;exact K.sep y.1 id _ _ (Cy y aeO) g aQ b N h4
      rw[H,DE];refine⟨BO,Kt,λb f c' iQ Ez=>?_⟩;subst Ez;rcases gP with g | g
      ·rw[g] at f;exact (agU b iQ).1 (.inl ⟨id,_,adX,by simpa [ar] using f⟩)
      ·rw[g] at f;have h4:b=w.heap.size:=by simpa using f
       have:=(agU b iQ).2;omega
    ·simp only[L9,if_true];intro b f;rcases C5.1 f with f | f
     ·rcases Bf b f with g | g
      ·have:=bP.2 b g;exact⟨this.1,by have:=T.size;omega⟩
      ·subst g;refine⟨.inl hR.kept.size,gR.lt _ f⟩
     ·cases h:(u && (Sw ct || q.2.2)) with
      | false=>simp[h] at f
      | true=>
       simp only[h,H,F0,C5] at f;have aac:=T.size;rcases f with f | f
       ·have HE:u=true:=by rw[Bl] at h;exact h.1
        have:=bP.2 b (IC HE b f);exact⟨this.1,by omega⟩
       ·obtain⟨y,aeO,N⟩:=Dt h b f;obtain⟨_,g,_⟩:=afz y aeO;have:=(K.fresh y.1 _ g).2 b N;exact⟨this.1,by omega⟩
   ·obtain⟨ig,C⟩:=kE j l p E;refine .inl ⟨E,C,by simp[L9,E], ?_, ?_⟩
    ·intro k U e;rcases Pn C with g | ⟨e',r',rfl,_⟩
     ·exact (bR.obj j l g).2 k U (by rw[e];exact bN)
     ·simp[c4] at U
    ·intro b f;have gi:=al (G.aC j l C) b f;refine gz b ((G.fresh j l C).2 b gi).2 (λe=>?_);exact G.sep id j _ _ (Ne.symm ig) adX C b (iV b e) gi
  ·intro k j ok l c8 U p b f;by_cases Ii:k=Uc d 0
   ·subst Ii;have Ai:j≠Uc d 0:=Ne.symm c8;obtain⟨ig,C⟩:=kE j l p Ai;simp only[L9,if_true] at f;simp only[L9,Ai,if_false];exact CA b f j l ig C
   ·obtain⟨Bc,Cw⟩:=kE k ok U Ii;simp only[L9,Ii,if_false] at f;by_cases E:j=Uc d 0
    ·subst E;simp only[L9,if_true];exact λg=>CA b g k ok Bc Cw f
    ·obtain⟨ig,C⟩:=kE j l p E;simp only[L9,E,if_false];exact G.sep k j ok l c8 Cw C b f
 ·rw[fR];unfold O;exact⟨A.symm,gR.one⟩
theorem nh9:∀(a:List Int) (l:List UInt8),a.foldl (λ(r:ByteArray) n=>r.push (UInt8.ofNat n.toNat)) ⟨l.toArray⟩=⟨(l++a.map (λn=>UInt8.ofNat n.toNat)).toArray⟩
 | [],l=>by simp
 | n::a,l=>by
  simp only[List.foldl_cons,DD];have:(⟨l.toArray⟩:ByteArray).push (UInt8.ofNat n.toNat)=⟨(l++[UInt8.ofNat n.toNat]).toArray⟩:=by apply ByteArray.ext;simp[ByteArray.push]
  rw[this,nh9 a];simp
theorem nmC{a:List (List DC)}{v:aal}{l:List Nat}(p:Z8 w (.sl [.int .u8]) (.sl a) v l):
  (Conv.bytesToString v).run P w= .ok (.string ⟨(a.map byteOf).toArray⟩) w:=by
 obtain⟨q,m,c,rfl,g,_,_,k⟩:=t9 p;cases q with
 | none=>
  have s:m=0:=by
   rcases k with ⟨h,_⟩ | ⟨_,b,o,i,e,_⟩
   ·exact h
   ·cases e
  have:a=[]:=by simpa [s] using g
  subst this;simp[Conv.bytesToString];rfl
 | some ad=>
  have t:(loadCells ad m).run P w= .ok ((a.map λr=>(r.headD default).asInt).map (FJ .u8)).toArray w:=by
   have:=run_loadCells_list (P:=P) (w:=w) ad ((a.map λr=>(r.headD default).asInt).map (FJ .u8)) ?_
   ·simpa [g] using this
   ·intro j u f;rcases k with ⟨h,_⟩ | ⟨_,b,o,i,e,D,E,_,x⟩
    ·have:a=[]:=by simpa [h] using g
     subst this;simp at f
    ·injection e with e;subst e;rw[ZB];have y:j<a.length:=by have:=(E8.1 f).1;simpa using this
     have z:j<i.length:=by omega
     have:=x j a[j] i[j] (by simp) (by simp);simp only[bj,Z8,List.length_singleton,Nat.mul_one,FH] at this;obtain⟨d,F,G,H,I,A,B,⟨n,rfl,rfl,_,_⟩,⟨rfl,_⟩,_⟩:=this;rw[B];simp only[H_,List.getElem?_map,H5 y,A,Option.map_some,Y] at f;simpa [DC.asInt] using f
  rw[run_bytesToString w ad m c _ t];have:=nh9 (a.map λr=>(r.headD default).asInt) [];have C:ByteArray.empty=⟨([]:List UInt8).toArray⟩:=rfl;rw[C,this];simp[byteOf,Function.comp_def]
theorem nzZ(j:Rel w0 S st a w)(C:∀d,o.dst=some d→sP st.n d)(ahQ:e.ow≠[]→∀d,o.dst=some d→iC st d){s t:aan}{x:aam}(D:o.op= .convert s t x){J:X}
  (B:(zQ x).val st.get st.obj=some J) (g:(OM P o.dst s t J).val st.get st.obj=some e):R P w0 S st o e a w:=by
 unfold OM at g;split at g
 ·rename_i k aij r y;split at g
  ·rename_i k' n;simp only[M.ab,Y] at g;subst g;refine zt j C rfl rfl λβ φ z=>?_;have p:=z.ev B;simp only[O] at p;refine⟨.int k (k.wrap n), ?_,by unfold O;exact⟨rfl,qM _ _⟩⟩;simp[execOp,D,p.1,convert,run_underlying r,run_underlying y,Conv.intToInt]
  ·simp at g
 ·rename_i r y;split at g
  ·rename_i l;simp only[M.ab,Y] at g;subst g;refine zt j C rfl rfl λβ φ z=>?_;have p:=z.ev B;simp only[O] at p;refine⟨.string ⟨l.toArray⟩, ?_,by unfold O;exact⟨rfl,p.2⟩⟩;simp[execOp,D,p.1,convert,run_underlying r,run_underlying y]
  ·simp at g
 ·rename_i h r y;split at g
  ·rename_i A;simp only[M.ag,UI,M.ab,Y] at g;obtain⟨q,Z,rfl⟩:=g;refine zt j C rfl rfl λβ φ z=>?_;obtain⟨fp,K,_⟩:=zM z (z.ev B) Z;have L:=nmC (P:=P) K;obtain⟨qa,m,c,N,hn,afA,hm,_⟩:=t9 K;refine⟨.string ⟨(q.1.map byteOf).toArray⟩, ?_,by unfold O;exact⟨rfl,by simp;omega⟩⟩;rw[N] at L;have:=run_convert_bytes_string (P:=P) w s t h qa m c y A r;simp[execOp,D,N,this,L]
  ·simp at g
 ·rename_i h r y;split at g
  ·rename_i l d A E;cases Q:Fe P h 1
   ·simp[Q] at g
   simp only[Q,H,M.ab,Y] at g;subst g;obtain⟨Ki,Kj,C7⟩:=j.core;have p:=C7.ev B;simp only[O] at p;have agx:l.length≤9223372036854775807:=by have:=p.2;simp only[maxLen] at this;omega
   generalize F:Question.cut (.appendCap l.length 0 h) (w.tape w.drawn (.appendCap l.length 0 h))=cap;have Jl:l.length≤cap:=by rw[←F];simp[Question.cut]
   have Jm:cap≤maxLen:=by rw[←F];simp only[Question.cut,maxLen];have:=HX (w.tape w.drawn (.appendCap l.length 0 h)) (show 0<2 ^ 63 - l.length by omega);omega
   let f:Array aal:=(l.map λb=>FJ .u8 b.toNat).toArray++Array.replicate (cap - l.length) (.int .u8 0);have G:f.size=cap:=by simp[f];omega
   have T:∀b,b<w.heap.size→(FC (w.drew.alloc (.cells f h)) ⟨w.heap.size,cap,none⟩ 1).heap[b]? =w.heap[b]? :=by intro b hb;simp only[FC,Nat.one_ne_zero,if_false,IX];rw[if_neg (by omega)];exact alloc_old (w:=w.drew) _ b hb
   have bN:(FC (w.drew.alloc (.cells f h)) ⟨w.heap.size,cap,none⟩ 1).heap[w.heap.size]? =some (.cells f h (f.size,f.size+1)):=by simp only[FC,Nat.one_ne_zero,if_false,IX,if_true];have:=Xd (w:=w.drew) (.cells f h);have adY:w.drew.heap.size=w.heap.size:=rfl;rw[adY] at this;rw[this];simp[G]
   have U:(FC (w.drew.alloc (.cells f h)) ⟨w.heap.size,cap,none⟩ 1).heap.size=w.heap.size+1:=by simp[FC]
   refine EG j E (C d E) (ahQ (by simp) d E) (m:=[]) (fz:=true) (u:=true) (vals:=l.map λb=>FJ .u8 b.toNat) (v:= .slice (some ⟨w.heap.size,0,none⟩) l.length cap)
    (w':=FC (w.drew.alloc (.cells f h)) ⟨w.heap.size,cap,none⟩ 1) ?_ ?_ (by rw[U];omega) T (by simp[ES]) (by simp[A8]) rfl ?_ ?_ rfl rfl rfl
   ·have BR:(w.drew.alloc (.cells f h)).shape? w.heap.size=some (h,cap):=by have:=Xd (w:=w.drew) (.cells f h);have adY:w.drew.heap.size=w.heap.size:=rfl;rw[adY] at this;unfold World.shape?;rw[this];simp[G]
    simp only[execOp,D,p.1,convert,Sem.run_bind,run_underlying r,run_underlying y,run_underlying A,Result.andThen_ok,Conv.stringToBytes,run_choose];simp only[Question.forced,IY,if_false,Result.andThen_ok,Ch,F,newRow,Sem.run_bind,run_newObj,World.drew_eq,World.alloc_eq];have afA:(Array.map (λb:UInt8=>FJ IntKind.u8 ↑b.toNat) l.toArray++Array.replicate (cap - l.length) (FJ IntKind.u8 0))=f:=by simp[f]
    rw[afA];simp[markStringish,BR]
   ·refine⟨j.kept.os,j.kept.tape,j.kept.output,by rw[U];have:=j.kept.size;omega,λk V h3=>?_⟩;rw[T k (by have:=j.kept.size;omega)];exact j.kept.block k V h3
   ·refine⟨by simp,.inr ⟨w.heap.size,cap,f,by simp,by simpa using bN,by simpa using Jl,Jm,by simp[G], ?_⟩⟩;simp[f]
   ·intro β φ z;refine⟨DJ l.length [],⟨by simp,λi r' f' W hf=>?_⟩,by simp,by simp⟩;have I:i<l.length:=by have:=(E8.1 W).1;simpa using this
    have FT:r'=dc l[i]:=by simpa [I] using W.symm
    have Cd:f'=[]:=by have:=hf;rw[List.getElem?_replicate,if_pos I] at this;injection this with this;exact this.symm
    subst FT Cd;unfold dc;simp only[bj,Z8];refine⟨.int l[i].toNat,[],.int .u8 l[i].toNat,[],[],rfl, ?_,⟨_,rfl,rfl, ?_,rfl⟩,⟨rfl,rfl⟩,rfl⟩
    ·simp[I]
    ·rw[aL];have B:IntKind.u8.min=0:=by decide
     have V:IntKind.u8.max=255:=by decide
     have:=l[i].toNat_lt;omega
  ·simp at g
 ·simp at g
set_option linter.unusedVariables false
set_option linter.unusedSimpArgs false
def HP(w:aaj)(k:fG)(b:List DC)(v:aal)(c:List Nat):Prop:=∃a:List aal,(cond k.agg (v= .agg a.toArray) (a=[v]∧v.oneCell'=true))∧(∀x∈a,x.oneCell'=true)∧bj w k.bF b (λj=>a[j]?) c∧a.length=k.bF.length
def Gs(w:aaj):List fG→List DC→List aal→List Nat→Prop
 | [],ds,vs,fp=>ds=[]∧vs=[]∧fp=[]
 | k::ks,ds,vs,fp=>∃a b v c d e,ds=a++b∧vs=v::c∧HP w k a v d∧Gs w ks b c e∧fp=d++e
def eX(w:aaj):List Pj→List DC→List aal→List Nat→List Nat→List Nat→Prop
 | [],ds,vs,φ,im,tp=>ds=[]∧vs=[]∧φ=[]∧im=[]∧tp=[]
 | .eV c::cs,ds,vs,φ,im,tp=>∃d g v h k l,ds=d::g∧vs=v::h∧Z8 w c d v k∧eX w cs g h φ l tp∧im=k++l
 | .own t e::cs,ds,vs,φ,im,tp=>∃a g v h b m f i,ds= .sl a::g∧vs=v::h∧pz w t e.length false v a.length b∧Uv w e a b m∧
   eX w cs g h f im i∧φ=(v.ownBlock.toList++m.flatten)++f∧tp=v.ownBlock.toList++i
 | .deep t e ts::cs,ds,vs,φ,im,tp=>∃a g v h b j f i,ds= .sl a::g∧vs=v::h∧pz w t e.length false v a.length b∧Ni w e ts a b (λ_=>none) j∧
   eX w cs g h f im i∧φ=(v.ownBlock.toList++j.flatten)++f∧tp=(v.ownBlock.toList++j.flatten)++i
def tU(w:aaj):List ef→List DC→List aal→List Nat→List Nat→List Nat→Prop
 | [],ds,vs,φ,im,tp=>ds=[]∧vs=[]∧φ=[]∧im=[]∧tp=[]
 | k::ks,ds,vs,φ,im,tp=>∃b c v d a e f g h i j,ds=b++c∧vs=v::d∧(cond k.agg (v= .agg a.toArray) (a=[v]))∧(∀x∈a,x.oneCell'=true)∧eX w k.cells b a e g i∧
   tU w ks c d f h j∧φ=e++f∧im=g++h∧tp=i++j
def pack:List aal→aal
 | [x]=>x
 | l=> .tuple l.toArray
def Np(P:aak)(g:Nat)(s:C):Prop:=(∃fn,P.funcs[g]? =some fn∧fn.body.isSome=true∧(fn.name== "runtime.NumGoroutine")=false)∧ ∀(w:aaj) (c:List DC) (a:List aal) (d:List Nat),Gs w s.ps c a d→(s.fn c).1=true→ Calls P g a.toArray w λe w'=>∃f φ h i,e= .returned (pack f)∧Kept Own.none w w'∧tU w' s.rs (s.fn c).2 f φ h i∧φ.Nodup∧ (∀b∈φ,w.heap.size≤b∧b<w'.heap.size)∧∀b∈h,(b∈d∨w.heap.size≤b)∧b ∉ i
def w_(w:aaj):List CT→List aan→List DC→List aal→List Nat→Prop
 | [],ts,ds,us,mb=>ts=[]∧ds=[]∧us=[]∧mb=[]
 | .sl e::cs,ts,ds,us,mb=>∃t h a f v g b j i,ts=t::h∧ds= .sl a::f∧us=v::g∧Sw e=true∧pz w t e.length false v a.length b∧Uv w e a b j∧
   w_ w cs h f g i∧mb=v.ownBlock.toList++i
 | c::cs,ts,ds,us,mb=>∃d f v g,ds=d::f∧us=v::g∧Z8 w c d v []∧w_ w cs ts f g mb
def D5(w:aaj)(t:dy)(e:List CT)(b:List (List DC))(v:aal)(c:List Nat):Prop:=
 match t with
 | .flat t=>Sw e=true∧∃a f,pz w t e.length false v b.length a∧Uv w e b a f∧c=v.ownBlock.toList
 | .deep t its=>∃a d,pz w t e.length false v b.length a∧Ni w e its b a (λ_=>none) d∧c=v.ownBlock.toList++d.flatten
def rX(w:aaj):List CT→List dy→List DC→List aal→List Nat→Prop
 | [],ts,ds,us,mb=>ts=[]∧ds=[]∧us=[]∧mb=[]
 | .sl e::cs,ts,ds,us,mb=>∃t g a b v f h i,ts=t::g∧ds= .sl a::b∧us=v::f∧D5 w t e a v h∧rX w cs g b f i∧mb=h++i
 | c::cs,ts,ds,us,mb=>∃d b v f,ds=d::b∧us=v::f∧Z8 w c d v []∧rX w cs ts b f mb
def jM(w:aaj):List CT→List dy→List DC→List aal→List Nat→Prop
 | [],_,ds,us,mb=>ds=[]∧us=[]∧mb=[]
 | .sl e::cs,ts,ds,us,mb=>∃t c a d v b f g,ts=t::c∧ds= .sl a::d∧us=v::b∧D5 w t e a v f∧jM w cs c d b g∧mb=f++g
 | _::cs,ts,ds,us,mb=>∃v b,us=v::b∧jM w cs ts ds b mb
def xB(w:aaj)(k:fG):Option ka→List DC→aal→List Nat→List Nat→Prop
 | none,d,v,f,b=>HP w k d v f∧b=[]
 | some (.box t),d,v,f,b=>∃(g:Nat) (a:List aal),v= .pointer (some ⟨g,0,none⟩)∧w.heap[g]? =some (.cells a.toArray t (0,0))∧(∀x∈a,x.oneCell'=true)∧bj w k.bF d (λj=>a[j]?) f∧a.length=k.bF.length∧b=[g]
 | some (.rows ts),d,v,f,b=>∃a:List aal,(cond k.agg (v= .agg a.toArray) (a=[v]∧v.oneCell'=true))∧(∀x∈a,x.oneCell'=true)∧rX w k.bF ts d a b∧f=[]
 | some (.kv ts),d,v,f,b=>∃a:List aal,(cond k.agg (v= .agg a.toArray) (a=[v]∧v.oneCell'=true))∧(∀x∈a,x.oneCell'=true)∧rX w k.bF ts d a b∧f=[]
 | some (.cZ t ts),d,v,f,b=>∃(g:Nat) (a:List aal) (m:List Nat),v= .pointer (some ⟨g,0,none⟩)∧w.heap[g]? =some (.cells a.toArray t (0,0))∧(∀x∈a,x.oneCell'=true)∧rX w k.bF ts d a m∧b=g::m∧f=[]
def OO(w:aaj):List fG→List (Option ka)→List DC→List aal→List Nat→List Nat→Prop
 | [],ms,ds,vs,fp,mb=>ms=[]∧ds=[]∧vs=[]∧fp=[]∧mb=[]
 | k::ks,ms,ds,vs,fp,mb=>∃m a b c v d e f g h,ms=m::a∧ds=b++c∧vs=v::d∧xB w k m b v e g∧OO w ks a c d f h∧fp=e++f∧mb=g++h
def gh(w:aaj)(k:fG):Option ka→List DC→aal→List Nat→List Nat→Prop
 | none,d,_,im,b=>d=[]∧im=[]∧b=[]
 | some (.box t),d,v,im,b=>∃(g:Nat) (a:List aal),v= .pointer (some ⟨g,0,none⟩)∧w.heap[g]? =some (.cells a.toArray t (0,0))∧(∀x∈a,x.oneCell'=true)∧bj w k.bF d (λj=>a[j]?) im∧a.length=k.bF.length∧b=[g]
 | some (.rows ts),d,v,im,b=>∃a:List aal,(cond k.agg (v= .agg a.toArray) (a=[v]))∧jM w k.bF ts d a b∧im=[]
 | some (.kv _),d,_,im,b=>d=[]∧im=[]∧b=[]
 | some (.cZ t ts),d,v,im,b=>∃(g:Nat) (a:List aal) (m:List Nat),v= .pointer (some ⟨g,0,none⟩)∧w.heap[g]? =some (.cells a.toArray t (0,0))∧(∀x∈a,x.oneCell'=true)∧rX w k.bF ts d a m∧b=g::m∧im=[]
def qG(w:aaj):List fG→List (Option ka)→List DC→List aal→List Nat→List Nat→Prop
 | [],_,ds,vs,im,mb=>ds=[]∧vs=[]∧im=[]∧mb=[]
 | k::ks,ms,ds,vs,im,mb=>∃m a b c v d e f g h,ms=m::a∧ds=b++c∧vs=v::d∧gh w k m b v e g∧qG w ks a c d f h∧im=e++f∧mb=g++h
def fh(P:aak)(g:Nat)(s:C):Prop:=(∃fn,P.funcs[g]? =some fn∧fn.body.isSome=true∧(fn.name== "runtime.NumGoroutine")=false)∧ ∀(w:aaj) (f:List DC) (a:List aal) (h c:List Nat),OO w s.ps s.ms f a h c→c.Nodup→(∀b∈c,b ∉ h)→(s.fn f).1=true→ Calls P g a.toArray w λe w'=>∃j φ n k l i m d,e= .returned (pack j)∧(s.fn f).2=i++m∧i.length=U7 s.rs∧Kept ⟨λb=>b∈c,λ_=>False,[]⟩ w w'∧tU w' s.rs i j φ n k∧φ.Nodup∧ (∀b∈φ,(b∈c∨w.heap.size≤b)∧b<w'.heap.size)∧qG w' s.ps s.ms m a l d∧d.Nodup∧(∀b∈d,(b∈c∨w.heap.size≤b)∧b<w'.heap.size∧b ∉ φ)∧∀b∈l,(b∈h∨w.heap.size≤b)∧b ∉ k∧b ∉ d∧Tl s.ms=false
def VF(P:aak)(g:Nat)(s:C)(t:aan)(bF:List CT):Prop:=(∃fn,P.funcs[g]? =some fn∧fn.body.isSome=true∧(fn.name== "runtime.NumGoroutine")=false)∧ ∀(w:aaj) (d:List DC) (a:List aal) (f:List Nat),Gs w s.ps d a f→(s.fn d).1=true→ Calls P g a.toArray w λe w'=>∃(b:Nat) (c:List aal) (h:List Nat),e= .returned (.pointer (some ⟨b,0,none⟩))∧Kept Own.none w w'∧w.heap.size≤b∧b<w'.heap.size∧ w'.heap[b]? =some (.cells c.toArray t (0,0))∧(∀x∈c,x.oneCell'=true)∧bj w' bF (s.fn d).2 (λj=>c[j]?) h∧c.length=bF.length∧∀x∈h,(x∈f∨w.heap.size≤x)∧x≠b
def cX(P:aak)(g:Nat)(s:C):Prop:=
 bif s.Hl then True else
 match s.pt with
 | some (t,bF)=>VF P g s t bF
 | none=>
  match s.ms with
  | []=>Np P g s
  | _::_=>fh P g s
def qk(P:aak)(Γ:Ctx):Prop:=∀g s,F5 Γ g=some s→cX P g s
theorem G7(u:V w0 S f h β φ tm w):∀(p:List fG) (U:List X) (j:List aal) (q:List DC×yF),Z w (oa h β) β U j→(uD p U).val f h=some q→
  ∃D,Gs w p q.1 j D∧A8 h q.2∧∀b∈D,(¬oa h β b)∨∃x∈q.2,b∈SD h β x.1
 | [],[],j,q,hs,hq=>by simp only[uD,M.ab,Y] at hq;subst hq;simp only[Z] at hs;exact⟨[],⟨rfl,hs,rfl⟩,by simp[A8],by simp⟩
 | [],_::_,j,q,hs,hq=>by simp[uD] at hq
 | _::_,[],j,q,hs,hq=>by simp[uD] at hq
 | k::p,s::U,j,q,hs,hq=>by
  simp only[Z] at hs;obtain⟨v,l,rfl,y,N⟩:=hs;simp only[uD,M.ag,UI,M.ab,Y] at hq;obtain⟨g,i,E,afB,rfl⟩:=hq;obtain⟨F,P,Q,R⟩:=G7 u p U l E N afB;have z:∃a,HP w k g.1 v a∧A8 h g.2.1∧∀b∈a,(¬oa h β b)∨∃x∈g.2.1,b∈SD h β x.1:=by
   cases n:k.agg with
   | true=>
    cases s with
    | agg G=>
     simp only[n] at i;simp only[O] at y;obtain⟨H,rfl,I,r⟩:=y;obtain⟨a,m,A,B,_⟩:=Ok u k.bF G H g I i;have ahR:=Z.length _ _ I;have t:=QF _ _ _ i;exact⟨a,⟨H,by rw[n];rfl,r,m,by omega⟩,A,B⟩
    | _=>simp[n] at i
   | false=>
    have J:(cQ k.bF [s]).val f h=some g:=by
     cases s<;>simp only[n] at i<;>first | exact i | (simp at i)
    have T:Z w (oa h β) β [s] [v]:=by simp only[Z];exact⟨v,[],rfl,y,rfl⟩
    obtain⟨a,m,A,B,_⟩:=Ok u k.bF [s] [v] g T J;have t:=QF _ _ _ J;have r:v.oneCell'=true:=by
     cases K:k.bF with
     | nil=>rw[K] at t;simp at t
     | cons c G=>
      rw[K] at m;simp only[bj] at m;obtain⟨d,aik,aiQ,f1,f2,_,L,e,_⟩:=m;simp at L;subst L;exact e.one
    exact⟨a,⟨[v],by rw[n];exact⟨rfl,r⟩,by simpa using r,m,by simpa using t⟩,A,B⟩
  obtain⟨a,ahf,agV,W⟩:=z;refine⟨a++F,⟨g.1,E.1,v,l,a,F,rfl,rfl,ahf,P,rfl⟩,wz agV Q, ?_⟩;intro b o;rcases C5.1 o with o | o
  ·rcases W b o with e | ⟨x,C,e⟩
   ·exact .inl e
   ·exact .inr ⟨x,Ss _ C,e⟩
  ·rcases R b o with e | ⟨x,C,e⟩
   ·exact .inl e
   ·exact .inr ⟨x,wZ _ C,e⟩
structure YM where
 id:Nat
 t:aan
 e:List CT
 rows:List (List DC)
 v:aal
 aE:List (List Nat)
 ts:Option (List aan)
def YM.obj(x:YM):xC:=
 match x.ts with
 | none=> .row x.t x.e x.rows false true
 | some ts=> .deep x.t x.e ts x.rows none
def YM.bT(x:YM):List Nat:=x.v.ownBlock.toList++x.aE.flatten
def YM.ar(x:YM):List Nat:=
 match x.ts with
 | none=>x.v.ownBlock.toList
 | some _=>x.bT
def YM.ok(w:aaj)(x:YM):Prop:=
 match x.ts with
 | none=>∃a,pz w x.t x.e.length false x.v x.rows.length a∧Uv w x.e x.rows a x.aE
 | some ts=>∃a,pz w x.t x.e.length false x.v x.rows.length a∧Ni w x.e ts x.rows a (λ_=>none) x.aE
theorem YM.al(x:YM):∀b∈x.ar,b∈x.bT:=by
 intro b a;unfold YM.ar at a;split at a
 ·exact Ss _ a
 ·exact a
theorem YM.jA(x:YM){β:L}(a:β.val x.id=x.v)(b:β.nb x.id=x.aE.flatten):Vm.ar β x.id x.obj=x.ar:=by
 unfold YM.obj YM.ar;cases x.ts with
 | none=>simp[Vm.ar,a]
 | some ts=>simp[Vm.ar,a,b,YM.bT]
theorem YM.ids(x:YM):c4 x.obj=[]:=by unfold YM.obj;cases x.ts<;>rfl
theorem YM.Ke{w:aaj}{x:YM}(h:x.ok w){i:Nat→Prop}{β:L}(c:β.val x.id=x.v)(k:β.nb x.id=x.aE.flatten)(l:∀b∈x.aE.flatten,b ∉ x.ar→¬i b)(d:x.bT.Nodup):zC w i β x.id x.obj x.bT:=by
 unfold YM.ok at h;unfold YM.obj;cases e:x.ts with
 | none=>
  rw[e] at h;obtain⟨a,f,g⟩:=h;refine⟨a,x.aE,by rw[c];exact f,g,λb j=>l b j ?_,by rw[c];rfl⟩;unfold YM.ar;rw[e];intro m;unfold YM.bT at d;rw[DE] at d;exact d.2.2 b m b j rfl
 | some ts=>
  rw[e] at h;obtain⟨a,f,g⟩:=h;exact⟨a,x.aE,by rw[c];exact f,g,k,by rw[c];rfl⟩
def QJ:List YM→Nat→Option YM
 | [],_=>none
 | x::l,i=>if i=x.id then some x else QJ l i
theorem Pr{N:List YM}{j:Nat}{x:YM}(h:QJ N j=some x):x∈N∧x.id=j:=by
 induction N with
 | nil=>simp[QJ] at h
 | cons y l a=>
  simp only[QJ] at h;split at h
  ·rename_i b;injection h with h;subst h;exact⟨EB ..,b.symm⟩
  ·obtain⟨c,d⟩:=a h;exact⟨DO _ c,d⟩
theorem Qc{N:List YM}{x:YM}(a:x∈N)(b:(N.map (·.id)).Nodup):QJ N x.id=some x:=by
 induction N with
 | nil=>simp at a
 | cons y l c=>
  simp only[DD,List.nodup_cons] at b;simp only[QJ];rcases Dz.1 a with rfl | a
  ·simp
  ·have:x.id≠y.id:=λe=>b.1 (e ▸ G0 a);rw[if_neg this];exact c a b.2
def kl(N:List YM):List (Nat×Option xC):=N.map λx=>(x.id,some x.obj)
theorem Vr(N:List YM)(l:List (Nat×Option xC))(j:Nat):ji (kl N++l) h j=match QJ N j with | some x=>some x.obj | none=>ji l h j:=by
 induction N with
 | nil=>rfl
 | cons y N a=>
  simp only[kl,DD,Ey,ji,L9,QJ];split
  ·rfl
  ·exact a
def L.gD(β:L)(N:List YM):L:=⟨β.cY,λj=>match QJ N j with | some x=>x.v | none=>β.val j,β.hX,λj=>match QJ N j with | some x=>x.aE.flatten | none=>β.nb j⟩
theorem I8{N:List YM}(h:(N.flatMap YM.bT).Nodup):(∀x∈N,x.bT.Nodup)∧∀x∈N,∀y∈N,x≠y→∀b∈x.bT,b ∉ y.bT:=by
 induction N with
 | nil=>simp
 | cons z l j=>
  rw[Dn,DE] at h;obtain⟨k,m,g⟩:=h;obtain⟨n,o⟩:=j m;refine⟨λx a=>?_,λx a y p i b e f=>?_⟩
  ·rcases Dz.1 a with rfl | a
   ·exact k
   ·exact n x a
  ·rcases Dz.1 a with c | c<;>rcases Dz.1 p with d | d
   ·exact i (c.trans d.symm)
   ·subst c;exact g b e b (EL.2 ⟨y,d,f⟩) rfl
   ·subst d;exact g b f b (EL.2 ⟨x,c,e⟩) rfl
   ·exact o x c y d i b e f
theorem V.GM(n:V w0 S f h β φ tm w){w':aaj}{N:List YM}(H:w.heap.size≤w'.heap.size)(A:∀b,b<w.heap.size→w'.heap[b]? =w.heap[b]?)(I:w0.heap.size≤w.heap.size)
  (B:∀x∈N,h x.id=none∧(∀i,x.id ∉ zX (f i))∧∀k o,h k=some o→x.id ∉ c4 o) (J:∀x∈N,YM.ok w' x) (R:(N.map (·.id)).Nodup)
  (m:(N.flatMap YM.bT).Nodup) (t:∀b∈N.flatMap YM.bT,w.heap.size≤b∧b<w'.heap.size):
  V w0 S f (λj=>match QJ N j with | some x=>some x.obj | none=>h j) (β.gD N) (λj=>match QJ N j with | some x=>x.bT | none=>φ j) tm w':=by
 have u:∀x∈N,∀b∈x.bT,b∈N.flatMap YM.bT:=λx d b c=>EL.2 ⟨x,d,c⟩;have K:∀j e,QJ N j=none→ar (β.gD N) j e=ar β j e:=by intro j e a;cases e<;>simp[ar,L.gD,a]
 have Z:∀j x,QJ N j=some x→ar (β.gD N) j x.obj=x.ar:=by intro j x a;obtain⟨_,rfl⟩:=Pr a;exact x.jA (by simp[L.gD,a]) (by simp[L.gD,a])
 have C:∀b,oa (λj=>match QJ N j with | some x=>some x.obj | none=>h j) (β.gD N) b→oa h β b∨(w.heap.size≤b∧∃x∈N,b∈x.ar):=by
  rintro b (⟨j,e,a,p⟩ | c)
  case inr=>exact .inl (.inr c)
  cases g:QJ N j with
  | none=>
   simp only[g] at a;rw[K j e g] at p;exact .inl (.inl ⟨j,e,a,p⟩)
  | some x=>
   simp only[g,Y] at a;subst a;rw[Z j x g] at p;have d:=(Pr g).1;exact .inr ⟨(t b (u x d b (x.al b p))).1,x,d,p⟩
 refine n.AA (λj=>(QJ N j).isSome=true) H (λb c _=>A b c) (λb c=>(C b c).imp id (·.1)) ?_ ?_ ?_ ?_
 ·intro i j a d;obtain⟨x,d⟩:=G2.1 d;obtain⟨l,rfl⟩:=Pr d;exact (B x l).2.1 i a
 ·intro j a;have:QJ N j=none:=by simpa using a
  simp[L.gD,this]
 ·intro j e a;cases g:QJ N j with
  | none=>
   simp only[g] at a;refine .inl ⟨by simp[g],a,by simp[L.gD,g],by simp, ?_,λb c=>A b ?_⟩
   ·intro i q d;obtain⟨x,d⟩:=G2.1 d;obtain⟨l,rfl⟩:=Pr d;exact (B x l).2.2 j e a q
   ·exact ((n.fresh j e a).2 b (al (n.aC j e a) b c)).2
  | some x=>
   simp only[g,Y] at a;subst a;obtain⟨l,rfl⟩:=Pr g;refine .inr ⟨YM.Ke (J x l) (by simp[L.gD,g]) (by simp[L.gD,g]) ?_ ((I8 m).1 x l), ?_, ?_⟩
   ·intro b c M d;have D:b∈x.bT:=wZ _ c;have T:=(t b (u x l b D)).1;rcases C b d with O | ⟨_,y,P,r⟩
    ·have:=n.I5 I O;omega
    ·by_cases v:y=x
     ·subst v;exact M r
     ·exact (I8 m).2 y P x l v b (y.al b r) D
   ·exact (I8 m).1 x l
   ·intro b c;have:=t b (u x l b c);exact⟨.inl (by omega),this.2⟩
 ·intro i j E e F q a b c;cases z:QJ N i with
  | none=>
   simp only[z] at q c;cases s:QJ N j with
   | none=>
    simp only[s] at a ⊢;exact n.sep i j E e F q a b c
   | some y=>
    simp only;intro r;have:=(t b (u y (Pr s).1 b r)).1;have:=((n.fresh i E q).2 b c).2;omega
  | some x=>
   simp only[z] at q c;have G:=(Pr z).1;cases s:QJ N j with
   | none=>
    simp only[s] at a ⊢;intro p;have:=(t b (u x G b c)).1;have:=((n.fresh j e a).2 b p).2;omega
   | some y=>
    simp only;intro r;have Q:=(Pr s).1;have v:x≠y:=by
     rintro rfl
     exact F ((Pr z).2.symm.trans (Pr s).2)
    exact (I8 m).2 x G y Q v b c r
structure Yj where
 id:Nat
 obj:xC
 nb:List Nat
 bT:List Nat
def Hj:List Yj→Nat→Option Yj
 | [],_=>none
 | x::l,i=>if i=x.id then some x else Hj l i
theorem Gh{U:List Yj}{j:Nat}{x:Yj}(h:Hj U j=some x):x∈U∧x.id=j:=by
 induction U with
 | nil=>simp[Hj] at h
 | cons y l a=>
  simp only[Hj] at h;split at h
  ·rename_i b;injection h with h;subst h;exact⟨EB ..,b.symm⟩
  ·obtain⟨c,d⟩:=a h;exact⟨DO _ c,d⟩
theorem nhz{U:List Yj}{x:Yj}(a:x∈U):∃y,Hj U x.id=some y:=by
 induction U with
 | nil=>simp at a
 | cons y l b=>
  simp only[Hj];split
  ·exact⟨_,rfl⟩
  ·rename_i c;rcases Dz.1 a with rfl | a
   ·exact absurd rfl c
   ·exact b a
theorem nyC{U:List Yj}(h:(U.flatMap Yj.bT).Nodup):(∀x∈U,x.bT.Nodup)∧∀x∈U,∀y∈U,x.id≠y.id→∀b∈x.bT,b ∉ y.bT:=by
 induction U with
 | nil=>simp
 | cons z l j=>
  rw[Dn,DE] at h;obtain⟨k,m,g⟩:=h;obtain⟨n,o⟩:=j m;refine⟨λx a=>?_,λx a y p i b e f=>?_⟩
  ·rcases Dz.1 a with rfl | a
   ·exact k
   ·exact n x a
  ·rcases Dz.1 a with c | c<;>rcases Dz.1 p with d | d
   ·exact i (by rw[c,d])
   ·subst c;exact g b e b (EL.2 ⟨y,d,f⟩) rfl
   ·subst d;exact g b f b (EL.2 ⟨x,c,e⟩) rfl
   ·exact o x c y d i b e f
def L.cv(β:L)(N:List YM)(U:List Yj):L:=
 ⟨β.cY,λj=>match QJ N j with | some x=>x.v | none=>β.val j,β.hX,λj=>match QJ N j with | some x=>x.aE.flatten | none=>match Hj U j with | some x=>x.nb | none=>β.nb j⟩
def Yd(N:List YM)(U:List Yj)(D:List Nat)(h:Nat→Option xC)(j:Nat):Option xC:=
 match QJ N j with | some x=>some x.obj | none=>match Hj U j with | some x=>some x.obj | none=>if j∈D then none else h j
def Ao(N:List YM)(U:List Yj)(φ:Nat→List Nat)(j:Nat):List Nat:=
 match QJ N j with | some x=>x.bT | none=>match Hj U j with | some x=>x.bT | none=>φ j
theorem V.KO(r:V w0 S f h β φ tm w){w':aaj}{N:List YM}{U:List Yj}{D im mb:List Nat}(hs:w.heap.size≤w'.heap.size)(hk:w0.heap.size≤w.heap.size)
  (Z:∀b∈mb,∃i,((∃x∈U,x.id=i)∨i∈D)∧∃o,h i=some o∧b∈ar β i o)
  (hw:∀b,b<w.heap.size→b ∉ mb→w'.heap[b]? =w.heap[b]?)
  (hU:∀x∈U,∃o,h x.id=some o)
  (MR:∀x∈U,∀(av:Nat→Prop) (B:L),B.val x.id=β.val x.id→B.cY x.id=β.cY x.id→B.nb x.id=x.nb→(∀y∈N,B.val y.id=y.v)→(∀b∈im,¬av b)→zC w' av B x.id x.obj x.bT)
  (Mc:(U.flatMap Yj.bT).Nodup) (F:∀b∈U.flatMap Yj.bT,(b∈mb∨w.heap.size≤b)∧b<w'.heap.size∧b ∉ N.flatMap YM.bT)
  (kh:∀b∈im,¬oa (Yd N U D h) (β.cv N U) b) (AR:(N.map (·.id)).Nodup)
  (bP:∀x∈N,h x.id=none∧(∀i,x.id ∉ zX (f i))∧∀k o,h k=some o→x.id ∉ c4 o) (aN:∀x∈N,YM.ok w' x)
  (u:(N.flatMap YM.bT).Nodup) (W:∀b∈N.flatMap YM.bT,(b∈mb∨w.heap.size≤b)∧b<w'.heap.size):
  V w0 S f (Yd N U D h) (β.cv N U) (Ao N U φ) tm w':=by
 have G:∀x∈N,∀b∈x.bT,b∈N.flatMap YM.bT:=λx g b d=>EL.2 ⟨x,g,d⟩;have H:∀x∈U,∀b∈x.bT,b∈U.flatMap Yj.bT:=λx g b d=>EL.2 ⟨x,g,d⟩;have hUN:∀x∈U,QJ N x.id=none:=by
  intro x g;cases m:QJ N x.id with
  | none=>rfl
  | some y=>
   obtain⟨q,he⟩:=Pr m;obtain⟨o,s⟩:=hU x g;have:=(bP y q).1;rw[he,s] at this;cases this
 have mI:∀j c,QJ N j=none→Hj U j=none→ar (β.cv N U) j c=ar β j c:=by intro j c a l;cases c<;>simp[ar,L.cv,a,l]
 have kH:∀j x,QJ N j=some x→ar (β.cv N U) j x.obj=x.ar:=by intro j x a;obtain⟨_,rfl⟩:=Pr a;exact x.jA (by simp[L.cv,a]) (by simp[L.cv,a])
 have FR:∀j x,QJ N j=none→Hj U j=some x→zC w' (oa (Yd N U D h) (β.cv N U)) (β.cv N U) j x.obj x.bT:=by intro j x m l;obtain⟨q,rfl⟩:=Gh l;exact MR x q _ _ (by simp[L.cv,m]) rfl (by simp[L.cv,m,l]) (λy n=>by simp[L.cv,Qc n AR]) kh
 have FN:∀b∈mb,oa h β b:=by intro b d;obtain⟨i,_,o,s,K⟩:=Z b d;exact .inl ⟨i,o,s,K⟩
 have Ds:∀b∈mb,∃i o,h i=some o∧b∈φ i:=by intro b d;obtain⟨i,_,o,s,K⟩:=Z b d;exact⟨i,o,s,Vm.al (r.aC _ _ s) b K⟩
 have Kv:∀b,oa (Yd N U D h) (β.cv N U) b→oa h β b∨w.heap.size≤b:=by
  rintro b (⟨j,c,a,t⟩ | d)
  case inr=>exact .inl (.inr d)
  unfold Yd at a;cases m:QJ N j with
  | none=>
   simp only[m] at a;cases l:Hj U j with
   | none=>
    simp only[l] at a;split at a
    ·cases a
    rw[mI j c m l] at t;exact .inl (.inl ⟨j,c,a,t⟩)
   | some x=>
    simp only[l,Y] at a;subst a;have p:=Vm.al (FR j x m l) b t;rcases (F b (H x (Gh l).1 b p)).1 with E | E
    ·exact .inl (FN b E)
    ·exact .inr E
  | some x=>
   simp only[m,Y] at a;subst a;rw[kH j x m] at t;have g:=(Pr m).1;rcases (W b (G x g b (x.al b t))).1 with E | E
   ·exact .inl (FN b E)
   ·exact .inr E
 have afc:∀j c,h j=some c→(∀x∈U,x.id≠j)→j ∉ D→∀b∈φ j,b ∉ mb:=by
  intro j c a M u b d Jj;obtain⟨i,I,o,s,K⟩:=Z b Jj;refine r.sep i j o c (λe=>?_) s a b (Vm.al (r.aC _ _ s) b K) d;rcases I with ⟨x,g,hxi⟩ | I
  ·exact M x g (hxi.trans e)
  ·exact u (e ▸ I)
 have JU:∀b,(b∈mb∨w.heap.size≤b)→¬β.hX b:=by
  intro b d X;rcases d with d | d
  ·obtain⟨i,o,s,O⟩:=Ds b d;exact r.B0 s O X
  ·have:=(r.hX b X).1;omega
 have FK:∀j c,Hj U j=none→(if j∈D then none else h j)=some c→h j=some c∧j ∉ D:=by
  intro j c _ a;split at a
  ·cases a
  ·exact⟨a,by assumption⟩
 have P:∀j,Hj U j=none→∀x∈U,x.id≠j:=by intro j l x g he;obtain⟨y,n⟩:=nhz g;rw[he,l] at n;cases n
 refine r.AA (λj=>(QJ N j).isSome=true) hs ?_ Kv ?_ ?_ ?_ ?_
 ·intro b d hn;exact hw b d (λJj=>hn (FN b Jj))
 ·intro i j a g;obtain⟨x,g⟩:=G2.1 g;obtain⟨q,rfl⟩:=Pr g;exact (bP x q).2.1 i a
 ·intro j a;have:QJ N j=none:=by simpa using a
  simp[L.cv,this]
 ·intro j c a;unfold Yd at a;cases m:QJ N j with
  | none=>
   simp only[m] at a;cases l:Hj U j with
   | none=>
    simp only[l] at a;obtain⟨a,Q⟩:=FK j c l a;refine .inl ⟨by simp[m],a,by simp[L.cv,m,l],by simp[Ao,m,l], ?_,λb d=>?_⟩
    ·intro i I g;obtain⟨x,g⟩:=G2.1 g;obtain⟨q,rfl⟩:=Pr g;exact (bP x q).2.2 j c a I
    ·have R:=Vm.al (r.aC j c a) b d;exact hw b ((r.fresh j c a).2 b R).2 (afc j c a (P j l) Q b R)
   | some x=>
    simp only[l,Y] at a;subst a;have q:=(Gh l).1;refine .inr ⟨by simpa only[Ao,m,l] using FR j x m l,by simpa only[Ao,m,l] using (nyC Mc).1 x q, ?_⟩;simp only[Ao,m,l];intro b d;obtain⟨p,E,_⟩:=F b (H x q b d);refine⟨?_,E⟩;rcases p with p | p
    ·obtain⟨i,o,s,O⟩:=Ds b p;exact ((r.fresh _ _ s).2 b O).1
    ·exact .inl (by omega)
  | some x=>
   simp only[m,Y] at a;subst a;obtain⟨q,rfl⟩:=Pr m;refine .inr ⟨?_, ?_, ?_⟩
   ·simp only[Ao,m];refine YM.Ke (aN x q) (by simp[L.cv,m]) (by simp[L.cv,m]) ?_ ((I8 u).1 x q)
    rintro b d Gz g
    have R:b∈x.bT:=wZ _ d;have ail:=G x q b R;have T:=(W b ail).1;rcases g with ⟨j,c,a,t⟩ | X
    case inr=>exact JU b T X
    unfold Yd at a;cases J:QJ N j with
    | some y=>
     simp only[J,Y] at a;subst a;rw[kH j y J] at t;have n:=(Pr J).1;by_cases Bh:y=x
     ·subst Bh;exact Gz t
     ·exact (I8 u).2 y n x q Bh b (y.al b t) R
    | none=>
     simp only[J] at a;cases l:Hj U j with
     | some y=>
      simp only[l,Y] at a;subst a;have p:=Vm.al (FR j y J l) b t;exact (F b (H y (Gh l).1 b p)).2.2 ail
     | none=>
      simp only[l] at a;obtain⟨a,Q⟩:=FK j c l a;rw[mI j c J l] at t;have kz:=Vm.al (r.aC j c a) b t;rcases T with T | T
      ·exact afc j c a (P j l) Q b kz T
      ·have:=((r.fresh j c a).2 b kz).2;omega
   ·simp only[Ao,m];exact (I8 u).1 x q
   ·simp only[Ao,m];intro b d;have:=W b (G x q b d);refine⟨?_,this.2⟩;rcases this.1 with p | p
    ·obtain⟨i,o,s,O⟩:=Ds b p;exact ((r.fresh _ _ s).2 b O).1
    ·exact .inl (by omega)
 ·
  have C:∀j c,Yd N U D h j=some c→∀b∈Ao N U φ j,
    (∃x,QJ N j=some x∧b∈x.bT)∨(∃x,QJ N j=none∧Hj U j=some x∧b∈x.bT)∨(QJ N j=none∧Hj U j=none∧(h j=some c∧j ∉ D)∧b∈φ j):=by
   intro j c a b d;unfold Yd at a;unfold Ao at d;cases m:QJ N j with
   | some x=>simp only[m] at d;exact .inl ⟨x,rfl,d⟩
   | none=>
    simp only[m] at a d;cases l:Hj U j with
    | some x=>simp only[l] at d;exact .inr (.inl ⟨x,rfl,rfl,d⟩)
    | none=>simp only[l] at a d;exact .inr (.inr ⟨rfl,rfl,FK j c l a,d⟩)
  have Ge:∀b,b∈N.flatMap YM.bT→∀j c,Hj U j=none→h j=some c→j ∉ D→b∈φ j→False:=by
   intro b ail j c Cf a Q t;rcases (W b ail).1 with p | p
   ·exact afc j c a (P j Cf) Q b t p
   ·have:=((r.fresh j c a).2 b t).2;omega
  intro i j agW c M I a b d aB;rcases C i agW I b d with ⟨x,g,z⟩ | ⟨x,_,g,z⟩ | ⟨_,Mv,⟨g,Mt⟩,z⟩<;>rcases C j c a b aB with ⟨y,n,A⟩ | ⟨y,_,n,A⟩ | ⟨_,Mx,⟨n,Mw⟩,A⟩
  ·refine (I8 u).2 x (Pr g).1 y (Pr n).1 ?_ b z A
   rintro rfl
   exact M ((Pr g).2.symm.trans (Pr n).2)
  ·exact (F b (H y (Gh n).1 b A)).2.2 (G x (Pr g).1 b z)
  ·exact Ge b (G x (Pr g).1 b z) j c Mx n Mw A
  ·exact (F b (H x (Gh g).1 b z)).2.2 (G y (Pr n).1 b A)
  ·refine (nyC Mc).2 x (Gh g).1 y (Gh n).1 ?_ b z A;rw[(Gh g).2,(Gh n).2];exact M
  ·rcases (F b (H x (Gh g).1 b z)).1 with p | p
   ·exact afc j c n (P j Mx) Mw b A p
   ·have:=((r.fresh j c n).2 b A).2;omega
  ·exact Ge b (G y (Pr n).1 b A) i agW Mv g Mt z
  ·rcases (F b (H y (Gh n).1 b A)).1 with p | p
   ·exact afc i agW g (P i Mv) Mt b z p
   ·have:=((r.fresh i agW g).2 b z).2;omega
  ·exact r.sep i j agW c M g n b z A
theorem eX.length{w:aaj} :∀(o:List Pj) (a:List DC) (b:List aal) (φ f g:List Nat),eX w o a b φ f g→a.length=o.length
 | [],a,b,φ,f,g,h=>by simp only[eX] at h;simp[h.1]
 | .eV c::cs,a,b,φ,f,g,h=>by simp only[eX] at h;obtain⟨d,i,v,j,q,r,rfl,_,_,k,_⟩:=h;simp[eX.length cs i j _ _ _ k]
 | .own t e::cs,a,b,φ,f,g,h=>by simp only[eX] at h;obtain⟨l,i,v,j,m,s,n,p,rfl,_,_,_,k,_⟩:=h;simp[eX.length cs i j _ _ _ k]
 | .deep t e ts::cs,a,b,φ,f,g,h=>by simp only[eX] at h;obtain⟨l,i,v,j,m,u,n,p,rfl,_,_,_,k,_⟩:=h;simp[eX.length cs i j _ _ _ k]
theorem WJ{w':aaj}{d:Nat} :∀(F:List Pj) (k:Nat) (n:List DC) (u:List aal) (φ j o:List Nat),eX w' F n u φ j o→
  ∃N:List YM,(jX d k F n).2=kl N∧N.map (·.id)=(Fm k (P0 F)).map (Uc d)∧(∀x∈N,x.ok w')∧N.flatMap YM.bT=φ∧N.flatMap YM.ar=o∧
   ∀(l:Nat→Prop) (a:L),(∀x∈N,a.val x.id=x.v)→(∀b∈j,¬l b)→Z w' l a (jX d k F n).1 u
 | [],k,n,u,φ,j,o,h=>by simp only[eX] at h;obtain⟨rfl,rfl,rfl,rfl,rfl⟩:=h;exact⟨[],rfl,rfl,by simp,rfl,rfl,by simp[jX,Z]⟩
 | .eV c::cs,k,n,u,φ,j,o,h=>by simp only[eX] at h;obtain⟨x,y,v,m,M,J,rfl,rfl,p,z,rfl⟩:=h;obtain⟨N,q,A,B,C,D,E⟩:=WJ cs k y m φ J o z;refine⟨N,by simpa [jX] using q,by simpa [P0] using A,B,C,D,λl a r w=>?_⟩;simp only[jX,EM,EC,Z];exact⟨v,m,rfl,WH p (λb G=>w b (Ss _ G)),E l a r (λb G=>w b (wZ _ G))⟩
 | .own t e::cs,k,n,u,φ,j,o,h=>by
  simp only[eX] at h;obtain⟨f,y,v,m,g,K,s,H,rfl,rfl,p,z,I,rfl,rfl⟩:=h;obtain⟨N,q,A,B,C,D,E⟩:=WJ cs (k+1) y m s j H I;refine⟨⟨Uc d k,t,e,f,v,K,none⟩::N, ?_, ?_, ?_, ?_, ?_,λl a r w=>?_⟩
  ·simp[jX,kl,YM.obj,DC.cG] at q ⊢;exact q
  ·simp only[DD,P0,Is,A]
  ·intro x i;rcases Dz.1 i with rfl | i
   ·exact⟨g,p,z⟩
   ·exact B x i
  ·simp[Dn,C,YM.bT]
  ·simp[Dn,D,YM.ar]
  ·simp only[jX,EM,EC,Z];refine⟨v,m,rfl, ?_,E l a (λx i=>r x (DO _ i)) w⟩;simp only[O];exact⟨(r _ (EB ..)).symm,p.one⟩
 | .deep t e ts::cs,k,n,u,φ,j,o,h=>by
  simp only[eX] at h;obtain⟨f,y,v,m,g,T,s,H,rfl,rfl,p,z,I,rfl,rfl⟩:=h;obtain⟨N,q,A,B,C,D,E⟩:=WJ cs (k+1) y m s j H I;refine⟨⟨Uc d k,t,e,f,v,T,some ts⟩::N, ?_, ?_, ?_, ?_, ?_,λl a r w=>?_⟩
  ·simp[jX,kl,YM.obj,DC.cG] at q ⊢;exact q
  ·simp only[DD,P0,Is,A]
  ·intro x i;rcases Dz.1 i with rfl | i
   ·exact⟨g,p,z⟩
   ·exact B x i
  ·simp[Dn,C,YM.bT]
  ·simp[Dn,D,YM.ar,YM.bT]
  ·simp only[jX,EM,EC,Z];refine⟨v,m,rfl, ?_,E l a (λx i=>r x (DO _ i)) w⟩;simp only[O];exact⟨(r _ (EB ..)).symm,p.one⟩
theorem ntN{w':aaj}{d:Nat} :∀(j:List ef) (k:Nat) (e:List DC) (m:List aal) (φ n o:List Nat),tU w' j e m φ n o→
  ∃N:List YM,(vr d k j e).2=kl N∧N.map (·.id)=(Fm k (UG j)).map (Uc d)∧(∀x∈N,x.ok w')∧N.flatMap YM.bT=φ∧N.flatMap YM.ar=o∧
   ∀(f:Nat→Prop) (a:L),(∀x∈N,a.val x.id=x.v)→(∀b∈n,¬f b)→Z w' f a (vr d k j e).1 m
 | [],k,e,m,φ,n,o,h=>by simp only[tU] at h;obtain⟨rfl,rfl,rfl,rfl,rfl⟩:=h;exact⟨[],rfl,rfl,by simp,rfl,rfl,by simp[vr,Z]⟩
 | r::rs,k,e,m,φ,n,o,h=>by
  simp only[tU] at h;obtain⟨g,p,v,w,z,adZ,I,aeP,K,afd,M,rfl,rfl,s,afC,A,P,rfl,rfl,rfl⟩:=h;have B:=eX.length _ _ _ _ _ _ A;obtain⟨Q,R,S,T,U,V,W⟩:=WJ (d:=d) r.cells k g z adZ aeP afd A;obtain⟨X,Y,aiR,b3,b4,b5,b6⟩:=ntN (d:=d) rs (k+P0 r.cells) p w I K M P;have C:(g++p).take r.cells.length=g:=by rw[←B];simp
  have D:(g++p).drop r.cells.length=p:=by rw[←B];simp
  refine⟨Q++X, ?_, ?_, ?_,by simp[U,b4],by simp[V,b5],λf a E F=>?_⟩
  ·simp only[vr,C,D,R,Y,kl,EZ]
  ·rw[EZ,S,aiR,←EZ,Iu];rfl
  ·intro x c;rcases C5.1 c with c | c
   ·exact T x c
   ·exact b3 x c
  ·have i:=W f a (λx c=>E x (Ss _ c)) (λb t=>F b (Ss _ t));have s2:=b6 f a (λx c=>E x (wZ _ c)) (λb t=>F b (wZ _ t));simp only[vr,C,D,Z];refine⟨v,w,rfl, ?_,s2⟩;cases G:r.agg with
   | true=>
    rw[G,H] at s;subst s;simp only[H,O];exact⟨z,rfl,i,afC⟩
   | false=>
    rw[G,J] at s;subst s;simp only[J];generalize (jX d k r.cells g).1=q at i;cases q with
    | nil=>simp[Z] at i
    | cons y l=>
     simp only[Z] at i;obtain⟨v',l',u,e2,_⟩:=i;injection u with u;subst u;simpa using e2
theorem Gs.lt{w:aaj} :∀(d:List fG) (e:List DC) (f:List aal) (c:List Nat),Gs w d e f c→∀b∈c,b<w.heap.size
 | [],e,f,c,h=>by simp only[Gs] at h;simp[h.2.2]
 | k::d,e,f,c,h=>by
  simp only[Gs] at h;obtain⟨n,g,v,i,o,j,rfl,rfl,⟨p,_,_,l,_⟩,m,rfl⟩:=h;intro b a;rcases C5.1 a with a | a
  ·exact bj.lt _ _ _ _ l b a
  ·exact Gs.lt d g i j m b a
theorem eX.kN{w:aaj} :∀(q:List Pj) (f:List DC) (g:List aal) (φ b i:List Nat),Qy q=false→eX w q f g φ b i→b=[]
 | [],f,g,φ,b,i,_,h=>by simp only[eX] at h;exact h.2.2.2.1
 | .eV c::cs,f,g,φ,b,i,hn,h=>by
  simp only[eX] at h;obtain⟨d,j,v,l,r,x,rfl,_,a,s,rfl⟩:=h;have:r=[]∧Qy cs=false:=by
   cases c with
   | int k=>simp only[Z8] at a;obtain⟨n,_,_,_,e⟩:=a;exact⟨e,by simpa [Qy] using hn⟩
   | bool=>simp only[Z8] at a;obtain⟨n,_,_,e⟩:=a;exact⟨e,by simpa [Qy] using hn⟩
   | str=>simp only[Z8] at a;obtain⟨n,_,_,_,e⟩:=a;exact⟨e,by simpa [Qy] using hn⟩
   | sl e=>simp[Qy] at hn
  rw[this.1,eX.kN cs j l _ _ _ this.2 s];rfl
 | .own t e::cs,f,g,φ,b,i,hn,h=>by simp only[eX] at h;obtain⟨m,j,v,l,o,y,p,u,rfl,_,_,_,a,_⟩:=h;exact eX.kN cs j l _ _ _ (by simpa [Qy] using hn) a
 | .deep t e ts::cs,f,g,φ,b,i,hn,h=>by simp only[eX] at h;obtain⟨m,j,v,l,o,z,p,u,rfl,_,_,_,a,_⟩:=h;exact eX.kN cs j l _ _ _ (by simpa [Qy] using hn) a
theorem tU.kN{w:aaj} :∀(e:List ef) (b:List DC) (c:List aal) (φ a d:List Nat),(e.any λr=>Qy r.cells)=false→tU w e b c φ a d→a=[]
 | [],b,c,φ,a,d,_,h=>by simp only[tU] at h;exact h.2.2.2.1
 | r::rs,b,c,φ,a,d,hn,h=>by simp only[tU] at h;obtain⟨k,f,v,g,l,m,n,o,p,q,s,rfl,rfl,_,_,i,j,_,rfl,_⟩:=h;simp only[List.any_cons,Bool.or_eq_false_iff] at hn;rw[eX.kN _ _ _ _ _ _ hn.1 i,tU.kN rs f g _ _ _ hn.2 j];rfl
theorem Yk(c:V w0 S st.get st.obj β φ a.tmps w):∀(b:List aam) (U:List X),(yc b).val st.get st.obj=some U→Z w (oa st.obj β) β U (b.map a.eval)
 | [],U,h=>by simp[yc] at h;subst h;simp[Z]
 | x::b,U,h=>by simp only[yc,M.ag,UI,M.ab,Y] at h;obtain⟨s,d,r,e,rfl⟩:=h;simp only[DD,Z];exact⟨_,_,rfl,c.ev d,Yk c b r e⟩
theorem Nu{c:Call}{g:Nat}{fn:Func}(b:o.op= .call c)(d:c.callee= .value (.func g))(e:P.funcs[g]? =some fn)(j:fn.body.isSome=true)(f:(fn.name== "runtime.NumGoroutine")=false):
  (execOp a.eval o).run P w= .ok (.enter g (c.args.map a.eval)) w:=by
 have i:fn.body.isNone=false:=by cases h:fn.body<;>simp_all
 simp only[execOp,b,resolve,d,Act.eval,Deferred.ofValue,Sem.run_bind,Sem.run_pure,Result.andThen_ok,invoke,callFunc,run_program,e,f,i,IY,if_false];simp
theorem nbU(eW:qk P Γ){s:C}{g:Nat}(hs:F5 Γ g=some s)(ep:s.Hl=false)(Dw:s.pt=none)(Kz:s.ms=[])(acV:Rel w0 S st a w){d:Nat}(aM:o.dst=some d)(hd:sP st.n d)(ad0:e.ow≠[]→iC st d){c:Call}(ho:o.op= .call c)(hg:c.callee= .value (.func g)){l:List X}
  (hl:(yc c.args.toList).val st.get st.obj=some l) (t:(ov Γ (some d) g l).val st.get st.obj=some e) (aN:e.ok=true):R P w0 S st o e a w:=by
 unfold ov at t;rw[hs] at t;simp only[ep,J,Dw,Kz] at t;cases agy:Nat.blt (UG s.rs) 64
 ·simp[agy] at t
 simp only[agy,H,M.ag,UI] at t;obtain⟨r,hr,t⟩:=t;cases aim:(!(shares s) || Eg r.2)
 ·simp[aim] at t
 simp only[aim,H,M.ab,Y] at t;subst t;have agy:UG s.rs<64:=HN agy;have hH:Np P g s:=by have D:=eW g s hs;unfold cX at D;rw[ep,J,Dw] at D;simp only[Kz] at D;exact D
 obtain⟨⟨fn,hf,u,aiS⟩,Ad⟩:=hH;obtain⟨β,φ,aeQ⟩:=acV.core;obtain⟨fp,cr,iE,jU⟩:=G7 aeQ s.ps l _ r (Yk aeQ _ l hl) hr;have Mg:=Gs.lt _ _ _ _ cr;intro Q;unfold Oper.wp;rw[Nu ho hg hf u aiS,Oper.upon_enter];have CD:c.args.map a.eval=(c.args.toList.map a.eval).toArray:=by rw[←I1,H3]
 rw[CD];refine (Ad w r.1 _ fp cr aN).mono ?_
 rintro _ w' ⟨E,KK,T,tp,rfl,I,BP,hnd,AE,kh⟩
 obtain⟨N,n1,n2,n3,n4,n5,n6⟩:=ntN (d:=d) s.rs 0 _ E KK T tp BP;let M':yF:=cond (shares s) r.2 [];have K:A8 st.obj M'∧Eg M'=true:=by
  cases p:shares s with
  | true=>
   have:M'=r.2:=by simp[M',p]
   rw[this];exact⟨iE,by simpa [p] using aim⟩
  | false=>
   have:M'=[]:=by simp[M',p]
   rw[this];exact⟨by simp[A8],rfl⟩
 have afe:(cond (shares s) (Gj r.2) [])=Gj M':=by cases p:shares s<;>simp[M',p,Gj]
 have U:=aeQ.gr M' K.1 K.2;have Dr:∀x∈N,x.id / 64=d∧x.id∈N.map (·.id):=by intro x f;have hm:x.id∈N.map (·.id):=G0 f;refine⟨?_,hm⟩;rw[n2] at hm;obtain⟨j,z,gQ⟩:=GJ.1 hm;rw[←gQ];have:=I7.1 z;exact jG d j (by omega)
 have AR:(N.map (·.id)).Nodup:=by rw[n2];refine List.Pairwise.map _ ?_ (Jf ..);intro x y Bh e;unfold Uc at e;omega
 have hle:=acV.kept.size;have hw:∀b,b<w.heap.size→w'.heap[b]? =w.heap[b]? :=λb u=>I.block b u (λh=>h);have K1:=U.GM (N:=N) I.size hw hle ?_ n3 AR (by rw[n4];exact hnd) (by rw[n4];exact AE)
 ·have afD:∀x∈N,(β.gD N).val x.id=x.v:=by intro x f;simp[L.gD,Qc f AR]
  have Cu:∀b∈T,¬oa (λj=>match QJ N j with | some x=>some x.obj | none=>ji (Gj M') st.obj j) (β.gD N) b:=by
   rintro b u (⟨j,oj,z,bB⟩ | eU)
   case inr=>
    have agX:=kh b u;have Me:=(U.hX b eU).1;rcases agX.1 with Dp | AM
    ·cases p:shares s with
     | false=>
      have:T=[]:=tU.kN _ _ _ _ _ _ (by simpa [shares] using p) BP;rw[this] at u;simp at u
     | true=>
      have Hr:M'=r.2:=by simp[M',p]
      rcases jU b Dp with F | ⟨x,f,lx⟩
      ·exact F (.inr eU)
      ·exact ZZ aeQ K.1 (by rw[Hr];exact f) lx (.inr eU)
    ·omega
   have agX:=kh b u;cases G:QJ N j with
   | some x=>
    simp only[G,Y] at z;subst z;have f:=(Pr G).1;refine agX.2 ?_;rw[←n5];refine EL.2 ⟨x,f, ?_⟩;obtain⟨_,rfl⟩:=Pr G;rwa[x.jA (by simp[L.gD,G]) (by simp[L.gD,G])] at bB
   | none=>
    simp only[G] at z;have kz:b∈ar β j oj:=by
     cases oj<;>simp only[ar,L.gD,G] at bB ⊢ <;>exact bB
    have KZ:=((U.fresh j oj z).2 b (al (U.aC j oj z) b kz)).2;rcases agX.1 with Dp | AM
    ·cases p:shares s with
     | false=>
      have:T=[]:=tU.kN _ _ _ _ _ _ (by simpa [shares] using p) BP;rw[this] at u;simp at u
     | true=>
      have Hr:M'=r.2:=by simp[M',p]
      rcases jU b Dp with F | ⟨x,f,lx⟩
      ·exact F (Ty (.inl ⟨j,oj,z,kz⟩))
      ·exact ZZ aeQ K.1 (by rw[Hr];exact f) lx (.inl ⟨j,oj,z,kz⟩)
    ·omega
  have m:=n6 _ (β.gD N) afD Cu;have Cw:Kept S w0 w':=⟨I.os.trans acV.kept.os,I.tape.trans acV.kept.tape,I.output.trans acV.kept.output,by have:=I.size;omega,λk A B=>(hw k (by omega)).trans (acV.kept.block k A B)⟩;refine⟨pack E,rfl,L8 acV (λd' W=>by rw[aM] at W;injection W with W;exact W ▸ hd) Cw ⟨β.gD N,λj=>match QJ N j with | some x=>x.bT | none=>Wj φ M' j, ?_, ?_⟩⟩
  ·have:ji ((vr d 0 s.rs (s.fn r.1).2).2++(cond (shares s) (Gj r.2) [])) (ey none st.obj)=λj=>match QJ N j with | some x=>some x.obj | none=>ji (Gj M') st.obj j:=by funext j;rw[n1,afe,Vr];rfl
   show V w0 S st.get (ji ((vr d 0 s.rs (s.fn r.1).2).2++(cond (shares s) (Gj r.2) [])) (ey none st.obj)) _ _ _ _;rw[this];exact K1
  ·have:ji ((vr d 0 s.rs (s.fn r.1).2).2++(cond (shares s) (Gj r.2) [])) (ey none st.obj)=λj=>match QJ N j with | some x=>some x.obj | none=>ji (Gj M') st.obj j:=by funext j;rw[n1,afe,Vr];rfl
   show O w' (oa (ji ((vr d 0 s.rs (s.fn r.1).2).2++(cond (shares s) (Gj r.2) [])) (ey none st.obj)) (β.gD N)) (β.gD N) (ah (vr d 0 s.rs (s.fn r.1).2).1) (pack E);rw[this];generalize (vr d 0 s.rs (s.fn r.1).2).1=q at m
   match q,E,m with
   | [],E,m=>
    simp only[Z] at m;subst m;simp only[ah,pack,O];exact⟨[],rfl,by simp[Z]⟩
   | [x],E,m=>
    simp only[Z] at m;obtain⟨v,l',rfl,A,rfl⟩:=m;exact A
   | x::y::q,E,m=>
    have FW:=m;simp only[Z] at m;obtain⟨v,l',rfl,A,v2,l2,rfl,B,F⟩:=m;simp only[ah,pack];unfold O;exact⟨v::v2::l2,rfl,FW⟩
 ·intro x f;have A:=(Dr x f).1;have ad0:=ad0 (by
   show (vr d 0 s.rs (s.fn r.1).2).2++_≠[];rw[n1];intro D;rw[Iv] at D;have:N=[]:=by simpa [kl] using D.1
   rw[this] at f;simp at f)
  refine⟨?_,λi ahS=>ad0.slot i _ ahS A,λk ok Cw ahS=>?_⟩
  ·cases aiS:ji (Gj M') st.obj x.id with
   | none=>rfl
   | some ob=>
    rcases Pn aiS with B | ⟨e',r',rfl,y,hy,B⟩
    ·exact absurd A (ad0.obj _ ob B).1
    ·obtain⟨_,F,_⟩:=K.1 y hy;rw[B] at F;exact absurd A (ad0.obj _ _ F).1
  ·rcases Pn Cw with B | ⟨e',r',rfl,_⟩
   ·exact (ad0.obj k ok B).2 _ ahS A
   ·simp[c4] at ahS
def nM(β:L):HV→List Nat
 | .box id _ _=>[β.cY id]
 | .row id _ _ _=>(β.val id).ownBlock.toList
 | .deep id _ _ _=>(β.val id).ownBlock.toList++β.nb id
 | .gone id dp=>(β.val id).ownBlock.toList++(cond dp (β.nb id) [])
 | .cZ id _ _ _=>[β.cY id]
 | .mJ=>[]
def zG(b:Bool)(o:xC):Prop:=(b=false∧∃t e a u,Sw e=true∧o= .row t e a false u)∨(b=true∧∃t e c a,o= .deep t e c a none)
theorem zG.ar{b:Bool}{o:xC}(h:zG b o)(β:L)(id:Nat):ar β id o=nM β (.gone id b):=by rcases h with ⟨rfl,t,e,a,u,_,rfl⟩ | ⟨rfl,t,e,c,a,rfl⟩<;>simp[Vm.ar,nM]
def Fb(h:Nat→Option xC):List HV→Prop
 | []=>True
 | .box id t cs::l=>(∃a,h id=some (.box t a))∧Fb h l
 | .row id t e u::l=>(Sw e=true∧∃b,h id=some (.row t e b false u))∧Fb h l
 | .deep id t e ts::l=>(∃b,h id=some (.deep t e ts b none))∧Fb h l
 | .gone id dp::l=>(∃o,h id=some o∧zG dp o)∧Fb h l
 | .cZ id t cs ts::l=>(∃a,h id=some (.box t a))∧Fb h l
 | .mJ::l=>Fb h l
theorem Fb.append{U V:List HV}(a:Fb h U)(c:Fb h V):Fb h (U++V):=by
 induction U with
 | nil=>exact c
 | cons x l b=>
  cases x<;>simp only[Ey,Fb] at a ⊢
  ·exact⟨a.1,b a.2⟩
  ·exact⟨a.1,b a.2⟩
  ·exact⟨a.1,b a.2⟩
  ·exact⟨a.1,b a.2⟩
  ·exact⟨a.1,b a.2⟩
  ·exact b a
theorem Nk:∀ {U:List HV},jg U=true→Fb h U→(C0 U).flatMap (nM β)=U.flatMap (nM β)∧Fb h (C0 U)
 | [],_,_=>⟨rfl,trivial⟩
 | .row id t e u::l,hr,a=>by
  simp only[jg] at hr;simp only[Fb] at a;obtain⟨⟨g,b,f⟩,a⟩:=a;obtain⟨c,d⟩:=Nk hr a;refine⟨?_, ?_⟩
  ·simp only[C0,Dn,c,nM,J,Gl]
  ·simp only[C0,Fb];exact⟨⟨_,f,.inl ⟨rfl,t,e,b,u,g,rfl⟩⟩,d⟩
 | .deep id t e ts::l,hr,a=>by
  simp only[jg] at hr;simp only[Fb] at a;obtain⟨⟨b,f⟩,a⟩:=a;obtain⟨c,d⟩:=Nk hr a;refine⟨?_, ?_⟩
  ·simp only[C0,Dn,c,nM,H]
  ·simp only[C0,Fb];exact⟨⟨_,f,.inr ⟨rfl,t,e,ts,b,rfl⟩⟩,d⟩
 | .box _ _ _::l,hr,_=>by simp[jg] at hr
 | .gone _ _::l,hr,_=>by simp[jg] at hr
 | .cZ _ _ _ _::l,hr,_=>by simp[jg] at hr
 | .mJ::l,hr,a=>by simp only[jg] at hr;simp only[Fb] at a;obtain⟨c,d⟩:=Nk hr a;exact⟨by simp only[C0,Dn,c,nM,HY],d⟩
theorem UU(m:V w0 S f h β φ tm w):∀(l:List CT) (e:List aan) (U:List X) (y:List aal) (q:List DC×List HV),Z w (oa h β) β U y→(Gr l e U).val f h=some q→
  w_ w l e q.1 y (q.2.flatMap (nM β))∧Fb h q.2
 | [],e,U,y,q,hs,hq=>by
  cases e with
  | nil=>
   cases U with
   | nil=>
    simp only[Gr,M.ab,Y] at hq;subst hq;simp only[Z] at hs;exact⟨⟨rfl,rfl,hs,rfl⟩,trivial⟩
   | cons s U=>simp[Gr] at hq
  | cons t e=>simp[Gr] at hq
 | .int k::l,e,U,y,q,hs,hq=>by
  cases U with
  | nil=>simp[Gr] at hq
  | cons s U=>
   simp only[Z] at hs;obtain⟨v,i,rfl,j,z⟩:=hs;simp only[Gr,M.ag,UI,M.ab,Y] at hq;obtain⟨C,d,g,A,rfl⟩:=hq;obtain⟨F,o,_⟩:=km m j d;obtain⟨p,x⟩:=UU m l e U i g z A;refine⟨?_,x⟩;simp only[w_];refine⟨C.1,g.1,v,i,rfl,rfl, ?_,p⟩;simp only[Z8] at o ⊢;obtain⟨n,a,b,c,_⟩:=o;exact⟨n,a,b,c,trivial⟩
 | .bool::l,e,U,y,q,hs,hq=>by
  cases U with
  | nil=>simp[Gr] at hq
  | cons s U=>
   simp only[Z] at hs;obtain⟨v,i,rfl,j,z⟩:=hs;simp only[Gr,M.ag,UI,M.ab,Y] at hq;obtain⟨C,d,g,A,rfl⟩:=hq;obtain⟨F,o,_⟩:=km m j d;obtain⟨p,x⟩:=UU m l e U i g z A;refine⟨?_,x⟩;simp only[w_];refine⟨C.1,g.1,v,i,rfl,rfl, ?_,p⟩;simp only[Z8] at o ⊢;obtain⟨n,a,b,_⟩:=o;exact⟨n,a,b,trivial⟩
 | .str::l,e,U,y,q,hs,hq=>by
  cases U with
  | nil=>simp[Gr] at hq
  | cons s U=>
   simp only[Z] at hs;obtain⟨v,i,rfl,j,z⟩:=hs;simp only[Gr,M.ag,UI,M.ab,Y] at hq;obtain⟨C,d,g,A,rfl⟩:=hq;obtain⟨F,o,_⟩:=km m j d;obtain⟨p,x⟩:=UU m l e U i g z A;refine⟨?_,x⟩;simp only[w_];refine⟨C.1,g.1,v,i,rfl,rfl, ?_,p⟩;simp only[Z8] at o ⊢;obtain⟨n,a,b,c,_⟩:=o;exact⟨n,a,b,c,trivial⟩
 | .sl el::l,e,U,y,q,hs,hq=>by
  cases e with
  | nil=>simp[Gr] at hq
  | cons t e=>
   cases U with
   | nil=>simp[Gr] at hq
   | cons s U=>
    simp only[Z] at hs;obtain⟨v,i,rfl,j,z⟩:=hs;simp only[Gr,M.ag,UI,M.ab,Y] at hq;obtain⟨C,d,g,A,rfl⟩:=hq;obtain⟨p,x⟩:=UU m l e U i g z A;cases s with
    | nil=>
     simp only at d;cases E:Sw el
     ·simp[E] at d
     ·simp only[E,H,M.ab,Y] at d;subst d;simp only[O] at j;subst j;refine⟨?_,x⟩;simp only[w_];exact⟨t,e,[],g.1,_,i,[],[],g.2.flatMap (nM β),rfl,rfl,rfl,E,⟨by simp,.inl ⟨rfl,rfl,rfl⟩⟩,⟨rfl,by simp⟩,p,by simp[nM,ES]⟩
    | own id=>
     simp only[M.aY,UI] at d;obtain⟨T,G,d⟩:=d;cases T with
     | row t' e' r fz u=>
      cases fz with
      | true=>simp at d
      | false=>
       simp only at d;cases B:ED t' t && cB e' el && Sw el
       ·simp[B] at d
       ·simp only[B,H,M.ab,Y] at d;subst d;simp only[Bl] at B;have I:=Vs B.1.1;have J:=uG _ _ B.1.2;subst I;subst J;simp only[O] at j;obtain⟨D,K,L,N,_,_⟩:=m.aC id _ G;refine⟨?_,⟨⟨B.2,r,G⟩,x⟩⟩;simp only[w_];refine⟨t',e,r,g.1,v,i,D,K,g.2.flatMap (nM β),rfl,rfl,rfl,B.2,by rw[j.1];exact L,N,p, ?_⟩;simp only[Dn,nM,j.1]
     | box _ _=>simp at d
     | eV _ _=>simp at d
     | deep _ _ _ _ _=>simp at d
    | _=>simp at d
theorem D5.one{t:dy}{e:List CT}{a:List (List DC)}{v:aal}{c:List Nat}(h:D5 w t e a v c):v.oneCell'=true:=by
 cases t with
 | flat t=>
  obtain⟨_,_,_,b,_⟩:=h;exact b.one
 | deep t its=>
  obtain⟨_,_,b,_⟩:=h;exact b.one
theorem mN(y:V w0 S f h β φ tm w):∀(m:List CT) (e:List dy) (U:List X) (C:List aal) (q:List DC×List HV),Z w (oa h β) β U C→(wx m e U).val f h=some q→
  rX w m e q.1 C (q.2.flatMap (nM β))∧Fb h q.2
 | [],e,U,C,q,hs,hq=>by
  cases e with
  | nil=>
   cases U with
   | nil=>
    simp only[wx,M.ab,Y] at hq;subst hq;simp only[Z] at hs;exact⟨⟨rfl,rfl,hs,rfl⟩,trivial⟩
   | cons s U=>simp[wx] at hq
  | cons t e=>simp[wx] at hq
 | .int k::m,e,U,C,q,hs,hq=>by
  cases U with
  | nil=>simp[wx] at hq
  | cons s U=>
   simp only[Z] at hs;obtain⟨v,j,rfl,i,A⟩:=hs;simp only[wx,M.ag,UI,M.ab,Y] at hq;obtain⟨D,d,g,z,rfl⟩:=hq;obtain⟨L,B,_⟩:=km y i d;obtain⟨o,p⟩:=mN y m e U j g A z;refine⟨?_,p⟩;simp only[rX];refine⟨D.1,g.1,v,j,rfl,rfl, ?_,o⟩;simp only[Z8] at B ⊢;obtain⟨n,a,b,c,_⟩:=B;exact⟨n,a,b,c,trivial⟩
 | .bool::m,e,U,C,q,hs,hq=>by
  cases U with
  | nil=>simp[wx] at hq
  | cons s U=>
   simp only[Z] at hs;obtain⟨v,j,rfl,i,A⟩:=hs;simp only[wx,M.ag,UI,M.ab,Y] at hq;obtain⟨D,d,g,z,rfl⟩:=hq;obtain⟨L,B,_⟩:=km y i d;obtain⟨o,p⟩:=mN y m e U j g A z;refine⟨?_,p⟩;simp only[rX];refine⟨D.1,g.1,v,j,rfl,rfl, ?_,o⟩;simp only[Z8] at B ⊢;obtain⟨n,a,b,_⟩:=B;exact⟨n,a,b,trivial⟩
 | .str::m,e,U,C,q,hs,hq=>by
  cases U with
  | nil=>simp[wx] at hq
  | cons s U=>
   simp only[Z] at hs;obtain⟨v,j,rfl,i,A⟩:=hs;simp only[wx,M.ag,UI,M.ab,Y] at hq;obtain⟨D,d,g,z,rfl⟩:=hq;obtain⟨L,B,_⟩:=km y i d;obtain⟨o,p⟩:=mN y m e U j g A z;refine⟨?_,p⟩;simp only[rX];refine⟨D.1,g.1,v,j,rfl,rfl, ?_,o⟩;simp only[Z8] at B ⊢;obtain⟨n,a,b,c,_⟩:=B;exact⟨n,a,b,c,trivial⟩
 | .sl el::m,e,U,C,q,hs,hq=>by
  cases e with
  | nil=>simp[wx] at hq
  | cons t e=>
   cases U with
   | nil=>cases t<;>simp[wx] at hq
   | cons s U=>
    simp only[Z] at hs;obtain⟨v,j,rfl,i,A⟩:=hs;cases t with
    | flat t=>
     simp only[wx,M.ag,UI,M.ab,Y] at hq;obtain⟨D,d,g,z,rfl⟩:=hq;obtain⟨o,p⟩:=mN y m e U j g A z;cases s with
     | nil=>
      simp only at d;cases F:Sw el
      ·simp[F] at d
      ·simp only[F,H,M.ab,Y] at d;subst d;simp only[O] at i;subst i;refine⟨?_,p⟩;simp only[rX];exact⟨.flat t,e,[],g.1,_,j,[],g.2.flatMap (nM β),rfl,rfl,rfl,⟨F,[],[],⟨by simp,.inl ⟨rfl,rfl,rfl⟩⟩,⟨rfl,by simp⟩,by simp[ES]⟩,o,by simp[nM]⟩
     | own id=>
      simp only[M.aY,UI] at d;obtain⟨G,E,d⟩:=d;cases G with
      | row t' e' r fz u=>
       cases fz with
       | true=>simp at d
       | false=>
        simp only at d;cases l:ED t' t && cB e' el && Sw el
        ·simp[l] at d
        ·simp only[l,H,M.ab,Y] at d;subst d;simp only[Bl] at l;have aiT:=Vs l.1.1;have I:=uG _ _ l.1.2;subst aiT;subst I;simp only[O] at i;obtain⟨x,T,J,K,_,_⟩:=y.aC id _ E;refine⟨?_,⟨⟨l.2,r,E⟩,p⟩⟩;simp only[rX];refine⟨.flat t',e,r,g.1,v,j,v.ownBlock.toList,g.2.flatMap (nM β),rfl,rfl,rfl,⟨l.2,x,T,by rw[i.1];exact J,K,rfl⟩,o, ?_⟩;simp only[Dn,nM,i.1]
      | box _ _=>simp at d
      | eV _ _=>simp at d
      | deep _ _ _ _ _=>simp at d
     | _=>simp at d
    | deep t its=>
     simp only[wx,M.ag,UI,M.ab,Y] at hq;obtain⟨D,d,g,z,rfl⟩:=hq;obtain⟨o,p⟩:=mN y m e U j g A z;cases s with
     | nil=>
      simp only[M.ab,Y] at d;subst d;simp only[O] at i;subst i;refine⟨?_,p⟩;simp only[rX];exact⟨.deep t its,e,[],g.1,_,j,[],g.2.flatMap (nM β),rfl,rfl,rfl,⟨[],[],⟨by simp,.inl ⟨rfl,rfl,rfl⟩⟩,⟨rfl,by simp⟩,by simp[ES]⟩,o,by simp[nM]⟩
     | own id=>
      simp only[M.aY,UI] at d;obtain⟨G,E,d⟩:=d;cases G with
      | deep t' e' eu r hl=>
       cases hl with
       | some _=>simp at d
       | none=>
        simp only at d;cases l:ED t' t && cB e' el && UW eu its
        ·simp[l] at d
        ·simp only[l,H,M.ab,Y] at d;subst d;simp only[Bl] at l;have aiT:=Vs l.1.1;have I:=uG _ _ l.1.2;have P:=Xo _ _ l.2;subst aiT;subst I;subst P;simp only[O] at i;obtain⟨x,N,J,K,Q,_⟩:=y.aC id _ E;refine⟨?_,⟨⟨r,E⟩,p⟩⟩;simp only[rX];refine⟨.deep t' eu,e,r,g.1,v,j,v.ownBlock.toList++N.flatten,g.2.flatMap (nM β),rfl,rfl,rfl,⟨x,N,by rw[i.1];exact J,K,rfl⟩,o, ?_⟩;simp only[Dn,nM,i.1,Q]
      | box _ _=>simp at d
      | eV _ _=>simp at d
      | row _ _ _ _ _=>simp at d
     | _=>simp at d
theorem nlE(y:V w0 S f h β φ tm w){k:fG}{l:List dy}{s:X}{v:aal}{e:List DC×List HV}(n:O w (oa h β) β s v)(g:(Ui k l s).val f h=some e):
  (∃i:List aal,(cond k.agg (v= .agg i.toArray) (i=[v]∧v.oneCell'=true))∧(∀x∈i,x.oneCell'=true)∧rX w k.bF l e.1 i (e.2.flatMap (nM β)))∧Fb h e.2:=by
 unfold Ui at g;cases o:k.agg with
 | true=>
  cases s with
  | agg z=>
   simp only[o] at g;simp only[O] at n;obtain⟨i,rfl,C,m⟩:=n;obtain⟨a,p⟩:=mN y k.bF l z i e C g;exact⟨⟨i,rfl,m,a⟩,p⟩
  | _=>simp[o] at g
 | false=>
  have D:(wx k.bF l [s]).val f h=some e:=by
   cases s<;>simp only[o] at g<;>first | exact g | (simp at g)
  have E:Z w (oa h β) β [s] [v]:=by simp only[Z];exact⟨v,[],rfl,n,rfl⟩
  obtain⟨a,p⟩:=mN y k.bF l [s] [v] e E D;have m:v.oneCell'=true:=by
   cases A:k.bF with
   | nil=>rw[A] at a;simp only[rX] at a;simp at a
   | cons c z=>
    rw[A] at a;cases c with
    | sl el=>
     simp only[rX] at a;obtain⟨t,F,B,q,r,u,G,H,_,_,b,j,_⟩:=a;injection b with b;subst b;exact j.one
    | int _=>simp only[rX] at a;obtain⟨d,q,r,u,_,b,j,_⟩:=a;injection b with b;subst b;exact j.one
    | bool=>simp only[rX] at a;obtain⟨d,q,r,u,_,b,j,_⟩:=a;injection b with b;subst b;exact j.one
    | str=>simp only[rX] at a;obtain⟨d,q,r,u,_,b,j,_⟩:=a;injection b with b;subst b;exact j.one
  exact⟨⟨[v],⟨rfl,m⟩,by simpa using m,a⟩,p⟩
theorem yO(i:V w0 S f h β φ tm w):∀(B:List fG) (e:List (Option ka)) (U:List X) (L:List aal) (q:List DC×yF×List HV),Z w (oa h β) β U L→(zI B e U).val f h=some q→
  ∃fp,OO w B e q.1 L fp (q.2.2.flatMap (nM β))∧A8 h q.2.1∧Fb h q.2.2∧∀b∈fp,(¬oa h β b)∨∃x∈q.2.1,b∈SD h β x.1
 | [],e,U,L,q,hs,a=>by
  cases e with
  | nil=>
   cases U with
   | nil=>
    simp only[zI,M.ab,Y] at a;subst a;simp only[Z] at hs;exact⟨[],⟨rfl,rfl,hs,rfl,rfl⟩,by simp[A8],trivial,by simp⟩
   | cons s U=>simp[zI] at a
  | cons m e=>simp[zI] at a
 | k::B,e,U,L,q,hs,a=>by
  cases e with
  | nil=>simp[zI] at a
  | cons m e=>
   cases U with
   | nil=>cases m with
    | none=>simp[zI] at a
    | some m=>cases m<;>simp[zI] at a
   | cons s U=>
    simp only[Z] at hs;obtain⟨v,l,rfl,C,ad1⟩:=hs;cases m with
    | none=>
     simp only[zI,M.ag,UI,M.ab,Y] at a;obtain⟨c,n,d,p,rfl⟩:=a;obtain⟨g,r,u,y,z⟩:=yO i B e U l d ad1 p;have mu:(uD [k] [s]).val f h=some (c.1++[],c.2.1++[]):=by simp only[uD,M.ag,UI,M.ab,Y];exact⟨c,n,([],[]),rfl,rfl⟩
     have iW:Z w (oa h β) β [s] [v]:=by simp only[Z];exact⟨v,[],rfl,C,rfl⟩
     obtain⟨Q,N,R,I⟩:=G7 i [k] [s] [v] _ iW mu;simp only[Gl] at N R I;obtain⟨d1,d2,v',c9,f1,f2,afE,P,N,⟨rfl,rfl,rfl⟩,rfl⟩:=N;simp only[Gl] at afE I;simp only[List.cons.injEq,and_true] at P;subst P;subst afE;refine⟨f1++g,⟨none,e,c.1,d.1,v,l,f1,g,[],d.2.2.flatMap (nM β),rfl,rfl,rfl,⟨N,rfl⟩,r,rfl,rfl⟩,wz R u,y, ?_⟩;intro b j;rcases C5.1 j with j | j
     ·rcases I b j with o | ⟨x,F,o⟩
      ·exact .inl o
      ·exact .inr ⟨x,Ss _ F,o⟩
     ·rcases z b j with o | ⟨x,F,o⟩
      ·exact .inl o
      ·exact .inr ⟨x,wZ _ F,o⟩
    | some m=>
     cases m with
     | box t=>
      cases s with
      | ptr id off=>
       cases off with
       | succ off=>simp[zI] at a
       | zero=>
        simp only[zI,M.aY,UI] at a;obtain⟨T,J,a⟩:=a;cases T with
        | box t' cells=>
         simp only at a;cases D:ED t' t
         ·simp[D] at a
         ·have ahg:=Vs D;subst ahg;simp only[D,H,M.ag,UI] at a;obtain⟨c,n,a⟩:=a;cases agY:c.2.1.isEmpty
          ·simp[agY] at a
          ·simp only[agY,H,M.ag,UI,M.ab,Y] at a;obtain⟨d,p,rfl⟩:=a;obtain⟨g,r,u,y,z⟩:=yO i B e U l d ad1 p;obtain⟨A,K,G,W,_⟩:=i.aC id _ J;obtain⟨Q,hr,R,I,_⟩:=Ok i k.bF cells A c G n;have hl:=Z.length _ _ G;have kD:=QF _ _ _ n;simp only[O] at C;have Ls:c.2.1=[]:=List.isEmpty_iff.1 agY;refine⟨Q++g,⟨some (.box t'),e,c.1,d.1,v,l,Q,g,[β.cY id],d.2.2.flatMap (nM β),rfl,rfl,rfl,⟨β.cY id,A,C,K,W,hr,by omega,rfl⟩,r,rfl,by simp[nM]⟩,u,⟨⟨cells,J⟩,y⟩, ?_⟩;intro b j;rcases C5.1 j with j | j
           ·rcases I b j with o | ⟨x,F,o⟩
            ·exact .inl o
            ·rw[Ls] at F;simp at F
           ·exact z b j
        | row _ _ _ _ _=>simp at a
        | eV _ _=>simp at a
        | deep _ _ _ _ _=>simp at a
      | _=>simp[zI] at a
     | rows ts=>
      simp only[zI,M.ag,UI,M.ab,Y] at a;obtain⟨c,n,d,p,rfl⟩:=a;obtain⟨g,r,u,y,z⟩:=yO i B e U l d ad1 p;obtain⟨⟨A,ahT,ain,aiU⟩,a4⟩:=nlE i C n;refine⟨g,⟨some (.rows ts),e,c.1,d.1,v,l,[],g,c.2.flatMap (nM β),d.2.2.flatMap (nM β),rfl,rfl,rfl,⟨A,ahT,ain,aiU,rfl⟩,r,rfl,by simp⟩,u,a4.append y,z⟩
     | kv ts=>
      simp only[zI,M.ag,UI] at a;obtain⟨c,n,a⟩:=a;cases E:jg c.2
      ·simp[E] at a
      simp only[E,H,M.ag,UI,M.ab,Y] at a;obtain⟨d,p,rfl⟩:=a;obtain⟨g,r,u,y,z⟩:=yO i B e U l d ad1 p;obtain⟨⟨A,ahT,ain,aiU⟩,a4⟩:=nlE i C n;obtain⟨K,G⟩:=Nk (β:=β) E a4;refine⟨g,⟨some (.kv ts),e,c.1,d.1,v,l,[],g,c.2.flatMap (nM β),d.2.2.flatMap (nM β),rfl,rfl,rfl,⟨A,ahT,ain,aiU,rfl⟩,r,rfl,by rw[G5,K]⟩,u,G.append y,z⟩
     | cZ t ts=>
      cases s with
      | ptr id off=>
       cases off with
       | succ off=>simp[zI] at a
       | zero=>
        simp only[zI,M.aY,UI] at a;obtain⟨T,J,a⟩:=a;cases T with
        | box t' cells=>
         simp only at a;cases D:ED t' t
         ·simp[D] at a
         ·have ahg:=Vs D;subst ahg;simp only[D,H,M.ag,UI] at a;obtain⟨c,n,a⟩:=a;cases E:jg c.2
          ·simp[E] at a
          simp only[E,H,M.ag,UI,M.ab,Y] at a;obtain⟨d,p,rfl⟩:=a;obtain⟨g,r,u,y,z⟩:=yO i B e U l d ad1 p;obtain⟨A,K,G,W,_⟩:=i.aC id _ J;obtain⟨r1,r2⟩:=mN i k.bF ts cells A c G n;obtain⟨afE,P⟩:=Nk (β:=β) E r2;simp only[O] at C;refine⟨g,⟨some (.cZ t' ts),e,c.1,d.1,v,l,[],g,β.cY id::c.2.flatMap (nM β),d.2.2.flatMap (nM β),rfl,rfl,rfl,⟨β.cY id,A,_,C,K,W,r1,rfl,rfl⟩,r,rfl, ?_⟩,u,⟨⟨cells,J⟩,P.append y⟩,z⟩;simp only[Dn,G5,afE,nM,Ey,HY]
        | row _ _ _ _ _=>simp at a
        | eV _ _=>simp at a
        | deep _ _ _ _ _=>simp at a
      | _=>simp[zI] at a
variable {w w':aaj}
def iP(d:Nat):Nat→List HV→List DC→List (Nat×xC)
 | _,[],_=>[]
 | k,.box id t cs::l,ds=>(id,.box t (C4 cs ds 0))::iP d k l (ds.drop cs.length)
 | k,.row id t e u::l,ds=>(id,.row t e (ds.headD default).cG false u)::iP d k l ds.tail
 | k,.deep id t e ts::l,ds=>(id,.deep t e ts (ds.headD default).cG none)::iP d k l ds.tail
 | k,.gone _ _::l,ds=>iP d k l ds
 | k,.cZ id t cs ts::l,ds=>(id,.box t (sV d k cs ts ds).1)::iP d (k+Qn cs) l (ds.drop cs.length)
 | k,.mJ::l,ds=>iP d k l ds.tail
theorem Rr{d:Nat} :∀(k:Nat) (U:List HV) (a:List DC),BW d k U a=(iP d k U a).map λx=>(x.1,some x.2)
 | _,[],_=>rfl
 | k,.box id t cs::l,a=>by simp only[BW,iP,DD,Rr k l]
 | k,.row id t e u::l,a=>by simp only[BW,iP,DD,Rr k l]
 | k,.deep id t e ts::l,a=>by simp only[BW,iP,DD,Rr k l]
 | k,.gone id dp::l,a=>by simp only[BW,iP,Rr k l]
 | k,.cZ id t cs ts::l,a=>by simp only[BW,iP,DD,Rr (k+Qn cs) l]
 | k,.mJ::l,a=>by simp only[BW,iP,Rr k l]
def Er:List HV→List Nat
 | []=>[]
 | .box id _ _::l=>id::Er l
 | .row id _ _ _::l=>id::Er l
 | .deep id _ _ _::l=>id::Er l
 | .gone _ _::l=>Er l
 | .cZ id _ _ _::l=>id::Er l
 | .mJ::l=>Er l
theorem nE{i:Nat} :∀(U:List HV),(i∈gk U↔i∈Er U∨i∈wO U)
 | []=>by simp[gk,Er,wO]
 | .box id _ _::l=>by simp only[gk,Er,wO,Dz,nE l,or_assoc]
 | .row id _ _ _::l=>by simp only[gk,Er,wO,Dz,nE l,or_assoc]
 | .deep id _ _ _::l=>by simp only[gk,Er,wO,Dz,nE l,or_assoc]
 | .gone id _::l=>by
  simp only[gk,Er,wO,Dz,nE l];constructor
  ·rintro (h | h | h)
   ·exact .inr (.inl h)
   ·exact .inl h
   ·exact .inr (.inr h)
  ·rintro (h | h | h)
   ·exact .inr (.inl h)
   ·exact .inl h
   ·exact .inr (.inr h)
 | .cZ id _ _ _::l=>by simp only[gk,Er,wO,Dz,nE l,or_assoc]
 | .mJ::l=>by simp only[gk,Er,wO,nE l]
theorem Xj{d:Nat} :∀(k:Nat) (U:List HV) (a:List DC),(iP d k U a).map (·.1)=Er U
 | _,[],_=>rfl
 | k,.box id t cs::l,a=>by simp only[iP,Er,DD,Xj k l]
 | k,.row id t e u::l,a=>by simp only[iP,Er,DD,Xj k l]
 | k,.deep id t e ts::l,a=>by simp only[iP,Er,DD,Xj k l]
 | k,.gone id dp::l,a=>by simp only[iP,Er,Xj k l]
 | k,.cZ id t cs ts::l,a=>by simp only[iP,Er,DD,Xj (k+Qn cs) l]
 | k,.mJ::l,a=>by simp only[iP,Er,Xj k l]
def rS:List HV→Nat
 | []=>0
 | .box _ _ cs::l=>cs.length+rS l
 | .row _ _ _ _::l=>1+rS l
 | .deep _ _ _ _::l=>1+rS l
 | .gone _ _::l=>rS l
 | .cZ _ _ cs _::l=>cs.length+rS l
 | .mJ::l=>1+rS l
theorem sY:∀(a:List CT) (b d:List DC) (k:Nat),k+a.length≤b.length→C4 a (b++d) k=C4 a b k
 | [],_,_,_,_=>rfl
 | c::a,b,d,k,h=>by
  simp only[C4];simp only[I_] at h;rw[sY a b d (k+1) (by omega)]
  congr 2
  simp only[List.getD_eq_getElem?_getD];rw[E1 (by omega)]
theorem ncj{d:Nat} :∀(k:Nat) (b:List CT) (e:List dy) (a f:List DC),b.length≤a.length→sV d k b e (a++f)=sV d k b e a
 | _,[],_,_,_,_=>rfl
 | k,c::b,e,a,f,hl=>by
  cases a with
  | nil=>simp at hl
  | cons x a=>
   have g:b.length≤a.length:=by simpa using hl
   cases c<;>simp only[Ey,sV,EM,EC]<;>rw[ncj _ b _ a f g]
theorem Zc{d:Nat} :∀(k:Nat) (U V:List HV) (a b:List DC),rS U=a.length→iP d k (U++V) (a++b)=iP d k U a++iP d (k+rk U) V b∧PF d k (U++V) (a++b)=PF d k U a++PF d (k+rk U) V b
 | k,[],V,a,b,hl=>by have:a=[]:=Jk.1 hl.symm;subst this;exact⟨rfl,rfl⟩
 | k,.box id t cs::l,V,a,b,hl=>by simp only[rS] at hl;obtain⟨c,f⟩:=Zc (d:=d) k l V (a.drop cs.length) b (by simp;omega);simp only[Ey,iP,PF,rk];rw[sY _ _ _ _ (by omega),Ix (by omega),c,f];exact⟨rfl,rfl⟩
 | k,.row id t e u::l,V,a,b,hl=>by
  simp only[rS] at hl;cases a with
  | nil=>simp at hl
  | cons x a=>
   obtain⟨c,f⟩:=Zc (d:=d) k l V a b (by simp at hl;omega);simp only[Ey,iP,PF,rk,EM,EC,c,f,and_self]
 | k,.deep id t e ts::l,V,a,b,hl=>by
  simp only[rS] at hl;cases a with
  | nil=>simp at hl
  | cons x a=>
   obtain⟨c,f⟩:=Zc (d:=d) k l V a b (by simp at hl;omega);simp only[Ey,iP,PF,rk,EM,EC,c,f,and_self]
 | k,.gone id dp::l,V,a,b,hl=>by simp only[rS] at hl;obtain⟨c,f⟩:=Zc (d:=d) k l V a b hl;simp only[Ey,iP,PF,rk,c,f,and_self]
 | k,.cZ id t cs ts::l,V,a,b,hl=>by simp only[rS] at hl;obtain⟨c,f⟩:=Zc (d:=d) (k+Qn cs) l V (a.drop cs.length) b (by simp;omega);simp only[Ey,iP,PF,rk];rw[ncj _ _ _ _ _ (by omega),Ix (by omega),c,f,←Gy,FB];exact⟨rfl,rfl⟩
 | k,.mJ::l,V,a,b,hl=>by
  simp only[rS] at hl;cases a with
  | nil=>simp at hl
  | cons x a=>
   obtain⟨c,f⟩:=Zc (d:=d) k l V a b (by simp at hl;omega);simp only[Ey,iP,PF,rk,EC,c,f,and_self]
theorem Og:∀(a:List CT) (r:List DC) (g:Nat→Option aal) (f:List Nat),Sw a=true→bj w a r g f→f=[]
 | [],r,g,f,_,h=>by simp only[bj] at h;exact h.2
 | c::a,r,g,f,hf,h=>by
  simp only[bj] at h;obtain⟨d,i,v,m,j,rfl,_,b,l,rfl⟩:=h;cases c with
  | sl e=>simp[Sw] at hf
  | int k=>
   simp only[Z8] at b;obtain⟨_,_,_,_,rfl⟩:=b;rw[Og a i _ j (by simpa [Sw] using hf) l];rfl
  | bool=>
   simp only[Z8] at b;obtain⟨_,_,_,rfl⟩:=b;rw[Og a i _ j (by simpa [Sw] using hf) l];rfl
  | str=>
   simp only[Z8] at b;obtain⟨_,_,_,_,rfl⟩:=b;rw[Og a i _ j (by simpa [Sw] using hf) l];rfl
theorem eT{e:List CT}{a:List (List DC)}{b:List aal}{c:List (List Nat)}(d:Sw e=true)(h:Uv w e a b c):c.flatten=[]:=by
 rw[IU];intro l f;obtain⟨i,g,rfl⟩:=IW f;have j:i<a.length:=by have:=h.1;omega
 exact Og e _ _ _ d (h.2 i a[i] c[i] (by simp) (by simp))
theorem ku{d:Nat} :∀(k:Nat) (c:List CT) (f:List dy) (m:List DC) (q:List aal) (j:List Nat),rX w' c f m q j→
  ∃N:List YM,(sV d k c f m).2=kl N∧N.map (·.id)=(Fm k (Qn c)).map (Uc d)∧(∀x∈N,x.ok w')∧N.flatMap YM.bT=j∧m.length=c.length∧
   ∀(l:Nat→Prop) (a:L),(∀x∈N,a.val x.id=x.v)→Z w' l a (sV d k c f m).1 q
 | k,[],f,m,q,j,b=>by simp only[rX] at b;obtain⟨rfl,rfl,rfl,rfl⟩:=b;exact⟨[],rfl,rfl,by simp,rfl,rfl,λl a _=>by simp[sV,Z]⟩
 | k,.int x::c,f,m,q,j,b=>by simp only[rX] at b;obtain⟨G,r,v,g,rfl,rfl,n,b⟩:=b;obtain⟨N,o,s,u,w,z,A⟩:=ku (d:=d) k c f r g j b;refine⟨N,by simpa only[sV,EC] using o,by simpa only[Qn] using s,u,w,by simp[z],λl a p=>?_⟩;simp only[sV,EM,EC,Z];exact⟨v,g,rfl,WH n (by simp),A l a p⟩
 | k,.bool::c,f,m,q,j,b=>by simp only[rX] at b;obtain⟨G,r,v,g,rfl,rfl,n,b⟩:=b;obtain⟨N,o,s,u,w,z,A⟩:=ku (d:=d) k c f r g j b;refine⟨N,by simpa only[sV,EC] using o,by simpa only[Qn] using s,u,w,by simp[z],λl a p=>?_⟩;simp only[sV,EM,EC,Z];exact⟨v,g,rfl,WH n (by simp),A l a p⟩
 | k,.str::c,f,m,q,j,b=>by simp only[rX] at b;obtain⟨G,r,v,g,rfl,rfl,n,b⟩:=b;obtain⟨N,o,s,u,w,z,A⟩:=ku (d:=d) k c f r g j b;refine⟨N,by simpa only[sV,EC] using o,by simpa only[Qn] using s,u,w,by simp[z],λl a p=>?_⟩;simp only[sV,EM,EC,Z];exact⟨v,g,rfl,WH n (by simp),A l a p⟩
 | k,.sl e::c,f,m,q,j,b=>by
  simp only[rX] at b;obtain⟨t,H,h,r,v,g,I,J,rfl,rfl,rfl,D,b,rfl⟩:=b;obtain⟨N,o,s,u,w,z,A⟩:=ku (d:=d) (k+1) c H r g J b;have E:∃x:YM,x.id=Uc d k∧x.obj=Rt t e h∧x.v=v∧x.ok w'∧x.bT=I:=by
   cases t with
   | flat t=>
    obtain⟨K,i,T,n,C,rfl⟩:=D;exact⟨⟨Uc d k,t,e,h,v,T,none⟩,rfl,rfl,rfl,⟨i,n,C⟩,by simp only[YM.bT,eT K C,Gl]⟩
   | deep t its=>
    obtain⟨i,M,n,C,rfl⟩:=D;exact⟨⟨Uc d k,t,e,h,v,M,some its⟩,rfl,rfl,rfl,⟨i,n,C⟩,rfl⟩
  obtain⟨x,F,Y,P,Q,R⟩:=E;refine⟨x::N, ?_, ?_, ?_, ?_,by simp[z],λl a p=>?_⟩
  ·simp only[sV,EM,EC,kl,DD,F,Y,DC.cG] at o ⊢;rw[o]
  ·simp only[DD,Qn,Is,s,F]
  ·intro y B;rcases Dz.1 B with rfl | B
   ·exact Q
   ·exact u y B
  ·simp only[Dn,w,R]
  ·simp only[sV,EM,EC,Z];refine⟨v,g,rfl, ?_,A l a (λy B=>p y (DO _ B))⟩;simp only[O];have:=p x (EB ..);rw[F,P] at this;exact⟨this.symm,D.one⟩
def nc0(h:Nat→Option xC)(β:L)(w':aaj)(d:List Nat)(N:List YM)(x:Yj):Prop:=(∃o,h x.id=some o)∧∀(c:Nat→Prop) (a:L),a.val x.id=β.val x.id→a.cY x.id=β.cY x.id→a.nb x.id=x.nb→(∀y∈N,a.val y.id=y.v)→(∀b∈d,¬c b)→zC w' c a x.id x.obj x.bT
def pA(d k:Nat)(h:Nat→Option xC)(β:L)(w':aaj)(b:List Nat)(U:List HV)(a:List DC)(c:List Nat):Prop:=rS U=a.length∧∃(T:List Yj) (N:List YM),T.map (λx=>(x.id,x.obj))=iP d k U a∧PF d k U a=kl N∧N.map (·.id)=(Fm k (rk U)).map (Uc d)∧(∀x∈N,x.ok w')∧ (T.flatMap Yj.bT++N.flatMap YM.bT).Perm c∧∀x∈T,nc0 h β w' b N x
theorem pA.append{d k:Nat}{im:List Nat}{U V:List HV}{j m:List DC}{m1 q:List Nat}(v:pA d k h β w' im U j m1)(w:pA d (k+rk U) h β w' im V m q):pA d k h β w' im (U++V) (j++m) (m1++q):=by
 obtain⟨r,z,A,B,C,D,E,F,s⟩:=v;obtain⟨G,H,I,J,K,L,M,N,t⟩:=w;have g:∀(U V:List HV),rS (U++V)=rS U+rS V∧rk (U++V)=rk U+rk V:=by
  intro U V
  induction U with
  | nil=>simp[rS,rk]
  | cons x l u=>cases x<;>simp only[Ey,rS,rk,u.1,u.2,Gy,and_self]
 obtain⟨O,P⟩:=Zc (d:=d) k U V j m r;refine⟨by simp only[g,fK,r,G],z++H,A++I,by rw[EZ,B,J,O],by rw[P,C,K];simp[kl], ?_,λx f=>?_, ?_,λx f=>?_⟩
 ·rw[EZ,D,L,(g U V).2,←EZ,Iu]
 ·rcases C5.1 f with f | f
  ·exact E x f
  ·exact M x f
 ·refine List.Perm.trans ?_ (F.append N);simp only[G5,FB];refine List.Perm.append_left _ ?_;rw[←FB,←FB];exact List.Perm.append_right _ List.perm_append_comm
 ·rcases C5.1 f with f | f
  ·exact⟨(s x f).1,λn i a b c o e=>(s x f).2 n i a b c (λy p=>o y (Ss _ p)) e⟩
  ·exact⟨(t x f).1,λn i a b c o e=>(t x f).2 n i a b c (λy p=>o y (wZ _ p)) e⟩
theorem nla{d:Nat}(k:Nat){im:List Nat} :∀(U:List HV),pA d k h β w' im (C0 U) [] []
 | []=>⟨rfl,[],[],rfl,rfl,rfl,by simp,List.Perm.refl _,by simp⟩
 | x::l=>by
  have i:pA d k h β w' im (C0 l) [] []:=nla k l;cases x<;>simp only[C0]<;>first
   | exact i
   | (obtain⟨a,T,N,b,c,j,e,f,g⟩:=i;exact⟨a,T,N,b,c,j,e,f,g⟩)
theorem D5.Gf{t:dy}{e:List CT}{a:List (List DC)}{b:List Nat}(h:D5 w t e a (.slice none 0 0) b):b=[]:=by
 cases t with
 | flat t=>
  obtain⟨_,_,_,_,_,rfl⟩:=h;rfl
 | deep t its=>
  obtain⟨c,d,f,i,rfl⟩:=h;rcases f.2 with ⟨_,j,_⟩ | ⟨g,cap,k,l,_⟩
  ·have:d=[]:=Jk.1 (by rw[i.1,j]);subst this;rfl
  ·cases l
theorem Ob(I:V w0 S f h β φ tm w){d:Nat}{J:List Nat} :∀(k:Nat) (l:List CT) (e:List dy) (U:List X) (B:List aal) (q:List DC×List HV) (p:List DC) (y:List Nat),Z w (oa h β) β U B→(wx l e U).val f h=some q→jM w' l e p B y→
  pA d k h β w' J q.2 p y
 | k,[],e,U,B,q,p,y,hs,hq,b=>by
  cases e with
  | nil=>
   cases U with
   | nil=>
    simp only[wx,M.ab,Y] at hq;subst hq;simp only[jM] at b;rw[b.1,b.2.2];exact⟨rfl,[],[],rfl,rfl,rfl,by simp,List.Perm.refl _,by simp⟩
   | cons s U=>simp[wx] at hq
  | cons t e=>simp[wx] at hq
 | k,.int kk::l,e,U,B,q,p,y,hs,hq,b=>by
  cases U with
  | nil=>simp[wx] at hq
  | cons s U=>
   simp only[Z] at hs;obtain⟨v,C,rfl,i,D⟩:=hs;simp only[wx,M.ag,UI,M.ab,Y] at hq;obtain⟨z,a,g,m,rfl⟩:=hq;simp only[jM] at b;obtain⟨aio,L,A,b⟩:=b;simp only[List.cons.injEq] at A;obtain⟨rfl,rfl⟩:=A;exact Ob (d:=d) I k l e U C g p y D m b
 | k,.bool::l,e,U,B,q,p,y,hs,hq,b=>by
  cases U with
  | nil=>simp[wx] at hq
  | cons s U=>
   simp only[Z] at hs;obtain⟨v,C,rfl,i,D⟩:=hs;simp only[wx,M.ag,UI,M.ab,Y] at hq;obtain⟨z,a,g,m,rfl⟩:=hq;simp only[jM] at b;obtain⟨aio,L,A,b⟩:=b;simp only[List.cons.injEq] at A;obtain⟨rfl,rfl⟩:=A;exact Ob (d:=d) I k l e U C g p y D m b
 | k,.str::l,e,U,B,q,p,y,hs,hq,b=>by
  cases U with
  | nil=>simp[wx] at hq
  | cons s U=>
   simp only[Z] at hs;obtain⟨v,C,rfl,i,D⟩:=hs;simp only[wx,M.ag,UI,M.ab,Y] at hq;obtain⟨z,a,g,m,rfl⟩:=hq;simp only[jM] at b;obtain⟨aio,L,A,b⟩:=b;simp only[List.cons.injEq] at A;obtain⟨rfl,rfl⟩:=A;exact Ob (d:=d) I k l e U C g p y D m b
 | k,.sl el::l,e,U,B,q,p,y,hs,hq,b=>by
  cases e with
  | nil=>simp[wx] at hq
  | cons t e=>
   cases U with
   | nil=>cases t<;>simp[wx] at hq
   | cons s U=>
    simp only[Z] at hs;obtain⟨v,C,rfl,i,D⟩:=hs;simp only[jM] at b;obtain⟨t1,Hi,c,aiV,v1,L,N,gS,e1,rfl,e2,afF,o3,rfl⟩:=b;simp only[List.cons.injEq] at e1 e2;obtain⟨rfl,rfl⟩:=e1;obtain⟨rfl,rfl⟩:=e2;have pack:∀(z:DC×HV) (g:List DC×List HV),pA d k h β w' J [z.2] [.sl c] N→(wx l e U).val f h=some g→pA d k h β w' J (z.2::g.2) (.sl c::aiV) (N++gS):=by intro z g k1 m;exact k1.append (Ob (d:=d) I _ l e U C g aiV gS D m o3)
    have n:v= .slice none 0 0→pA d k h β w' J [.mJ] [.sl c] N:=by
     rintro rfl
     exact⟨rfl,[],[],rfl,rfl,rfl,by simp,by rw[afF.Gf];exact List.Perm.refl _,by simp⟩
    cases t with
    | flat t=>
     simp only[wx,M.ag,UI,M.ab,Y] at hq;obtain⟨z,a,g,m,rfl⟩:=hq;refine pack z g ?_ m;cases s with
     | nil=>
      simp only at a;cases F:Sw el
      ·simp[F] at a
      ·simp only[F,H,M.ab,Y] at a;subst a;simp only[O] at i;exact n i
     | own id=>
      simp only[M.aY,UI] at a;obtain⟨P,Q,a⟩:=a;cases P with
      | row t' e' r fz u=>
       cases fz with
       | true=>simp at a
       | false=>
        simp only at a;cases j:ED t' t && cB e' el && Sw el
        ·simp[j] at a
        ·simp only[j,H,M.ab,Y] at a;subst a;simp only[Bl] at j;have R:=Vs j.1.1;have T:=uG _ _ j.1.2;subst R;subst T;simp only[O] at i;obtain⟨F,o,aE,ahh,G,rfl⟩:=afF;refine⟨rfl,[⟨id,.row t' e' c false u,[],v.ownBlock.toList⟩],[],rfl,rfl,rfl,by simp,by simp,λx ad2=>?_⟩;rw[Ea] at ad2;subst ad2;refine⟨⟨_,Q⟩,λav agZ E W K _ kh=>?_⟩;simp only at E W K ⊢;refine⟨o,aE,by rw[E,←i.1];exact ahh,G,by rw[eT F G];simp, ?_⟩;rw[E,←i.1,eT F G];cases u<;>simp
      | box _ _=>simp at a
      | eV _ _=>simp at a
      | deep _ _ _ _ _=>simp at a
     | _=>simp at a
    | deep t its=>
     simp only[wx,M.ag,UI,M.ab,Y] at hq;obtain⟨z,a,g,m,rfl⟩:=hq;refine pack z g ?_ m;cases s with
     | nil=>
      simp only[M.ab,Y] at a;subst a;simp only[O] at i;exact n i
     | own id=>
      simp only[M.aY,UI] at a;obtain⟨P,Q,a⟩:=a;cases P with
      | deep t' e' eu r hl=>
       cases hl with
       | some _=>simp at a
       | none=>
        simp only at a;cases j:ED t' t && cB e' el && UW eu its
        ·simp[j] at a
        ·simp only[j,H,M.ab,Y] at a;subst a;simp only[Bl] at j;have R:=Vs j.1.1;have T:=uG _ _ j.1.2;have GD:=Xo _ _ j.2;subst R;subst T;subst GD;simp only[O] at i;obtain⟨o,ahU,ahh,G,rfl⟩:=afF;refine⟨rfl,[⟨id,.deep t' e' eu c none,ahU.flatten,v.ownBlock.toList++ahU.flatten⟩],[],rfl,rfl,rfl,by simp,by simp,λx ad2=>?_⟩;rw[Ea] at ad2;subst ad2;refine⟨⟨_,Q⟩,λav agZ E W K _ kh=>?_⟩;simp only at E W K ⊢;exact⟨o,ahU,by rw[E,←i.1];exact ahh,G,K,by rw[E,←i.1]⟩
      | box _ _=>simp at a
      | eV _ _=>simp at a
      | row _ _ _ _ _=>simp at a
     | _=>simp at a
theorem RZ(y:V w0 S f h β φ tm w){d:Nat}{E:List Nat} :∀(c:Nat) (z:List fG) (n:List (Option ka)) (U:List X) (R:List aal) (q:List DC×yF×List HV) (T:List DC) (im ag0:List Nat),Z w (oa h β) β U R→(zI z n U).val f h=some q→qG w' z n T R im ag0→(∀b∈im,b∈E)→
  pA d c h β w' E q.2.2 T ag0
 | c,[],n,U,R,q,T,im,ag0,hs,a,ho,_=>by
  cases n with
  | nil=>
   cases U with
   | nil=>
    simp only[zI,M.ab,Y] at a;subst a;simp only[qG] at ho;rw[ho.1,ho.2.2.2];exact⟨rfl,[],[],rfl,rfl,rfl,by simp,List.Perm.refl _,by simp⟩
   | cons s U=>simp[zI] at a
  | cons m n=>simp[zI] at a
 | c,k::z,n,U,R,q,T,im,ag0,hs,a,ho,kh=>by
  simp only[qG] at ho;obtain⟨m,n,A,ad3,v,l,i1,F,aiW,I,rfl,rfl,rfl,i,aeR,rfl,rfl⟩:=ho;cases U with
  | nil=>cases m with
   | none=>simp[zI] at a
   | some m=>cases m<;>simp[zI] at a
  | cons s U=>
   simp only[Z] at hs;obtain⟨v0,l0,e0,B,K⟩:=hs;simp only[List.cons.injEq] at e0;obtain⟨rfl,rfl⟩:=e0;have L:∀b∈F,b∈E:=λb o=>kh b (wZ _ o);cases m with
   | none=>
    simp only[zI,M.ag,UI,M.ab,Y] at a;obtain⟨e,p,r,u,rfl⟩:=a;simp only[gh] at i;obtain⟨rfl,rfl,rfl⟩:=i;exact RZ (d:=d) y c z n U l r ad3 F I K u aeR L
   | some m=>
    cases m with
    | box t=>
     cases s with
     | ptr id off=>
      cases off with
      | succ off=>simp[zI] at a
      | zero=>
       simp only[zI,M.aY,UI] at a;obtain⟨ob,W,a⟩:=a;cases ob with
       | box t' cells=>
        simp only at a;cases C:ED t' t
        ·simp[C] at a
        ·have lD:=Vs C;subst lD;simp only[C,H,M.ag,UI] at a;obtain⟨e,p,a⟩:=a;cases Gw:e.2.1.isEmpty
         ·simp[Gw] at a
         ·simp only[Gw,H,M.ag,UI,M.ab,Y] at a;obtain⟨r,u,rfl⟩:=a;have k2:=RZ (d:=d) y (c+rk [.box id t' k.bF]) z n U l r ad3 F I K u aeR L;obtain⟨us0,g1,g2,g3,g4⟩:=y.aC id _ W;simp only[gh] at i;obtain⟨g,G,ev,L1,L2,ahV,ow4,rfl⟩:=i;simp only[O] at B;have eg:g=β.cY id:=by rw[B] at ev;simp only[Value.pointer.injEq,Y,Addr.mk.injEq,and_true] at ev;exact ev.symm
          subst eg;have K4:A.length=k.bF.length:=bj.length _ _ _ _ ahV;refine pA.append (U:=[.box id t' k.bF]) ⟨by simp only[rS,K4];omega,[⟨id,.box t' (C4 k.bF A 0),[],[β.cY id]⟩],[],rfl,rfl,rfl,by simp,by simp,λx afG=>?_⟩ k2;rw[Ea] at afG;subst afG;refine⟨⟨_,W⟩,λav D hv o hn _ Jv=>?_⟩;simp only at hv o hn ⊢;obtain⟨aip,l1,l2,l3,l4⟩:=bj.b7 (β:=D) (av:=av) ahV (λb o=>Jv b (kh b (Ss _ o))) k.bF.length 0 (by omega);have ee:aip=G:=by
           apply HU;intro j;by_cases hj:j<aip.length
           ·have:=l2 j aip[j] (by simp);simp only[FV] at this;rw[this];simp
           ·rw[FF (by omega),FF (by omega)]
          subst ee;simp only[List.drop_zero,List.take_length] at l3;exact⟨aip,by rw[o];exact L1,l3,L2,by rw[o]⟩
       | row _ _ _ _ _=>simp at a
       | eV _ _=>simp at a
       | deep _ _ _ _ _=>simp at a
     | _=>simp[zI] at a
    | rows ts=>
     simp only[zI,M.ag,UI,M.ab,Y] at a;obtain⟨e,p,r,u,rfl⟩:=a;have k2:=RZ (d:=d) y (c+rk e.2) z n U l r ad3 F I K u aeR L;simp only[gh] at i;obtain⟨G,ev,i,rfl⟩:=i;have one:pA d c h β w' E e.2 A aiW:=by
      unfold Ui at p;cases P:k.agg with
      | true=>
       cases s with
       | agg cs=>
        simp only[P] at p;simp only[O] at B;obtain⟨aT,rfl,g9,bo⟩:=B;rw[P] at ev;simp only[H,Value.agg.injEq] at ev;have:aT=G:=by simpa using congrArg Array.toList ev
        subst this;exact Ob (d:=d) y c k.bF ts cs aT e A aiW g9 p i
       | _=>simp[P] at p
      | false=>
       have mu:(wx k.bF ts [s]).val f h=some e:=by
        cases s<;>simp only[P] at p<;>first | exact p | (simp at p)
       rw[P] at ev;simp only[J] at ev;subst ev;have iW:Z w (oa h β) β [s] [v]:=by simp only[Z];exact⟨v,[],rfl,B,rfl⟩
       exact Ob (d:=d) y c k.bF ts [s] [v] e A aiW iW mu i
     exact one.append k2
    | kv ts=>
     simp only[zI,M.ag,UI] at a;obtain⟨e,p,a⟩:=a;cases Q:jg e.2
     ·simp[Q] at a
     simp only[Q,H,M.ag,UI,M.ab,Y] at a;obtain⟨r,u,rfl⟩:=a;simp only[gh] at i;obtain⟨rfl,rfl,rfl⟩:=i;exact (nla c e.2).append (RZ (d:=d) y _ z n U l r ad3 F I K u aeR L)
    | cZ t ts=>
     cases s with
     | ptr id off=>
      cases off with
      | succ off=>simp[zI] at a
      | zero=>
       simp only[zI,M.aY,UI] at a;obtain⟨ob,W,a⟩:=a;cases ob with
       | box t' cells=>
        simp only at a;cases C:ED t' t
        ·simp[C] at a
        ·have lD:=Vs C;subst lD;simp only[C,H,M.ag,UI] at a;obtain⟨e,p,a⟩:=a;cases Q:jg e.2
         ·simp[Q] at a
         simp only[Q,H,M.ag,UI,M.ab,Y] at a;obtain⟨r,u,rfl⟩:=a;simp only[gh] at i;obtain⟨g,G,mm,ev,L1,L2,ahV,rfl,rfl⟩:=i;simp only[O] at B;have eg:g=β.cY id:=by rw[B] at ev;simp only[Value.pointer.injEq,Y,Addr.mk.injEq,and_true] at ev;exact ev.symm
         subst eg;obtain⟨N,n1,n2,n3,n4,n5,n6⟩:=ku (d:=d) c k.bF ts A G mm ahV;have first:pA d c h β w' E [.cZ id t' k.bF ts] A (β.cY id::mm):=by refine⟨by simp only[rS,n5];omega,[⟨id,.box t' (sV d c k.bF ts A).1,[],[β.cY id]⟩],N,rfl,by simp only[PF,Gl,n1],by simpa only[rk,FH] using n2,n3,by simp[n4],λx afG=>?_⟩;rw[Ea] at afG;subst afG;refine⟨⟨_,W⟩,λav D hv o hn hN Jv=>?_⟩;simp only at hv o hn ⊢;exact⟨G,by rw[o];exact L1,n6 av D hN,L2,by rw[o]⟩
         have two:=(nla (d:=d) (h:=h) (β:=β) (w':=w') (im:=E) (c+rk [.cZ id t' k.bF ts]) e.2).append (RZ (d:=d) y _ z n U l r ad3 F I K u aeR L);exact first.append two
       | row _ _ _ _ _=>simp at a
       | eV _ _=>simp at a
       | deep _ _ _ _ _=>simp at a
     | _=>simp[zI] at a
theorem frF(T:List Yj)(l:List (Nat×Option xC))(j:Nat):ji (T.map (λx=>(x.id,some x.obj))++l) h j=match Hj T j with | some x=>some x.obj | none=>ji l h j:=by
 induction T with
 | nil=>rfl
 | cons y N a=>
  simp only[DD,Ey,ji,L9,Hj];split
  ·rfl
  ·exact a
theorem nsk(D:List Nat)(l:List (Nat×Option xC))(j:Nat):ji (Ye D++l) h j=if j∈D then none else ji l h j:=by
 induction D with
 | nil=>simp[Ye]
 | cons y D b=>
  simp only[Ye,DD,Ey,ji,L9,Dz] at b ⊢;by_cases a:j=y
  ·simp[a]
  ·rw[if_neg a,b];simp[a]
theorem nge{i:Nat} :∀ {m:yF},V8 i m=true→∀x∈m,x.1≠i
 | [],_,x,a=>by simp at a
 | (k,y)::l,hm,x,a=>by
  simp only[V8,Bl,FM] at hm;rcases Dz.1 a with rfl | a
  ·exact Hx hm.1
  ·exact nge hm.2 x a
theorem Aq{i:Nat} :∀ {m:yF},V8 i m=true→ji (Gj m) h i=h i
 | [],_=>rfl
 | (k,e',r,u)::l,hm=>by simp only[V8,Bl,FM] at hm;simp only[Gj,ji,L9];rw[if_neg (λa=>Hx hm.1 a.symm)];exact Aq hm.2
theorem bg:∀ {U:List HV},Fb h U→∀b∈U.flatMap (nM β),∃id∈gk U,∃d,h id=some d∧b∈ar β id d
 | [],_,b,a=>by simp at a
 | .box id t cs::l,c,b,a=>by
  simp only[Fb] at c;obtain⟨⟨k,m⟩,c⟩:=c;rw[Dn,C5] at a;rcases a with a | a
  ·exact⟨id,EB ..,_,m,a⟩
  ·obtain⟨i,f,d,g,j⟩:=bg c b a;exact⟨i,DO _ f,d,g,j⟩
 | .row id t e u::l,c,b,a=>by
  simp only[Fb] at c;obtain⟨⟨_,n,m⟩,c⟩:=c;rw[Dn,C5] at a;rcases a with a | a
  ·exact⟨id,EB ..,_,m,a⟩
  ·obtain⟨i,f,d,g,j⟩:=bg c b a;exact⟨i,DO _ f,d,g,j⟩
 | .deep id t e ts::l,c,b,a=>by
  simp only[Fb] at c;obtain⟨⟨n,m⟩,c⟩:=c;rw[Dn,C5] at a;rcases a with a | a
  ·exact⟨id,EB ..,_,m,a⟩
  ·obtain⟨i,f,d,g,j⟩:=bg c b a;exact⟨i,DO _ f,d,g,j⟩
 | .gone id dp::l,c,b,a=>by
  simp only[Fb] at c;obtain⟨⟨o,p,q⟩,c⟩:=c;rw[Dn,C5] at a;rcases a with a | a
  ·exact⟨id,EB ..,_,p,by rw[q.ar];exact a⟩
  ·obtain⟨i,f,d,g,j⟩:=bg c b a;exact⟨i,DO _ f,d,g,j⟩
 | .cZ id t cs ts::l,c,b,a=>by
  simp only[Fb] at c;obtain⟨⟨k,m⟩,c⟩:=c;rw[Dn,C5] at a;rcases a with a | a
  ·exact⟨id,EB ..,_,m,a⟩
  ·obtain⟨i,f,d,g,j⟩:=bg c b a;exact⟨i,DO _ f,d,g,j⟩
 | .mJ::l,c,b,a=>by rw[Dn] at a;exact bg (U:=l) c b (by simpa [nM] using a)
theorem qN{i:Nat}{l:List Nat}(a:XG (i::l)=true):i ∉ l∧XG l=true:=by simp only[XG,Bl,FM,List.any_eq_false] at a;refine⟨λb=>?_,a.2⟩;exact a.1 i b (Nat.beq_refl i)
theorem SJ(c:V w0 S f h β φ tm w):∀ {U:List HV},Fb h U→XG (gk U)=true→(U.flatMap (nM β)).Nodup
 | [],_,_=>by simp
 | .box id t cs::l,a,hn=>by simp only[Fb] at a;obtain⟨⟨y,d⟩,a⟩:=a;obtain⟨m,n⟩:=qN hn;rw[Dn,DE];refine⟨by simp[nM],SJ c a n, ?_⟩;intro b k A p q;subst q;obtain⟨i,r,s,g,v⟩:=bg (β:=β) a b p;exact c.sep id i _ s (λx=>m (x ▸ r)) d g b (al (c.aC _ _ d) b k) (al (c.aC _ _ g) b v)
 | .row id t e u::l,a,hn=>by
  simp only[Fb] at a;obtain⟨⟨_,j,d⟩,a⟩:=a;obtain⟨m,n⟩:=qN hn;rw[Dn,DE];refine⟨?_,SJ c a n, ?_⟩
  ·simp only[nM];cases (β.val id).ownBlock<;>simp
  ·intro b k A p q;subst q;obtain⟨i,r,s,g,v⟩:=bg (β:=β) a b p;exact c.sep id i _ s (λx=>m (x ▸ r)) d g b (al (c.aC _ _ d) b k) (al (c.aC _ _ g) b v)
 | .deep id t e E::l,a,hn=>by
  simp only[Fb] at a;obtain⟨⟨j,d⟩,a⟩:=a;obtain⟨m,n⟩:=qN hn;rw[Dn,DE];refine⟨?_,SJ c a n, ?_⟩
  ·obtain⟨z,F,_,_,B,C⟩:=c.aC _ _ d;have:=(c.fresh _ _ d).1;rw[C] at this;simpa only[nM,B] using this
  ·intro b k A p q;subst q;obtain⟨i,r,s,g,v⟩:=bg (β:=β) a b p;exact c.sep id i _ s (λx=>m (x ▸ r)) d g b (al (c.aC _ _ d) b k) (al (c.aC _ _ g) b v)
 | .gone id dp::l,a,hn=>by
  simp only[Fb] at a;obtain⟨⟨o,d,D⟩,a⟩:=a;obtain⟨m,n⟩:=qN hn;rw[Dn,DE];refine⟨?_,SJ c a n, ?_⟩
  ·rw[←D.ar];rcases D with ⟨_,t,e,j,u,_,rfl⟩ | ⟨_,t,e,E,j,rfl⟩
   ·simp only[ar];cases (β.val id).ownBlock<;>simp
   ·obtain⟨z,F,_,_,B,C⟩:=c.aC _ _ d;have:=(c.fresh _ _ d).1;rw[C] at this;simpa only[ar,B] using this
  ·intro b k A p q;subst q;rw[←D.ar] at k;obtain⟨i,r,s,g,v⟩:=bg (β:=β) a b p;exact c.sep id i _ s (λx=>m (x ▸ r)) d g b (al (c.aC _ _ d) b k) (al (c.aC _ _ g) b v)
 | .cZ id t cs E::l,a,hn=>by simp only[Fb] at a;obtain⟨⟨y,d⟩,a⟩:=a;obtain⟨m,n⟩:=qN hn;rw[Dn,DE];refine⟨by simp[nM],SJ c a n, ?_⟩;intro b k A p q;subst q;obtain⟨i,r,s,g,v⟩:=bg (β:=β) a b p;exact c.sep id i _ s (λx=>m (x ▸ r)) d g b (al (c.aC _ _ d) b k) (al (c.aC _ _ g) b v)
 | .mJ::l,a,hn=>by rw[Dn];simpa [nM] using SJ c (U:=l) a hn
theorem nGd{d:Nat} :∀(b:List ef) (k:Nat) (a c:List DC),a.length=U7 b→vr d k b (a++c)=vr d k b a
 | [],_,_,_,_=>rfl
 | r::rs,k,a,c,hl=>by simp only[U7] at hl;simp only[vr];rw[IP (by omega),Ix (by omega),nGd rs _ _ c (by simp;omega)]
theorem nuP(eW:qk P Γ){s:C}{g:Nat}(hs:F5 Γ g=some s)(ep:s.Hl=false)(Dw:s.pt=none)(Kz:s.ms≠[])(ag1:Rel w0 S st a w)(hd:∀d,o.dst=some d→sP st.n d)(aiq:∀d,o.dst=some d→e.ow≠[]→iC st d)
  {l:List X} {us:List aal} (K6:∀fn,P.funcs[g]? =some fn→fn.body.isSome=true→(fn.name== "runtime.NumGoroutine")=false→(execOp a.eval o).run P w= .ok (.enter g us.toArray) w)
  (hl:∀β φ,V w0 S st.get st.obj β φ a.tmps w→Z w (oa st.obj β) β l us) (I:(Ny s o.dst l).val st.get st.obj=some e) (aN:e.ok=true):R P w0 S st o e a w:=by
 have hH:fh P g s:=by
  have z:=eW g s hs;unfold cX at z;rw[ep,J,Dw] at z;simp only at z;split at z
  ·rename_i hm;exact absurd hm Kz
  ·exact z
 unfold Ny at I;cases aS:Nat.blt (UG s.rs) 64 && !(shares s) && (o.dst.isSome || s.rs.isEmpty)
 ·simp[aS] at I
 simp only[aS,H,M.ag,UI] at I;obtain⟨r,hr,I⟩:=I;cases Kq:Eg r.2.1 && XG (gk r.2.2) && (gk r.2.2).all (λi=>V8 i r.2.1) && (Nat.blt (UG s.rs+rk r.2.2) 64 && (o.dst.isSome || ED (rk r.2.2) 0))
 ·simp[Kq] at I
 simp only[Kq,H,M.ab,Y] at I;subst I;simp only[Bl,FM,List.all_eq_true] at aS Kq;obtain⟨⟨MM,BR⟩,AP⟩:=aS;obtain⟨⟨⟨AF,J0⟩,Mq⟩,H0,H8⟩:=Kq;have H0:UG s.rs+rk r.2.2<64:=HN H0;obtain⟨⟨fn,hf,p,hn⟩,Ad⟩:=hH;obtain⟨β,φ,B⟩:=ag1.core;obtain⟨fp,cr,iE,C_,jU⟩:=yO B s.ps s.ms l _ r (hl β φ B) hr;have Lq:=SJ B C_ J0;have Lp:∀b∈r.2.2.flatMap (nM β),b ∉ fp:=by
  intro b p MT;obtain⟨id,eG,G,aeS,aiX⟩:=bg (β:=β) C_ b p;rcases jU b MT with t | ⟨x,f,lx⟩
  ·exact t (.inl ⟨id,G,aeS,aiX⟩)
  ·obtain⟨_,Da,_⟩:=iE x f;rw[Tn Da] at lx;have c8:x.1≠id:=nge (Mq id eG) x f;exact B.sep x.1 id _ G c8 Da aeS b (al (B.aC _ _ Da) b lx) (al (B.aC _ _ aeS) b aiX)
 intro Q;unfold Oper.wp;rw[K6 fn hf p hn,Oper.upon_enter];refine (Ad w r.1 _ fp _ cr Lq Lp aN).mono ?_
 rintro _ w' ⟨W,KK,im,tp,AG,rd,od,ψ,rfl,Kt,jK,ahW,BP,hnd,AE,JP,LY,KH,BM⟩
 have Lf:im=[]:=tU.kN _ _ _ _ _ _ (by simpa [shares] using BR) BP;have Ht:(s.fn r.1).2.drop (U7 s.rs)=od:=by rw[Kt,←jK,List.drop_left]
 have JW:vr (o.dst.getD 0) 0 s.rs (s.fn r.1).2=vr (o.dst.getD 0) 0 s.rs rd:=by rw[Kt,nGd _ _ _ _ jK]
 obtain⟨N1,n1,n2,n3,n4,n5,n6⟩:=ntN (d:=o.dst.getD 0) s.rs 0 _ W KK im tp BP;obtain⟨_,T,N2,hT,Ma,q2,q3,KX,Ct⟩:=RZ (d:=o.dst.getD 0) (w':=w') B (UG s.rs) s.ps s.ms l _ r od AG ψ (hl β φ B) hr JP (λb p=>p);obtain⟨N,K⟩:∃N,N=N1++N2:=⟨_,rfl⟩;have KW:N.flatMap YM.bT=KK++N2.flatMap YM.bT:=by rw[K,G5,n4]
 have H2:N.map (·.id)=(Fm 0 (UG s.rs+rk r.2.2)).map (Uc (o.dst.getD 0)):=by
  have z:Fm 0 (UG s.rs)++Fm (UG s.rs) (rk r.2.2)=Fm 0 (UG s.rs+rk r.2.2):=by have:=Iu (s:=0) (m:=UG s.rs) (n:=rk r.2.2);rwa[FV] at this
  rw[K,EZ,n2,q2,←EZ,z]
 have Mb:T.map Yj.id=Er r.2.2:=by rw[←Xj (d:=o.dst.getD 0) (UG s.rs) r.2.2 od,←hT,H_];rfl
 have J7:∀b∈T.flatMap Yj.bT,b∈ψ:=λb p=>KX.subset (Ss _ p);have G6:∀b∈N2.flatMap YM.bT,b∈ψ:=λb p=>KX.subset (wZ _ p);have Ko:=KX.symm.nodup LY;rw[DE] at Ko;obtain⟨acW,Hr⟩:∃acW:yF,acW=cond (Tl s.ms) [] r.2.1:=⟨_,rfl⟩;have hM:A8 st.obj acW∧Eg acW=true∧∀id∈gk r.2.2,V8 id acW=true:=by
  cases jC:Tl s.ms with
  | true=>rw[Hr,jC];exact⟨by simp[A8],rfl,λ_ _=>rfl⟩
  | false=>rw[Hr,jC];exact⟨iE,AF,Mq⟩
 have hfz:(cond (Tl s.ms) [] (Gj r.2.1))=Gj acW:=by rw[Hr];cases Tl s.ms<;>rfl
 have iR:=B.gr acW hM.1 hM.2.1;have JZ:=hM.2.2;have Ll:∀i∈Er r.2.2,i∈gk r.2.2:=λi aff=>(nE r.2.2).2 (.inl aff);have MX:∀i∈wO r.2.2,i∈gk r.2.2:=λi aff=>(nE r.2.2).2 (.inr aff);have Jc:N≠[]→∃d,o.dst=some d:=by
  intro c8;cases aM:o.dst with
  | some d=>exact⟨d,rfl⟩
  | none=>
   rw[aM] at AP H8;simp only[Option.isSome_none,GR] at AP H8;have LO:s.rs=[]:=List.isEmpty_iff.1 AP;have z:=Vs H8;have:=H2;rw[LO,z] at this;simp only[UG,FH,List.range'_zero,List.map_nil,List.map_eq_nil_iff] at this;exact absurd this c8
 have Dr:∀x∈N,x.id / 64=o.dst.getD 0∧x.id∈N.map (·.id):=by intro x f;have hm:x.id∈N.map (·.id):=G0 f;refine⟨?_,hm⟩;rw[H2] at hm;obtain⟨j,A,gQ⟩:=GJ.1 hm;rw[←gQ];have:=I7.1 A;exact jG _ j (by omega)
 have AR:(N.map (·.id)).Nodup:=by rw[H2];refine List.Pairwise.map _ ?_ (Jf ..);intro x y Bh e;unfold Uc at e;omega
 have hle:=ag1.kept.size;have Jd:∀x∈T,x.id∈gk r.2.2:=by intro x f;refine Ll _ ?_;rw[←Mb];exact G0 f
 have afH:∀x∈N,(β.cv N T).val x.id=x.v:=by intro x f;simp[L.cv,Qc f AR]
 have HG:∀(E:L),(∀x∈N,E.val x.id=x.v)→∀x∈N2,E.val x.id=x.v:=λE p x f=>p x (by rw[K];exact wZ _ f);let h':Nat→Option xC:=Yd N T (wO r.2.2) (ji (Gj acW) st.obj);have Cu:∀b∈AG,¬oa h' (β.cv N T) b:=by
  intro b p;have FG:=BM b p;have MP:acW=r.2.1:=by rw[Hr,FG.2.2.2];rfl
  rintro (⟨j,oj,A,bB⟩ | eU)
  case inr=>
   have Me:=(iR.hX b eU).1;rcases FG.1 with Dp | AM
   ·rcases jU b Dp with t | ⟨x,f,lx⟩
    ·exact t (.inr eU)
    ·exact ZZ B iE f lx (.inr eU)
   ·omega
  cases agz:QJ N j with
  | some x=>
   simp only[h',Yd,agz,Y] at A;subst A;obtain⟨f,rfl⟩:=Pr agz;rw[x.jA (by simp[L.cv,agz]) (by simp[L.cv,agz])] at bB;rw[K] at f;rcases C5.1 f with f | f
   ·refine FG.2.1 ?_;rw[←n5];exact EL.2 ⟨x,f,bB⟩
   ·exact FG.2.2.1 (G6 b (EL.2 ⟨x,f,x.al b bB⟩))
  | none=>
   simp only[h',Yd,agz] at A;cases hu:Hj T j with
   | some x=>
    simp only[hu,Y] at A;subst A;obtain⟨Mu,rfl⟩:=Gh hu;have u:b∈x.bT:=by have iT:=(Ct x Mu).2 (λ_=>False) (β.cv N T) (by simp[L.cv,agz]) rfl (by simp[L.cv,agz,hu]) (HG _ afH) (λ_ _ h=>h);exact al iT b bB
    exact FG.2.2.1 (J7 b (EL.2 ⟨x,Mu,u⟩))
   | none=>
    simp only[hu] at A;split at A
    ·cases A
    have kz:b∈ar β j oj:=by
     cases oj<;>simp only[ar,L.cv,agz,hu] at bB ⊢ <;>exact bB
    have KZ:=((iR.fresh j oj A).2 b (al (iR.aC j oj A) b kz)).2;rcases FG.1 with Dp | AM
    ·rcases jU b Dp with t | ⟨x,f,lx⟩
     ·exact t (Ty (.inl ⟨j,oj,A,kz⟩))
     ·exact ZZ B hM.1 (by rw[MP];exact f) lx (.inl ⟨j,oj,A,kz⟩)
    ·omega
 have K1:=iR.KO (N:=N) (U:=T) (D:=wO r.2.2) (im:=AG) (mb:=r.2.2.flatMap (nM β)) ahW.size hle ?_ ?_ ?_ ?_ Ko.1 ?_ Cu AR ?_ ?_ ?_ ?_
 ·have F:=n6 (oa h' (β.cv N T)) (β.cv N T) (λx f=>afH x (by rw[K];exact Ss _ f)) (by rw[Lf];simp);have Cw:Kept S w0 w':=by
   refine⟨ahW.os.trans ag1.kept.os,ahW.tape.trans ag1.kept.tape,ahW.output.trans ag1.kept.output,by have:=ahW.size;omega,λk u ad4=>?_⟩;refine (ahW.block k (by omega) (λGS=>?_)).trans (ag1.kept.block k u ad4);obtain⟨id,eG,G,aeS,aiX⟩:=bg (β:=β) C_ k GS;rcases ((B.fresh id G aeS).2 k (al (B.aC _ _ aeS) k aiX)).1 with t | t
   ·omega
   ·exact ad4 t
  have Ku:ji ((vr (o.dst.getD 0) 0 s.rs (s.fn r.1).2).2++(PF (o.dst.getD 0) (UG s.rs) r.2.2 ((s.fn r.1).2.drop (U7 s.rs))++
    (BW (o.dst.getD 0) (UG s.rs) r.2.2 ((s.fn r.1).2.drop (U7 s.rs))++(Ye (wO r.2.2)++(cond (Tl s.ms) [] (Gj r.2.1)))))) (ey none st.obj)=h':=by
   funext j;have:((iP (o.dst.getD 0) (UG s.rs) r.2.2 od).map λx=>(x.1,some x.2))=T.map λx=>(x.id,some x.obj):=by rw[←hT,H_];rfl
   have BQ:kl N1++(kl N2++(T.map (λx=>(x.id,some x.obj))++(Ye (wO r.2.2)++Gj acW)))=kl N++(T.map (λx=>(x.id,some x.obj))++(Ye (wO r.2.2)++Gj acW)):=by rw[K];simp only[kl,EZ,FB]
   rw[hfz,JW,Ht,n1,Rr,this,Ma,BQ,Vr,frF,nsk];rfl
  refine⟨pack W,rfl,L8 ag1 hd Cw ⟨β.cv N T,Ao N T (Wj φ acW), ?_, ?_⟩⟩
  ·show V w0 S st.get (ji (_++(_++(_++(_++_)))) (ey none st.obj)) _ _ _ _;rw[Ku];exact K1
  ·show O w' (oa (ji (_++(_++(_++(_++_)))) (ey none st.obj)) (β.cv N T)) (β.cv N T) (ah (vr (o.dst.getD 0) 0 s.rs (s.fn r.1).2).1) (pack W);rw[Ku,JW];generalize (vr (o.dst.getD 0) 0 s.rs rd).1=q at F
   match q,W,F with
   | [],W,F=>
    simp only[Z] at F;subst F;simp only[ah,pack,O];exact⟨[],rfl,by simp[Z]⟩
   | [x],W,F=>
    simp only[Z] at F;obtain⟨v,l',rfl,u,rfl⟩:=F;exact u
   | x::y::q,W,F=>
    have FW:=F;simp only[Z] at F;obtain⟨v,l',rfl,u,v2,l2,rfl,ad4,t⟩:=F;simp only[ah,pack];unfold O;exact⟨v::v2::l2,rfl,FW⟩
 ·intro b p;obtain⟨id,eG,G,aeS,aiX⟩:=bg (β:=β) C_ b p;refine⟨id, ?_,G,by rw[Aq (JZ _ eG)];exact aeS,aiX⟩;rcases (nE r.2.2).1 eG with t | t
  ·rw[←Mb] at t;obtain⟨x,f,rfl⟩:=GJ.1 t;exact .inl ⟨x,f,rfl⟩
  ·exact .inr t
 ·exact λb p jC=>ahW.block b p jC
 ·intro x f;obtain⟨⟨G,u⟩,_⟩:=Ct x f;exact⟨G,by rw[Aq (JZ _ (Jd x f))];exact u⟩
 ·exact λx f av E a b c dd e=>(Ct x f).2 av E a b c (HG E dd) e
 ·intro b p;obtain⟨p1,p2,p3⟩:=KH b (J7 b p);refine⟨p1,p2,λH4=>?_⟩;rw[KW] at H4;rcases C5.1 H4 with t | t
  ·exact p3 t
  ·exact Ko.2.2 b p b t rfl
 ·intro x f;have u:=(Dr x f).1;obtain⟨d,aM⟩:=Jc (λz=>by rw[z] at f;simp at f);have aiq:=aiq d aM (by
   show (vr (o.dst.getD 0) 0 s.rs (s.fn r.1).2).2++(PF (o.dst.getD 0) (UG s.rs) r.2.2 ((s.fn r.1).2.drop (U7 s.rs))++_)≠[];rw[JW,n1,Ht,Ma];intro z;rw[Iv] at z;have a1:N1=[]:=by simpa [kl] using z.1
   have u:=(Iv.1 z.2).1;have a2:N2=[]:=by simpa [kl] using u
   rw[K,a1,a2] at f;simp at f)
  rw[aM] at u;simp only[Option.getD_some] at u;refine⟨?_,λi aff=>aiq.slot i _ aff u,λk ok Cw aff=>?_⟩
  ·cases hn:ji (Gj acW) st.obj x.id with
   | none=>rfl
   | some G=>
    rcases Pn hn with ad4 | ⟨e',r',rfl,y,hy,ad4⟩
    ·exact absurd u (aiq.obj _ G ad4).1
    ·obtain⟨_,t,_⟩:=hM.1 y hy;rw[ad4] at t;exact absurd u (aiq.obj _ _ t).1
  ·rcases Pn Cw with ad4 | ⟨e',r',rfl,_⟩
   ·exact (aiq.obj k ok ad4).2 _ aff u
   ·simp[c4] at aff
 ·intro x f;rw[K] at f;rcases C5.1 f with f | f
  ·exact n3 x f
  ·exact q3 x f
 ·rw[KW,DE];exact⟨hnd,Ko.2.1,λb p b' aB Fy=>(KH b' (G6 b' aB)).2.2 (Fy ▸ p)⟩
 ·intro b p;rw[KW] at p;rcases C5.1 p with p | p
  ·exact AE b p
  ·exact⟨(KH b (G6 b p)).1,(KH b (G6 b p)).2.1⟩
theorem bj.all{f:Nat→Prop}{a:List CT}{r:List DC}{c:List aal}{g:List Nat}(h:bj w a r (λj=>c[j]?) g)(m:c.length=a.length)(i:∀b∈g,¬f b):Z w f β (C4 a r 0) c:=by
 obtain⟨d,n,k,l,o⟩:=bj.b7 (β:=β) h i a.length 0 (by omega);have e:d=c:=by
  apply HU;intro j;by_cases p:j<d.length
  ·have:=k j d[j] (by simp);simp only[FV] at this;rw[this];simp
  ·rw[FF (by omega),FF (by omega)]
 subst e;simpa only[List.drop_zero,List.take_length] using l
theorem nEc(eW:qk P Γ){s:C}{g:Nat}(Z:F5 Γ g=some s)(ep:s.Hl=false){t:aan}{bF:List CT}(Dw:s.pt=some (t,bF))(u:Rel w0 S st a w){d:Nat}(aM:o.dst=some d)(hd:sP st.n d)(A:e.ow≠[]→iC st d)
  {c:Call} (ho:o.op= .call c) (hg:c.callee= .value (.func g)) {l:List X}
  (hl:(yc c.args.toList).val st.get st.obj=some l) (p:(ov Γ (some d) g l).val st.get st.obj=some e) (aN:e.ok=true):R P w0 S st o e a w:=by
 unfold ov at p;rw[Z] at p;simp only[ep,J,Dw,M.ag,UI] at p;obtain⟨r,hr,p⟩:=p;cases T:Eg r.2
 ·simp[T] at p
 simp only[T,H,M.ab,Y] at p;subst p;have hH:VF P g s t bF:=by have U:=eW g s Z;unfold cX at U;rw[ep,J,Dw] at U;exact U
 obtain⟨⟨fn,hf,hb,V⟩,Ad⟩:=hH;obtain⟨β,φ,D⟩:=u.core;obtain⟨fp,cr,K,jU⟩:=G7 D s.ps l _ r (Yk D _ l hl) hr;intro Q;unfold Oper.wp;rw[Nu ho hg hf hb V,Oper.upon_enter];have CD:c.args.map a.eval=(c.args.toList.map a.eval).toArray:=by rw[←I1,H3]
 rw[CD];refine (Ad w r.1 _ fp cr aN).mono ?_
 rintro _ w' ⟨b,us,im,rfl,B,Md,Gu,v,bo,jK,E,kh⟩
 have F:=D.gr r.2 K T;have afg:Uc d 0 / 64=d:=jG d 0 (by omega);have A:=A (by simp);have gA:∀j,j≠Uc d 0→(β.kg (Uc d 0) b).val j=β.val j∧(β.kg (Uc d 0) b).cY j=β.cY j:=by intro j f;exact⟨rfl,by simp[L.kg,L9,f]⟩
 have G:(β.kg (Uc d 0) b).cY (Uc d 0)=b:=by simp[L.kg,L9]
 have iY:∀x∈ar (β.kg (Uc d 0) b) (Uc d 0) (.box t (C4 bF (s.fn r.1).2 0)),w.heap.size≤x:=by intro x m;simp only[ar,G,Ea] at m;omega
 have hle:=u.kept.size;have hw:∀x,x<w.heap.size→w'.heap[x]? =w.heap[x]? :=λx m=>B.block x m (λh=>h);have Cw:Kept S w0 w':=⟨B.os.trans u.kept.os,B.tape.trans u.kept.tape,B.output.trans u.kept.output,by have:=B.size;omega,λk ad5 W=>(hw k (by omega)).trans (u.kept.block k ad5 W)⟩;have Cu:∀x∈im,¬oa (L9 (ji (Gj r.2) st.obj) (Uc d 0) (some (.box t (C4 bF (s.fn r.1).2 0)))) (β.kg (Uc d 0) b) x:=by
  rintro x m (⟨j,oj,f,acX⟩ | eU)
  ·have N:=kh x m;by_cases ahX:j=Uc d 0
   ·subst ahX;simp only[L9,if_true,Y] at f;subst f;simp only[ar,G,Ea] at acX;exact N.2 acX
   ·simp only[L9,ahX,if_false] at f;have air:x∈ar β j oj:=by
     cases oj<;>simp only[ar,gA j ahX] at acX ⊢ <;>exact acX
    have cA:=((F.fresh j oj f).2 x (al (F.aC j oj f) x air)).2;rcases N.1 with q | q
    ·rcases jU x q with z | ⟨y,I,z⟩
     ·exact z (Ty (.inl ⟨j,oj,f,air⟩))
     ·exact ZZ D K I z (.inl ⟨j,oj,f,air⟩)
    ·omega
  ·have N:=kh x m;have Me:=(F.hX x eU).1;rcases N.1 with q | q
   ·rcases jU x q with z | ⟨y,I,z⟩
    ·exact z (.inr eU)
    ·exact ZZ D K I z (.inr eU)
   ·omega
 refine⟨_,rfl,L8 u (λd' afI=>by rw[aM] at afI;injection afI with afI;exact afI ▸ hd) Cw ⟨β.kg (Uc d 0) b,L9 (Wj φ r.2) (Uc d 0) [b], ?_, ?_⟩⟩
 ·refine F.create B.size hw (λi agA=>A.slot i _ agA afg) (λj aeT f agA=>?_) ?_ gA iY ?_ (by simp) ?_
  ·rcases Pn f with ad5 | ⟨e',r,rfl,_⟩
   ·exact (A.obj j aeT ad5).2 _ agA afg
   ·simp[c4] at agA
  ·cases V:ji (Gj r.2) st.obj (Uc d 0) with
   | none=>rfl
   | some aeT=>
    rcases Pn V with ad5 | ⟨e',r,rfl,y,I,W⟩
    ·exact absurd afg (A.obj _ aeT ad5).1
    ·obtain⟨_,q,_⟩:=K y I;rw[W] at q;exact absurd afg (A.obj _ _ q).1
  ·exact⟨us,by rw[G];exact v,bj.all jK E Cu,bo,by rw[G]⟩
  ·intro x m;rw[Ea] at m;subst m;refine⟨⟨.inl (by omega),Gu⟩,λj aeT f acX=>?_⟩;have:=((F.fresh j aeT f).2 _ acX).2;omega
 ·simp only[O,G]
end Go.Proofs.YteffpikahopfoaaGreat.Vm
