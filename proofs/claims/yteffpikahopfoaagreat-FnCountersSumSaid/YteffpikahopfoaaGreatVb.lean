/- The value machine: slices, structs, new objects, appending, contracts. Conditions: as each lemma says. -/
import Derived.Test.YteffpikahopfoaaGreatVa
import Derived.Laws.Tables
import Derived.Great.BuildSlice
import Derived.Laws.CopyRow
open List renaming mem_append→DO,flatMap_cons→D3,mem_cons→Ep,map_cons→Et,nodup_append→Eu,replicate→Ev,mem_cons_of_mem→Ew,mem_singleton→ED,cons_append→EE,mem_cons_self→EI,tail_cons→EL,mem_flatMap→E1,headD_cons→Fe,map_append→Fu,getElem?_append_left→Fx,getElem?_eq_some_iff→Fz,range'→FA,getElem?_append_right→FB,append_assoc→FH,getElem?_eq_none→FR,flatten_cons→GJ,flatten_append→GR,append_nil→GU,mem_map→Hn,mem_map_of_mem→Hp,flatMap_append→Hv,getElem?_drop→HM,getElem?_take→HP,mem_of_mem_take→HQ,mem_of_mem_drop→HR,length_drop→HW,length_take→Ij,ext_getElem?→Im,nil_append→IF,take_append_drop→IH,getElem?_eq_getElem→IK,map_map→IL,range'_succ→IN,range'_append_1→IQ,append_eq_nil_iff→IS,drop_append_of_le_length→IT,replicate_succ→Jc,take_append_of_le_length→Jf,take_of_length_le→Jo,getElem?_set_self→Js,flatten_eq_nil_iff→Jt,getElem_of_mem→Ju,mem_range'_1→JN,nodup_range'→JP,length_eq_zero_iff→JT
open Nat renaming beq→ER,succ_mul→EZ,le_refl→Ft,add_zero→Gd,mul_le_mul_right→Gm,zero_add→GB,zero_le→GX,add_assoc→Hc,lt_or_ge→Hk,eq_zero_or_pos→HF,ne_of_beq_eq_false→HU,le_of_ble_eq_true→Il,mod_lt→IE
open Go.Value renaming ownBlock→Fq,int→Gq
open Go.World renaming freeze→FM
open Bool renaming not_eq_true'→Gw,false_or→Ho,false_eq_true→JA
open Int renaming toNat_of_nonneg→Gz
open Array renaming length_toList→Hm,toArray_toList→IJ,toList_inj→IZ,getElem?_push→I8,getElem?_modify→Jx,toList_map→JE
open Option renaming isSome_iff_exists→Ht
open Go renaming World→aaE,Program→aaF,Value→aaG,Operand→aaH,TypeId→aaI
namespace Go.Proofs.YteffpikahopfoaaGreat.Vm
theorem LV{w:aaE}{e:List CT}{r:List (List DC)}{q:Option Addr}{n c:Nat}{t:List Nat}(h:kL w (.sl e) (.sl r) (.slice q n c) t){l m:Nat}(K:l≤m)(L:m≤r.length):
  ∃u,kL w (.sl e) (.sl ((r.take m).drop l)) (.slice (if c=l then q else q.map (·.add (l*e.length))) (m - l) (c - l)) u∧∀b∈u,b∈t:=by
 obtain⟨M,N,O,y,P,Q,R,z⟩:=xP h;injection y with A B C;subst A B C;have a:((r.take m).drop l).length=m - l:=by simp;omega
 rcases HF (m - l) with p | p
 ·exact⟨[],lU a (by omega) (by omega) (.inl ⟨p,rfl⟩),by simp⟩
 ·rcases z with ⟨D,_⟩ | ⟨_,b,o,s,rfl,E,S,rfl,F⟩
  ·omega
  ·rw[if_neg (by omega)];refine⟨b::((s.take m).drop l).flatten,lU a (by omega) (by omega) (.inr ⟨p,b,o+l*e.length,(s.take m).drop l, ?_,E,by simp;omega,rfl,λi v f k d=>?_⟩), ?_⟩
   ·simp[yM]
   ·have G:r[l+i]? =some v:=by
     rw[HM,HP] at k;split at k
     ·exact k
     ·cases k
    have H:s[l+i]? =some f:=by
     rw[HM,HP] at d;split at d
     ·exact d
     ·cases d
    have:=F (l+i) v f G H;have I:∀j,o+((l+i)*e.length+j)=o+l*e.length+(i*e.length+j):=by intro j;rw[Nat.add_mul];omega
    simpa only[I] using this
   ·intro x g;rcases Ep.1 g with rfl | g
    ·simp
    ·obtain⟨f,d,g⟩:=List.mem_flatten.1 g;exact Ew _ (List.mem_flatten.2 ⟨f,HQ (HR d),g⟩)
variable {P:aaF} {Γ:Ctx} {w0:aaE} {S:Own} {st:CO} {o:Oper} {e:R_} {a:Act} {w:aaE}
theorem Core.freeze{f:Nat→bg}{h:Nat→Option yP}{β:Env}{φ:Nat→List Nat}{tm:Array aaG}(g:Core w0 S f h β φ tm w){id:Nat}{o:yP}{ct:List CT}{r:List (List DC)}{u:Bool}
  (m:h id=some o) (x:G3 o ct r u):Core w0 S f (PB h id (some (.eN ct r))) β (PB φ id []) tm w:=by
 have p:∀b,uh (PB h id (some (.eN ct r))) β b→uh h β b:=by
  rintro b (⟨i,q,a,c⟩ | c)
  case inr=>exact .inr c
  by_cases d:i=id
  ·subst d;simp only[PB,if_true,VR] at a;subst a;simp[ar] at c
  ·simp only[PB,d,if_false] at a;exact .inl ⟨i,q,a,c⟩
 have n:=g.aC id _ m;refine g.step (λ_=>False) (Ft _) (λ_ _ _=>rfl) (λb c=> .inl (p b c)) (λ_ _ _ h=>h) (λ_ _=>⟨rfl,rfl⟩) ?_ ?_
 ·intro i q a;by_cases d:i=id
  ·subst d;simp only[PB,if_true,VR] at a;subst a;refine .inr ⟨⟨?_,by simp[PB]⟩,by simp[PB],by simp[PB]⟩;obtain⟨y,z,A,_⟩:=by4 n x;simp only[dg];refine⟨y,z,λb c k=>?_⟩;rcases A b c with s | B
   ·rcases k with ⟨j,E,e,t⟩ | k
    case inr=>exact g.BR m (al n b s) k
    have l:j≠i:=by
     rintro rfl
     simp only[PB,if_true,VR] at e;subst e;simp[ar] at t
    simp only[PB,l,if_false] at e;exact g.sep i j _ _ (Ne.symm l) m e b (al n b s) (al (g.aC j _ e) b t)
   ·exact B (p b k)
  ·simp only[PB,d,if_false] at a;exact .inl ⟨λh=>h,a,by simp[PB,d],λ_ _ h=>h,λ_ _=>rfl⟩
 ·intro i j C D l a e b c;by_cases d:i=id
  ·subst d;simp[PB] at c
  ·by_cases v:j=id
   ·subst v;simp[PB]
   ·simp only[PB,d,v,if_false] at a e c ⊢;exact g.sep i j C D l a e b c
def VQ(h:Nat→Option yP)(m:Wk):Prop:=∀x∈m,∃o,h x.1=some o∧G3 o x.2.1 x.2.2.1 x.2.2.2
def cb(h:Nat→Option yP)(β:Env)(i:Nat):List Nat:=
 match h i with
 | some o=>ar β i o
 | none=>[]
theorem BP{h:Nat→Option yP}{β:Env}{i:Nat}{o:yP}(a:h i=some o):cb h β i=ar β i o:=by simp only[cb,a]
def TE(φ:Nat→List Nat):Wk→Nat→List Nat
 | []=>φ
 | x::l=>PB (TE φ l) x.1 []
theorem fW{id:Nat}{m:Wk}(h:Nh id m=true):∀x∈m,x.1≠id:=by
 induction m with
 | nil=>simp
 | cons y l b=>
  obtain⟨i,q⟩:=y;simp only[Nh,gF,Gw] at h;intro x a;rcases Ep.1 a with rfl | a
  ·exact HU h.1
  ·exact b h.2 x a
theorem vZ{h:Nat→Option yP}{m:Wk}{id:Nat}(a:∀x∈m,x.1≠id):xO (qv m) h id=h id:=by
 induction m with
 | nil=>rfl
 | cons y l b=>
  obtain⟨i,d,r,u⟩:=y;simp only[qv,xO,PB];rw[if_neg (λe=>a _ (EI ..) e.symm)];exact b (λx c=>a x (Ew _ c))
theorem BQ{φ:Nat→List Nat}{m:Wk}{id:Nat}(a:∀x∈m,x.1≠id):TE φ m id=φ id:=by
 induction m with
 | nil=>rfl
 | cons y l b=>
  simp only[TE,PB];rw[if_neg (λe=>a _ (EI ..) e.symm)];exact b (λx c=>a x (Ew _ c))
theorem Core.gg{f:Nat→bg}{h:Nat→Option yP}{β:Env}{φ:Nat→List Nat}{tm:Array aaG}(a:Core w0 S f h β φ tm w):∀(m:Wk),VQ h m→gf m=true→
  Core w0 S f (xO (qv m) h) β (TE φ m) tm w
 | [],_,_=>a
 | (id,e',r,u)::l,hm,hn=>by simp only[gf,gF] at hn;have b:=Core.gg a l (λx c=>hm x (Ew _ c)) hn.2;obtain⟨o,d,e⟩:=hm _ (EI ..);have g:=fW hn.1;exact b.freeze (id:=id) (ct:=e') (r:=r) (u:=u) (by rw[vZ g];exact d) e
theorem TT(s:List UInt8)(l m:Nat):(⟨s.toArray⟩:ByteArray).extract l m=⟨((s.take m).drop l).toArray⟩:=by apply ByteArray.ext;apply IZ.1;rw[Lib.extract_data];simp[List.drop_take]
theorem Dm{n:Nat}{b d:Option bg}{l m:Nat}{c:Bool}(h:wz n b d=some (l,m,c))(a:c=true):
  l≤m∧m≤n∧((b=none∧l=0)∨∃k,b=some (.int k l))∧((d=none∧m=n)∨∃k,d=some (.int k m)):=by
 unfold wz at h;split at h
 ·simp only[VR,Prod.mk.injEq] at h;obtain⟨rfl,rfl,_⟩:=h;exact⟨GX _,Ft _,.inl ⟨rfl,rfl⟩,.inl ⟨rfl,rfl⟩⟩
 ·rename_i k z;simp only[VR,Prod.mk.injEq] at h;obtain⟨rfl,rfl,rfl⟩:=h;simp only[gF,kQ] at a;exact⟨by omega,Ft _,.inr ⟨k,by rw[Gz a.1]⟩,.inl ⟨rfl,rfl⟩⟩
 ·rename_i k z;simp only[VR,Prod.mk.injEq] at h;obtain⟨rfl,rfl,rfl⟩:=h;simp only[gF,kQ] at a;exact⟨GX _,by omega,.inl ⟨rfl,rfl⟩,.inr ⟨k,by rw[Gz a.1]⟩⟩
 ·rename_i k z e f;simp only[VR,Prod.mk.injEq] at h;obtain⟨rfl,rfl,rfl⟩:=h;simp only[gF,kQ] at a;exact⟨by omega,by omega,.inr ⟨k,by rw[Gz a.1.1]⟩,.inr ⟨e,by rw[Gz (by omega)]⟩⟩
 ·cases h
theorem Iz{f:Nat→bg}{h:Nat→Option yP}{x:Option aaH}{s:bg}(e:(Ee x).val f h=some (some s)):∃y,x=some y∧(hF y).val f h=some s:=by
 cases x with
 | none=>simp[Ee] at e
 | some y=>
  simp only[Ee,M.ag,sC,M.ab,VR] at e;obtain⟨b,a,rfl⟩:=e;exact⟨y,rfl,a⟩
theorem Ve{f:Nat→bg}{h:Nat→Option yP}{x:Option aaH}(e:(Ee x).val f h=some none):x=none:=by
 cases x with
 | none=>rfl
 | some y=>simp[Ee,sC] at e
theorem CW{x:Nat}{k:IntKind}{y:Nat}{a:BoundsCode}(h:x≤y):(Instr.sliceBound (.int k x) y a).run P w= .ok x w:=by simp[Instr.sliceBound,asIntOf,h]
theorem QY{i j:Option aaH}{o p:Option bg}{n cap l m:Nat}{c isS:Bool}{β:Env}{φ:Nat→List Nat}(v:n≤cap)(d:Core w0 S st.get st.obj β φ a.tmps w)
  (e:(Ee i).val st.get st.obj=some o) (f:(Ee j).val st.get st.obj=some p) (h:wz n o p=some (l,m,c)) (s:c=true):
  (Instr.sliceBounds isS n cap (i.map a.eval) (j.map a.eval) none).run P w= .ok (l,m,cap) w:=by
 obtain⟨q,x,t,u⟩:=Dm h s;rcases t with ⟨rfl,rfl⟩ | ⟨k,rfl⟩<;>rcases u with ⟨rfl,rfl⟩ | ⟨r,rfl⟩
 ·simp[Ve e,Ve f,Instr.sliceBounds]
 ·obtain⟨y,rfl,b⟩:=Iz f;have b:=d.ev b;simp only[dg] at b;simp[Ve e,Instr.sliceBounds,b.1,CW (P:=P) (w:=w) (k:=r) (by omega:m≤cap)]
 ·obtain⟨y,rfl,b⟩:=Iz e;have b:=d.ev b;simp only[dg] at b;simp[Ve f,Instr.sliceBounds,b.1,CW (P:=P) (w:=w) (k:=k) q]
 ·obtain⟨y,rfl,b⟩:=Iz e;have b:=d.ev b;obtain⟨z,rfl,g⟩:=Iz f;have g:=d.ev g;simp only[dg] at b g;simp[Instr.sliceBounds,b.1,g.1,CW (P:=P) (w:=w) (k:=k) q,CW (P:=P) (w:=w) (k:=r) (by omega:m≤cap)]
theorem nqx(C:Rel w0 S st a w)(R:∀d,o.dst=some d→IW st.n d){t:aaI}{x:aaH}{Z y:Option aaH}(ho:o.op= .slice t x Z y none){sx:bg}{U W:Option bg}
  (T:(hF x).val st.get st.obj=some sx) (h2:(Ee Z).val st.get st.obj=some U) (h3:(Ee y).val st.get st.obj=some W)
  (f:(Yg P t sx U W).val st.get st.obj=some e) (g:e.ok=true):Good P w0 S st o e a w:=by
 unfold Yg at f;split at f
 ·rename_i X;split at f
  ·rename_i s;split at f
   ·rename_i l m c k;simp only[M.ab,VR] at f;subst f;have g:c=true:=g;refine R7 C R rfl rfl λβ φ h=>?_;have j:=h.ev T;simp only[dg] at j;have z:=QY (P:=P) (isS:=false) (Ft _) h h2 h3 k g;refine⟨.string ⟨((s.take m).drop l).toArray⟩, ?_, ?_⟩
    ·simp[execOp,ho,j.1,Instr.sliceAt,Instr.slice,run_underlying X,Eb,z,TT]
    ·unfold dg;refine⟨rfl, ?_⟩;simp only[HW,Ij];omega
   ·simp at f
  ·simp at f
 ·rename_i E X;have run:∀(q:Option Addr) (n cap l m:Nat) (c:Bool) (i:TypeInfo) (β:Env) (φ:Nat→List Nat),Core w0 S st.get st.obj β φ a.tmps w→n≤cap→P.info? E=some i→wz n U W=some (l,m,c)→c=true→
    a.eval x= .slice q n cap→(execOp a.eval o).run P w= .ok (.value (.slice (if cap=l then q else q.map (·.add (l*i.size))) (m - l) (cap - l))) w:=by
   intro q n cap l m c i β φ h B y k BC j;have z:=QY (P:=P) (isS:=true) B h h2 h3 k BC;simp[execOp,ho,j,Instr.sliceAt,Instr.slice,run_underlying X,z,sizeOf,typeInfo,y]
  split at f
  ·rename_i D r;cases p:fF P E D.length
   ·simp[p] at f
   simp only[p,HI] at f;obtain⟨i,y,F⟩:=Xo p;split at f
   ·rename_i l m c k;simp only[M.ab,VR] at f;subst f;have g:c=true:=g;refine R7 C R rfl rfl λβ φ h=>?_;have j:=h.ev T;simp only[dg] at j;obtain⟨fp,v,G⟩:=j;obtain⟨q,n,cap,A,H,B,_,_⟩:=xP v;obtain⟨I,K,_⟩:=Dm k g;rw[A] at v;obtain⟨L,N,O⟩:=LV v I K;refine⟨_,run q n cap l m c i β φ h B y (by rw[←H];exact k) g A, ?_⟩;simp only[dg];rw[F];exact⟨L,N,λb z=>G b (O b z)⟩
   ·simp at f
  ·rename_i id;simp only[M.aY,sC] at f;obtain⟨ob,aQ,f⟩:=f;split at f
   ·rename_i t' D r u;cases p:ER t' E && fF P E D.length
    ·simp[p] at f
    simp only[p,HI] at f;simp only[gF] at p;obtain⟨i,y,F⟩:=Xo p.2;split at f
    ·rename_i l m c k;simp only[M.ab,VR] at f;subst f;have g:c=true:=g;obtain⟨β,φ,h⟩:=C.core;have j:=h.ev T;simp only[dg] at j;have L8:=h.freeze aQ (.inl ⟨_,_,rfl⟩);have Q:=(L8.aC id (.eN D r) (by simp[PB])).1;simp only[dg] at Q;obtain⟨fp,v,G⟩:=Q;obtain⟨q,n,cap,A,H,B,_,_⟩:=xP v;obtain⟨I,K,_⟩:=Dm k g;rw[A] at v;obtain⟨L,N,O⟩:=LV v I K;refine yu C R (run q n cap l m c i β φ h B y (by rw[←H];exact k) g (j.1.trans A)) C.kept ⟨β,_,L8, ?_⟩;simp only[dg];rw[F];exact⟨L,N,λb z=>G b (O b z)⟩
    ·simp at f
   ·rename_i D r;cases p:fF P E D.length
    ·simp[p] at f
    simp only[p,HI] at f;obtain⟨i,y,F⟩:=Xo p;split at f
    ·rename_i l m c k;simp only[M.ab,VR] at f;subst f;have g:c=true:=g;refine R7 C R rfl rfl λβ φ h=>?_;have j:=h.ev T;simp only[dg] at j;have Q:=(h.aC id _ aQ).1;simp only[dg] at Q;obtain⟨fp,v,G⟩:=Q;obtain⟨q,n,cap,A,H,B,_,_⟩:=xP v;obtain⟨I,K,_⟩:=Dm k g;rw[A] at v;obtain⟨L,N,O⟩:=LV v I K;refine⟨_,run q n cap l m c i β φ h B y (by rw[←H];exact k) g (j.1.trans A), ?_⟩;simp only[dg];rw[F];exact⟨L,N,λb z=>G b (O b z)⟩
    ·simp at f
   ·simp at f
  ·simp at f
 ·simp at f
theorem nlk(off:Nat):∀(b:List aaG) (k:Nat) (a:Array aaG),off+k+b.length≤a.size→
  ((b.zipIdx k).foldl (λa (x:aaG×Nat)=>a.setIfInBounds (off+x.2) x.1) a).toList=a.toList.take (off+k)++(b++a.toList.drop (off+k+b.length))
 | [],k,a,h=>by simp
 | v::b,k,a,h=>by
  simp only[List.zipIdx_cons,List.foldl_cons];simp only[di] at h;rw[nlk off b (k+1) _ (by simp;omega)];have c:(a.setIfInBounds (off+k) v).toList=a.toList.set (off+k) v:=by simp
  have d:off+k<a.toList.length:=by simp;omega
  rw[c];have e:(a.toList.set (off+k) v).take (off+(k+1))=a.toList.take (off+k)++[v]:=by rw[←Hc,List.take_succ_eq_append_getElem (by simpa using d),List.take_set_of_le (Ft _)];simp
  have f:(a.toList.set (off+k) v).drop (off+(k+1)+b.length)=a.toList.drop (off+k+(b.length+1)):=by
   rw[List.drop_set_of_lt (by omega)]
   congr 1
   omega
  rw[e,f];simp
theorem sA{place:Nat→Option (Nat×Nat)}{a:Array aaG}{i off:Nat}{v:aaG}{b:List (Nat×aaG)}(c:place i=some (off,v.cells.size))(d:off+v.cells.size≤a.size):
  Instr.fill place a ((i,v)::b)=Instr.fill place (a.toList.take off++(v.cells.toList++a.toList.drop (off+v.cells.size))).toArray b:=by
 have e:(v.cells.zipIdx.foldl (λf (x:aaG×Nat)=>f.setIfInBounds (off+x.2) x.1) a)=(a.toList.take off++(v.cells.toList++a.toList.drop (off+v.cells.size))).toArray:=by apply IZ.1;rw[←Array.foldl_toList,Array.toList_zipIdx];have:=nlk off v.cells.toList 0 a (by simpa using d);simpa using this
 simp only[Instr.fill,c];rw[if_neg (by simp;omega)];exact congrArg (λx=>Instr.fill place x b) e
theorem Rg{m:Nat→Prop}{β:Env}{f:Nat→bg}{h:Nat→Option yP}{s:bg}{v:aaG}{j:List bg}(d:dg w m β s v)(c:(R8 s).val f h=some j):
  qV w m β j v.cells.toList∧∀x∈v.cells.toList,x.oneCell'=true:=by
 have a:v.oneCell'=true→j=[s]→qV w m β j v.cells.toList∧∀x∈v.cells.toList,x.oneCell'=true:=by
  intro q t;have u:v.cells= #[v]:=by cases v<;>first | rfl | (simp[Value.oneCell'] at q)
  rw[u,t];simp only[ED,forall_eq,qV];exact⟨⟨v,[],rfl,d,rfl⟩,q⟩
 cases s with
 | fV=>simp[R8] at c
 | undef=>simp[R8] at c
 | Ej l=>simp[R8] at c
 | GC g l=>simp[R8] at c
 | Gx id lo z=>simp[R8] at c
 | agg l=>
  simp only[R8,M.ab,VR] at c;subst c;simp only[dg] at d;obtain⟨D,rfl,y,A⟩:=d;simpa [Value.cells] using ⟨y,A⟩
 | kb b=>simp only[R8,M.ab,VR] at c;exact a (by simp only[dg] at d;subst d;rfl) c.symm
 | int k n=>simp only[R8,M.ab,VR] at c;exact a (by simp only[dg] at d;rw[d.1];rfl) c.symm
 | bool b=>simp only[R8,M.ab,VR] at c;exact a (by simp only[dg] at d;subst d;rfl) c.symm
 | str b=>simp only[R8,M.ab,VR] at c;exact a (by simp only[dg] at d;rw[d.1];rfl) c.symm
 | sl e r=>simp only[R8,M.ab,VR] at c;exact a (by simp only[dg] at d;obtain⟨B,C,_⟩:=d;exact C.one) c.symm
 | nil=>simp only[R8,M.ab,VR] at c;exact a (by simp only[dg] at d;subst d;rfl) c.symm
 | own id=>simp only[R8,M.ab,VR] at c;exact a (by simp only[dg] at d;exact d.2) c.symm
 | ptr id off=>simp only[R8,M.ab,VR] at c;exact a (by simp only[dg] at d;subst d;rfl) c.symm
 | iv e r off=>simp only[R8,M.ab,VR] at c;exact a (by simp only[dg] at d;obtain⟨b,o,B,p,_⟩:=d;subst p;rfl) c.symm
 | eK id i z off=>simp only[R8,M.ab,VR] at c;exact a (by simp only[dg] at d;obtain⟨g,_,p⟩:=d;subst p;rfl) c.symm
theorem YT{a:Nat→Prop}{β:Env} :∀(l:List aaG),qV w a β (l.map ofConst) l
 | []=>by simp[qV]
 | v::l=>by simp only[Et,qV];exact⟨v,l,rfl,QV v,YT l⟩
theorem nuw{c:Array Field}{a:List (Nat×Nat)}(h:c.toList.mapM (λf=>(P.info? f.type).map λi=>(f.offset,i.size))=some a){i:Nat}{f:Field}(k:c[i]? =some f):
  ∃d,P.info? f.type=some d∧a.toArray[i]? =some (f.offset,d.size):=by
 have b:c.toList[i]? =some f:=by simpa using k
 clear k;generalize c.toList=l at h b
 induction l generalizing a i with
 | nil=>simp at b
 | cons g l m=>
  simp only[List.mapM_cons,Option.bind_eq_bind,Option.pure_def] at h;cases e:P.info? g.type with
  | none=>simp[e] at h
  | some d=>
   cases j:l.mapM (λf=>(P.info? f.type).map λi=>(f.offset,i.size)) with
   | none=>simp[e,j] at h
   | some rest=>
    simp[e,j] at h;subst h;cases i with
    | zero=>
     simp at b;subst b;exact⟨d,e,by simp⟩
    | succ i=>
     obtain⟨n,o,p⟩:=m j (by simpa using b);exact⟨n,o,by simpa using p⟩
theorem nzp{β:Env}{φ:Nat→List Nat}(o:Core w0 S st.get st.obj β φ a.tmps w){p:Array Field}{c:List (Nat×Nat)}
  (q:p.toList.mapM (λf=>(P.info? f.type).map λi=>(f.offset,i.size))=some c):
  ∀(e:List (Nat×aaH)) (b:List bg) (j:List bg) (g:List aaG),(Be P p e b).val st.get st.obj=some j→qV w (uh st.obj β) β b g→(∀x∈g,x.oneCell'=true)→
  ∃k:List aaG,Instr.fill (c.toArray[·]?) g.toArray (e.map λx=>(x.1,a.eval x.2))=some k.toArray∧qV w (uh st.obj β) β j k∧∀x∈k,x.oneCell'=true
 | [],b,j,g,d,hr,h1=>by simp only[Be,M.ab,VR] at d;subst d;exact⟨g,by simp[Instr.fill],hr,h1⟩
 | (i,x)::rest,b,j,g,d,hr,h1=>by
  simp only[Be] at d;split at d
  ·rename_i f v;simp only[M.ag,sC] at d;obtain⟨s,z,l,A,d⟩:=d;cases m:fF P f.type l.length && Nat.ble (f.offset+l.length) b.length
   ·simp[m] at d
   simp only[m,HI] at d;simp only[gF] at m;obtain⟨B,C,D⟩:=nuw q v;obtain⟨E,n,F⟩:=Xo m.1;rw[C] at n;injection n with n;subst n;have G:=Il m.2;obtain⟨r,H⟩:=Rg (o.ev z) A;have t:=qV.length _ _ hr;have u:=qV.length _ _ r;have I:(a.eval x).cells.size=B.size:=by simpa [F] using u
   have K:f.offset+(a.eval x).cells.size≤g.toArray.size:=by simp;omega
   have L:qV w (uh st.obj β) β (b.take f.offset++(l++b.drop (f.offset+l.length))) (g.take f.offset++((a.eval x).cells.toList++g.drop (f.offset+(a.eval x).cells.size))):=by
    refine qV.append _ _ _ _ (qV.take _ _ _ hr) (qV.append _ _ _ _ r ?_);have:l.length=(a.eval x).cells.size:=by simpa using u.symm
    rw[this];exact qV.drop _ _ _ hr
   obtain⟨k,N,O,Q⟩:=nzp o q rest _ j _ d L (by
    intro y h;simp only[DO] at h;rcases h with h | h | h
    ·exact h1 y (HQ h)
    ·exact H y h
    ·exact h1 y (HR h))
   refine⟨k, ?_,O,Q⟩;simp only[Et];rw[sA (off:=f.offset) (by rw[I];exact D) K];simpa using N
  ·simp at d
theorem Zy{f:Nat→bg}{h:Nat→Option yP}{t:aaI}{z:List bg}(a:(tO P t).val f h=some z):
  ∃i b,P.info? t=some i∧i.zero=some b∧z=b.cells.toList.map ofConst∧∀x∈b.cells.toList,x.oneCell'=true:=by
 unfold tO at a;split at a
 ·rename_i i d;split at a
  ·rename_i b e;cases c:b.cells.toList.all (·.oneCell')
   ·simp[c] at a
   ·simp only[c,HI,M.ab,VR] at a;exact⟨i,b,d,e,a.symm,λx g=>List.all_eq_true.1 c x g⟩
  ·simp at a
 ·simp at a
theorem neO(l:Rel w0 S st a w)(m:∀d,o.dst=some d→IW st.n d){t:aaI}{b:Array (Nat×aaH)}(p:o.op= .build t b){h:Array Field}{c:List (Nat×Nat)}{z j:List bg}
  (q:P.underlying t=some (.struct h)) (k:h.toList.mapM (λf=>(P.info? f.type).map λi=>(f.offset,i.size))=some c)
  (r:(tO P t).val st.get st.obj=some z) (s:(Be P h b.toList z).val st.get st.obj=some j) (u:e= {sv:= .agg j}):Good P w0 S st o e a w:=by
 subst u;refine R7 l m rfl rfl λβ φ v=>?_;obtain⟨i,y,A,B,rfl,C⟩:=Zy r;obtain⟨g,D,E,F⟩:=nzp v k b.toList _ j _ s (YT y.cells.toList) C;refine⟨.agg g.toArray, ?_,by unfold dg;exact⟨g,rfl,E,F⟩⟩;have G:P.built t (b.map λx=>(x.1,a.eval x.2)).toList=some g.toArray:=by simp only[Program.built,A,q,B,k];simpa using D
 have:=run_build (P:=P) w t (b.map λx=>(x.1,a.eval x.2)) g.toArray G;simp[execOp,p,this]
def Env.j8(β:Env)(id b:Nat):Env:=⟨PB β.cY id b,β.val,β.gV,β.nb⟩
def Env.gw(β:Env)(id:Nat)(v:aaG):Env:=⟨β.cY,PB β.val id v,β.gV,β.nb⟩
theorem nwi{i:Nat}{m n:Wk} :Nh i (m++n)=(Nh i m && Nh i n):=by
 induction m with
 | nil=>simp[Nh]
 | cons x l a=>obtain⟨j,q⟩:=x;simp[Nh,a,Bool.and_assoc]
theorem nuZ{m n:Wk}(h:gf (m++n)=true):gf m=true∧gf n=true∧∀x∈m,∀y∈n,x.1≠y.1:=by
 induction m with
 | nil=>exact⟨rfl,by simpa using h,by simp⟩
 | cons x l c=>
  obtain⟨j,q⟩:=x;simp only[EE,gf,nwi,gF] at h;obtain⟨d,f,g⟩:=c h.2;refine⟨by simp[gf,h.1.1,d],f,λx a y b=>?_⟩;rcases Ep.1 a with rfl | a
  ·exact λe=>fW h.1.2 y b e.symm
  ·exact g x a y b
variable {f:Nat→bg} {h:Nat→Option yP} {β:Env} {φ:Nat→List Nat} {tm:Array aaG}
theorem Ai{m:Wk}{b:Nat}(c:uh (xO (qv m) h) β b):uh h β b:=by
 induction m generalizing b with
 | nil=>exact c
 | cons x l e=>
  obtain⟨i,g,r,u⟩:=x;rcases c with ⟨j,f,a,d⟩ | c
  case inr=>exact .inr c
  simp only[qv,xO,PB] at a;split at a
  ·injection a with a;subst a;simp[ar] at d
  ·exact e (.inl ⟨j,f,a,d⟩)
theorem cI(k:Core w0 S f h β φ tm w){m:Wk}(v:VQ h m){x:Nat×List CT×List (List DC)×Bool}(q:x∈m){b:Nat}(n:b∈cb h β x.1):¬uh (xO (qv m) h) β b:=by
 rintro (⟨j,ob,g,bB⟩ | eM)
 case inr=>
  obtain⟨o,c,_⟩:=v x q;rw[BP c] at n;exact k.BR c (al (k.aC _ _ c) b n) eM
 obtain⟨o,c,_⟩:=v x q;rw[BP c] at n;have a:∀(l:Wk) (j:Nat),(∃y∈l,y.1=j)→∃p r,xO (qv l) h j=some (.eN p r):=by
  intro l
  induction l with
  | nil=>rintro j ⟨y,d,_⟩;simp at d
  | cons z l B=>
   obtain⟨i,p,r,u⟩:=z
   rintro j ⟨y,d,rfl⟩
   simp only[qv,xO,PB];by_cases s:y.1=i
   ·rw[if_pos s];exact⟨p,r,rfl⟩
   ·rw[if_neg s];rcases Ep.1 d with rfl | d
    ·exact absurd rfl s
    ·exact B y.1 ⟨y,d,rfl⟩
 by_cases t:∃y∈m,y.1=j
 ·obtain⟨p,r,C⟩:=a m j t;rw[C] at g;injection g with g;subst g;simp[ar] at bB
 ·have A:h j=some ob:=by rw[vZ (λy d e=>t ⟨y,d,e⟩)] at g;exact g
  have D:x.1≠j:=λe=>t ⟨x,q,e⟩;exact k.sep x.1 j _ _ D c A b (al (k.aC x.1 _ c) b n) (al (k.aC j _ A) b bB)
theorem w7(p:Core w0 S f h β φ tm w){C:CT}{s:bg}{v:aaG}{q:DC×Wk×Bool}(i:dg w (uh h β) β s v)(a:(W9 C s).val f h=some q):
  ∃g,kL w C q.1 v g∧VQ h q.2.1∧gf q.2.1=true∧(∀b∈g,(¬uh h β b)∨∃x∈q.2.1,b∈cb h β x.1)∧
   (q.2.2=true→(∀b∈g,∃x∈q.2.1,b∈φ x.1)∧g.Nodup):=by
 have c:∀(d:DC) (E:Bool) (g:List Nat),q=(d,[],E)→kL w C d v g→(∀b∈g,¬uh h β b)→(E=true→g=[])→
   ∃g,kL w C q.1 v g∧VQ h q.2.1∧gf q.2.1=true∧(∀b∈g,(¬uh h β b)∨∃x∈q.2.1,b∈cb h β x.1)∧(q.2.2=true→(∀b∈g,∃x∈q.2.1,b∈φ x.1)∧g.Nodup):=by
  rintro d E g rfl t y K
  refine⟨g,t,by simp[VQ],rfl,λb e=> .inl (y b e),λL=>?_⟩;rw[K L];simp
 unfold W9 at a;split at a
 ·rename_i k n;split at a
  ·rename_i N;by_cases G:k=N
   ·subst G;simp only[decide_true,HI,M.ab,VR] at a;simp only[dg] at i;exact c _ _ [] a.symm (by unfold kL;exact⟨n,rfl,i.1,i.2,rfl⟩) (by simp) (by simp)
   ·simp[G] at a
  ·simp at a
 ·split at a
  ·simp only[M.ab,VR] at a;simp only[dg] at i;exact c _ _ [] a.symm (by unfold kL;exact⟨_,rfl,i,rfl⟩) (by simp) (by simp)
  ·simp at a
 ·split at a
  ·simp only[M.ab,VR] at a;simp only[dg] at i;exact c _ _ [] a.symm (by unfold kL;exact⟨_,rfl,i,rfl⟩) (by simp) (by simp)
  ·simp at a
 ·split at a
  ·simp only[M.ab,VR] at a;simp only[dg] at i;exact c _ _ [] a.symm (by unfold kL;exact⟨_,rfl,i.1,i.2,rfl⟩) (by simp) (by simp)
  ·simp at a
 ·rename_i z r;split at a
  ·rename_i l;cases e:pc z l
   ·simp[e] at a
   ·simp only[e,HI,M.ab,VR] at a;have:=xp _ _ e;subst this;simp only[dg] at i;obtain⟨g,t,y⟩:=i;exact c _ _ g a.symm t y (by simp)
  ·simp at a
 ·split at a
  ·simp only[M.ab,VR] at a;simp only[dg] at i;subst i;exact c _ _ [] a.symm (lU rfl (Ft _) (GX _) (.inl ⟨rfl,rfl⟩)) (by simp) (by simp)
  ·simp at a
 ·rename_i id;split at a
  ·rename_i z;simp only[dg] at i;obtain⟨i,_⟩:=i;subst i;simp only[M.aY,sC] at a;obtain⟨P,m,a⟩:=a;split at a
   ·rename_i D l r O u;cases e:pc l z
    ·simp[e] at a
    ·simp only[e,HI,M.ab,VR] at a;have:=xp _ _ e;subst this a;obtain⟨g,o,F,A⟩:=aG (p.aC id _ m);refine⟨g,o, ?_,rfl,λb e=>?_,λB=>⟨λb e=>⟨_,ED.2 rfl,(A B).1 b e⟩,(A B).2 (p.fresh id _ m).1⟩⟩
     ·intro x j;rw[ED] at j;subst j;exact⟨_,m,.inl ⟨D,O,rfl⟩⟩
     ·rcases F b e with j | j
      ·exact .inr ⟨_,ED.2 rfl,by rw[BP m];exact j⟩
      ·exact .inl j
   ·rename_i l r;cases e:pc l z
    ·simp[e] at a
    ·simp only[e,HI,M.ab,VR] at a;have:=xp _ _ e;subst this;obtain⟨o,_⟩:=p.aC id _ m;simp only[dg] at o;obtain⟨g,t,y⟩:=o;exact c _ _ g a.symm t y (by simp)
   ·rename_i D l H r;cases e:pc l z
    ·simp[e] at a
    ·simp only[e,HI,M.ab,VR] at a;have:=xp _ _ e;subst this a;have I:G3 (.deep D l H r none) l r true:= .inr ⟨D,H,rfl,rfl⟩;obtain⟨g,o,F,A⟩:=by4 (p.aC id _ m) I;refine⟨g,o, ?_,rfl,λb e=>?_,λB=>⟨λb e=>⟨_,ED.2 rfl,(A B).1 b e⟩,(A B).2 (p.fresh id _ m).1⟩⟩
     ·intro x j;rw[ED] at j;subst j;exact⟨_,m,I⟩
     ·rcases F b e with j | j
      ·exact .inr ⟨_,ED.2 rfl,by rw[BP m];exact j⟩
      ·exact .inl j
   ·simp at a
  ·simp at a
 ·simp at a
theorem Ff{m n:Wk}(b:VQ h m)(c:VQ h n):VQ h (m++n):=λx a=>by
 rcases DO.1 a with a | a
 ·exact b x a
 ·exact c x a
theorem apart(e:Core w0 S f h β φ tm w){m n:Wk}(g:VQ h m)(i:VQ h n)(j:∀x∈m,∀y∈n,x.1≠y.1){p q:List Nat}
  (k:∀b∈p,∃x∈m,b∈φ x.1) (l:∀b∈q,∃x∈n,b∈φ x.1) (np:p.Nodup) (o:q.Nodup):(p++q).Nodup:=by
 rw[Eu];refine⟨np,o,λb r c s t=>?_⟩;subst t;obtain⟨x,a,u⟩:=k b r;obtain⟨y,d,v⟩:=l b s;obtain⟨_,z,_⟩:=g x a;obtain⟨_,A,_⟩:=i y d;exact e.sep x.1 y.1 _ _ (j x a y d) z A b u v
theorem eV(m:Core w0 S f h β φ tm w):∀(bF:List CT) (p:List bg) (i:List aaG) (q:List DC×Wk×Bool),qV w (uh h β) β p i→(jk bF p).val f h=some q→
  ∃k,bj w bF q.1 (λj=>i[j]?) k∧VQ h q.2.1∧(∀b∈k,(¬uh h β b)∨∃x∈q.2.1,b∈cb h β x.1)∧
   (q.2.2=true→(∀b∈k,∃x∈q.2.1,b∈φ x.1)∧(gf q.2.1=true→k.Nodup))
 | [],[],i,q,hs,hq=>by simp only[jk,M.ab,VR] at hq;subst hq;exact⟨[],by simp[bj],by simp[VQ],by simp,by simp⟩
 | [],_::_,i,q,hs,hq=>by simp[jk] at hq
 | _::_,[],i,q,hs,hq=>by simp[jk] at hq
 | c::cs,s::AK,i,q,hs,hq=>by
  simp only[qV] at hs;obtain⟨v,l,rfl,A,B⟩:=hs;simp only[jk,M.ag,sC,M.ab,VR] at hq;obtain⟨C,D,r,E,rfl⟩:=hq;obtain⟨t,F,u,n1,G,n⟩:=w7 m A D;obtain⟨y,H,z,I,o⟩:=eV m cs AK l r B E;refine⟨t++y, ?_,Ff u z, ?_, ?_⟩
  ·simp only[bj];exact⟨C.1,r.1,v,t,y,rfl,by simp,F,by simpa using H,rfl⟩
  ·intro b a;rcases DO.1 a with a | a
   ·rcases G b a with d | ⟨x,d,e⟩
    ·exact .inl d
    ·exact .inr ⟨x,U8 _ d,e⟩
   ·rcases I b a with d | ⟨x,d,e⟩
    ·exact .inl d
    ·exact .inr ⟨x,mi _ d,e⟩
  ·intro g;simp only[gF] at g;refine⟨λb a=>?_,λK=>?_⟩
   ·rcases DO.1 a with a | a
    ·obtain⟨x,d,e⟩:=(n g.1).1 b a;exact⟨x,U8 _ d,e⟩
    ·obtain⟨x,d,e⟩:=(o g.2).1 b a;exact⟨x,mi _ d,e⟩
   ·obtain⟨_,L,N⟩:=nuZ K;exact apart m u z N (n g.1).1 (o g.2).1 (n g.1).2 ((o g.2).2 L)
theorem Core.create(m:Core w0 S f h β φ tm w){w':aaE}{c:Env}{id:Nat}{n:yP}{p:List Nat}(B:w.heap.size≤w'.heap.size)(s:∀b,b<w.heap.size→w'.heap[b]? =w.heap[b]?)
  (C:∀i,id ∉ jH (f i)) (D:∀j o,h j=some o→id ∉ tg o) (I:h id=none) (t:∀j,j≠id→c.val j=β.val j∧c.cY j=β.cY j)
  (E:∀b∈ar c id n,w.heap.size≤b) (F:ef w' (uh (PB h id (some n)) c) c id n p) (q:p.Nodup)
  (r:∀b∈p,((w0.heap.size≤b∨S b)∧b<w'.heap.size)∧∀j o,h j=some o→b ∉ φ j) (u:c.gV=β.gV:=by rfl) (v:∀j,j≠id→c.nb j=β.nb j:=by intro _ _;rfl):Core w0 S f (PB h id (some n)) c (PB φ id p) tm w':=by
 have G:∀j o,j≠id→ar c j o=ar β j o:=by intro j o a;cases o<;>simp[ar,t j a,v j a]
 refine m.Aq (λi=>i=id) B (λb d _=>s b d) ?_ (λi j a e=>C i (e ▸ a)) t ?_ ?_ u
 ·rintro b (⟨j,k,a,bB⟩ | d)
  case inr=>exact .inl (.inr (u ▸ d))
  by_cases g:j=id
  ·subst g;simp only[PB,if_true,VR] at a;subst a;exact .inr (E b bB)
  ·simp only[PB,g,if_false] at a;rw[G j k g] at bB;exact .inl (.inl ⟨j,k,a,bB⟩)
 ·intro j k a;by_cases g:j=id
  ·subst g;simp only[PB,if_true,VR] at a;subst a;exact .inr ⟨by simpa [PB] using F,by simpa [PB] using q,λb d=>(r b (by simpa [PB] using d)).1⟩
  ·simp only[PB,g,if_false] at a;refine .inl ⟨g,a,v j g,by simp[PB,g],λi l e=>D j k a (e ▸ l),λb d=>s b ?_⟩;exact ((m.fresh j k a).2 b (al (m.aC j k a) b d)).2
 ·intro i j x k y l a b d;by_cases z:i=id
  ·subst z;have A:j≠i:=Ne.symm y;simp only[PB,A,if_false] at a;simp only[PB,if_true] at d;simp only[PB,A,if_false];exact (r b d).2 j k a
  ·simp only[PB,z,if_false] at l d;by_cases g:j=id
   ·subst g;simp only[PB,if_true];exact λH=>(r b H).2 i x l d
   ·simp only[PB,g,if_false] at a ⊢;exact m.sep i j x k y l a b d
theorem qV.beside{w':aaE}{a:Env}{id:Nat}{i:yP}(l:w.heap.size≤w'.heap.size)(m:∀b,b<w.heap.size→w'.heap[b]? =w.heap[b]?)
  (k:∀j,j≠id→a.val j=β.val j∧a.cY j=β.cY j) (n:∀b∈ar a id i,w.heap.size≤b) {AK:List bg} {f:List aaG} (o:qV w (uh h β) β AK f) (p:id ∉ iG AK) (q:a.gV=β.gV:=by rfl) (r:∀j,j≠id→a.nb j=β.nb j:=by intro _ _;rfl):
  qV w' (uh (PB h id (some i)) a) a AK f:=by
 refine qV.mono l (λb g _=>m b g) ?_ AK f o (λj c=>k j (λe=>p (e ▸ c)))
 rintro b (⟨j,oj,c,bB⟩ | g)
 case inr=>exact .inl (.inr (q ▸ g))
 by_cases d:j=id
 ·subst d;simp only[PB,if_true,VR] at c;subst c;exact .inr (n b bB)
 ·simp only[PB,d,if_false] at c;refine .inl (.inl ⟨j,oj,c, ?_⟩);cases oj<;>simp only[ar,k j d,r j d] at bB ⊢ <;>exact bB
structure T7 (st:CO) (d:Nat):Prop where
 slot:∀i,∀j∈jH (st.get i),j / 64≠d
 obj:∀j ob,st.obj j=some ob→j / 64≠d∧∀k∈tg ob,k / 64≠d
theorem DV(d k:Nat)(a:k<64):G8 d k / 64=d:=by unfold G8;omega
theorem Kept.alloc(a:Kept S w0 w)(b:Obj):Kept S w0 (w.alloc b):=
 ⟨a.os,a.tape,a.output,by have:=a.size;simp;omega,λk c d=>(by show (w.heap.push b)[k]? =_;rw[I8,if_neg (by have:=a.size;omega)];exact a.block k c d)⟩
theorem Kept.drew(a:Kept S w0 w):Kept S w0 w.drew:=⟨a.os,a.tape,a.output,a.size,a.block⟩
theorem rV(a:Obj):(w.alloc a).heap.size=w.heap.size+1:=by simp
theorem zb(a:Obj):(w.alloc a).heap[w.heap.size]? =some a:=heap_alloc_new w a
theorem alloc_old(a:Obj)(b:Nat)(c:b<w.heap.size):(w.alloc a).heap[b]? =w.heap[b]? :=by show (w.heap.push a)[b]? =_;rw[I8,if_neg (by omega)]
theorem nfp(v:aaG):jH (ofConst v)=[]:=by
 unfold ofConst;split
 ·rfl
 ·cases bp _ _<;>rfl
 ·generalize Nat.ble _ _=c;cases c<;>rfl
 ·rfl
 ·rfl
theorem nb_:∀(l:List aaG),iG (l.map ofConst)=[]
 | []=>rfl
 | v::l=>by simp[iG,nfp,nb_ l]
theorem naU{d:Nat}(b:T7 st d){x:aaH}{s:bg}(c:(hF x).val st.get st.obj=some s):∀j∈jH s,j / 64≠d:=by
 have:=ngq c;subst this;cases x with
 | tmp t=>exact b.slot t
 | const v=>simp[Bc,nfp]
 | global g=>intro j a;simp[Bc,jH] at a
 | func g=>intro j a;simp[Bc,jH] at a
theorem nqU{s:bg}{a:List bg}(b:(R8 s).val f h=some a):iG a=jH s:=by
 cases s<;>simp[R8] at b<;>subst b<;>simp[jH,iG]
theorem nmO(l:Rel w0 S st a w){d:Nat}(z:o.dst=some d)(A:IW st.n d)(r:T7 st d){t:aaI}{c:List bg}{vs:List aaG}
  (B:(execOp a.eval o).run P w= .ok (.value (.pointer (some ⟨w.heap.size,0,none⟩))) (w.alloc (.cells vs.toArray t)))
  (C:∀β φ,Core w0 S st.get st.obj β φ a.tmps w→qV w (uh st.obj β) β c vs) (D:∀x∈vs,x.oneCell'=true) (E:∀j∈iG c,j / 64≠d)
  (F:e= {sv:= .ptr (G8 d 0) 0,ow:=[(G8 d 0,some (.box t c))]}):Good P w0 S st o e a w:=by
 subst F;obtain⟨β,φ,s⟩:=l.core;have m:G8 d 0 / 64=d:=DV d 0 (by omega);have v:∀j,j≠G8 d 0→(β.j8 (G8 d 0) w.heap.size).val j=β.val j∧(β.j8 (G8 d 0) w.heap.size).cY j=β.cY j:=by intro j g;exact⟨rfl,by simp[Env.j8,PB,g]⟩
 have p:(β.j8 (G8 d 0) w.heap.size).cY (G8 d 0)=w.heap.size:=by simp[Env.j8,PB]
 have y:∀b∈ar (β.j8 (G8 d 0) w.heap.size) (G8 d 0) (.box t c),w.heap.size≤b:=by intro b f;simp only[ar,p,ED] at f;omega
 have u:=l.kept.size;refine yu l (λH q=>by rw[z] at q;injection q with q;exact q ▸ A) B (l.kept.alloc _) ⟨β.j8 (G8 d 0) w.heap.size,PB φ (G8 d 0) [w.heap.size], ?_, ?_⟩
 ·refine s.create (by rw[rV];omega) (λb f=>alloc_old _ b f) (λi h=>r.slot i _ h m) (λj k g h=>(r.obj j k g).2 _ h m) ?_ v y ?_ (by simp) ?_
  ·cases G:st.obj (G8 d 0) with
   | none=>rfl
   | some k=>exact absurd m (r.obj _ k G).1
  ·refine⟨vs,by rw[p];exact zb _, ?_,D,by rw[p]⟩;exact qV.beside (by rw[rV];omega) (λb f=>alloc_old _ b f) v y (C β φ s) (λh=>E _ h m)
  ·intro b f;rw[ED] at f;subst f;refine⟨⟨.inl u,by rw[rV];omega⟩,λj k g f=>?_⟩;have:=((s.fresh j k g).2 _ f).2;omega
 ·simp only[dg,p]
theorem nCS(b:Rel w0 S st a w){d:Nat}(c:o.dst=some d)(f:IW st.n d)(g:T7 st d){t:aaI}(h:o.op= .alloc t){z:List bg}(j:(tO P t).val st.get st.obj=some z)
  (k:e= {sv:= .ptr (G8 d 0) 0,ow:=[(G8 d 0,some (.box t z))]}):Good P w0 S st o e a w:=by
 obtain⟨i,l,m,p,rfl,q⟩:=Zy j;refine nmO b c f g (vs:=l.cells.toList) ?_ (λβ φ r=>YT _) q (by simp[nb_]) k;simp[execOp,h,Instr.alloc,zeroValue,typeInfo,m,p,newVar,newRow]
theorem nbY(f:Rel w0 S st a w){d:Nat}(i:o.dst=some d)(j:IW st.n d)(g:T7 st d){t:aaI}{x:aaH}(k:o.op= .box t x){s:bg}{h:List bg}
  (b:(hF x).val st.get st.obj=some s) (c:(R8 s).val st.get st.obj=some h)
  (l:e= {sv:= .ptr (G8 d 0) 0,ow:=[(G8 d 0,some (.box t h))]}):Good P w0 S st o e a w:=by
 obtain⟨q,r,m⟩:=f.core;refine nmO f i j g (vs:=(a.eval x).cells.toList) ?_ (λβ φ p=>(Rg (p.ev b) c).1) (Rg (m.ev b) c).2 ?_ l
 ·simp[execOp,k,Instr.box,newVar,newRow]
 ·rw[nqU c];exact naU g b
theorem RN.cons{c:List CT}{r:List DC}{l:List aaG}{g:List Nat}{a:List (List DC)}{b:List aaG}{h:List (List Nat)}(n:bj w c r (λj=>l[j]?) g)(k:l.length=c.length)
  (m:RN w c a b h):RN w c (r::a) (l++b) (g::h):=by
 refine⟨by simp[m.1],λi o p e f=>?_⟩;cases i with
 | zero=>
  simp at e f;subst e f;refine aG.bj.kI (λj u d=>?_) n;simp only[Nat.zero_mul,GB];rw[Fx (by have:=Fz.1 d;exact this.1)];exact d
 | succ i=>
  have:=m.2 i o p (by simpa using e) (by simpa using f);refine aG.bj.kI (λj u d=>?_) this;rw[FB (by rw[k,EZ];omega)];rw[←d]
  congr 1
  rw[k,EZ];omega
theorem RN.nil{b:List CT}{a:List aaG} :RN w b [] a []:=⟨rfl,by simp⟩
theorem RN.append{c:List CT}{a k:List (List DC)}{b l:List aaG}{m n:List (List Nat)}(d:RN w c a b m)(s:b.length=a.length*c.length)
  (o:RN w c k l n):RN w c (a++k) (b++l) (m++n):=by
 refine⟨by simp[d.1,o.1],λi r f e g=>?_⟩;rcases Hk i a.length with p | q
 ·rw[Fx p] at e;rw[Fx (by rw[d.1];exact p)] at g;refine aG.bj.kI (λj u h=>?_) (d.2 i r f e g);rw[Fx (by have:=Fz.1 h;exact this.1)];exact h
 ·rw[FB q] at e;rw[FB (by rw[d.1];exact q),d.1] at g;refine aG.bj.kI (λj u h=>?_) (o.2 _ r f e g);have t:i*c.length+j=a.length*c.length+((i - a.length)*c.length+j):=by
   have:i*c.length=a.length*c.length+(i - a.length)*c.length:=by rw[←Nat.add_mul];congr 1;omega
   omega
  rw[FB (by omega)];rw[←h]
  congr 1
  omega
theorem Q_{m:Wk}{j:Nat}{b:yP}(a:xO (qv m) h j=some b):(h j=some b)∨(∃c r,b= .eN c r∧∃y∈m,y.1=j):=by
 induction m with
 | nil=>exact .inl a
 | cons x l e=>
  obtain⟨i,c,r,u⟩:=x;simp only[qv,xO,PB] at a;split at a
  ·rename_i f;injection a with a;exact .inr ⟨c,r,a.symm,_,EI ..,f.symm⟩
  ·rcases e a with d | ⟨g,k,d,y,n,o⟩
   ·exact .inl d
   ·exact .inr ⟨g,k,d,y,Ew _ n,o⟩
theorem GQ{m:Wk}{j:Nat}(c:∃y∈m,y.1=j):TE φ m j=[]:=by
 induction m with
 | nil=>obtain⟨y,a,_⟩:=c;simp at a
 | cons z l d=>
  obtain⟨y,a,rfl⟩:=c;simp only[TE,PB];by_cases b:y.1=z.1
  ·rw[if_pos b]
  ·rw[if_neg b];rcases Ep.1 a with rfl | a
   ·exact absurd rfl b
   ·exact d ⟨y,a,rfl⟩
theorem lx(M:Rel w0 S st a w){d:Nat}(aM:o.dst=some d)(hd:IW st.n d)(C:T7 st d){t:aaI}{D:List CT}{g:List (List DC)}{fz u:Bool}{m:Wk}{w':aaE}{v:aaG}
  (bH:(execOp a.eval o).run P w= .ok (.value v) w') (hk:Kept S w0 w') (Z:w.heap.size≤w'.heap.size) (hw:∀b,b<w.heap.size→w'.heap[b]? =w.heap[b]?)
  (N:∀b∈v.ownBlock.toList,b=w.heap.size) (E:VQ st.obj m) (Aw:gf m=true) {vals:List aaG} (O:Em w' t D.length fz v g.length vals)
  (F:∀β φ,Core w0 S st.get st.obj β φ a.tmps w→∃p,RN w D g vals p∧(∀b∈p.flatten,(¬uh st.obj β b)∨∃x∈m,b∈cb st.obj β x.1)∧
   (u=true→(∀b∈p.flatten,∃x∈m,b∈φ x.1)∧p.flatten.Nodup))
  (fK:e.sv= .own (G8 d 0)) (kr:e.cw=none) (Q:e.ow=(G8 d 0,some (.row t D g fz u))::qv m):Good P w0 S st o e a w:=by
 obtain⟨β,φ,A⟩:=M.core;obtain⟨p,F,c7,hu⟩:=F β φ A;have iJ:=A.gg m E Aw;have G:G8 d 0 / 64=d:=DV d 0 (by omega);have gn:∀j,j≠G8 d 0→(β.gw (G8 d 0) v).val j=β.val j∧(β.gw (G8 d 0) v).cY j=β.cY j:=by intro j k;exact⟨by simp[Env.gw,PB,k],rfl⟩
 have h:(β.gw (G8 d 0) v).val (G8 d 0)=v:=by simp[Env.gw,PB]
 have iQ:∀b∈ar (β.gw (G8 d 0) v) (G8 d 0) (.row t D g fz u),w.heap.size≤b:=by intro b f;simp only[ar,h] at f;rw[N b f];exact Ft _
 have R:=F.lt;have T:=M.kept.size;have ko:∀b∈p.flatten,¬uh (xO (qv m) st.obj) β b:=by
  intro b f;rcases c7 b f with q | ⟨x,s,H⟩
  ·exact λI=>q (Ai I)
  ·exact cI A E s H
 refine yu M (λd' K=>by rw[aM] at K;injection K with K;exact K ▸ hd) bH hk
  ⟨β.gw (G8 d 0) v,PB (TE φ m) (G8 d 0) (v.ownBlock.toList++(bif u then p.flatten else [])), ?_, ?_⟩
 ·rw[Q,kr];refine iJ.create Z hw (λi L=>C.slot i _ L G) (λj z k L=>?_) ?_ gn iQ ?_ ?_ ?_
  ·rcases Q_ k with q | ⟨e',r,rfl,_⟩
   ·exact (C.obj j z q).2 _ L G
   ·simp[tg] at L
  ·cases hn:xO (qv m) st.obj (G8 d 0) with
   | none=>rfl
   | some z=>
    rcases Q_ hn with q | ⟨e',r,rfl,y,U,I⟩
    ·exact absurd G (C.obj _ z q).1
    ·obtain⟨_,B,_⟩:=E y U;rw[I] at B;exact absurd G (C.obj _ _ B).1
  ·refine⟨vals,p,by rw[h];exact O,F.mono Z (λb f=>hw b (R b f)),λb f s=>?_,by rw[h]⟩;rcases s with ⟨j,oj,k,l⟩ | s
   case inr=>exact ko b f (.inr s)
   by_cases W:j=G8 d 0
   ·subst W;simp only[PB,if_true,VR] at k;subst k;have:=iQ b l;have:=R b f;omega
   ·simp only[PB,W,if_false] at k;refine ko b f (.inl ⟨j,oj,k, ?_⟩);cases oj<;>simp only[ar,gn j W] at l ⊢ <;>exact l
  ·have BG:v.ownBlock.toList.Nodup:=by cases v.ownBlock<;>simp
   cases u with
   | false=>simpa using BG
   | true=>
    rw[HI,Eu];refine⟨BG,(hu rfl).2,λb f c iI Er=>?_⟩;have q:=N b f;have I:=R c iI;omega
  ·intro b f;rcases DO.1 f with f | f
   ·have q:=N b f;subst q;refine⟨⟨.inl T, ?_⟩,λj z k l=>?_⟩
    ·have:=O.lt _ f;exact this
    ·have:=((iJ.fresh j z k).2 _ l).2;omega
   ·cases u with
    | false=>simp at f
    | true=>
     simp only[HI] at f;obtain⟨x,s,H⟩:=(hu rfl).1 b f;obtain⟨_,B,_⟩:=E x s;have h4:=(A.fresh x.1 _ B).2 b H;refine⟨⟨h4.1,by omega⟩,λj z k l=>?_⟩;by_cases Cn:∃y∈m,y.1=j
     ·rw[GQ Cn] at l;simp at l
     ·have X:∀y∈m,y.1≠j:=λy U e=>Cn ⟨y,U,e⟩;rw[vZ X] at k;rw[BQ X] at l;exact A.sep x.1 j _ _ (X x s) B k b H l
 ·rw[fK];unfold dg;exact⟨h.symm,O.one⟩
theorem ny_{e:CT}{v:aaG}{q:DC×Wk×Bool}(a:(W9 e (ofConst v)).val f h=some q):q.2.1=[]∧q.2.2=true:=by
 unfold ofConst at a;split at a
 ·simp only[W9] at a;split at a<;>simp at a;subst a;exact⟨rfl,rfl⟩
 ·rename_i k n;cases b:bp k n
  ·simp[b,W9] at a
  ·simp only[b,HI,W9] at a;split at a
   ·rename_i g;by_cases d:k=g
    ·simp[d] at a;subst a;exact⟨rfl,rfl⟩
    ·simp[d] at a
   ·simp at a
 ·generalize Nat.ble _ _=c at a;cases c
  ·simp[W9] at a
  ·simp only[HI,W9] at a;split at a<;>simp at a;subst a;exact⟨rfl,rfl⟩
 ·simp only[W9] at a;split at a<;>simp at a;subst a;exact⟨rfl,rfl⟩
 ·simp[W9] at a
theorem nwY:∀(bF:List CT) (l:List aaG) (q:List DC×Wk×Bool),(jk bF (l.map ofConst)).val f h=some q→q.2.1=[]∧q.2.2=true
 | [],[],q,hq=>by simp[jk] at hq;subst hq;exact⟨rfl,rfl⟩
 | [],_::_,q,hq=>by simp[jk] at hq
 | _::_,[],q,hq=>by simp[jk] at hq
 | c::cs,v::l,q,hq=>by simp only[Et,jk,M.ag,sC,M.ab,VR] at hq;obtain⟨k,a,b,d,rfl⟩:=hq;obtain⟨e,g⟩:=ny_ a;obtain⟨i,j⟩:=nwY cs l b d;simp[e,g,i,j]
theorem Y8:∀(bF:List CT) (l:List bg) (q:List DC×Wk×Bool),(jk bF l).val f h=some q→l.length=bF.length
 | [],[],q,hq=>rfl
 | [],_::_,q,hq=>by simp[jk] at hq
 | _::_,[],q,hq=>by simp[jk] at hq
 | c::cs,v::l,q,hq=>by simp only[jk,M.ag,sC,M.ab,VR] at hq;obtain⟨d,e,a,b,rfl⟩:=hq;simp[Y8 cs l a b]
theorem RN.replicate{a:List CT}{r:List DC}{z:List aaG}(b:bj w a r (λj=>z[j]?) [])(c:z.length=a.length):∀n,RN w a (Ev n r) (Ev n z).flatten (Ev n [])
 | 0=>RN.nil
 | n+1=>by simp only[Jc,GJ];exact RN.cons b c (RN.replicate b c n)
theorem nyx(z:Array aaG):∀n,(madeCells z (n*z.size)).toList=(Ev n z.toList).flatten:=by
 intro n;apply Im;intro i;simp only[madeCells];rcases HF z.size with c | d
 ·have e:z= #[]:=by simpa using c
  subst e;simp
 ·rcases Hk i (n*z.size) with a | a
  ·have f:(Ev n z.toList).flatten[i]? =z.toList[i % z.size]? :=by
    have key:∀n i,i<n*z.size→(Ev n z.toList).flatten[i]? =z.toList[i % z.size]? :=by
     intro n
     induction n with
     | zero=>intro i a;simp at a
     | succ n g=>
      intro i a;simp only[Jc,GJ];rcases Hk i z.size with b | b
      ·rw[Fx (by simpa using b),Nat.mod_eq_of_lt b]
      ·rw[FB (by simpa using b)];have h:i - z.toList.length<n*z.size:=by simp;rw[EZ] at a;omega
       rw[g _ h]
       congr 1
       simp only[Hm];rw[←Nat.mod_eq_sub_mod b]
    exact key n i a
   rw[f];have j:i % z.size<z.size:=IE _ d;simp[a,j]
  ·rw[FR (by simp;omega),FR (by simp;omega)]
theorem nhP(s:Rel w0 S st a w){d:Nat}(G:o.dst=some d)(H:IW st.n d)(I:T7 st d){t h:aaI}{l c:aaH}(K:o.op= .makeSlice t l c){n m:Int}{j:List CT}{i:TypeInfo}{z:List bg}{r:List DC×Wk×Bool}
  (L:(hF l).val st.get st.obj=some (.int .i64 n)) (M:(hF c).val st.get st.obj=some (.int .i64 m)) (N:P.underlying t=some (.slice h)) (A:P.info? h=some i) (B:i.size=j.length)
  (O:(tO P h).val st.get st.obj=some z) (y:(jk j z).val st.get st.obj=some r)
  (Q:e= {sv:= .own (G8 d 0),ow:=[(G8 d 0,some (.row h j (Ev n.toNat r.1) false true))],ok:=decide (0≤n) && decide (n≤m) && decide (m.toNat*i.bytes≤140737488355328) && decide (m≤9223372036854775807)})
  (C:e.ok=true):Good P w0 S st o e a w:=by
 subst Q;simp only[gF,kQ] at C;obtain⟨⟨⟨R,T⟩,B4⟩,U⟩:=C;obtain⟨i',f,q,W,rfl,bo⟩:=Zy O;rw[A] at q;injection q with q;subst q;obtain⟨X,Z⟩:=nwY _ _ _ y;have k:f.cells.toList.length=j.length:=by simpa using Y8 _ _ _ y
 have FE:(madeCells f.cells (m.toNat*i.size)).toList=(Ev m.toNat f.cells.toList).flatten:=by have:=nyx f.cells m.toNat;rw[B,←k];simpa using this
 obtain⟨Ka,Kb,D⟩:=s.core;have p:=D.ev L;have E:=D.ev M;simp only[dg] at p E;have g:(i.bytes:Int)*m≤281474976710656:=by
  have h1:((m.toNat*i.bytes:Nat):Int)≤140737488355328:=by omega
  rw[Int.natCast_mul,Gz (by omega),Int.mul_comm] at h1;omega
 have bH:=run_make (P:=P) w t h i f N A W .i64 .i64 n m R T g U;refine lx s G H I (m:=[]) (fz:=false) (u:=true) (vals:=(Ev n.toNat f.cells.toList).flatten) (v:= .slice (some ⟨w.heap.size,0,none⟩) n.toNat m.toNat)
  (w':=w.alloc (.cells (madeCells f.cells (m.toNat*i.size)) h)) ?_ (s.kept.alloc _) (by rw[rV];omega) (λb g=>alloc_old _ b g) (by simp[Fq]) (by simp[VQ]) rfl ?_ ?_ rfl rfl rfl
 ·simp[execOp,K,p.1,E.1,bH]
 ·refine⟨by simp[k],.inr ⟨w.heap.size,m.toNat,_,by simp,by simpa using zb _,by simp;omega,by simp only[maxLen];omega,by rw[size_madeCells,B], ?_⟩⟩;rw[FE];have:Ev m.toNat f.cells.toList=Ev n.toNat f.cells.toList++Ev (m.toNat - n.toNat) f.cells.toList:=by
   rw[List.replicate_append_replicate]
   congr 1
   omega
  rw[this,GR,Jf (by simp[k]),Jo (by simp[k])]
 ·intro β φ hc;obtain⟨F,jC,_,_,B7⟩:=eV hc j _ _ r (YT f.cells.toList) y;have Lq:F=[]:=by
   have:=(B7 Z).1;cases F with
   | nil=>rfl
   | cons b l=>
    obtain⟨x,p,_⟩:=this b (EI ..);rw[X] at p;simp at p
  subst Lq;refine⟨Ev n.toNat [],RN.replicate jC k n.toNat, ?_, ?_⟩
  ·intro b g;simp at g
  ·intro _;constructor
   ·intro b g;simp at g
   ·have:(Ev n.toNat ([]:List Nat)).flatten=[]:=by simp
    rw[this];simp
theorem BW(o:Core w0 S st.get st.obj β φ a.tmps w){g:List CT} :∀(c:List (Nat×aaH)) (k:Nat) (q:List (List DC)×Wk×Bool),(tn g k c).val st.get st.obj=some q→
  ∃(d:List aaG) (m:List (List Nat)),d.length=c.length*g.length∧q.1.length=c.length∧(∀x∈d,x.oneCell'=true)∧RN w g q.1 d m∧VQ st.obj q.2.1∧
   (∀b∈m.flatten,(¬uh st.obj β b)∨∃x∈q.2.1,b∈cb st.obj β x.1)∧(q.2.2=true→(∀b∈m.flatten,∃x∈q.2.1,b∈φ x.1)∧(gf q.2.1=true→m.flatten.Nodup))∧
   ∀(pre e:List aaG),pre.length=k*g.length→e.length=c.length*g.length→
    Instr.fill (λi=>some (i*g.length,g.length)) (pre++e).toArray (c.map λx=>(x.1,a.eval x.2))=some (pre++d).toArray
 | [],k,q,hq=>by
  simp only[tn,M.ab,VR] at hq;subst hq;refine⟨[],[],by simp,rfl,by simp,RN.nil,by simp[VQ],by simp,by simp,λpre e f p=>?_⟩;have:e=[]:=by simpa using p
  subst this;simp[Instr.fill]
 | (i,x)::rest,k,q,hq=>by
  simp only[tn] at hq;cases t:ER i k
  ·simp[t] at hq
  have t:=cL t;subst t;simp only[Nat.beq_refl,HI,M.ag,sC,M.ab,VR] at hq;obtain⟨s,D,E,F,r,z,G,H,rfl⟩:=hq;obtain⟨A,I⟩:=Rg (o.ev D) F;have K:=Y8 _ _ _ z;have L:=qV.length _ _ A;have n:(a.eval x).cells.size=g.length:=by simpa [K] using L
  obtain⟨N,O,B,P,u⟩:=eV o g E _ r A z;obtain⟨d,m,Q,R,T,U,C,W,v,X⟩:=BW o rest (i+1) G H;refine⟨(a.eval x).cells.toList++d,N::m, ?_,by simp[R], ?_,RN.cons O (by simpa using n) U,Ff B C, ?_, ?_, ?_⟩
  ·simp only[Qe,Q,di,Hm,n,EZ];omega
  ·intro y h;rcases DO.1 h with h | h
   ·exact I y h
   ·exact T y h
  ·intro b j;simp only[GJ,DO] at j;rcases j with j | j
   ·rcases P b j with f | ⟨y,h,f⟩
    ·exact .inl f
    ·exact .inr ⟨y,U8 _ h,f⟩
   ·rcases W b j with f | ⟨y,h,f⟩
    ·exact .inl f
    ·exact .inr ⟨y,mi _ h,f⟩
  ·intro l;simp only[gF] at l;refine⟨λb j=>?_,λZ=>?_⟩
   ·simp only[GJ,DO] at j;rcases j with j | j
    ·obtain⟨y,h,f⟩:=(u l.1).1 b j;exact⟨y,U8 _ h,f⟩
    ·obtain⟨y,h,f⟩:=(v l.2).1 b j;exact⟨y,mi _ h,f⟩
   ·obtain⟨Ku,Ib,c8⟩:=nuZ Z;simp only[GJ];exact apart o B C c8 (u l.1).1 (v l.2).1 ((u l.1).2 Ku) ((v l.2).2 Ib)
  ·intro pre e f p;simp only[di,EZ] at p;simp only[Et];rw[sA (off:=i*g.length) (by rw[n]) (by simp[f,n];omega)];have e1:((pre++e).toArray.toList.take (i*g.length)++((a.eval x).cells.toList++(pre++e).toArray.toList.drop (i*g.length+(a.eval x).cells.size)))=(pre++(a.eval x).cells.toList)++e.drop g.length:=by simp only[n,←f];simp[List.drop_append]
   rw[e1,X (pre++(a.eval x).cells.toList) (e.drop g.length) (by simp[f,n,EZ]) (by simp[p])];simp
theorem nfr(y:Rel w0 S st a w){d:Nat}(O:o.dst=some d)(Q:IW st.n d)(R:T7 st d){t j:aaI}{len:Nat}{c:Array (Nat×aaH)}(T:o.op= .buildSlice t len c){g:List CT}{q:List (List DC)×Wk×Bool}
  (G:P.underlying t=some (.slice j)) (U:fF P j g.length=true) (H:0<g.length) (f:len=c.toList.length) (JQ:len*g.length≤16777216)
  (I:(tn g 0 c.toList).val st.get st.obj=some q) (B:∃z,(tO P j).val st.get st.obj=some z) (K:gf q.2.1=true)
  (W:e= {sv:= .own (G8 d 0),ow:=(G8 d 0,some (.row j g q.1 false q.2.2))::qv q.2.1}):Good P w0 S st o e a w:=by
 subst W;obtain⟨i,C,D⟩:=Xo U;obtain⟨Ka,Kb,X⟩:=y.core;obtain⟨vals,_,l,p,bo,_,Z,_,_,L⟩:=BW X c.toList 0 q I;obtain⟨z,B⟩:=B;obtain⟨i',k,r,AJ,_,_⟩:=Zy B;rw[C] at r;injection r with r;subst r;have E:len≤maxLen:=by have:len≤len*g.length:=Nat.le_mul_of_pos_right _ H;simp only[maxLen];omega
 have bH:(Instr.buildSlice t len (c.map λx=>(x.1,a.eval x.2))).run P w= .ok (.slice (some ⟨w.heap.size,0,none⟩) len len) (w.alloc (.cells vals.toArray j)):=by
  rcases HF len with s | s
  ·have hp:c= #[]:=by
    have:c.toList.length=0:=by omega
    simpa using this
   have hv:vals=[]:=by
    have:vals.length=0:=by rw[l,←f,s,Nat.zero_mul]
    simpa using this
   subst hp hv s;simp[Instr.buildSlice,run_underlying G,sizeOf,typeInfo,C,Instr.fill,newRow,Array.range_zero']
  ·refine run_buildSlice (P:=P) w t j len _ vals.toArray i k G C AJ (by rw[D];omega) (by rw[D];exact Nat.ne_of_gt (Nat.mul_pos s H)) ?_;have:=L [] ((Array.range (len*g.length)).map (k.cells[· % k.cells.size]!)).toList (by simp) (by simp[f]);rw[D];generalize (Array.range (len*g.length)).map (k.cells[· % k.cells.size]!)=A at this ⊢;simpa using this
 refine lx y O Q R (m:=q.2.1) (fz:=false) (u:=q.2.2) (vals:=vals) (v:= .slice (some ⟨w.heap.size,0,none⟩) len len) (w':=w.alloc (.cells vals.toArray j)) ?_ (y.kept.alloc _)
  (by rw[rV];omega) (λb hb=>alloc_old _ b hb) (by simp[Fq]) Z K ?_ ?_ rfl rfl rfl
 ·simp[execOp,T,bH]
 ·refine⟨by rw[l,p],.inr ⟨w.heap.size,len,vals.toArray,by rw[p,←f],by simpa using zb _,by rw[p,←f];exact Ft _,E,by simp[l,f], ?_⟩⟩;rw[p,←l];simp
 ·intro β φ hc;obtain⟨Bm,aE,aac,aaa,Ab,dj,Lg,c7,M,H0⟩:=BW hc c.toList 0 q I;have F:Bm=vals:=by have h1:=L [] (Ev (c.toList.length*g.length) undef) (by simp) (by simp);have N:=H0 [] (Ev (c.toList.length*g.length) undef) (by simp) (by simp);rw[h1] at N;simpa using N.symm
  subst F;exact⟨aE,dj,c7,λh=>⟨(M h).1,(M h).2 K⟩⟩
theorem uY(P:aaF)(g o:Nat)(t:aaI)(b:Nat×Nat):∀(d:List aaG) (i:Nat) (a:Array aaG) (w:aaE),w.heap[g]? =some (.cells a t b)→(∀j,j<a.size→¬(b.1≤j∧j<b.2))→
  o+i+d.length≤a.size→(∀v∈d,v.oneCell'=true)→
  (storeCells ⟨g,o,none⟩ d i).run P w= .ok () (w.setRow g (a.toList.take (o+i)++(d++a.toList.drop (o+i+d.length))).toArray)
 | [],i,a,w,hg,_,_,_=>by simp only[storeCells,IF,List.length_nil,Gd,IH,IJ];rw[setRow_self w g a t b hg];rfl
 | v::rest,i,a,w,hg,hfz,hl,h1=>by
  have e:o+i<a.size:=by simp at hl;omega
  have c:w.cell? ⟨g,o+i,none⟩=some a[o+i]:=by simp[World.cell?,hg,e]
  have f:w.frozen? ⟨g,o+i,none⟩=false:=by have:=hfz (o+i) e;obtain⟨m,n⟩:=b;simp only[World.frozen?,hg,Bool.and_eq_false_iff,decide_eq_false_iff_not];simp only at this;omega
  have h:(store ((⟨g,o,none⟩:Addr).add i) v).run P w= .ok () (w.setRow g (a.setIfInBounds (o+i) v)):=by rw[yM,run_store P w _ v _ (h1 v (by simp)),c];simp[f,setCell_eq_setRow w g (o+i) a t b v hg]
  have k:=uY P g o t b rest (i+1) (a.setIfInBounds (o+i) v) (w.setRow g (a.setIfInBounds (o+i) v)) (setRow_heap w g a _ t _ hg) (by simpa using hfz) (by simp at hl ⊢;omega) (λx l=>h1 x (by simp[l]));simp only[storeCells,Sem.run_bind,h,Result.andThen_ok,k,setRow_setRow]
  congr 3
  have:=list_seg_step a.toList (o+i) v rest (by simp at hl ⊢;omega);simp only[Array.toList_setIfInBounds,di];rw[←Hc];simpa [FH] using this
theorem bj.split{w:aaE} :∀(a b:List CT) (r:List DC) (f:Nat→Option aaG) (e:List Nat),bj w (a++b) r f e→
  ∃g i,bj w a (r.take a.length) f g∧bj w b (r.drop a.length) (λj=>f (a.length+j)) i∧e=g++i
 | [],b,r,f,e,h=>⟨[],e,by simp[bj],by simpa using h,rfl⟩
 | c::cs,b,r,f,e,h=>by
  simp only[EE,bj] at h;obtain⟨d,m,v,k,n,rfl,o,p,q,rfl⟩:=h;obtain⟨l,s,t,u,rfl⟩:=bj.split cs b m _ n q;refine⟨k++l,s, ?_, ?_,by simp⟩
  ·simp only[di,List.take_succ_cons,bj];exact⟨d,_,v,k,l,rfl,o,p,t,rfl⟩
  ·simp only[di,List.drop_succ_cons];have:∀j,cs.length+1+j=cs.length+j+1:=by intro j;omega
   simpa only[this] using u
theorem bj.join{w:aaE} :∀(i e:List CT) (g a:List DC) (f:Nat→Option aaG) (h b:List Nat),bj w i g f h→bj w e a (λj=>f (i.length+j)) b→
  bj w (i++e) (g++a) f (h++b)
 | [],e,g,a,f,h,b,h1,h2=>by simp only[bj] at h1;obtain⟨rfl,rfl⟩:=h1;simpa using h2
 | c::cs,e,g,a,f,h,b,h1,h2=>by
  simp only[bj] at h1;obtain⟨d,k,v,m,l,rfl,n,o,p,rfl⟩:=h1;simp only[EE,bj];refine⟨d,k++a,v,m,l++b,rfl,n,o,bj.join cs e k a _ l b p ?_,by simp⟩;have:∀j,(c::cs).length+j=cs.length+j+1:=by intro j;simp only[di];omega
  simpa only[this] using h2
theorem Kept.setRow(a:Kept S w0 w){g:Nat}(d:w0.heap.size≤g∨S g)(b:Array aaG):Kept S w0 (w.setRow g b):=
 ⟨a.os,a.tape,a.output,by simpa using a.size,λk f c=>by rw[setRow_other w g k b (λe=>by subst e;rcases d with h | h;omega;exact c h)];exact a.block k f c⟩
theorem Core.rewrite(m:Core w0 S f h β φ tm w){id:Nat}{k n:yP}{g:Nat}{p:Array aaG}{q:List Nat}(r:h id=some k)(y:g∈ar β id k)(B:∀b∈ar β id n,b∈ar β id k)
  (C:ef (w.setRow g p) (uh (PB h id (some n)) β) β id n q) (s:q.Nodup) (t:∀b∈q,((w0.heap.size≤b∨S b)∧b<w.heap.size)∧∀j o,j≠id→h j=some o→b ∉ φ j):
  Core w0 S f (PB h id (some n)) β (PB φ id q) tm (w.setRow g p):=by
 have D:=al (m.aC id k r) g y;refine m.step (λ_=>False) (by simp) (λb _ c=>setRow_other w g b p (λe=>c (e ▸ .inl ⟨id,k,r,y⟩))) ?_ (λ_ _ _ h=>h) (λ_ _=>⟨rfl,rfl⟩) ?_ ?_
 ·rintro b (⟨j,l,a,bB⟩ | c)
  case inr=>exact .inl (.inr c)
  by_cases d:j=id
  ·subst d;simp only[PB,if_true,VR] at a;subst a;exact .inl (.inl ⟨j,k,r,B b bB⟩)
  ·simp only[PB,d,if_false] at a;exact .inl (.inl ⟨j,l,a,bB⟩)
 ·intro j l a;by_cases d:j=id
  ·subst d;simp only[PB,if_true,VR] at a;subst a;exact .inr ⟨by simpa [PB] using C,by simpa [PB] using s,λb c=>by simpa using (t b (by simpa [PB] using c)).1⟩
  ·simp only[PB,d,if_false] at a;refine .inl ⟨λh=>h,a,by simp[PB,d],λ_ _ h=>h,λb c=>setRow_other w g b p (λe=>?_)⟩;subst e;exact m.sep id j _ _ (Ne.symm d) r a b D (al (m.aC j l a) b c)
 ·intro i j z l A u a b c;by_cases v:i=id
  ·subst v;have x:j≠i:=Ne.symm A;simp only[PB,x,if_false] at a;simp only[PB,if_true] at c;simp only[PB,x,if_false];exact (t b c).2 j l x a
  ·simp only[PB,v,if_false] at u c;by_cases d:j=id
   ·subst d;simp only[PB,if_true];exact λE=>(t b E).2 i z v u c
   ·simp only[PB,d,if_false] at a ⊢;exact m.sep i j z l A u a b c
theorem ncX{id:Nat}{c e:yP}(i:h id=some c)(k:∀b∈ar β id e,b∈ar β id c){b:Nat}(d:uh (PB h id (some e)) β b):uh h β b:=by
 rcases d with ⟨j,l,a,f⟩ | d
 case inr=>exact .inr d
 by_cases g:j=id
 ·subst g;simp only[PB,if_true,VR] at a;subst a;exact .inl ⟨j,c,i,k b f⟩
 ·simp only[PB,g,if_false] at a;exact .inl ⟨j,l,a,f⟩
theorem fk{t:aaI}{b off:Nat}{x:aaG}{i:TypeInfo}(a:P.info? t=some i)(c:i.size=x.cells.size){w':aaE}(d:(storeCells ⟨b,off,none⟩ x.cells.toList 0).run P w= .ok () w'):
  (Instr.storeAt t (.pointer (some ⟨b,off,none⟩)) x).run P w= .ok () w':=by
 simp[Instr.storeAt,Instr.sureAddr,storeVar,sizeOf,typeInfo,a,c,d]
theorem nyN{c:Nat→Prop}{a d:List bg}{e b:List aaG}{off:Nat}(f:qV w c β a e)(g:qV w c β d b)(h:b.length=d.length):
  qV w c β (Ge a off d) (e.take off++(b++e.drop (off+b.length))):=by
 unfold Ge;refine qV.append _ _ _ _ (qV.take _ _ _ f) (qV.append _ _ _ _ g ?_);rw[h];exact qV.drop _ _ _ f
theorem dvO(q:Rel w0 S st a w)(M:∀d,o.dst=some d→IW st.n d){t m:aaI}{x y:aaH}(N:o.op= .store t x y){id off:Nat}{u:bg}{f c:List bg}
  (O:(hF x).val st.get st.obj=some (.ptr id off)) (Q:(hF y).val st.get st.obj=some u) (R:(R8 u).val st.get st.obj=some f) (T:fF P t f.length=true)
  (h:st.obj id=some (.box m c)) (eu:off+f.length≤c.length) (U:e= {sv:= .undef,cw:=some (id,off,f)}):Good P w0 S st o e a w:=by
 subst U;obtain⟨i,W,X⟩:=Xo T;obtain⟨β,φ,l⟩:=q.core;have v:=l.ev O;simp only[dg] at v;obtain⟨A,B⟩:=Rg (l.ev Q) R;obtain⟨r,C,D,E,F⟩:=l.aC id _ h;have hl:=qV.length _ _ D;have G:=qV.length _ _ A;have Z:(a.eval y).cells.size=f.length:=by simpa using G
 have H:=uY P (β.cY id) off m (0,0) (a.eval y).cells.toList 0 r.toArray w C (by simp) (by simp;omega) B;simp only[Gd] at H;have MS:Zs (some (id,off,f)) st.obj=PB st.obj id (some (.box m (Ge c off f))):=by simp only[Zs,h]
 have I:=l.fresh id _ h;have c7:∀b,uh (PB st.obj id (some (.box m (Ge c off f)))) β b→uh st.obj β b:=λb k=>ncX h (by simp[ar]) k;have K:∀(AK:List bg) (p:List aaG),qV w (uh st.obj β) β AK p→∀s,qV (w.setRow (β.cY id) s) (uh (PB st.obj id (some (.box m (Ge c off f)))) β) β AK p:=by intro AK p Ip s;exact qV.mono (by simp) (λb _ k=>setRow_other w _ b s (λe=>k (e ▸ .inl ⟨id,_,h,by simp[ar]⟩))) (λb k=> .inl (c7 b k)) AK p Ip (λ_ _=>⟨rfl,rfl⟩)
 refine tW q M (w':=w.setRow (β.cY id) (r.take off++((a.eval y).cells.toList++r.drop (off+(a.eval y).cells.toList.length))).toArray) ?_ (q.kept.setRow (I.2 (β.cY id) (by rw[F];simp)).1 _) ⟨β,PB φ id [β.cY id], ?_,by simp[dg]⟩
 ·simp[execOp,N,v,fk W (X.trans Z.symm) H]
 ·show Core w0 S st.get (xO [] (Zs (some (id,off,f)) st.obj)) _ _ _ _;simp only[xO,MS];refine l.rewrite h (by simp[ar]) (by simp[ar]) ?_ (by simp) ?_
  ·refine⟨_,setRow_heap w _ _ _ _ _ C,nyN (K _ _ D _) (K _ _ A _) G, ?_,rfl⟩;intro z g;simp only[DO] at g;rcases g with g | g | g
   ·exact E z (HQ g)
   ·exact B z g
   ·exact E z (HR g)
  ·intro b k;have L:b∈φ id:=by rw[F];exact k
   exact⟨I.2 b L,λj oj hj jN=>l.sep id j _ _ (Ne.symm hj) h jN b L⟩
theorem T3{a:List (List Nat)}{i:Nat}(b:i<a.length)(x:List Nat):(a.set i x).flatten=(a.take i).flatten++(x++(a.drop (i+1)).flatten):=by rw[List.set_eq_take_append_cons_drop,if_pos b];simp
theorem Qg{a:List (List Nat)}{i:Nat}(b:i<a.length):a.flatten=(a.take i).flatten++(a[i]++(a.drop (i+1)).flatten):=by have:=T3 b a[i];rwa[List.set_getElem_self] at this
theorem RN.set{ct:List CT}{rows:List (List DC)}{a:List aaG}{e:List (List Nat)}(n:RN w ct rows a e)(hl:a.length=rows.length*ct.length){i:Nat}(o:i<rows.length)
  {off:Nat} {g:List DC} {b:List aaG} {x:List Nat} (P:off+b.length≤ct.length) (z:bj w ((ct.drop off).take b.length) g (λj=>b[j]?) x):
  ∃h y l,e[i]? =some (h++(y++l))∧RN w ct (rows.set i (CI (rows.getD i []) off g)) (a.take (i*ct.length+off)++(b++a.drop (i*ct.length+off+b.length))) (e.set i (h++(x++l))):=by
 have A:i<e.length:=by rw[n.1];exact o
 have B:=n.2 i (rows.getD i []) e[i] (G1 o) (by simp);generalize rows.getD i []=r at B ⊢;have C:ct=ct.take off++((ct.drop off).take b.length++ct.drop (off+b.length)):=by rw[←List.drop_drop,IH,IH]
 have p:(ct.take off).length=off:=by simp;omega
 have s:((ct.drop off).take b.length).length=b.length:=by simp;omega
 have H:g.length=b.length:=by rw[bj.length _ _ _ _ z,s]
 have I:bj w (ct.take off++((ct.drop off).take b.length++ct.drop (off+b.length))) r (λj=>a[i*ct.length+j]?) e[i]:=by rw[←C];exact B
 obtain⟨h,q,D,E,K⟩:=bj.split _ _ _ _ _ I;obtain⟨y,l,F,t,rfl⟩:=bj.split _ _ _ _ _ E;rw[p] at D E F t;rw[s] at F t;have Q:i*ct.length+ct.length≤a.length:=by rw[hl,←EZ];exact Gm _ o
 refine⟨h,y,l,by rw[IK A,K],by simp[n.1],λk L M f m=>?_⟩;have v:∀j,(a.take (i*ct.length+off)++(b++a.drop (i*ct.length+off+b.length)))[j]? =
   if j<i*ct.length+off then a[j]? else if j<i*ct.length+off+b.length then b[j - (i*ct.length+off)]? else a[j]? :=by
  intro j;have N:(a.take (i*ct.length+off)).length=i*ct.length+off:=by simp;omega
  split
  ·rename_i d;rw[Fx (by omega),HP,if_pos d]
  ·rename_i d;rw[FB (by omega),N];split
   ·rw[Fx (by omega)]
   ·rw[FB (by omega),HM]
    congr 1
    omega
 by_cases G:k=i
 ·subst G;rw[Js o] at f;rw[Js A] at m;simp only[VR] at f m;subst f m;have:=bj.join (w:=w) (ct.take off) ((ct.drop off).take b.length++ct.drop (off+b.length)) (r.take off) (g++r.drop (off+g.length))
   (λj=>(a.take (k*ct.length+off)++(b++a.drop (k*ct.length+off+b.length)))[k*ct.length+j]?) h (x++l) ?_ ?_
  ·rw[←C] at this;exact this
  ·refine aG.bj.jX ?_ D;intro j u d c;rw[p] at d;simp only[v];rw[if_pos (by omega)];exact c
  ·refine bj.join _ _ _ _ _ _ _ ?_ ?_
   ·refine aG.bj.jX ?_ z;intro j u d c;rw[s] at d;simp only[p,v];rw[if_neg (by omega),if_pos (by omega),←c]
    congr 1
    omega
   ·rw[H];simp only[List.drop_drop] at t;refine aG.bj.kI ?_ t;intro j u c;simp only[p,s,v];rw[if_neg (by omega),if_neg (by omega)];rw[←c]
 ·rw[List.getElem?_set_ne (Ne.symm G)] at f m;refine aG.bj.jX ?_ (n.2 k L M f m);intro j u d c;have R:k<rows.length:=(Fz.1 f).1;rw[v];rcases Hk k i with O | S
  ·have:k*ct.length+ct.length≤i*ct.length:=by rw[←EZ];exact Gm _ O
   rw[if_pos (by omega)];exact c
  ·have:i*ct.length+ct.length≤k*ct.length:=by rw[←EZ];exact Gm _ (by omega)
   rw[if_neg (by omega),if_neg (by omega)];exact c
theorem ZQ{α:Type}(l a:List α)(o m:Nat)(e:o+a.length≤m)(f:m≤l.length):
  (l.take o++(a++l.drop (o+a.length))).take m=(l.take m).take o++(a++(l.take m).drop (o+a.length)):=by
 rw[List.take_append,List.take_append];have b:(l.take o).length=o:=by simp;omega
 rw[b];have c:(l.take o).take m=(l.take m).take o:=by rw[List.take_take,List.take_take,Nat.min_comm]
 have d:a.take (m - o)=a:=Jo (by omega);rw[c,d]
 congr 2
 rw[List.drop_take]
 congr 1
 omega
theorem cm{A p1 p2 p3 B n:List Nat}(h:(A++((p1++(p2++p3))++B)).Nodup)(d:n.Nodup)(e:∀b∈n,b ∉ A++((p1++(p2++p3))++B)):(A++((p1++(n++p3))++B)).Nodup:=by
 have f:((A++p1)++(p3++B)).Nodup:=by refine List.Sublist.nodup ?_ h;simp only[FH];refine List.Sublist.append (List.Sublist.refl _) (List.Sublist.append (List.Sublist.refl _) ?_);exact List.sublist_append_right _ _
 have g:(n++((A++p1)++(p3++B))).Nodup:=by rw[Eu];refine⟨d,f,λb i c a j=>?_⟩;subst j;refine e b i ?_;simp only[DO] at a ⊢;rcases a with (a | a) | a | a<;>simp[a]
 refine (List.Perm.nodup_iff ?_).1 g;have:A++((p1++(n++p3))++B)=(A++p1)++(n++(p3++B)):=by simp
 rw[this];exact (List.perm_append_comm_assoc _ _ _)
theorem net(Z:Rel w0 S st a w)(hd:∀d,o.dst=some d→IW st.n d){t v:aaI}{x y:aaH}(ho:o.op= .store t x y){id i off:Nat}{sy:bg}{E:List bg}{m:List CT}{h:List (List DC)}{q u:Bool}{r:List DC×Wk×Bool}
  (h1:(hF x).val st.get st.obj=some (.eK id i m.length off)) (h2:(hF y).val st.get st.obj=some sy) (fX:(R8 sy).val st.get st.obj=some E) (dO:fF P t E.length=true)
  (aQ:st.obj id=some (.row v m h q u)) (eu:off+E.length≤m.length) (hr:(jk ((m.drop off).take E.length) E).val st.get st.obj=some r) (Aw:Nh id r.2.1=true) (M:gf r.2.1=true)
  (hi:i<h.length) (kr:e.cw=none) (Ct:e.sv= .undef)
  (how:e.ow=(id,some (.row v m (h.set i (CI (h.getD i []) off r.1)) q (u && r.2.2)))::qv r.2.1):Good P w0 S st o e a w:=by
 obtain⟨ti,GS,bJ⟩:=Xo dO;obtain⟨β,φ,A⟩:=Z.core;have I:=A.ev h1;simp only[dg] at I;obtain⟨g,hg,I⟩:=I;obtain⟨fK,bo⟩:=Rg (A.ev h2) fX;have ku:=qV.length _ _ fK;have AD:(a.eval y).cells.size=E.length:=by simpa using ku
 obtain⟨F,jC,R,Ji,H4⟩:=eV A _ _ _ r fK hr;have N:=A.gg r.2.1 R M;have Cq:=fW Aw;have G:xO (qv r.2.1) st.obj id=some (.row v m h q u):=by rw[vZ Cq];exact aQ
 have ko:∀b∈F,¬uh (xO (qv r.2.1) st.obj) β b:=by
  intro b f;rcases Ji b f with h1 | ⟨z,H,K⟩
  ·exact λh2=>h1 (Ai h2)
  ·exact cI A R H K
 obtain⟨B,C,bk,dj,jM,lv⟩:=N.aC id _ G;have lP:g∈ar β id (.row v m h q u):=by simp[ar,hg]
 rcases bk.2 with ⟨hv,h0,_⟩ | ⟨D,cap,l,hv,hh,BF,EK,mY,FP⟩
 ·omega
 have H5:D=g:=by simpa [hv,Fq] using hg
 subst H5;have hlen:i*m.length+m.length≤h.length*m.length:=by rw[←EZ];exact Gm _ hi
 have Cp:h.length*m.length≤cap*m.length:=Gm _ BF;have Fw:∀j,j<l.size→¬((bif q then (l.size,l.size+1) else ((0,0):Nat×Nat)).1≤j∧j<(bif q then (l.size,l.size+1) else ((0,0):Nat×Nat)).2):=by intro j hj;cases q<;>simp<;>omega
 have Dq:(a.eval y).cells.toList.length=E.length:=by simpa using AD
 have bH:=uY P D (i*m.length+off) v _ (a.eval y).cells.toList 0 l w hh Fw (by rw[Dq,mY];omega) bo;simp only[Gd] at bH;generalize gS:(a.eval y).cells.toList=us at*;rw[←Dq] at eu jC;obtain⟨O,p2,Q,K1,m0⟩:=dj.set bk.1 hi eu jC;have L:i<C.length:=by rw[dj.1];exact hi
 have Fv:C[i]=O++(p2++Q):=by simpa [L] using K1
 have D5:∀b∈(C.set i (O++(F++Q))).flatten,b∈C.flatten∨b∈F:=by intro b f;rw[T3 L] at f;rw[Qg L,Fv];simp only[DO] at f ⊢;rcases f with f | (f | f | f) | f<;>simp[f]
 have jt:∀b∈(C.set i (O++(F++Q))).flatten,¬uh (xO (qv r.2.1) st.obj) β b:=by
  intro b f;rcases D5 b f with f | f
  ·exact jM b f
  ·exact ko b f
 have bP:=N.fresh id _ G;have mZ:(l.toList.take (i*m.length+off)++(us++l.toList.drop (i*m.length+off+us.length))).length=l.size:=by simp only[Qe,Ij,HW,Hm];rw[mY];omega
 have A7:∀b∈ar β id (.row v m (h.set i (CI (h.getD i []) off r.1)) q (u && r.2.2)),b∈ar β id (.row v m h q u):=λb f=>f;refine tW Z hd (w':=w.setRow D (l.toList.take (i*m.length+off)++(us++l.toList.drop (i*m.length+off+us.length))).toArray) ?_
  (Z.kept.setRow (bP.2 D (al (N.aC id _ G) D lP)).1 _)
  ⟨β,PB (TE φ r.2.1) id ((β.val id).ownBlock.toList++(bif (u && r.2.2) then (C.set i (O++(F++Q))).flatten else [])), ?_,by rw[Ct];simp[dg]⟩
 ·have:=fk (P:=P) (t:=t) (b:=D) (off:=i*m.length+off) (x:=a.eval y) GS (bJ.trans AD.symm) (by rw[gS];exact bH);simp[execOp,ho,I,this]
 ·rw[how,kr];show Core w0 S st.get (PB (xO (qv r.2.1) st.obj) id (some (.row v m (h.set i (CI (h.getD i []) off r.1)) q (u && r.2.2)))) _ _ _ _;refine N.rewrite G lP A7 ?_ ?_ ?_
  ·refine⟨B.take (i*m.length+off)++(us++B.drop (i*m.length+off+us.length)),C.set i (O++(F++Q)),⟨?_,.inr ⟨D,cap,(l.toList.take (i*m.length+off)++(us++l.toList.drop (i*m.length+off+us.length))).toArray,by simpa using hv, ?_,by simpa using BF,EK,by simpa [mZ] using mY, ?_⟩⟩, ?_, ?_,rfl⟩
   ·have:=bk.1;simp only[Qe,Ij,HW,List.length_set];omega
   ·rw[setRow_heap w _ _ _ _ _ hh];simp only[List.size_toArray,mZ]
   ·simp only[List.length_set];rw[ZQ _ _ _ _ (by omega) (by simp only[Hm];omega),FP]
   ·refine m0.mono (by simp) (λb f=>setRow_other w D b _ (λe=>jt b f (e ▸ .inl ⟨id,_,G,lP⟩)))
   ·exact λb f I=>jt b f (ncX G A7 I)
  ·have BG:(β.val id).ownBlock.toList.Nodup:=by cases (β.val id).ownBlock<;>simp
   cases s:(u && r.2.2) with
   | false=>simpa using BG
   | true=>
    simp only[gF] at s;have Ir:TE φ r.2.1 id=(β.val id).ownBlock.toList++C.flatten:=by rw[lv,s.1];rfl
    have Ia:=bP.1;rw[Ir,Qg L,Fv,Eu] at Ia;obtain⟨Ku,Ib,T⟩:=Ia;have K2:=(H4 s.2).2 M;have H3:∀b∈F,b ∉ TE φ r.2.1 id:=by intro b f mV;obtain⟨z,H,K⟩:=(H4 s.2).1 b f;obtain⟨_,U,_⟩:=R z H;rw[BQ Cq] at mV;exact A.sep z.1 id _ _ (Cq z H) U aQ b K mV
    rw[Ir,Qg L,Fv] at H3;simp only[HI];rw[T3 L,Eu];refine⟨Ku,cm Ib K2 (λb f W=>H3 b f (mi _ W)),λb f c p Er=>?_⟩;subst Er;simp only[DO] at p;rcases p with p | (p | p | p) | p
    ·exact T b f b (by simp[p]) rfl
    ·exact T b f b (by simp[p]) rfl
    ·exact H3 b p (U8 _ f)
    ·exact T b f b (by simp[p]) rfl
    ·exact T b f b (by simp[p]) rfl
  ·intro b f;have mC:b∈TE φ r.2.1 id→((w0.heap.size≤b∨S b)∧b<w.heap.size)∧∀j oj,j≠id→xO (qv r.2.1) st.obj j=some oj→b ∉ TE φ r.2.1 j:=λW=>
    ⟨bP.2 b W,λj oj hj X=>N.sep id j _ _ (Ne.symm hj) G X b W⟩
   rcases DO.1 f with f | f
   ·exact mC (by rw[lv];exact U8 _ f)
   ·cases s:(u && r.2.2) with
    | false=>simp[s] at f
    | true=>
     simp only[s,HI] at f;simp only[gF] at s;rcases D5 b f with f | f
     ·exact mC (by rw[lv,s.1];exact mi _ f)
     ·obtain⟨z,H,K⟩:=(H4 s.2).1 b f;obtain⟨_,U,_⟩:=R z H;refine⟨(A.fresh z.1 _ U).2 b K,λj oj hj X=>?_⟩;by_cases Cn:∃k∈r.2.1,k.1=j
      ·rw[GQ Cn];simp
      ·have Dl:∀k∈r.2.1,k.1≠j:=λk hk e=>Cn ⟨k,hk,e⟩;rw[vZ Dl] at X;rw[BQ Dl];exact A.sep z.1 j _ _ (Dl z H) U X b K
theorem nAd{w:aaE} :∀(b:List CT) (r:List DC) (f:Nat→Option aaG) (g:List Nat),zP b=true→bj w b r f g→g=[]
 | [],_,_,_,_,h=>by simp only[bj] at h;exact h.2
 | c::cs,_,_,_,hf,h=>by
  simp only[bj] at h;obtain⟨d,m,v,j,o,rfl,_,a,l,rfl⟩:=h;have i:j=[]∧zP cs=true:=by
   cases c with
   | int k=>simp only[kL] at a;obtain⟨n,_,_,_,e⟩:=a;exact⟨e,by simpa [zP] using hf⟩
   | bool=>simp only[kL] at a;obtain⟨n,_,_,e⟩:=a;exact⟨e,by simpa [zP] using hf⟩
   | str=>simp only[kL] at a;obtain⟨n,_,_,_,e⟩:=a;exact⟨e,by simpa [zP] using hf⟩
   | sl e=>simp[zP] at hf
  rw[i.1,nAd cs _ _ _ i.2 l];rfl
theorem RN.flat{w:aaE}{c:List CT}{a:List (List DC)}{b:List aaG}{d:List (List Nat)}(h:RN w c a b d)(e:zP c=true):d.flatten=[]:=by
 rw[Jt];intro l f;obtain⟨i,g,rfl⟩:=Ju f;have j:i<a.length:=by have:=h.1;omega
 exact nAd c _ _ _ e (h.2 i a[i] d[i] (by simp) (by simp))
theorem Ah{w:aaE}{a:List CT}{r:List (List DC)}{q:Option Addr}{m c:Nat}{s:List Nat}(h:kL w (.sl a) (.sl r) (.slice q m c) s)(E:0<a.length):
  m=r.length∧∃(d:List aaG) (g:List (List Nat)),d.length=m*a.length∧(q=none→m=0)∧(∀t,q=some t→∀j u,d[j]? =some u→w.cell? (t.add j)=some u)∧(∀x∈d,x.oneCell'=true)∧
   RN w a r d g∧(∀b∈g.flatten,b∈s)∧(s.Nodup→g.flatten.Nodup):=by
 obtain⟨Q,R,S,F,k,T,U,G⟩:=xP h;injection F with l v H;subst l v H;refine⟨k.symm, ?_⟩;rcases G with ⟨y,rfl⟩ | ⟨W,b,o,g,rfl,X,Z,rfl,A⟩
 ·have I:r=[]:=by simpa [y] using k
  subst I;exact⟨[],[],by simp[y],λ_=>y,by simp,by simp,RN.nil,by simp,by simp⟩
 ·have e:∀j,j<m*a.length→∃u,w.cell? ⟨b,o+j,none⟩=some u∧u.oneCell'=true:=by
   intro j f;have h1:j / a.length<r.length:=by rw[k];exact Nat.div_lt_of_lt_mul (by rw[Nat.mul_comm];exact f)
   have h2:j % a.length<a.length:=IE _ E;have B:j / a.length<g.length:=by omega
   obtain⟨u,Bz,l,v,_⟩:=bj.get _ _ _ _ (j % a.length) a[j % a.length] (A (j / a.length) r[j / a.length] g[j / a.length] (by simp) (by simp)) (by simp);refine⟨u, ?_,v.one⟩;have:j / a.length*a.length+j % a.length=j:=by rw[Nat.mul_comm];exact Nat.div_add_mod j a.length
   rw[this] at l;exact l
  refine⟨(List.range (m*a.length)).map (λj=>(w.cell? ⟨b,o+j,none⟩).getD undef),g,by simp,by simp, ?_, ?_,⟨by omega, ?_⟩,λx n=>Ew _ n,λk=>(List.nodup_cons.1 k).2⟩
  ·intro t z j u f;injection z with z;subst z;rw[yM];have C:j<m*a.length:=by have:=(Fz.1 f).1;simpa using this
   obtain⟨K,p,_⟩:=e j C;simp[C,p] at f;rw[p,f]
  ·intro x n;simp only[Hn,List.mem_range] at n;obtain⟨j,f,rfl⟩:=n;obtain⟨K,p,L⟩:=e j f;rw[p];exact L
  ·intro i M N D B;refine aG.bj.jX ?_ (A i M N D B);intro j u f O;have P:i<m:=by have:=(Fz.1 D).1;omega
   have:i*a.length+j<m*a.length:=by
    have:i*a.length+a.length≤m*a.length:=by rw[←EZ];exact Gm _ P
    omega
   simp[this,O]
theorem run_append_nil(base:Nat)(t ty a:aaI)(i:TypeInfo)(size:Nat)(b:P.underlying t=some (.slice a))(d:P.info? a=some i)
  (v:aaG) (n:Nat) (e:List aaG) (f:w.ownsRow base a size v n e) (c:Nat):(Builtin.append_ #[t,t] ty #[v,.slice none 0 c]).run P w= .ok v w:=by
 rcases f.2 with ⟨rfl,rfl⟩ | ⟨g,cap,h,rfl,_,_,j,_⟩
 ·simp[Builtin.append_,run_underlying b,sizeOf,typeInfo,d,Builtin.lenOf,Builtin.firstCells]
 ·simp[Builtin.append_,run_underlying b,sizeOf,typeInfo,d,Builtin.lenOf,Builtin.firstCells,j,storeCells]
theorem nmQ{t:aaI}{i:TypeInfo}{n:Nat}(a:P.info? t=some i)(h:Qi P t n=true):n*i.bytes≤140737488355328∧n≤maxLen:=by simp only[Qi,a,gF,kQ] at h;exact⟨h.1,by simp only[maxLen];omega⟩
theorem ZP{t ty e:aaI}{i:TypeInfo}{h:aaG}{d:List CT}(o:P.underlying t=some (.slice e))(k:P.info? e=some i)(r:i.zero=some h)(s:i.size=d.length)(y:h.cells.size=d.length)(z:0<d.length)
  {v:aaG} {n:Nat} {b:List aaG} (l:Em w e d.length false v n b) {q:Option Addr} {m c:Nat} {a:List aaG} (p:a.length=m*d.length) (A:q=none→m=0)
  (B:∀g,q=some g→∀j u,a[j]? =some u→w.cell? (g.add j)=some u) (C:∀x∈a,x.oneCell'=true) (D:Qi P e (n+m)=true):
  ∃f w',(Builtin.append_ #[t,t] ty #[v,.slice q m c]).run P w= .ok f w'∧Em w' e d.length false f (n+m) (b++a)∧w.grownBy w' v.ownBlock∧(f.ownBlock=v.ownBlock∨f.ownBlock=some w.heap.size):=by
 obtain⟨E,F⟩:=nmQ k D;cases q with
 | none=>
  have G:=A rfl;subst G;have H:a=[]:=by simpa using p
  subst H;exact⟨v,w,run_append_nil 0 t ty e i d.length o k v n b l.owns c,by simpa using l,⟨rfl,rfl,rfl,Ft _,λ_ _ _=>rfl⟩,.inl rfl⟩
 | some g=>
  obtain⟨f,w',I,K,L,_,M⟩:=run_append_own_at (P:=P) w 0 t ty e i h d.length i.bytes o k r s rfl y z v n b l.owns g m c a p (B g rfl) C F E (GX _);exact⟨f,w',I,Em.IB K,L,M⟩
theorem Kept.grown(a:Kept S w0 w){w':aaE}{c:Option Nat}(d:w.grownBy w' c)(g:∀b,c=some b→w0.heap.size≤b∨S b):Kept S w0 w':=
 ⟨d.os.trans a.os,d.tape.trans a.tape,d.output.trans a.output,Nat.le_trans a.size d.size,λk i f=>by rw[d.block k (by have:=a.size;omega) (λe=>by rcases g k e.symm with h | h;omega;exact f h)];exact a.block k i f⟩
mutual
theorem nez:∀(a:CT),OY a a=true
 | .int k=>by simp[OY]
 | .bool=>rfl
 | .str=>rfl
 | .sl e=>by simp only[OY];exact UR e
theorem UR:∀(a:List CT),pc a a=true
 | []=>rfl
 | a::l=>by simp only[pc,gF];exact⟨nez a,UR l⟩
end
theorem nhL{c:List CT}{s:bg}{q:List (List DC)×Wk×Bool}(a:(vc c s).val f h=some q):(W9 (.sl c) s).val f h=some (.sl q.1,q.2):=by
 unfold vc at a;split at a
 ·simp only[M.ab,VR] at a;subst a;simp[W9]
 ·rename_i d r;cases b:pc c d
  ·simp[b] at a
  ·simp only[b,HI,M.ab,VR] at a;have:=xp _ _ b;subst this a;simp[W9,UR]
 ·rename_i id;simp only[M.aY,sC] at a;obtain⟨g,e,a⟩:=a;split at a
  ·rename_i i d r j u;cases b:pc c d
   ·simp[b] at a
   ·simp only[b,HI,M.ab,VR] at a;have:=xp _ _ b;subst this a;simp[W9,e,UR]
  ·rename_i d r;cases b:pc c d
   ·simp[b] at a
   ·simp only[b,HI,M.ab,VR] at a;have:=xp _ _ b;subst this a;simp[W9,e,UR]
  ·simp at a
 ·simp at a
theorem OE(d:Core w0 S f h β φ tm w){c:List CT}{s:bg}{v:aaG}{q:List (List DC)×Wk×Bool}(e:dg w (uh h β) β s v)(g:(vc c s).val f h=some q):
  ∃a,kL w (.sl c) (.sl q.1) v a∧VQ h q.2.1∧gf q.2.1=true∧(∀b∈a,(¬uh h β b)∨∃x∈q.2.1,b∈cb h β x.1)∧
   (q.2.2=true→(∀b∈a,∃x∈q.2.1,b∈φ x.1)∧a.Nodup):=w7 d e (nhL g)
theorem nDT{ct:List CT}{m:Wk}(a:VQ h m)(b:gf m=true):VQ h (bif zP ct then [] else m)∧gf (bif zP ct then [] else m)=true:=by
 cases zP ct
 ·exact⟨a,b⟩
 ·exact⟨by simp[VQ],rfl⟩
theorem nfb{a:List CT}{m:Wk} :(bif zP a then [] else qv m)=qv (bif zP a then [] else m):=by cases zP a<;>rfl
theorem ngA(B:Rel w0 S st a w){d:Nat}(aM:o.dst=some d)(hd:IW st.n d)(bR:T7 st d){t l:aaI}{s x:aaH}{c:Call}(ho:o.op= .call c)(C:c.callee= .builtin .append)(cr:c.args= #[s,x])
  (GH:c.argTypes= #[t,t]) {O:bg} {ct:List CT} {q:List (List DC)×Wk×Bool} {z:List bg} (h1:(hF s).val st.get st.obj=some .nil) (R:(hF x).val st.get st.obj=some O) (hu:P.underlying t=some (.slice l))
  (dO:fF P l ct.length=true) (D:0<ct.length) (hz:(tO P l).val st.get st.obj=some z) (kB:z.length=ct.length) (T:(vc ct O).val st.get st.obj=some q) (ff:Qi P l q.1.length=true)
  (fK:e.sv= .own (G8 d 0)) (kr:e.cw=none) (E:e.ow=(G8 d 0,some (.row l ct q.1 false (zP ct || q.2.2)))::(bif zP ct then [] else qv q.2.1)):Good P w0 S st o e a w:=by
 obtain⟨i,U,bJ⟩:=Xo dO;obtain⟨i',zv,p,AJ,rfl,_⟩:=Zy hz;rw[U] at p;injection p with p;subst p;obtain⟨Ka,Kb,F⟩:=B.core;obtain⟨fp0,G,FG,H_,_,_⟩:=OE F (F.ev R) T;obtain⟨Q,m,cc,H,M9,_,_,_⟩:=xP G;rw[H] at G;obtain⟨W,f,MB,Ig,X,g,bo,M1,_,_⟩:=Ah G D;have Z:=F.ev h1;simp only[dg] at Z;have JI:Em w l ct.length false (.slice none 0 0) 0 []:=⟨by simp,.inl ⟨rfl,rfl,rfl⟩⟩;obtain⟨v',w',bH,gJ,I,gG⟩:=ZP (P:=P) (ty:=o.type) (c:=cc) hu U AJ bJ (by simpa using kB) D JI Ig X g bo (by rw[W,GB];exact ff);obtain⟨Hs,GP⟩:=nDT (ct:=ct) FG H_;refine lx B aM hd bR (m:=bif zP ct then [] else q.2.1) (fz:=false) (u:=zP ct || q.2.2) (vals:=f) (v:=v') (w':=w') ?_ (B.kept.grown I (by simp[Fq])) I.size
  (λb C=>I.block b C (by simp[Fq])) ?_ Hs GP ?_ ?_ fK kr (by rw[E,nfb])
 ·simp[execOp,ho,resolve,C,cr,GH,invoke,builtin,Z,H,bH]
 ·intro b h;rcases gG with K | K
  ·rw[K] at h;simp[Fq] at h
  ·rw[K] at h;simpa using h
 ·rw[←W];simpa using gJ
 ·intro β φ hc;obtain⟨fp,jC,iw,Aw,jM,Jj⟩:=OE hc (hc.ev R) T;rw[H] at jC;obtain⟨_,J5,aE,JB,_,HX,_,r,iP,Ih⟩:=Ah jC D;have L:RN w ct q.1 f aE:=by
   refine⟨r.1,λk r' f' hk hf=>?_⟩;refine aG.bj.jX ?_ (r.2 k r' f' hk hf);intro j u hj M;have Jm:k*ct.length+j<J5.length:=(Fz.1 M).1;cases Q with
   | none=>
    have:m=0:=X rfl;subst this;simp at JB;simp[JB] at M
   | some ad=>
    have e1:=HX ad rfl _ _ M;have cA:k*ct.length+j<f.length:=by omega
    have y:=g ad rfl (k*ct.length+j) f[k*ct.length+j] (by simp);rw[e1] at y;injection y with y;rw[IK cA,←y]
  refine⟨aE,L, ?_, ?_⟩
  ·intro b h;cases A:zP ct with
   | true=>rw[r.flat A] at h;simp at h
   | false=>simpa using jM b (iP b h)
  ·intro N;cases A:zP ct with
   | true=>rw[r.flat A];simp
   | false=>
    rw[A,Ho] at N;exact⟨λb h=>by simpa using (Jj N).1 b (iP b h),Ih (Jj N).2⟩
theorem nsH(hR:Rel w0 S st a w){d:Nat}(aM:o.dst=some d)(hd:IW st.n d)(bR:T7 st d){t F:aaI}{s x:aaH}{c:Call}(ho:o.op= .call c)(hb:c.callee= .builtin .append)(cr:c.args= #[s,x])
  (GH:c.argTypes= #[t,t]) {id:Nat} {u:Bool} {r:List (List DC)} {sx:bg} {ct:List CT} {q:List (List DC)×Wk×Bool} {z:List bg} (h1:(hF s).val st.get st.obj=some (.own id)) (h2:(hF x).val st.get st.obj=some sx)
  (aQ:st.obj id=some (.row F ct r false u)) (hu:P.underlying t=some (.slice F))
  (dO:fF P F ct.length=true) (hp:0<ct.length) (hz:(tO P F).val st.get st.obj=some z) (kB:z.length=ct.length) (hq:(vc ct sx).val st.get st.obj=some q) (Lu:Nh id q.2.1=true)
  (ff:Qi P F (r.length+q.1.length)=true) (fK:e.sv= .own (G8 d 0)) (kr:e.cw=none)
  (how:e.ow=(G8 d 0,some (.row F ct (r++q.1) false (u && (zP ct || q.2.2))))::(id,none)::(bif zP ct then [] else qv q.2.1)):Good P w0 S st o e a w:=by
 obtain⟨i,hi,bJ⟩:=Xo dO;obtain⟨i',zv,ey,AJ,rfl,_⟩:=Zy hz;rw[hi] at ey;injection ey with ey;subst ey;obtain⟨β,φ,L⟩:=hR.core;obtain⟨fp,jC,FG,H_,jM,Jj⟩:=OE L (L.ev h2) hq;obtain⟨Q,m,cc,Hz,M9,_,_,_⟩:=xP jC;rw[Hz] at jC;obtain⟨Jv,Z,M,Ig,IM,N,bo,kt,iP,Ih⟩:=Ah jC hp;obtain⟨R,GP⟩:=nDT (ct:=ct) FG H_;have Lt:=fW Lu;have Cq:∀y∈(bif zP ct then [] else q.2.1),y.1≠id:=by
  cases zP ct
  ·exact Lt
  ·simp
 generalize hM:(bif zP ct then [] else q.2.1)=M' at R GP Cq;have G:=L.gg M' R GP;have H:xO (qv M') st.obj id=some (.row F ct r false u):=by rw[vZ Cq];exact aQ
 obtain⟨vals,T,bk,dj,H7,lv⟩:=G.aC id _ H;have FL:=L.ev h1;simp only[dg] at FL;obtain⟨D,w',bH,gJ,U,gG⟩:=ZP (P:=P) (ty:=o.type) (c:=cc) hu hi AJ bJ (by simpa using kB) hp bk Ig IM N bo (by rw[Jv];exact ff);have bN:G8 d 0 / 64=d:=DV d 0 (by omega);have Jl:id≠G8 d 0:=λe=>(bR.obj id _ aQ).1 (e ▸ bN);have gn:∀j,j≠G8 d 0→(β.gw (G8 d 0) D).val j=β.val j∧(β.gw (G8 d 0) D).cY j=β.cY j:=by intro j p;exact⟨by simp[Env.gw,PB,p],rfl⟩
 have A:(β.gw (G8 d 0) D).val (G8 d 0)=D:=by simp[Env.gw,PB]
 have ky:=al (G.aC id _ H);have bP:=G.fresh id _ H;have GL:=dj.lt;have GM:=kt.lt;have jt:∀b∈M.flatten,¬uh (xO (qv M') st.obj) β b:=by
  intro b f;cases I:zP ct with
  | true=>rw[kt.flat I] at f;simp at f
  | false=>
   rw[I,rl] at hM;subst hM;rcases jM b (iP b f) with g | ⟨y,K,O⟩
   ·exact λh4=>g (Ai h4)
   ·exact cI L R K O
 have Dk:(u && (zP ct || q.2.2))=true→∀b∈M.flatten,∃y∈M',b∈φ y.1:=by
  intro h b f;cases I:zP ct with
  | true=>rw[kt.flat I] at f;simp at f
  | false=>
   rw[I,rl] at hM;subst hM;rw[I,Ho,gF] at h;exact (Jj h.2).1 b (iP b f)
 have JD:(u && (zP ct || q.2.2))=true→M.flatten.Nodup:=by
  intro h;cases I:zP ct with
  | true=>rw[kt.flat I];simp
  | false=>
   rw[I,Ho,gF] at h;exact Ih (Jj h.2).2
 have kv:∀j l,PB (PB (xO (qv M') st.obj) id none) (G8 d 0) (some (.row F ct (r++q.1) false (u && (zP ct || q.2.2)))) j=some l→j≠G8 d 0→j≠id∧xO (qv M') st.obj j=some l:=by
  intro j l p Aa;simp only[PB,Aa,if_false] at p;split at p
  ·cases p
  ·exact⟨by assumption,p⟩
 have iN:∀b,(β.val id).ownBlock=some b→b∈TE φ M' id:=λb f=>ky b (by simp[ar,f]);have A8:∀b∈D.ownBlock.toList,b∈TE φ M' id∨b=w.heap.size:=by
  intro b f;rcases gG with g | g
  ·rw[g] at f;exact .inl (ky b (by simpa [ar] using f))
  ·rw[g] at f;exact .inr (by simpa using f)
 have Iu:u=true→∀b∈T.flatten,b∈TE φ M' id:=by intro h b f;rw[lv,h];exact mi _ f
 have Cs:∀b,b∈D.ownBlock.toList++(bif (u && (zP ct || q.2.2)) then (T++M).flatten else [])→∀j l,j≠id→xO (qv M') st.obj j=some l→b ∉ TE φ M' j:=by
  intro b f j l p jN B;have mC:b∈TE φ M' id→False:=λg=>G.sep id j _ _ (Ne.symm p) H jN b g B;rcases DO.1 f with f | f
  ·rcases A8 b f with g | g
   ·exact mC g
   ·have:=((G.fresh j l jN).2 b B).2;omega
  ·cases h:(u && (zP ct || q.2.2)) with
   | false=>simp[h] at f
   | true=>
    simp only[h,HI,GR,DO] at f;rcases f with f | f
    ·rw[gF] at h;exact mC (Iu h.1 b f)
    ·obtain⟨y,K,O⟩:=Dk h b f;obtain⟨_,g,_⟩:=R y K;by_cases Cn:∃k∈M',k.1=j
     ·rw[GQ Cn] at B;simp at B
     ·have Dl:∀k∈M',k.1≠j:=λk W e=>Cn ⟨k,W,e⟩;rw[vZ Dl] at jN;rw[BQ Dl] at B;exact L.sep y.1 j _ _ (Dl y K) g jN b O B
 have gm:∀b,b<w.heap.size→(β.val id).ownBlock≠some b→w'.heap[b]? =w.heap[b]? :=λb f c8=>U.block b f (λe=>c8 e.symm);have X:∀b∈(T++M).flatten,¬uh (xO (qv M') st.obj) β b∧b<w.heap.size:=by
  intro b f;simp only[GR,DO] at f;rcases f with f | f
  ·exact⟨H7 b f,GL b f⟩
  ·exact⟨jt b f,GM b f⟩
 have BB:∀b,uh (PB (PB (xO (qv M') st.obj) id none) (G8 d 0) (some (.row F ct (r++q.1) false (u && (zP ct || q.2.2))))) (β.gw (G8 d 0) D) b→uh (xO (qv M') st.obj) β b∨w.heap.size≤b:=by
  rintro b (⟨j,l,p,B⟩ | hb)
  case inr=>exact .inl (.inr hb)
  by_cases E:j=G8 d 0
  ·subst E;simp only[PB,if_true,VR] at p;subst p;simp only[ar,A] at B;rcases gG with g | g
   ·rw[g] at B;exact .inl (.inl ⟨id,_,H,by simpa [ar] using B⟩)
   ·rw[g] at B;right;have:b=w.heap.size:=by simpa using B
    omega
  ·obtain⟨_,C⟩:=kv j l p E;refine .inl (.inl ⟨j,l,C, ?_⟩);cases l<;>simp only[ar,gn j E] at B ⊢ <;>exact B
 refine yu hR (λd' h'=>by rw[aM] at h';injection h' with h';exact h' ▸ hd) (v:=D) (w':=w') ?_ (hR.kept.grown U (λb f=>(bP.2 b (iN b f)).1))
  ⟨β.gw (G8 d 0) D,PB (TE φ M') (G8 d 0) (D.ownBlock.toList++(bif (u && (zP ct || q.2.2)) then (T++M).flatten else [])), ?_, ?_⟩
 ·simp[execOp,ho,resolve,hb,cr,GH,invoke,builtin,FL.1,Hz,bH]
 ·rw[how,kr,nfb,hM];show Core w0 S st.get (PB (PB (xO (qv M') st.obj) id none) (G8 d 0) (some (.row F ct (r++q.1) false (u && (zP ct || q.2.2))))) _ _ _ _;refine G.step (λj=>j=G8 d 0) U.size (λb f hn=>gm b f (λe=>hn (.inl ⟨id,_,H,by simp[ar,e]⟩))) BB
   (λk j p e=>bR.slot k j p (by rw[e];exact bN)) gn ?_ ?_
  ·intro j l p;by_cases E:j=G8 d 0
   ·subst E;have C:=p;simp only[PB,if_true,VR] at C;subst C;refine .inr ⟨?_, ?_, ?_⟩
    ·refine⟨vals++Z,T++M, ?_, ?_, ?_, ?_⟩
     ·rw[A];have:(r++q.1).length=r.length+m:=by simp[Jv]
      rw[this];exact gJ
     ·exact (dj.append bk.1 kt).mono U.size (λb f=>gm b (X b f).2 (λe=>(X b f).1 (.inl ⟨id,_,H,by simp[ar,e]⟩)))
     ·intro b f hx;rcases BB b hx with g | g
      ·exact (X b f).1 g
      ·have:=(X b f).2;omega
     ·rw[A];simp[PB]
    ·simp only[PB,if_true];have BG:D.ownBlock.toList.Nodup:=by cases D.ownBlock<;>simp
     cases h:(u && (zP ct || q.2.2)) with
     | false=>simpa using BG
     | true=>
      have Hw:u=true:=by rw[gF] at h;exact h.1
      have Ia:=bP.1;rw[lv,Hw,HI,Eu] at Ia;obtain⟨_,Ib,Jw⟩:=Ia;have Kl:((T++M).flatten).Nodup:=by rw[GR,Eu];refine⟨Ib,JD h,λb f c' iI Er=>?_⟩;subst Er;obtain⟨y,K,O⟩:=Dk h b iI;obtain⟨_,g,_⟩:=R y K;have h4:=Iu Hw b f;rw[BQ Cq] at h4;exact L.sep y.1 id _ _ (Cq y K) g aQ b O h4
      rw[HI,Eu];refine⟨BG,Kl,λb f c' iI Er=>?_⟩;subst Er;rcases gG with g | g
      ·rw[g] at f;exact (X b iI).1 (.inl ⟨id,_,H,by simpa [ar] using f⟩)
      ·rw[g] at f;have h4:b=w.heap.size:=by simpa using f
       have:=(X b iI).2;omega
    ·simp only[PB,if_true];intro b f;rcases DO.1 f with f | f
     ·rcases A8 b f with g | g
      ·have:=bP.2 b g;exact⟨this.1,by have:=U.size;omega⟩
      ·subst g;refine⟨.inl hR.kept.size,gJ.lt _ f⟩
     ·cases h:(u && (zP ct || q.2.2)) with
      | false=>simp[h] at f
      | true=>
       simp only[h,HI,GR,DO] at f;have aab:=U.size;rcases f with f | f
       ·have Hw:u=true:=by rw[gF] at h;exact h.1
        have:=bP.2 b (Iu Hw b f);exact⟨this.1,by omega⟩
       ·obtain⟨y,K,O⟩:=Dk h b f;obtain⟨_,g,_⟩:=R y K;have:=(L.fresh y.1 _ g).2 b O;exact⟨this.1,by omega⟩
   ·obtain⟨g9,C⟩:=kv j l p E;refine .inl ⟨E,C,by simp[PB,E], ?_, ?_⟩
    ·intro k W e;rcases Q_ C with g | ⟨e',r',rfl,_⟩
     ·exact (bR.obj j l g).2 k W (by rw[e];exact bN)
     ·simp[tg] at W
    ·intro b f;have fZ:=al (G.aC j l C) b f;refine gm b ((G.fresh j l C).2 b fZ).2 (λe=>?_);exact G.sep id j _ _ (Ne.symm g9) H C b (iN b e) fZ
  ·intro k j ok l c8 W p b f;by_cases H9:k=G8 d 0
   ·subst H9;have Aa:j≠G8 d 0:=Ne.symm c8;obtain⟨g9,C⟩:=kv j l p Aa;simp only[PB,if_true] at f;simp only[PB,Aa,if_false];exact Cs b f j l g9 C
   ·obtain⟨A5,Co⟩:=kv k ok W H9;simp only[PB,H9,if_false] at f;by_cases E:j=G8 d 0
    ·subst E;simp only[PB,if_true];exact λg=>Cs b g k ok A5 Co f
    ·obtain⟨g9,C⟩:=kv j l p E;simp only[PB,E,if_false];exact G.sep k j ok l c8 Co C b f
 ·rw[fK];unfold dg;exact⟨A.symm,gJ.one⟩
theorem nxV:∀(a:List Int) (l:List UInt8),a.foldl (λ(r:ByteArray) n=>r.push (UInt8.ofNat n.toNat)) ⟨l.toArray⟩=⟨(l++a.map (λn=>UInt8.ofNat n.toNat)).toArray⟩
 | [],l=>by simp
 | n::a,l=>by
  simp only[List.foldl_cons,Et];have:(⟨l.toArray⟩:ByteArray).push (UInt8.ofNat n.toNat)=⟨(l++[UInt8.ofNat n.toNat]).toArray⟩:=by apply ByteArray.ext;simp[ByteArray.push]
  rw[this,nxV a];simp
theorem nmX{a:List (List DC)}{v:aaG}{l:List Nat}(p:kL w (.sl [.int .u8]) (.sl a) v l):
  (Conv.bytesToString v).run P w= .ok (.string ⟨(a.map byteOf).toArray⟩) w:=by
 obtain⟨q,m,c,rfl,g,_,_,k⟩:=xP p;cases q with
 | none=>
  have s:m=0:=by
   rcases k with ⟨h,_⟩ | ⟨_,b,o,i,e,_⟩
   ·exact h
   ·cases e
  have:a=[]:=by simpa [s] using g
  subst this;simp[Conv.bytesToString];rfl
 | some ad=>
  have t:(loadCells ad m).run P w= .ok ((a.map λr=>(r.headD default).asInt).map (Gq .u8)).toArray w:=by
   have:=run_loadCells_list (P:=P) (w:=w) ad ((a.map λr=>(r.headD default).asInt).map (Gq .u8)) ?_
   ·simpa [g] using this
   ·intro j u f;rcases k with ⟨h,_⟩ | ⟨_,b,o,i,e,D,E,_,x⟩
    ·have:a=[]:=by simpa [h] using g
     subst this;simp at f
    ·injection e with e;subst e;rw[yM];have y:j<a.length:=by have:=(Fz.1 f).1;simpa using this
     have z:j<i.length:=by omega
     have:=x j a[j] i[j] (by simp) (by simp);simp only[bj,kL,List.length_singleton,Nat.mul_one,Gd] at this;obtain⟨d,F,G,H,I,A,B,⟨n,rfl,rfl,_,_⟩,⟨rfl,_⟩,_⟩:=this;rw[B];simp only[IL,List.getElem?_map,IK y,A,Option.map_some,VR] at f;simpa [DC.asInt] using f
  rw[run_bytesToString w ad m c _ t];have:=nxV (a.map λr=>(r.headD default).asInt) [];have C:ByteArray.empty=⟨([]:List UInt8).toArray⟩:=rfl;rw[C,this];simp[byteOf,Function.comp_def]
theorem neP(j:Rel w0 S st a w)(C:∀d,o.dst=some d→IW st.n d)(bR:e.ow≠[]→∀d,o.dst=some d→T7 st d){s t:aaI}{x:aaH}(D:o.op= .convert s t x){K:bg}
  (B:(hF x).val st.get st.obj=some K) (g:(CD P o.dst s t K).val st.get st.obj=some e):Good P w0 S st o e a w:=by
 unfold CD at g;split at g
 ·rename_i k src r y;split at g
  ·rename_i k' n;simp only[M.ab,VR] at g;subst g;refine R7 j C rfl rfl λβ φ z=>?_;have p:=z.ev B;simp only[dg] at p;refine⟨.int k (k.wrap n), ?_,by unfold dg;exact⟨rfl,e_ _ _⟩⟩;simp[execOp,D,p.1,convert,run_underlying r,run_underlying y,Conv.intToInt]
  ·simp at g
 ·rename_i r y;split at g
  ·rename_i l;simp only[M.ab,VR] at g;subst g;refine R7 j C rfl rfl λβ φ z=>?_;have p:=z.ev B;simp only[dg] at p;refine⟨.string ⟨l.toArray⟩, ?_,by unfold dg;exact⟨rfl,p.2⟩⟩;simp[execOp,D,p.1,convert,run_underlying r,run_underlying y]
  ·simp at g
 ·rename_i h r y;split at g
  ·rename_i A;simp only[M.ag,sC,M.ab,VR] at g;obtain⟨q,hq,rfl⟩:=g;refine R7 j C rfl rfl λβ φ z=>?_;obtain⟨fp,L,_⟩:=OE z (z.ev B) hq;have N:=nmX (P:=P) L;obtain⟨qa,m,c,O,hn,Q,hm,_⟩:=xP L;refine⟨.string ⟨(q.1.map byteOf).toArray⟩, ?_,by unfold dg;exact⟨rfl,by simp;omega⟩⟩;rw[O] at N;have:=run_convert_bytes_string (P:=P) w s t h qa m c y A r;simp[execOp,D,O,this,N]
  ·simp at g
 ·rename_i h r y;split at g
  ·rename_i l d A E;cases R:fF P h 1
   ·simp[R] at g
   simp only[R,HI,M.ab,VR] at g;subst g;obtain⟨Ka,Kb,CZ⟩:=j.core;have p:=CZ.ev B;simp only[dg] at p;have T:l.length≤9223372036854775807:=by have:=p.2;simp only[maxLen] at this;omega
   generalize F:Question.cut (.appendCap l.length 0 h) (w.tape w.drawn (.appendCap l.length 0 h))=cap;have Jd:l.length≤cap:=by rw[←F];simp[Question.cut]
   have Je:cap≤maxLen:=by rw[←F];simp only[Question.cut,maxLen];have:=IE (w.tape w.drawn (.appendCap l.length 0 h)) (show 0<2 ^ 63 - l.length by omega);omega
   let f:Array aaG:=(l.map λb=>Gq .u8 b.toNat).toArray++Array.replicate (cap - l.length) (.int .u8 0);have G:f.size=cap:=by simp[f];omega
   have U:∀b,b<w.heap.size→(FM (w.drew.alloc (.cells f h)) ⟨w.heap.size,cap,none⟩ 1).heap[b]? =w.heap[b]? :=by intro b hb;simp only[FM,Nat.one_ne_zero,if_false,Jx];rw[if_neg (by omega)];exact alloc_old (w:=w.drew) _ b hb
   have bN:(FM (w.drew.alloc (.cells f h)) ⟨w.heap.size,cap,none⟩ 1).heap[w.heap.size]? =some (.cells f h (f.size,f.size+1)):=by simp only[FM,Nat.one_ne_zero,if_false,Jx,if_true];have:=zb (w:=w.drew) (.cells f h);have H:w.drew.heap.size=w.heap.size:=rfl;rw[H] at this;rw[this];simp[G]
   have W:(FM (w.drew.alloc (.cells f h)) ⟨w.heap.size,cap,none⟩ 1).heap.size=w.heap.size+1:=by simp[FM]
   refine lx j E (C d E) (bR (by simp) d E) (m:=[]) (fz:=true) (u:=true) (vals:=l.map λb=>Gq .u8 b.toNat) (v:= .slice (some ⟨w.heap.size,0,none⟩) l.length cap)
    (w':=FM (w.drew.alloc (.cells f h)) ⟨w.heap.size,cap,none⟩ 1) ?_ ?_ (by rw[W];omega) U (by simp[Fq]) (by simp[VQ]) rfl ?_ ?_ rfl rfl rfl
   ·have BJ:(w.drew.alloc (.cells f h)).shape? w.heap.size=some (h,cap):=by have:=zb (w:=w.drew) (.cells f h);have H:w.drew.heap.size=w.heap.size:=rfl;rw[H] at this;unfold World.shape?;rw[this];simp[G]
    simp only[execOp,D,p.1,convert,Sem.run_bind,run_underlying r,run_underlying y,run_underlying A,Result.andThen_ok,Conv.stringToBytes,run_choose];simp only[Question.forced,JA,if_false,Result.andThen_ok,Eb,F,newRow,Sem.run_bind,run_newObj,World.drew_eq,World.alloc_eq];have Q:(Array.map (λb:UInt8=>Gq IntKind.u8 ↑b.toNat) l.toArray++Array.replicate (cap - l.length) (Gq IntKind.u8 0))=f:=by simp[f]
    rw[Q];simp[markStringish,BJ]
   ·refine⟨j.kept.os,j.kept.tape,j.kept.output,by rw[W];have:=j.kept.size;omega,λk X h3=>?_⟩;rw[U k (by have:=j.kept.size;omega)];exact j.kept.block k X h3
   ·refine⟨by simp,.inr ⟨w.heap.size,cap,f,by simp,by simpa using bN,by simpa using Jd,Je,by simp[G], ?_⟩⟩;simp[f]
   ·intro β φ z;refine⟨Ev l.length [],⟨by simp,λi r' f' Z hf=>?_⟩,by simp,by simp⟩;have I:i<l.length:=by have:=(Fz.1 Z).1;simpa using this
    have FK:r'=db l[i]:=by simpa [I] using Z.symm
    have B6:f'=[]:=by have:=hf;rw[List.getElem?_replicate,if_pos I] at this;injection this with this;exact this.symm
    subst FK B6;unfold db;simp only[bj,kL];refine⟨.int l[i].toNat,[],.int .u8 l[i].toNat,[],[],rfl, ?_,⟨_,rfl,rfl, ?_,rfl⟩,⟨rfl,rfl⟩,rfl⟩
    ·simp[I]
    ·rw[Az];have B:IntKind.u8.min=0:=by decide
     have X:IntKind.u8.max=255:=by decide
     have:=l[i].toNat_lt;omega
  ·simp at g
 ·simp at g
set_option linter.unusedVariables false
set_option linter.unusedSimpArgs false
def OH(w:aaE)(k:de)(b:List DC)(v:aaG)(c:List Nat):Prop:=∃a:List aaG,(bif k.agg then v= .agg a.toArray else (a=[v]∧v.oneCell'=true))∧(∀x∈a,x.oneCell'=true)∧bj w k.bF b (λj=>a[j]?) c∧a.length=k.bF.length
def CN(w:aaE):List de→List DC→List aaG→List Nat→Prop
 | [],ds,vs,fp=>ds=[]∧vs=[]∧fp=[]
 | k::ks,ds,vs,fp=>∃a b v c d e,ds=a++b∧vs=v::c∧OH w k a v d∧CN w ks b c e∧fp=d++e
def je(w:aaE):List DB→List DC→List aaG→List Nat→List Nat→List Nat→Prop
 | [],ds,vs,φ,im,tp=>ds=[]∧vs=[]∧φ=[]∧im=[]∧tp=[]
 | .eN c::cs,ds,vs,φ,im,tp=>∃d g v h k l,ds=d::g∧vs=v::h∧kL w c d v k∧je w cs g h φ l tp∧im=k++l
 | .own t e::cs,ds,vs,φ,im,tp=>∃a g v h b m f i,ds= .sl a::g∧vs=v::h∧Em w t e.length false v a.length b∧RN w e a b m∧
   je w cs g h f im i∧φ=(v.ownBlock.toList++m.flatten)++f∧tp=v.ownBlock.toList++i
 | .deep t e ts::cs,ds,vs,φ,im,tp=>∃a g v h b j f i,ds= .sl a::g∧vs=v::h∧Em w t e.length false v a.length b∧R9 w e ts a b (λ_=>none) j∧
   je w cs g h f im i∧φ=(v.ownBlock.toList++j.flatten)++f∧tp=(v.ownBlock.toList++j.flatten)++i
def f_(w:aaE):List VC→List DC→List aaG→List Nat→List Nat→List Nat→Prop
 | [],ds,vs,φ,im,tp=>ds=[]∧vs=[]∧φ=[]∧im=[]∧tp=[]
 | k::ks,ds,vs,φ,im,tp=>∃b c v d a e f g h i j,ds=b++c∧vs=v::d∧(bif k.agg then v= .agg a.toArray else a=[v])∧(∀x∈a,x.oneCell'=true)∧je w k.cells b a e g i∧
   f_ w ks c d f h j∧φ=e++f∧im=g++h∧tp=i++j
def pack:List aaG→aaG
 | [x]=>x
 | l=> .tuple l.toArray
def gk(P:aaF)(g:Nat)(s:Sum):Prop:=(∃fn,P.funcs[g]? =some fn∧fn.body.isSome=true∧(fn.name== "runtime.NumGoroutine")=false)∧ ∀(w:aaE) (c:List DC) (a:List aaG) (d:List Nat),CN w s.ps c a d→(s.fn c).1=true→ Calls P g a.toArray w λe w'=>∃f φ h i,e= .returned (pack f)∧Kept Own.none w w'∧f_ w' s.rs (s.fn c).2 f φ h i∧φ.Nodup∧ (∀b∈φ,w.heap.size≤b∧b<w'.heap.size)∧∀b∈h,(b∈d∨w.heap.size≤b)∧b ∉ i
def ft(w:aaE):List CT→List aaI→List DC→List aaG→List Nat→Prop
 | [],ts,ds,us,mb=>ts=[]∧ds=[]∧us=[]∧mb=[]
 | .sl e::cs,ts,ds,us,mb=>∃t h a f v g b j i,ts=t::h∧ds= .sl a::f∧us=v::g∧zP e=true∧Em w t e.length false v a.length b∧RN w e a b j∧
   ft w cs h f g i∧mb=v.ownBlock.toList++i
 | c::cs,ts,ds,us,mb=>∃d f v g,ds=d::f∧us=v::g∧kL w c d v []∧ft w cs ts f g mb
def XI(w:aaE)(t:YY)(e:List CT)(b:List (List DC))(v:aaG)(c:List Nat):Prop:=
 match t with
 | .flat t=>zP e=true∧∃a f,Em w t e.length false v b.length a∧RN w e b a f∧c=v.ownBlock.toList
 | .deep t its=>∃a d,Em w t e.length false v b.length a∧R9 w e its b a (λ_=>none) d∧c=v.ownBlock.toList++d.flatten
def mE(w:aaE):List CT→List YY→List DC→List aaG→List Nat→Prop
 | [],ts,ds,us,mb=>ts=[]∧ds=[]∧us=[]∧mb=[]
 | .sl e::cs,ts,ds,us,mb=>∃t g a b v f h i,ts=t::g∧ds= .sl a::b∧us=v::f∧XI w t e a v h∧mE w cs g b f i∧mb=h++i
 | c::cs,ts,ds,us,mb=>∃d b v f,ds=d::b∧us=v::f∧kL w c d v []∧mE w cs ts b f mb
def TR(w:aaE):List CT→List YY→List DC→List aaG→List Nat→Prop
 | [],_,ds,us,mb=>ds=[]∧us=[]∧mb=[]
 | .sl e::cs,ts,ds,us,mb=>∃t c a d v b f g,ts=t::c∧ds= .sl a::d∧us=v::b∧XI w t e a v f∧TR w cs c d b g∧mb=f++g
 | _::cs,ts,ds,us,mb=>∃v b,us=v::b∧TR w cs ts ds b mb
def dP(w:aaE)(k:de):Option lz→List DC→aaG→List Nat→List Nat→Prop
 | none,d,v,f,b=>OH w k d v f∧b=[]
 | some (.box t),d,v,f,b=>∃(g:Nat) (a:List aaG),v= .pointer (some ⟨g,0,none⟩)∧w.heap[g]? =some (.cells a.toArray t (0,0))∧(∀x∈a,x.oneCell'=true)∧bj w k.bF d (λj=>a[j]?) f∧a.length=k.bF.length∧b=[g]
 | some (.rows ts),d,v,f,b=>∃a:List aaG,(bif k.agg then v= .agg a.toArray else (a=[v]∧v.oneCell'=true))∧(∀x∈a,x.oneCell'=true)∧mE w k.bF ts d a b∧f=[]
 | some (.km ts),d,v,f,b=>∃a:List aaG,(bif k.agg then v= .agg a.toArray else (a=[v]∧v.oneCell'=true))∧(∀x∈a,x.oneCell'=true)∧mE w k.bF ts d a b∧f=[]
 | some (.cZ t ts),d,v,f,b=>∃(g:Nat) (a:List aaG) (m:List Nat),v= .pointer (some ⟨g,0,none⟩)∧w.heap[g]? =some (.cells a.toArray t (0,0))∧(∀x∈a,x.oneCell'=true)∧mE w k.bF ts d a m∧b=g::m∧f=[]
def dJ(w:aaE):List de→List (Option lz)→List DC→List aaG→List Nat→List Nat→Prop
 | [],ms,ds,vs,fp,mb=>ms=[]∧ds=[]∧vs=[]∧fp=[]∧mb=[]
 | k::ks,ms,ds,vs,fp,mb=>∃m a b c v d e f g h,ms=m::a∧ds=b++c∧vs=v::d∧dP w k m b v e g∧dJ w ks a c d f h∧fp=e++f∧mb=g++h
def kE(w:aaE)(k:de):Option lz→List DC→aaG→List Nat→List Nat→Prop
 | none,d,_,im,b=>d=[]∧im=[]∧b=[]
 | some (.box t),d,v,im,b=>∃(g:Nat) (a:List aaG),v= .pointer (some ⟨g,0,none⟩)∧w.heap[g]? =some (.cells a.toArray t (0,0))∧(∀x∈a,x.oneCell'=true)∧bj w k.bF d (λj=>a[j]?) im∧a.length=k.bF.length∧b=[g]
 | some (.rows ts),d,v,im,b=>∃a:List aaG,(bif k.agg then v= .agg a.toArray else a=[v])∧TR w k.bF ts d a b∧im=[]
 | some (.km _),d,_,im,b=>d=[]∧im=[]∧b=[]
 | some (.cZ t ts),d,v,im,b=>∃(g:Nat) (a:List aaG) (m:List Nat),v= .pointer (some ⟨g,0,none⟩)∧w.heap[g]? =some (.cells a.toArray t (0,0))∧(∀x∈a,x.oneCell'=true)∧mE w k.bF ts d a m∧b=g::m∧im=[]
def vG(w:aaE):List de→List (Option lz)→List DC→List aaG→List Nat→List Nat→Prop
 | [],_,ds,vs,im,mb=>ds=[]∧vs=[]∧im=[]∧mb=[]
 | k::ks,ms,ds,vs,im,mb=>∃m a b c v d e f g h,ms=m::a∧ds=b++c∧vs=v::d∧kE w k m b v e g∧vG w ks a c d f h∧im=e++f∧mb=g++h
def UY(P:aaF)(g:Nat)(s:Sum):Prop:=(∃fn,P.funcs[g]? =some fn∧fn.body.isSome=true∧(fn.name== "runtime.NumGoroutine")=false)∧ ∀(w:aaE) (f:List DC) (a:List aaG) (h c:List Nat),dJ w s.ps s.ms f a h c→c.Nodup→(∀b∈c,b ∉ h)→(s.fn f).1=true→ Calls P g a.toArray w λe w'=>∃j φ n k l i m d,e= .returned (pack j)∧(s.fn f).2=i++m∧i.length=gW s.rs∧Kept ⟨λb=>b∈c,λ_=>False,[]⟩ w w'∧f_ w' s.rs i j φ n k∧φ.Nodup∧ (∀b∈φ,(b∈c∨w.heap.size≤b)∧b<w'.heap.size)∧vG w' s.ps s.ms m a l d∧d.Nodup∧(∀b∈d,(b∈c∨w.heap.size≤b)∧b<w'.heap.size∧b ∉ φ)∧∀b∈l,(b∈h∨w.heap.size≤b)∧b ∉ k∧b ∉ d∧Av s.ms=false
def jA(P:aaF)(g:Nat)(s:Sum)(t:aaI)(bF:List CT):Prop:=(∃fn,P.funcs[g]? =some fn∧fn.body.isSome=true∧(fn.name== "runtime.NumGoroutine")=false)∧ ∀(w:aaE) (d:List DC) (a:List aaG) (f:List Nat),CN w s.ps d a f→(s.fn d).1=true→ Calls P g a.toArray w λe w'=>∃(b:Nat) (c:List aaG) (h:List Nat),e= .returned (.pointer (some ⟨b,0,none⟩))∧Kept Own.none w w'∧w.heap.size≤b∧b<w'.heap.size∧ w'.heap[b]? =some (.cells c.toArray t (0,0))∧(∀x∈c,x.oneCell'=true)∧bj w' bF (s.fn d).2 (λj=>c[j]?) h∧c.length=bF.length∧∀x∈h,(x∈f∨w.heap.size≤x)∧x≠b
def xC(P:aaF)(g:Nat)(s:Sum):Prop:=
 bif s.Hd then True else
 match s.pt with
 | some (t,bF)=>jA P g s t bF
 | none=>
  match s.ms with
  | []=>gk P g s
  | _::_=>UY P g s
def Wq(P:aaF)(Γ:Ctx):Prop:=∀g s,OT Γ g=some s→xC P g s
theorem wh(u:Core w0 S f h β φ tm w):∀(p:List de) (AK:List bg) (j:List aaG) (q:List DC×Wk),qV w (uh h β) β AK j→(yY p AK).val f h=some q→
  ∃D,CN w p q.1 j D∧VQ h q.2∧∀b∈D,(¬uh h β b)∨∃x∈q.2,b∈cb h β x.1
 | [],[],j,q,hs,hq=>by simp only[yY,M.ab,VR] at hq;subst hq;simp only[qV] at hs;exact⟨[],⟨rfl,hs,rfl⟩,by simp[VQ],by simp⟩
 | [],_::_,j,q,hs,hq=>by simp[yY] at hq
 | _::_,[],j,q,hs,hq=>by simp[yY] at hq
 | k::p,s::AK,j,q,hs,hq=>by
  simp only[qV] at hs;obtain⟨v,l,rfl,y,O⟩:=hs;simp only[yY,M.ag,sC,M.ab,VR] at hq;obtain⟨g,i,E,P,rfl⟩:=hq;obtain⟨F,Q,R,T⟩:=wh u p AK l E O P;have z:∃a,OH w k g.1 v a∧VQ h g.2.1∧∀b∈a,(¬uh h β b)∨∃x∈g.2.1,b∈cb h β x.1:=by
   cases n:k.agg with
   | true=>
    cases s with
    | agg G=>
     simp only[n] at i;simp only[dg] at y;obtain⟨H,rfl,I,r⟩:=y;obtain⟨a,m,A,B,_⟩:=eV u k.bF G H g I i;have hl:=qV.length _ _ I;have t:=Y8 _ _ _ i;exact⟨a,⟨H,by rw[n];rfl,r,m,by omega⟩,A,B⟩
    | _=>simp[n] at i
   | false=>
    have K:(jk k.bF [s]).val f h=some g:=by
     cases s<;>simp only[n] at i<;>first | exact i | (simp at i)
    have U:qV w (uh h β) β [s] [v]:=by simp only[qV];exact⟨v,[],rfl,y,rfl⟩
    obtain⟨a,m,A,B,_⟩:=eV u k.bF [s] [v] g U K;have t:=Y8 _ _ _ K;have r:v.oneCell'=true:=by
     cases L:k.bF with
     | nil=>rw[L] at t;simp at t
     | cons c G=>
      rw[L] at m;simp only[bj] at m;obtain⟨d,r',v',f1,f2,_,N,e,_⟩:=m;simp at N;subst N;exact e.one
    exact⟨a,⟨[v],by rw[n];exact⟨rfl,r⟩,by simpa using r,m,by simpa using t⟩,A,B⟩
  obtain⟨a,W,X,Z⟩:=z;refine⟨a++F,⟨g.1,E.1,v,l,a,F,rfl,rfl,W,Q,rfl⟩,Ff X R, ?_⟩;intro b o;rcases DO.1 o with o | o
  ·rcases Z b o with e | ⟨x,C,e⟩
   ·exact .inl e
   ·exact .inr ⟨x,U8 _ C,e⟩
  ·rcases T b o with e | ⟨x,C,e⟩
   ·exact .inl e
   ·exact .inr ⟨x,mi _ C,e⟩
structure rK where
 id:Nat
 t:aaI
 e:List CT
 rows:List (List DC)
 v:aaG
 aE:List (List Nat)
 ts:Option (List aaI)
def rK.obj(x:rK):yP:=
 match x.ts with
 | none=> .row x.t x.e x.rows false true
 | some ts=> .deep x.t x.e ts x.rows none
def rK.bT(x:rK):List Nat:=x.v.ownBlock.toList++x.aE.flatten
def rK.ar(x:rK):List Nat:=
 match x.ts with
 | none=>x.v.ownBlock.toList
 | some _=>x.bT
def rK.ok(w:aaE)(x:rK):Prop:=
 match x.ts with
 | none=>∃a,Em w x.t x.e.length false x.v x.rows.length a∧RN w x.e x.rows a x.aE
 | some ts=>∃a,Em w x.t x.e.length false x.v x.rows.length a∧R9 w x.e ts x.rows a (λ_=>none) x.aE
theorem rK.al(x:rK):∀b∈x.ar,b∈x.bT:=by
 intro b a;unfold rK.ar at a;split at a
 ·exact U8 _ a
 ·exact a
theorem rK.js(x:rK){β:Env}(a:β.val x.id=x.v)(b:β.nb x.id=x.aE.flatten):Vm.ar β x.id x.obj=x.ar:=by
 unfold rK.obj rK.ar;cases x.ts with
 | none=>simp[Vm.ar,a]
 | some ts=>simp[Vm.ar,a,b,rK.bT]
theorem rK.ids(x:rK):tg x.obj=[]:=by unfold rK.obj;cases x.ts<;>rfl
theorem rK.J7{w:aaE}{x:rK}(h:x.ok w){i:Nat→Prop}{β:Env}(c:β.val x.id=x.v)(k:β.nb x.id=x.aE.flatten)(l:∀b∈x.aE.flatten,b ∉ x.ar→¬i b)(d:x.bT.Nodup):ef w i β x.id x.obj x.bT:=by
 unfold rK.ok at h;unfold rK.obj;cases e:x.ts with
 | none=>
  rw[e] at h;obtain⟨a,f,g⟩:=h;refine⟨a,x.aE,by rw[c];exact f,g,λb j=>l b j ?_,by rw[c];rfl⟩;unfold rK.ar;rw[e];intro m;unfold rK.bT at d;rw[Eu] at d;exact d.2.2 b m b j rfl
 | some ts=>
  rw[e] at h;obtain⟨a,f,g⟩:=h;exact⟨a,x.aE,by rw[c];exact f,g,k,by rw[c];rfl⟩
def ik:List rK→Nat→Option rK
 | [],_=>none
 | x::l,i=>if i=x.id then some x else ik l i
theorem UG{N:List rK}{j:Nat}{x:rK}(h:ik N j=some x):x∈N∧x.id=j:=by
 induction N with
 | nil=>simp[ik] at h
 | cons y l a=>
  simp only[ik] at h;split at h
  ·rename_i b;injection h with h;subst h;exact⟨EI ..,b.symm⟩
  ·obtain⟨c,d⟩:=a h;exact⟨Ew _ c,d⟩
theorem x9{N:List rK}{x:rK}(a:x∈N)(b:(N.map (·.id)).Nodup):ik N x.id=some x:=by
 induction N with
 | nil=>simp at a
 | cons y l c=>
  simp only[Et,List.nodup_cons] at b;simp only[ik];rcases Ep.1 a with rfl | a
  ·simp
  ·have:x.id≠y.id:=λe=>b.1 (e ▸ Hp a);rw[if_neg this];exact c a b.2
def Rd(N:List rK):List (Nat×Option yP):=N.map λx=>(x.id,some x.obj)
theorem jP(N:List rK)(l:List (Nat×Option yP))(j:Nat):xO (Rd N++l) h j=match ik N j with | some x=>some x.obj | none=>xO l h j:=by
 induction N with
 | nil=>rfl
 | cons y N a=>
  simp only[Rd,Et,EE,xO,PB,ik];split
  ·rfl
  ·exact a
def Env.gv(β:Env)(N:List rK):Env:=⟨β.cY,λj=>match ik N j with | some x=>x.v | none=>β.val j,β.gV,λj=>match ik N j with | some x=>x.aE.flatten | none=>β.nb j⟩
theorem nT{N:List rK}(h:(N.flatMap rK.bT).Nodup):(∀x∈N,x.bT.Nodup)∧∀x∈N,∀y∈N,x≠y→∀b∈x.bT,b ∉ y.bT:=by
 induction N with
 | nil=>simp
 | cons z l j=>
  rw[D3,Eu] at h;obtain⟨k,m,g⟩:=h;obtain⟨n,o⟩:=j m;refine⟨λx a=>?_,λx a y p i b e f=>?_⟩
  ·rcases Ep.1 a with rfl | a
   ·exact k
   ·exact n x a
  ·rcases Ep.1 a with c | c<;>rcases Ep.1 p with d | d
   ·exact i (c.trans d.symm)
   ·subst c;exact g b e b (E1.2 ⟨y,d,f⟩) rfl
   ·subst d;exact g b f b (E1.2 ⟨x,c,e⟩) rfl
   ·exact o x c y d i b e f
theorem Core.GD(n:Core w0 S f h β φ tm w){w':aaE}{N:List rK}(H:w.heap.size≤w'.heap.size)(A:∀b,b<w.heap.size→w'.heap[b]? =w.heap[b]?)(I:w0.heap.size≤w.heap.size)
  (B:∀x∈N,h x.id=none∧(∀i,x.id ∉ jH (f i))∧∀k o,h k=some o→x.id ∉ tg o) (K:∀x∈N,rK.ok w' x) (T:(N.map (·.id)).Nodup)
  (m:(N.flatMap rK.bT).Nodup) (t:∀b∈N.flatMap rK.bT,w.heap.size≤b∧b<w'.heap.size):
  Core w0 S f (λj=>match ik N j with | some x=>some x.obj | none=>h j) (β.gv N) (λj=>match ik N j with | some x=>x.bT | none=>φ j) tm w':=by
 have u:∀x∈N,∀b∈x.bT,b∈N.flatMap rK.bT:=λx d b c=>E1.2 ⟨x,d,c⟩;have L:∀j e,ik N j=none→ar (β.gv N) j e=ar β j e:=by intro j e a;cases e<;>simp[ar,Env.gv,a]
 have M:∀j x,ik N j=some x→ar (β.gv N) j x.obj=x.ar:=by intro j x a;obtain⟨_,rfl⟩:=UG a;exact x.js (by simp[Env.gv,a]) (by simp[Env.gv,a])
 have C:∀b,uh (λj=>match ik N j with | some x=>some x.obj | none=>h j) (β.gv N) b→uh h β b∨(w.heap.size≤b∧∃x∈N,b∈x.ar):=by
  rintro b (⟨j,e,a,p⟩ | c)
  case inr=>exact .inl (.inr c)
  cases g:ik N j with
  | none=>
   simp only[g] at a;rw[L j e g] at p;exact .inl (.inl ⟨j,e,a,p⟩)
  | some x=>
   simp only[g,VR] at a;subst a;rw[M j x g] at p;have d:=(UG g).1;exact .inr ⟨(t b (u x d b (x.al b p))).1,x,d,p⟩
 refine n.Aq (λj=>(ik N j).isSome=true) H (λb c _=>A b c) (λb c=>(C b c).imp id (·.1)) ?_ ?_ ?_ ?_
 ·intro i j a d;obtain⟨x,d⟩:=Ht.1 d;obtain⟨l,rfl⟩:=UG d;exact (B x l).2.1 i a
 ·intro j a;have:ik N j=none:=by simpa using a
  simp[Env.gv,this]
 ·intro j e a;cases g:ik N j with
  | none=>
   simp only[g] at a;refine .inl ⟨by simp[g],a,by simp[Env.gv,g],by simp, ?_,λb c=>A b ?_⟩
   ·intro i q d;obtain⟨x,d⟩:=Ht.1 d;obtain⟨l,rfl⟩:=UG d;exact (B x l).2.2 j e a q
   ·exact ((n.fresh j e a).2 b (al (n.aC j e a) b c)).2
  | some x=>
   simp only[g,VR] at a;subst a;obtain⟨l,rfl⟩:=UG g;refine .inr ⟨rK.J7 (K x l) (by simp[Env.gv,g]) (by simp[Env.gv,g]) ?_ ((nT m).1 x l), ?_, ?_⟩
   ·intro b c O d;have D:b∈x.bT:=mi _ c;have U:=(t b (u x l b D)).1;rcases C b d with P | ⟨_,y,Q,r⟩
    ·have:=n.IX I P;omega
    ·by_cases v:y=x
     ·subst v;exact O r
     ·exact (nT m).2 y Q x l v b (y.al b r) D
   ·exact (nT m).1 x l
   ·intro b c;have:=t b (u x l b c);exact⟨.inl (by omega),this.2⟩
 ·intro i j E e F q a b c;cases z:ik N i with
  | none=>
   simp only[z] at q c;cases s:ik N j with
   | none=>
    simp only[s] at a ⊢;exact n.sep i j E e F q a b c
   | some y=>
    simp only;intro r;have:=(t b (u y (UG s).1 b r)).1;have:=((n.fresh i E q).2 b c).2;omega
  | some x=>
   simp only[z] at q c;have G:=(UG z).1;cases s:ik N j with
   | none=>
    simp only[s] at a ⊢;intro p;have:=(t b (u x G b c)).1;have:=((n.fresh j e a).2 b p).2;omega
   | some y=>
    simp only;intro r;have R:=(UG s).1;have v:x≠y:=by
     rintro rfl
     exact F ((UG z).2.symm.trans (UG s).2)
    exact (nT m).2 x G y R v b c r
structure rv where
 id:Nat
 obj:yP
 nb:List Nat
 bT:List Nat
def Yp:List rv→Nat→Option rv
 | [],_=>none
 | x::l,i=>if i=x.id then some x else Yp l i
theorem P9{U:List rv}{j:Nat}{x:rv}(h:Yp U j=some x):x∈U∧x.id=j:=by
 induction U with
 | nil=>simp[Yp] at h
 | cons y l a=>
  simp only[Yp] at h;split at h
  ·rename_i b;injection h with h;subst h;exact⟨EI ..,b.symm⟩
  ·obtain⟨c,d⟩:=a h;exact⟨Ew _ c,d⟩
theorem ndn{U:List rv}{x:rv}(a:x∈U):∃y,Yp U x.id=some y:=by
 induction U with
 | nil=>simp at a
 | cons y l b=>
  simp only[Yp];split
  ·exact⟨_,rfl⟩
  ·rename_i c;rcases Ep.1 a with rfl | a
   ·exact absurd rfl c
   ·exact b a
theorem nyy{U:List rv}(h:(U.flatMap rv.bT).Nodup):(∀x∈U,x.bT.Nodup)∧∀x∈U,∀y∈U,x.id≠y.id→∀b∈x.bT,b ∉ y.bT:=by
 induction U with
 | nil=>simp
 | cons z l j=>
  rw[D3,Eu] at h;obtain⟨k,m,g⟩:=h;obtain⟨n,o⟩:=j m;refine⟨λx a=>?_,λx a y p i b e f=>?_⟩
  ·rcases Ep.1 a with rfl | a
   ·exact k
   ·exact n x a
  ·rcases Ep.1 a with c | c<;>rcases Ep.1 p with d | d
   ·exact i (by rw[c,d])
   ·subst c;exact g b e b (E1.2 ⟨y,d,f⟩) rfl
   ·subst d;exact g b f b (E1.2 ⟨x,c,e⟩) rfl
   ·exact o x c y d i b e f
def Env.cv(β:Env)(N:List rK)(U:List rv):Env:=
 ⟨β.cY,λj=>match ik N j with | some x=>x.v | none=>β.val j,β.gV,λj=>match ik N j with | some x=>x.aE.flatten | none=>match Yp U j with | some x=>x.nb | none=>β.nb j⟩
def ub(N:List rK)(U:List rv)(D:List Nat)(h:Nat→Option yP)(j:Nat):Option yP:=
 match ik N j with | some x=>some x.obj | none=>match Yp U j with | some x=>some x.obj | none=>if j∈D then none else h j
def Pn(N:List rK)(U:List rv)(φ:Nat→List Nat)(j:Nat):List Nat:=
 match ik N j with | some x=>x.bT | none=>match Yp U j with | some x=>x.bT | none=>φ j
theorem Core.KG(r:Core w0 S f h β φ tm w){w':aaE}{N:List rK}{U:List rv}{D im mb:List Nat}(hs:w.heap.size≤w'.heap.size)(hk:w0.heap.size≤w.heap.size)
  (Hr:∀b∈mb,∃i,((∃x∈U,x.id=i)∨i∈D)∧∃o,h i=some o∧b∈ar β i o)
  (hw:∀b,b<w.heap.size→b ∉ mb→w'.heap[b]? =w.heap[b]?)
  (hU:∀x∈U,∃o,h x.id=some o)
  (MI:∀x∈U,∀(av:Nat→Prop) (B:Env),B.val x.id=β.val x.id→B.cY x.id=β.cY x.id→B.nb x.id=x.nb→(∀y∈N,B.val y.id=y.v)→(∀b∈im,¬av b)→ef w' av B x.id x.obj x.bT)
  (L5:(U.flatMap rv.bT).Nodup) (F:∀b∈U.flatMap rv.bT,(b∈mb∨w.heap.size≤b)∧b<w'.heap.size∧b ∉ N.flatMap rK.bT)
  (j9:∀b∈im,¬uh (ub N U D h) (β.cv N U) b) (AG:(N.map (·.id)).Nodup)
  (bP:∀x∈N,h x.id=none∧(∀i,x.id ∉ jH (f i))∧∀k o,h k=some o→x.id ∉ tg o) (aN:∀x∈N,rK.ok w' x)
  (u:(N.flatMap rK.bT).Nodup) (Z:∀b∈N.flatMap rK.bT,(b∈mb∨w.heap.size≤b)∧b<w'.heap.size):
  Core w0 S f (ub N U D h) (β.cv N U) (Pn N U φ) tm w':=by
 have G:∀x∈N,∀b∈x.bT,b∈N.flatMap rK.bT:=λx g b d=>E1.2 ⟨x,g,d⟩;have H:∀x∈U,∀b∈x.bT,b∈U.flatMap rv.bT:=λx g b d=>E1.2 ⟨x,g,d⟩;have hUN:∀x∈U,ik N x.id=none:=by
  intro x g;cases m:ik N x.id with
  | none=>rfl
  | some y=>
   obtain⟨q,he⟩:=UG m;obtain⟨o,s⟩:=hU x g;have:=(bP y q).1;rw[he,s] at this;cases this
 have mA:∀j c,ik N j=none→Yp U j=none→ar (β.cv N U) j c=ar β j c:=by intro j c a l;cases c<;>simp[ar,Env.cv,a,l]
 have kz:∀j x,ik N j=some x→ar (β.cv N U) j x.obj=x.ar:=by intro j x a;obtain⟨_,rfl⟩:=UG a;exact x.js (by simp[Env.cv,a]) (by simp[Env.cv,a])
 have FJ:∀j x,ik N j=none→Yp U j=some x→ef w' (uh (ub N U D h) (β.cv N U)) (β.cv N U) j x.obj x.bT:=by intro j x m l;obtain⟨q,rfl⟩:=P9 l;exact MI x q _ _ (by simp[Env.cv,m]) rfl (by simp[Env.cv,m,l]) (λy n=>by simp[Env.cv,x9 n AG]) j9
 have FF:∀b∈mb,uh h β b:=by intro b d;obtain⟨i,_,o,s,L⟩:=Hr b d;exact .inl ⟨i,o,s,L⟩
 have Dj:∀b∈mb,∃i o,h i=some o∧b∈φ i:=by intro b d;obtain⟨i,_,o,s,L⟩:=Hr b d;exact⟨i,o,s,Vm.al (r.aC _ _ s) b L⟩
 have Kn:∀b,uh (ub N U D h) (β.cv N U) b→uh h β b∨w.heap.size≤b:=by
  rintro b (⟨j,c,a,t⟩ | d)
  case inr=>exact .inl (.inr d)
  unfold ub at a;cases m:ik N j with
  | none=>
   simp only[m] at a;cases l:Yp U j with
   | none=>
    simp only[l] at a;split at a
    ·cases a
    rw[mA j c m l] at t;exact .inl (.inl ⟨j,c,a,t⟩)
   | some x=>
    simp only[l,VR] at a;subst a;have p:=Vm.al (FJ j x m l) b t;rcases (F b (H x (P9 l).1 b p)).1 with E | E
    ·exact .inl (FF b E)
    ·exact .inr E
  | some x=>
   simp only[m,VR] at a;subst a;rw[kz j x m] at t;have g:=(UG m).1;rcases (Z b (G x g b (x.al b t))).1 with E | E
   ·exact .inl (FF b E)
   ·exact .inr E
 have M:∀j c,h j=some c→(∀x∈U,x.id≠j)→j ∉ D→∀b∈φ j,b ∉ mb:=by
  intro j c a O u b d Jb;obtain⟨i,I,o,s,L⟩:=Hr b Jb;refine r.sep i j o c (λe=>?_) s a b (Vm.al (r.aC _ _ s) b L) d;rcases I with ⟨x,g,hxi⟩ | I
  ·exact O x g (hxi.trans e)
  ·exact u (e ▸ I)
 have JM:∀b,(b∈mb∨w.heap.size≤b)→¬β.gV b:=by
  intro b d eM;rcases d with d | d
  ·obtain⟨i,o,s,P⟩:=Dj b d;exact r.BR s P eM
  ·have:=(r.gV b eM).1;omega
 have FC:∀j c,Yp U j=none→(if j∈D then none else h j)=some c→h j=some c∧j ∉ D:=by
  intro j c _ a;split at a
  ·cases a
  ·exact⟨a,by assumption⟩
 have Q:∀j,Yp U j=none→∀x∈U,x.id≠j:=by intro j l x g he;obtain⟨y,n⟩:=ndn g;rw[he,l] at n;cases n
 refine r.Aq (λj=>(ik N j).isSome=true) hs ?_ Kn ?_ ?_ ?_ ?_
 ·intro b d hn;exact hw b d (λJb=>hn (FF b Jb))
 ·intro i j a g;obtain⟨x,g⟩:=Ht.1 g;obtain⟨q,rfl⟩:=UG g;exact (bP x q).2.1 i a
 ·intro j a;have:ik N j=none:=by simpa using a
  simp[Env.cv,this]
 ·intro j c a;unfold ub at a;cases m:ik N j with
  | none=>
   simp only[m] at a;cases l:Yp U j with
   | none=>
    simp only[l] at a;obtain⟨a,R⟩:=FC j c l a;refine .inl ⟨by simp[m],a,by simp[Env.cv,m,l],by simp[Pn,m,l], ?_,λb d=>?_⟩
    ·intro i I g;obtain⟨x,g⟩:=Ht.1 g;obtain⟨q,rfl⟩:=UG g;exact (bP x q).2.2 j c a I
    ·have T:=Vm.al (r.aC j c a) b d;exact hw b ((r.fresh j c a).2 b T).2 (M j c a (Q j l) R b T)
   | some x=>
    simp only[l,VR] at a;subst a;have q:=(P9 l).1;refine .inr ⟨by simpa only[Pn,m,l] using FJ j x m l,by simpa only[Pn,m,l] using (nyy L5).1 x q, ?_⟩;simp only[Pn,m,l];intro b d;obtain⟨p,E,_⟩:=F b (H x q b d);refine⟨?_,E⟩;rcases p with p | p
    ·obtain⟨i,o,s,P⟩:=Dj b p;exact ((r.fresh _ _ s).2 b P).1
    ·exact .inl (by omega)
  | some x=>
   simp only[m,VR] at a;subst a;obtain⟨q,rfl⟩:=UG m;refine .inr ⟨?_, ?_, ?_⟩
   ·simp only[Pn,m];refine rK.J7 (aN x q) (by simp[Env.cv,m]) (by simp[Env.cv,m]) ?_ ((nT u).1 x q)
    rintro b d Gr g
    have T:b∈x.bT:=mi _ d;have HV:=G x q b T;have W:=(Z b HV).1;rcases g with ⟨j,c,a,t⟩ | eM
    case inr=>exact JM b W eM
    unfold ub at a;cases K:ik N j with
    | some y=>
     simp only[K,VR] at a;subst a;rw[kz j y K] at t;have n:=(UG K).1;by_cases A_:y=x
     ·subst A_;exact Gr t
     ·exact (nT u).2 y n x q A_ b (y.al b t) T
    | none=>
     simp only[K] at a;cases l:Yp U j with
     | some y=>
      simp only[l,VR] at a;subst a;have p:=Vm.al (FJ j y K l) b t;exact (F b (H y (P9 l).1 b p)).2.2 HV
     | none=>
      simp only[l] at a;obtain⟨a,R⟩:=FC j c l a;rw[mA j c K l] at t;have kp:=Vm.al (r.aC j c a) b t;rcases W with W | W
      ·exact M j c a (Q j l) R b kp W
      ·have:=((r.fresh j c a).2 b kp).2;omega
   ·simp only[Pn,m];exact (nT u).1 x q
   ·simp only[Pn,m];intro b d;have:=Z b (G x q b d);refine⟨?_,this.2⟩;rcases this.1 with p | p
    ·obtain⟨i,o,s,P⟩:=Dj b p;exact ((r.fresh _ _ s).2 b P).1
    ·exact .inl (by omega)
 ·
  have C:∀j c,ub N U D h j=some c→∀b∈Pn N U φ j,
    (∃x,ik N j=some x∧b∈x.bT)∨(∃x,ik N j=none∧Yp U j=some x∧b∈x.bT)∨(ik N j=none∧Yp U j=none∧(h j=some c∧j ∉ D)∧b∈φ j):=by
   intro j c a b d;unfold ub at a;unfold Pn at d;cases m:ik N j with
   | some x=>simp only[m] at d;exact .inl ⟨x,rfl,d⟩
   | none=>
    simp only[m] at a d;cases l:Yp U j with
    | some x=>simp only[l] at d;exact .inr (.inl ⟨x,rfl,rfl,d⟩)
    | none=>simp only[l] at a d;exact .inr (.inr ⟨rfl,rfl,FC j c l a,d⟩)
  have F7:∀b,b∈N.flatMap rK.bT→∀j c,Yp U j=none→h j=some c→j ∉ D→b∈φ j→False:=by
   intro b HV j c B8 a R t;rcases (Z b HV).1 with p | p
   ·exact M j c a (Q j B8) R b t p
   ·have:=((r.fresh j c a).2 b t).2;omega
  intro i j X c O I a b d aB;rcases C i X I b d with ⟨x,g,z⟩ | ⟨x,_,g,z⟩ | ⟨_,Mn,⟨g,Ml⟩,z⟩<;>rcases C j c a b aB with ⟨y,n,A⟩ | ⟨y,_,n,A⟩ | ⟨_,Mp,⟨n,Mo⟩,A⟩
  ·refine (nT u).2 x (UG g).1 y (UG n).1 ?_ b z A
   rintro rfl
   exact O ((UG g).2.symm.trans (UG n).2)
  ·exact (F b (H y (P9 n).1 b A)).2.2 (G x (UG g).1 b z)
  ·exact F7 b (G x (UG g).1 b z) j c Mp n Mo A
  ·exact (F b (H x (P9 g).1 b z)).2.2 (G y (UG n).1 b A)
  ·refine (nyy L5).2 x (P9 g).1 y (P9 n).1 ?_ b z A;rw[(P9 g).2,(P9 n).2];exact O
  ·rcases (F b (H x (P9 g).1 b z)).1 with p | p
   ·exact M j c n (Q j Mp) Mo b A p
   ·have:=((r.fresh j c n).2 b A).2;omega
  ·exact F7 b (G y (UG n).1 b A) i X Mn g Ml z
  ·rcases (F b (H y (P9 n).1 b A)).1 with p | p
   ·exact M i X g (Q i Mn) Ml b z p
   ·have:=((r.fresh i X g).2 b z).2;omega
  ·exact r.sep i j X c O g n b z A
theorem je.length{w:aaE} :∀(o:List DB) (a:List DC) (b:List aaG) (φ f g:List Nat),je w o a b φ f g→a.length=o.length
 | [],a,b,φ,f,g,h=>by simp only[je] at h;simp[h.1]
 | .eN c::cs,a,b,φ,f,g,h=>by simp only[je] at h;obtain⟨d,i,v,j,q,r,rfl,_,_,k,_⟩:=h;simp[je.length cs i j _ _ _ k]
 | .own t e::cs,a,b,φ,f,g,h=>by simp only[je] at h;obtain⟨l,i,v,j,m,s,n,p,rfl,_,_,_,k,_⟩:=h;simp[je.length cs i j _ _ _ k]
 | .deep t e ts::cs,a,b,φ,f,g,h=>by simp only[je] at h;obtain⟨l,i,v,j,m,u,n,p,rfl,_,_,_,k,_⟩:=h;simp[je.length cs i j _ _ _ k]
theorem Wv{w':aaE}{d:Nat} :∀(F:List DB) (k:Nat) (n:List DC) (u:List aaG) (φ j o:List Nat),je w' F n u φ j o→
  ∃N:List rK,(dH d k F n).2=Rd N∧N.map (·.id)=(FA k (dc F)).map (G8 d)∧(∀x∈N,x.ok w')∧N.flatMap rK.bT=φ∧N.flatMap rK.ar=o∧
   ∀(l:Nat→Prop) (a:Env),(∀x∈N,a.val x.id=x.v)→(∀b∈j,¬l b)→qV w' l a (dH d k F n).1 u
 | [],k,n,u,φ,j,o,h=>by simp only[je] at h;obtain⟨rfl,rfl,rfl,rfl,rfl⟩:=h;exact⟨[],rfl,rfl,by simp,rfl,rfl,by simp[dH,qV]⟩
 | .eN c::cs,k,n,u,φ,j,o,h=>by simp only[je] at h;obtain⟨x,y,v,m,O,K,rfl,rfl,p,z,rfl⟩:=h;obtain⟨N,q,A,B,C,D,E⟩:=Wv cs k y m φ K o z;refine⟨N,by simpa [dH] using q,by simpa [dc] using A,B,C,D,λl a r w=>?_⟩;simp only[dH,Fe,EL,qV];exact⟨v,m,rfl,mu p (λb G=>w b (U8 _ G)),E l a r (λb G=>w b (mi _ G))⟩
 | .own t e::cs,k,n,u,φ,j,o,h=>by
  simp only[je] at h;obtain⟨f,y,v,m,g,L,s,H,rfl,rfl,p,z,I,rfl,rfl⟩:=h;obtain⟨N,q,A,B,C,D,E⟩:=Wv cs (k+1) y m s j H I;refine⟨⟨G8 d k,t,e,f,v,L,none⟩::N, ?_, ?_, ?_, ?_, ?_,λl a r w=>?_⟩
  ·simp[dH,Rd,rK.obj,DC.cG] at q ⊢;exact q
  ·simp only[Et,dc,IN,A]
  ·intro x i;rcases Ep.1 i with rfl | i
   ·exact⟨g,p,z⟩
   ·exact B x i
  ·simp[D3,C,rK.bT]
  ·simp[D3,D,rK.ar]
  ·simp only[dH,Fe,EL,qV];refine⟨v,m,rfl, ?_,E l a (λx i=>r x (Ew _ i)) w⟩;simp only[dg];exact⟨(r _ (EI ..)).symm,p.one⟩
 | .deep t e ts::cs,k,n,u,φ,j,o,h=>by
  simp only[je] at h;obtain⟨f,y,v,m,g,M,s,H,rfl,rfl,p,z,I,rfl,rfl⟩:=h;obtain⟨N,q,A,B,C,D,E⟩:=Wv cs (k+1) y m s j H I;refine⟨⟨G8 d k,t,e,f,v,M,some ts⟩::N, ?_, ?_, ?_, ?_, ?_,λl a r w=>?_⟩
  ·simp[dH,Rd,rK.obj,DC.cG] at q ⊢;exact q
  ·simp only[Et,dc,IN,A]
  ·intro x i;rcases Ep.1 i with rfl | i
   ·exact⟨g,p,z⟩
   ·exact B x i
  ·simp[D3,C,rK.bT]
  ·simp[D3,D,rK.ar,rK.bT]
  ·simp only[dH,Fe,EL,qV];refine⟨v,m,rfl, ?_,E l a (λx i=>r x (Ew _ i)) w⟩;simp only[dg];exact⟨(r _ (EI ..)).symm,p.one⟩
theorem fA{w':aaE}{d:Nat} :∀(j:List VC) (k:Nat) (e:List DC) (m:List aaG) (φ n o:List Nat),f_ w' j e m φ n o→
  ∃N:List rK,(fo d k j e).2=Rd N∧N.map (·.id)=(FA k (dC j)).map (G8 d)∧(∀x∈N,x.ok w')∧N.flatMap rK.bT=φ∧N.flatMap rK.ar=o∧
   ∀(f:Nat→Prop) (a:Env),(∀x∈N,a.val x.id=x.v)→(∀b∈n,¬f b)→qV w' f a (fo d k j e).1 m
 | [],k,e,m,φ,n,o,h=>by simp only[f_] at h;obtain⟨rfl,rfl,rfl,rfl,rfl⟩:=h;exact⟨[],rfl,rfl,by simp,rfl,rfl,by simp[fo,qV]⟩
 | r::rs,k,e,m,φ,n,o,h=>by
  simp only[f_] at h;obtain⟨g,p,v,w,z,H,I,K,L,M,O,rfl,rfl,s,P,A,Q,rfl,rfl,rfl⟩:=h;have B:=je.length _ _ _ _ _ _ A;obtain⟨R,S,T,U,W,X,Z⟩:=Wv (d:=d) r.cells k g z H K M A;obtain⟨N2,b1,b2,b3,b4,b5,b6⟩:=fA (d:=d) rs (k+dc r.cells) p w I L O Q;have C:(g++p).take r.cells.length=g:=by rw[←B];simp
  have D:(g++p).drop r.cells.length=p:=by rw[←B];simp
  refine⟨R++N2, ?_, ?_, ?_,by simp[W,b4],by simp[X,b5],λf a E F=>?_⟩
  ·simp only[fo,C,D,S,b1,Rd,Fu]
  ·rw[Fu,T,b2,←Fu,IQ];rfl
  ·intro x c;rcases DO.1 c with c | c
   ·exact U x c
   ·exact b3 x c
  ·have i:=Z f a (λx c=>E x (U8 _ c)) (λb t=>F b (U8 _ t));have s2:=b6 f a (λx c=>E x (mi _ c)) (λb t=>F b (mi _ t));simp only[fo,C,D,qV];refine⟨v,w,rfl, ?_,s2⟩;cases G:r.agg with
   | true=>
    rw[G,HI] at s;subst s;simp only[HI,dg];exact⟨z,rfl,i,P⟩
   | false=>
    rw[G,rl] at s;subst s;simp only[rl];generalize (dH d k r.cells g).1=q at i;cases q with
    | nil=>simp[qV] at i
    | cons y l=>
     simp only[qV] at i;obtain⟨v',l',u,e2,_⟩:=i;injection u with u;subst u;simpa using e2
theorem CN.lt{w:aaE} :∀(d:List de) (e:List DC) (f:List aaG) (c:List Nat),CN w d e f c→∀b∈c,b<w.heap.size
 | [],e,f,c,h=>by simp only[CN] at h;simp[h.2.2]
 | k::d,e,f,c,h=>by
  simp only[CN] at h;obtain⟨n,g,v,i,o,j,rfl,rfl,⟨p,_,_,l,_⟩,m,rfl⟩:=h;intro b a;rcases DO.1 a with a | a
  ·exact bj.lt _ _ _ _ l b a
  ·exact CN.lt d g i j m b a
theorem je.kF{w:aaE} :∀(q:List DB) (f:List DC) (g:List aaG) (φ b i:List Nat),Cd q=false→je w q f g φ b i→b=[]
 | [],f,g,φ,b,i,_,h=>by simp only[je] at h;exact h.2.2.2.1
 | .eN c::cs,f,g,φ,b,i,hn,h=>by
  simp only[je] at h;obtain⟨d,j,v,l,r,x,rfl,_,a,s,rfl⟩:=h;have:r=[]∧Cd cs=false:=by
   cases c with
   | int k=>simp only[kL] at a;obtain⟨n,_,_,_,e⟩:=a;exact⟨e,by simpa [Cd] using hn⟩
   | bool=>simp only[kL] at a;obtain⟨n,_,_,e⟩:=a;exact⟨e,by simpa [Cd] using hn⟩
   | str=>simp only[kL] at a;obtain⟨n,_,_,_,e⟩:=a;exact⟨e,by simpa [Cd] using hn⟩
   | sl e=>simp[Cd] at hn
  rw[this.1,je.kF cs j l _ _ _ this.2 s];rfl
 | .own t e::cs,f,g,φ,b,i,hn,h=>by simp only[je] at h;obtain⟨m,j,v,l,o,y,p,u,rfl,_,_,_,a,_⟩:=h;exact je.kF cs j l _ _ _ (by simpa [Cd] using hn) a
 | .deep t e ts::cs,f,g,φ,b,i,hn,h=>by simp only[je] at h;obtain⟨m,j,v,l,o,z,p,u,rfl,_,_,_,a,_⟩:=h;exact je.kF cs j l _ _ _ (by simpa [Cd] using hn) a
theorem f_.kF{w:aaE} :∀(e:List VC) (b:List DC) (c:List aaG) (φ a d:List Nat),(e.any λr=>Cd r.cells)=false→f_ w e b c φ a d→a=[]
 | [],b,c,φ,a,d,_,h=>by simp only[f_] at h;exact h.2.2.2.1
 | r::rs,b,c,φ,a,d,hn,h=>by simp only[f_] at h;obtain⟨k,f,v,g,l,m,n,o,p,q,s,rfl,rfl,_,_,i,j,_,rfl,_⟩:=h;simp only[List.any_cons,Bool.or_eq_false_iff] at hn;rw[je.kF _ _ _ _ _ _ hn.1 i,f_.kF rs f g _ _ _ hn.2 j];rfl
theorem jR(c:Core w0 S st.get st.obj β φ a.tmps w):∀(b:List aaH) (AK:List bg),(xm b).val st.get st.obj=some AK→qV w (uh st.obj β) β AK (b.map a.eval)
 | [],AK,h=>by simp[xm] at h;subst h;simp[qV]
 | x::b,AK,h=>by simp only[xm,M.ag,sC,M.ab,VR] at h;obtain⟨s,d,r,e,rfl⟩:=h;simp only[Et,qV];exact⟨_,_,rfl,c.ev d,jR c b r e⟩
theorem zs{c:Call}{g:Nat}{fn:Func}(b:o.op= .call c)(d:c.callee= .value (.func g))(e:P.funcs[g]? =some fn)(j:fn.body.isSome=true)(f:(fn.name== "runtime.NumGoroutine")=false):
  (execOp a.eval o).run P w= .ok (.enter g (c.args.map a.eval)) w:=by
 have i:fn.body.isNone=false:=by cases h:fn.body<;>simp_all
 simp only[execOp,b,resolve,d,Act.eval,Deferred.ofValue,Sem.run_bind,Sem.run_pure,Result.andThen_ok,invoke,callFunc,run_program,e,f,i,JA,if_false];simp
theorem npb(eO:Wq P Γ){s:Sum}{g:Nat}(hs:OT Γ g=some s)(d6:s.Hd=false)(Dn:s.pt=none)(Kr:s.ms=[])(C:Rel w0 S st a w){d:Nat}(aM:o.dst=some d)(hd:IW st.n d)(H:e.ow≠[]→T7 st d){c:Call}(ho:o.op= .call c)(hg:c.callee= .value (.func g)){l:List bg}
  (hl:(xm c.args.toList).val st.get st.obj=some l) (t:(gz Γ (some d) g l).val st.get st.obj=some e) (aN:e.ok=true):Good P w0 S st o e a w:=by
 unfold gz at t;rw[hs] at t;simp only[d6,rl,Dn,Kr] at t;cases T:Nat.blt (dC s.rs) 64
 ·simp[T] at t
 simp only[T,HI,M.ag,sC] at t;obtain⟨r,hr,t⟩:=t;cases JQ:(!(shares s) || gf r.2)
 ·simp[JQ] at t
 simp only[JQ,HI,M.ab,VR] at t;subst t;have T:dC s.rs<64:=Il T;have hH:gk P g s:=by have D:=eO g s hs;unfold xC at D;rw[d6,rl,Dn] at D;simp only[Kr] at D;exact D
 obtain⟨⟨fn,hf,u,hn⟩,mW⟩:=hH;obtain⟨β,φ,K⟩:=C.core;obtain⟨fp,cr,iw,jM⟩:=wh K s.ps l _ r (jR K _ l hl) hr;have L9:=CN.lt _ _ _ _ cr;intro Q;unfold Oper.wp;rw[zs ho hg hf u hn,Oper.upon_enter];have Cv:c.args.map a.eval=(c.args.toList.map a.eval).toArray:=by rw[←JE,IJ]
 rw[Cv];refine (mW w r.1 _ fp cr aN).mono ?_
 rintro _ w' ⟨E,KC,U,tp,rfl,I,BH,hnd,Au,j9⟩
 obtain⟨N,n1,n2,n3,n4,n5,n6⟩:=fA (d:=d) s.rs 0 _ E KC U tp BH;let M':Wk:=bif shares s then r.2 else [];have L:VQ st.obj M'∧gf M'=true:=by
  cases p:shares s with
  | true=>
   have:M'=r.2:=by simp[M',p]
   rw[this];exact⟨iw,by simpa [p] using JQ⟩
  | false=>
   have:M'=[]:=by simp[M',p]
   rw[this];exact⟨by simp[VQ],rfl⟩
 have O:(bif shares s then qv r.2 else [])=qv M':=by cases p:shares s<;>simp[M',p,qv]
 have W:=K.gg M' L.1 L.2;have Di:∀x∈N,x.id / 64=d∧x.id∈N.map (·.id):=by intro x f;have hm:x.id∈N.map (·.id):=Hp f;refine⟨?_,hm⟩;rw[n2] at hm;obtain⟨j,z,gI⟩:=Hn.1 hm;rw[←gI];have:=JN.1 z;exact DV d j (by omega)
 have AG:(N.map (·.id)).Nodup:=by rw[n2];refine List.Pairwise.map _ ?_ (JP ..);intro x y A_ e;unfold G8 at e;omega
 have hle:=C.kept.size;have hw:∀b,b<w.heap.size→w'.heap[b]? =w.heap[b]? :=λb u=>I.block b u (λh=>h);have KT:=W.GD (N:=N) I.size hw hle ?_ n3 AG (by rw[n4];exact hnd) (by rw[n4];exact Au)
 ·have R:∀x∈N,(β.gv N).val x.id=x.v:=by intro x f;simp[Env.gv,x9 f AG]
  have Cm:∀b∈U,¬uh (λj=>match ik N j with | some x=>some x.obj | none=>xO (qv M') st.obj j) (β.gv N) b:=by
   rintro b u (⟨j,oj,z,bB⟩ | eM)
   case inr=>
    have X:=j9 b u;have L7:=(W.gV b eM).1;rcases X.1 with Dg | AB
    ·cases p:shares s with
     | false=>
      have:U=[]:=f_.kF _ _ _ _ _ _ (by simpa [shares] using p) BH;rw[this] at u;simp at u
     | true=>
      have Hj:M'=r.2:=by simp[M',p]
      rcases jM b Dg with F | ⟨x,f,lh⟩
      ·exact F (.inr eM)
      ·exact cI K L.1 (by rw[Hj];exact f) lh (.inr eM)
    ·omega
   have X:=j9 b u;cases G:ik N j with
   | some x=>
    simp only[G,VR] at z;subst z;have f:=(UG G).1;refine X.2 ?_;rw[←n5];refine E1.2 ⟨x,f, ?_⟩;obtain⟨_,rfl⟩:=UG G;rwa[x.js (by simp[Env.gv,G]) (by simp[Env.gv,G])] at bB
   | none=>
    simp only[G] at z;have kp:b∈ar β j oj:=by
     cases oj<;>simp only[ar,Env.gv,G] at bB ⊢ <;>exact bB
    have KR:=((W.fresh j oj z).2 b (al (W.aC j oj z) b kp)).2;rcases X.1 with Dg | AB
    ·cases p:shares s with
     | false=>
      have:U=[]:=f_.kF _ _ _ _ _ _ (by simpa [shares] using p) BH;rw[this] at u;simp at u
     | true=>
      have Hj:M'=r.2:=by simp[M',p]
      rcases jM b Dg with F | ⟨x,f,lh⟩
      ·exact F (Ai (.inl ⟨j,oj,z,kp⟩))
      ·exact cI K L.1 (by rw[Hj];exact f) lh (.inl ⟨j,oj,z,kp⟩)
    ·omega
  have m:=n6 _ (β.gv N) R Cm;have Co:Kept S w0 w':=⟨I.os.trans C.kept.os,I.tape.trans C.kept.tape,I.output.trans C.kept.output,by have:=I.size;omega,λk A B=>(hw k (by omega)).trans (C.kept.block k A B)⟩;refine⟨pack E,rfl,zf C (λd' Z=>by rw[aM] at Z;injection Z with Z;exact Z ▸ hd) Co ⟨β.gv N,λj=>match ik N j with | some x=>x.bT | none=>TE φ M' j, ?_, ?_⟩⟩
  ·have:xO ((fo d 0 s.rs (s.fn r.1).2).2++(bif shares s then qv r.2 else [])) (Zs none st.obj)=λj=>match ik N j with | some x=>some x.obj | none=>xO (qv M') st.obj j:=by funext j;rw[n1,O,jP];rfl
   show Core w0 S st.get (xO ((fo d 0 s.rs (s.fn r.1).2).2++(bif shares s then qv r.2 else [])) (Zs none st.obj)) _ _ _ _;rw[this];exact KT
  ·have:xO ((fo d 0 s.rs (s.fn r.1).2).2++(bif shares s then qv r.2 else [])) (Zs none st.obj)=λj=>match ik N j with | some x=>some x.obj | none=>xO (qv M') st.obj j:=by funext j;rw[n1,O,jP];rfl
   show dg w' (uh (xO ((fo d 0 s.rs (s.fn r.1).2).2++(bif shares s then qv r.2 else [])) (Zs none st.obj)) (β.gv N)) (β.gv N) (OJ (fo d 0 s.rs (s.fn r.1).2).1) (pack E);rw[this];generalize (fo d 0 s.rs (s.fn r.1).2).1=q at m
   match q,E,m with
   | [],E,m=>
    simp only[qV] at m;subst m;simp only[OJ,pack,dg];exact⟨[],rfl,by simp[qV]⟩
   | [x],E,m=>
    simp only[qV] at m;obtain⟨v,l',rfl,A,rfl⟩:=m;exact A
   | x::y::q,E,m=>
    have FN:=m;simp only[qV] at m;obtain⟨v,l',rfl,A,v2,l2,rfl,B,F⟩:=m;simp only[OJ,pack];unfold dg;exact⟨v::v2::l2,rfl,FN⟩
 ·intro x f;have A:=(Di x f).1;have H:=H (by
   show (fo d 0 s.rs (s.fn r.1).2).2++_≠[];rw[n1];intro D;rw[IS] at D;have:N=[]:=by simpa [Rd] using D.1
   rw[this] at f;simp at f)
  refine⟨?_,λi hi=>H.slot i _ hi A,λk ok Co hi=>?_⟩
  ·cases hn:xO (qv M') st.obj x.id with
   | none=>rfl
   | some ob=>
    rcases Q_ hn with B | ⟨e',r',rfl,y,hy,B⟩
    ·exact absurd A (H.obj _ ob B).1
    ·obtain⟨_,F,_⟩:=L.1 y hy;rw[B] at F;exact absurd A (H.obj _ _ F).1
  ·rcases Q_ Co with B | ⟨e',r',rfl,_⟩
   ·exact (H.obj k ok B).2 _ hi A
   ·simp[tg] at hi
def Zt(β:Env):Zq→List Nat
 | .box id _ _=>[β.cY id]
 | .row id _ _ _=>(β.val id).ownBlock.toList
 | .deep id _ _ _=>(β.val id).ownBlock.toList++β.nb id
 | .gone id dp=>(β.val id).ownBlock.toList++(bif dp then β.nb id else [])
 | .cZ id _ _ _=>[β.cY id]
 | .mB=>[]
def ngV(b:Bool)(o:yP):Prop:=(b=false∧∃t e a u,zP e=true∧o= .row t e a false u)∨(b=true∧∃t e c a,o= .deep t e c a none)
theorem ngV.ar{b:Bool}{o:yP}(h:ngV b o)(β:Env)(id:Nat):ar β id o=Zt β (.gone id b):=by rcases h with ⟨rfl,t,e,a,u,_,rfl⟩ | ⟨rfl,t,e,c,a,rfl⟩<;>simp[Vm.ar,Zt]
def kn(h:Nat→Option yP):List Zq→Prop
 | []=>True
 | .box id t cs::l=>(∃a,h id=some (.box t a))∧kn h l
 | .row id t e u::l=>(zP e=true∧∃b,h id=some (.row t e b false u))∧kn h l
 | .deep id t e ts::l=>(∃b,h id=some (.deep t e ts b none))∧kn h l
 | .gone id dp::l=>(∃o,h id=some o∧ngV dp o)∧kn h l
 | .cZ id t cs ts::l=>(∃a,h id=some (.box t a))∧kn h l
 | .mB::l=>kn h l
theorem kn.append{U a:List Zq}(b:kn h U)(d:kn h a):kn h (U++a):=by
 induction U with
 | nil=>exact d
 | cons x l c=>
  cases x<;>simp only[EE,kn] at b ⊢
  ·exact⟨b.1,c b.2⟩
  ·exact⟨b.1,c b.2⟩
  ·exact⟨b.1,c b.2⟩
  ·exact⟨b.1,c b.2⟩
  ·exact⟨b.1,c b.2⟩
  ·exact c b
theorem Ds:∀ {U:List Zq},VA U=true→kn h U→(rB U).flatMap (Zt β)=U.flatMap (Zt β)∧kn h (rB U)
 | [],_,_=>⟨rfl,trivial⟩
 | .row id t e u::l,hr,a=>by
  simp only[VA] at hr;simp only[kn] at a;obtain⟨⟨g,b,f⟩,a⟩:=a;obtain⟨c,d⟩:=Ds hr a;refine⟨?_, ?_⟩
  ·simp only[rB,D3,c,Zt,rl,GU]
  ·simp only[rB,kn];exact⟨⟨_,f,.inl ⟨rfl,t,e,b,u,g,rfl⟩⟩,d⟩
 | .deep id t e ts::l,hr,a=>by
  simp only[VA] at hr;simp only[kn] at a;obtain⟨⟨b,f⟩,a⟩:=a;obtain⟨c,d⟩:=Ds hr a;refine⟨?_, ?_⟩
  ·simp only[rB,D3,c,Zt,HI]
  ·simp only[rB,kn];exact⟨⟨_,f,.inr ⟨rfl,t,e,ts,b,rfl⟩⟩,d⟩
 | .box _ _ _::l,hr,_=>by simp[VA] at hr
 | .gone _ _::l,hr,_=>by simp[VA] at hr
 | .cZ _ _ _ _::l,hr,_=>by simp[VA] at hr
 | .mB::l,hr,a=>by simp only[VA] at hr;simp only[kn] at a;obtain⟨c,d⟩:=Ds hr a;exact⟨by simp only[rB,D3,c,Zt,IF],d⟩
theorem mr(m:Core w0 S f h β φ tm w):∀(l:List CT) (e:List aaI) (AK:List bg) (y:List aaG) (q:List DC×List Zq),qV w (uh h β) β AK y→(zM l e AK).val f h=some q→
  ft w l e q.1 y (q.2.flatMap (Zt β))∧kn h q.2
 | [],e,AK,y,q,hs,hq=>by
  cases e with
  | nil=>
   cases AK with
   | nil=>
    simp only[zM,M.ab,VR] at hq;subst hq;simp only[qV] at hs;exact⟨⟨rfl,rfl,hs,rfl⟩,trivial⟩
   | cons s AK=>simp[zM] at hq
  | cons t e=>simp[zM] at hq
 | .int k::l,e,AK,y,q,hs,hq=>by
  cases AK with
  | nil=>simp[zM] at hq
  | cons s AK=>
   simp only[qV] at hs;obtain⟨v,i,rfl,j,z⟩:=hs;simp only[zM,M.ag,sC,M.ab,VR] at hq;obtain⟨C,d,g,A,rfl⟩:=hq;obtain⟨F,o,_⟩:=w7 m j d;obtain⟨p,x⟩:=mr m l e AK i g z A;refine⟨?_,x⟩;simp only[ft];refine⟨C.1,g.1,v,i,rfl,rfl, ?_,p⟩;simp only[kL] at o ⊢;obtain⟨n,a,b,c,_⟩:=o;exact⟨n,a,b,c,trivial⟩
 | .bool::l,e,AK,y,q,hs,hq=>by
  cases AK with
  | nil=>simp[zM] at hq
  | cons s AK=>
   simp only[qV] at hs;obtain⟨v,i,rfl,j,z⟩:=hs;simp only[zM,M.ag,sC,M.ab,VR] at hq;obtain⟨C,d,g,A,rfl⟩:=hq;obtain⟨F,o,_⟩:=w7 m j d;obtain⟨p,x⟩:=mr m l e AK i g z A;refine⟨?_,x⟩;simp only[ft];refine⟨C.1,g.1,v,i,rfl,rfl, ?_,p⟩;simp only[kL] at o ⊢;obtain⟨n,a,b,_⟩:=o;exact⟨n,a,b,trivial⟩
 | .str::l,e,AK,y,q,hs,hq=>by
  cases AK with
  | nil=>simp[zM] at hq
  | cons s AK=>
   simp only[qV] at hs;obtain⟨v,i,rfl,j,z⟩:=hs;simp only[zM,M.ag,sC,M.ab,VR] at hq;obtain⟨C,d,g,A,rfl⟩:=hq;obtain⟨F,o,_⟩:=w7 m j d;obtain⟨p,x⟩:=mr m l e AK i g z A;refine⟨?_,x⟩;simp only[ft];refine⟨C.1,g.1,v,i,rfl,rfl, ?_,p⟩;simp only[kL] at o ⊢;obtain⟨n,a,b,c,_⟩:=o;exact⟨n,a,b,c,trivial⟩
 | .sl el::l,e,AK,y,q,hs,hq=>by
  cases e with
  | nil=>simp[zM] at hq
  | cons t e=>
   cases AK with
   | nil=>simp[zM] at hq
   | cons s AK=>
    simp only[qV] at hs;obtain⟨v,i,rfl,j,z⟩:=hs;simp only[zM,M.ag,sC,M.ab,VR] at hq;obtain⟨C,d,g,A,rfl⟩:=hq;obtain⟨p,x⟩:=mr m l e AK i g z A;cases s with
    | nil=>
     simp only at d;cases E:zP el
     ·simp[E] at d
     ·simp only[E,HI,M.ab,VR] at d;subst d;simp only[dg] at j;subst j;refine⟨?_,x⟩;simp only[ft];exact⟨t,e,[],g.1,_,i,[],[],g.2.flatMap (Zt β),rfl,rfl,rfl,E,⟨by simp,.inl ⟨rfl,rfl,rfl⟩⟩,⟨rfl,by simp⟩,p,by simp[Zt,Fq]⟩
    | own id=>
     simp only[M.aY,sC] at d;obtain⟨H,G,d⟩:=d;cases H with
     | row t' e' r fz u=>
      cases fz with
      | true=>simp at d
      | false=>
       simp only at d;cases B:ER t' t && pc e' el && zP el
       ·simp[B] at d
       ·simp only[B,HI,M.ab,VR] at d;subst d;simp only[gF] at B;have I:=cL B.1.1;have K:=xp _ _ B.1.2;subst I;subst K;simp only[dg] at j;obtain⟨D,L,N,O,_,_⟩:=m.aC id _ G;refine⟨?_,⟨⟨B.2,r,G⟩,x⟩⟩;simp only[ft];refine⟨t',e,r,g.1,v,i,D,L,g.2.flatMap (Zt β),rfl,rfl,rfl,B.2,by rw[j.1];exact N,O,p, ?_⟩;simp only[D3,Zt,j.1]
     | box _ _=>simp at d
     | eN _ _=>simp at d
     | deep _ _ _ _ _=>simp at d
    | _=>simp at d
theorem XI.one{t:YY}{e:List CT}{a:List (List DC)}{v:aaG}{c:List Nat}(h:XI w t e a v c):v.oneCell'=true:=by
 cases t with
 | flat t=>
  obtain⟨_,_,_,b,_⟩:=h;exact b.one
 | deep t its=>
  obtain⟨_,_,b,_⟩:=h;exact b.one
theorem fS(y:Core w0 S f h β φ tm w):∀(m:List CT) (e:List YY) (AK:List bg) (C:List aaG) (q:List DC×List Zq),qV w (uh h β) β AK C→(fL m e AK).val f h=some q→
  mE w m e q.1 C (q.2.flatMap (Zt β))∧kn h q.2
 | [],e,AK,C,q,hs,hq=>by
  cases e with
  | nil=>
   cases AK with
   | nil=>
    simp only[fL,M.ab,VR] at hq;subst hq;simp only[qV] at hs;exact⟨⟨rfl,rfl,hs,rfl⟩,trivial⟩
   | cons s AK=>simp[fL] at hq
  | cons t e=>simp[fL] at hq
 | .int k::m,e,AK,C,q,hs,hq=>by
  cases AK with
  | nil=>simp[fL] at hq
  | cons s AK=>
   simp only[qV] at hs;obtain⟨v,j,rfl,i,A⟩:=hs;simp only[fL,M.ag,sC,M.ab,VR] at hq;obtain⟨D,d,g,z,rfl⟩:=hq;obtain⟨N,B,_⟩:=w7 y i d;obtain⟨o,p⟩:=fS y m e AK j g A z;refine⟨?_,p⟩;simp only[mE];refine⟨D.1,g.1,v,j,rfl,rfl, ?_,o⟩;simp only[kL] at B ⊢;obtain⟨n,a,b,c,_⟩:=B;exact⟨n,a,b,c,trivial⟩
 | .bool::m,e,AK,C,q,hs,hq=>by
  cases AK with
  | nil=>simp[fL] at hq
  | cons s AK=>
   simp only[qV] at hs;obtain⟨v,j,rfl,i,A⟩:=hs;simp only[fL,M.ag,sC,M.ab,VR] at hq;obtain⟨D,d,g,z,rfl⟩:=hq;obtain⟨N,B,_⟩:=w7 y i d;obtain⟨o,p⟩:=fS y m e AK j g A z;refine⟨?_,p⟩;simp only[mE];refine⟨D.1,g.1,v,j,rfl,rfl, ?_,o⟩;simp only[kL] at B ⊢;obtain⟨n,a,b,_⟩:=B;exact⟨n,a,b,trivial⟩
 | .str::m,e,AK,C,q,hs,hq=>by
  cases AK with
  | nil=>simp[fL] at hq
  | cons s AK=>
   simp only[qV] at hs;obtain⟨v,j,rfl,i,A⟩:=hs;simp only[fL,M.ag,sC,M.ab,VR] at hq;obtain⟨D,d,g,z,rfl⟩:=hq;obtain⟨N,B,_⟩:=w7 y i d;obtain⟨o,p⟩:=fS y m e AK j g A z;refine⟨?_,p⟩;simp only[mE];refine⟨D.1,g.1,v,j,rfl,rfl, ?_,o⟩;simp only[kL] at B ⊢;obtain⟨n,a,b,c,_⟩:=B;exact⟨n,a,b,c,trivial⟩
 | .sl el::m,e,AK,C,q,hs,hq=>by
  cases e with
  | nil=>simp[fL] at hq
  | cons t e=>
   cases AK with
   | nil=>cases t<;>simp[fL] at hq
   | cons s AK=>
    simp only[qV] at hs;obtain⟨v,j,rfl,i,A⟩:=hs;cases t with
    | flat t=>
     simp only[fL,M.ag,sC,M.ab,VR] at hq;obtain⟨D,d,g,z,rfl⟩:=hq;obtain⟨o,p⟩:=fS y m e AK j g A z;cases s with
     | nil=>
      simp only at d;cases F:zP el
      ·simp[F] at d
      ·simp only[F,HI,M.ab,VR] at d;subst d;simp only[dg] at i;subst i;refine⟨?_,p⟩;simp only[mE];exact⟨.flat t,e,[],g.1,_,j,[],g.2.flatMap (Zt β),rfl,rfl,rfl,⟨F,[],[],⟨by simp,.inl ⟨rfl,rfl,rfl⟩⟩,⟨rfl,by simp⟩,by simp[Fq]⟩,o,by simp[Zt]⟩
     | own id=>
      simp only[M.aY,sC] at d;obtain⟨G,E,d⟩:=d;cases G with
      | row t' e' r fz u=>
       cases fz with
       | true=>simp at d
       | false=>
        simp only at d;cases l:ER t' t && pc e' el && zP el
        ·simp[l] at d
        ·simp only[l,HI,M.ab,VR] at d;subst d;simp only[gF] at l;have H:=cL l.1.1;have I:=xp _ _ l.1.2;subst H;subst I;simp only[dg] at i;obtain⟨x,P,K,L,_,_⟩:=y.aC id _ E;refine⟨?_,⟨⟨l.2,r,E⟩,p⟩⟩;simp only[mE];refine⟨.flat t',e,r,g.1,v,j,v.ownBlock.toList,g.2.flatMap (Zt β),rfl,rfl,rfl,⟨l.2,x,P,by rw[i.1];exact K,L,rfl⟩,o, ?_⟩;simp only[D3,Zt,i.1]
      | box _ _=>simp at d
      | eN _ _=>simp at d
      | deep _ _ _ _ _=>simp at d
     | _=>simp at d
    | deep t its=>
     simp only[fL,M.ag,sC,M.ab,VR] at hq;obtain⟨D,d,g,z,rfl⟩:=hq;obtain⟨o,p⟩:=fS y m e AK j g A z;cases s with
     | nil=>
      simp only[M.ab,VR] at d;subst d;simp only[dg] at i;subst i;refine⟨?_,p⟩;simp only[mE];exact⟨.deep t its,e,[],g.1,_,j,[],g.2.flatMap (Zt β),rfl,rfl,rfl,⟨[],[],⟨by simp,.inl ⟨rfl,rfl,rfl⟩⟩,⟨rfl,by simp⟩,by simp[Fq]⟩,o,by simp[Zt]⟩
     | own id=>
      simp only[M.aY,sC] at d;obtain⟨G,E,d⟩:=d;cases G with
      | deep t' e' d7 r hl=>
       cases hl with
       | some _=>simp at d
       | none=>
        simp only at d;cases l:ER t' t && pc e' el && EN d7 its
        ·simp[l] at d
        ·simp only[l,HI,M.ab,VR] at d;subst d;simp only[gF] at l;have H:=cL l.1.1;have I:=xp _ _ l.1.2;have Q:=xX _ _ l.2;subst H;subst I;subst Q;simp only[dg] at i;obtain⟨x,O,K,L,R,_⟩:=y.aC id _ E;refine⟨?_,⟨⟨r,E⟩,p⟩⟩;simp only[mE];refine⟨.deep t' d7,e,r,g.1,v,j,v.ownBlock.toList++O.flatten,g.2.flatMap (Zt β),rfl,rfl,rfl,⟨x,O,by rw[i.1];exact K,L,rfl⟩,o, ?_⟩;simp only[D3,Zt,i.1,R]
      | box _ _=>simp at d
      | eN _ _=>simp at d
      | row _ _ _ _ _=>simp at d
     | _=>simp at d
theorem ntF(y:Core w0 S f h β φ tm w){k:de}{l:List YY}{s:bg}{v:aaG}{e:List DC×List Zq}(n:dg w (uh h β) β s v)(g:(R1 k l s).val f h=some e):
  (∃i:List aaG,(bif k.agg then v= .agg i.toArray else (i=[v]∧v.oneCell'=true))∧(∀x∈i,x.oneCell'=true)∧mE w k.bF l e.1 i (e.2.flatMap (Zt β)))∧kn h e.2:=by
 unfold R1 at g;cases o:k.agg with
 | true=>
  cases s with
  | agg z=>
   simp only[o] at g;simp only[dg] at n;obtain⟨i,rfl,C,m⟩:=n;obtain⟨a,p⟩:=fS y k.bF l z i e C g;exact⟨⟨i,rfl,m,a⟩,p⟩
  | _=>simp[o] at g
 | false=>
  have D:(fL k.bF l [s]).val f h=some e:=by
   cases s<;>simp only[o] at g<;>first | exact g | (simp at g)
  have E:qV w (uh h β) β [s] [v]:=by simp only[qV];exact⟨v,[],rfl,n,rfl⟩
  obtain⟨a,p⟩:=fS y k.bF l [s] [v] e E D;have m:v.oneCell'=true:=by
   cases A:k.bF with
   | nil=>rw[A] at a;simp only[mE] at a;simp at a
   | cons c z=>
    rw[A] at a;cases c with
    | sl el=>
     simp only[mE] at a;obtain⟨t,F,B,q,r,u,G,H,_,_,b,j,_⟩:=a;injection b with b;subst b;exact j.one
    | int _=>simp only[mE] at a;obtain⟨d,q,r,u,_,b,j,_⟩:=a;injection b with b;subst b;exact j.one
    | bool=>simp only[mE] at a;obtain⟨d,q,r,u,_,b,j,_⟩:=a;injection b with b;subst b;exact j.one
    | str=>simp only[mE] at a;obtain⟨d,q,r,u,_,b,j,_⟩:=a;injection b with b;subst b;exact j.one
  exact⟨⟨[v],⟨rfl,m⟩,by simpa using m,a⟩,p⟩
theorem yv(i:Core w0 S f h β φ tm w):∀(B:List de) (e:List (Option lz)) (AK:List bg) (N:List aaG) (q:List DC×Wk×List Zq),qV w (uh h β) β AK N→(DL B e AK).val f h=some q→
  ∃fp,dJ w B e q.1 N fp (q.2.2.flatMap (Zt β))∧VQ h q.2.1∧kn h q.2.2∧∀b∈fp,(¬uh h β b)∨∃x∈q.2.1,b∈cb h β x.1
 | [],e,AK,N,q,hs,a=>by
  cases e with
  | nil=>
   cases AK with
   | nil=>
    simp only[DL,M.ab,VR] at a;subst a;simp only[qV] at hs;exact⟨[],⟨rfl,rfl,hs,rfl,rfl⟩,by simp[VQ],trivial,by simp⟩
   | cons s AK=>simp[DL] at a
  | cons m e=>simp[DL] at a
 | k::B,e,AK,N,q,hs,a=>by
  cases e with
  | nil=>simp[DL] at a
  | cons m e=>
   cases AK with
   | nil=>cases m with
    | none=>simp[DL] at a
    | some m=>cases m<;>simp[DL] at a
   | cons s AK=>
    simp only[qV] at hs;obtain⟨v,l,rfl,C,H⟩:=hs;cases m with
    | none=>
     simp only[DL,M.ag,sC,M.ab,VR] at a;obtain⟨c,n,d,p,rfl⟩:=a;obtain⟨g,r,u,y,z⟩:=yv i B e AK l d H p;have mh:(yY [k] [s]).val f h=some (c.1++[],c.2.1++[]):=by simp only[yY,M.ag,sC,M.ab,VR];exact⟨c,n,([],[]),rfl,rfl⟩
     have iO:qV w (uh h β) β [s] [v]:=by simp only[qV];exact⟨v,[],rfl,C,rfl⟩
     obtain⟨R,O,T,I⟩:=wh i [k] [s] [v] _ iO mh;simp only[GU] at O T I;obtain⟨d1,d2,v',c9,f1,f2,P,Q,O,⟨rfl,rfl,rfl⟩,rfl⟩:=O;simp only[GU] at P I;simp only[List.cons.injEq,and_true] at Q;subst Q;subst P;refine⟨f1++g,⟨none,e,c.1,d.1,v,l,f1,g,[],d.2.2.flatMap (Zt β),rfl,rfl,rfl,⟨O,rfl⟩,r,rfl,rfl⟩,Ff T u,y, ?_⟩;intro b j;rcases DO.1 j with j | j
     ·rcases I b j with o | ⟨x,F,o⟩
      ·exact .inl o
      ·exact .inr ⟨x,U8 _ F,o⟩
     ·rcases z b j with o | ⟨x,F,o⟩
      ·exact .inl o
      ·exact .inr ⟨x,mi _ F,o⟩
    | some m=>
     cases m with
     | box t=>
      cases s with
      | ptr id off=>
       cases off with
       | succ off=>simp[DL] at a
       | zero=>
        simp only[DL,M.aY,sC] at a;obtain⟨U,K,a⟩:=a;cases U with
        | box t' cells=>
         simp only at a;cases D:ER t' t
         ·simp[D] at a
         ·have W:=cL D;subst W;simp only[D,HI,M.ag,sC] at a;obtain⟨c,n,a⟩:=a;cases X:c.2.1.isEmpty
          ·simp[X] at a
          ·simp only[X,HI,M.ag,sC,M.ab,VR] at a;obtain⟨d,p,rfl⟩:=a;obtain⟨g,r,u,y,z⟩:=yv i B e AK l d H p;obtain⟨A,L,G,Z,_⟩:=i.aC id _ K;obtain⟨R,hr,T,I,_⟩:=eV i k.bF cells A c G n;have hl:=qV.length _ _ G;have ku:=Y8 _ _ _ n;simp only[dg] at C;have Lk:c.2.1=[]:=List.isEmpty_iff.1 X;refine⟨R++g,⟨some (.box t'),e,c.1,d.1,v,l,R,g,[β.cY id],d.2.2.flatMap (Zt β),rfl,rfl,rfl,⟨β.cY id,A,C,L,Z,hr,by omega,rfl⟩,r,rfl,by simp[Zt]⟩,u,⟨⟨cells,K⟩,y⟩, ?_⟩;intro b j;rcases DO.1 j with j | j
           ·rcases I b j with o | ⟨x,F,o⟩
            ·exact .inl o
            ·rw[Lk] at F;simp at F
           ·exact z b j
        | row _ _ _ _ _=>simp at a
        | eN _ _=>simp at a
        | deep _ _ _ _ _=>simp at a
      | _=>simp[DL] at a
     | rows ts=>
      simp only[DL,M.ag,sC,M.ab,VR] at a;obtain⟨c,n,d,p,rfl⟩:=a;obtain⟨g,r,u,y,z⟩:=yv i B e AK l d H p;obtain⟨⟨A,a1,a2,a3⟩,a4⟩:=ntF i C n;refine⟨g,⟨some (.rows ts),e,c.1,d.1,v,l,[],g,c.2.flatMap (Zt β),d.2.2.flatMap (Zt β),rfl,rfl,rfl,⟨A,a1,a2,a3,rfl⟩,r,rfl,by simp⟩,u,a4.append y,z⟩
     | km ts=>
      simp only[DL,M.ag,sC] at a;obtain⟨c,n,a⟩:=a;cases E:VA c.2
      ·simp[E] at a
      simp only[E,HI,M.ag,sC,M.ab,VR] at a;obtain⟨d,p,rfl⟩:=a;obtain⟨g,r,u,y,z⟩:=yv i B e AK l d H p;obtain⟨⟨A,a1,a2,a3⟩,a4⟩:=ntF i C n;obtain⟨L,G⟩:=Ds (β:=β) E a4;refine⟨g,⟨some (.km ts),e,c.1,d.1,v,l,[],g,c.2.flatMap (Zt β),d.2.2.flatMap (Zt β),rfl,rfl,rfl,⟨A,a1,a2,a3,rfl⟩,r,rfl,by rw[Hv,L]⟩,u,G.append y,z⟩
     | cZ t ts=>
      cases s with
      | ptr id off=>
       cases off with
       | succ off=>simp[DL] at a
       | zero=>
        simp only[DL,M.aY,sC] at a;obtain⟨U,K,a⟩:=a;cases U with
        | box t' cells=>
         simp only at a;cases D:ER t' t
         ·simp[D] at a
         ·have W:=cL D;subst W;simp only[D,HI,M.ag,sC] at a;obtain⟨c,n,a⟩:=a;cases E:VA c.2
          ·simp[E] at a
          simp only[E,HI,M.ag,sC,M.ab,VR] at a;obtain⟨d,p,rfl⟩:=a;obtain⟨g,r,u,y,z⟩:=yv i B e AK l d H p;obtain⟨A,L,G,Z,_⟩:=i.aC id _ K;obtain⟨r1,r2⟩:=fS i k.bF ts cells A c G n;obtain⟨P,Q⟩:=Ds (β:=β) E r2;simp only[dg] at C;refine⟨g,⟨some (.cZ t' ts),e,c.1,d.1,v,l,[],g,β.cY id::c.2.flatMap (Zt β),d.2.2.flatMap (Zt β),rfl,rfl,rfl,⟨β.cY id,A,_,C,L,Z,r1,rfl,rfl⟩,r,rfl, ?_⟩,u,⟨⟨cells,K⟩,Q.append y⟩,z⟩;simp only[D3,Hv,P,Zt,EE,IF]
        | row _ _ _ _ _=>simp at a
        | eN _ _=>simp at a
        | deep _ _ _ _ _=>simp at a
      | _=>simp[DL] at a
variable {w w':aaE}
def Wp(d:Nat):Nat→List Zq→List DC→List (Nat×yP)
 | _,[],_=>[]
 | k,.box id t cs::l,ds=>(id,.box t (BT cs ds 0))::Wp d k l (ds.drop cs.length)
 | k,.row id t e u::l,ds=>(id,.row t e (ds.headD default).cG false u)::Wp d k l ds.tail
 | k,.deep id t e ts::l,ds=>(id,.deep t e ts (ds.headD default).cG none)::Wp d k l ds.tail
 | k,.gone _ _::l,ds=>Wp d k l ds
 | k,.cZ id t cs ts::l,ds=>(id,.box t (bU d k cs ts ds).1)::Wp d (k+Zv cs) l (ds.drop cs.length)
 | k,.mB::l,ds=>Wp d k l ds.tail
theorem rY{d:Nat} :∀(k:Nat) (U:List Zq) (a:List DC),RY d k U a=(Wp d k U a).map λx=>(x.1,some x.2)
 | _,[],_=>rfl
 | k,.box id t cs::l,a=>by simp only[RY,Wp,Et,rY k l]
 | k,.row id t e u::l,a=>by simp only[RY,Wp,Et,rY k l]
 | k,.deep id t e ts::l,a=>by simp only[RY,Wp,Et,rY k l]
 | k,.gone id dp::l,a=>by simp only[RY,Wp,rY k l]
 | k,.cZ id t cs ts::l,a=>by simp only[RY,Wp,Et,rY (k+Zv cs) l]
 | k,.mB::l,a=>by simp only[RY,Wp,rY k l]
def D8:List Zq→List Nat
 | []=>[]
 | .box id _ _::l=>id::D8 l
 | .row id _ _ _::l=>id::D8 l
 | .deep id _ _ _::l=>id::D8 l
 | .gone _ _::l=>D8 l
 | .cZ id _ _ _::l=>id::D8 l
 | .mB::l=>D8 l
theorem sj{i:Nat} :∀(U:List Zq),(i∈RI U↔i∈D8 U∨i∈CJ U)
 | []=>by simp[RI,D8,CJ]
 | .box id _ _::l=>by simp only[RI,D8,CJ,Ep,sj l,or_assoc]
 | .row id _ _ _::l=>by simp only[RI,D8,CJ,Ep,sj l,or_assoc]
 | .deep id _ _ _::l=>by simp only[RI,D8,CJ,Ep,sj l,or_assoc]
 | .gone id _::l=>by
  simp only[RI,D8,CJ,Ep,sj l];constructor
  ·rintro (h | h | h)
   ·exact .inr (.inl h)
   ·exact .inl h
   ·exact .inr (.inr h)
  ·rintro (h | h | h)
   ·exact .inr (.inl h)
   ·exact .inl h
   ·exact .inr (.inr h)
 | .cZ id _ _ _::l=>by simp only[RI,D8,CJ,Ep,sj l,or_assoc]
 | .mB::l=>by simp only[RI,D8,CJ,sj l]
theorem Yx{d:Nat} :∀(k:Nat) (U:List Zq) (a:List DC),(Wp d k U a).map (·.1)=D8 U
 | _,[],_=>rfl
 | k,.box id t cs::l,a=>by simp only[Wp,D8,Et,Yx k l]
 | k,.row id t e u::l,a=>by simp only[Wp,D8,Et,Yx k l]
 | k,.deep id t e ts::l,a=>by simp only[Wp,D8,Et,Yx k l]
 | k,.gone id dp::l,a=>by simp only[Wp,D8,Yx k l]
 | k,.cZ id t cs ts::l,a=>by simp only[Wp,D8,Et,Yx (k+Zv cs) l]
 | k,.mB::l,a=>by simp only[Wp,D8,Yx k l]
def wR:List Zq→Nat
 | []=>0
 | .box _ _ cs::l=>cs.length+wR l
 | .row _ _ _ _::l=>1+wR l
 | .deep _ _ _ _::l=>1+wR l
 | .gone _ _::l=>wR l
 | .cZ _ _ cs _::l=>cs.length+wR l
 | .mB::l=>1+wR l
theorem xz:∀(a:List CT) (b d:List DC) (k:Nat),k+a.length≤b.length→BT a (b++d) k=BT a b k
 | [],_,_,_,_=>rfl
 | c::a,b,d,k,h=>by
  simp only[BT];simp only[di] at h;rw[xz a b d (k+1) (by omega)]
  congr 2
  simp only[List.getD_eq_getElem?_getD];rw[Fx (by omega)]
theorem nB9{d:Nat} :∀(k:Nat) (b:List CT) (e:List YY) (a f:List DC),b.length≤a.length→bU d k b e (a++f)=bU d k b e a
 | _,[],_,_,_,_=>rfl
 | k,c::b,e,a,f,hl=>by
  cases a with
  | nil=>simp at hl
  | cons x a=>
   have g:b.length≤a.length:=by simpa using hl
   cases c<;>simp only[EE,bU,Fe,EL]<;>rw[nB9 _ b _ a f g]
theorem gC{d:Nat} :∀(k:Nat) (U a:List Zq) (b c:List DC),wR U=b.length→Wp d k (U++a) (b++c)=Wp d k U b++Wp d (k+kg U) a c∧pe d k (U++a) (b++c)=pe d k U b++pe d (k+kg U) a c
 | k,[],a,b,c,hl=>by have:b=[]:=JT.1 hl.symm;subst this;exact⟨rfl,rfl⟩
 | k,.box id t cs::l,a,b,c,hl=>by simp only[wR] at hl;obtain⟨f,g⟩:=gC (d:=d) k l a (b.drop cs.length) c (by simp;omega);simp only[EE,Wp,pe,kg];rw[xz _ _ _ _ (by omega),IT (by omega),f,g];exact⟨rfl,rfl⟩
 | k,.row id t e u::l,a,b,c,hl=>by
  simp only[wR] at hl;cases b with
  | nil=>simp at hl
  | cons x b=>
   obtain⟨f,g⟩:=gC (d:=d) k l a b c (by simp at hl;omega);simp only[EE,Wp,pe,kg,Fe,EL,f,g,and_self]
 | k,.deep id t e ts::l,a,b,c,hl=>by
  simp only[wR] at hl;cases b with
  | nil=>simp at hl
  | cons x b=>
   obtain⟨f,g⟩:=gC (d:=d) k l a b c (by simp at hl;omega);simp only[EE,Wp,pe,kg,Fe,EL,f,g,and_self]
 | k,.gone id dp::l,a,b,c,hl=>by simp only[wR] at hl;obtain⟨f,g⟩:=gC (d:=d) k l a b c hl;simp only[EE,Wp,pe,kg,f,g,and_self]
 | k,.cZ id t cs ts::l,a,b,c,hl=>by simp only[wR] at hl;obtain⟨f,g⟩:=gC (d:=d) (k+Zv cs) l a (b.drop cs.length) c (by simp;omega);simp only[EE,Wp,pe,kg];rw[nB9 _ _ _ _ _ (by omega),IT (by omega),f,g,←Hc,FH];exact⟨rfl,rfl⟩
 | k,.mB::l,a,b,c,hl=>by
  simp only[wR] at hl;cases b with
  | nil=>simp at hl
  | cons x b=>
   obtain⟨f,g⟩:=gC (d:=d) k l a b c (by simp at hl;omega);simp only[EE,Wp,pe,kg,EL,f,g,and_self]
theorem IV:∀(a:List CT) (r:List DC) (g:Nat→Option aaG) (f:List Nat),zP a=true→bj w a r g f→f=[]
 | [],r,g,f,_,h=>by simp only[bj] at h;exact h.2
 | c::a,r,g,f,hf,h=>by
  simp only[bj] at h;obtain⟨d,i,v,m,j,rfl,_,b,l,rfl⟩:=h;cases c with
  | sl e=>simp[zP] at hf
  | int k=>
   simp only[kL] at b;obtain⟨_,_,_,_,rfl⟩:=b;rw[IV a i _ j (by simpa [zP] using hf) l];rfl
  | bool=>
   simp only[kL] at b;obtain⟨_,_,_,rfl⟩:=b;rw[IV a i _ j (by simpa [zP] using hf) l];rfl
  | str=>
   simp only[kL] at b;obtain⟨_,_,_,_,rfl⟩:=b;rw[IV a i _ j (by simpa [zP] using hf) l];rfl
theorem SF{e:List CT}{a:List (List DC)}{b:List aaG}{c:List (List Nat)}(d:zP e=true)(h:RN w e a b c):c.flatten=[]:=by
 rw[Jt];intro l f;obtain⟨i,g,rfl⟩:=Ju f;have j:i<a.length:=by have:=h.1;omega
 exact IV e _ _ _ d (h.2 i a[i] c[i] (by simp) (by simp))
theorem Ce{d:Nat} :∀(k:Nat) (c:List CT) (f:List YY) (m:List DC) (q:List aaG) (j:List Nat),mE w' c f m q j→
  ∃N:List rK,(bU d k c f m).2=Rd N∧N.map (·.id)=(FA k (Zv c)).map (G8 d)∧(∀x∈N,x.ok w')∧N.flatMap rK.bT=j∧m.length=c.length∧
   ∀(l:Nat→Prop) (a:Env),(∀x∈N,a.val x.id=x.v)→qV w' l a (bU d k c f m).1 q
 | k,[],f,m,q,j,b=>by simp only[mE] at b;obtain⟨rfl,rfl,rfl,rfl⟩:=b;exact⟨[],rfl,rfl,by simp,rfl,rfl,λl a _=>by simp[bU,qV]⟩
 | k,.int x::c,f,m,q,j,b=>by simp only[mE] at b;obtain⟨G,r,v,g,rfl,rfl,n,b⟩:=b;obtain⟨N,o,s,u,w,z,A⟩:=Ce (d:=d) k c f r g j b;refine⟨N,by simpa only[bU,EL] using o,by simpa only[Zv] using s,u,w,by simp[z],λl a p=>?_⟩;simp only[bU,Fe,EL,qV];exact⟨v,g,rfl,mu n (by simp),A l a p⟩
 | k,.bool::c,f,m,q,j,b=>by simp only[mE] at b;obtain⟨G,r,v,g,rfl,rfl,n,b⟩:=b;obtain⟨N,o,s,u,w,z,A⟩:=Ce (d:=d) k c f r g j b;refine⟨N,by simpa only[bU,EL] using o,by simpa only[Zv] using s,u,w,by simp[z],λl a p=>?_⟩;simp only[bU,Fe,EL,qV];exact⟨v,g,rfl,mu n (by simp),A l a p⟩
 | k,.str::c,f,m,q,j,b=>by simp only[mE] at b;obtain⟨G,r,v,g,rfl,rfl,n,b⟩:=b;obtain⟨N,o,s,u,w,z,A⟩:=Ce (d:=d) k c f r g j b;refine⟨N,by simpa only[bU,EL] using o,by simpa only[Zv] using s,u,w,by simp[z],λl a p=>?_⟩;simp only[bU,Fe,EL,qV];exact⟨v,g,rfl,mu n (by simp),A l a p⟩
 | k,.sl e::c,f,m,q,j,b=>by
  simp only[mE] at b;obtain⟨t,H,h,r,v,g,I,K,rfl,rfl,rfl,D,b,rfl⟩:=b;obtain⟨N,o,s,u,w,z,A⟩:=Ce (d:=d) (k+1) c H r g K b;have E:∃x:rK,x.id=G8 d k∧x.obj=vb t e h∧x.v=v∧x.ok w'∧x.bT=I:=by
   cases t with
   | flat t=>
    obtain⟨L,i,M,n,C,rfl⟩:=D;exact⟨⟨G8 d k,t,e,h,v,M,none⟩,rfl,rfl,rfl,⟨i,n,C⟩,by simp only[rK.bT,SF L C,GU]⟩
   | deep t its=>
    obtain⟨i,O,n,C,rfl⟩:=D;exact⟨⟨G8 d k,t,e,h,v,O,some its⟩,rfl,rfl,rfl,⟨i,n,C⟩,rfl⟩
  obtain⟨x,F,P,Q,R,S⟩:=E;refine⟨x::N, ?_, ?_, ?_, ?_,by simp[z],λl a p=>?_⟩
  ·simp only[bU,Fe,EL,Rd,Et,F,P,DC.cG] at o ⊢;rw[o]
  ·simp only[Et,Zv,IN,s,F]
  ·intro y B;rcases Ep.1 B with rfl | B
   ·exact R
   ·exact u y B
  ·simp only[D3,w,S]
  ·simp only[bU,Fe,EL,qV];refine⟨v,g,rfl, ?_,A l a (λy B=>p y (Ew _ B))⟩;simp only[dg];have:=p x (EI ..);rw[F,Q] at this;exact⟨this.symm,D.one⟩
def txQ(h:Nat→Option yP)(β:Env)(w':aaE)(d:List Nat)(N:List rK)(x:rv):Prop:=(∃o,h x.id=some o)∧∀(c:Nat→Prop) (a:Env),a.val x.id=β.val x.id→a.cY x.id=β.cY x.id→a.nb x.id=x.nb→(∀y∈N,a.val y.id=y.v)→(∀b∈d,¬c b)→ef w' c a x.id x.obj x.bT
def Z2(d k:Nat)(h:Nat→Option yP)(β:Env)(w':aaE)(b:List Nat)(U:List Zq)(a:List DC)(c:List Nat):Prop:=wR U=a.length∧∃(T:List rv) (N:List rK),T.map (λx=>(x.id,x.obj))=Wp d k U a∧pe d k U a=Rd N∧N.map (·.id)=(FA k (kg U)).map (G8 d)∧(∀x∈N,x.ok w')∧ (T.flatMap rv.bT++N.flatMap rK.bT).Perm c∧∀x∈T,txQ h β w' b N x
theorem Z2.append{d k:Nat}{im:List Nat}{U f:List Zq}{m n:List DC}{m1 r:List Nat}(w:Z2 d k h β w' im U m m1)(z:Z2 d (k+kg U) h β w' im f n r):Z2 d k h β w' im (U++f) (m++n) (m1++r):=by
 obtain⟨s,A,B,C,D,E,F,G,t⟩:=w;obtain⟨H,I,K,L,M,N,O,P,u⟩:=z;have i:∀(U f:List Zq),wR (U++f)=wR U+wR f∧kg (U++f)=kg U+kg f:=by
  intro U f
  induction U with
  | nil=>simp[wR,kg]
  | cons x l v=>cases x<;>simp only[EE,wR,kg,v.1,v.2,Hc,and_self]
 obtain⟨Q,R⟩:=gC (d:=d) k U f m n s;refine⟨by simp only[i,Qe,s,H],A++I,B++K,by rw[Fu,C,L,Q],by rw[R,D,M];simp[Rd], ?_,λx g=>?_, ?_,λx g=>?_⟩
 ·rw[Fu,E,N,(i U f).2,←Fu,IQ]
 ·rcases DO.1 g with g | g
  ·exact F x g
  ·exact O x g
 ·refine List.Perm.trans ?_ (G.append P);simp only[Hv,FH];refine List.Perm.append_left _ ?_;rw[←FH,←FH];exact List.Perm.append_right _ List.perm_append_comm
 ·rcases DO.1 g with g | g
  ·exact⟨(t x g).1,λo j a b c p e=>(t x g).2 o j a b c (λy q=>p y (U8 _ q)) e⟩
  ·exact⟨(u x g).1,λo j a b c p e=>(u x g).2 o j a b c (λy q=>p y (mi _ q)) e⟩
theorem aw{d:Nat}(k:Nat){im:List Nat} :∀(U:List Zq),Z2 d k h β w' im (rB U) [] []
 | []=>⟨rfl,[],[],rfl,rfl,rfl,by simp,List.Perm.refl _,by simp⟩
 | x::l=>by
  have i:Z2 d k h β w' im (rB l) [] []:=aw k l;cases x<;>simp only[rB]<;>first
   | exact i
   | (obtain⟨a,T,N,b,c,j,e,f,g⟩:=i;exact⟨a,T,N,b,c,j,e,f,g⟩)
theorem XI.F8{t:YY}{e:List CT}{a:List (List DC)}{b:List Nat}(h:XI w t e a (.slice none 0 0) b):b=[]:=by
 cases t with
 | flat t=>
  obtain⟨_,_,_,_,_,rfl⟩:=h;rfl
 | deep t its=>
  obtain⟨c,d,f,i,rfl⟩:=h;rcases f.2 with ⟨_,j,_⟩ | ⟨g,cap,k,l,_⟩
  ·have:d=[]:=JT.1 (by rw[i.1,j]);subst this;rfl
  ·cases l
theorem QC(I:Core w0 S f h β φ tm w){d:Nat}{K:List Nat} :∀(k:Nat) (l:List CT) (e:List YY) (AK:List bg) (B:List aaG) (q:List DC×List Zq) (p:List DC) (y:List Nat),qV w (uh h β) β AK B→(fL l e AK).val f h=some q→TR w' l e p B y→
  Z2 d k h β w' K q.2 p y
 | k,[],e,AK,B,q,p,y,hs,hq,b=>by
  cases e with
  | nil=>
   cases AK with
   | nil=>
    simp only[fL,M.ab,VR] at hq;subst hq;simp only[TR] at b;rw[b.1,b.2.2];exact⟨rfl,[],[],rfl,rfl,rfl,by simp,List.Perm.refl _,by simp⟩
   | cons s AK=>simp[fL] at hq
  | cons t e=>simp[fL] at hq
 | k,.int kk::l,e,AK,B,q,p,y,hs,hq,b=>by
  cases AK with
  | nil=>simp[fL] at hq
  | cons s AK=>
   simp only[qV] at hs;obtain⟨v,C,rfl,i,D⟩:=hs;simp only[fL,M.ag,sC,M.ab,VR] at hq;obtain⟨z,a,g,m,rfl⟩:=hq;simp only[TR] at b;obtain⟨v',N,A,b⟩:=b;simp only[List.cons.injEq] at A;obtain⟨rfl,rfl⟩:=A;exact QC (d:=d) I k l e AK C g p y D m b
 | k,.bool::l,e,AK,B,q,p,y,hs,hq,b=>by
  cases AK with
  | nil=>simp[fL] at hq
  | cons s AK=>
   simp only[qV] at hs;obtain⟨v,C,rfl,i,D⟩:=hs;simp only[fL,M.ag,sC,M.ab,VR] at hq;obtain⟨z,a,g,m,rfl⟩:=hq;simp only[TR] at b;obtain⟨v',N,A,b⟩:=b;simp only[List.cons.injEq] at A;obtain⟨rfl,rfl⟩:=A;exact QC (d:=d) I k l e AK C g p y D m b
 | k,.str::l,e,AK,B,q,p,y,hs,hq,b=>by
  cases AK with
  | nil=>simp[fL] at hq
  | cons s AK=>
   simp only[qV] at hs;obtain⟨v,C,rfl,i,D⟩:=hs;simp only[fL,M.ag,sC,M.ab,VR] at hq;obtain⟨z,a,g,m,rfl⟩:=hq;simp only[TR] at b;obtain⟨v',N,A,b⟩:=b;simp only[List.cons.injEq] at A;obtain⟨rfl,rfl⟩:=A;exact QC (d:=d) I k l e AK C g p y D m b
 | k,.sl el::l,e,AK,B,q,p,y,hs,hq,b=>by
  cases e with
  | nil=>simp[fL] at hq
  | cons t e=>
   cases AK with
   | nil=>cases t<;>simp[fL] at hq
   | cons s AK=>
    simp only[qV] at hs;obtain⟨v,C,rfl,i,D⟩:=hs;simp only[TR] at b;obtain⟨t1,Ha,c,Mu,v1,N,O,gK,e1,rfl,e2,P,o3,rfl⟩:=b;simp only[List.cons.injEq] at e1 e2;obtain⟨rfl,rfl⟩:=e1;obtain⟨rfl,rfl⟩:=e2;have pack:∀(z:DC×Zq) (g:List DC×List Zq),Z2 d k h β w' K [z.2] [.sl c] O→(fL l e AK).val f h=some g→Z2 d k h β w' K (z.2::g.2) (.sl c::Mu) (O++gK):=by intro z g k1 m;exact k1.append (QC (d:=d) I _ l e AK C g Mu gK D m o3)
    have n:v= .slice none 0 0→Z2 d k h β w' K [.mB] [.sl c] O:=by
     rintro rfl
     exact⟨rfl,[],[],rfl,rfl,rfl,by simp,by rw[P.F8];exact List.Perm.refl _,by simp⟩
    cases t with
    | flat t=>
     simp only[fL,M.ag,sC,M.ab,VR] at hq;obtain⟨z,a,g,m,rfl⟩:=hq;refine pack z g ?_ m;cases s with
     | nil=>
      simp only at a;cases F:zP el
      ·simp[F] at a
      ·simp only[F,HI,M.ab,VR] at a;subst a;simp only[dg] at i;exact n i
     | own id=>
      simp only[M.aY,sC] at a;obtain⟨Q,R,a⟩:=a;cases Q with
      | row t' e' r fz u=>
       cases fz with
       | true=>simp at a
       | false=>
        simp only at a;cases j:ER t' t && pc e' el && zP el
        ·simp[j] at a
        ·simp only[j,HI,M.ab,VR] at a;subst a;simp only[gF] at j;have T:=cL j.1.1;have U:=xp _ _ j.1.2;subst T;subst U;simp only[dg] at i;obtain⟨F,o,aE,W,G,rfl⟩:=P;refine⟨rfl,[⟨id,.row t' e' c false u,[],v.ownBlock.toList⟩],[],rfl,rfl,rfl,by simp,by simp,λx H=>?_⟩;rw[ED] at H;subst H;refine⟨⟨_,R⟩,λav X E Z L _ j9=>?_⟩;simp only at E Z L ⊢;refine⟨o,aE,by rw[E,←i.1];exact W,G,by rw[SF F G];simp, ?_⟩;rw[E,←i.1,SF F G];cases u<;>simp
      | box _ _=>simp at a
      | eN _ _=>simp at a
      | deep _ _ _ _ _=>simp at a
     | _=>simp at a
    | deep t its=>
     simp only[fL,M.ag,sC,M.ab,VR] at hq;obtain⟨z,a,g,m,rfl⟩:=hq;refine pack z g ?_ m;cases s with
     | nil=>
      simp only[M.ab,VR] at a;subst a;simp only[dg] at i;exact n i
     | own id=>
      simp only[M.aY,sC] at a;obtain⟨Q,R,a⟩:=a;cases Q with
      | deep t' e' d7 r hl=>
       cases hl with
       | some _=>simp at a
       | none=>
        simp only at a;cases j:ER t' t && pc e' el && EN d7 its
        ·simp[j] at a
        ·simp only[j,HI,M.ab,VR] at a;subst a;simp only[gF] at j;have T:=cL j.1.1;have U:=xp _ _ j.1.2;have Gu:=xX _ _ j.2;subst T;subst U;subst Gu;simp only[dg] at i;obtain⟨o,a_,W,G,rfl⟩:=P;refine⟨rfl,[⟨id,.deep t' e' d7 c none,a_.flatten,v.ownBlock.toList++a_.flatten⟩],[],rfl,rfl,rfl,by simp,by simp,λx H=>?_⟩;rw[ED] at H;subst H;refine⟨⟨_,R⟩,λav X E Z L _ j9=>?_⟩;simp only at E Z L ⊢;exact⟨o,a_,by rw[E,←i.1];exact W,G,L,by rw[E,←i.1]⟩
      | box _ _=>simp at a
      | eN _ _=>simp at a
      | row _ _ _ _ _=>simp at a
     | _=>simp at a
theorem zA(y:Core w0 S f h β φ tm w){d:Nat}{E:List Nat} :∀(c:Nat) (z:List de) (n:List (Option lz)) (AK:List bg) (T:List aaG) (q:List DC×Wk×List Zq) (W:List DC) (im X:List Nat),qV w (uh h β) β AK T→(DL z n AK).val f h=some q→vG w' z n W T im X→(∀b∈im,b∈E)→
  Z2 d c h β w' E q.2.2 W X
 | c,[],n,AK,T,q,W,im,X,hs,a,ho,_=>by
  cases n with
  | nil=>
   cases AK with
   | nil=>
    simp only[DL,M.ab,VR] at a;subst a;simp only[vG] at ho;rw[ho.1,ho.2.2.2];exact⟨rfl,[],[],rfl,rfl,rfl,by simp,List.Perm.refl _,by simp⟩
   | cons s AK=>simp[DL] at a
  | cons m n=>simp[DL] at a
 | c,k::z,n,AK,T,q,W,im,X,hs,a,ho,j9=>by
  simp only[vG] at ho;obtain⟨m,n,A,H,v,l,i1,F,b1,I,rfl,rfl,rfl,i,K,rfl,rfl⟩:=ho;cases AK with
  | nil=>cases m with
   | none=>simp[DL] at a
   | some m=>cases m<;>simp[DL] at a
  | cons s AK=>
   simp only[qV] at hs;obtain⟨v0,l0,e0,B,L⟩:=hs;simp only[List.cons.injEq] at e0;obtain⟨rfl,rfl⟩:=e0;have O:∀b∈F,b∈E:=λb o=>j9 b (mi _ o);cases m with
   | none=>
    simp only[DL,M.ag,sC,M.ab,VR] at a;obtain⟨e,p,r,u,rfl⟩:=a;simp only[kE] at i;obtain⟨rfl,rfl,rfl⟩:=i;exact zA (d:=d) y c z n AK l r H F I L u K O
   | some m=>
    cases m with
    | box t=>
     cases s with
     | ptr id off=>
      cases off with
      | succ off=>simp[DL] at a
      | zero=>
       simp only[DL,M.aY,sC] at a;obtain⟨ob,Z,a⟩:=a;cases ob with
       | box t' cells=>
        simp only at a;cases C:ER t' t
        ·simp[C] at a
        ·have lu:=cL C;subst lu;simp only[C,HI,M.ag,sC] at a;obtain⟨e,p,a⟩:=a;cases Gn:e.2.1.isEmpty
         ·simp[Gn] at a
         ·simp only[Gn,HI,M.ag,sC,M.ab,VR] at a;obtain⟨r,u,rfl⟩:=a;have k2:=zA (d:=d) y (c+kg [.box id t' k.bF]) z n AK l r H F I L u K O;obtain⟨us0,g1,g2,g3,g4⟩:=y.aC id _ Z;simp only[kE] at i;obtain⟨g,G,ev,LS,LU,KB,ow4,rfl⟩:=i;simp only[dg] at B;have eg:g=β.cY id:=by rw[B] at ev;simp only[Value.pointer.injEq,VR,Addr.mk.injEq,and_true] at ev;exact ev.symm
          subst eg;have KW:A.length=k.bF.length:=bj.length _ _ _ _ KB;refine Z2.append (U:=[.box id t' k.bF]) ⟨by simp only[wR,KW];omega,[⟨id,.box t' (BT k.bF A 0),[],[β.cY id]⟩],[],rfl,rfl,rfl,by simp,by simp,λx P=>?_⟩ k2;rw[ED] at P;subst P;refine⟨⟨_,Z⟩,λav D hv o hn _ Jn=>?_⟩;simp only at hv o hn ⊢;obtain⟨c9,l1,l2,l3,l4⟩:=bj.b7 (β:=D) (av:=av) KB (λb o=>Jn b (j9 b (U8 _ o))) k.bF.length 0 (by omega);have ee:c9=G:=by
           apply Im;intro j;by_cases hj:j<c9.length
           ·have:=l2 j c9[j] (by simp);simp only[GB] at this;rw[this];simp
           ·rw[FR (by omega),FR (by omega)]
          subst ee;simp only[List.drop_zero,List.take_length] at l3;exact⟨c9,by rw[o];exact LS,l3,LU,by rw[o]⟩
       | row _ _ _ _ _=>simp at a
       | eN _ _=>simp at a
       | deep _ _ _ _ _=>simp at a
     | _=>simp[DL] at a
    | rows ts=>
     simp only[DL,M.ag,sC,M.ab,VR] at a;obtain⟨e,p,r,u,rfl⟩:=a;have k2:=zA (d:=d) y (c+kg e.2) z n AK l r H F I L u K O;simp only[kE] at i;obtain⟨G,ev,i,rfl⟩:=i;have one:Z2 d c h β w' E e.2 A b1:=by
      unfold R1 at p;cases Q:k.agg with
      | true=>
       cases s with
       | agg cs=>
        simp only[Q] at p;simp only[dg] at B;obtain⟨aT,rfl,gS,bo⟩:=B;rw[Q] at ev;simp only[HI,Value.agg.injEq] at ev;have:aT=G:=by simpa using congrArg Array.toList ev
        subst this;exact QC (d:=d) y c k.bF ts cs aT e A b1 gS p i
       | _=>simp[Q] at p
      | false=>
       have mh:(fL k.bF ts [s]).val f h=some e:=by
        cases s<;>simp only[Q] at p<;>first | exact p | (simp at p)
       rw[Q] at ev;simp only[rl] at ev;subst ev;have iO:qV w (uh h β) β [s] [v]:=by simp only[qV];exact⟨v,[],rfl,B,rfl⟩
       exact QC (d:=d) y c k.bF ts [s] [v] e A b1 iO mh i
     exact one.append k2
    | km ts=>
     simp only[DL,M.ag,sC] at a;obtain⟨e,p,a⟩:=a;cases R:VA e.2
     ·simp[R] at a
     simp only[R,HI,M.ag,sC,M.ab,VR] at a;obtain⟨r,u,rfl⟩:=a;simp only[kE] at i;obtain⟨rfl,rfl,rfl⟩:=i;exact (aw c e.2).append (zA (d:=d) y _ z n AK l r H F I L u K O)
    | cZ t ts=>
     cases s with
     | ptr id off=>
      cases off with
      | succ off=>simp[DL] at a
      | zero=>
       simp only[DL,M.aY,sC] at a;obtain⟨ob,Z,a⟩:=a;cases ob with
       | box t' cells=>
        simp only at a;cases C:ER t' t
        ·simp[C] at a
        ·have lu:=cL C;subst lu;simp only[C,HI,M.ag,sC] at a;obtain⟨e,p,a⟩:=a;cases R:VA e.2
         ·simp[R] at a
         simp only[R,HI,M.ag,sC,M.ab,VR] at a;obtain⟨r,u,rfl⟩:=a;simp only[kE] at i;obtain⟨g,G,mm,ev,LS,LU,KB,rfl,rfl⟩:=i;simp only[dg] at B;have eg:g=β.cY id:=by rw[B] at ev;simp only[Value.pointer.injEq,VR,Addr.mk.injEq,and_true] at ev;exact ev.symm
         subst eg;obtain⟨N,n1,n2,n3,n4,n5,n6⟩:=Ce (d:=d) c k.bF ts A G mm KB;have first:Z2 d c h β w' E [.cZ id t' k.bF ts] A (β.cY id::mm):=by refine⟨by simp only[wR,n5];omega,[⟨id,.box t' (bU d c k.bF ts A).1,[],[β.cY id]⟩],N,rfl,by simp only[pe,GU,n1],by simpa only[kg,Gd] using n2,n3,by simp[n4],λx P=>?_⟩;rw[ED] at P;subst P;refine⟨⟨_,Z⟩,λav D hv o hn hN Jn=>?_⟩;simp only at hv o hn ⊢;exact⟨G,by rw[o];exact LS,n6 av D hN,LU,by rw[o]⟩
         have two:=(aw (d:=d) (h:=h) (β:=β) (w':=w') (im:=E) (c+kg [.cZ id t' k.bF ts]) e.2).append (zA (d:=d) y _ z n AK l r H F I L u K O);exact first.append two
       | row _ _ _ _ _=>simp at a
       | eN _ _=>simp at a
       | deep _ _ _ _ _=>simp at a
     | _=>simp[DL] at a
theorem nqb(T:List rv)(l:List (Nat×Option yP))(j:Nat):xO (T.map (λx=>(x.id,some x.obj))++l) h j=match Yp T j with | some x=>some x.obj | none=>xO l h j:=by
 induction T with
 | nil=>rfl
 | cons y N a=>
  simp only[Et,EE,xO,PB,Yp];split
  ·rfl
  ·exact a
theorem nhq(D:List Nat)(l:List (Nat×Option yP))(j:Nat):xO (kH D++l) h j=if j∈D then none else xO l h j:=by
 induction D with
 | nil=>simp[kH]
 | cons y D b=>
  simp only[kH,Et,EE,xO,PB,Ep] at b ⊢;by_cases a:j=y
  ·simp[a]
  ·rw[if_neg a,b];simp[a]
theorem nrL{i:Nat} :∀ {m:Wk},Nh i m=true→∀x∈m,x.1≠i
 | [],_,x,a=>by simp at a
 | (k,y)::l,hm,x,a=>by
  simp only[Nh,gF,Gw] at hm;rcases Ep.1 a with rfl | a
  ·exact HU hm.1
  ·exact nrL hm.2 x a
theorem fb{i:Nat} :∀ {m:Wk},Nh i m=true→xO (qv m) h i=h i
 | [],_=>rfl
 | (k,e',r,u)::l,hm=>by simp only[Nh,gF,Gw] at hm;simp only[qv,xO,PB];rw[if_neg (λa=>HU hm.1 a.symm)];exact fb hm.2
theorem jK:∀ {U:List Zq},kn h U→∀b∈U.flatMap (Zt β),∃id∈RI U,∃d,h id=some d∧b∈ar β id d
 | [],_,b,a=>by simp at a
 | .box id t cs::l,c,b,a=>by
  simp only[kn] at c;obtain⟨⟨k,m⟩,c⟩:=c;rw[D3,DO] at a;rcases a with a | a
  ·exact⟨id,EI ..,_,m,a⟩
  ·obtain⟨i,f,d,g,j⟩:=jK c b a;exact⟨i,Ew _ f,d,g,j⟩
 | .row id t e u::l,c,b,a=>by
  simp only[kn] at c;obtain⟨⟨_,n,m⟩,c⟩:=c;rw[D3,DO] at a;rcases a with a | a
  ·exact⟨id,EI ..,_,m,a⟩
  ·obtain⟨i,f,d,g,j⟩:=jK c b a;exact⟨i,Ew _ f,d,g,j⟩
 | .deep id t e ts::l,c,b,a=>by
  simp only[kn] at c;obtain⟨⟨n,m⟩,c⟩:=c;rw[D3,DO] at a;rcases a with a | a
  ·exact⟨id,EI ..,_,m,a⟩
  ·obtain⟨i,f,d,g,j⟩:=jK c b a;exact⟨i,Ew _ f,d,g,j⟩
 | .gone id dp::l,c,b,a=>by
  simp only[kn] at c;obtain⟨⟨o,p,q⟩,c⟩:=c;rw[D3,DO] at a;rcases a with a | a
  ·exact⟨id,EI ..,_,p,by rw[q.ar];exact a⟩
  ·obtain⟨i,f,d,g,j⟩:=jK c b a;exact⟨i,Ew _ f,d,g,j⟩
 | .cZ id t cs ts::l,c,b,a=>by
  simp only[kn] at c;obtain⟨⟨k,m⟩,c⟩:=c;rw[D3,DO] at a;rcases a with a | a
  ·exact⟨id,EI ..,_,m,a⟩
  ·obtain⟨i,f,d,g,j⟩:=jK c b a;exact⟨i,Ew _ f,d,g,j⟩
 | .mB::l,c,b,a=>by rw[D3] at a;exact jK (U:=l) c b (by simpa [Zt] using a)
theorem WM{i:Nat}{l:List Nat}(a:lC (i::l)=true):i ∉ l∧lC l=true:=by simp only[lC,gF,Gw,List.any_eq_false] at a;refine⟨λb=>?_,a.2⟩;exact a.1 i b (Nat.beq_refl i)
theorem xb(c:Core w0 S f h β φ tm w):∀ {U:List Zq},kn h U→lC (RI U)=true→(U.flatMap (Zt β)).Nodup
 | [],_,_=>by simp
 | .box id t cs::l,a,hn=>by simp only[kn] at a;obtain⟨⟨y,d⟩,a⟩:=a;obtain⟨m,n⟩:=WM hn;rw[D3,Eu];refine⟨by simp[Zt],xb c a n, ?_⟩;intro b k A p q;subst q;obtain⟨i,r,s,g,v⟩:=jK (β:=β) a b p;exact c.sep id i _ s (λx=>m (x ▸ r)) d g b (al (c.aC _ _ d) b k) (al (c.aC _ _ g) b v)
 | .row id t e u::l,a,hn=>by
  simp only[kn] at a;obtain⟨⟨_,j,d⟩,a⟩:=a;obtain⟨m,n⟩:=WM hn;rw[D3,Eu];refine⟨?_,xb c a n, ?_⟩
  ·simp only[Zt];cases (β.val id).ownBlock<;>simp
  ·intro b k A p q;subst q;obtain⟨i,r,s,g,v⟩:=jK (β:=β) a b p;exact c.sep id i _ s (λx=>m (x ▸ r)) d g b (al (c.aC _ _ d) b k) (al (c.aC _ _ g) b v)
 | .deep id t e E::l,a,hn=>by
  simp only[kn] at a;obtain⟨⟨j,d⟩,a⟩:=a;obtain⟨m,n⟩:=WM hn;rw[D3,Eu];refine⟨?_,xb c a n, ?_⟩
  ·obtain⟨z,F,_,_,B,C⟩:=c.aC _ _ d;have:=(c.fresh _ _ d).1;rw[C] at this;simpa only[Zt,B] using this
  ·intro b k A p q;subst q;obtain⟨i,r,s,g,v⟩:=jK (β:=β) a b p;exact c.sep id i _ s (λx=>m (x ▸ r)) d g b (al (c.aC _ _ d) b k) (al (c.aC _ _ g) b v)
 | .gone id dp::l,a,hn=>by
  simp only[kn] at a;obtain⟨⟨o,d,D⟩,a⟩:=a;obtain⟨m,n⟩:=WM hn;rw[D3,Eu];refine⟨?_,xb c a n, ?_⟩
  ·rw[←D.ar];rcases D with ⟨_,t,e,j,u,_,rfl⟩ | ⟨_,t,e,E,j,rfl⟩
   ·simp only[ar];cases (β.val id).ownBlock<;>simp
   ·obtain⟨z,F,_,_,B,C⟩:=c.aC _ _ d;have:=(c.fresh _ _ d).1;rw[C] at this;simpa only[ar,B] using this
  ·intro b k A p q;subst q;rw[←D.ar] at k;obtain⟨i,r,s,g,v⟩:=jK (β:=β) a b p;exact c.sep id i _ s (λx=>m (x ▸ r)) d g b (al (c.aC _ _ d) b k) (al (c.aC _ _ g) b v)
 | .cZ id t cs E::l,a,hn=>by simp only[kn] at a;obtain⟨⟨y,d⟩,a⟩:=a;obtain⟨m,n⟩:=WM hn;rw[D3,Eu];refine⟨by simp[Zt],xb c a n, ?_⟩;intro b k A p q;subst q;obtain⟨i,r,s,g,v⟩:=jK (β:=β) a b p;exact c.sep id i _ s (λx=>m (x ▸ r)) d g b (al (c.aC _ _ d) b k) (al (c.aC _ _ g) b v)
 | .mB::l,a,hn=>by rw[D3];simpa [Zt] using xb c (U:=l) a hn
theorem nbe{d:Nat} :∀(b:List VC) (k:Nat) (a c:List DC),a.length=gW b→fo d k b (a++c)=fo d k b a
 | [],_,_,_,_=>rfl
 | r::rs,k,a,c,hl=>by simp only[gW] at hl;simp only[fo];rw[Jf (by omega),IT (by omega),nbe rs _ _ c (by simp;omega)]
theorem nsl(eO:Wq P Γ){s:Sum}{g:Nat}(hs:OT Γ g=some s)(d6:s.Hd=false)(Dn:s.pt=none)(Kr:s.ms≠[])(X:Rel w0 S st a w)(hd:∀d,o.dst=some d→IW st.n d)(bR:∀d,o.dst=some d→e.ow≠[]→T7 st d)
  {l:List bg} {us:List aaG} (KY:∀fn,P.funcs[g]? =some fn→fn.body.isSome=true→(fn.name== "runtime.NumGoroutine")=false→(execOp a.eval o).run P w= .ok (.enter g us.toArray) w)
  (hl:∀β φ,Core w0 S st.get st.obj β φ a.tmps w→qV w (uh st.obj β) β l us) (I:(Hg s o.dst l).val st.get st.obj=some e) (aN:e.ok=true):Good P w0 S st o e a w:=by
 have hH:UY P g s:=by
  have z:=eO g s hs;unfold xC at z;rw[d6,rl,Dn] at z;simp only at z;split at z
  ·rename_i hm;exact absurd hm Kr
  ·exact z
 unfold Hg at I;cases aS:Nat.blt (dC s.rs) 64 && !(shares s) && (o.dst.isSome || s.rs.isEmpty)
 ·simp[aS] at I
 simp only[aS,HI,M.ag,sC] at I;obtain⟨r,hr,I⟩:=I;cases Ki:gf r.2.1 && lC (RI r.2.2) && (RI r.2.2).all (λi=>Nh i r.2.1) && (Nat.blt (dC s.rs+kg r.2.2) 64 && (o.dst.isSome || ER (kg r.2.2) 0))
 ·simp[Ki] at I
 simp only[Ki,HI,M.ab,VR] at I;subst I;simp only[gF,Gw,List.all_eq_true] at aS Ki;obtain⟨⟨MD,BJ⟩,AE⟩:=aS;obtain⟨⟨⟨Aw,JS⟩,Mi⟩,HS,HZ⟩:=Ki;have HS:dC s.rs+kg r.2.2<64:=Il HS;obtain⟨⟨fn,hf,p,hn⟩,mW⟩:=hH;obtain⟨β,φ,B⟩:=X.core;obtain⟨fp,cr,iw,C2,jM⟩:=yv B s.ps s.ms l _ r (hl β φ B) hr;have Li:=xb B C2 JS;have Lh:∀b∈r.2.2.flatMap (Zt β),b ∉ fp:=by
  intro b p ML;obtain⟨id,eA,G,K,kq⟩:=jK (β:=β) C2 b p;rcases jM b ML with t | ⟨x,f,lh⟩
  ·exact t (.inl ⟨id,G,K,kq⟩)
  ·obtain⟨_,C3,_⟩:=iw x f;rw[BP C3] at lh;have c8:x.1≠id:=nrL (Mi id eA) x f;exact B.sep x.1 id _ G c8 C3 K b (al (B.aC _ _ C3) b lh) (al (B.aC _ _ K) b kq)
 intro Q;unfold Oper.wp;rw[KY fn hf p hn,Oper.upon_enter];refine (mW w r.1 _ fp _ cr Li Lh aN).mono ?_
 rintro _ w' ⟨Z,KC,im,tp,Ax,rd,od,ψ,rfl,Kl,jC,hk,BH,hnd,Au,JH,LP,Kz,BD⟩
 have K8:im=[]:=f_.kF _ _ _ _ _ _ (by simpa [shares] using BJ) BH;have Hl:(s.fn r.1).2.drop (gW s.rs)=od:=by rw[Kl,←jC,List.drop_left]
 have JO:fo (o.dst.getD 0) 0 s.rs (s.fn r.1).2=fo (o.dst.getD 0) 0 s.rs rd:=by rw[Kl,nbe _ _ _ _ jC]
 obtain⟨N1,n1,n2,n3,n4,n5,n6⟩:=fA (d:=o.dst.getD 0) s.rs 0 _ Z KC im tp BH;obtain⟨_,T,N2,hT,L3,q2,q3,KO,Cl⟩:=zA (d:=o.dst.getD 0) (w':=w') B (dC s.rs) s.ps s.ms l _ r od Ax ψ (hl β φ B) hr JH (λb p=>p);obtain⟨N,L⟩:∃N,N=N1++N2:=⟨_,rfl⟩;have KN:N.flatMap rK.bT=KC++N2.flatMap rK.bT:=by rw[L,Hv,n4]
 have HT:N.map (·.id)=(FA 0 (dC s.rs+kg r.2.2)).map (G8 (o.dst.getD 0)):=by
  have z:FA 0 (dC s.rs)++FA (dC s.rs) (kg r.2.2)=FA 0 (dC s.rs+kg r.2.2):=by have:=IQ (s:=0) (m:=dC s.rs) (n:=kg r.2.2);rwa[GB] at this
  rw[L,Fu,n2,q2,←Fu,z]
 have L4:T.map rv.id=D8 r.2.2:=by rw[←Yx (d:=o.dst.getD 0) (dC s.rs) r.2.2 od,←hT,IL];rfl
 have JZ:∀b∈T.flatMap rv.bT,b∈ψ:=λb p=>KO.subset (U8 _ p);have GY:∀b∈N2.flatMap rK.bT,b∈ψ:=λb p=>KO.subset (mi _ p);have Kg:=KO.symm.nodup LP;rw[Eu] at Kg;obtain⟨C,Hj⟩:∃C:Wk,C=bif Av s.ms then [] else r.2.1:=⟨_,rfl⟩;have hM:VQ st.obj C∧gf C=true∧∀id∈RI r.2.2,Nh id C=true:=by
  cases ju:Av s.ms with
  | true=>rw[Hj,ju];exact⟨by simp[VQ],rfl,λ_ _=>rfl⟩
  | false=>rw[Hj,ju];exact⟨iw,Aw,Mi⟩
 have hfz:(bif Av s.ms then [] else qv r.2.1)=qv C:=by rw[Hj];cases Av s.ms<;>rfl
 have iJ:=B.gg C hM.1 hM.2.1;have JR:=hM.2.2;have Ld:∀i∈D8 r.2.2,i∈RI r.2.2:=λi O=>(sj r.2.2).2 (.inl O);have MO:∀i∈CJ r.2.2,i∈RI r.2.2:=λi O=>(sj r.2.2).2 (.inr O);have I5:N≠[]→∃d,o.dst=some d:=by
  intro c8;cases aM:o.dst with
  | some d=>exact⟨d,rfl⟩
  | none=>
   rw[aM] at AE HZ;simp only[Option.isSome_none,Ho] at AE HZ;have LG:s.rs=[]:=List.isEmpty_iff.1 AE;have z:=cL HZ;have:=HT;rw[LG,z] at this;simp only[dC,Gd,List.range'_zero,List.map_nil,List.map_eq_nil_iff] at this;exact absurd this c8
 have Di:∀x∈N,x.id / 64=o.dst.getD 0∧x.id∈N.map (·.id):=by intro x f;have hm:x.id∈N.map (·.id):=Hp f;refine⟨?_,hm⟩;rw[HT] at hm;obtain⟨j,A,gI⟩:=Hn.1 hm;rw[←gI];have:=JN.1 A;exact DV _ j (by omega)
 have AG:(N.map (·.id)).Nodup:=by rw[HT];refine List.Pairwise.map _ ?_ (JP ..);intro x y A_ e;unfold G8 at e;omega
 have hle:=X.kept.size;have I6:∀x∈T,x.id∈RI r.2.2:=by intro x f;refine Ld _ ?_;rw[←L4];exact Hp f
 have R:∀x∈N,(β.cv N T).val x.id=x.v:=by intro x f;simp[Env.cv,x9 f AG]
 have Hy:∀(E:Env),(∀x∈N,E.val x.id=x.v)→∀x∈N2,E.val x.id=x.v:=λE p x f=>p x (by rw[L];exact mi _ f);let h':Nat→Option yP:=ub N T (CJ r.2.2) (xO (qv C) st.obj);have Cm:∀b∈Ax,¬uh h' (β.cv N T) b:=by
  intro b p;have Fy:=BD b p;have MG:C=r.2.1:=by rw[Hj,Fy.2.2.2];rfl
  rintro (⟨j,oj,A,bB⟩ | eM)
  case inr=>
   have L7:=(iJ.gV b eM).1;rcases Fy.1 with Dg | AB
   ·rcases jM b Dg with t | ⟨x,f,lh⟩
    ·exact t (.inr eM)
    ·exact cI B iw f lh (.inr eM)
   ·omega
  cases W:ik N j with
  | some x=>
   simp only[h',ub,W,VR] at A;subst A;obtain⟨f,rfl⟩:=UG W;rw[x.js (by simp[Env.cv,W]) (by simp[Env.cv,W])] at bB;rw[L] at f;rcases DO.1 f with f | f
   ·refine Fy.2.1 ?_;rw[←n5];exact E1.2 ⟨x,f,bB⟩
   ·exact Fy.2.2.1 (GY b (E1.2 ⟨x,f,x.al b bB⟩))
  | none=>
   simp only[h',ub,W] at A;cases hu:Yp T j with
   | some x=>
    simp only[hu,VR] at A;subst A;obtain⟨Mm,rfl⟩:=P9 hu;have u:b∈x.bT:=by have iL:=(Cl x Mm).2 (λ_=>False) (β.cv N T) (by simp[Env.cv,W]) rfl (by simp[Env.cv,W,hu]) (Hy _ R) (λ_ _ h=>h);exact al iL b bB
    exact Fy.2.2.1 (JZ b (E1.2 ⟨x,Mm,u⟩))
   | none=>
    simp only[hu] at A;split at A
    ·cases A
    have kp:b∈ar β j oj:=by
     cases oj<;>simp only[ar,Env.cv,W,hu] at bB ⊢ <;>exact bB
    have KR:=((iJ.fresh j oj A).2 b (al (iJ.aC j oj A) b kp)).2;rcases Fy.1 with Dg | AB
    ·rcases jM b Dg with t | ⟨x,f,lh⟩
     ·exact t (Ai (.inl ⟨j,oj,A,kp⟩))
     ·exact cI B hM.1 (by rw[MG];exact f) lh (.inl ⟨j,oj,A,kp⟩)
    ·omega
 have KT:=iJ.KG (N:=N) (U:=T) (D:=CJ r.2.2) (im:=Ax) (mb:=r.2.2.flatMap (Zt β)) hk.size hle ?_ ?_ ?_ ?_ Kg.1 ?_ Cm AG ?_ ?_ ?_ ?_
 ·have F:=n6 (uh h' (β.cv N T)) (β.cv N T) (λx f=>R x (by rw[L];exact U8 _ f)) (by rw[K8];simp);have Co:Kept S w0 w':=by
   refine⟨hk.os.trans X.kept.os,hk.tape.trans X.kept.tape,hk.output.trans X.kept.output,by have:=hk.size;omega,λk u H=>?_⟩;refine (hk.block k (by omega) (λGK=>?_)).trans (X.kept.block k u H);obtain⟨id,eA,G,K,kq⟩:=jK (β:=β) C2 k GK;rcases ((B.fresh id G K).2 k (al (B.aC _ _ K) k kq)).1 with t | t
   ·omega
   ·exact H t
  have Km:xO ((fo (o.dst.getD 0) 0 s.rs (s.fn r.1).2).2++(pe (o.dst.getD 0) (dC s.rs) r.2.2 ((s.fn r.1).2.drop (gW s.rs))++
    (RY (o.dst.getD 0) (dC s.rs) r.2.2 ((s.fn r.1).2.drop (gW s.rs))++(kH (CJ r.2.2)++(bif Av s.ms then [] else qv r.2.1))))) (Zs none st.obj)=h':=by
   funext j;have:((Wp (o.dst.getD 0) (dC s.rs) r.2.2 od).map λx=>(x.1,some x.2))=T.map λx=>(x.id,some x.obj):=by rw[←hT,IL];rfl
   have BI:Rd N1++(Rd N2++(T.map (λx=>(x.id,some x.obj))++(kH (CJ r.2.2)++qv C)))=Rd N++(T.map (λx=>(x.id,some x.obj))++(kH (CJ r.2.2)++qv C)):=by rw[L];simp only[Rd,Fu,FH]
   rw[hfz,JO,Hl,n1,rY,this,L3,BI,jP,nqb,nhq];rfl
  refine⟨pack Z,rfl,zf X hd Co ⟨β.cv N T,Pn N T (TE φ C), ?_, ?_⟩⟩
  ·show Core w0 S st.get (xO (_++(_++(_++(_++_)))) (Zs none st.obj)) _ _ _ _;rw[Km];exact KT
  ·show dg w' (uh (xO (_++(_++(_++(_++_)))) (Zs none st.obj)) (β.cv N T)) (β.cv N T) (OJ (fo (o.dst.getD 0) 0 s.rs (s.fn r.1).2).1) (pack Z);rw[Km,JO];generalize (fo (o.dst.getD 0) 0 s.rs rd).1=q at F
   match q,Z,F with
   | [],Z,F=>
    simp only[qV] at F;subst F;simp only[OJ,pack,dg];exact⟨[],rfl,by simp[qV]⟩
   | [x],Z,F=>
    simp only[qV] at F;obtain⟨v,l',rfl,u,rfl⟩:=F;exact u
   | x::y::q,Z,F=>
    have FN:=F;simp only[qV] at F;obtain⟨v,l',rfl,u,v2,l2,rfl,H,t⟩:=F;simp only[OJ,pack];unfold dg;exact⟨v::v2::l2,rfl,FN⟩
 ·intro b p;obtain⟨id,eA,G,K,kq⟩:=jK (β:=β) C2 b p;refine⟨id, ?_,G,by rw[fb (JR _ eA)];exact K,kq⟩;rcases (sj r.2.2).1 eA with t | t
  ·rw[←L4] at t;obtain⟨x,f,rfl⟩:=Hn.1 t;exact .inl ⟨x,f,rfl⟩
  ·exact .inr t
 ·exact λb p ju=>hk.block b p ju
 ·intro x f;obtain⟨⟨G,u⟩,_⟩:=Cl x f;exact⟨G,by rw[fb (JR _ (I6 x f))];exact u⟩
 ·exact λx f av E a b c dd e=>(Cl x f).2 av E a b c (Hy E dd) e
 ·intro b p;obtain⟨p1,p2,p3⟩:=Kz b (JZ b p);refine⟨p1,p2,λHV=>?_⟩;rw[KN] at HV;rcases DO.1 HV with t | t
  ·exact p3 t
  ·exact Kg.2.2 b p b t rfl
 ·intro x f;have u:=(Di x f).1;obtain⟨d,aM⟩:=I5 (λz=>by rw[z] at f;simp at f);have bR:=bR d aM (by
   show (fo (o.dst.getD 0) 0 s.rs (s.fn r.1).2).2++(pe (o.dst.getD 0) (dC s.rs) r.2.2 ((s.fn r.1).2.drop (gW s.rs))++_)≠[];rw[JO,n1,Hl,L3];intro z;rw[IS] at z;have a1:N1=[]:=by simpa [Rd] using z.1
   have u:=(IS.1 z.2).1;have a2:N2=[]:=by simpa [Rd] using u
   rw[L,a1,a2] at f;simp at f)
  rw[aM] at u;simp only[Option.getD_some] at u;refine⟨?_,λi O=>bR.slot i _ O u,λk ok Co O=>?_⟩
  ·cases hn:xO (qv C) st.obj x.id with
   | none=>rfl
   | some G=>
    rcases Q_ hn with H | ⟨e',r',rfl,y,hy,H⟩
    ·exact absurd u (bR.obj _ G H).1
    ·obtain⟨_,t,_⟩:=hM.1 y hy;rw[H] at t;exact absurd u (bR.obj _ _ t).1
  ·rcases Q_ Co with H | ⟨e',r',rfl,_⟩
   ·exact (bR.obj k ok H).2 _ O u
   ·simp[tg] at O
 ·intro x f;rw[L] at f;rcases DO.1 f with f | f
  ·exact n3 x f
  ·exact q3 x f
 ·rw[KN,Eu];exact⟨hnd,Kg.2.1,λb p b' aB Fp=>(Kz b' (GY b' aB)).2.2 (Fp ▸ p)⟩
 ·intro b p;rw[KN] at p;rcases DO.1 p with p | p
  ·exact Au b p
  ·exact⟨(Kz b (GY b p)).1,(Kz b (GY b p)).2.1⟩
theorem bj.all{f:Nat→Prop}{a:List CT}{r:List DC}{c:List aaG}{g:List Nat}(h:bj w a r (λj=>c[j]?) g)(m:c.length=a.length)(i:∀b∈g,¬f b):qV w f β (BT a r 0) c:=by
 obtain⟨d,n,k,l,o⟩:=bj.b7 (β:=β) h i a.length 0 (by omega);have e:d=c:=by
  apply Im;intro j;by_cases p:j<d.length
  ·have:=k j d[j] (by simp);simp only[GB] at this;rw[this];simp
  ·rw[FR (by omega),FR (by omega)]
 subst e;simpa only[List.drop_zero,List.take_length] using l
theorem cjX(eO:Wq P Γ){s:Sum}{g:Nat}(hs:OT Γ g=some s)(d6:s.Hd=false){t:aaI}{bF:List CT}(Dn:s.pt=some (t,bF))(u:Rel w0 S st a w){d:Nat}(aM:o.dst=some d)(hd:IW st.n d)(A:e.ow≠[]→T7 st d)
  {c:Call} (ho:o.op= .call c) (hg:c.callee= .value (.func g)) {l:List bg}
  (hl:(xm c.args.toList).val st.get st.obj=some l) (p:(gz Γ (some d) g l).val st.get st.obj=some e) (aN:e.ok=true):Good P w0 S st o e a w:=by
 unfold gz at p;rw[hs] at p;simp only[d6,rl,Dn,M.ag,sC] at p;obtain⟨r,hr,p⟩:=p;cases U:gf r.2
 ·simp[U] at p
 simp only[U,HI,M.ab,VR] at p;subst p;have hH:jA P g s t bF:=by have W:=eO g s hs;unfold xC at W;rw[d6,rl,Dn] at W;exact W
 obtain⟨⟨fn,hf,hb,X⟩,mW⟩:=hH;obtain⟨β,φ,D⟩:=u.core;obtain⟨fp,cr,L,jM⟩:=wh D s.ps l _ r (jR D _ l hl) hr;intro Q;unfold Oper.wp;rw[zs ho hg hf hb X,Oper.upon_enter];have Cv:c.args.map a.eval=(c.args.toList.map a.eval).toArray:=by rw[←JE,IJ]
 rw[Cv];refine (mW w r.1 _ fp cr aN).mono ?_
 rintro _ w' ⟨b,us,im,rfl,B,L6,Gl,v,bo,jC,E,j9⟩
 have F:=D.gg r.2 L U;have N:G8 d 0 / 64=d:=DV d 0 (by omega);have A:=A (by simp);have gn:∀j,j≠G8 d 0→(β.j8 (G8 d 0) b).val j=β.val j∧(β.j8 (G8 d 0) b).cY j=β.cY j:=by intro j f;exact⟨rfl,by simp[Env.j8,PB,f]⟩
 have G:(β.j8 (G8 d 0) b).cY (G8 d 0)=b:=by simp[Env.j8,PB]
 have iQ:∀x∈ar (β.j8 (G8 d 0) b) (G8 d 0) (.box t (BT bF (s.fn r.1).2 0)),w.heap.size≤x:=by intro x m;simp only[ar,G,ED] at m;omega
 have hle:=u.kept.size;have hw:∀x,x<w.heap.size→w'.heap[x]? =w.heap[x]? :=λx m=>B.block x m (λh=>h);have Co:Kept S w0 w':=⟨B.os.trans u.kept.os,B.tape.trans u.kept.tape,B.output.trans u.kept.output,by have:=B.size;omega,λk H Z=>(hw k (by omega)).trans (u.kept.block k H Z)⟩;have Cm:∀x∈im,¬uh (PB (xO (qv r.2) st.obj) (G8 d 0) (some (.box t (BT bF (s.fn r.1).2 0)))) (β.j8 (G8 d 0) b) x:=by
  rintro x m (⟨j,oj,f,C⟩ | eM)
  ·have O:=j9 x m;by_cases cn:j=G8 d 0
   ·subst cn;simp only[PB,if_true,VR] at f;subst f;simp only[ar,G,ED] at C;exact O.2 C
   ·simp only[PB,cn,if_false] at f;have kp:x∈ar β j oj:=by
     cases oj<;>simp only[ar,gn j cn] at C ⊢ <;>exact C
    have cA:=((F.fresh j oj f).2 x (al (F.aC j oj f) x kp)).2;rcases O.1 with q | q
    ·rcases jM x q with z | ⟨y,I,z⟩
     ·exact z (Ai (.inl ⟨j,oj,f,kp⟩))
     ·exact cI D L I z (.inl ⟨j,oj,f,kp⟩)
    ·omega
  ·have O:=j9 x m;have L7:=(F.gV x eM).1;rcases O.1 with q | q
   ·rcases jM x q with z | ⟨y,I,z⟩
    ·exact z (.inr eM)
    ·exact cI D L I z (.inr eM)
   ·omega
 refine⟨_,rfl,zf u (λd' R=>by rw[aM] at R;injection R with R;exact R ▸ hd) Co ⟨β.j8 (G8 d 0) b,PB (TE φ r.2) (G8 d 0) [b], ?_, ?_⟩⟩
 ·refine F.create B.size hw (λi T=>A.slot i _ T N) (λj K f T=>?_) ?_ gn iQ ?_ (by simp) ?_
  ·rcases Q_ f with H | ⟨e',r,rfl,_⟩
   ·exact (A.obj j K H).2 _ T N
   ·simp[tg] at T
  ·cases X:xO (qv r.2) st.obj (G8 d 0) with
   | none=>rfl
   | some K=>
    rcases Q_ X with H | ⟨e',r,rfl,y,I,Z⟩
    ·exact absurd N (A.obj _ K H).1
    ·obtain⟨_,q,_⟩:=L y I;rw[Z] at q;exact absurd N (A.obj _ _ q).1
  ·exact⟨us,by rw[G];exact v,bj.all jC E Cm,bo,by rw[G]⟩
  ·intro x m;rw[ED] at m;subst m;refine⟨⟨.inl (by omega),Gl⟩,λj K f C=>?_⟩;have:=((F.fresh j K f).2 _ C).2;omega
 ·simp only[dg,G]
end Go.Proofs.YteffpikahopfoaaGreat.Vm
