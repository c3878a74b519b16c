/- The value machine: slices, structs, new objects, appending, contracts. Conditions: as each lemma says. -/
import Derived.Test.YthpmalpdnnbkgaaGreatVa
import Derived.Laws.Tables
import Derived.Great.BuildSlice
import Derived.Laws.CopyRow
namespace Go.Proofs.YthpmalpdnnbkgaaGreat.Vm
theorem aiZ {w:World} {e:List CT} {r:List (List DC)} {q:Option Addr} {n c:Nat} {fp:List Nat} (h:RdC w (.sl e) (.sl r) (.slice q n c) fp) {l m:Nat} (hl:l≤m) (hm:m≤r.length):
  ∃fp',RdC w (.sl e) (.sl ((r.take m).drop l)) (.slice (if c=l then q else q.map (·.add (l*e.length))) (m - l) (c - l)) fp'∧∀b∈fp',b∈fp:=by
 obtain⟨q',n',c',hv,hn,hc,hmx,abI⟩:=vI h
 injection hv with h1 h2 h3
 subst h1 h2 h3
 have hlen:((r.take m).drop l).length=m - l:=by simp;omega
 rcases Nat.eq_zero_or_pos (m - l) with h0 | h0
 ·exact⟨[],PR hlen (by omega) (by omega) (.inl ⟨h0,rfl⟩),by simp⟩
 ·rcases abI with ⟨h00,_⟩ | ⟨_,b,o,fps,rfl,hlt,D1,rfl,GS⟩
  ·omega
  ·rw[if_neg (by omega)]
   refine⟨b::((fps.take m).drop l).flatten,PR hlen (by omega) (by omega) (.inr ⟨h0,b,o+l*e.length,(fps.take m).drop l, ?_,hlt,by simp;omega,rfl,fun i r' f hi hf=> ?_⟩), ?_⟩
   ·simp [sQ]
   ·have hi':r[l+i]? =some r':=by
     rw[List.getElem?_drop,List.getElem?_take] at hi
     split at hi
     ·exact hi
     ·cases hi
    have hf':fps[l+i]? =some f:=by
     rw[List.getElem?_drop,List.getElem?_take] at hf
     split at hf
     ·exact hf
     ·cases hf
    have:=GS (l+i) r' f hi' hf'
    have e1:∀j,o+((l+i)*e.length+j)=o+l*e.length+(i*e.length+j):=by intro j;rw[Nat.add_mul];omega
    simpa only[e1] using this
   ·intro x hx
    rcases List.mem_cons.1 hx with rfl | hx
    ·simp
    ·obtain⟨f,hf,hx⟩:=List.mem_flatten.1 hx
     exact List.mem_cons_of_mem _ (List.mem_flatten.2 ⟨f,List.mem_of_mem_take (List.mem_of_mem_drop hf),hx⟩)
section
variable {P:Program} {Γ:Ctx} {w0:World} {S:Own} {st:St} {o:Oper} {e:u4} {a:Act} {w:World}
theorem Core.freeze {f:Nat→SV} {h:Nat→Option bP} {β:Env} {φ:Nat→List Nat} {tm:Array Value} (hc:Core w0 S f h β φ tm w) {id:Nat} {ob0:bP} {ct:List CT} {r:List (List DC)} {u:Bool}
  (Bo:h id=some ob0) (atH:amp ob0 ct r u):Core w0 S f (dB h id (some (.imm ct r))) β (dB φ id []) tm w:=by
 have tU:∀b,Av (dB h id (some (.imm ct r))) β b→Av h β b:=by
  rintro b (⟨i,ob,hi,hb⟩ | hb)
  case inr=>exact .inr hb
  by_cases hii:i=id
  ·subst hii
   simp only[dB,if_true,Option.some.injEq] at hi
   subst hi
   simp [cb] at hb
  ·simp only[dB,hii,if_false] at hi
   exact .inl ⟨i,ob,hi,hb⟩
 have PU:=hc.dA id _ Bo
 refine hc.step (fun _=>False) (Nat.le_refl _) (fun _ _ _=>rfl) (fun b hb=> .inl (tU b hb)) (fun _ _ _ h=>h) (fun _ _=>⟨rfl,rfl⟩) ?_ ?_
 ·intro i ob hi
  by_cases hii:i=id
  ·subst hii
   simp only[dB,if_true,Option.some.injEq] at hi
   subst hi
   refine .inr ⟨⟨?_,by simp [dB]⟩,by simp [dB],by simp [dB]⟩
   obtain⟨fp,h1,h2,_⟩:=alA PU atH
   simp only[bX]
   refine⟨fp,h1,fun b hb hx=> ?_⟩
   rcases h2 b hb with eO | hn
   ·rcases hx with ⟨j,ob',hj,ie⟩ | hx
    case inr=>exact hc.aml Bo (bF PU b eO) hx
    have sV:j≠i:=by
     rintro rfl
     simp only[dB,if_true,Option.some.injEq] at hj
     subst hj
     simp [cb] at ie
    simp only[dB,sV,if_false] at hj
    exact hc.sep i j _ _ (Ne.symm sV) Bo hj b (bF PU b eO) (bF (hc.dA j _ hj) b ie)
   ·exact hn (tU b hx)
  ·simp only[dB,hii,if_false] at hi
   exact .inl ⟨fun h=>h,hi,by simp [dB,hii],fun _ _ h=>h,fun _ _=>rfl⟩
 ·intro i j oi oj sV hi hj b hb
  by_cases hii:i=id
  ·subst hii;simp [dB] at hb
  ·by_cases sR:j=id
   ·subst sR;simp [dB]
   ·simp only[dB,hii,sR,if_false] at hi hj hb ⊢
    exact hc.sep i j oi oj sV hi hj b hb
def qW (h:Nat→Option bP) (m:HJ):Prop:=∀x∈m,∃o,h x.1=some o∧amp o x.2.1 x.2.2.1 x.2.2.2
def GU (h:Nat→Option bP) (β:Env) (i:Nat):List Nat:=
 match h i with
 | some o=>cb β i o
 | none=>[]
theorem HL {h:Nat→Option bP} {β:Env} {i:Nat} {o:bP} (hi:h i=some o):GU h β i=cb β i o:=by simp only[GU,hi]
def fG (φ:Nat→List Nat):HJ→Nat→List Nat
 | []=>φ
 | x::l=>dB (fG φ l) x.1 []
theorem M6 {id:Nat} {m:HJ} (h:lU id m=true):∀x∈m,x.1≠id:=by
 induction m with
 | nil=>simp
 | cons y l ih=>
  obtain⟨i,q⟩:=y
  simp only[lU,Bool.and_eq_true,Bool.not_eq_true'] at h
  intro x hx
  rcases List.mem_cons.1 hx with rfl | hx
  ·exact Nat.ne_of_beq_eq_false h.1
  ·exact ih h.2 x hx
theorem lB {h:Nat→Option bP} {m:HJ} {id:Nat} (hn:∀x∈m,x.1≠id):fo (bE m) h id=h id:=by
 induction m with
 | nil=>rfl
 | cons y l ih=>
  obtain⟨i,e',r,u⟩:=y
  simp only[bE,fo,dB]
  rw[if_neg (fun e=>hn _ (List.mem_cons_self ..) e.symm)]
  exact ih (fun x hx=>hn x (List.mem_cons_of_mem _ hx))
theorem wR {φ:Nat→List Nat} {m:HJ} {id:Nat} (hn:∀x∈m,x.1≠id):fG φ m id=φ id:=by
 induction m with
 | nil=>rfl
 | cons y l ih=>
  simp only[fG,dB]
  rw[if_neg (fun e=>hn _ (List.mem_cons_self ..) e.symm)]
  exact ih (fun x hx=>hn x (List.mem_cons_of_mem _ hx))
theorem Core.M7 {f:Nat→SV} {h:Nat→Option bP} {β:Env} {φ:Nat→List Nat} {tm:Array Value} (hc:Core w0 S f h β φ tm w):∀(m:HJ),qW h m→d4 m=true→
  Core w0 S f (fo (bE m) h) β (fG φ m) tm w
 | [],_,_=>hc
 | (id,e',r,u)::l,hm,hn=>by
  simp only[d4,Bool.and_eq_true] at hn
  have ih:=Core.M7 hc l (fun x hx=>hm x (List.mem_cons_of_mem _ hx)) hn.2
  obtain⟨o,Bo,dT⟩:=hm _ (List.mem_cons_self ..)
  have atI:=M6 hn.1
  exact ih.freeze (id:=id) (ct:=e') (r:=r) (u:=u) (by rw[lB atI];exact Bo) dT
theorem abJ (s:List UInt8) (l m:Nat):(⟨s.toArray⟩:ByteArray).extract l m=⟨((s.take m).drop l).toArray⟩:=by
 apply ByteArray.ext
 apply Array.toList_inj.1
 rw[Lib.extract_data]
 simp [List.drop_take]
theorem afE {n:Nat} {slo shi:Option SV} {l m:Nat} {c:Bool} (h:Bl n slo shi=some (l,m,c)) (hc:c=true):
  l≤m∧m≤n∧((slo=none∧l=0)∨∃k,slo=some (.int k l))∧((shi=none∧m=n)∨∃k,shi=some (.int k m)):=by
 unfold Bl at h
 split at h
 ·simp only[Option.some.injEq,Prod.mk.injEq] at h
  obtain⟨rfl,rfl,_⟩:=h
  exact⟨Nat.zero_le _,Nat.le_refl _,.inl ⟨rfl,rfl⟩,.inl ⟨rfl,rfl⟩⟩
 ·rename_i k z
  simp only[Option.some.injEq,Prod.mk.injEq] at h
  obtain⟨rfl,rfl,rfl⟩:=h
  simp only[Bool.and_eq_true,decide_eq_true_eq] at hc
  exact⟨by omega,Nat.le_refl _,.inr ⟨k,by rw[Int.toNat_of_nonneg hc.1]⟩,.inl ⟨rfl,rfl⟩⟩
 ·rename_i k z
  simp only[Option.some.injEq,Prod.mk.injEq] at h
  obtain⟨rfl,rfl,rfl⟩:=h
  simp only[Bool.and_eq_true,decide_eq_true_eq] at hc
  exact⟨Nat.zero_le _,by omega,.inl ⟨rfl,rfl⟩,.inr ⟨k,by rw[Int.toNat_of_nonneg hc.1]⟩⟩
 ·rename_i k z k' z'
  simp only[Option.some.injEq,Prod.mk.injEq] at h
  obtain⟨rfl,rfl,rfl⟩:=h
  simp only[Bool.and_eq_true,decide_eq_true_eq] at hc
  exact⟨by omega,by omega,.inr ⟨k,by rw[Int.toNat_of_nonneg hc.1.1]⟩,.inr ⟨k',by rw[Int.toNat_of_nonneg (by omega)]⟩⟩
 ·cases h
theorem Qw {f:Nat→SV} {h:Nat→Option bP} {x:Option Operand} {s:SV} (e:(aa7 x).val f h=some (some s)):∃y,x=some y∧(oq y).val f h=some s:=by
 cases x with
 | none=>simp [aa7] at e
 | some y=>
  simp only[aa7,M.aX,Option.bind_eq_some_iff,M.ax,Option.some.injEq] at e
  obtain⟨s',h1,rfl⟩:=e
  exact⟨y,rfl,h1⟩
theorem Qx {f:Nat→SV} {h:Nat→Option bP} {x:Option Operand} (e:(aa7 x).val f h=some none):x=none:=by
 cases x with
 | none=>rfl
 | some y=>simp [aa7,Option.bind_eq_some_iff] at e
theorem Qy {x:Nat} {k:IntKind} {y:Nat} {code:BoundsCode} (h:x≤y):(Instr.sliceBound (.int k x) y code).run P w= .ok x w:=by
 simp [Instr.sliceBound,asIntOf,h]
theorem UW {lo hi:Option Operand} {slo shi:Option SV} {n cap l m:Nat} {c isS:Bool} {β:Env} {φ:Nat→List Nat} (afs:n≤cap) (hC:Core w0 S st.get st.obj β φ a.tmps w)
  (h1:(aa7 lo).val st.get st.obj=some slo) (h2:(aa7 hi).val st.get st.obj=some shi) (h:Bl n slo shi=some (l,m,c)) (hc:c=true):
  (Instr.sliceBounds isS n cap (lo.map a.eval) (hi.map a.eval) none).run P w= .ok (l,m,cap) w:=by
 obtain⟨hlm,hmn,hl,hm⟩:=afE h hc
 rcases hl with ⟨rfl,rfl⟩ | ⟨k,rfl⟩<;>rcases hm with ⟨rfl,rfl⟩ | ⟨k',rfl⟩
 ·simp [Qx h1,Qx h2,Instr.sliceBounds]
 ·obtain⟨y,rfl,hy⟩:=Qw h2
  have hy:=hC.ev hy
  simp only[bX] at hy
  simp [Qx h1,Instr.sliceBounds,hy.1,Qy (P:=P) (w:=w) (k:=k') (by omega:m≤cap)]
 ·obtain⟨y,rfl,hy⟩:=Qw h1
  have hy:=hC.ev hy
  simp only[bX] at hy
  simp [Qx h2,Instr.sliceBounds,hy.1,Qy (P:=P) (w:=w) (k:=k) hlm]
 ·obtain⟨y,rfl,hy⟩:=Qw h1
  have hy:=hC.ev hy
  obtain⟨z,rfl,hz⟩:=Qw h2
  have hz:=hC.ev hz
  simp only[bX] at hy hz
  simp [Instr.sliceBounds,hy.1,hz.1,Qy (P:=P) (w:=w) (k:=k) hlm,Qy (P:=P) (w:=w) (k:=k') (by omega:m≤cap)]
theorem anl (hR:Rel w0 S st a w) (hd:∀d,o.dst=some d→eD st.n d) {t:TypeId} {x:Operand} {lo hi:Option Operand} (ho:o.op= .slice t x lo hi none) {sx:SV} {slo shi:Option SV}
  (h1:(oq x).val st.get st.obj=some sx) (h2:(aa7 lo).val st.get st.obj=some slo) (h3:(aa7 hi).val st.get st.obj=some shi)
  (he:(an7 P t sx slo shi).val st.get st.obj=some e) (hok:e.ok=true):Good P w0 S st o e a w:=by
 unfold an7 at he
 split at he
 ·rename_i hu
  split at he
  ·rename_i s
   split at he
   ·rename_i l m c Oo
    simp only[M.ax,Option.some.injEq] at he
    subst he
    have hok:c=true:=hok
    refine cl hR hd rfl rfl fun β φ hc=> ?_
    have hx:=hc.ev h1
    simp only[bX] at hx
    have hb:=UW (P:=P) (isS:=false) (Nat.le_refl _) hc h2 h3 Oo hok
    refine⟨.string ⟨((s.take m).drop l).toArray⟩, ?_, ?_⟩
    ·simp [execOp,ho,hx.1,Instr.sliceAt,Instr.slice,run_underlying hu,Mu,hb,abJ]
    ·unfold bX
     refine⟨rfl, ?_⟩
     simp only[List.length_drop,List.length_take]
     omega
   ·simp at he
  ·simp at he
 ·rename_i et hu
  have run:∀(q:Option Addr) (n cap l m:Nat) (c:Bool) (i:TypeInfo) (β:Env) (φ:Nat→List Nat),Core w0 S st.get st.obj β φ a.tmps w→n≤cap→P.info? et=some i→Bl n slo shi=some (l,m,c)→c=true→
    a.eval x= .slice q n cap→(execOp a.eval o).run P w= .ok (.value (.slice (if cap=l then q else q.map (·.add (l*i.size))) (m - l) (cap - l))) w:=by
   intro q n cap l m c i β φ hc afs hi Oo hcc hx
   have hb:=UW (P:=P) (isS:=true) afs hc h2 h3 Oo hcc
   simp [execOp,ho,hx,Instr.sliceAt,Instr.slice,run_underlying hu,hb,sizeOf,typeInfo,hi]
  split at he
  ·rename_i ct r
   cases hz:eA P et ct.length
   ·simp [hz] at he
   simp only[hz,cond_true] at he
   obtain⟨i,hi,hsz⟩:=ep hz
   split at he
   ·rename_i l m c Oo
    simp only[M.ax,Option.some.injEq] at he
    subst he
    have hok:c=true:=hok
    refine cl hR hd rfl rfl fun β φ hc=> ?_
    have hx:=hc.ev h1
    simp only[bX] at hx
    obtain⟨fp,hr,tU⟩:=hx
    obtain⟨q,n,cap,hv,hn,afs,_,_⟩:=vI hr
    obtain⟨hlm,hmn,_⟩:=afE Oo hok
    rw[hv] at hr
    obtain⟨fp',Ji,hss⟩:=aiZ hr hlm hmn
    refine⟨_,run q n cap l m c i β φ hc afs hi (by rw[←hn];exact Oo) hok hv, ?_⟩
    simp only[bX]
    rw[hsz]
    exact⟨fp',Ji,fun b hb=>tU b (hss b hb)⟩
   ·simp at he
  ·rename_i id
   simp only[M.eB,Option.bind_eq_some_iff] at he
   obtain⟨ob,dT,he⟩:=he
   split at he
   ·rename_i t' ct r u
    cases hz:Nat.beq t' et && eA P et ct.length
    ·simp [hz] at he
    simp only[hz,cond_true] at he
    simp only[Bool.and_eq_true] at hz
    obtain⟨i,hi,hsz⟩:=ep hz.2
    split at he
    ·rename_i l m c Oo
     simp only[M.ax,Option.some.injEq] at he
     subst he
     have hok:c=true:=hok
     obtain⟨β,φ,hc⟩:=hR.core
     have hx:=hc.ev h1
     simp only[bX] at hx
     have hcf:=hc.freeze dT (.inl ⟨_,_,rfl⟩)
     have aqa:=(hcf.dA id (.imm ct r) (by simp [dB])).1
     simp only[bX] at aqa
     obtain⟨fp,hr,tU⟩:=aqa
     obtain⟨q,n,cap,hv,hn,afs,_,_⟩:=vI hr
     obtain⟨hlm,hmn,_⟩:=afE Oo hok
     rw[hv] at hr
     obtain⟨fp',Ji,hss⟩:=aiZ hr hlm hmn
     refine oe hR hd (run q n cap l m c i β φ hc afs hi (by rw[←hn];exact Oo) hok (hx.1.trans hv)) hR.kept ⟨β,_,hcf, ?_⟩
     simp only[bX]
     rw[hsz]
     exact⟨fp',Ji,fun b hb=>tU b (hss b hb)⟩
    ·simp at he
   ·rename_i ct r
    cases hz:eA P et ct.length
    ·simp [hz] at he
    simp only[hz,cond_true] at he
    obtain⟨i,hi,hsz⟩:=ep hz
    split at he
    ·rename_i l m c Oo
     simp only[M.ax,Option.some.injEq] at he
     subst he
     have hok:c=true:=hok
     refine cl hR hd rfl rfl fun β φ hc=> ?_
     have hx:=hc.ev h1
     simp only[bX] at hx
     have aqa:=(hc.dA id _ dT).1
     simp only[bX] at aqa
     obtain⟨fp,hr,tU⟩:=aqa
     obtain⟨q,n,cap,hv,hn,afs,_,_⟩:=vI hr
     obtain⟨hlm,hmn,_⟩:=afE Oo hok
     rw[hv] at hr
     obtain⟨fp',Ji,hss⟩:=aiZ hr hlm hmn
     refine⟨_,run q n cap l m c i β φ hc afs hi (by rw[←hn];exact Oo) hok (hx.1.trans hv), ?_⟩
     simp only[bX]
     rw[hsz]
     exact⟨fp',Ji,fun b hb=>tU b (hss b hb)⟩
    ·simp at he
   ·simp at he
  ·simp at he
 ·simp at he
end
end Go.Proofs.YthpmalpdnnbkgaaGreat.Vm
namespace Go.Proofs.YthpmalpdnnbkgaaGreat.Vm
theorem ao3 (off:Nat):∀(vs:List Value) (k:Nat) (cs:Array Value),off+k+vs.length≤cs.size→
  ((vs.zipIdx k).foldl (fun cs (x:Value×Nat)=>cs.setIfInBounds (off+x.2) x.1) cs).toList=cs.toList.take (off+k)++(vs++cs.toList.drop (off+k+vs.length))
 | [],k,cs,h=>by simp
 | v::vs,k,cs,h=>by
  simp only[List.zipIdx_cons,List.foldl_cons]
  simp only[List.length_cons] at h
  rw[ao3 off vs (k+1) _ (by simp;omega)]
  have e1:(cs.setIfInBounds (off+k) v).toList=cs.toList.set (off+k) v:=by simp
  have hl:off+k<cs.toList.length:=by simp;omega
  rw[e1]
  have e2:(cs.toList.set (off+k) v).take (off+(k+1))=cs.toList.take (off+k)++[v]:=by
   rw[←Nat.add_assoc,List.take_succ_eq_append_getElem (by simpa using hl),List.take_set_of_le (Nat.le_refl _)]
   simp
  have e3:(cs.toList.set (off+k) v).drop (off+(k+1)+vs.length)=cs.toList.drop (off+k+(vs.length+1)):=by
   rw[List.drop_set_of_lt (by omega)]
   congr 1
   omega
  rw[e2,e3]
  simp
theorem abe {place:Nat→Option (Nat×Nat)} {cells:Array Value} {i off:Nat} {v:Value} {rest:List (Nat×Value)} (hp:place i=some (off,v.cells.size)) (hl:off+v.cells.size≤cells.size):
  Instr.fill place cells ((i,v)::rest)=Instr.fill place (cells.toList.take off++(v.cells.toList++cells.toList.drop (off+v.cells.size))).toArray rest:=by
 have h1:(v.cells.zipIdx.foldl (fun cs (x:Value×Nat)=>cs.setIfInBounds (off+x.2) x.1) cells)=(cells.toList.take off++(v.cells.toList++cells.toList.drop (off+v.cells.size))).toArray:=by
  apply Array.toList_inj.1
  rw[←Array.foldl_toList,Array.toList_zipIdx]
  have:=ao3 off v.cells.toList 0 cells (by simpa using hl)
  simpa using this
 simp only[Instr.fill,hp]
 rw[if_neg (by simp;omega)]
 exact congrArg (fun x=>Instr.fill place x rest) h1
section
variable {P:Program} {Γ:Ctx} {w0:World} {S:Own} {st:St} {o:Oper} {e:u4} {a:Act} {w:World}
theorem DF {av:Nat→Prop} {β:Env} {f:Nat→SV} {h:Nat→Option bP} {s:SV} {v:Value} {cs:List SV} (hs:bX w av β s v) (hc:(dF s).val f h=some cs):
  bt w av β cs v.cells.toList∧∀x∈v.cells.toList,x.oneCell'=true:=by
 have single:v.oneCell'=true→cs=[s]→bt w av β cs v.cells.toList∧∀x∈v.cells.toList,x.oneCell'=true:=by
  intro fm hcs
  have ai0:v.cells= #[v]:=by cases v<;>first | rfl | (simp [Value.oneCell'] at fm)
  rw[ai0,hcs]
  simp only[List.mem_singleton,forall_eq,bt]
  exact⟨⟨v,[],rfl,hs,rfl⟩,fm⟩
 cases s with
 | Jq=>simp [dF] at hc
 | undef=>simp [dF] at hc
 | tup l=>simp [dF] at hc
 | clo g l=>simp [dF] at hc
 | osl id lo z=>simp [dF] at hc
 | agg l=>
  simp only[dF,M.ax,Option.some.injEq] at hc
  subst hc
  simp only[bX] at hs
  obtain⟨vs,rfl,h1,h2⟩:=hs
  simpa [Value.cells] using ⟨h1,h2⟩
 | kb b=>simp only[dF,M.ax,Option.some.injEq] at hc;exact single (by simp only[bX] at hs;subst hs;rfl) hc.symm
 | int k n=>simp only[dF,M.ax,Option.some.injEq] at hc;exact single (by simp only[bX] at hs;rw[hs.1];rfl) hc.symm
 | bool b=>simp only[dF,M.ax,Option.some.injEq] at hc;exact single (by simp only[bX] at hs;subst hs;rfl) hc.symm
 | str b=>simp only[dF,M.ax,Option.some.injEq] at hc;exact single (by simp only[bX] at hs;rw[hs.1];rfl) hc.symm
 | sl e r=>simp only[dF,M.ax,Option.some.injEq] at hc;exact single (by simp only[bX] at hs;obtain⟨fp,hr,_⟩:=hs;exact hr.one) hc.symm
 | nil=>simp only[dF,M.ax,Option.some.injEq] at hc;exact single (by simp only[bX] at hs;subst hs;rfl) hc.symm
 | own id=>simp only[dF,M.ax,Option.some.injEq] at hc;exact single (by simp only[bX] at hs;exact hs.2) hc.symm
 | ptr id off=>simp only[dF,M.ax,Option.some.injEq] at hc;exact single (by simp only[bX] at hs;subst hs;rfl) hc.symm
 | Ou e r off=>simp only[dF,M.ax,Option.some.injEq] at hc;exact single (by simp only[bX] at hs;obtain⟨b,o,fp,hv,_⟩:=hs;subst hv;rfl) hc.symm
 | EC id i z off=>simp only[dF,M.ax,Option.some.injEq] at hc;exact single (by simp only[bX] at hs;obtain⟨g,_,hv⟩:=hs;subst hv;rfl) hc.symm
theorem F0 {av:Nat→Prop} {β:Env} :∀(l:List Value),bt w av β (l.map ofConst) l
 | []=>by simp [bt]
 | v::l=>by
  simp only[List.map_cons,bt]
  exact⟨v,l,rfl,UT v,F0 l⟩
theorem apy {fs:Array Field} {places:List (Nat×Nat)} (h:fs.toList.mapM (fun f=>(P.info? f.type).map fun i=>(f.offset,i.size))=some places) {i:Nat} {f:Field} (hf:fs[i]? =some f):
  ∃ti,P.info? f.type=some ti∧places.toArray[i]? =some (f.offset,ti.size):=by
 have hf':fs.toList[i]? =some f:=by simpa using hf
 clear hf
 generalize fs.toList=l at h hf'
 induction l generalizing places i with
 | nil=>simp at hf'
 | cons g l ih=>
  simp only[List.mapM_cons,Option.bind_eq_bind,Option.pure_def] at h
  cases hi:P.info? g.type with
  | none=>simp [hi] at h
  | some ti=>
   cases hr:l.mapM (fun f=>(P.info? f.type).map fun i=>(f.offset,i.size)) with
   | none=>simp [hi,hr] at h
   | some rest=>
    simp [hi,hr] at h
    subst h
    cases i with
    | zero=>
     simp at hf'
     subst hf'
     exact⟨ti,hi,by simp⟩
    | succ i=>
     obtain⟨tj,h1,h2⟩:=ih hr (by simpa using hf')
     exact⟨tj,h1,by simpa using h2⟩
theorem alC {β:Env} {φ:Nat→List Nat} (hc:Core w0 S st.get st.obj β φ a.tmps w) {fs:Array Field} {places:List (Nat×Nat)}
  (hp:fs.toList.mapM (fun f=>(P.info? f.type).map fun i=>(f.offset,i.size))=some places):
  ∀(parts:List (Nat×Operand)) (cells:List SV) (cs:List SV) (vs:List Value),(aa6 P fs parts cells).val st.get st.obj=some cs→bt w (Av st.obj β) β cells vs→(∀x∈vs,x.oneCell'=true)→
  ∃us:List Value,Instr.fill (places.toArray[·]?) vs.toArray (parts.map fun x=>(x.1,a.eval x.2))=some us.toArray∧bt w (Av st.obj β) β cs us∧∀x∈us,x.oneCell'=true
 | [],cells,cs,vs,hb,hr,h1=>by
  simp only[aa6,M.ax,Option.some.injEq] at hb
  subst hb
  exact⟨vs,by simp [Instr.fill],hr,h1⟩
 | (i,x)::rest,cells,cs,vs,hb,hr,h1=>by
  simp only[aa6] at hb
  split at hb
  ·rename_i f hf
   simp only[M.aX,Option.bind_eq_some_iff] at hb
   obtain⟨s,hs,ccs,hcc,hb⟩:=hb
   cases hz:eA P f.type ccs.length && Nat.ble (f.offset+ccs.length) cells.length
   ·simp [hz] at hb
   simp only[hz,cond_true] at hb
   simp only[Bool.and_eq_true] at hz
   obtain⟨ti,hti,hpl⟩:=apy hp hf
   obtain⟨ti',arn,hsz⟩:=ep hz.1
   rw[hti] at arn
   injection arn with arn
   subst arn
   have hle:=Nat.le_of_ble_eq_true hz.2
   obtain⟨hcs,fm⟩:=DF (hc.ev hs) hcc
   have hlen:=bt.length _ _ hr
   have anm:=bt.length _ _ hcs
   have fy:(a.eval x).cells.size=ti.size:=by simpa [hsz] using anm
   have hfit:f.offset+(a.eval x).cells.size≤vs.toArray.size:=by simp;omega
   have jj:bt w (Av st.obj β) β (cells.take f.offset++(ccs++cells.drop (f.offset+ccs.length))) (vs.take f.offset++((a.eval x).cells.toList++vs.drop (f.offset+(a.eval x).cells.size))):=by
    refine bt.append _ _ _ _ (bt.take _ _ _ hr) (bt.append _ _ _ _ hcs ?_)
    have:ccs.length=(a.eval x).cells.size:=by simpa using anm.symm
    rw[this]
    exact bt.drop _ _ _ hr
   obtain⟨us,abK,hus,ai1⟩:=alC hc hp rest _ cs _ hb jj (by
    intro y hy
    simp only[List.mem_append] at hy
    rcases hy with hy | hy | hy
    ·exact h1 y (List.mem_of_mem_take hy)
    ·exact fm y hy
    ·exact h1 y (List.mem_of_mem_drop hy))
   refine⟨us, ?_,hus,ai1⟩
   simp only[List.map_cons]
   rw[abe (off:=f.offset) (by rw[fy];exact hpl) hfit]
   simpa using abK
  ·simp at hb
theorem zn {f:Nat→SV} {h:Nat→Option bP} {t:TypeId} {z:List SV} (hz:(Bk P t).val f h=some z):
  ∃i zv,P.info? t=some i∧i.zero=some zv∧z=zv.cells.toList.map ofConst∧∀x∈zv.cells.toList,x.oneCell'=true:=by
 unfold Bk at hz
 split at hz
 ·rename_i i hi
  split at hz
  ·rename_i zv hzv
   cases ha:zv.cells.toList.all (·.oneCell')
   ·simp [ha] at hz
   ·simp only[ha,cond_true,M.ax,Option.some.injEq] at hz
    exact⟨i,zv,hi,hzv,hz.symm,fun x hx=>List.all_eq_true.1 ha x hx⟩
  ·simp at hz
 ·simp at hz
theorem ano (hR:Rel w0 S st a w) (hd:∀d,o.dst=some d→eD st.n d) {t:TypeId} {parts:Array (Nat×Operand)} (ho:o.op= .build t parts) {fs:Array Field} {places:List (Nat×Nat)} {z cs:List SV}
  (hu:P.underlying t=some (.struct fs)) (hp:fs.toList.mapM (fun f=>(P.info? f.type).map fun i=>(f.offset,i.size))=some places)
  (hz:(Bk P t).val st.get st.obj=some z) (hb:(aa6 P fs parts.toList z).val st.get st.obj=some cs) (he:e= {sv:= .agg cs}):Good P w0 S st o e a w:=by
 subst he
 refine cl hR hd rfl rfl fun β φ hc=> ?_
 obtain⟨i,zv,hi,hzv,rfl,fm⟩:=zn hz
 obtain⟨us,abK,hus,ai1⟩:=alC hc hp parts.toList _ cs _ hb (F0 zv.cells.toList) fm
 refine⟨.agg us.toArray, ?_,by unfold bX;exact⟨us,rfl,hus,ai1⟩⟩
 have aso:P.built t (parts.map fun x=>(x.1,a.eval x.2)).toList=some us.toArray:=by
  simp only[Program.built,hi,hu,hzv,hp]
  simpa using abK
 have:=run_build (P:=P) w t (parts.map fun x=>(x.1,a.eval x.2)) us.toArray aso
 simp [execOp,ho,this]
end
end Go.Proofs.YthpmalpdnnbkgaaGreat.Vm
namespace Go.Proofs.YthpmalpdnnbkgaaGreat.Vm
def Env.UX (β:Env) (id b:Nat):Env:=⟨dB β.Bn id b,β.val,β.Ol,β.nb⟩
def Env.XW (β:Env) (id:Nat) (v:Value):Env:=⟨β.Bn,dB β.val id v,β.Ol,β.nb⟩
theorem alg {i:Nat} {m n:HJ} :lU i (m++n)=(lU i m && lU i n):=by
 induction m with
 | nil=>simp [lU]
 | cons x l ih=>obtain⟨j,q⟩:=x;simp [lU,ih,Bool.and_assoc]
theorem Oq {m n:HJ} (h:d4 (m++n)=true):d4 m=true∧d4 n=true∧∀x∈m,∀y∈n,x.1≠y.1:=by
 induction m with
 | nil=>exact⟨rfl,by simpa using h,by simp⟩
 | cons x l ih=>
  obtain⟨j,q⟩:=x
  simp only[List.cons_append,d4,alg,Bool.and_eq_true] at h
  obtain⟨h1,h2,h3⟩:=ih h.2
  refine⟨by simp [d4,h.1.1,h1],h2,fun x hx y hy=> ?_⟩
  rcases List.mem_cons.1 hx with rfl | hx
  ·exact fun e=>M6 h.1.2 y hy e.symm
  ·exact h3 x hx y hy
section
variable {P:Program} {Γ:Ctx} {w0:World} {S:Own} {st:St} {o:Oper} {e:u4} {a:Act} {w:World}
variable {f:Nat→SV} {h:Nat→Option bP} {β:Env} {φ:Nat→List Nat} {tm:Array Value}
theorem HM {m:HJ} {b:Nat} (hb:Av (fo (bE m) h) β b):Av h β b:=by
 induction m generalizing b with
 | nil=>exact hb
 | cons x l ih=>
  obtain⟨i,e',r,u⟩:=x
  rcases hb with ⟨j,ob,hj,ie⟩ | hb
  case inr=>exact .inr hb
  simp only[bE,fo,dB] at hj
  split at hj
  ·injection hj with hj
   subst hj
   simp [cb] at ie
  ·exact ih (.inl ⟨j,ob,hj,ie⟩)
theorem tW (hc:Core w0 S f h β φ tm w) {m:HJ} (hm:qW h m) {x:Nat×List CT×List (List DC)×Bool} (hx:x∈m) {b:Nat} (hb:b∈GU h β x.1):¬Av (fo (bE m) h) β b:=by
 rintro (⟨j,ob,hj,ie⟩ | GR)
 case inr=>
  obtain⟨o,Bo,_⟩:=hm x hx
  rw[HL Bo] at hb
  exact hc.aml Bo (bF (hc.dA _ _ Bo) b hb) GR
 obtain⟨o,Bo,_⟩:=hm x hx
 rw[HL Bo] at hb
 have frozen:∀(l:HJ) (j:Nat),(∃y∈l,y.1=j)→∃e' r,fo (bE l) h j=some (.imm e' r):=by
  intro l
  induction l with
  | nil=>rintro j ⟨y,hy,_⟩;simp at hy
  | cons z l ih=>
   obtain⟨i,e',r,u⟩:=z
   rintro j ⟨y,hy,rfl⟩
   simp only[bE,fo,dB]
   by_cases hyi:y.1=i
   ·rw[if_pos hyi];exact⟨e',r,rfl⟩
   ·rw[if_neg hyi]
    rcases List.mem_cons.1 hy with rfl | hy
    ·exact absurd rfl hyi
    ·exact ih y.1 ⟨y,hy,rfl⟩
 by_cases hjm:∃y∈m,y.1=j
 ·obtain⟨e',r,lR⟩:=frozen m j hjm
  rw[lR] at hj
  injection hj with hj
  subst hj
  simp [cb] at ie
 ·have hj':h j=some ob:=by rw[lB (fun y hy e=>hjm ⟨y,hy,e⟩)] at hj;exact hj
  have sV:x.1≠j:=fun e=>hjm ⟨x,hx,e⟩
  exact hc.sep x.1 j _ _ sV Bo hj' b (bF (hc.dA x.1 _ Bo) b hb) (bF (hc.dA j _ hj') b ie)
theorem HA (hc:Core w0 S f h β φ tm w) {ct:CT} {s:SV} {v:Value} {q:DC×HJ×Bool} (hs:bX w (Av h β) β s v) (hq:(Jc ct s).val f h=some q):
  ∃fp,RdC w ct q.1 v fp∧qW h q.2.1∧d4 q.2.1=true∧(∀b∈fp,(¬Av h β b)∨∃x∈q.2.1,b∈GU h β x.1)∧
   (q.2.2=true→(∀b∈fp,∃x∈q.2.1,b∈φ x.1)∧fp.Nodup):=by
 have plain:∀(d:DC) (fr:Bool) (fp:List Nat),q=(d,[],fr)→RdC w ct d v fp→(∀b∈fp,¬Av h β b)→(fr=true→fp=[])→
   ∃fp,RdC w ct q.1 v fp∧qW h q.2.1∧d4 q.2.1=true∧(∀b∈fp,(¬Av h β b)∨∃x∈q.2.1,b∈GU h β x.1)∧(q.2.2=true→(∀b∈fp,∃x∈q.2.1,b∈φ x.1)∧fp.Nodup):=by
  rintro d fr fp rfl hr tU lR
  refine⟨fp,hr,by simp [qW],rfl,fun b hb=> .inl (tU b hb),fun hf=> ?_⟩
  rw[lR hf]
  simp
 unfold Jc at hq
 split at hq
 ·rename_i k n
  split at hq
  ·rename_i k'
   by_cases hk:k=k'
   ·subst hk
    simp only[decide_true,cond_true,M.ax,Option.some.injEq] at hq
    simp only[bX] at hs
    exact plain _ _ [] hq.symm (by unfold RdC;exact⟨n,rfl,hs.1,hs.2,rfl⟩) (by simp) (by simp)
   ·simp [hk] at hq
  ·simp at hq
 ·split at hq
  ·simp only[M.ax,Option.some.injEq] at hq
   simp only[bX] at hs
   exact plain _ _ [] hq.symm (by unfold RdC;exact⟨_,rfl,hs,rfl⟩) (by simp) (by simp)
  ·simp at hq
 ·split at hq
  ·simp only[M.ax,Option.some.injEq] at hq
   simp only[bX] at hs
   exact plain _ _ [] hq.symm (by unfold RdC;exact⟨_,rfl,hs,rfl⟩) (by simp) (by simp)
  ·simp at hq
 ·split at hq
  ·simp only[M.ax,Option.some.injEq] at hq
   simp only[bX] at hs
   exact plain _ _ [] hq.symm (by unfold RdC;exact⟨_,rfl,hs.1,hs.2,rfl⟩) (by simp) (by simp)
  ·simp at hq
 ·rename_i e' r
  split at hq
  ·rename_i e''
   cases hb:dG e' e''
   ·simp [hb] at hq
   ·simp only[hb,cond_true,M.ax,Option.some.injEq] at hq
    have:=dR _ _ hb
    subst this
    simp only[bX] at hs
    obtain⟨fp,hr,tU⟩:=hs
    exact plain _ _ fp hq.symm hr tU (by simp)
  ·simp at hq
 ·split at hq
  ·simp only[M.ax,Option.some.injEq] at hq
   simp only[bX] at hs
   subst hs
   exact plain _ _ [] hq.symm (PR rfl (Nat.le_refl _) (Nat.zero_le _) (.inl ⟨rfl,rfl⟩)) (by simp) (by simp)
  ·simp at hq
 ·rename_i id
  split at hq
  ·rename_i e'
   simp only[bX] at hs
   obtain⟨hs,_⟩:=hs
   subst hs
   simp only[M.eB,Option.bind_eq_some_iff] at hq
   obtain⟨ob,dT,hq⟩:=hq
   split at hq
   ·rename_i t' e'' r fz u
    cases hb:dG e'' e'
    ·simp [hb] at hq
    ·simp only[hb,cond_true,M.ax,Option.some.injEq] at hq
     have:=dR _ _ hb
     subst this hq
     obtain⟨fp,h1,h2,h3⟩:=fi (hc.dA id _ dT)
     refine⟨fp,h1, ?_,rfl,fun b hb=> ?_,fun hu=>⟨fun b hb=>⟨_,List.mem_singleton.2 rfl,(h3 hu).1 b hb⟩,(h3 hu).2 (hc.fresh id _ dT).1⟩⟩
     ·intro x hx
      rw[List.mem_singleton] at hx
      subst hx
      exact⟨_,dT,.inl ⟨t',fz,rfl⟩⟩
     ·rcases h2 b hb with hx | hx
      ·exact .inr ⟨_,List.mem_singleton.2 rfl,by rw[HL dT];exact hx⟩
      ·exact .inl hx
   ·rename_i e'' r
    cases hb:dG e'' e'
    ·simp [hb] at hq
    ·simp only[hb,cond_true,M.ax,Option.some.injEq] at hq
     have:=dR _ _ hb
     subst this
     obtain⟨h1,_⟩:=hc.dA id _ dT
     simp only[bX] at h1
     obtain⟨fp,hr,tU⟩:=h1
     exact plain _ _ fp hq.symm hr tU (by simp)
   ·rename_i t' e'' ts r
    cases hb:dG e'' e'
    ·simp [hb] at hq
    ·simp only[hb,cond_true,M.ax,Option.some.injEq] at hq
     have:=dR _ _ hb
     subst this hq
     have hmo:amp (.deep t' e'' ts r none) e'' r true:= .inr ⟨t',ts,rfl,rfl⟩
     obtain⟨fp,h1,h2,h3⟩:=alA (hc.dA id _ dT) hmo
     refine⟨fp,h1, ?_,rfl,fun b hb=> ?_,fun hu=>⟨fun b hb=>⟨_,List.mem_singleton.2 rfl,(h3 hu).1 b hb⟩,(h3 hu).2 (hc.fresh id _ dT).1⟩⟩
     ·intro x hx
      rw[List.mem_singleton] at hx
      subst hx
      exact⟨_,dT,hmo⟩
     ·rcases h2 b hb with hx | hx
      ·exact .inr ⟨_,List.mem_singleton.2 rfl,by rw[HL dT];exact hx⟩
      ·exact .inl hx
   ·simp at hq
  ·simp at hq
 ·simp at hq
theorem HB {m n:HJ} (h1:qW h m) (h2:qW h n):qW h (m++n):=fun x hx=>by
 rcases List.mem_append.1 hx with hx | hx
 ·exact h1 x hx
 ·exact h2 x hx
theorem apart (hc:Core w0 S f h β φ tm w) {m n:HJ} (hm:qW h m) (hn:qW h n) (sV:∀x∈m,∀y∈n,x.1≠y.1) {p q:List Nat}
  (hp:∀b∈p,∃x∈m,b∈φ x.1) (hq:∀b∈q,∃x∈n,b∈φ x.1) (np:p.Nodup) (nq:q.Nodup):(p++q).Nodup:=by
 rw[List.nodup_append]
 refine⟨np,nq,fun b hb c PV hbc=> ?_⟩
 subst hbc
 obtain⟨x,hx,hbx⟩:=hp b hb
 obtain⟨y,hy,hby⟩:=hq b PV
 obtain⟨_,h1,_⟩:=hm x hx
 obtain⟨_,h2,_⟩:=hn y hy
 exact hc.sep x.1 y.1 _ _ (sV x hx y hy) h1 h2 b hbx hby
theorem DG (hc:Core w0 S f h β φ tm w):∀(cts:List CT) (lE:List SV) (vs:List Value) (q:List DC×HJ×Bool),bt w (Av h β) β lE vs→(ou cts lE).val f h=some q→
  ∃fp,RdL w cts q.1 (fun j=>vs[j]?) fp∧qW h q.2.1∧(∀b∈fp,(¬Av h β b)∨∃x∈q.2.1,b∈GU h β x.1)∧
   (q.2.2=true→(∀b∈fp,∃x∈q.2.1,b∈φ x.1)∧(d4 q.2.1=true→fp.Nodup))
 | [],[],vs,q,hs,hq=>by
  simp only[ou,M.ax,Option.some.injEq] at hq
  subst hq
  exact⟨[],by simp [RdL],by simp [qW],by simp,by simp⟩
 | [],_::_,vs,q,hs,hq=>by simp [ou] at hq
 | _::_,[],vs,q,hs,hq=>by simp [ou] at hq
 | c::cs,s::ss,vs,q,hs,hq=>by
  simp only[bt] at hs
  obtain⟨v,l,rfl,h1,h2⟩:=hs
  simp only[ou,M.aX,Option.bind_eq_some_iff,M.ax,Option.some.injEq] at hq
  obtain⟨q1,d6,q2,Bc,rfl⟩:=hq
  obtain⟨f1,r1,m1,n1,a1,u1⟩:=HA hc h1 d6
  obtain⟨f2,r2,m2,a2,u2⟩:=DG hc cs ss l q2 h2 Bc
  refine⟨f1++f2, ?_,HB m1 m2, ?_, ?_⟩
  ·simp only[RdL]
   exact⟨q1.1,q2.1,v,f1,f2,rfl,by simp,r1,by simpa using r2,rfl⟩
  ·intro b hb
   rcases List.mem_append.1 hb with hb | hb
   ·rcases a1 b hb with hx | ⟨x,hx,hbx⟩
    ·exact .inl hx
    ·exact .inr ⟨x,List.mem_append_left _ hx,hbx⟩
   ·rcases a2 b hb with hx | ⟨x,hx,hbx⟩
    ·exact .inl hx
    ·exact .inr ⟨x,List.mem_append_right _ hx,hbx⟩
  ·intro hu
   simp only[Bool.and_eq_true] at hu
   refine⟨fun b hb=> ?_,fun hn=> ?_⟩
   ·rcases List.mem_append.1 hb with hb | hb
    ·obtain⟨x,hx,hbx⟩:=(u1 hu.1).1 b hb
     exact⟨x,List.mem_append_left _ hx,hbx⟩
    ·obtain⟨x,hx,hbx⟩:=(u2 hu.2).1 b hb
     exact⟨x,List.mem_append_right _ hx,hbx⟩
   ·obtain⟨_,hn2,sV⟩:=Oq hn
    exact apart hc m1 m2 sV (u1 hu.1).1 (u2 hu.2).1 (u1 hu.1).2 ((u2 hu.2).2 hn2)
theorem Core.create (hc:Core w0 S f h β φ tm w) {w':World} {β':Env} {id:Nat} {ob:bP} {φn:List Nat} (hs:w.heap.size≤w'.heap.size) (hw:∀b,b<w.heap.size→w'.heap[b]? =w.heap[b]?)
  (hf:∀i,id ∉ l5 (f i)) (ho:∀j o,h j=some o→id ∉ oy o) (hn:h id=none) (MF:∀j,j≠id→β'.val j=β.val j∧β'.Bn j=β.Bn j)
  (PW:∀b∈cb β' id ob,w.heap.size≤b) (PU:Mt w' (Av (dB h id (some ob)) β') β' id ob φn) (hnd:φn.Nodup)
  (hal:∀b∈φn,((w0.heap.size≤b∨S b)∧b<w'.heap.size)∧∀j o,h j=some o→b ∉ φ j) (GR:β'.Ol=β.Ol:=by rfl) (hnb:∀j,j≠id→β'.nb j=β.nb j:=by intro _ _;rfl):Core w0 S f (dB h id (some ob)) β' (dB φ id φn) tm w':=by
 have Qz:∀j o,j≠id→cb β' j o=cb β j o:=by
  intro j o hj
  cases o<;>simp [cb,MF j hj,hnb j hj]
 refine hc.aiU (fun i=>i=id) hs (fun b hb _=>hw b hb) ?_ (fun i j hj e=>hf i (e ▸ hj)) MF ?_ ?_ GR
 ·rintro b (⟨j,oj,hj,ie⟩ | hb)
  case inr=>exact .inl (.inr (GR ▸ hb))
  by_cases sR:j=id
  ·subst sR
   simp only[dB,if_true,Option.some.injEq] at hj
   subst hj
   exact .inr (PW b ie)
  ·simp only[dB,sR,if_false] at hj
   rw[Qz j oj sR] at ie
   exact .inl (.inl ⟨j,oj,hj,ie⟩)
 ·intro j oj hj
  by_cases sR:j=id
  ·subst sR
   simp only[dB,if_true,Option.some.injEq] at hj
   subst hj
   exact .inr ⟨by simpa [dB] using PU,by simpa [dB] using hnd,fun b hb=>(hal b (by simpa [dB] using hb)).1⟩
  ·simp only[dB,sR,if_false] at hj
   refine .inl ⟨sR,hj,hnb j sR,by simp [dB,sR],fun i hi e=>ho j oj hj (e ▸ hi),fun b hb=>hw b ?_⟩
   exact ((hc.fresh j oj hj).2 b (bF (hc.dA j oj hj) b hb)).2
 ·intro i j oi oj sV hi hj b hb
  by_cases hii:i=id
  ·subst hii
   have Jj:j≠i:=Ne.symm sV
   simp only[dB,Jj,if_false] at hj
   simp only[dB,if_true] at hb
   simp only[dB,Jj,if_false]
   exact (hal b hb).2 j oj hj
  ·simp only[dB,hii,if_false] at hi hb
   by_cases sR:j=id
   ·subst sR
    simp only[dB,if_true]
    exact fun hb'=>(hal b hb').2 i oi hi hb
   ·simp only[dB,sR,if_false] at hj ⊢
    exact hc.sep i j oi oj sV hi hj b hb
theorem bt.beside {w':World} {β':Env} {id:Nat} {ob:bP} (hs:w.heap.size≤w'.heap.size) (hw:∀b,b<w.heap.size→w'.heap[b]? =w.heap[b]?)
  (MF:∀j,j≠id→β'.val j=β.val j∧β'.Bn j=β.Bn j) (PW:∀b∈cb β' id ob,w.heap.size≤b) {ss:List SV} {vs:List Value} (hr:bt w (Av h β) β ss vs) (hi:id ∉ jI ss) (GR:β'.Ol=β.Ol:=by rfl) (hnb:∀j,j≠id→β'.nb j=β.nb j:=by intro _ _;rfl):
  bt w' (Av (dB h id (some ob)) β') β' ss vs:=by
 refine bt.mono hs (fun b hb _=>hw b hb) ?_ ss vs hr (fun j hj=>MF j (fun e=>hi (e ▸ hj)))
 rintro b (⟨j,oj,hj,ie⟩ | hb)
 case inr=>exact .inl (.inr (GR ▸ hb))
 by_cases sR:j=id
 ·subst sR
  simp only[dB,if_true,Option.some.injEq] at hj
  subst hj
  exact .inr (PW b ie)
 ·simp only[dB,sR,if_false] at hj
  refine .inl (.inl ⟨j,oj,hj, ?_⟩)
  cases oj<;>simp only[cb,MF j sR,hnb j sR] at ie ⊢ <;>exact ie
structure jr (st:St) (d:Nat):Prop where
 slot:∀i,∀j∈l5 (st.get i),j / 64≠d
 obj:∀j ob,st.obj j=some ob→j / 64≠d∧∀k∈oy ob,k / 64≠d
theorem uX (d k:Nat) (hk:k<64):bD d k / 64=d:=by unfold bD;omega
theorem Kept.alloc (hk:Kept S w0 w) (ob:Obj):Kept S w0 (w.alloc ob):=
 ⟨hk.os,hk.tape,hk.output,by have:=hk.size;simp;omega,fun k h1 h2=>(by show (w.heap.push ob)[k]? =_;rw[Array.getElem?_push,if_neg (by have:=hk.size;omega)];exact hk.block k h1 h2)⟩
theorem Kept.drew (hk:Kept S w0 w):Kept S w0 w.drew:=⟨hk.os,hk.tape,hk.output,hk.size,hk.block⟩
theorem qS (ob:Obj):(w.alloc ob).heap.size=w.heap.size+1:=by simp
theorem EH (ob:Obj):(w.alloc ob).heap[w.heap.size]? =some ob:=heap_alloc_new w ob
theorem alloc_old (ob:Obj) (b:Nat) (hb:b<w.heap.size):(w.alloc ob).heap[b]? =w.heap[b]? :=by
 show (w.heap.push ob)[b]? =_
 rw[Array.getElem?_push,if_neg (by omega)]
theorem abL (v:Value):l5 (ofConst v)=[]:=by
 unfold ofConst
 split
 ·rfl
 ·cases inR _ _<;>rfl
 ·generalize Nat.ble _ _=c
  cases c<;>rfl
 ·rfl
 ·rfl
theorem XX:∀(l:List Value),jI (l.map ofConst)=[]
 | []=>rfl
 | v::l=>by simp [jI,abL,XX l]
theorem aqb {d:Nat} (hf:jr st d) {x:Operand} {s:SV} (hx:(oq x).val st.get st.obj=some s):∀j∈l5 s,j / 64≠d:=by
 have:=ao2 hx
 subst this
 cases x with
 | tmp t=>exact hf.slot t
 | const v=>simp [evS,abL]
 | global g=>intro j hj;simp [evS,l5] at hj
 | func g=>intro j hj;simp [evS,l5] at hj
theorem anp {s:SV} {cs:List SV} (hc:(dF s).val f h=some cs):jI cs=l5 s:=by
 cases s<;>simp [dF] at hc<;>subst hc<;>simp [l5,jI]
theorem XY (hR:Rel w0 S st a w) {d:Nat} (dL:o.dst=some d) (hd:eD st.n d) (lR:jr st d) {t:TypeId} {cells:List SV} {vs:List Value}
  (fa:(execOp a.eval o).run P w= .ok (.value (.pointer (some ⟨w.heap.size,0,none⟩))) (w.alloc (.cells vs.toArray t)))
  (ai0:∀β φ,Core w0 S st.get st.obj β φ a.tmps w→bt w (Av st.obj β) β cells vs) (fm:∀x∈vs,x.oneCell'=true) (aoe:∀j∈jI cells,j / 64≠d)
  (he:e= {sv:= .ptr (bD d 0) 0,ow:=[(bD d 0,some (.box t cells))]}):Good P w0 S st o e a w:=by
 subst he
 obtain⟨β,φ,hc⟩:=hR.core
 have jj:bD d 0 / 64=d:=uX d 0 (by omega)
 have MF:∀j,j≠bD d 0→(β.UX (bD d 0) w.heap.size).val j=β.val j∧(β.UX (bD d 0) w.heap.size).Bn j=β.Bn j:=by
  intro j hj
  exact⟨rfl,by simp [Env.UX,dB,hj]⟩
 have Ov:(β.UX (bD d 0) w.heap.size).Bn (bD d 0)=w.heap.size:=by simp [Env.UX,dB]
 have PW:∀b∈cb (β.UX (bD d 0) w.heap.size) (bD d 0) (.box t cells),w.heap.size≤b:=by
  intro b hb
  simp only[cb,Ov,List.mem_singleton] at hb
  omega
 have hle:=hR.kept.size
 refine oe hR (fun d' h'=>by rw[dL] at h';injection h' with h';exact h' ▸ hd) fa (hR.kept.alloc _) ⟨β.UX (bD d 0) w.heap.size,dB φ (bD d 0) [w.heap.size], ?_, ?_⟩
 ·refine hc.create (by rw[qS];omega) (fun b hb=>alloc_old _ b hb) (fun i hi=>lR.slot i _ hi jj) (fun j ob hj hi=>(lR.obj j ob hj).2 _ hi jj) ?_ MF PW ?_ (by simp) ?_
  ·cases hn:st.obj (bD d 0) with
   | none=>rfl
   | some ob=>exact absurd jj (lR.obj _ ob hn).1
  ·refine⟨vs,by rw[Ov];exact EH _, ?_,fm,by rw[Ov]⟩
   exact bt.beside (by rw[qS];omega) (fun b hb=>alloc_old _ b hb) MF PW (ai0 β φ hc) (fun hi=>aoe _ hi jj)
  ·intro b hb
   rw[List.mem_singleton] at hb
   subst hb
   refine⟨⟨.inl hle,by rw[qS];omega⟩,fun j ob hj hb=> ?_⟩
   have:=((hc.fresh j ob hj).2 _ hb).2
   omega
 ·simp only[bX,Ov]
theorem anq (hR:Rel w0 S st a w) {d:Nat} (dL:o.dst=some d) (hd:eD st.n d) (lR:jr st d) {t:TypeId} (ho:o.op= .alloc t) {z:List SV} (hz:(Bk P t).val st.get st.obj=some z)
  (he:e= {sv:= .ptr (bD d 0) 0,ow:=[(bD d 0,some (.box t z))]}):Good P w0 S st o e a w:=by
 obtain⟨i,zv,hi,hzv,rfl,fm⟩:=zn hz
 refine XY hR dL hd lR (vs:=zv.cells.toList) ?_ (fun β φ hc=>F0 _) fm (by simp [XX]) he
 simp [execOp,ho,Instr.alloc,zeroValue,typeInfo,hi,hzv,newVar,newRow]
theorem apz (hR:Rel w0 S st a w) {d:Nat} (dL:o.dst=some d) (hd:eD st.n d) (lR:jr st d) {t:TypeId} {x:Operand} (ho:o.op= .box t x) {s:SV} {cs:List SV}
  (hx:(oq x).val st.get st.obj=some s) (hcs:(dF s).val st.get st.obj=some cs)
  (he:e= {sv:= .ptr (bD d 0) 0,ow:=[(bD d 0,some (.box t cs))]}):Good P w0 S st o e a w:=by
 obtain⟨β0,φ0,hc0⟩:=hR.core
 refine XY hR dL hd lR (vs:=(a.eval x).cells.toList) ?_ (fun β φ hc=>(DF (hc.ev hx) hcs).1) (DF (hc0.ev hx) hcs).2 ?_ he
 ·simp [execOp,ho,Instr.box,newVar,newRow]
 ·rw[anp hcs]
  exact aqb lR hx
end
end Go.Proofs.YthpmalpdnnbkgaaGreat.Vm
namespace Go.Proofs.YthpmalpdnnbkgaaGreat.Vm
section
variable {P:Program} {Γ:Ctx} {w0:World} {S:Own} {st:St} {o:Oper} {e:u4} {a:Act} {w:World}
variable {f:Nat→SV} {h:Nat→Option bP} {β:Env} {φ:Nat→List Nat} {tm:Array Value}
theorem Bu.cons {ct:List CT} {r:List DC} {l:List Value} {g:List Nat} {rows:List (List DC)} {vals:List Value} {fps:List (List Nat)} (h1:RdL w ct r (fun j=>l[j]?) g) (hl:l.length=ct.length)
  (h2:Bu w ct rows vals fps):Bu w ct (r::rows) (l++vals) (g::fps):=by
 refine⟨by simp [h2.1],fun i r' f' hi hf=> ?_⟩
 cases i with
 | zero=>
  simp at hi hf
  subst hi hf
  refine fi.RdL.XU (fun j u hj=> ?_) h1
  simp only[Nat.zero_mul,Nat.zero_add]
  rw[List.getElem?_append_left (by have:=List.getElem?_eq_some_iff.1 hj;exact this.1)]
  exact hj
 | succ i=>
  have:=h2.2 i r' f' (by simpa using hi) (by simpa using hf)
  refine fi.RdL.XU (fun j u hj=> ?_) this
  rw[List.getElem?_append_right (by rw[hl,Nat.succ_mul];omega)]
  rw[←hj]
  congr 1
  rw[hl,Nat.succ_mul]
  omega
theorem Bu.nil {ct:List CT} {vals:List Value} :Bu w ct [] vals []:=⟨rfl,by simp⟩
theorem Bu.append {ct:List CT} {rows arR:List (List DC)} {vals alD:List Value} {fps aro:List (List Nat)} (h1:Bu w ct rows vals fps) (hl:vals.length=rows.length*ct.length)
  (h2:Bu w ct arR alD aro):Bu w ct (rows++arR) (vals++alD) (fps++aro):=by
 refine⟨by simp [h1.1,h2.1],fun i r f hi hf=> ?_⟩
 rcases Nat.lt_or_ge i rows.length with hlt | hge
 ·rw[List.getElem?_append_left hlt] at hi
  rw[List.getElem?_append_left (by rw[h1.1];exact hlt)] at hf
  refine fi.RdL.XU (fun j u hj=> ?_) (h1.2 i r f hi hf)
  rw[List.getElem?_append_left (by have:=List.getElem?_eq_some_iff.1 hj;exact this.1)]
  exact hj
 ·rw[List.getElem?_append_right hge] at hi
  rw[List.getElem?_append_right (by rw[h1.1];exact hge),h1.1] at hf
  refine fi.RdL.XU (fun j u hj=> ?_) (h2.2 _ r f hi hf)
  have e1:i*ct.length+j=rows.length*ct.length+((i - rows.length)*ct.length+j):=by
   have:i*ct.length=rows.length*ct.length+(i - rows.length)*ct.length:=by rw[←Nat.add_mul];congr 1;omega
   omega
  rw[List.getElem?_append_right (by omega)]
  rw[←hj]
  congr 1
  omega
theorem tX {m:HJ} {j:Nat} {ob:bP} (hj:fo (bE m) h j=some ob):(h j=some ob)∨(∃e' r,ob= .imm e' r∧∃y∈m,y.1=j):=by
 induction m with
 | nil=>exact .inl hj
 | cons x l ih=>
  obtain⟨i,e',r,u⟩:=x
  simp only[bE,fo,dB] at hj
  split at hj
  ·rename_i Jj
   injection hj with hj
   exact .inr ⟨e',r,hj.symm,_,List.mem_cons_self ..,Jj.symm⟩
  ·rcases ih hj with h1 | ⟨e'',r',h1,y,hy,h2⟩
   ·exact .inl h1
   ·exact .inr ⟨e'',r',h1,y,List.mem_cons_of_mem _ hy,h2⟩
theorem PX {m:HJ} {j:Nat} (hjm:∃y∈m,y.1=j):fG φ m j=[]:=by
 induction m with
 | nil=>obtain⟨y,hy,_⟩:=hjm;simp at hy
 | cons z l ih=>
  obtain⟨y,hy,rfl⟩:=hjm
  simp only[fG,dB]
  by_cases hyz:y.1=z.1
  ·rw[if_pos hyz]
  ·rw[if_neg hyz]
   rcases List.mem_cons.1 hy with rfl | hy
   ·exact absurd rfl hyz
   ·exact ih ⟨y,hy,rfl⟩
theorem HC (hR:Rel w0 S st a w) {d:Nat} (dL:o.dst=some d) (hd:eD st.n d) (lR:jr st d) {t:TypeId} {ct:List CT} {rows:List (List DC)} {fz u:Bool} {m:HJ} {w':World} {v:Value}
  (fa:(execOp a.eval o).run P w= .ok (.value v) w') (hk:Kept S w0 w') (hs:w.heap.size≤w'.heap.size) (hw:∀b,b<w.heap.size→w'.heap[b]? =w.heap[b]?)
  (hB:∀b∈v.ownBlock.toList,b=w.heap.size) (hm:qW st.obj m) (hmn:d4 m=true) {vals:List Value} (eO:qC w' t ct.length fz v rows.length vals)
  (u_:∀β φ,Core w0 S st.get st.obj β φ a.tmps w→∃fps,Bu w ct rows vals fps∧(∀b∈fps.flatten,(¬Av st.obj β b)∨∃x∈m,b∈GU st.obj β x.1)∧
   (u=true→(∀b∈fps.flatten,∃x∈m,b∈φ x.1)∧fps.flatten.Nodup))
  (Mv:e.sv= .own (bD d 0)) (XO:e.cw=none) (how:e.ow=(bD d 0,some (.row t ct rows fz u))::bE m):Good P w0 S st o e a w:=by
 obtain⟨β,φ,hc⟩:=hR.core
 obtain⟨fps,u_,tU,hu⟩:=u_ β φ hc
 have PY:=hc.M7 m hm hmn
 have jj:bD d 0 / 64=d:=uX d 0 (by omega)
 have MF:∀j,j≠bD d 0→(β.XW (bD d 0) v).val j=β.val j∧(β.XW (bD d 0) v).Bn j=β.Bn j:=by
  intro j hj
  exact⟨by simp [Env.XW,dB,hj],rfl⟩
 have hval:(β.XW (bD d 0) v).val (bD d 0)=v:=by simp [Env.XW,dB]
 have PW:∀b∈cb (β.XW (bD d 0) v) (bD d 0) (.row t ct rows fz u),w.heap.size≤b:=by
  intro b hb
  simp only[cb,hval] at hb
  rw[hB b hb]
  exact Nat.le_refl _
 have hlt:=u_.lt
 have hle:=hR.kept.size
 have XZ:∀b∈fps.flatten,¬Av (fo (bE m) st.obj) β b:=by
  intro b hb
  rcases tU b hb with h1 | ⟨x,hx,hbx⟩
  ·exact fun h2=>h1 (HM h2)
  ·exact tW hc hm hx hbx
 refine oe hR (fun d' h'=>by rw[dL] at h';injection h' with h';exact h' ▸ hd) fa hk
  ⟨β.XW (bD d 0) v,dB (fG φ m) (bD d 0) (v.ownBlock.toList++(bif u then fps.flatten else [])), ?_, ?_⟩
 ·rw[how,XO]
  refine PY.create hs hw (fun i hi=>lR.slot i _ hi jj) (fun j ob hj hi=> ?_) ?_ MF PW ?_ ?_ ?_
  ·rcases tX hj with h1 | ⟨e',r,rfl,_⟩
   ·exact (lR.obj j ob h1).2 _ hi jj
   ·simp [oy] at hi
  ·cases hn:fo (bE m) st.obj (bD d 0) with
   | none=>rfl
   | some ob=>
    rcases tX hn with h1 | ⟨e',r,rfl,y,hy,h2⟩
    ·exact absurd jj (lR.obj _ ob h1).1
    ·obtain⟨_,h3,_⟩:=hm y hy
     rw[h2] at h3
     exact absurd jj (lR.obj _ _ h3).1
  ·refine⟨vals,fps,by rw[hval];exact eO,u_.mono hs (fun b hb=>hw b (hlt b hb)),fun b hb hx=> ?_,by rw[hval]⟩
   rcases hx with ⟨j,oj,hj,ie⟩ | hx
   case inr=>exact XZ b hb (.inr hx)
   by_cases sR:j=bD d 0
   ·subst sR
    simp only[dB,if_true,Option.some.injEq] at hj
    subst hj
    have:=PW b ie
    have:=hlt b hb
    omega
   ·simp only[dB,sR,if_false] at hj
    refine XZ b hb (.inl ⟨j,oj,hj, ?_⟩)
    cases oj<;>simp only[cb,MF j sR] at ie ⊢ <;>exact ie
  ·have aof:v.ownBlock.toList.Nodup:=by cases v.ownBlock<;>simp
   cases u with
   | false=>simpa using aof
   | true=>
    rw[cond_true,List.nodup_append]
    refine⟨aof,(hu rfl).2,fun b hb c PV hbc=> ?_⟩
    have h1:=hB b hb
    have h2:=hlt c PV
    omega
  ·intro b hb
   rcases List.mem_append.1 hb with hb | hb
   ·have h1:=hB b hb
    subst h1
    refine⟨⟨.inl hle, ?_⟩,fun j ob hj ie=> ?_⟩
    ·have:=eO.lt _ hb
     exact this
    ·have:=((PY.fresh j ob hj).2 _ ie).2
     omega
   ·cases u with
    | false=>simp at hb
    | true=>
     simp only[cond_true] at hb
     obtain⟨x,hx,hbx⟩:=(hu rfl).1 b hb
     obtain⟨_,h3,_⟩:=hm x hx
     have h4:=(hc.fresh x.1 _ h3).2 b hbx
     refine⟨⟨h4.1,by omega⟩,fun j ob hj ie=> ?_⟩
     by_cases hjm:∃y∈m,y.1=j
     ·rw[PX hjm] at ie
      simp at ie
     ·have hno:∀y∈m,y.1≠j:=fun y hy e=>hjm ⟨y,hy,e⟩
      rw[lB hno] at hj
      rw[wR hno] at ie
      exact hc.sep x.1 j _ _ (hno x hx) h3 hj b hbx ie
 ·rw[Mv]
  unfold bX
  exact⟨hval.symm,eO.one⟩
theorem aog {ct:CT} {v:Value} {q:DC×HJ×Bool} (hq:(Jc ct (ofConst v)).val f h=some q):q.2.1=[]∧q.2.2=true:=by
 unfold ofConst at hq
 split at hq
 ·simp only[Jc] at hq
  split at hq<;>simp at hq
  subst hq;exact⟨rfl,rfl⟩
 ·rename_i k n
  cases hi:inR k n
  ·simp [hi,Jc] at hq
  ·simp only[hi,cond_true,Jc] at hq
   split at hq
   ·rename_i k'
    by_cases hk:k=k'
    ·simp [hk] at hq;subst hq;exact⟨rfl,rfl⟩
    ·simp [hk] at hq
   ·simp at hq
 ·generalize Nat.ble _ _=c at hq
  cases c
  ·simp [Jc] at hq
  ·simp only[cond_true,Jc] at hq
   split at hq<;>simp at hq
   subst hq;exact⟨rfl,rfl⟩
 ·simp only[Jc] at hq
  split at hq<;>simp at hq
  subst hq;exact⟨rfl,rfl⟩
 ·simp [Jc] at hq
theorem abM:∀(cts:List CT) (l:List Value) (q:List DC×HJ×Bool),(ou cts (l.map ofConst)).val f h=some q→q.2.1=[]∧q.2.2=true
 | [],[],q,hq=>by simp [ou] at hq;subst hq;exact⟨rfl,rfl⟩
 | [],_::_,q,hq=>by simp [ou] at hq
 | _::_,[],q,hq=>by simp [ou] at hq
 | c::cs,v::l,q,hq=>by
  simp only[List.map_cons,ou,M.aX,Option.bind_eq_some_iff,M.ax,Option.some.injEq] at hq
  obtain⟨q1,d6,q2,Bc,rfl⟩:=hq
  obtain⟨h1,h2⟩:=aog d6
  obtain⟨h3,h4⟩:=abM cs l q2 Bc
  simp [h1,h2,h3,h4]
theorem tY:∀(cts:List CT) (l:List SV) (q:List DC×HJ×Bool),(ou cts l).val f h=some q→l.length=cts.length
 | [],[],q,hq=>rfl
 | [],_::_,q,hq=>by simp [ou] at hq
 | _::_,[],q,hq=>by simp [ou] at hq
 | c::cs,v::l,q,hq=>by
  simp only[ou,M.aX,Option.bind_eq_some_iff,M.ax,Option.some.injEq] at hq
  obtain⟨q1,d6,q2,Bc,rfl⟩:=hq
  simp [tY cs l q2 Bc]
theorem Bu.replicate {ct:List CT} {r:List DC} {z:List Value} (h1:RdL w ct r (fun j=>z[j]?) []) (hl:z.length=ct.length):∀n,Bu w ct (List.replicate n r) (List.replicate n z).flatten (List.replicate n [])
 | 0=>Bu.nil
 | n+1=>by
  simp only[List.replicate_succ,List.flatten_cons]
  exact Bu.cons h1 hl (Bu.replicate h1 hl n)
theorem ao4 (z:Array Value):∀n,(madeCells z (n*z.size)).toList=(List.replicate n z.toList).flatten:=by
 intro n
 apply List.ext_getElem?
 intro i
 simp only[madeCells]
 rcases Nat.eq_zero_or_pos z.size with h0 | hp
 ·have hz:z= #[]:=by simpa using h0
  subst hz
  simp
 ·rcases Nat.lt_or_ge i (n*z.size) with hi | hi
  ·have hr:(List.replicate n z.toList).flatten[i]? =z.toList[i % z.size]? :=by
    have key:∀n i,i<n*z.size→(List.replicate n z.toList).flatten[i]? =z.toList[i % z.size]? :=by
     intro n
     induction n with
     | zero=>intro i hi;simp at hi
     | succ n ih=>
      intro i hi
      simp only[List.replicate_succ,List.flatten_cons]
      rcases Nat.lt_or_ge i z.size with h1 | h1
      ·rw[List.getElem?_append_left (by simpa using h1),Nat.mod_eq_of_lt h1]
      ·rw[List.getElem?_append_right (by simpa using h1)]
       have h2:i - z.toList.length<n*z.size:=by simp;rw[Nat.succ_mul] at hi;omega
       rw[ih _ h2]
       congr 1
       simp only[Array.length_toList]
       rw[←Nat.mod_eq_sub_mod h1]
    exact key n i hi
   rw[hr]
   have hm:i % z.size<z.size:=Nat.mod_lt _ hp
   simp [hi,hm]
  ·rw[List.getElem?_eq_none (by simp;omega),List.getElem?_eq_none (by simp;omega)]
theorem aoh (hR:Rel w0 S st a w) {d:Nat} (dL:o.dst=some d) (hd:eD st.n d) (lR:jr st d) {t et:TypeId} {l c:Operand} (ho:o.op= .makeSlice t l c) {n m:Int} {ct:List CT} {i:TypeInfo} {z:List SV} {r:List DC×HJ×Bool}
  (hl:(oq l).val st.get st.obj=some (.int .i64 n)) (hm:(oq c).val st.get st.obj=some (.int .i64 m)) (hu:P.underlying t=some (.slice et)) (hi:P.info? et=some i) (hsz:i.size=ct.length)
  (hz:(Bk P et).val st.get st.obj=some z) (hr:(ou ct z).val st.get st.obj=some r)
  (he:e= {sv:= .own (bD d 0),ow:=[(bD d 0,some (.row et ct (List.replicate n.toNat r.1) false true))],ok:=decide (0≤n) && decide (n≤m) && decide (m.toNat*i.bytes≤140737488355328) && decide (m≤9223372036854775807)})
  (hok:e.ok=true):Good P w0 S st o e a w:=by
 subst he
 simp only[Bool.and_eq_true,decide_eq_true_eq] at hok
 obtain⟨⟨⟨h0,hnm⟩,hby⟩,hmx⟩:=hok
 obtain⟨i',zv,hi',hzv,rfl,fm⟩:=zn hz
 rw[hi] at hi'
 injection hi' with hi'
 subst hi'
 obtain⟨Mw,atJ⟩:=abM _ _ _ hr
 have hzl:zv.cells.toList.length=ct.length:=by simpa using tY _ _ _ hr
 have aqc:(madeCells zv.cells (m.toNat*i.size)).toList=(List.replicate m.toNat zv.cells.toList).flatten:=by
  have:=ao4 zv.cells m.toNat
  rw[hsz,←hzl]
  simpa using this
 obtain⟨β0,φ0,hc0⟩:=hR.core
 have hx:=hc0.ev hl
 have hy:=hc0.ev hm
 simp only[bX] at hx hy
 have hb:(i.bytes:Int)*m≤281474976710656:=by
  have h1:((m.toNat*i.bytes:Nat):Int)≤140737488355328:=by omega
  rw[Int.natCast_mul,Int.toNat_of_nonneg (by omega),Int.mul_comm] at h1
  omega
 have fa:=run_make (P:=P) w t et i zv hu hi hzv .i64 .i64 n m h0 hnm hb hmx
 refine HC hR dL hd lR (m:=[]) (fz:=false) (u:=true) (vals:=(List.replicate n.toNat zv.cells.toList).flatten) (v:= .slice (some ⟨w.heap.size,0,none⟩) n.toNat m.toNat)
  (w':=w.alloc (.cells (madeCells zv.cells (m.toNat*i.size)) et)) ?_ (hR.kept.alloc _) (by rw[qS];omega) (fun b hb=>alloc_old _ b hb) (by simp [Value.ownBlock]) (by simp [qW]) rfl ?_ ?_ rfl rfl rfl
 ·simp [execOp,ho,hx.1,hy.1,fa]
 ·refine⟨by simp [hzl],.inr ⟨w.heap.size,m.toNat,_,by simp,by simpa using EH _,by simp;omega,by simp only[maxLen];omega,by rw[size_madeCells,hsz], ?_⟩⟩
  rw[aqc]
  have:List.replicate m.toNat zv.cells.toList=List.replicate n.toNat zv.cells.toList++List.replicate (m.toNat - n.toNat) zv.cells.toList:=by
   rw[List.replicate_append_replicate]
   congr 1
   omega
  rw[this,List.flatten_append,List.take_append_of_le_length (by simp [hzl]),List.take_of_length_le (by simp [hzl])]
 ·intro β φ hc
  obtain⟨fp,hrd,_,_,hfp⟩:=DG hc ct _ _ r (F0 zv.cells.toList) hr
  have atK:fp=[]:=by
   have:=(hfp atJ).1
   cases fp with
   | nil=>rfl
   | cons b l=>
    obtain⟨x,hx,_⟩:=this b (List.mem_cons_self ..)
    rw[Mw] at hx
    simp at hx
  subst atK
  refine⟨List.replicate n.toNat [],Bu.replicate hrd hzl n.toNat, ?_, ?_⟩
  ·intro b hb
   simp at hb
  ·intro _
   constructor
   ·intro b hb;simp at hb
   ·have:(List.replicate n.toNat ([]:List Nat)).flatten=[]:=by simp
    rw[this]
    simp
theorem Lr (hc:Core w0 S st.get st.obj β φ a.tmps w) {ct:List CT} :∀(parts:List (Nat×Operand)) (k:Nat) (q:List (List DC)×HJ×Bool),(ED ct k parts).val st.get st.obj=some q→
  ∃(vals:List Value) (fps:List (List Nat)),vals.length=parts.length*ct.length∧q.1.length=parts.length∧(∀x∈vals,x.oneCell'=true)∧Bu w ct q.1 vals fps∧qW st.obj q.2.1∧
   (∀b∈fps.flatten,(¬Av st.obj β b)∨∃x∈q.2.1,b∈GU st.obj β x.1)∧(q.2.2=true→(∀b∈fps.flatten,∃x∈q.2.1,b∈φ x.1)∧(d4 q.2.1=true→fps.flatten.Nodup))∧
   ∀(pre suf:List Value),pre.length=k*ct.length→suf.length=parts.length*ct.length→
    Instr.fill (fun i=>some (i*ct.length,ct.length)) (pre++suf).toArray (parts.map fun x=>(x.1,a.eval x.2))=some (pre++vals).toArray
 | [],k,q,hq=>by
  simp only[ED,M.ax,Option.some.injEq] at hq
  subst hq
  refine⟨[],[],by simp,rfl,by simp,Bu.nil,by simp [qW],by simp,by simp,fun pre suf h1 h2=> ?_⟩
  have:suf=[]:=by simpa using h2
  subst this
  simp [Instr.fill]
 | (i,x)::rest,k,q,hq=>by
  simp only[ED] at hq
  cases hik:Nat.beq i k
  ·simp [hik] at hq
  have hik:=Nat.eq_of_beq_eq_true hik
  subst hik
  simp only[Nat.beq_refl,cond_true,M.aX,Option.bind_eq_some_iff,M.ax,Option.some.injEq] at hq
  obtain⟨s,hs,cs,hcs,r,hr,q2,Bc,rfl⟩:=hq
  obtain⟨Mv,fm⟩:=DF (hc.ev hs) hcs
  have hcl:=tY _ _ _ hr
  have hvl:=bt.length _ _ Mv
  have fy:(a.eval x).cells.size=ct.length:=by simpa [hcl] using hvl
  obtain⟨fp,hrd,hm1,ha1,hu1⟩:=DG hc ct cs _ r Mv hr
  obtain⟨vals,fps,S0,hl3,asY,Ow,hm2,ha2,hu2,aoi⟩:=Lr hc rest (i+1) q2 Bc
  refine⟨(a.eval x).cells.toList++vals,fp::fps, ?_,by simp [hl3], ?_,Bu.cons hrd (by simpa using fy) Ow,HB hm1 hm2, ?_, ?_, ?_⟩
  ·simp only[List.length_append,S0,List.length_cons,Array.length_toList,fy,Nat.succ_mul]
   omega
  ·intro y hy
   rcases List.mem_append.1 hy with hy | hy
   ·exact fm y hy
   ·exact asY y hy
  ·intro b hb
   simp only[List.flatten_cons,List.mem_append] at hb
   rcases hb with hb | hb
   ·rcases ha1 b hb with h1 | ⟨y,hy,h1⟩
    ·exact .inl h1
    ·exact .inr ⟨y,List.mem_append_left _ hy,h1⟩
   ·rcases ha2 b hb with h1 | ⟨y,hy,h1⟩
    ·exact .inl h1
    ·exact .inr ⟨y,List.mem_append_right _ hy,h1⟩
  ·intro hu
   simp only[Bool.and_eq_true] at hu
   refine⟨fun b hb=> ?_,fun hn=> ?_⟩
   ·simp only[List.flatten_cons,List.mem_append] at hb
    rcases hb with hb | hb
    ·obtain⟨y,hy,h1⟩:=(hu1 hu.1).1 b hb
     exact⟨y,List.mem_append_left _ hy,h1⟩
    ·obtain⟨y,hy,h1⟩:=(hu2 hu.2).1 b hb
     exact⟨y,List.mem_append_right _ hy,h1⟩
   ·obtain⟨hn1,hn2,sV⟩:=Oq hn
    simp only[List.flatten_cons]
    exact apart hc hm1 hm2 sV (hu1 hu.1).1 (hu2 hu.2).1 ((hu1 hu.1).2 hn1) ((hu2 hu.2).2 hn2)
  ·intro pre suf h1 h2
   simp only[List.length_cons,Nat.succ_mul] at h2
   simp only[List.map_cons]
   rw[abe (off:=i*ct.length) (by rw[fy]) (by simp [h1,fy];omega)]
   have e1:((pre++suf).toArray.toList.take (i*ct.length)++((a.eval x).cells.toList++(pre++suf).toArray.toList.drop (i*ct.length+(a.eval x).cells.size)))=(pre++(a.eval x).cells.toList)++suf.drop ct.length:=by
    simp only[fy,←h1]
    simp [List.drop_append]
   rw[e1,aoi (pre++(a.eval x).cells.toList) (suf.drop ct.length) (by simp [h1,fy,Nat.succ_mul]) (by simp [h2])]
   simp
theorem abf (hR:Rel w0 S st a w) {d:Nat} (dL:o.dst=some d) (hd:eD st.n d) (lR:jr st d) {t et:TypeId} {len:Nat} {parts:Array (Nat×Operand)} (ho:o.op= .buildSlice t len parts) {ct:List CT} {q:List (List DC)×HJ×Bool}
  (hu:P.underlying t=some (.slice et)) (hsz:eA P et ct.length=true) (hpos:0<ct.length) (hlen:len=parts.toList.length) (hsm:len*ct.length≤16777216)
  (hq:(ED ct 0 parts.toList).val st.get st.obj=some q) (hz:∃z,(Bk P et).val st.get st.obj=some z) (hn:d4 q.2.1=true)
  (he:e= {sv:= .own (bD d 0),ow:=(bD d 0,some (.row et ct q.1 false q.2.2))::bE q.2.1}):Good P w0 S st o e a w:=by
 subst he
 obtain⟨i,hi,fy⟩:=ep hsz
 obtain⟨β0,φ0,hc0⟩:=hR.core
 obtain⟨vals,_,hvl,hrl,fm,_,hm,_,_,abK⟩:=Lr hc0 parts.toList 0 q hq
 obtain⟨z,hz⟩:=hz
 obtain⟨i',zv,hi',hzv,_,_⟩:=zn hz
 rw[hi] at hi'
 injection hi' with hi'
 subst hi'
 have hle:len≤maxLen:=by
  have:len≤len*ct.length:=Nat.le_mul_of_pos_right _ hpos
  simp only[maxLen]
  omega
 have fa:(Instr.buildSlice t len (parts.map fun x=>(x.1,a.eval x.2))).run P w= .ok (.slice (some ⟨w.heap.size,0,none⟩) len len) (w.alloc (.cells vals.toArray et)):=by
  rcases Nat.eq_zero_or_pos len with h0 | h0
  ·have hp:parts= #[]:=by
    have:parts.toList.length=0:=by omega
    simpa using this
   have hv:vals=[]:=by
    have:vals.length=0:=by rw[hvl,←hlen,h0,Nat.zero_mul]
    simpa using this
   subst hp hv h0
   simp [Instr.buildSlice,run_underlying hu,sizeOf,typeInfo,hi,Instr.fill,newRow,Array.range_zero']
  ·refine run_buildSlice (P:=P) w t et len _ vals.toArray i zv hu hi hzv (by rw[fy];omega) (by rw[fy];exact Nat.ne_of_gt (Nat.mul_pos h0 hpos)) ?_
   have:=abK [] ((Array.range (len*ct.length)).map (zv.cells[· % zv.cells.size]!)).toList (by simp) (by simp [hlen])
   rw[fy]
   generalize (Array.range (len*ct.length)).map (zv.cells[· % zv.cells.size]!)=A at this ⊢
   simpa using this
 refine HC hR dL hd lR (m:=q.2.1) (fz:=false) (u:=q.2.2) (vals:=vals) (v:= .slice (some ⟨w.heap.size,0,none⟩) len len) (w':=w.alloc (.cells vals.toArray et)) ?_ (hR.kept.alloc _)
  (by rw[qS];omega) (fun b hb=>alloc_old _ b hb) (by simp [Value.ownBlock]) hm hn ?_ ?_ rfl rfl rfl
 ·simp [execOp,ho,fa]
 ·refine⟨by rw[hvl,hrl],.inr ⟨w.heap.size,len,vals.toArray,by rw[hrl,←hlen],by simpa using EH _,by rw[hrl,←hlen];exact Nat.le_refl _,hle,by simp [hvl,hlen], ?_⟩⟩
  rw[hrl,←hvl]
  simp
 ·intro β φ hc
  obtain⟨alD,fps,auu,auv,ai1,u_,hm',tU,Ot,asp⟩:=Lr hc parts.toList 0 q hq
  have hvv:alD=vals:=by
   have h1:=abK [] (List.replicate (parts.toList.length*ct.length) undef) (by simp) (by simp)
   have h2:=asp [] (List.replicate (parts.toList.length*ct.length) undef) (by simp) (by simp)
   rw[h1] at h2
   simpa using h2.symm
  subst hvv
  exact⟨fps,u_,tU,fun h=>⟨(Ot h).1,(Ot h).2 hn⟩⟩
end
end Go.Proofs.YthpmalpdnnbkgaaGreat.Vm
namespace Go.Proofs.YthpmalpdnnbkgaaGreat.Vm
theorem ib (P:Program) (g o:Nat) (t:TypeId) (fz:Nat×Nat):∀(vs:List Value) (i:Nat) (cur:Array Value) (w:World),w.heap[g]? =some (.cells cur t fz)→(∀j,j<cur.size→¬(fz.1≤j∧j<fz.2))→
  o+i+vs.length≤cur.size→(∀v∈vs,v.oneCell'=true)→
  (storeCells ⟨g,o,none⟩ vs i).run P w= .ok () (w.setRow g (cur.toList.take (o+i)++(vs++cur.toList.drop (o+i+vs.length))).toArray)
 | [],i,cur,w,hg,_,_,_=>by
  simp only[storeCells,List.nil_append,List.length_nil,Nat.add_zero,List.take_append_drop,Array.toArray_toList]
  rw[setRow_self w g cur t fz hg]
  rfl
 | v::rest,i,cur,w,hg,hfz,hl,h1=>by
  have hi:o+i<cur.size:=by simp at hl;omega
  have hcell:w.cell? ⟨g,o+i,none⟩=some cur[o+i]:=by simp [World.cell?,hg,hi]
  have atL:w.frozen? ⟨g,o+i,none⟩=false:=by
   have:=hfz (o+i) hi
   obtain⟨lo,hi'⟩:=fz
   simp only[World.frozen?,hg,Bool.and_eq_false_iff,decide_eq_false_iff_not]
   simp only at this
   omega
  have QA:(store ((⟨g,o,none⟩:Addr).add i) v).run P w= .ok () (w.setRow g (cur.setIfInBounds (o+i) v)):=by
   rw[sQ,run_store P w _ v _ (h1 v (by simp)),hcell]
   simp [atL,setCell_eq_setRow w g (o+i) cur t fz v hg]
  have ih:=ib P g o t fz rest (i+1) (cur.setIfInBounds (o+i) v) (w.setRow g (cur.setIfInBounds (o+i) v)) (setRow_heap w g cur _ t _ hg) (by simpa using hfz) (by simp at hl ⊢;omega) (fun x hx=>h1 x (by simp [hx]))
  simp only[storeCells,Sem.run_bind,QA,Result.andThen_ok,ih,setRow_setRow]
  congr 3
  have:=list_seg_step cur.toList (o+i) v rest (by simp at hl ⊢;omega)
  simp only[Array.toList_setIfInBounds,List.length_cons]
  rw[←Nat.add_assoc]
  simpa [List.append_assoc] using this
theorem RdL.split {w:World} :∀(cs1 cs2:List CT) (r:List DC) (f:Nat→Option Value) (fp:List Nat),RdL w (cs1++cs2) r f fp→
  ∃fp1 PT,RdL w cs1 (r.take cs1.length) f fp1∧RdL w cs2 (r.drop cs1.length) (fun j=>f (cs1.length+j)) PT∧fp=fp1++PT
 | [],cs2,r,f,fp,h=>⟨[],fp,by simp [RdL],by simpa using h,rfl⟩
 | c::cs,cs2,r,f,fp,h=>by
  simp only[List.cons_append,RdL] at h
  obtain⟨d,r',v,f1,f2,rfl,h0,h1,h2,rfl⟩:=h
  obtain⟨p1,p2,e1,e2,rfl⟩:=RdL.split cs cs2 r' _ f2 h2
  refine⟨f1++p1,p2, ?_, ?_,by simp⟩
  ·simp only[List.length_cons,List.take_succ_cons,RdL]
   exact⟨d,_,v,f1,p1,rfl,h0,h1,e1,rfl⟩
  ·simp only[List.length_cons,List.drop_succ_cons]
   have:∀j,cs.length+1+j=cs.length+j+1:=by intro j;omega
   simpa only[this] using e2
theorem RdL.join {w:World} :∀(cs1 cs2:List CT) (r1 r2:List DC) (f:Nat→Option Value) (fp1 PT:List Nat),RdL w cs1 r1 f fp1→RdL w cs2 r2 (fun j=>f (cs1.length+j)) PT→
  RdL w (cs1++cs2) (r1++r2) f (fp1++PT)
 | [],cs2,r1,r2,f,fp1,PT,h1,h2=>by
  simp only[RdL] at h1
  obtain⟨rfl,rfl⟩:=h1
  simpa using h2
 | c::cs,cs2,r1,r2,f,fp1,PT,h1,h2=>by
  simp only[RdL] at h1
  obtain⟨d,r',v,f1,f2,rfl,h0,h3,h4,rfl⟩:=h1
  simp only[List.cons_append,RdL]
  refine⟨d,r'++r2,v,f1,f2++PT,rfl,h0,h3,RdL.join cs cs2 r' r2 _ f2 PT h4 ?_,by simp⟩
  have:∀j,(c::cs).length+j=cs.length+j+1:=by intro j;simp only[List.length_cons];omega
  simpa only[this] using h2
section
variable {P:Program} {Γ:Ctx} {w0:World} {S:Own} {st:St} {o:Oper} {e:u4} {a:Act} {w:World}
variable {f:Nat→SV} {h:Nat→Option bP} {β:Env} {φ:Nat→List Nat} {tm:Array Value}
theorem Kept.setRow (hk:Kept S w0 w) {g:Nat} (hg:w0.heap.size≤g∨S g) (cs:Array Value):Kept S w0 (w.setRow g cs):=
 ⟨hk.os,hk.tape,hk.output,by simpa using hk.size,fun k h1 h2=>by
  rw[setRow_other w g k cs (fun e=>by subst e;rcases hg with h | h;omega;exact h2 h)]
  exact hk.block k h1 h2⟩
theorem Core.rewrite (hc:Core w0 S f h β φ tm w) {id:Nat} {ob ob':bP} {g:Nat} {cs:Array Value} {φn:List Nat} (Bo:h id=some ob) (hg:g∈cb β id ob) (ht:∀b∈cb β id ob',b∈cb β id ob)
  (PU:Mt (w.setRow g cs) (Av (dB h id (some ob')) β) β id ob' φn) (hnd:φn.Nodup) (hal:∀b∈φn,((w0.heap.size≤b∨S b)∧b<w.heap.size)∧∀j o,j≠id→h j=some o→b ∉ φ j):
  Core w0 S f (dB h id (some ob')) β (dB φ id φn) tm (w.setRow g cs):=by
 have ams:=bF (hc.dA id ob Bo) g hg
 refine hc.step (fun _=>False) (by simp) (fun b _ hb=>setRow_other w g b cs (fun e=>hb (e ▸ .inl ⟨id,ob,Bo,hg⟩))) ?_ (fun _ _ _ h=>h) (fun _ _=>⟨rfl,rfl⟩) ?_ ?_
 ·rintro b (⟨j,oj,hj,ie⟩ | hb)
  case inr=>exact .inl (.inr hb)
  by_cases sR:j=id
  ·subst sR
   simp only[dB,if_true,Option.some.injEq] at hj
   subst hj
   exact .inl (.inl ⟨j,ob,Bo,ht b ie⟩)
  ·simp only[dB,sR,if_false] at hj
   exact .inl (.inl ⟨j,oj,hj,ie⟩)
 ·intro j oj hj
  by_cases sR:j=id
  ·subst sR
   simp only[dB,if_true,Option.some.injEq] at hj
   subst hj
   exact .inr ⟨by simpa [dB] using PU,by simpa [dB] using hnd,fun b hb=>by simpa using (hal b (by simpa [dB] using hb)).1⟩
  ·simp only[dB,sR,if_false] at hj
   refine .inl ⟨fun h=>h,hj,by simp [dB,sR],fun _ _ h=>h,fun b hb=>setRow_other w g b cs (fun e=> ?_)⟩
   subst e
   exact hc.sep id j _ _ (Ne.symm sR) Bo hj b ams (bF (hc.dA j oj hj) b hb)
 ·intro i j oi oj sV hi hj b hb
  by_cases hii:i=id
  ·subst hii
   have Jj:j≠i:=Ne.symm sV
   simp only[dB,Jj,if_false] at hj
   simp only[dB,if_true] at hb
   simp only[dB,Jj,if_false]
   exact (hal b hb).2 j oj Jj hj
  ·simp only[dB,hii,if_false] at hi hb
   by_cases sR:j=id
   ·subst sR
    simp only[dB,if_true]
    exact fun hb'=>(hal b hb').2 i oi hii hi hb
   ·simp only[dB,sR,if_false] at hj ⊢
    exact hc.sep i j oi oj sV hi hj b hb
theorem ai2 {id:Nat} {ob ob':bP} (Bo:h id=some ob) (ht:∀b∈cb β id ob',b∈cb β id ob) {b:Nat} (hb:Av (dB h id (some ob')) β b):Av h β b:=by
 rcases hb with ⟨j,oj,hj,ie⟩ | hb
 case inr=>exact .inr hb
 by_cases sR:j=id
 ·subst sR
  simp only[dB,if_true,Option.some.injEq] at hj
  subst hj
  exact .inl ⟨j,ob,Bo,ht b ie⟩
 ·simp only[dB,sR,if_false] at hj
  exact .inl ⟨j,oj,hj,ie⟩
theorem PZ {t:TypeId} {b off:Nat} {x:Value} {i:TypeInfo} (hi:P.info? t=some i) (hsz:i.size=x.cells.size) {w':World} (fa:(storeCells ⟨b,off,none⟩ x.cells.toList 0).run P w= .ok () w'):
  (Instr.storeAt t (.pointer (some ⟨b,off,none⟩)) x).run P w= .ok () w':=by
 simp [Instr.storeAt,Instr.sureAddr,storeVar,sizeOf,typeInfo,hi,hsz,fa]
theorem alh {av:Nat→Prop} {cells lE:List SV} {vs us:List Value} {off:Nat} (h1:bt w av β cells vs) (h2:bt w av β lE us) (hl:us.length=lE.length):
  bt w av β (tR cells off lE) (vs.take off++(us++vs.drop (off+us.length))):=by
 unfold tR
 refine bt.append _ _ _ _ (bt.take _ _ _ h1) (bt.append _ _ _ _ h2 ?_)
 rw[hl]
 exact bt.drop _ _ _ h1
theorem aft (hR:Rel w0 S st a w) (hd:∀d,o.dst=some d→eD st.n d) {t t':TypeId} {x y:Operand} (ho:o.op= .store t x y) {id off:Nat} {sy:SV} {lE cells:List SV}
  (h1:(oq x).val st.get st.obj=some (.ptr id off)) (h2:(oq y).val st.get st.obj=some sy) (hcs:(dF sy).val st.get st.obj=some lE) (hsz:eA P t lE.length=true)
  (dT:st.obj id=some (.box t' cells)) (hfit:off+lE.length≤cells.length) (he:e= {sv:= .undef,cw:=some (id,off,lE)}):Good P w0 S st o e a w:=by
 subst he
 obtain⟨i,hi,fy⟩:=ep hsz
 obtain⟨β,φ,hc⟩:=hR.core
 have hx:=hc.ev h1
 simp only[bX] at hx
 obtain⟨Mv,fm⟩:=DF (hc.ev h2) hcs
 obtain⟨vs,hh,hr,ai1,hφ⟩:=hc.dA id _ dT
 have hl:=bt.length _ _ hr
 have S0:=bt.length _ _ Mv
 have ali:(a.eval y).cells.size=lE.length:=by simpa using S0
 have fa:=ib P (β.Bn id) off t' (0,0) (a.eval y).cells.toList 0 vs.toArray w hh (by simp) (by simp;omega) fm
 simp only[Nat.add_zero] at fa
 have hfc:fc (some (id,off,lE)) st.obj=dB st.obj id (some (.box t' (tR cells off lE))):=by simp only[fc,dT]
 have aoL:=hc.fresh id _ dT
 have tU:∀b,Av (dB st.obj id (some (.box t' (tR cells off lE)))) β b→Av st.obj β b:=fun b hb=>ai2 dT (by simp [cb]) hb
 have arS:∀(ss:List SV) (us:List Value),bt w (Av st.obj β) β ss us→∀cs,bt (w.setRow (β.Bn id) cs) (Av (dB st.obj id (some (.box t' (tR cells off lE)))) β) β ss us:=by
  intro ss us hss cs
  exact bt.mono (by simp) (fun b _ hb=>setRow_other w _ b cs (fun e=>hb (e ▸ .inl ⟨id,_,dT,by simp [cb]⟩))) (fun b hb=> .inl (tU b hb)) ss us hss (fun _ _=>⟨rfl,rfl⟩)
 refine Qu hR hd (w':=w.setRow (β.Bn id) (vs.take off++((a.eval y).cells.toList++vs.drop (off+(a.eval y).cells.toList.length))).toArray) ?_ (hR.kept.setRow (aoL.2 (β.Bn id) (by rw[hφ];simp)).1 _) ⟨β,dB φ id [β.Bn id], ?_,by simp [bX]⟩
 ·simp [execOp,ho,hx,PZ hi (fy.trans ali.symm) fa]
 ·show Core w0 S st.get (fo [] (fc (some (id,off,lE)) st.obj)) _ _ _ _
  simp only[fo,hfc]
  refine hc.rewrite dT (by simp [cb]) (by simp [cb]) ?_ (by simp) ?_
  ·refine⟨_,setRow_heap w _ _ _ _ _ hh,alh (arS _ _ hr _) (arS _ _ Mv _) S0, ?_,rfl⟩
   intro z hz
   simp only[List.mem_append] at hz
   rcases hz with hz | hz | hz
   ·exact ai1 z (List.mem_of_mem_take hz)
   ·exact fm z hz
   ·exact ai1 z (List.mem_of_mem_drop hz)
  ·intro b hb
   have hb':b∈φ id:=by rw[hφ];exact hb
   exact⟨aoL.2 b hb',fun j oj hj Yh=>hc.sep id j _ _ (Ne.symm hj) dT Yh b hb'⟩
theorem ma {fps:List (List Nat)} {i:Nat} (hi:i<fps.length) (x:List Nat):(fps.set i x).flatten=(fps.take i).flatten++(x++(fps.drop (i+1)).flatten):=by
 rw[List.set_eq_take_append_cons_drop,if_pos hi]
 simp
theorem gL {fps:List (List Nat)} {i:Nat} (hi:i<fps.length):fps.flatten=(fps.take i).flatten++(fps[i]++(fps.drop (i+1)).flatten):=by
 have:=ma hi fps[i]
 rwa [List.set_getElem_self] at this
theorem Bu.set {ct:List CT} {rows:List (List DC)} {vals:List Value} {fps:List (List Nat)} (u_:Bu w ct rows vals fps) (hl:vals.length=rows.length*ct.length) {i:Nat} (hi:i<rows.length)
  {off:Nat} {ds:List DC} {us:List Value} {fp:List Nat} (ai3:off+us.length≤ct.length) (hrd:RdL w ((ct.drop off).take us.length) ds (fun j=>us[j]?) fp):
  ∃p1 p2 p3,fps[i]? =some (p1++(p2++p3))∧Bu w ct (rows.set i (aD (rows.getD i []) off ds)) (vals.take (i*ct.length+off)++(us++vals.drop (i*ct.length+off+us.length))) (fps.set i (p1++(fp++p3))):=by
 have hif:i<fps.length:=by rw[u_.1];exact hi
 have GS:=u_.2 i (rows.getD i []) fps[i] (tV hi) (by simp)
 generalize rows.getD i []=r at GS ⊢
 have hct:ct=ct.take off++((ct.drop off).take us.length++ct.drop (off+us.length)):=by
  rw[←List.drop_drop,List.take_append_drop,List.take_append_drop]
 have hl1:(ct.take off).length=off:=by simp;omega
 have S0:((ct.drop off).take us.length).length=us.length:=by simp;omega
 have hdl:ds.length=us.length:=by rw[RdL.length _ _ _ _ hrd,S0]
 have asZ:RdL w (ct.take off++((ct.drop off).take us.length++ct.drop (off+us.length))) r (fun j=>vals[i*ct.length+j]?) fps[i]:=by
  rw[←hct]
  exact GS
 obtain⟨p1,q,r1,r2,hq⟩:=RdL.split _ _ _ _ _ asZ
 obtain⟨p2,p3,r3,r4,rfl⟩:=RdL.split _ _ _ _ _ r2
 rw[hl1] at r1 r2 r3 r4
 rw[S0] at r3 r4
 have hi1:i*ct.length+ct.length≤vals.length:=by
  rw[hl,←Nat.succ_mul]
  exact Nat.mul_le_mul_right _ hi
 refine⟨p1,p2,p3,by rw[List.getElem?_eq_getElem hif,hq],by simp [u_.1],fun k r' f' hk hf=> ?_⟩
 have afF:∀j,(vals.take (i*ct.length+off)++(us++vals.drop (i*ct.length+off+us.length)))[j]? =
   if j<i*ct.length+off then vals[j]? else if j<i*ct.length+off+us.length then us[j - (i*ct.length+off)]? else vals[j]? :=by
  intro j
  have ht:(vals.take (i*ct.length+off)).length=i*ct.length+off:=by simp;omega
  split
  ·rename_i hj
   rw[List.getElem?_append_left (by omega),List.getElem?_take,if_pos hj]
  ·rename_i hj
   rw[List.getElem?_append_right (by omega),ht]
   split
   ·rw[List.getElem?_append_left (by omega)]
   ·rw[List.getElem?_append_right (by omega),List.getElem?_drop]
    congr 1
    omega
 by_cases hki:k=i
 ·subst hki
  rw[List.getElem?_set_self hi] at hk
  rw[List.getElem?_set_self hif] at hf
  simp only[Option.some.injEq] at hk hf
  subst hk hf
  have:=RdL.join (w:=w) (ct.take off) ((ct.drop off).take us.length++ct.drop (off+us.length)) (r.take off) (ds++r.drop (off+ds.length))
   (fun j=>(vals.take (k*ct.length+off)++(us++vals.drop (k*ct.length+off+us.length)))[k*ct.length+j]?) p1 (fp++p3) ?_ ?_
  ·rw[←hct] at this
   exact this
  ·refine fi.RdL.UU ?_ r1
   intro j u hj hju
   rw[hl1] at hj
   simp only[afF]
   rw[if_pos (by omega)]
   exact hju
  ·refine RdL.join _ _ _ _ _ _ _ ?_ ?_
   ·refine fi.RdL.UU ?_ hrd
    intro j u hj hju
    rw[S0] at hj
    simp only[hl1,afF]
    rw[if_neg (by omega),if_pos (by omega),←hju]
    congr 1
    omega
   ·rw[hdl]
    simp only[List.drop_drop] at r4
    refine fi.RdL.XU ?_ r4
    intro j u hju
    simp only[hl1,S0,afF]
    rw[if_neg (by omega),if_neg (by omega)]
    rw[←hju]
 ·rw[List.getElem?_set_ne (Ne.symm hki)] at hk hf
  refine fi.RdL.UU ?_ (u_.2 k r' f' hk hf)
  intro j u hj hju
  have hkl:k<rows.length:=(List.getElem?_eq_some_iff.1 hk).1
  rw[afF]
  rcases Nat.lt_or_ge k i with hlt | hge
  ·have:k*ct.length+ct.length≤i*ct.length:=by rw[←Nat.succ_mul];exact Nat.mul_le_mul_right _ hlt
   rw[if_pos (by omega)]
   exact hju
  ·have:i*ct.length+ct.length≤k*ct.length:=by rw[←Nat.succ_mul];exact Nat.mul_le_mul_right _ (by omega)
   rw[if_neg (by omega),if_neg (by omega)]
   exact hju
end
end Go.Proofs.YthpmalpdnnbkgaaGreat.Vm
namespace Go.Proofs.YthpmalpdnnbkgaaGreat.Vm
theorem P_ {α:Type} (l us:List α) (o m:Nat) (h1:o+us.length≤m) (h2:m≤l.length):
  (l.take o++(us++l.drop (o+us.length))).take m=(l.take m).take o++(us++(l.take m).drop (o+us.length)):=by
 rw[List.take_append,List.take_append]
 have e1:(l.take o).length=o:=by simp;omega
 rw[e1]
 have e2:(l.take o).take m=(l.take m).take o:=by rw[List.take_take,List.take_take,Nat.min_comm]
 have e3:us.take (m - o)=us:=List.take_of_length_le (by omega)
 rw[e2,e3]
 congr 2
 rw[List.drop_take]
 congr 1
 omega
section
variable {P:Program} {Γ:Ctx} {w0:World} {S:Own} {st:St} {o:Oper} {e:u4} {a:Act} {w:World}
variable {f:Nat→SV} {h:Nat→Option bP} {β:Env} {φ:Nat→List Nat} {tm:Array Value}
theorem M8 {A p1 p2 p3 B n:List Nat} (h:(A++((p1++(p2++p3))++B)).Nodup) (hn:n.Nodup) (hd:∀b∈n,b ∉ A++((p1++(p2++p3))++B)):(A++((p1++(n++p3))++B)).Nodup:=by
 have h1:((A++p1)++(p3++B)).Nodup:=by
  refine List.Sublist.nodup ?_ h
  simp only[List.append_assoc]
  refine List.Sublist.append (List.Sublist.refl _) (List.Sublist.append (List.Sublist.refl _) ?_)
  exact List.sublist_append_right _ _
 have h2:(n++((A++p1)++(p3++B))).Nodup:=by
  rw[List.nodup_append]
  refine⟨hn,h1,fun b hb c PV hbc=> ?_⟩
  subst hbc
  refine hd b hb ?_
  simp only[List.mem_append] at PV ⊢
  rcases PV with (PV | PV) | PV | PV<;>simp [PV]
 refine (List.Perm.nodup_iff ?_).1 h2
 have:A++((p1++(n++p3))++B)=(A++p1)++(n++(p3++B)):=by simp
 rw[this]
 exact (List.perm_append_comm_assoc _ _ _)
theorem afu (hR:Rel w0 S st a w) (hd:∀d,o.dst=some d→eD st.n d) {t t':TypeId} {x y:Operand} (ho:o.op= .store t x y) {id i off:Nat} {sy:SV} {lE:List SV} {ct:List CT} {rows:List (List DC)} {fz u:Bool} {r:List DC×HJ×Bool}
  (h1:(oq x).val st.get st.obj=some (.EC id i ct.length off)) (h2:(oq y).val st.get st.obj=some sy) (hcs:(dF sy).val st.get st.obj=some lE) (hsz:eA P t lE.length=true)
  (dT:st.obj id=some (.row t' ct rows fz u)) (hfit:off+lE.length≤ct.length) (hr:(ou ((ct.drop off).take lE.length) lE).val st.get st.obj=some r) (hmn:lU id r.2.1=true) (hnd:d4 r.2.1=true)
  (hi:i<rows.length) (XO:e.cw=none) (UY:e.sv= .undef)
  (how:e.ow=(id,some (.row t' ct (rows.set i (aD (rows.getD i []) off r.1)) fz (u && r.2.2)))::bE r.2.1):Good P w0 S st o e a w:=by
 obtain⟨ti,hti,fy⟩:=ep hsz
 obtain⟨β,φ,hc⟩:=hR.core
 have hx:=hc.ev h1
 simp only[bX] at hx
 obtain⟨g,hg,hx⟩:=hx
 obtain⟨Mv,fm⟩:=DF (hc.ev h2) hcs
 have S0:=bt.length _ _ Mv
 have ali:(a.eval y).cells.size=lE.length:=by simpa using S0
 obtain⟨fp,hrd,Mw,as0,asq⟩:=DG hc _ _ _ r Mv hr
 have PY:=hc.M7 r.2.1 Mw hnd
 have hno:=M6 hmn
 have Qa:fo (bE r.2.1) st.obj id=some (.row t' ct rows fz u):=by rw[lB hno];exact dT
 have XZ:∀b∈fp,¬Av (fo (bE r.2.1) st.obj) β b:=by
  intro b hb
  rcases as0 b hb with h1 | ⟨z,hz,hbz⟩
  ·exact fun h2=>h1 (HM h2)
  ·exact tW hc Mw hz hbz
 obtain⟨vals,fps,eO,u_,RI,hφ⟩:=PY.dA id _ Qa
 have abN:g∈cb β id (.row t' ct rows fz u):=by simp [cb,hg]
 rcases eO.2 with ⟨hv,h0,_⟩ | ⟨g',cap,cur,hv,hh,hnc,hcm,ai4,htk⟩
 ·omega
 have hgg:g'=g:=by simpa [hv,Value.ownBlock] using hg
 subst hgg
 have hlen:i*ct.length+ct.length≤rows.length*ct.length:=by rw[←Nat.succ_mul];exact Nat.mul_le_mul_right _ hi
 have anm:rows.length*ct.length≤cap*ct.length:=Nat.mul_le_mul_right _ hnc
 have aqd:∀j,j<cur.size→¬((bif fz then (cur.size,cur.size+1) else ((0,0):Nat×Nat)).1≤j∧j<(bif fz then (cur.size,cur.size+1) else ((0,0):Nat×Nat)).2):=by
  intro j hj
  cases fz<;>simp<;>omega
 have hul:(a.eval y).cells.toList.length=lE.length:=by simpa using ali
 have fa:=ib P g' (i*ct.length+off) t' _ (a.eval y).cells.toList 0 cur w hh aqd (by rw[hul,ai4];omega) fm
 simp only[Nat.add_zero] at fa
 generalize hus:(a.eval y).cells.toList=us at*
 rw[←hul] at hfit hrd
 obtain⟨p1,p2,p3,atM,abg⟩:=u_.set eO.1 hi hfit hrd
 have hif:i<fps.length:=by rw[u_.1];exact hi
 have aqe:fps[i]=p1++(p2++p3):=by simpa [hif] using atM
 have ao5:∀b∈(fps.set i (p1++(fp++p3))).flatten,b∈fps.flatten∨b∈fp:=by
  intro b hb
  rw[ma hif] at hb
  rw[gL hif,aqe]
  simp only[List.mem_append] at hb ⊢
  rcases hb with hb | (hb | hb | hb) | hb<;>simp [hb]
 have afv:∀b∈(fps.set i (p1++(fp++p3))).flatten,¬Av (fo (bE r.2.1) st.obj) β b:=by
  intro b hb
  rcases ao5 b hb with hb | hb
  ·exact RI b hb
  ·exact XZ b hb
 have lC:=PY.fresh id _ Qa
 have X0:(cur.toList.take (i*ct.length+off)++(us++cur.toList.drop (i*ct.length+off+us.length))).length=cur.size:=by
  simp only[List.length_append,List.length_take,List.length_drop,Array.length_toList]
  rw[ai4]
  omega
 have alE:∀b∈cb β id (.row t' ct (rows.set i (aD (rows.getD i []) off r.1)) fz (u && r.2.2)),b∈cb β id (.row t' ct rows fz u):=fun b hb=>hb
 refine Qu hR hd (w':=w.setRow g' (cur.toList.take (i*ct.length+off)++(us++cur.toList.drop (i*ct.length+off+us.length))).toArray) ?_
  (hR.kept.setRow (lC.2 g' (bF (PY.dA id _ Qa) g' abN)).1 _)
  ⟨β,dB (fG φ r.2.1) id ((β.val id).ownBlock.toList++(bif (u && r.2.2) then (fps.set i (p1++(fp++p3))).flatten else [])), ?_,by rw[UY];simp [bX]⟩
 ·have:=PZ (P:=P) (t:=t) (b:=g') (off:=i*ct.length+off) (x:=a.eval y) hti (fy.trans ali.symm) (by rw[hus];exact fa)
  simp [execOp,ho,hx,this]
 ·rw[how,XO]
  show Core w0 S st.get (dB (fo (bE r.2.1) st.obj) id (some (.row t' ct (rows.set i (aD (rows.getD i []) off r.1)) fz (u && r.2.2)))) _ _ _ _
  refine PY.rewrite Qa abN alE ?_ ?_ ?_
  ·refine⟨vals.take (i*ct.length+off)++(us++vals.drop (i*ct.length+off+us.length)),fps.set i (p1++(fp++p3)),⟨?_,.inr ⟨g',cap,(cur.toList.take (i*ct.length+off)++(us++cur.toList.drop (i*ct.length+off+us.length))).toArray,by simpa using hv, ?_,by simpa using hnc,hcm,by simpa [X0] using ai4, ?_⟩⟩, ?_, ?_,rfl⟩
   ·have:=eO.1
    simp only[List.length_append,List.length_take,List.length_drop,List.length_set]
    omega
   ·rw[setRow_heap w _ _ _ _ _ hh]
    simp only[List.size_toArray,X0]
   ·simp only[List.length_set]
    rw[P_ _ _ _ _ (by omega) (by simp only[Array.length_toList];omega),htk]
   ·refine abg.mono (by simp) (fun b hb=>setRow_other w g' b _ (fun e=>afv b hb (e ▸ .inl ⟨id,_,Qa,abN⟩)))
   ·exact fun b hb hx=>afv b hb (ai2 Qa alE hx)
  ·have aof:(β.val id).ownBlock.toList.Nodup:=by cases (β.val id).ownBlock<;>simp
   cases Ot:(u && r.2.2) with
   | false=>simpa using aof
   | true=>
    simp only[Bool.and_eq_true] at Ot
    have asr:fG φ r.2.1 id=(β.val id).ownBlock.toList++fps.flatten:=by rw[hφ,Ot.1];rfl
    have hn0:=lC.1
    rw[asr,gL hif,aqe,List.nodup_append] at hn0
    obtain⟨hn1,hn2,hn3⟩:=hn0
    have atN:=(asq Ot.2).2 hnd
    have ass:∀b∈fp,b ∉ fG φ r.2.1 id:=by
     intro b hb DS
     obtain⟨z,hz,hbz⟩:=(asq Ot.2).1 b hb
     obtain⟨_,h3,_⟩:=Mw z hz
     rw[wR hno] at DS
     exact hc.sep z.1 id _ _ (hno z hz) h3 dT b hbz DS
    rw[asr,gL hif,aqe] at ass
    simp only[cond_true]
    rw[ma hif,List.nodup_append]
    refine⟨hn1,M8 hn2 atN (fun b hb hb'=>ass b hb (List.mem_append_right _ hb')),fun b hb c PV hbc=> ?_⟩
    subst hbc
    simp only[List.mem_append] at PV
    rcases PV with PV | (PV | PV | PV) | PV
    ·exact hn3 b hb b (by simp [PV]) rfl
    ·exact hn3 b hb b (by simp [PV]) rfl
    ·exact ass b PV (List.mem_append_left _ hb)
    ·exact hn3 b hb b (by simp [PV]) rfl
    ·exact hn3 b hb b (by simp [PV]) rfl
  ·intro b hb
   have old:b∈fG φ r.2.1 id→((w0.heap.size≤b∨S b)∧b<w.heap.size)∧∀j oj,j≠id→fo (bE r.2.1) st.obj j=some oj→b ∉ fG φ r.2.1 j:=fun hb'=>
    ⟨lC.2 b hb',fun j oj hj Yh=>PY.sep id j _ _ (Ne.symm hj) Qa Yh b hb'⟩
   rcases List.mem_append.1 hb with hb | hb
   ·exact old (by rw[hφ];exact List.mem_append_left _ hb)
   ·cases Ot:(u && r.2.2) with
    | false=>simp [Ot] at hb
    | true=>
     simp only[Ot,cond_true] at hb
     simp only[Bool.and_eq_true] at Ot
     rcases ao5 b hb with hb | hb
     ·exact old (by rw[hφ,Ot.1];exact List.mem_append_right _ hb)
     ·obtain⟨z,hz,hbz⟩:=(asq Ot.2).1 b hb
      obtain⟨_,h3,_⟩:=Mw z hz
      refine⟨(hc.fresh z.1 _ h3).2 b hbz,fun j oj hj Yh=> ?_⟩
      by_cases hjm:∃k∈r.2.1,k.1=j
      ·rw[PX hjm];simp
      ·have aoj:∀k∈r.2.1,k.1≠j:=fun k hk e=>hjm ⟨k,hk,e⟩
       rw[lB aoj] at Yh
       rw[wR aoj]
       exact hc.sep z.1 j _ _ (aoj z hz) h3 Yh b hbz
end
end Go.Proofs.YthpmalpdnnbkgaaGreat.Vm
namespace Go.Proofs.YthpmalpdnnbkgaaGreat.Vm
theorem ao6 {w:World} :∀(ct:List CT) (r:List DC) (f:Nat→Option Value) (fp:List Nat),cg ct=true→RdL w ct r f fp→fp=[]
 | [],_,_,_,_,h=>by simp only[RdL] at h;exact h.2
 | c::cs,_,_,_,hf,h=>by
  simp only[RdL] at h
  obtain⟨d,r',v,f1,f2,rfl,_,h1,h2,rfl⟩:=h
  have h0:f1=[]∧cg cs=true:=by
   cases c with
   | int k=>simp only[RdC] at h1;obtain⟨n,_,_,_,e⟩:=h1;exact⟨e,by simpa [cg] using hf⟩
   | bool=>simp only[RdC] at h1;obtain⟨n,_,_,e⟩:=h1;exact⟨e,by simpa [cg] using hf⟩
   | str=>simp only[RdC] at h1;obtain⟨n,_,_,_,e⟩:=h1;exact⟨e,by simpa [cg] using hf⟩
   | sl e=>simp [cg] at hf
  rw[h0.1,ao6 cs _ _ _ h0.2 h2]
  rfl
theorem Bu.flat {w:World} {ct:List CT} {rows:List (List DC)} {vals:List Value} {fps:List (List Nat)} (h:Bu w ct rows vals fps) (hf:cg ct=true):fps.flatten=[]:=by
 rw[List.flatten_eq_nil_iff]
 intro l hl
 obtain⟨i,hi,rfl⟩:=List.getElem_of_mem hl
 have hi':i<rows.length:=by have:=h.1;omega
 exact ao6 ct _ _ _ hf (h.2 i rows[i] fps[i] (by simp) (by simp))
theorem QB {w:World} {ct:List CT} {r:List (List DC)} {q:Option Addr} {m c:Nat} {fp:List Nat} (h:RdC w (.sl ct) (.sl r) (.slice q m c) fp) (hp:0<ct.length):
  m=r.length∧∃(news:List Value) (fps:List (List Nat)),news.length=m*ct.length∧(q=none→m=0)∧(∀ad,q=some ad→∀j u,news[j]? =some u→w.cell? (ad.add j)=some u)∧(∀x∈news,x.oneCell'=true)∧
   Bu w ct r news fps∧(∀b∈fps.flatten,b∈fp)∧(fp.Nodup→fps.flatten.Nodup):=by
 obtain⟨q',m',c',hv,hn,hc,hm,abI⟩:=vI h
 injection hv with e1 e2 e3
 subst e1 e2 e3
 refine⟨hn.symm, ?_⟩
 rcases abI with ⟨h0,rfl⟩ | ⟨hpos,b,o,fps,rfl,hlt,D1,rfl,GS⟩
 ·have hr:r=[]:=by simpa [h0] using hn
  subst hr
  exact⟨[],[],by simp [h0],fun _=>h0,by simp,by simp,Bu.nil,by simp,by simp⟩
 ·have cellAt:∀j,j<m*ct.length→∃u,w.cell? ⟨b,o+j,none⟩=some u∧u.oneCell'=true:=by
   intro j hj
   have h1:j / ct.length<r.length:=by rw[hn];exact Nat.div_lt_of_lt_mul (by rw[Nat.mul_comm];exact hj)
   have h2:j % ct.length<ct.length:=Nat.mod_lt _ hp
   have hf:j / ct.length<fps.length:=by omega
   obtain⟨u,fp',e1,e2,_⟩:=RdL.get _ _ _ _ (j % ct.length) ct[j % ct.length] (GS (j / ct.length) r[j / ct.length] fps[j / ct.length] (by simp) (by simp)) (by simp)
   refine⟨u, ?_,e2.one⟩
   have:j / ct.length*ct.length+j % ct.length=j:=by rw[Nat.mul_comm];exact Nat.div_add_mod j ct.length
   rw[this] at e1
   exact e1
  refine⟨(List.range (m*ct.length)).map (fun j=>(w.cell? ⟨b,o+j,none⟩).getD undef),fps,by simp,by simp, ?_, ?_,⟨by omega, ?_⟩,fun x hx=>List.mem_cons_of_mem _ hx,fun hn=>(List.nodup_cons.1 hn).2⟩
  ·intro ad had j u hj
   injection had with had
   subst had
   rw[sQ]
   have hjl:j<m*ct.length:=by
    have:=(List.getElem?_eq_some_iff.1 hj).1
    simpa using this
   obtain⟨u',hu',_⟩:=cellAt j hjl
   simp [hjl,hu'] at hj
   rw[hu',hj]
  ·intro x hx
   simp only[List.mem_map,List.mem_range] at hx
   obtain⟨j,hj,rfl⟩:=hx
   obtain⟨u',hu',ho⟩:=cellAt j hj
   rw[hu']
   exact ho
  ·intro i r' f' hi hf
   refine fi.RdL.UU ?_ (GS i r' f' hi hf)
   intro j u hj hju
   have hil:i<m:=by have:=(List.getElem?_eq_some_iff.1 hi).1;omega
   have:i*ct.length+j<m*ct.length:=by
    have:i*ct.length+ct.length≤m*ct.length:=by rw[←Nat.succ_mul];exact Nat.mul_le_mul_right _ hil
    omega
   simp [this,hju]
section
variable {P:Program} {Γ:Ctx} {w0:World} {S:Own} {st:St} {o:Oper} {e:u4} {a:Act} {w:World}
variable {f:Nat→SV} {h:Nat→Option bP} {β:Env} {φ:Nat→List Nat} {tm:Array Value}
theorem run_append_nil (base:Nat) (t ty et:TypeId) (i:TypeInfo) (size:Nat) (ht:P.underlying t=some (.slice et)) (hi:P.info? et=some i)
  (v:Value) (n:Nat) (xs:List Value) (eO:w.ownsRow base et size v n xs) (c:Nat):(Builtin.append_ #[t,t] ty #[v,.slice none 0 c]).run P w= .ok v w:=by
 rcases eO.2 with ⟨rfl,rfl⟩ | ⟨g,cap,cur,rfl,_,_,hnc,_⟩
 ·simp [Builtin.append_,run_underlying ht,sizeOf,typeInfo,hi,Builtin.lenOf,Builtin.firstCells]
 ·simp [Builtin.append_,run_underlying ht,sizeOf,typeInfo,hi,Builtin.lenOf,Builtin.firstCells,hnc,storeCells]
theorem anr {t:TypeId} {i:TypeInfo} {n:Nat} (hi:P.info? t=some i) (h:Jd P t n=true):n*i.bytes≤140737488355328∧n≤maxLen:=by
 simp only[Jd,hi,Bool.and_eq_true,decide_eq_true_eq] at h
 exact⟨h.1,by simp only[maxLen];omega⟩
theorem UZ {t ty et:TypeId} {i:TypeInfo} {zv:Value} {ct:List CT} (ht:P.underlying t=some (.slice et)) (hi:P.info? et=some i) (hz:i.zero=some zv) (hsz:i.size=ct.length) (hzs:zv.cells.size=ct.length) (hp:0<ct.length)
  {v:Value} {n:Nat} {vals:List Value} (eO:qC w et ct.length false v n vals) {q:Option Addr} {m c:Nat} {news:List Value} (hl:news.length=m*ct.length) (hq:q=none→m=0)
  (aqf:∀ad,q=some ad→∀j u,news[j]? =some u→w.cell? (ad.add j)=some u) (h1:∀x∈news,x.oneCell'=true) (qV:Jd P et (n+m)=true):
  ∃v' w',(Builtin.append_ #[t,t] ty #[v,.slice q m c]).run P w= .ok v' w'∧qC w' et ct.length false v' (n+m) (vals++news)∧w.grownBy w' v.ownBlock∧(v'.ownBlock=v.ownBlock∨v'.ownBlock=some w.heap.size):=by
 obtain⟨hb,hm⟩:=anr hi qV
 cases q with
 | none=>
  have hm0:=hq rfl
  subst hm0
  have hn:news=[]:=by simpa using hl
  subst hn
  exact⟨v,w,run_append_nil 0 t ty et i ct.length ht hi v n vals eO.owns c,by simpa using eO,⟨rfl,rfl,rfl,Nat.le_refl _,fun _ _ _=>rfl⟩,.inl rfl⟩
 | some ad=>
  obtain⟨v',w',hr,h2,h3,_,h5⟩:=run_append_own_at (P:=P) w 0 t ty et i zv ct.length i.bytes ht hi hz hsz rfl hzs hp v n vals eO.owns ad m c news hl (aqf ad rfl) h1 hm hb (Nat.zero_le _)
  exact⟨v',w',hr,qC.ap4 h2,h3,h5⟩
theorem Kept.grown (hk:Kept S w0 w) {w':World} {row:Option Nat} (hg:w.grownBy w' row) (hr:∀b,row=some b→w0.heap.size≤b∨S b):Kept S w0 w':=
 ⟨hg.os.trans hk.os,hg.tape.trans hk.tape,hg.output.trans hk.output,Nat.le_trans hk.size hg.size,fun k h1 h2=>by
  rw[hg.block k (by have:=hk.size;omega) (fun e=>by rcases hr k e.symm with h | h;omega;exact h2 h)]
  exact hk.block k h1 h2⟩
mutual
theorem aok:∀(a:CT),abD a a=true
 | .int k=>by simp [abD]
 | .bool=>rfl
 | .str=>rfl
 | .sl e=>by simp only[abD];exact F1 e
theorem F1:∀(a:List CT),dG a a=true
 | []=>rfl
 | a::l=>by simp only[dG,Bool.and_eq_true];exact⟨aok a,F1 l⟩
end
theorem aol {ct:List CT} {s:SV} {q:List (List DC)×HJ×Bool} (hq:(S2 ct s).val f h=some q):(Jc (.sl ct) s).val f h=some (.sl q.1,q.2):=by
 unfold S2 at hq
 split at hq
 ·simp only[M.ax,Option.some.injEq] at hq
  subst hq
  simp [Jc]
 ·rename_i e' r
  cases hb:dG ct e'
  ·simp [hb] at hq
  ·simp only[hb,cond_true,M.ax,Option.some.injEq] at hq
   have:=dR _ _ hb
   subst this hq
   simp [Jc,F1]
 ·rename_i id
  simp only[M.eB,Option.bind_eq_some_iff] at hq
  obtain⟨ob,dT,hq⟩:=hq
  split at hq
  ·rename_i t' e' r fz u
   cases hb:dG ct e'
   ·simp [hb] at hq
   ·simp only[hb,cond_true,M.ax,Option.some.injEq] at hq
    have:=dR _ _ hb
    subst this hq
    simp [Jc,dT,F1]
  ·rename_i e' r
   cases hb:dG ct e'
   ·simp [hb] at hq
   ·simp only[hb,cond_true,M.ax,Option.some.injEq] at hq
    have:=dR _ _ hb
    subst this hq
    simp [Jc,dT,F1]
  ·simp at hq
 ·simp at hq
theorem Qb (hc:Core w0 S f h β φ tm w) {ct:List CT} {s:SV} {v:Value} {q:List (List DC)×HJ×Bool} (hs:bX w (Av h β) β s v) (hq:(S2 ct s).val f h=some q):
  ∃fp,RdC w (.sl ct) (.sl q.1) v fp∧qW h q.2.1∧d4 q.2.1=true∧(∀b∈fp,(¬Av h β b)∨∃x∈q.2.1,b∈GU h β x.1)∧
   (q.2.2=true→(∀b∈fp,∃x∈q.2.1,b∈φ x.1)∧fp.Nodup):=HA hc hs (aol hq)
theorem ao7 {ct:List CT} {m:HJ} (hm:qW h m) (hn:d4 m=true):qW h (bif cg ct then [] else m)∧d4 (bif cg ct then [] else m)=true:=by
 cases cg ct
 ·exact⟨hm,hn⟩
 ·exact⟨by simp [qW],rfl⟩
theorem abO {ct:List CT} {m:HJ} :(bif cg ct then [] else bE m)=bE (bif cg ct then [] else m):=by cases cg ct<;>rfl
theorem abh (hR:Rel w0 S st a w) {d:Nat} (dL:o.dst=some d) (hd:eD st.n d) (lR:jr st d) {t et:TypeId} {s x:Operand} {c:Call} (ho:o.op= .call c) (hb:c.callee= .builtin .append) (hargs:c.args= #[s,x])
  (hat:c.argTypes= #[t,t]) {sx:SV} {ct:List CT} {q:List (List DC)×HJ×Bool} {z:List SV} (h1:(oq s).val st.get st.obj=some .nil) (h2:(oq x).val st.get st.obj=some sx) (hu:P.underlying t=some (.slice et))
  (hsz:eA P et ct.length=true) (hp:0<ct.length) (hz:(Bk P et).val st.get st.obj=some z) (hzl:z.length=ct.length) (hq:(S2 ct sx).val st.get st.obj=some q) (qV:Jd P et q.1.length=true)
  (Mv:e.sv= .own (bD d 0)) (XO:e.cw=none) (how:e.ow=(bD d 0,some (.row et ct q.1 false (cg ct || q.2.2)))::(bif cg ct then [] else bE q.2.1)):Good P w0 S st o e a w:=by
 obtain⟨i,hi,fy⟩:=ep hsz
 obtain⟨i',zv,hi',hzv,rfl,_⟩:=zn hz
 rw[hi] at hi'
 injection hi' with hi'
 subst hi'
 obtain⟨β0,φ0,hc0⟩:=hR.core
 obtain⟨fp0,ast,ao8,arp,_,_⟩:=Qb hc0 (hc0.ev h2) hq
 obtain⟨Q,m,cc,hxv,hml,_,_,_⟩:=vI ast
 rw[hxv] at ast
 obtain⟨hmr,news,auw,hnl,hqn,hcell,fm,auy,_,_⟩:=QB ast hp
 have hs0:=hc0.ev h1
 simp only[bX] at hs0
 have as1:qC w et ct.length false (.slice none 0 0) 0 []:=⟨by simp,.inl ⟨rfl,rfl,rfl⟩⟩
 obtain⟨v',w',fa,KF,zo,Ov⟩:=UZ (P:=P) (ty:=o.type) (c:=cc) hu hi hzv fy (by simpa using hzl) hp as1 hnl hqn hcell fm (by rw[hmr,Nat.zero_add];exact qV)
 obtain⟨hmm,arq⟩:=ao7 (ct:=ct) ao8 arp
 refine HC hR dL hd lR (m:=bif cg ct then [] else q.2.1) (fz:=false) (u:=cg ct || q.2.2) (vals:=news) (v:=v') (w':=w') ?_ (hR.kept.grown zo (by simp [Value.ownBlock])) zo.size
  (fun b hb=>zo.block b hb (by simp [Value.ownBlock])) ?_ hmm arq ?_ ?_ Mv XO (by rw[how,abO])
 ·simp [execOp,ho,resolve,hb,hargs,hat,invoke,builtin,hs0,hxv,fa]
 ·intro b hb'
  rcases Ov with h3 | h3
  ·rw[h3] at hb';simp [Value.ownBlock] at hb'
  ·rw[h3] at hb';simpa using hb'
 ·rw[←hmr]
  simpa using KF
 ·intro β φ hc
  obtain⟨fp,hrd,Mw,hmn,RI,hfu⟩:=Qb hc (hc.ev h2) hq
  rw[hxv] at hrd
  obtain⟨_,as2,fps,as3,_,asu,_,u_,Ji,ars⟩:=QB hrd hp
  have hnn:Bu w ct q.1 news fps:=by
   refine⟨u_.1,fun k r' f' hk hf=> ?_⟩
   refine fi.RdL.UU ?_ (u_.2 k r' f' hk hf)
   intro j u hj hju
   have as4:k*ct.length+j<as2.length:=(List.getElem?_eq_some_iff.1 hju).1
   cases Q with
   | none=>
    have:m=0:=hqn rfl
    subst this
    simp at as3
    simp [as3] at hju
   | some ad=>
    have e1:=asu ad rfl _ _ hju
    have hlt:k*ct.length+j<news.length:=by omega
    have e2:=hcell ad rfl (k*ct.length+j) news[k*ct.length+j] (by simp)
    rw[e1] at e2
    injection e2 with e2
    rw[List.getElem?_eq_getElem hlt,←e2]
  refine⟨fps,hnn, ?_, ?_⟩
  ·intro b hb'
   cases D1:cg ct with
   | true=>rw[u_.flat D1] at hb';simp at hb'
   | false=>simpa using RI b (Ji b hb')
  ·intro hu'
   cases D1:cg ct with
   | true=>rw[u_.flat D1];simp
   | false=>
    rw[D1,Bool.false_or] at hu'
    exact⟨fun b hb'=>by simpa using (hfu hu').1 b (Ji b hb'),ars (hfu hu').2⟩
theorem abi (hR:Rel w0 S st a w) {d:Nat} (dL:o.dst=some d) (hd:eD st.n d) (lR:jr st d) {t et:TypeId} {s x:Operand} {c:Call} (ho:o.op= .call c) (hb:c.callee= .builtin .append) (hargs:c.args= #[s,x])
  (hat:c.argTypes= #[t,t]) {id:Nat} {u:Bool} {r:List (List DC)} {sx:SV} {ct:List CT} {q:List (List DC)×HJ×Bool} {z:List SV} (h1:(oq s).val st.get st.obj=some (.own id)) (h2:(oq x).val st.get st.obj=some sx)
  (dT:st.obj id=some (.row et ct r false u)) (hu:P.underlying t=some (.slice et))
  (hsz:eA P et ct.length=true) (hp:0<ct.length) (hz:(Bk P et).val st.get st.obj=some z) (hzl:z.length=ct.length) (hq:(S2 ct sx).val st.get st.obj=some q) (as5:lU id q.2.1=true)
  (qV:Jd P et (r.length+q.1.length)=true) (Mv:e.sv= .own (bD d 0)) (XO:e.cw=none)
  (how:e.ow=(bD d 0,some (.row et ct (r++q.1) false (u && (cg ct || q.2.2))))::(id,none)::(bif cg ct then [] else bE q.2.1)):Good P w0 S st o e a w:=by
 obtain⟨i,hi,fy⟩:=ep hsz
 obtain⟨i',zv,hi',hzv,rfl,_⟩:=zn hz
 rw[hi] at hi'
 injection hi' with hi'
 subst hi'
 obtain⟨β,φ,hc⟩:=hR.core
 obtain⟨fp,hrd,ao8,arp,RI,hfu⟩:=Qb hc (hc.ev h2) hq
 obtain⟨Q,m,cc,hxv,hml,_,_,_⟩:=vI hrd
 rw[hxv] at hrd
 obtain⟨hmr,news,abj,hnl,hqn,hcell,fm,Ow,Ji,ars⟩:=QB hrd hp
 obtain⟨hmm,arq⟩:=ao7 (ct:=ct) ao8 arp
 have atO:=M6 as5
 have hno:∀y∈(bif cg ct then [] else q.2.1),y.1≠id:=by
  cases cg ct
  ·exact atO
  ·simp
 generalize hM:(bif cg ct then [] else q.2.1)=M' at hmm arq hno
 have PY:=hc.M7 M' hmm arq
 have Qa:fo (bE M') st.obj id=some (.row et ct r false u):=by rw[lB hno];exact dT
 obtain⟨vals,fps,eO,u_,asv,hφ⟩:=PY.dA id _ Qa
 have hs0:=hc.ev h1
 simp only[bX] at hs0
 obtain⟨v',w',fa,KF,zo,Ov⟩:=UZ (P:=P) (ty:=o.type) (c:=cc) hu hi hzv fy (by simpa using hzl) hp eO hnl hqn hcell fm (by rw[hmr];exact qV)
 have jj:bD d 0 / 64=d:=uX d 0 (by omega)
 have aup:id≠bD d 0:=fun e=>(lR.obj id _ dT).1 (e ▸ jj)
 have MF:∀j,j≠bD d 0→(β.XW (bD d 0) v').val j=β.val j∧(β.XW (bD d 0) v').Bn j=β.Bn j:=by
  intro j hj
  exact⟨by simp [Env.XW,dB,hj],rfl⟩
 have hval:(β.XW (bD d 0) v').val (bD d 0)=v':=by simp [Env.XW,dB]
 have X1:=bF (PY.dA id _ Qa)
 have lC:=PY.fresh id _ Qa
 have art:=u_.lt
 have aru:=Ow.lt
 have afv:∀b∈abj.flatten,¬Av (fo (bE M') st.obj) β b:=by
  intro b hb'
  cases D1:cg ct with
  | true=>rw[Ow.flat D1] at hb';simp at hb'
  | false=>
   rw[D1,cond_false] at hM
   subst hM
   rcases RI b (Ji b hb') with h3 | ⟨y,hy,hby⟩
   ·exact fun h4=>h3 (HM h4)
   ·exact tW hc hmm hy hby
 have aom:(u && (cg ct || q.2.2))=true→∀b∈abj.flatten,∃y∈M',b∈φ y.1:=by
  intro Ot b hb'
  cases D1:cg ct with
  | true=>rw[Ow.flat D1] at hb';simp at hb'
  | false=>
   rw[D1,cond_false] at hM
   subst hM
   rw[D1,Bool.false_or,Bool.and_eq_true] at Ot
   exact (hfu Ot.2).1 b (Ji b hb')
 have as6:(u && (cg ct || q.2.2))=true→abj.flatten.Nodup:=by
  intro Ot
  cases D1:cg ct with
  | true=>rw[Ow.flat D1];simp
  | false=>
   rw[D1,Bool.false_or,Bool.and_eq_true] at Ot
   exact ars (hfu Ot.2).2
 have ans:∀j oj,dB (dB (fo (bE M') st.obj) id none) (bD d 0) (some (.row et ct (r++q.1) false (u && (cg ct || q.2.2)))) j=some oj→j≠bD d 0→j≠id∧fo (bE M') st.obj j=some oj:=by
  intro j oj hj hjn
  simp only[dB,hjn,if_false] at hj
  split at hj
  ·cases hj
  ·exact⟨by assumption,hj⟩
 have ant:∀b,(β.val id).ownBlock=some b→b∈fG φ M' id:=fun b hb'=>X1 b (by simp [cb,hb'])
 have arT:∀b∈v'.ownBlock.toList,b∈fG φ M' id∨b=w.heap.size:=by
  intro b hb'
  rcases Ov with h3 | h3
  ·rw[h3] at hb'
   exact .inl (X1 b (by simpa [cb] using hb'))
  ·rw[h3] at hb'
   exact .inr (by simpa using hb')
 have asw:u=true→∀b∈fps.flatten,b∈fG φ M' id:=by
  intro Ot b hb'
  rw[hφ,Ot]
  exact List.mem_append_right _ hb'
 have arU:∀b,b∈v'.ownBlock.toList++(bif (u && (cg ct || q.2.2)) then (fps++abj).flatten else [])→∀j oj,j≠id→fo (bE M') st.obj j=some oj→b ∉ fG φ M' j:=by
  intro b hb' j oj hj Yh ie
  have old:b∈fG φ M' id→False:=fun h3=>PY.sep id j _ _ (Ne.symm hj) Qa Yh b h3 ie
  rcases List.mem_append.1 hb' with hb' | hb'
  ·rcases arT b hb' with h3 | h3
   ·exact old h3
   ·have:=((PY.fresh j oj Yh).2 b ie).2
    omega
  ·cases Ot:(u && (cg ct || q.2.2)) with
   | false=>simp [Ot] at hb'
   | true=>
    simp only[Ot,cond_true,List.flatten_append,List.mem_append] at hb'
    rcases hb' with hb' | hb'
    ·rw[Bool.and_eq_true] at Ot
     exact old (asw Ot.1 b hb')
    ·obtain⟨y,hy,hby⟩:=aom Ot b hb'
     obtain⟨_,h3,_⟩:=hmm y hy
     by_cases hjm:∃k∈M',k.1=j
     ·rw[PX hjm] at ie
      simp at ie
     ·have aoj:∀k∈M',k.1≠j:=fun k hk e=>hjm ⟨k,hk,e⟩
      rw[lB aoj] at Yh
      rw[wR aoj] at ie
      exact hc.sep y.1 j _ _ (aoj y hy) h3 Yh b hby ie
 have U0:∀b,b<w.heap.size→(β.val id).ownBlock≠some b→w'.heap[b]? =w.heap[b]? :=fun b hb' sV=>zo.block b hb' (fun e=>sV e.symm)
 have abk:∀b∈(fps++abj).flatten,¬Av (fo (bE M') st.obj) β b∧b<w.heap.size:=by
  intro b hb'
  simp only[List.flatten_append,List.mem_append] at hb'
  rcases hb' with hb' | hb'
  ·exact⟨asv b hb',art b hb'⟩
  ·exact⟨afv b hb',aru b hb'⟩
 have aqg:∀b,Av (dB (dB (fo (bE M') st.obj) id none) (bD d 0) (some (.row et ct (r++q.1) false (u && (cg ct || q.2.2))))) (β.XW (bD d 0) v') b→Av (fo (bE M') st.obj) β b∨w.heap.size≤b:=by
  rintro b (⟨j,oj,hj,ie⟩ | hb)
  case inr=>exact .inl (.inr hb)
  by_cases sR:j=bD d 0
  ·subst sR
   simp only[dB,if_true,Option.some.injEq] at hj
   subst hj
   simp only[cb,hval] at ie
   rcases Ov with h3 | h3
   ·rw[h3] at ie
    exact .inl (.inl ⟨id,_,Qa,by simpa [cb] using ie⟩)
   ·rw[h3] at ie
    right
    have:b=w.heap.size:=by simpa using ie
    omega
  ·obtain⟨_,hj'⟩:=ans j oj hj sR
   refine .inl (.inl ⟨j,oj,hj', ?_⟩)
   cases oj<;>simp only[cb,MF j sR] at ie ⊢ <;>exact ie
 refine oe hR (fun d' h'=>by rw[dL] at h';injection h' with h';exact h' ▸ hd) (v:=v') (w':=w') ?_ (hR.kept.grown zo (fun b hb'=>(lC.2 b (ant b hb')).1))
  ⟨β.XW (bD d 0) v',dB (fG φ M') (bD d 0) (v'.ownBlock.toList++(bif (u && (cg ct || q.2.2)) then (fps++abj).flatten else [])), ?_, ?_⟩
 ·simp [execOp,ho,resolve,hb,hargs,hat,invoke,builtin,hs0.1,hxv,fa]
 ·rw[how,XO,abO,hM]
  show Core w0 S st.get (dB (dB (fo (bE M') st.obj) id none) (bD d 0) (some (.row et ct (r++q.1) false (u && (cg ct || q.2.2))))) _ _ _ _
  refine PY.step (fun j=>j=bD d 0) zo.size (fun b hb' hn=>U0 b hb' (fun e=>hn (.inl ⟨id,_,Qa,by simp [cb,e]⟩))) aqg
   (fun k j hj e=>lR.slot k j hj (by rw[e];exact jj)) MF ?_ ?_
  ·intro j oj hj
   by_cases sR:j=bD d 0
   ·subst sR
    have hj':=hj
    simp only[dB,if_true,Option.some.injEq] at hj'
    subst hj'
    refine .inr ⟨?_, ?_, ?_⟩
    ·refine⟨vals++news,fps++abj, ?_, ?_, ?_, ?_⟩
     ·rw[hval]
      have:(r++q.1).length=r.length+m:=by simp [hmr]
      rw[this]
      exact KF
     ·exact (u_.append eO.1 Ow).mono zo.size (fun b hb'=>U0 b (abk b hb').2 (fun e=>(abk b hb').1 (.inl ⟨id,_,Qa,by simp [cb,e]⟩)))
     ·intro b hb' hx
      rcases aqg b hx with h3 | h3
      ·exact (abk b hb').1 h3
      ·have:=(abk b hb').2
       omega
     ·rw[hval]
      simp [dB]
    ·simp only[dB,if_true]
     have aof:v'.ownBlock.toList.Nodup:=by cases v'.ownBlock<;>simp
     cases Ot:(u && (cg ct || q.2.2)) with
     | false=>simpa using aof
     | true=>
      have hu1:u=true:=by rw[Bool.and_eq_true] at Ot;exact Ot.1
      have hn0:=lC.1
      rw[hφ,hu1,cond_true,List.nodup_append] at hn0
      obtain⟨_,hn2,hn3⟩:=hn0
      have hfn:((fps++abj).flatten).Nodup:=by
       rw[List.flatten_append,List.nodup_append]
       refine⟨hn2,as6 Ot,fun b hb' c' PV hbc=> ?_⟩
       subst hbc
       obtain⟨y,hy,hby⟩:=aom Ot b PV
       obtain⟨_,h3,_⟩:=hmm y hy
       have h4:=asw hu1 b hb'
       rw[wR hno] at h4
       exact hc.sep y.1 id _ _ (hno y hy) h3 dT b hby h4
      rw[cond_true,List.nodup_append]
      refine⟨aof,hfn,fun b hb' c' PV hbc=> ?_⟩
      subst hbc
      rcases Ov with h3 | h3
      ·rw[h3] at hb'
       exact (abk b PV).1 (.inl ⟨id,_,Qa,by simpa [cb] using hb'⟩)
      ·rw[h3] at hb'
       have h4:b=w.heap.size:=by simpa using hb'
       have:=(abk b PV).2
       omega
    ·simp only[dB,if_true]
     intro b hb'
     rcases List.mem_append.1 hb' with hb' | hb'
     ·rcases arT b hb' with h3 | h3
      ·have:=lC.2 b h3
       exact⟨this.1,by have:=zo.size;omega⟩
      ·subst h3
       refine⟨.inl hR.kept.size,KF.lt _ hb'⟩
     ·cases Ot:(u && (cg ct || q.2.2)) with
      | false=>simp [Ot] at hb'
      | true=>
       simp only[Ot,cond_true,List.flatten_append,List.mem_append] at hb'
       have hsz':=zo.size
       rcases hb' with hb' | hb'
       ·have hu1:u=true:=by rw[Bool.and_eq_true] at Ot;exact Ot.1
        have:=lC.2 b (asw hu1 b hb')
        exact⟨this.1,by omega⟩
       ·obtain⟨y,hy,hby⟩:=aom Ot b hb'
        obtain⟨_,h3,_⟩:=hmm y hy
        have:=(hc.fresh y.1 _ h3).2 b hby
        exact⟨this.1,by omega⟩
   ·obtain⟨Jj,hj'⟩:=ans j oj hj sR
    refine .inl ⟨sR,hj',by simp [dB,sR], ?_, ?_⟩
    ·intro k hk e
     rcases tX hj' with h3 | ⟨e',r',rfl,_⟩
     ·exact (lR.obj j oj h3).2 k hk (by rw[e];exact jj)
     ·simp [oy] at hk
    ·intro b hb'
     have Jt:=bF (PY.dA j oj hj') b hb'
     refine U0 b ((PY.fresh j oj hj').2 b Jt).2 (fun e=> ?_)
     exact PY.sep id j _ _ (Ne.symm Jj) Qa hj' b (ant b e) Jt
  ·intro k j ok oj sV hk hj b hb'
   by_cases hkk:k=bD d 0
   ·subst hkk
    have hjn:j≠bD d 0:=Ne.symm sV
    obtain⟨Jj,hj'⟩:=ans j oj hj hjn
    simp only[dB,if_true] at hb'
    simp only[dB,hjn,if_false]
    exact arU b hb' j oj Jj hj'
   ·obtain⟨hki,hk'⟩:=ans k ok hk hkk
    simp only[dB,hkk,if_false] at hb'
    by_cases sR:j=bD d 0
    ·subst sR
     simp only[dB,if_true]
     exact fun h3=>arU b h3 k ok hki hk' hb'
    ·obtain⟨Jj,hj'⟩:=ans j oj hj sR
     simp only[dB,sR,if_false]
     exact PY.sep k j ok oj sV hk' hj' b hb'
 ·rw[Mv]
  unfold bX
  exact⟨hval.symm,KF.one⟩
end
end Go.Proofs.YthpmalpdnnbkgaaGreat.Vm
namespace Go.Proofs.YthpmalpdnnbkgaaGreat.Vm
theorem anu:∀(ns:List Int) (l:List UInt8),ns.foldl (fun (r:ByteArray) n=>r.push (UInt8.ofNat n.toNat)) ⟨l.toArray⟩=⟨(l++ns.map (fun n=>UInt8.ofNat n.toNat)).toArray⟩
 | [],l=>by simp
 | n::ns,l=>by
  simp only[List.foldl_cons,List.map_cons]
  have:(⟨l.toArray⟩:ByteArray).push (UInt8.ofNat n.toNat)=⟨(l++[UInt8.ofNat n.toNat]).toArray⟩:=by
   apply ByteArray.ext
   simp [ByteArray.push]
  rw[this,anu ns]
  simp
section
variable {P:Program} {Γ:Ctx} {w0:World} {S:Own} {st:St} {o:Oper} {e:u4} {a:Act} {w:World}
variable {f:Nat→SV} {h:Nat→Option bP} {β:Env} {φ:Nat→List Nat} {tm:Array Value}
theorem amt {rows:List (List DC)} {v:Value} {fp:List Nat} (hr:RdC w (.sl [.int .u8]) (.sl rows) v fp):
  (Conv.bytesToString v).run P w= .ok (.string ⟨(rows.map byteOf).toArray⟩) w:=by
 obtain⟨q,m,c,rfl,hn,_,_,abI⟩:=vI hr
 cases q with
 | none=>
  have hm:m=0:=by
   rcases abI with ⟨h0,_⟩ | ⟨_,b,o,fps,h1,_⟩
   ·exact h0
   ·cases h1
  have:rows=[]:=by simpa [hm] using hn
  subst this
  simp [Conv.bytesToString]
  rfl
 | some ad=>
  have as7:(loadCells ad m).run P w= .ok ((rows.map fun r=>(r.headD default).asInt).map (Value.int .u8)).toArray w:=by
   have:=run_loadCells_list (P:=P) (w:=w) ad ((rows.map fun r=>(r.headD default).asInt).map (Value.int .u8)) ?_
   ·simpa [hn] using this
   ·intro j u hj
    rcases abI with ⟨h0,_⟩ | ⟨_,b,o,fps,h1,hlt,D1,_,GS⟩
    ·have:rows=[]:=by simpa [h0] using hn
     subst this
     simp at hj
    ·injection h1 with h1
     subst h1
     rw[sQ]
     have hjl:j<rows.length:=by
      have:=(List.getElem?_eq_some_iff.1 hj).1
      simpa using this
     have hfj:j<fps.length:=by omega
     have:=GS j rows[j] fps[j] (by simp) (by simp)
     simp only[RdL,RdC,List.length_singleton,Nat.mul_one,Nat.add_zero] at this
     obtain⟨d,r',v',f1,f2,e1,e2,⟨n,rfl,rfl,_,_⟩,⟨rfl,_⟩,_⟩:=this
     rw[e2]
     simp only[List.map_map,List.getElem?_map,List.getElem?_eq_getElem hjl,e1,Option.map_some,Option.some.injEq] at hj
     simpa [DC.asInt] using hj
  rw[run_bytesToString w ad m c _ as7]
  have:=anu (rows.map fun r=>(r.headD default).asInt) []
  have e0:ByteArray.empty=⟨([]:List UInt8).toArray⟩:=rfl
  rw[e0,this]
  simp [byteOf,Function.comp_def]
theorem aon (hR:Rel w0 S st a w) (hd:∀d,o.dst=some d→eD st.n d) (lR:e.ow≠[]→∀d,o.dst=some d→jr st d) {s t:TypeId} {x:Operand} (ho:o.op= .convert s t x) {sx:SV}
  (h1:(oq x).val st.get st.obj=some sx) (he:(apV P o.dst s t sx).val st.get st.obj=some e):Good P w0 S st o e a w:=by
 unfold apV at he
 split at he
 ·rename_i k src hk hs
  split at he
  ·rename_i k' n
   simp only[M.ax,Option.some.injEq] at he
   subst he
   refine cl hR hd rfl rfl fun β φ hc=> ?_
   have hx:=hc.ev h1
   simp only[bX] at hx
   refine⟨.int k (k.wrap n), ?_,by unfold bX;exact⟨rfl,Jg _ _⟩⟩
   simp [execOp,ho,hx.1,convert,run_underlying hk,run_underlying hs,Conv.intToInt]
  ·simp at he
 ·rename_i hk hs
  split at he
  ·rename_i l
   simp only[M.ax,Option.some.injEq] at he
   subst he
   refine cl hR hd rfl rfl fun β φ hc=> ?_
   have hx:=hc.ev h1
   simp only[bX] at hx
   refine⟨.string ⟨l.toArray⟩, ?_,by unfold bX;exact⟨rfl,hx.2⟩⟩
   simp [execOp,ho,hx.1,convert,run_underlying hk,run_underlying hs]
  ·simp at he
 ·rename_i et hk hs
  split at he
  ·rename_i het
   simp only[M.aX,Option.bind_eq_some_iff,M.ax,Option.some.injEq] at he
   obtain⟨q,hq,rfl⟩:=he
   refine cl hR hd rfl rfl fun β φ hc=> ?_
   obtain⟨fp,hrd,_⟩:=Qb hc (hc.ev h1) hq
   have fa:=amt (P:=P) hrd
   obtain⟨qa,m,c,hv,hn,hcc,hm,_⟩:=vI hrd
   refine⟨.string ⟨(q.1.map byteOf).toArray⟩, ?_,by unfold bX;exact⟨rfl,by simp;omega⟩⟩
   rw[hv] at fa
   have:=run_convert_bytes_string (P:=P) w s t et qa m c hs het hk
   simp [execOp,ho,hv,this,fa]
  ·simp at he
 ·rename_i et hk hs
  split at he
  ·rename_i l d het dL
   cases hz:eA P et 1
   ·simp [hz] at he
   simp only[hz,cond_true,M.ax,Option.some.injEq] at he
   subst he
   obtain⟨β0,φ0,hc0⟩:=hR.core
   have hx:=hc0.ev h1
   simp only[bX] at hx
   have hlen:l.length≤9223372036854775807:=by have:=hx.2;simp only[maxLen] at this;omega
   generalize afs:Question.cut (.appendCap l.length 0 et) (w.tape w.drawn (.appendCap l.length 0 et))=cap
   have as8:l.length≤cap:=by rw[←afs];simp [Question.cut]
   have as9:cap≤maxLen:=by
    rw[←afs]
    simp only[Question.cut,maxLen]
    have:=Nat.mod_lt (w.tape w.drawn (.appendCap l.length 0 et)) (show 0<2 ^ 63 - l.length by omega)
    omega
   let cells:Array Value:=(l.map fun b=>Value.int .u8 b.toNat).toArray++Array.replicate (cap - l.length) (.int .u8 0)
   have hcs:cells.size=cap:=by simp [cells];omega
   have hw':∀b,b<w.heap.size→(World.freeze (w.drew.alloc (.cells cells et)) ⟨w.heap.size,cap,none⟩ 1).heap[b]? =w.heap[b]? :=by
    intro b hb
    simp only[World.freeze,Nat.one_ne_zero,if_false,Array.getElem?_modify]
    rw[if_neg (by omega)]
    exact alloc_old (w:=w.drew) _ b hb
   have jj:(World.freeze (w.drew.alloc (.cells cells et)) ⟨w.heap.size,cap,none⟩ 1).heap[w.heap.size]? =some (.cells cells et (cells.size,cells.size+1)):=by
    simp only[World.freeze,Nat.one_ne_zero,if_false,Array.getElem?_modify,if_true]
    have:=EH (w:=w.drew) (.cells cells et)
    have e1:w.drew.heap.size=w.heap.size:=rfl
    rw[e1] at this
    rw[this]
    simp [hcs]
   have hs':(World.freeze (w.drew.alloc (.cells cells et)) ⟨w.heap.size,cap,none⟩ 1).heap.size=w.heap.size+1:=by simp [World.freeze]
   refine HC hR dL (hd d dL) (lR (by simp) d dL) (m:=[]) (fz:=true) (u:=true) (vals:=l.map fun b=>Value.int .u8 b.toNat) (v:= .slice (some ⟨w.heap.size,0,none⟩) l.length cap)
    (w':=World.freeze (w.drew.alloc (.cells cells et)) ⟨w.heap.size,cap,none⟩ 1) ?_ ?_ (by rw[hs'];omega) hw' (by simp [Value.ownBlock]) (by simp [qW]) rfl ?_ ?_ rfl rfl rfl
   ·have hsh:(w.drew.alloc (.cells cells et)).shape? w.heap.size=some (et,cap):=by
     have:=EH (w:=w.drew) (.cells cells et)
     have e1:w.drew.heap.size=w.heap.size:=rfl
     rw[e1] at this
     unfold World.shape?
     rw[this]
     simp [hcs]
    simp only[execOp,ho,hx.1,convert,Sem.run_bind,run_underlying hk,run_underlying hs,run_underlying het,Result.andThen_ok,Conv.stringToBytes,run_choose]
    simp only[Question.forced,Bool.false_eq_true,if_false,Result.andThen_ok,Mu,afs,newRow,Sem.run_bind,run_newObj,World.drew_eq,World.alloc_eq]
    have hcc:(Array.map (fun b:UInt8=>Value.int IntKind.u8 ↑b.toNat) l.toArray++Array.replicate (cap - l.length) (Value.int IntKind.u8 0))=cells:=by simp [cells]
    rw[hcc]
    simp [markStringish,hsh]
   ·refine⟨hR.kept.os,hR.kept.tape,hR.kept.output,by rw[hs'];have:=hR.kept.size;omega,fun k h2 h3=> ?_⟩
    rw[hw' k (by have:=hR.kept.size;omega)]
    exact hR.kept.block k h2 h3
   ·refine⟨by simp,.inr ⟨w.heap.size,cap,cells,by simp,by simpa using jj,by simpa using as8,as9,by simp [hcs], ?_⟩⟩
    simp [cells]
   ·intro β φ hc
    refine⟨List.replicate l.length [],⟨by simp,fun i r' f' hi hf=> ?_⟩,by simp,by simp⟩
    have hil:i<l.length:=by
     have:=(List.getElem?_eq_some_iff.1 hi).1
     simpa using this
    have hr':r'=ofByte l[i]:=by simpa [hil] using hi.symm
    have hf':f'=[]:=by
     have:=hf
     rw[List.getElem?_replicate,if_pos hil] at this
     injection this with this
     exact this.symm
    subst hr' hf'
    unfold ofByte
    simp only[RdL,RdC]
    refine⟨.int l[i].toNat,[],.int .u8 l[i].toNat,[],[],rfl, ?_,⟨_,rfl,rfl, ?_,rfl⟩,⟨rfl,rfl⟩,rfl⟩
    ·simp [hil]
    ·rw[Hy]
     have h1:IntKind.u8.min=0:=by decide
     have h2:IntKind.u8.max=255:=by decide
     have:=l[i].toNat_lt
     omega
  ·simp at he
 ·simp at he
end
end Go.Proofs.YthpmalpdnnbkgaaGreat.Vm
set_option linter.unusedVariables false
set_option linter.unusedSimpArgs false
namespace Go.Proofs.YthpmalpdnnbkgaaGreat.Vm
def arv (w:World) (k:AK) (ds:List DC) (v:Value) (fp:List Nat):Prop:=
 ∃vs:List Value,(bif k.agg then v= .agg vs.toArray else (vs=[v]∧v.oneCell'=true))∧(∀x∈vs,x.oneCell'=true)∧RdL w k.cts ds (fun j=>vs[j]?) fp∧vs.length=k.cts.length
def ArgsR (w:World):List AK→List DC→List Value→List Nat→Prop
 | [],ds,vs,fp=>ds=[]∧vs=[]∧fp=[]
 | k::ks,ds,vs,fp=>∃d1 d2 v vs' f1 f2,ds=d1++d2∧vs=v::vs'∧arv w k d1 v f1∧ArgsR w ks d2 vs' f2∧fp=f1++f2
def ResL (w:World):List RC→List DC→List Value→List Nat→List Nat→List Nat→Prop
 | [],ds,vs,φ,im,tp=>ds=[]∧vs=[]∧φ=[]∧im=[]∧tp=[]
 | .imm c::cs,ds,vs,φ,im,tp=>∃d ds' v vs' f1 im',ds=d::ds'∧vs=v::vs'∧RdC w c d v f1∧ResL w cs ds' vs' φ im' tp∧im=f1++im'
 | .own t e::cs,ds,vs,φ,im,tp=>∃rows ds' v vs' vals fps φ' tp',ds= .sl rows::ds'∧vs=v::vs'∧qC w t e.length false v rows.length vals∧Bu w e rows vals fps∧
   ResL w cs ds' vs' φ' im tp'∧φ=(v.ownBlock.toList++fps.flatten)++φ'∧tp=v.ownBlock.toList++tp'
 | .deep t e ts::cs,ds,vs,φ,im,tp=>∃rows ds' v vs' vals d_ φ' tp',ds= .sl rows::ds'∧vs=v::vs'∧qC w t e.length false v rows.length vals∧kV w e ts rows vals (fun _=>none) d_∧
   ResL w cs ds' vs' φ' im tp'∧φ=(v.ownBlock.toList++d_.flatten)++φ'∧tp=(v.ownBlock.toList++d_.flatten)++tp'
def ResV (w:World):List RK→List DC→List Value→List Nat→List Nat→List Nat→Prop
 | [],ds,vs,φ,im,tp=>ds=[]∧vs=[]∧φ=[]∧im=[]∧tp=[]
 | k::ks,ds,vs,φ,im,tp=>∃d1 d2 v vs' us φ1 φ2 i1 i2 t1 t2,ds=d1++d2∧vs=v::vs'∧(bif k.agg then v= .agg us.toArray else us=[v])∧(∀x∈us,x.oneCell'=true)∧ResL w k.cells d1 us φ1 i1 t1∧
   ResV w ks d2 vs' φ2 i2 t2∧φ=φ1++φ2∧im=i1++i2∧tp=t1++t2
def pack:List Value→Value
 | [x]=>x
 | l=> .tuple l.toArray
def Holds (P:Program) (g:Nat) (s:Sum):Prop:=
 (∃fn,P.funcs[g]? =some fn∧fn.body.isSome=true∧(fn.name== "runtime.NumGoroutine")=false)∧
 ∀(w:World) (ds:List DC) (vals:List Value) (fp:List Nat),ArgsR w s.ps ds vals fp→(s.fn ds).1=true→
  Calls P g vals.toArray w fun e w'=>∃vs φ im tp,e= .returned (pack vs)∧Kept Own.none w w'∧ResV w' s.rs (s.fn ds).2 vs φ im tp∧φ.Nodup∧
   (∀b∈φ,w.heap.size≤b∧b<w'.heap.size)∧∀b∈im,(b∈fp∨w.heap.size≤b)∧b ∉ tp
def yL (w:World):List CT→List TypeId→List DC→List Value→List Nat→Prop
 | [],ts,ds,us,mb=>ts=[]∧ds=[]∧us=[]∧mb=[]
 | .sl e::cs,ts,ds,us,mb=>∃t DP rows ds' v eo vals fps Om,ts=t::DP∧ds= .sl rows::ds'∧us=v::eo∧cg e=true∧qC w t e.length false v rows.length vals∧Bu w e rows vals fps∧
   yL w cs DP ds' eo Om∧mb=v.ownBlock.toList++Om
 | c::cs,ts,ds,us,mb=>∃d ds' v eo,ds=d::ds'∧us=v::eo∧RdC w c d v []∧yL w cs ts ds' eo mb
def Qc (w:World) (t:TT) (e:List CT) (rows:List (List DC)) (v:Value) (mb:List Nat):Prop:=
 match t with
 | .flat t=>cg e=true∧∃vals fps,qC w t e.length false v rows.length vals∧Bu w e rows vals fps∧mb=v.ownBlock.toList
 | .deep t its=>∃vals d_,qC w t e.length false v rows.length vals∧kV w e its rows vals (fun _=>none) d_∧mb=v.ownBlock.toList++d_.flatten
def fH (w:World):List CT→List TT→List DC→List Value→List Nat→Prop
 | [],ts,ds,us,mb=>ts=[]∧ds=[]∧us=[]∧mb=[]
 | .sl e::cs,ts,ds,us,mb=>∃t DP rows ds' v eo m1 Om,ts=t::DP∧ds= .sl rows::ds'∧us=v::eo∧Qc w t e rows v m1∧fH w cs DP ds' eo Om∧mb=m1++Om
 | c::cs,ts,ds,us,mb=>∃d ds' v eo,ds=d::ds'∧us=v::eo∧RdC w c d v []∧fH w cs ts ds' eo mb
def U1 (w:World):List CT→List TT→List DC→List Value→List Nat→Prop
 | [],_,ds,us,mb=>ds=[]∧us=[]∧mb=[]
 | .sl e::cs,ts,ds,us,mb=>∃t DP rows ds' v eo m1 Om,ts=t::DP∧ds= .sl rows::ds'∧us=v::eo∧Qc w t e rows v m1∧U1 w cs DP ds' eo Om∧mb=m1++Om
 | _::cs,ts,ds,us,mb=>∃v eo,us=v::eo∧U1 w cs ts ds eo mb
def X2 (w:World) (k:AK):Option MK→List DC→Value→List Nat→List Nat→Prop
 | none,d,v,f,b=>arv w k d v f∧b=[]
 | some (.box t),d,v,f,b=>∃(g:Nat) (us:List Value),v= .pointer (some ⟨g,0,none⟩)∧w.heap[g]? =some (.cells us.toArray t (0,0))∧(∀x∈us,x.oneCell'=true)∧RdL w k.cts d (fun j=>us[j]?) f∧us.length=k.cts.length∧b=[g]
 | some (.rows ts),d,v,f,b=>∃us:List Value,(bif k.agg then v= .agg us.toArray else (us=[v]∧v.oneCell'=true))∧(∀x∈us,x.oneCell'=true)∧fH w k.cts ts d us b∧f=[]
def uP (w:World):List AK→List (Option MK)→List DC→List Value→List Nat→List Nat→Prop
 | [],ms,ds,vs,fp,mb=>ms=[]∧ds=[]∧vs=[]∧fp=[]∧mb=[]
 | k::ks,ms,ds,vs,fp,mb=>∃m ms' d1 d2 v vs' f1 f2 b1 b2,ms=m::ms'∧ds=d1++d2∧vs=v::vs'∧X2 w k m d1 v f1 b1∧uP w ks ms' d2 vs' f2 b2∧fp=f1++f2∧mb=b1++b2
def arw (w:World) (k:AK):Option MK→List DC→Value→List Nat→List Nat→Prop
 | none,d,_,im,b=>d=[]∧im=[]∧b=[]
 | some (.box t),d,v,im,b=>∃(g:Nat) (us:List Value),v= .pointer (some ⟨g,0,none⟩)∧w.heap[g]? =some (.cells us.toArray t (0,0))∧(∀x∈us,x.oneCell'=true)∧RdL w k.cts d (fun j=>us[j]?) im∧us.length=k.cts.length∧b=[g]
 | some (.rows ts),d,v,im,b=>∃us:List Value,(bif k.agg then v= .agg us.toArray else us=[v])∧U1 w k.cts ts d us b∧im=[]
def ai5 (w:World):List AK→List (Option MK)→List DC→List Value→List Nat→List Nat→Prop
 | [],_,ds,vs,im,mb=>ds=[]∧vs=[]∧im=[]∧mb=[]
 | k::ks,ms,ds,vs,im,mb=>∃m ms' d1 d2 v vs' i1 i2 b1 b2,ms=m::ms'∧ds=d1++d2∧vs=v::vs'∧arw w k m d1 v i1 b1∧ai5 w ks ms' d2 vs' i2 b2∧im=i1++i2∧mb=b1++b2
def ox (P:Program) (g:Nat) (s:Sum):Prop:=
 (∃fn,P.funcs[g]? =some fn∧fn.body.isSome=true∧(fn.name== "runtime.NumGoroutine")=false)∧
 ∀(w:World) (ds:List DC) (vals:List Value) (fp mb:List Nat),uP w s.ps s.ms ds vals fp mb→mb.Nodup→(∀b∈mb,b ∉ fp)→(s.fn ds).1=true→
  Calls P g vals.toArray w fun e w'=>∃vs φ im tp im2 rd od ψ,e= .returned (pack vs)∧(s.fn ds).2=rd++od∧rd.length=sO s.rs∧Kept ⟨fun b=>b∈mb,fun _=>False,[]⟩ w w'∧ResV w' s.rs rd vs φ im tp∧φ.Nodup∧
   (∀b∈φ,w.heap.size≤b∧b<w'.heap.size)∧ai5 w' s.ps s.ms od vals im2 ψ∧ψ.Nodup∧(∀b∈ψ,(b∈mb∨w.heap.size≤b)∧b<w'.heap.size∧b ∉ φ)∧∀b∈im2,(b∈fp∨w.heap.size≤b)∧b ∉ tp∧b ∉ ψ
def aqh (P:Program) (g:Nat) (s:Sum) (t:TypeId) (cts:List CT):Prop:=
 (∃fn,P.funcs[g]? =some fn∧fn.body.isSome=true∧(fn.name== "runtime.NumGoroutine")=false)∧
 ∀(w:World) (ds:List DC) (vals:List Value) (fp:List Nat),ArgsR w s.ps ds vals fp→(s.fn ds).1=true→
  Calls P g vals.toArray w fun e w'=>∃(b:Nat) (us:List Value) (im:List Nat),e= .returned (.pointer (some ⟨b,0,none⟩))∧Kept Own.none w w'∧w.heap.size≤b∧b<w'.heap.size∧
   w'.heap[b]? =some (.cells us.toArray t (0,0))∧(∀x∈us,x.oneCell'=true)∧RdL w' cts (s.fn ds).2 (fun j=>us[j]?) im∧us.length=cts.length∧∀x∈im,(x∈fp∨w.heap.size≤x)∧x≠b
def Mx (P:Program) (g:Nat) (s:Sum):Prop:=
 bif s.ann then True else
 match s.pt with
 | some (t,cts)=>aqh P g s t cts
 | none=>
  match s.ms with
  | []=>Holds P g s
  | _::_=>ox P g s
def ai (P:Program) (Γ:Ctx):Prop:=∀g s,lkS Γ g=some s→Mx P g s
section
variable {P:Program} {Γ:Ctx} {w0:World} {S:Own} {st:St} {o:Oper} {e:u4} {a:Act} {w:World}
variable {f:Nat→SV} {h:Nat→Option bP} {β:Env} {φ:Nat→List Nat} {tm:Array Value}
theorem X3 (hc:Core w0 S f h β φ tm w):∀(ks:List AK) (ss:List SV) (vs:List Value) (q:List DC×HJ),bt w (Av h β) β ss vs→(S3 ks ss).val f h=some q→
  ∃fp,ArgsR w ks q.1 vs fp∧qW h q.2∧∀b∈fp,(¬Av h β b)∨∃x∈q.2,b∈GU h β x.1
 | [],[],vs,q,hs,hq=>by
  simp only[S3,M.ax,Option.some.injEq] at hq
  subst hq
  simp only[bt] at hs
  exact⟨[],⟨rfl,hs,rfl⟩,by simp [qW],by simp⟩
 | [],_::_,vs,q,hs,hq=>by simp [S3] at hq
 | _::_,[],vs,q,hs,hq=>by simp [S3] at hq
 | k::ks,s::ss,vs,q,hs,hq=>by
  simp only[bt] at hs
  obtain⟨v,l,rfl,h1,h2⟩:=hs
  simp only[S3,M.aX,Option.bind_eq_some_iff,M.ax,Option.some.injEq] at hq
  obtain⟨q1,d6,q2,Bc,rfl⟩:=hq
  obtain⟨PT,ha2,hm2,afv⟩:=X3 hc ks ss l q2 h2 Bc
  have one:∃fp1,arv w k q1.1 v fp1∧qW h q1.2.1∧∀b∈fp1,(¬Av h β b)∨∃x∈q1.2.1,b∈GU h β x.1:=by
   cases hk:k.agg with
   | true=>
    cases s with
    | agg cs=>
     simp only[hk] at d6
     simp only[bX] at h1
     obtain⟨us,rfl,hus,fm⟩:=h1
     obtain⟨fp1,hr,hm,tU,_⟩:=DG hc k.cts cs us q1 hus d6
     have hl:=bt.length _ _ hus
     have S0:=tY _ _ _ d6
     exact⟨fp1,⟨us,by rw[hk];rfl,fm,hr,by omega⟩,hm,tU⟩
    | _=>simp [hk] at d6
   | false=>
    have afw:(ou k.cts [s]).val f h=some q1:=by
     cases s<;>simp only[hk] at d6<;>first | exact d6 | (simp at d6)
    have Qd:bt w (Av h β) β [s] [v]:=by simp only[bt];exact⟨v,[],rfl,h1,rfl⟩
    obtain⟨fp1,hr,hm,tU,_⟩:=DG hc k.cts [s] [v] q1 Qd afw
    have S0:=tY _ _ _ afw
    have fm:v.oneCell'=true:=by
     cases aqi:k.cts with
     | nil=>rw[aqi] at S0;simp at S0
     | cons c cs=>
      rw[aqi] at hr
      simp only[RdL] at hr
      obtain⟨d,r',v',f1,f2,_,h0,h3,_⟩:=hr
      simp at h0
      subst h0
      exact h3.one
    exact⟨fp1,⟨[v],by rw[hk];exact⟨rfl,fm⟩,by simpa using fm,hr,by simpa using S0⟩,hm,tU⟩
  obtain⟨fp1,ha1,hm1,XZ⟩:=one
  refine⟨fp1++PT,⟨q1.1,q2.1,v,l,fp1,PT,rfl,rfl,ha1,ha2,rfl⟩,HB hm1 hm2, ?_⟩
  intro b hb
  rcases List.mem_append.1 hb with hb | hb
  ·rcases XZ b hb with h3 | ⟨x,hx,h3⟩
   ·exact .inl h3
   ·exact .inr ⟨x,List.mem_append_left _ hx,h3⟩
  ·rcases afv b hb with h3 | ⟨x,hx,h3⟩
   ·exact .inl h3
   ·exact .inr ⟨x,List.mem_append_right _ hx,h3⟩
structure dk where
 id:Nat
 t:TypeId
 e:List CT
 rows:List (List DC)
 v:Value
 fps:List (List Nat)
 ts:Option (List TypeId)
def dk.obj (x:dk):bP:=
 match x.ts with
 | none=> .row x.t x.e x.rows false true
 | some ts=> .deep x.t x.e ts x.rows none
def dk.ot (x:dk):List Nat:=x.v.ownBlock.toList++x.fps.flatten
def dk.cb (x:dk):List Nat:=
 match x.ts with
 | none=>x.v.ownBlock.toList
 | some _=>x.ot
def dk.ok (w:World) (x:dk):Prop:=
 match x.ts with
 | none=>∃vals,qC w x.t x.e.length false x.v x.rows.length vals∧Bu w x.e x.rows vals x.fps
 | some ts=>∃vals,qC w x.t x.e.length false x.v x.rows.length vals∧kV w x.e ts x.rows vals (fun _=>none) x.fps
theorem dk.bF (x:dk):∀b∈x.cb,b∈x.ot:=by
 intro b hb
 unfold dk.cb at hb
 split at hb
 ·exact List.mem_append_left _ hb
 ·exact hb
theorem dk.Qz (x:dk) {β:Env} (hv:β.val x.id=x.v) (hn:β.nb x.id=x.fps.flatten):Vm.cb β x.id x.obj=x.cb:=by
 unfold dk.obj dk.cb
 cases x.ts with
 | none=>simp [Vm.cb,hv]
 | some ts=>simp [Vm.cb,hv,hn,dk.ot]
theorem dk.ids (x:dk):oy x.obj=[]:=by
 unfold dk.obj
 cases x.ts<;>rfl
theorem dk.as_ {w:World} {x:dk} (h:x.ok w) {av:Nat→Prop} {β:Env} (hv:β.val x.id=x.v) (hn:β.nb x.id=x.fps.flatten) (ha:∀b∈x.fps.flatten,b ∉ x.cb→¬av b) (hd:x.ot.Nodup):Mt w av β x.id x.obj x.ot:=by
 unfold dk.ok at h
 unfold dk.obj
 cases hts:x.ts with
 | none=>
  rw[hts] at h
  obtain⟨vals,h1,h2⟩:=h
  refine⟨vals,x.fps,by rw[hv];exact h1,h2,fun b hb=>ha b hb ?_,by rw[hv];rfl⟩
  unfold dk.cb
  rw[hts]
  intro hb'
  unfold dk.ot at hd
  rw[List.nodup_append] at hd
  exact hd.2.2 b hb' b hb rfl
 | some ts=>
  rw[hts] at h
  obtain⟨vals,h1,h2⟩:=h
  exact⟨vals,x.fps,by rw[hv];exact h1,h2,hn,by rw[hv];rfl⟩
def Jr:List dk→Nat→Option dk
 | [],_=>none
 | x::l,i=>if i=x.id then some x else Jr l i
theorem eM {N:List dk} {j:Nat} {x:dk} (h:Jr N j=some x):x∈N∧x.id=j:=by
 induction N with
 | nil=>simp [Jr] at h
 | cons y l ih=>
  simp only[Jr] at h
  split at h
  ·rename_i hj
   injection h with h
   subst h
   exact⟨List.mem_cons_self ..,hj.symm⟩
  ·obtain⟨h1,h2⟩:=ih h
   exact⟨List.mem_cons_of_mem _ h1,h2⟩
theorem anv {N:List dk} {x:dk} (hx:x∈N) (hn:(N.map (·.id)).Nodup):Jr N x.id=some x:=by
 induction N with
 | nil=>simp at hx
 | cons y l ih=>
  simp only[List.map_cons,List.nodup_cons] at hn
  simp only[Jr]
  rcases List.mem_cons.1 hx with rfl | hx
  ·simp
  ·have:x.id≠y.id:=fun e=>hn.1 (e ▸ List.mem_map_of_mem hx)
   rw[if_neg this]
   exact ih hx hn.2
def M9 (N:List dk):List (Nat×Option bP):=N.map fun x=>(x.id,some x.obj)
theorem amu (N:List dk) (l:List (Nat×Option bP)) (j:Nat):fo (M9 N++l) h j=match Jr N j with | some x=>some x.obj | none=>fo l h j:=by
 induction N with
 | nil=>rfl
 | cons y N ih=>
  simp only[M9,List.map_cons,List.cons_append,fo,dB,Jr]
  split
  ·rfl
  ·exact ih
def Env.Ls (β:Env) (N:List dk):Env:=⟨β.Bn,fun j=>match Jr N j with | some x=>x.v | none=>β.val j,β.Ol,fun j=>match Jr N j with | some x=>x.fps.flatten | none=>β.nb j⟩
theorem wS {N:List dk} (h:(N.flatMap dk.ot).Nodup):(∀x∈N,x.ot.Nodup)∧∀x∈N,∀y∈N,x≠y→∀b∈x.ot,b ∉ y.ot:=by
 induction N with
 | nil=>simp
 | cons z l ih=>
  rw[List.flatMap_cons,List.nodup_append] at h
  obtain⟨h1,h2,h3⟩:=h
  obtain⟨i1,i2⟩:=ih h2
  refine⟨fun x hx=> ?_,fun x hx y hy hxy b hb hb'=> ?_⟩
  ·rcases List.mem_cons.1 hx with rfl | hx
   ·exact h1
   ·exact i1 x hx
  ·rcases List.mem_cons.1 hx with hx1 | hx1<;>rcases List.mem_cons.1 hy with hy1 | hy1
   ·exact hxy (hx1.trans hy1.symm)
   ·subst hx1
    exact h3 b hb b (List.mem_flatMap.2 ⟨y,hy1,hb'⟩) rfl
   ·subst hy1
    exact h3 b hb' b (List.mem_flatMap.2 ⟨x,hx1,hb⟩) rfl
   ·exact i2 x hx1 y hy1 hxy b hb hb'
theorem Core.arx (hc:Core w0 S f h β φ tm w) {w':World} {N:List dk} (hs:w.heap.size≤w'.heap.size) (hw:∀b,b<w.heap.size→w'.heap[b]? =w.heap[b]?) (hk:w0.heap.size≤w.heap.size)
  (lC:∀x∈N,h x.id=none∧(∀i,x.id ∉ l5 (f i))∧∀k o,h k=some o→x.id ∉ oy o) (hok:∀x∈N,dk.ok w' x) (Bo:(N.map (·.id)).Nodup)
  (hnd:(N.flatMap dk.ot).Nodup) (hal:∀b∈N.flatMap dk.ot,w.heap.size≤b∧b<w'.heap.size):
  Core w0 S f (fun j=>match Jr N j with | some x=>some x.obj | none=>h j) (β.Ls N) (fun j=>match Jr N j with | some x=>x.ot | none=>φ j) tm w':=by
 have EI:∀x∈N,∀b∈x.ot,b∈N.flatMap dk.ot:=fun x hx b hb=>List.mem_flatMap.2 ⟨x,hx,hb⟩
 have afG:∀j oj,Jr N j=none→cb (β.Ls N) j oj=cb β j oj:=by
  intro j oj hj
  cases oj<;>simp [cb,Env.Ls,hj]
 have X4:∀j x,Jr N j=some x→cb (β.Ls N) j x.obj=x.cb:=by
  intro j x hj
  obtain⟨_,rfl⟩:=eM hj
  exact x.Qz (by simp [Env.Ls,hj]) (by simp [Env.Ls,hj])
 have hha:∀b,Av (fun j=>match Jr N j with | some x=>some x.obj | none=>h j) (β.Ls N) b→Av h β b∨(w.heap.size≤b∧∃x∈N,b∈x.cb):=by
  rintro b (⟨j,oj,hj,ie⟩ | hb)
  case inr=>exact .inl (.inr hb)
  cases hl:Jr N j with
  | none=>
   simp only[hl] at hj
   rw[afG j oj hl] at ie
   exact .inl (.inl ⟨j,oj,hj,ie⟩)
  | some x=>
   simp only[hl,Option.some.injEq] at hj
   subst hj
   rw[X4 j x hl] at ie
   have hx:=(eM hl).1
   exact .inr ⟨(hal b (EI x hx b (x.bF b ie))).1,x,hx,ie⟩
 refine hc.aiU (fun j=>(Jr N j).isSome=true) hs (fun b hb _=>hw b hb) (fun b hb=>(hha b hb).imp id (·.1)) ?_ ?_ ?_ ?_
 ·intro i j hj hx
  obtain⟨x,hx⟩:=Option.isSome_iff_exists.1 hx
  obtain⟨hm,rfl⟩:=eM hx
  exact (lC x hm).2.1 i hj
 ·intro j hj
  have:Jr N j=none:=by simpa using hj
  simp [Env.Ls,this]
 ·intro j oj hj
  cases hl:Jr N j with
  | none=>
   simp only[hl] at hj
   refine .inl ⟨by simp [hl],hj,by simp [Env.Ls,hl],by simp, ?_,fun b hb=>hw b ?_⟩
   ·intro i hi hx
    obtain⟨x,hx⟩:=Option.isSome_iff_exists.1 hx
    obtain⟨hm,rfl⟩:=eM hx
    exact (lC x hm).2.2 j oj hj hi
   ·exact ((hc.fresh j oj hj).2 b (bF (hc.dA j oj hj) b hb)).2
  | some x=>
   simp only[hl,Option.some.injEq] at hj
   subst hj
   obtain⟨hm,rfl⟩:=eM hl
   refine .inr ⟨dk.as_ (hok x hm) (by simp [Env.Ls,hl]) (by simp [Env.Ls,hl]) ?_ ((wS hnd).1 x hm), ?_, ?_⟩
   ·intro b hb hnt hx
    have Jt:b∈x.ot:=List.mem_append_right _ hb
    have aqj:=(hal b (EI x hm b Jt)).1
    rcases hha b hx with hx' | ⟨_,y,hy,hby⟩
    ·have:=hc.arQ hk hx'
     omega
    ·by_cases hxy:y=x
     ·subst hxy
      exact hnt hby
     ·exact (wS hnd).2 y hy x hm hxy b (y.bF b hby) Jt
   ·exact (wS hnd).1 x hm
   ·intro b hb
    have:=hal b (EI x hm b hb)
    exact⟨.inl (by omega),this.2⟩
 ·intro i j oi oj sV hi hj b hb
  cases hli:Jr N i with
  | none=>
   simp only[hli] at hi hb
   cases hlj:Jr N j with
   | none=>
    simp only[hlj] at hj ⊢
    exact hc.sep i j oi oj sV hi hj b hb
   | some y=>
    simp only
    intro hby
    have:=(hal b (EI y (eM hlj).1 b hby)).1
    have:=((hc.fresh i oi hi).2 b hb).2
    omega
  | some x=>
   simp only[hli] at hi hb
   have hxm:=(eM hli).1
   cases hlj:Jr N j with
   | none=>
    simp only[hlj] at hj ⊢
    intro ie
    have:=(hal b (EI x hxm b hb)).1
    have:=((hc.fresh j oj hj).2 b ie).2
    omega
   | some y=>
    simp only
    intro hby
    have hym:=(eM hlj).1
    have hxy:x≠y:=by
     rintro rfl
     exact sV ((eM hli).2.symm.trans (eM hlj).2)
    exact (wS hnd).2 x hxm y hym hxy b hb hby
structure My where
 id:Nat
 obj:bP
 nb:List Nat
 ot:List Nat
def lkT:List My→Nat→Option My
 | [],_=>none
 | x::l,i=>if i=x.id then some x else lkT l i
theorem yF {U:List My} {j:Nat} {x:My} (h:lkT U j=some x):x∈U∧x.id=j:=by
 induction U with
 | nil=>simp [lkT] at h
 | cons y l ih=>
  simp only[lkT] at h
  split at h
  ·rename_i hj
   injection h with h
   subst h
   exact⟨List.mem_cons_self ..,hj.symm⟩
  ·obtain⟨h1,h2⟩:=ih h
   exact⟨List.mem_cons_of_mem _ h1,h2⟩
theorem aqk {U:List My} {x:My} (hx:x∈U):∃y,lkT U x.id=some y:=by
 induction U with
 | nil=>simp at hx
 | cons y l ih=>
  simp only[lkT]
  split
  ·exact⟨_,rfl⟩
  ·rename_i sV
   rcases List.mem_cons.1 hx with rfl | hx
   ·exact absurd rfl sV
   ·exact ih hx
theorem abP {U:List My} (h:(U.flatMap My.ot).Nodup):(∀x∈U,x.ot.Nodup)∧∀x∈U,∀y∈U,x.id≠y.id→∀b∈x.ot,b ∉ y.ot:=by
 induction U with
 | nil=>simp
 | cons z l ih=>
  rw[List.flatMap_cons,List.nodup_append] at h
  obtain⟨h1,h2,h3⟩:=h
  obtain⟨i1,i2⟩:=ih h2
  refine⟨fun x hx=> ?_,fun x hx y hy hxy b hb hb'=> ?_⟩
  ·rcases List.mem_cons.1 hx with rfl | hx
   ·exact h1
   ·exact i1 x hx
  ·rcases List.mem_cons.1 hx with hx1 | hx1<;>rcases List.mem_cons.1 hy with hy1 | hy1
   ·exact hxy (by rw[hx1,hy1])
   ·subst hx1
    exact h3 b hb b (List.mem_flatMap.2 ⟨y,hy1,hb'⟩) rfl
   ·subst hy1
    exact h3 b hb' b (List.mem_flatMap.2 ⟨x,hx1,hb⟩) rfl
   ·exact i2 x hx1 y hy1 hxy b hb hb'
def Env.ov (β:Env) (N:List dk) (U:List My):Env:=
 ⟨β.Bn,fun j=>match Jr N j with | some x=>x.v | none=>β.val j,β.Ol,fun j=>match Jr N j with | some x=>x.fps.flatten | none=>match lkT U j with | some x=>x.nb | none=>β.nb j⟩
def afx (N:List dk) (U:List My) (h:Nat→Option bP) (j:Nat):Option bP:=
 match Jr N j with | some x=>some x.obj | none=>match lkT U j with | some x=>some x.obj | none=>h j
def Qe (N:List dk) (U:List My) (φ:Nat→List Nat) (j:Nat):List Nat:=
 match Jr N j with | some x=>x.ot | none=>match lkT U j with | some x=>x.ot | none=>φ j
theorem Core.atP (hc:Core w0 S f h β φ tm w) {w':World} {N:List dk} {U:List My} {im mb:List Nat} (hs:w.heap.size≤w'.heap.size) (hk:w0.heap.size≤w.heap.size)
  (hmb:∀b∈mb,∃x∈U,∃o,h x.id=some o∧b∈cb β x.id o)
  (hw:∀b,b<w.heap.size→b ∉ mb→w'.heap[b]? =w.heap[b]?)
  (hU:∀x∈U,(∃o,h x.id=some o)∧oy x.obj=[])
  (hUo:∀x∈U,∀(av:Nat→Prop) (β':Env),β'.val x.id=β.val x.id→β'.Bn x.id=β.Bn x.id→β'.nb x.id=x.nb→(∀b∈im,¬av b)→Mt w' av β' x.id x.obj x.ot)
  (hUd:(U.flatMap My.ot).Nodup) (hUm:∀b∈U.flatMap My.ot,(b∈mb∨w.heap.size≤b)∧b<w'.heap.size∧b ∉ N.flatMap dk.ot)
  (him:∀b∈im,¬Av (afx N U h) (β.ov N U) b)
  (lC:∀x∈N,h x.id=none∧(∀i,x.id ∉ l5 (f i))∧∀k o,h k=some o→x.id ∉ oy o) (hok:∀x∈N,dk.ok w' x)
  (hnd:(N.flatMap dk.ot).Nodup) (hal:∀b∈N.flatMap dk.ot,w.heap.size≤b∧b<w'.heap.size):
  Core w0 S f (afx N U h) (β.ov N U) (Qe N U φ) tm w':=by
 have EI:∀x∈N,∀b∈x.ot,b∈N.flatMap dk.ot:=fun x hx b hb=>List.mem_flatMap.2 ⟨x,hx,hb⟩
 have aoo:∀x∈U,∀b∈x.ot,b∈U.flatMap My.ot:=fun x hx b hb=>List.mem_flatMap.2 ⟨x,hx,hb⟩
 have hUN:∀x∈U,Jr N x.id=none:=by
  intro x hx
  cases hl:Jr N x.id with
  | none=>rfl
  | some y=>
   obtain⟨hm,he⟩:=eM hl
   obtain⟨⟨o,ho⟩,_⟩:=hU x hx
   have:=(lC y hm).1
   rw[he,ho] at this
   cases this
 have afG:∀j oj,Jr N j=none→lkT U j=none→cb (β.ov N U) j oj=cb β j oj:=by
  intro j oj hj hu
  cases oj<;>simp [cb,Env.ov,hj,hu]
 have X4:∀j x,Jr N j=some x→cb (β.ov N U) j x.obj=x.cb:=by
  intro j x hj
  obtain⟨_,rfl⟩:=eM hj
  exact x.Qz (by simp [Env.ov,hj]) (by simp [Env.ov,hj])
 have aql:∀j x,Jr N j=none→lkT U j=some x→Mt w' (Av (afx N U h) (β.ov N U)) (β.ov N U) j x.obj x.ot:=by
  intro j x hl hu
  obtain⟨hm,rfl⟩:=yF hu
  exact hUo x hm _ _ (by simp [Env.ov,hl]) rfl (by simp [Env.ov,hl,hu]) him
 have aqm:∀b∈mb,Av h β b:=by
  intro b hb
  obtain⟨x,_,o,ho,hbo⟩:=hmb b hb
  exact .inl ⟨x.id,o,ho,hbo⟩
 have hha:∀b,Av (afx N U h) (β.ov N U) b→Av h β b∨w.heap.size≤b:=by
  rintro b (⟨j,oj,hj,ie⟩ | hb)
  case inr=>exact .inl (.inr hb)
  unfold afx at hj
  cases hl:Jr N j with
  | none=>
   simp only[hl] at hj
   cases hu:lkT U j with
   | none=>
    simp only[hu] at hj
    rw[afG j oj hl hu] at ie
    exact .inl (.inl ⟨j,oj,hj,ie⟩)
   | some x=>
    simp only[hu,Option.some.injEq] at hj
    subst hj
    have h1:=Vm.bF (aql j x hl hu) b ie
    rcases (hUm b (aoo x (yF hu).1 b h1)).1 with h2 | h2
    ·exact .inl (aqm b h2)
    ·exact .inr h2
  | some x=>
   simp only[hl,Option.some.injEq] at hj
   subst hj
   rw[X4 j x hl] at ie
   have hx:=(eM hl).1
   exact .inr (hal b (EI x hx b (x.bF b ie))).1
 have asx:∀j oj,h j=some oj→(∀x∈U,x.id≠j)→∀b∈φ j,b ∉ mb:=by
  intro j oj hj sV b hb hbm
  obtain⟨x,hx,o,ho,hbo⟩:=hmb b hbm
  exact hc.sep x.id j o oj (sV x hx) ho hj b (Vm.bF (hc.dA _ _ ho) b hbo) hb
 have noT:∀j,lkT U j=none→∀x∈U,x.id≠j:=by
  intro j hu x hx he
  obtain⟨y,hy⟩:=aqk hx
  rw[he,hu] at hy
  cases hy
 refine hc.aiU (fun j=>(Jr N j).isSome=true) hs ?_ hha ?_ ?_ ?_ ?_
 ·intro b hb hn
  exact hw b hb (fun hbm=>hn (aqm b hbm))
 ·intro i j hj hx
  obtain⟨x,hx⟩:=Option.isSome_iff_exists.1 hx
  obtain⟨hm,rfl⟩:=eM hx
  exact (lC x hm).2.1 i hj
 ·intro j hj
  have:Jr N j=none:=by simpa using hj
  simp [Env.ov,this]
 ·intro j oj hj
  unfold afx at hj
  cases hl:Jr N j with
  | none=>
   simp only[hl] at hj
   cases hu:lkT U j with
   | none=>
    simp only[hu] at hj
    refine .inl ⟨by simp [hl],hj,by simp [Env.ov,hl,hu],by simp [Qe,hl,hu], ?_,fun b hb=> ?_⟩
    ·intro i hi hx
     obtain⟨x,hx⟩:=Option.isSome_iff_exists.1 hx
     obtain⟨hm,rfl⟩:=eM hx
     exact (lC x hm).2.2 j oj hj hi
    ·have Jt:=Vm.bF (hc.dA j oj hj) b hb
     exact hw b ((hc.fresh j oj hj).2 b Jt).2 (asx j oj hj (noT j hu) b Jt)
   | some x=>
    simp only[hu,Option.some.injEq] at hj
    subst hj
    have hm:=(yF hu).1
    refine .inr ⟨by simpa only[Qe,hl,hu] using aql j x hl hu,by simpa only[Qe,hl,hu] using (abP hUd).1 x hm, ?_⟩
    simp only[Qe,hl,hu]
    intro b hb
    obtain⟨h1,h2,_⟩:=hUm b (aoo x hm b hb)
    refine⟨?_,h2⟩
    rcases h1 with h1 | h1
    ·obtain⟨y,_,o,ho,hbo⟩:=hmb b h1
     exact ((hc.fresh _ _ ho).2 b (Vm.bF (hc.dA _ _ ho) b hbo)).1
    ·exact .inl (by omega)
  | some x=>
   simp only[hl,Option.some.injEq] at hj
   subst hj
   obtain⟨hm,rfl⟩:=eM hl
   refine .inr ⟨?_, ?_, ?_⟩
   ·simp only[Qe,hl]
    refine dk.as_ (hok x hm) (by simp [Env.ov,hl]) (by simp [Env.ov,hl]) ?_ ((wS hnd).1 x hm)
    rintro b hb hnt hx
    have Jt:b∈x.ot:=List.mem_append_right _ hb
    have hbN:=EI x hm b Jt
    have aqj:=(hal b hbN).1
    rcases hx with ⟨j,oj,hj,ie⟩ | GR
    case inr=>
     have:=(hc.Ol b GR).1
     omega
    unfold afx at hj
    cases hlj:Jr N j with
    | some y=>
     simp only[hlj,Option.some.injEq] at hj
     subst hj
     rw[X4 j y hlj] at ie
     have hy:=(eM hlj).1
     by_cases hxy:y=x
     ·subst hxy
      exact hnt ie
     ·exact (wS hnd).2 y hy x hm hxy b (y.bF b ie) Jt
    | none=>
     simp only[hlj] at hj
     cases hu:lkT U j with
     | some y=>
      simp only[hu,Option.some.injEq] at hj
      subst hj
      have h1:=Vm.bF (aql j y hlj hu) b ie
      exact (hUm b (aoo y (yF hu).1 b h1)).2.2 hbN
     | none=>
      simp only[hu] at hj
      rw[afG j oj hlj hu] at ie
      have:=((hc.fresh j oj hj).2 b (Vm.bF (hc.dA j oj hj) b ie)).2
      omega
   ·simp only[Qe,hl]
    exact (wS hnd).1 x hm
   ·simp only[Qe,hl]
    intro b hb
    have:=hal b (EI x hm b hb)
    exact⟨.inl (by omega),this.2⟩
 ·
  have kinds:∀j oj,afx N U h j=some oj→∀b∈Qe N U φ j,
    (∃x,Jr N j=some x∧b∈x.ot)∨(∃x,Jr N j=none∧lkT U j=some x∧b∈x.ot)∨(Jr N j=none∧lkT U j=none∧h j=some oj∧b∈φ j):=by
   intro j oj hj b hb
   unfold afx at hj
   unfold Qe at hb
   cases hl:Jr N j with
   | some x=>simp only[hl] at hb;exact .inl ⟨x,rfl,hb⟩
   | none=>
    simp only[hl] at hj hb
    cases hu:lkT U j with
    | some x=>simp only[hu] at hb;exact .inr (.inl ⟨x,rfl,rfl,hb⟩)
    | none=>simp only[hu] at hj hb;exact .inr (.inr ⟨rfl,rfl,hj,hb⟩)
  intro i j oi oj sV hi hj b hb hb'
  rcases kinds i oi hi b hb with ⟨x,hx,bx⟩ | ⟨x,_,hx,bx⟩ | ⟨_,hxu,hx,bx⟩<;>rcases kinds j oj hj b hb' with ⟨y,hy,b_y⟩ | ⟨y,_,hy,b_y⟩ | ⟨_,hyu,hy,b_y⟩
  ·refine (wS hnd).2 x (eM hx).1 y (eM hy).1 ?_ b bx b_y
   rintro rfl
   exact sV ((eM hx).2.symm.trans (eM hy).2)
  ·exact (hUm b (aoo y (yF hy).1 b b_y)).2.2 (EI x (eM hx).1 b bx)
  ·have:=(hal b (EI x (eM hx).1 b bx)).1
   have:=((hc.fresh j oj hy).2 b b_y).2
   omega
  ·exact (hUm b (aoo x (yF hx).1 b bx)).2.2 (EI y (eM hy).1 b b_y)
  ·refine (abP hUd).2 x (yF hx).1 y (yF hy).1 ?_ b bx b_y
   rw[(yF hx).2,(yF hy).2]
   exact sV
  ·rcases (hUm b (aoo x (yF hx).1 b bx)).1 with h1 | h1
   ·exact asx j oj hy (noT j hyu) b b_y h1
   ·have:=((hc.fresh j oj hy).2 b b_y).2
    omega
  ·have:=(hal b (EI y (eM hy).1 b b_y)).1
   have:=((hc.fresh i oi hx).2 b bx).2
   omega
  ·rcases (hUm b (aoo y (yF hy).1 b b_y)).1 with h1 | h1
   ·exact asx i oi hx (noT i hxu) b bx h1
   ·have:=((hc.fresh i oi hx).2 b bx).2
    omega
  ·exact hc.sep i j oi oj sV hx hy b bx b_y
end
end Go.Proofs.YthpmalpdnnbkgaaGreat.Vm
namespace Go.Proofs.YthpmalpdnnbkgaaGreat.Vm
section
variable {P:Program} {Γ:Ctx} {w0:World} {S:Own} {st:St} {o:Oper} {e:u4} {a:Act} {w:World}
variable {f:Nat→SV} {h:Nat→Option bP} {β:Env} {φ:Nat→List Nat} {tm:Array Value}
theorem ResL.length {w:World} :∀(rcs:List RC) (ds:List DC) (vs:List Value) (φ im tp:List Nat),ResL w rcs ds vs φ im tp→ds.length=rcs.length
 | [],ds,vs,φ,im,tp,h=>by simp only[ResL] at h;simp [h.1]
 | .imm c::cs,ds,vs,φ,im,tp,h=>by
  simp only[ResL] at h
  obtain⟨d,ds',v,vs',f1,im',rfl,_,_,h1,_⟩:=h
  simp [ResL.length cs ds' vs' _ _ _ h1]
 | .own t e::cs,ds,vs,φ,im,tp,h=>by
  simp only[ResL] at h
  obtain⟨rows,ds',v,vs',vals,fps,φ',tp',rfl,_,_,_,h1,_⟩:=h
  simp [ResL.length cs ds' vs' _ _ _ h1]
 | .deep t e ts::cs,ds,vs,φ,im,tp,h=>by
  simp only[ResL] at h
  obtain⟨rows,ds',v,vs',vals,d_,φ',tp',rfl,_,_,_,h1,_⟩:=h
  simp [ResL.length cs ds' vs' _ _ _ h1]
theorem KG {w':World} {d:Nat} :∀(rcs:List RC) (k:Nat) (ds:List DC) (vs:List Value) (φ im tp:List Nat),ResL w' rcs ds vs φ im tp→
  ∃N:List dk,(qB d k rcs ds).2=M9 N∧N.map (·.id)=(List.range' k (zl rcs)).map (bD d)∧(∀x∈N,x.ok w')∧N.flatMap dk.ot=φ∧N.flatMap dk.cb=tp∧
   ∀(av:Nat→Prop) (β':Env),(∀x∈N,β'.val x.id=x.v)→(∀b∈im,¬av b)→bt w' av β' (qB d k rcs ds).1 vs
 | [],k,ds,vs,φ,im,tp,h=>by
  simp only[ResL] at h
  obtain⟨rfl,rfl,rfl,rfl,rfl⟩:=h
  exact⟨[],rfl,rfl,by simp,rfl,rfl,by simp [qB,bt]⟩
 | .imm c::cs,k,ds,vs,φ,im,tp,h=>by
  simp only[ResL] at h
  obtain⟨x,ds',v,vs',f1,im',rfl,rfl,h1,h2,rfl⟩:=h
  obtain⟨N,e1,e2,e3,e4,e5,e6⟩:=KG cs k ds' vs' φ im' tp h2
  refine⟨N,by simpa [qB] using e1,by simpa [zl] using e2,e3,e4,e5,fun av β' MF tU=> ?_⟩
  simp only[qB,List.headD_cons,List.tail_cons,bt]
  exact⟨v,vs',rfl,Hz h1 (fun b hb=>tU b (List.mem_append_left _ hb)),e6 av β' MF (fun b hb=>tU b (List.mem_append_right _ hb))⟩
 | .own t e::cs,k,ds,vs,φ,im,tp,h=>by
  simp only[ResL] at h
  obtain⟨rows,ds',v,vs',vals,fps,φ',tp',rfl,rfl,h1,h2,h3,rfl,rfl⟩:=h
  obtain⟨N,e1,e2,e3,e4,e5,e6⟩:=KG cs (k+1) ds' vs' φ' im tp' h3
  refine⟨⟨bD d k,t,e,rows,v,fps,none⟩::N, ?_, ?_, ?_, ?_, ?_,fun av β' MF tU=> ?_⟩
  ·simp [qB,M9,dk.obj,DC.asRows] at e1 ⊢
   exact e1
  ·simp only[List.map_cons,zl,List.range'_succ,e2]
  ·intro x hx
   rcases List.mem_cons.1 hx with rfl | hx
   ·exact⟨vals,h1,h2⟩
   ·exact e3 x hx
  ·simp [List.flatMap_cons,e4,dk.ot]
  ·simp [List.flatMap_cons,e5,dk.cb]
  ·simp only[qB,List.headD_cons,List.tail_cons,bt]
   refine⟨v,vs',rfl, ?_,e6 av β' (fun x hx=>MF x (List.mem_cons_of_mem _ hx)) tU⟩
   simp only[bX]
   exact⟨(MF _ (List.mem_cons_self ..)).symm,h1.one⟩
 | .deep t e ts::cs,k,ds,vs,φ,im,tp,h=>by
  simp only[ResL] at h
  obtain⟨rows,ds',v,vs',vals,d_,φ',tp',rfl,rfl,h1,h2,h3,rfl,rfl⟩:=h
  obtain⟨N,e1,e2,e3,e4,e5,e6⟩:=KG cs (k+1) ds' vs' φ' im tp' h3
  refine⟨⟨bD d k,t,e,rows,v,d_,some ts⟩::N, ?_, ?_, ?_, ?_, ?_,fun av β' MF tU=> ?_⟩
  ·simp [qB,M9,dk.obj,DC.asRows] at e1 ⊢
   exact e1
  ·simp only[List.map_cons,zl,List.range'_succ,e2]
  ·intro x hx
   rcases List.mem_cons.1 hx with rfl | hx
   ·exact⟨vals,h1,h2⟩
   ·exact e3 x hx
  ·simp [List.flatMap_cons,e4,dk.ot]
  ·simp [List.flatMap_cons,e5,dk.cb,dk.ot]
  ·simp only[qB,List.headD_cons,List.tail_cons,bt]
   refine⟨v,vs',rfl, ?_,e6 av β' (fun x hx=>MF x (List.mem_cons_of_mem _ hx)) tU⟩
   simp only[bX]
   exact⟨(MF _ (List.mem_cons_self ..)).symm,h1.one⟩
theorem U2 {w':World} {d:Nat} :∀(rks:List RK) (k:Nat) (ds:List DC) (vs:List Value) (φ im tp:List Nat),ResV w' rks ds vs φ im tp→
  ∃N:List dk,(eQ d k rks ds).2=M9 N∧N.map (·.id)=(List.range' k (DB rks)).map (bD d)∧(∀x∈N,x.ok w')∧N.flatMap dk.ot=φ∧N.flatMap dk.cb=tp∧
   ∀(av:Nat→Prop) (β':Env),(∀x∈N,β'.val x.id=x.v)→(∀b∈im,¬av b)→bt w' av β' (eQ d k rks ds).1 vs
 | [],k,ds,vs,φ,im,tp,h=>by
  simp only[ResV] at h
  obtain⟨rfl,rfl,rfl,rfl,rfl⟩:=h
  exact⟨[],rfl,rfl,by simp,rfl,rfl,by simp [eQ,bt]⟩
 | r::rs,k,ds,vs,φ,im,tp,h=>by
  simp only[ResV] at h
  obtain⟨d1,d2,v,vs',us,φ1,φ2,i1,i2,t1,t2,rfl,rfl,hv,fm,h1,h2,rfl,rfl,rfl⟩:=h
  have hl:=ResL.length _ _ _ _ _ _ h1
  obtain⟨N1,a1,a2,a3,a4,a5,a6⟩:=KG (d:=d) r.cells k d1 us φ1 i1 t1 h1
  obtain⟨N2,b1,b2,b3,b4,b5,b6⟩:=U2 (d:=d) rs (k+zl r.cells) d2 vs' φ2 i2 t2 h2
  have ht:(d1++d2).take r.cells.length=d1:=by rw[←hl];simp
  have hdr:(d1++d2).drop r.cells.length=d2:=by rw[←hl];simp
  refine⟨N1++N2, ?_, ?_, ?_,by simp [a4,b4],by simp [a5,b5],fun av β' MF tU=> ?_⟩
  ·simp only[eQ,ht,hdr,a1,b1,M9,List.map_append]
  ·rw[List.map_append,a2,b2,←List.map_append,List.range'_append_1]
   rfl
  ·intro x hx
   rcases List.mem_append.1 hx with hx | hx
   ·exact a3 x hx
   ·exact b3 x hx
  ·have s1:=a6 av β' (fun x hx=>MF x (List.mem_append_left _ hx)) (fun b hb=>tU b (List.mem_append_left _ hb))
   have s2:=b6 av β' (fun x hx=>MF x (List.mem_append_right _ hx)) (fun b hb=>tU b (List.mem_append_right _ hb))
   simp only[eQ,ht,hdr,bt]
   refine⟨v,vs',rfl, ?_,s2⟩
   cases ata:r.agg with
   | true=>
    rw[ata,cond_true] at hv
    subst hv
    simp only[cond_true,bX]
    exact⟨us,rfl,s1,fm⟩
   | false=>
    rw[ata,cond_false] at hv
    subst hv
    simp only[cond_false]
    generalize (qB d k r.cells d1).1=q at s1
    cases q with
    | nil=>simp [bt] at s1
    | cons y l=>
     simp only[bt] at s1
     obtain⟨v',l',e1,e2,_⟩:=s1
     injection e1 with e1
     subst e1
     simpa using e2
theorem ArgsR.lt {w:World} :∀(ks:List AK) (ds:List DC) (vs:List Value) (fp:List Nat),ArgsR w ks ds vs fp→∀b∈fp,b<w.heap.size
 | [],ds,vs,fp,h=>by simp only[ArgsR] at h;simp [h.2.2]
 | k::ks,ds,vs,fp,h=>by
  simp only[ArgsR] at h
  obtain⟨d1,d2,v,vs',f1,f2,rfl,rfl,⟨us,_,_,hr,_⟩,h2,rfl⟩:=h
  intro b hb
  rcases List.mem_append.1 hb with hb | hb
  ·exact RdL.lt _ _ _ _ hr b hb
  ·exact ArgsR.lt ks d2 vs' f2 h2 b hb
theorem ResL.X5 {w:World} :∀(rcs:List RC) (ds:List DC) (vs:List Value) (φ im tp:List Nat),PJ rcs=false→ResL w rcs ds vs φ im tp→im=[]
 | [],ds,vs,φ,im,tp,_,h=>by simp only[ResL] at h;exact h.2.2.2.1
 | .imm c::cs,ds,vs,φ,im,tp,hn,h=>by
  simp only[ResL] at h
  obtain⟨d,ds',v,vs',f1,im',rfl,_,h1,h2,rfl⟩:=h
  have:f1=[]∧PJ cs=false:=by
   cases c with
   | int k=>simp only[RdC] at h1;obtain⟨n,_,_,_,e⟩:=h1;exact⟨e,by simpa [PJ] using hn⟩
   | bool=>simp only[RdC] at h1;obtain⟨n,_,_,e⟩:=h1;exact⟨e,by simpa [PJ] using hn⟩
   | str=>simp only[RdC] at h1;obtain⟨n,_,_,_,e⟩:=h1;exact⟨e,by simpa [PJ] using hn⟩
   | sl e=>simp [PJ] at hn
  rw[this.1,ResL.X5 cs ds' vs' _ _ _ this.2 h2]
  rfl
 | .own t e::cs,ds,vs,φ,im,tp,hn,h=>by
  simp only[ResL] at h
  obtain⟨rows,ds',v,vs',vals,fps,φ',tp',rfl,_,_,_,h1,_⟩:=h
  exact ResL.X5 cs ds' vs' _ _ _ (by simpa [PJ] using hn) h1
 | .deep t e ts::cs,ds,vs,φ,im,tp,hn,h=>by
  simp only[ResL] at h
  obtain⟨rows,ds',v,vs',vals,d_,φ',tp',rfl,_,_,_,h1,_⟩:=h
  exact ResL.X5 cs ds' vs' _ _ _ (by simpa [PJ] using hn) h1
theorem ResV.X5 {w:World} :∀(rks:List RK) (ds:List DC) (vs:List Value) (φ im tp:List Nat),(rks.any fun r=>PJ r.cells)=false→ResV w rks ds vs φ im tp→im=[]
 | [],ds,vs,φ,im,tp,_,h=>by simp only[ResV] at h;exact h.2.2.2.1
 | r::rs,ds,vs,φ,im,tp,hn,h=>by
  simp only[ResV] at h
  obtain⟨d1,d2,v,vs',us,φ1,φ2,i1,i2,t1,t2,rfl,rfl,_,_,h1,h2,_,rfl,_⟩:=h
  simp only[List.any_cons,Bool.or_eq_false_iff] at hn
  rw[ResL.X5 _ _ _ _ _ _ hn.1 h1,ResV.X5 rs d2 vs' _ _ _ hn.2 h2]
  rfl
theorem QC (hc:Core w0 S st.get st.obj β φ a.tmps w):∀(xs:List Operand) (ss:List SV),(aiM xs).val st.get st.obj=some ss→bt w (Av st.obj β) β ss (xs.map a.eval)
 | [],ss,h=>by simp [aiM] at h;subst h;simp [bt]
 | x::xs,ss,h=>by
  simp only[aiM,M.aX,Option.bind_eq_some_iff,M.ax,Option.some.injEq] at h
  obtain⟨s,h1,r,h2,rfl⟩:=h
  simp only[List.map_cons,bt]
  exact⟨_,_,rfl,hc.ev h1,QC hc xs r h2⟩
theorem ai6 {c:Call} {g:Nat} {fn:Func} (ho:o.op= .call c) (hg:c.callee= .value (.func g)) (hf:P.funcs[g]? =some fn) (hb:fn.body.isSome=true) (hn:(fn.name== "runtime.NumGoroutine")=false):
  (execOp a.eval o).run P w= .ok (.enter g (c.args.map a.eval)) w:=by
 have hb':fn.body.isNone=false:=by cases h:fn.body<;>simp_all
 simp only[execOp,ho,resolve,hg,Act.eval,Deferred.ofValue,Sem.run_bind,Sem.run_pure,Result.andThen_ok,invoke,callFunc,run_program,hf,hn,hb',Bool.false_eq_true,if_false]
 simp
theorem aop (DQ:ai P Γ) {s:Sum} {g:Nat} (hs:lkS Γ g=some s) (vJ:s.ann=false) (hpt:s.pt=none) (hms:s.ms=[]) (hR:Rel w0 S st a w) {d:Nat} (dL:o.dst=some d) (hd:eD st.n d) (lR:e.ow≠[]→jr st d) {c:Call} (ho:o.op= .call c) (hg:c.callee= .value (.func g)) {l:List SV}
  (hl:(aiM c.args.toList).val st.get st.obj=some l) (he:(S4 Γ (some d) g l).val st.get st.obj=some e) (hok:e.ok=true):Good P w0 S st o e a w:=by
 unfold S4 at he
 rw[hs] at he
 simp only[vJ,cond_false,hpt,hms] at he
 cases h64:Nat.blt (DB s.rs) 64
 ·simp [h64] at he
 simp only[h64,cond_true,M.aX,Option.bind_eq_some_iff] at he
 obtain⟨r,hr,he⟩:=he
 cases hsm:(!(shares s) || d4 r.2)
 ·simp [hsm] at he
 simp only[hsm,cond_true,M.ax,Option.some.injEq] at he
 subst he
 have h64:DB s.rs<64:=Nat.le_of_ble_eq_true h64
 have hH:Holds P g s:=by have h0:=DQ g s hs;unfold Mx at h0;rw[vJ,cond_false,hpt] at h0;simp only[hms] at h0;exact h0
 obtain⟨⟨fn,hf,hb,hn⟩,ai7⟩:=hH
 obtain⟨β,φ,hc⟩:=hR.core
 obtain⟨fp,hargs,Mw,RI⟩:=X3 hc s.ps l _ r (QC hc _ l hl) hr
 have auq:=ArgsR.lt _ _ _ _ hargs
 intro Q
 unfold Oper.wp
 rw[ai6 ho hg hf hb hn,Oper.upon_enter]
 have anw:c.args.map a.eval=(c.args.toList.map a.eval).toArray:=by rw[←Array.toList_map,Array.toArray_toList]
 rw[anw]
 refine (ai7 w r.1 _ fp hargs hok).mono ?_
 rintro _ w' ⟨vs,φs,im,tp,rfl,hk,hres,hnd,hal,him⟩
 obtain⟨N,n1,n2,n3,n4,n5,n6⟩:=U2 (d:=d) s.rs 0 _ vs φs im tp hres
 let M':HJ:=bif shares s then r.2 else []
 have hM:qW st.obj M'∧d4 M'=true:=by
  cases hsh:shares s with
  | true=>
   have:M'=r.2:=by simp [M',hsh]
   rw[this]
   exact⟨Mw,by simpa [hsh] using hsm⟩
  | false=>
   have:M'=[]:=by simp [M',hsh]
   rw[this]
   exact⟨by simp [qW],rfl⟩
 have hfz:(bif shares s then bE r.2 else [])=bE M':=by cases hsh:shares s<;>simp [M',hsh,bE]
 have PY:=hc.M7 M' hM.1 hM.2
 have aoe:∀x∈N,x.id / 64=d∧x.id∈N.map (·.id):=by
  intro x hx
  have hm:x.id∈N.map (·.id):=List.mem_map_of_mem hx
  refine⟨?_,hm⟩
  rw[n2] at hm
  obtain⟨j,hj,hj'⟩:=List.mem_map.1 hm
  rw[←hj']
  have:=List.mem_range'_1.1 hj
  exact uX d j (by omega)
 have aoq:(N.map (·.id)).Nodup:=by
  rw[n2]
  refine List.Pairwise.map _ ?_ (List.nodup_range' ..)
  intro x y hxy e
  unfold bD at e
  omega
 have hle:=hR.kept.size
 have hw:∀b,b<w.heap.size→w'.heap[b]? =w.heap[b]? :=fun b hb=>hk.block b hb (fun h=>h)
 have hcN:=PY.arx (N:=N) hk.size hw hle ?_ n3 aoq (by rw[n4];exact hnd) (by rw[n4];exact hal)
 ·have hval:∀x∈N,(β.Ls N).val x.id=x.v:=by
   intro x hx
   simp [Env.Ls,anv hx aoq]
  have anx:∀b∈im,¬Av (fun j=>match Jr N j with | some x=>some x.obj | none=>fo (bE M') st.obj j) (β.Ls N) b:=by
   rintro b hb (⟨j,oj,hj,ie⟩ | GR)
   case inr=>
    have hib:=him b hb
    have hbw:=(PY.Ol b GR).1
    rcases hib.1 with aor | aqj
    ·cases hsh:shares s with
     | false=>
      have:im=[]:=ResV.X5 _ _ _ _ _ _ (by simpa [shares] using hsh) hres
      rw[this] at hb
      simp at hb
     | true=>
      have hM':M'=r.2:=by simp [M',hsh]
      rcases RI b aor with h3 | ⟨x,hx,hbx⟩
      ·exact h3 (.inr GR)
      ·exact tW hc hM.1 (by rw[hM'];exact hx) hbx (.inr GR)
    ·omega
   have hib:=him b hb
   cases RJ:Jr N j with
   | some x=>
    simp only[RJ,Option.some.injEq] at hj
    subst hj
    have hx:=(eM RJ).1
    refine hib.2 ?_
    rw[←n5]
    refine List.mem_flatMap.2 ⟨x,hx, ?_⟩
    obtain⟨_,rfl⟩:=eM RJ
    rwa [x.Qz (by simp [Env.Ls,RJ]) (by simp [Env.Ls,RJ])] at ie
   | none=>
    simp only[RJ] at hj
    have ai8:b∈cb β j oj:=by
     cases oj<;>simp only[cb,Env.Ls,RJ] at ie ⊢ <;>exact ie
    have atQ:=((PY.fresh j oj hj).2 b (bF (PY.dA j oj hj) b ai8)).2
    rcases hib.1 with aor | aqj
    ·cases hsh:shares s with
     | false=>
      have:im=[]:=ResV.X5 _ _ _ _ _ _ (by simpa [shares] using hsh) hres
      rw[this] at hb
      simp at hb
     | true=>
      have hM':M'=r.2:=by simp [M',hsh]
      rcases RI b aor with h3 | ⟨x,hx,hbx⟩
      ·exact h3 (HM (.inl ⟨j,oj,hj,ai8⟩))
      ·exact tW hc hM.1 (by rw[hM'];exact hx) hbx (.inl ⟨j,oj,hj,ai8⟩)
    ·omega
  have GV:=n6 _ (β.Ls N) hval anx
  have hk':Kept S w0 w':=⟨hk.os.trans hR.kept.os,hk.tape.trans hR.kept.tape,hk.output.trans hR.kept.output,by have:=hk.size;omega,fun k h1 h2=>(hw k (by omega)).trans (hR.kept.block k h1 h2)⟩
  refine⟨pack vs,rfl,M4 hR (fun d' h'=>by rw[dL] at h';injection h' with h';exact h' ▸ hd) hk' ⟨β.Ls N,fun j=>match Jr N j with | some x=>x.ot | none=>fG φ M' j, ?_, ?_⟩⟩
  ·have:fo ((eQ d 0 s.rs (s.fn r.1).2).2++(bif shares s then bE r.2 else [])) (fc none st.obj)=fun j=>match Jr N j with | some x=>some x.obj | none=>fo (bE M') st.obj j:=by
    funext j
    rw[n1,hfz,amu]
    rfl
   show Core w0 S st.get (fo ((eQ d 0 s.rs (s.fn r.1).2).2++(bif shares s then bE r.2 else [])) (fc none st.obj)) _ _ _ _
   rw[this]
   exact hcN
  ·have:fo ((eQ d 0 s.rs (s.fn r.1).2).2++(bif shares s then bE r.2 else [])) (fc none st.obj)=fun j=>match Jr N j with | some x=>some x.obj | none=>fo (bE M') st.obj j:=by
    funext j
    rw[n1,hfz,amu]
    rfl
   show bX w' (Av (fo ((eQ d 0 s.rs (s.fn r.1).2).2++(bif shares s then bE r.2 else [])) (fc none st.obj)) (β.Ls N)) (β.Ls N) (PK (eQ d 0 s.rs (s.fn r.1).2).1) (pack vs)
   rw[this]
   generalize (eQ d 0 s.rs (s.fn r.1).2).1=q at GV
   match q,vs,GV with
   | [],vs,GV=>
    simp only[bt] at GV
    subst GV
    simp only[PK,pack,bX]
    exact⟨[],rfl,by simp [bt]⟩
   | [x],vs,GV=>
    simp only[bt] at GV
    obtain⟨v,l',rfl,h1,rfl⟩:=GV
    exact h1
   | x::y::q,vs,GV=>
    have aqn:=GV
    simp only[bt] at GV
    obtain⟨v,l',rfl,h1,v2,l2,rfl,h2,h3⟩:=GV
    simp only[PK,pack]
    unfold bX
    exact⟨v::v2::l2,rfl,aqn⟩
 ·intro x hx
  have h1:=(aoe x hx).1
  have lR:=lR (by
   show (eQ d 0 s.rs (s.fn r.1).2).2++_≠[]
   rw[n1]
   intro h0
   rw[List.append_eq_nil_iff] at h0
   have:N=[]:=by simpa [M9] using h0.1
   rw[this] at hx
   simp at hx)
  refine⟨?_,fun i hi=>lR.slot i _ hi h1,fun k ok hk' hi=> ?_⟩
  ·cases hn:fo (bE M') st.obj x.id with
   | none=>rfl
   | some ob=>
    rcases tX hn with h2 | ⟨e',r',rfl,y,hy,h2⟩
    ·exact absurd h1 (lR.obj _ ob h2).1
    ·obtain⟨_,h3,_⟩:=hM.1 y hy
     rw[h2] at h3
     exact absurd h1 (lR.obj _ _ h3).1
  ·rcases tX hk' with h2 | ⟨e',r',rfl,_⟩
   ·exact (lR.obj k ok h2).2 _ hi h1
   ·simp [oy] at hi
end
end Go.Proofs.YthpmalpdnnbkgaaGreat.Vm
set_option linter.unusedVariables false
set_option linter.unusedSimpArgs false
namespace Go.Proofs.YthpmalpdnnbkgaaGreat.Vm
section
variable {P:Program} {Γ:Ctx} {w0:World} {S:Own} {st:St} {o:Oper} {e:u4} {a:Act} {w:World}
variable {f:Nat→SV} {h:Nat→Option bP} {β:Env} {φ:Nat→List Nat} {tm:Array Value}
def d7 (β:Env):MU→List Nat
 | .box id _ _=>[β.Bn id]
 | .row id _ _ _=>(β.val id).ownBlock.toList
 | .deep id _ _ _=>(β.val id).ownBlock.toList++β.nb id
 | .non=>[]
def Ju (h:Nat→Option bP):List MU→Prop
 | []=>True
 | .box id t cs::l=>(∃cells,h id=some (.box t cells))∧Ju h l
 | .row id t e u::l=>(cg e=true∧∃rows,h id=some (.row t e rows false u))∧Ju h l
 | .deep id t e ts::l=>(∃rows,h id=some (.deep t e ts rows none))∧Ju h l
 | .non::l=>Ju h l
theorem Ju.append {U V:List MU} (hu:Ju h U) (hv:Ju h V):Ju h (U++V):=by
 induction U with
 | nil=>exact hv
 | cons x l ih=>
  cases x<;>simp only[List.cons_append,Ju] at hu ⊢
  ·exact⟨hu.1,ih hu.2⟩
  ·exact⟨hu.1,ih hu.2⟩
  ·exact⟨hu.1,ih hu.2⟩
  ·exact ih hu
theorem wT (hc:Core w0 S f h β φ tm w):∀(cs:List CT) (ts:List TypeId) (ss:List SV) (us:List Value) (q:List DC×List MU),bt w (Av h β) β ss us→(ec cs ts ss).val f h=some q→
  yL w cs ts q.1 us (q.2.flatMap (d7 β))∧Ju h q.2
 | [],ts,ss,us,q,hs,hq=>by
  cases ts with
  | nil=>
   cases ss with
   | nil=>
    simp only[ec,M.ax,Option.some.injEq] at hq
    subst hq
    simp only[bt] at hs
    exact⟨⟨rfl,rfl,hs,rfl⟩,trivial⟩
   | cons s ss=>simp [ec] at hq
  | cons t ts=>simp [ec] at hq
 | .int k::cs,ts,ss,us,q,hs,hq=>by
  cases ss with
  | nil=>simp [ec] at hq
  | cons s ss=>
   simp only[bt] at hs
   obtain⟨v,eo,rfl,h1,h2⟩:=hs
   simp only[ec,M.aX,Option.bind_eq_some_iff,M.ax,Option.some.injEq] at hq
   obtain⟨q1,d6,q2,Bc,rfl⟩:=hq
   obtain⟨fp,hr,_⟩:=HA hc h1 d6
   obtain⟨k1,k2⟩:=wT hc cs ts ss eo q2 h2 Bc
   refine⟨?_,k2⟩
   simp only[yL]
   refine⟨q1.1,q2.1,v,eo,rfl,rfl, ?_,k1⟩
   simp only[RdC] at hr ⊢
   obtain⟨n,a,b,c,_⟩:=hr
   exact⟨n,a,b,c,trivial⟩
 | .bool::cs,ts,ss,us,q,hs,hq=>by
  cases ss with
  | nil=>simp [ec] at hq
  | cons s ss=>
   simp only[bt] at hs
   obtain⟨v,eo,rfl,h1,h2⟩:=hs
   simp only[ec,M.aX,Option.bind_eq_some_iff,M.ax,Option.some.injEq] at hq
   obtain⟨q1,d6,q2,Bc,rfl⟩:=hq
   obtain⟨fp,hr,_⟩:=HA hc h1 d6
   obtain⟨k1,k2⟩:=wT hc cs ts ss eo q2 h2 Bc
   refine⟨?_,k2⟩
   simp only[yL]
   refine⟨q1.1,q2.1,v,eo,rfl,rfl, ?_,k1⟩
   simp only[RdC] at hr ⊢
   obtain⟨n,a,b,_⟩:=hr
   exact⟨n,a,b,trivial⟩
 | .str::cs,ts,ss,us,q,hs,hq=>by
  cases ss with
  | nil=>simp [ec] at hq
  | cons s ss=>
   simp only[bt] at hs
   obtain⟨v,eo,rfl,h1,h2⟩:=hs
   simp only[ec,M.aX,Option.bind_eq_some_iff,M.ax,Option.some.injEq] at hq
   obtain⟨q1,d6,q2,Bc,rfl⟩:=hq
   obtain⟨fp,hr,_⟩:=HA hc h1 d6
   obtain⟨k1,k2⟩:=wT hc cs ts ss eo q2 h2 Bc
   refine⟨?_,k2⟩
   simp only[yL]
   refine⟨q1.1,q2.1,v,eo,rfl,rfl, ?_,k1⟩
   simp only[RdC] at hr ⊢
   obtain⟨n,a,b,c,_⟩:=hr
   exact⟨n,a,b,c,trivial⟩
 | .sl el::cs,ts,ss,us,q,hs,hq=>by
  cases ts with
  | nil=>simp [ec] at hq
  | cons t ts=>
   cases ss with
   | nil=>simp [ec] at hq
   | cons s ss=>
    simp only[bt] at hs
    obtain⟨v,eo,rfl,h1,h2⟩:=hs
    simp only[ec,M.aX,Option.bind_eq_some_iff,M.ax,Option.some.injEq] at hq
    obtain⟨q1,d6,q2,Bc,rfl⟩:=hq
    obtain⟨k1,k2⟩:=wT hc cs ts ss eo q2 h2 Bc
    cases s with
    | nil=>
     simp only at d6
     cases D1:cg el
     ·simp [D1] at d6
     ·simp only[D1,cond_true,M.ax,Option.some.injEq] at d6
      subst d6
      simp only[bX] at h1
      subst h1
      refine⟨?_,k2⟩
      simp only[yL]
      exact⟨t,ts,[],q2.1,_,eo,[],[],q2.2.flatMap (d7 β),rfl,rfl,rfl,D1,⟨by simp,.inl ⟨rfl,rfl,rfl⟩⟩,⟨rfl,by simp⟩,k1,by simp [d7,Value.ownBlock]⟩
    | own id=>
     simp only[M.eB,Option.bind_eq_some_iff] at d6
     obtain⟨ob,dT,d6⟩:=d6
     cases ob with
     | row t' e' r fz u=>
      cases fz with
      | true=>simp at d6
      | false=>
       simp only at d6
       cases dK:Nat.beq t' t && dG e' el && cg el
       ·simp [dK] at d6
       ·simp only[dK,cond_true,M.ax,Option.some.injEq] at d6
        subst d6
        simp only[Bool.and_eq_true] at dK
        have ht:=Nat.eq_of_beq_eq_true dK.1.1
        have he:=dR _ _ dK.1.2
        subst ht
        subst he
        simp only[bX] at h1
        obtain⟨vals,fps,g1,g2,_,_⟩:=hc.dA id _ dT
        refine⟨?_,⟨⟨dK.2,r,dT⟩,k2⟩⟩
        simp only[yL]
        refine⟨t',ts,r,q2.1,v,eo,vals,fps,q2.2.flatMap (d7 β),rfl,rfl,rfl,dK.2,by rw[h1.1];exact g1,g2,k1, ?_⟩
        simp only[List.flatMap_cons,d7,h1.1]
     | box _ _=>simp at d6
     | imm _ _=>simp at d6
     | deep _ _ _ _ _=>simp at d6
    | _=>simp at d6
theorem Qc.one {t:TT} {e:List CT} {rows:List (List DC)} {v:Value} {mb:List Nat} (h:Qc w t e rows v mb):v.oneCell'=true:=by
 cases t with
 | flat t=>
  obtain⟨_,_,_,h1,_⟩:=h
  exact h1.one
 | deep t its=>
  obtain⟨_,_,h1,_⟩:=h
  exact h1.one
theorem wU (hc:Core w0 S f h β φ tm w):∀(cs:List CT) (ts:List TT) (ss:List SV) (us:List Value) (q:List DC×List MU),bt w (Av h β) β ss us→(dg cs ts ss).val f h=some q→
  fH w cs ts q.1 us (q.2.flatMap (d7 β))∧Ju h q.2
 | [],ts,ss,us,q,hs,hq=>by
  cases ts with
  | nil=>
   cases ss with
   | nil=>
    simp only[dg,M.ax,Option.some.injEq] at hq
    subst hq
    simp only[bt] at hs
    exact⟨⟨rfl,rfl,hs,rfl⟩,trivial⟩
   | cons s ss=>simp [dg] at hq
  | cons t ts=>simp [dg] at hq
 | .int k::cs,ts,ss,us,q,hs,hq=>by
  cases ss with
  | nil=>simp [dg] at hq
  | cons s ss=>
   simp only[bt] at hs
   obtain⟨v,eo,rfl,h1,h2⟩:=hs
   simp only[dg,M.aX,Option.bind_eq_some_iff,M.ax,Option.some.injEq] at hq
   obtain⟨q1,d6,q2,Bc,rfl⟩:=hq
   obtain⟨fp,hr,_⟩:=HA hc h1 d6
   obtain⟨k1,k2⟩:=wU hc cs ts ss eo q2 h2 Bc
   refine⟨?_,k2⟩
   simp only[fH]
   refine⟨q1.1,q2.1,v,eo,rfl,rfl, ?_,k1⟩
   simp only[RdC] at hr ⊢
   obtain⟨n,a,b,c,_⟩:=hr
   exact⟨n,a,b,c,trivial⟩
 | .bool::cs,ts,ss,us,q,hs,hq=>by
  cases ss with
  | nil=>simp [dg] at hq
  | cons s ss=>
   simp only[bt] at hs
   obtain⟨v,eo,rfl,h1,h2⟩:=hs
   simp only[dg,M.aX,Option.bind_eq_some_iff,M.ax,Option.some.injEq] at hq
   obtain⟨q1,d6,q2,Bc,rfl⟩:=hq
   obtain⟨fp,hr,_⟩:=HA hc h1 d6
   obtain⟨k1,k2⟩:=wU hc cs ts ss eo q2 h2 Bc
   refine⟨?_,k2⟩
   simp only[fH]
   refine⟨q1.1,q2.1,v,eo,rfl,rfl, ?_,k1⟩
   simp only[RdC] at hr ⊢
   obtain⟨n,a,b,_⟩:=hr
   exact⟨n,a,b,trivial⟩
 | .str::cs,ts,ss,us,q,hs,hq=>by
  cases ss with
  | nil=>simp [dg] at hq
  | cons s ss=>
   simp only[bt] at hs
   obtain⟨v,eo,rfl,h1,h2⟩:=hs
   simp only[dg,M.aX,Option.bind_eq_some_iff,M.ax,Option.some.injEq] at hq
   obtain⟨q1,d6,q2,Bc,rfl⟩:=hq
   obtain⟨fp,hr,_⟩:=HA hc h1 d6
   obtain⟨k1,k2⟩:=wU hc cs ts ss eo q2 h2 Bc
   refine⟨?_,k2⟩
   simp only[fH]
   refine⟨q1.1,q2.1,v,eo,rfl,rfl, ?_,k1⟩
   simp only[RdC] at hr ⊢
   obtain⟨n,a,b,c,_⟩:=hr
   exact⟨n,a,b,c,trivial⟩
 | .sl el::cs,ts,ss,us,q,hs,hq=>by
  cases ts with
  | nil=>simp [dg] at hq
  | cons t ts=>
   cases ss with
   | nil=>cases t<;>simp [dg] at hq
   | cons s ss=>
    simp only[bt] at hs
    obtain⟨v,eo,rfl,h1,h2⟩:=hs
    cases t with
    | flat t=>
     simp only[dg,M.aX,Option.bind_eq_some_iff,M.ax,Option.some.injEq] at hq
     obtain⟨q1,d6,q2,Bc,rfl⟩:=hq
     obtain⟨k1,k2⟩:=wU hc cs ts ss eo q2 h2 Bc
     cases s with
     | nil=>
      simp only at d6
      cases D1:cg el
      ·simp [D1] at d6
      ·simp only[D1,cond_true,M.ax,Option.some.injEq] at d6
       subst d6
       simp only[bX] at h1
       subst h1
       refine⟨?_,k2⟩
       simp only[fH]
       exact⟨.flat t,ts,[],q2.1,_,eo,[],q2.2.flatMap (d7 β),rfl,rfl,rfl,⟨D1,[],[],⟨by simp,.inl ⟨rfl,rfl,rfl⟩⟩,⟨rfl,by simp⟩,by simp [Value.ownBlock]⟩,k1,by simp [d7]⟩
     | own id=>
      simp only[M.eB,Option.bind_eq_some_iff] at d6
      obtain⟨ob,dT,d6⟩:=d6
      cases ob with
      | row t' e' r fz u=>
       cases fz with
       | true=>simp at d6
       | false=>
        simp only at d6
        cases dK:Nat.beq t' t && dG e' el && cg el
        ·simp [dK] at d6
        ·simp only[dK,cond_true,M.ax,Option.some.injEq] at d6
         subst d6
         simp only[Bool.and_eq_true] at dK
         have ht:=Nat.eq_of_beq_eq_true dK.1.1
         have he:=dR _ _ dK.1.2
         subst ht
         subst he
         simp only[bX] at h1
         obtain⟨vals,fps,g1,g2,_,_⟩:=hc.dA id _ dT
         refine⟨?_,⟨⟨dK.2,r,dT⟩,k2⟩⟩
         simp only[fH]
         refine⟨.flat t',ts,r,q2.1,v,eo,v.ownBlock.toList,q2.2.flatMap (d7 β),rfl,rfl,rfl,⟨dK.2,vals,fps,by rw[h1.1];exact g1,g2,rfl⟩,k1, ?_⟩
         simp only[List.flatMap_cons,d7,h1.1]
      | box _ _=>simp at d6
      | imm _ _=>simp at d6
      | deep _ _ _ _ _=>simp at d6
     | _=>simp at d6
    | deep t its=>
     simp only[dg,M.aX,Option.bind_eq_some_iff,M.ax,Option.some.injEq] at hq
     obtain⟨q1,d6,q2,Bc,rfl⟩:=hq
     obtain⟨k1,k2⟩:=wU hc cs ts ss eo q2 h2 Bc
     cases s with
     | nil=>
      simp only[M.ax,Option.some.injEq] at d6
      subst d6
      simp only[bX] at h1
      subst h1
      refine⟨?_,k2⟩
      simp only[fH]
      exact⟨.deep t its,ts,[],q2.1,_,eo,[],q2.2.flatMap (d7 β),rfl,rfl,rfl,⟨[],[],⟨by simp,.inl ⟨rfl,rfl,rfl⟩⟩,⟨rfl,by simp⟩,by simp [Value.ownBlock]⟩,k1,by simp [d7]⟩
     | own id=>
      simp only[M.eB,Option.bind_eq_some_iff] at d6
      obtain⟨ob,dT,d6⟩:=d6
      cases ob with
      | deep t' e' DP r hl=>
       cases hl with
       | some _=>simp at d6
       | none=>
        simp only at d6
        cases dK:Nat.beq t' t && dG e' el && KC DP its
        ·simp [dK] at d6
        ·simp only[dK,cond_true,M.ax,Option.some.injEq] at d6
         subst d6
         simp only[Bool.and_eq_true] at dK
         have ht:=Nat.eq_of_beq_eq_true dK.1.1
         have he:=dR _ _ dK.1.2
         have hts:=Mp _ _ dK.2
         subst ht
         subst he
         subst hts
         simp only[bX] at h1
         obtain⟨vals,d_,g1,g2,g3,_⟩:=hc.dA id _ dT
         refine⟨?_,⟨⟨r,dT⟩,k2⟩⟩
         simp only[fH]
         refine⟨.deep t' DP,ts,r,q2.1,v,eo,v.ownBlock.toList++d_.flatten,q2.2.flatMap (d7 β),rfl,rfl,rfl,⟨vals,d_,by rw[h1.1];exact g1,g2,rfl⟩,k1, ?_⟩
         simp only[List.flatMap_cons,d7,h1.1,g3]
      | box _ _=>simp at d6
      | imm _ _=>simp at d6
      | row _ _ _ _ _=>simp at d6
     | _=>simp at d6
theorem QD (hc:Core w0 S f h β φ tm w):∀(ks:List AK) (ms:List (Option MK)) (ss:List SV) (vs:List Value) (q:List DC×HJ×List MU),bt w (Av h β) β ss vs→(jh ks ms ss).val f h=some q→
  ∃fp,uP w ks ms q.1 vs fp (q.2.2.flatMap (d7 β))∧qW h q.2.1∧Ju h q.2.2∧∀b∈fp,(¬Av h β b)∨∃x∈q.2.1,b∈GU h β x.1
 | [],ms,ss,vs,q,hs,hq=>by
  cases ms with
  | nil=>
   cases ss with
   | nil=>
    simp only[jh,M.ax,Option.some.injEq] at hq
    subst hq
    simp only[bt] at hs
    exact⟨[],⟨rfl,rfl,hs,rfl,rfl⟩,by simp [qW],trivial,by simp⟩
   | cons s ss=>simp [jh] at hq
  | cons m ms=>simp [jh] at hq
 | k::ks,ms,ss,vs,q,hs,hq=>by
  cases ms with
  | nil=>simp [jh] at hq
  | cons m ms=>
   cases ss with
   | nil=>cases m with
    | none=>simp [jh] at hq
    | some m=>cases m<;>simp [jh] at hq
   | cons s ss=>
    simp only[bt] at hs
    obtain⟨v,l,rfl,h1,h2⟩:=hs
    cases m with
    | none=>
     simp only[jh,M.aX,Option.bind_eq_some_iff,M.ax,Option.some.injEq] at hq
     obtain⟨q1,d6,q2,Bc,rfl⟩:=hq
     obtain⟨PT,ha2,hm2,hu2,afv⟩:=QD hc ks ms ss l q2 h2 Bc
     have afw:(S3 [k] [s]).val f h=some (q1.1++[],q1.2.1++[]):=by
      simp only[S3,M.aX,Option.bind_eq_some_iff,M.ax,Option.some.injEq]
      exact⟨q1,d6,([],[]),rfl,rfl⟩
     have Qd:bt w (Av h β) β [s] [v]:=by simp only[bt];exact⟨v,[],rfl,h1,rfl⟩
     obtain⟨fp1,ha1,hm1,XZ⟩:=X3 hc [k] [s] [v] _ Qd afw
     simp only[List.append_nil] at ha1 hm1 XZ
     obtain⟨d1,d2,v',vs',f1,f2,e1,e2,ha1,⟨rfl,rfl,rfl⟩,rfl⟩:=ha1
     simp only[List.append_nil] at e1 XZ
     simp only[List.cons.injEq,and_true] at e2
     subst e2
     subst e1
     refine⟨f1++PT,⟨none,ms,q1.1,q2.1,v,l,f1,PT,[],q2.2.2.flatMap (d7 β),rfl,rfl,rfl,⟨ha1,rfl⟩,ha2,rfl,rfl⟩,HB hm1 hm2,hu2, ?_⟩
     intro b hb
     rcases List.mem_append.1 hb with hb | hb
     ·rcases XZ b hb with h3 | ⟨x,hx,h3⟩
      ·exact .inl h3
      ·exact .inr ⟨x,List.mem_append_left _ hx,h3⟩
     ·rcases afv b hb with h3 | ⟨x,hx,h3⟩
      ·exact .inl h3
      ·exact .inr ⟨x,List.mem_append_right _ hx,h3⟩
    | some m=>
     cases m with
     | box t=>
      cases s with
      | ptr id off=>
       cases off with
       | succ off=>simp [jh] at hq
       | zero=>
        simp only[jh,M.eB,Option.bind_eq_some_iff] at hq
        obtain⟨ob,dT,hq⟩:=hq
        cases ob with
        | box t' cells=>
         simp only at hq
         cases htt:Nat.beq t' t
         ·simp [htt] at hq
         ·have aos:=Nat.eq_of_beq_eq_true htt
          subst aos
          simp only[htt,cond_true,M.aX,Option.bind_eq_some_iff] at hq
          obtain⟨q1,d6,hq⟩:=hq
          cases hem:q1.2.1.isEmpty
          ·simp [hem] at hq
          ·simp only[hem,cond_true,M.aX,Option.bind_eq_some_iff,M.ax,Option.some.injEq] at hq
           obtain⟨q2,Bc,rfl⟩:=hq
           obtain⟨PT,ha2,hm2,hu2,afv⟩:=QD hc ks ms ss l q2 h2 Bc
           obtain⟨us,g1,g2,g3,_⟩:=hc.dA id _ dT
           obtain⟨fp1,hr,hm1,XZ,_⟩:=DG hc k.cts cells us q1 g2 d6
           have hl:=bt.length _ _ g2
           have S0:=tY _ _ _ d6
           simp only[bX] at h1
           have hme:q1.2.1=[]:=List.isEmpty_iff.1 hem
           refine⟨fp1++PT,⟨some (.box t'),ms,q1.1,q2.1,v,l,fp1,PT,[β.Bn id],q2.2.2.flatMap (d7 β),rfl,rfl,rfl,⟨β.Bn id,us,h1,g1,g3,hr,by omega,rfl⟩,ha2,rfl,by simp [d7]⟩,hm2,⟨⟨cells,dT⟩,hu2⟩, ?_⟩
           intro b hb
           rcases List.mem_append.1 hb with hb | hb
           ·rcases XZ b hb with h3 | ⟨x,hx,h3⟩
            ·exact .inl h3
            ·rw[hme] at hx
             simp at hx
           ·exact afv b hb
        | row _ _ _ _ _=>simp at hq
        | imm _ _=>simp at hq
        | deep _ _ _ _ _=>simp at hq
      | _=>simp [jh] at hq
     | rows ts=>
      simp only[jh,M.aX,Option.bind_eq_some_iff,M.ax,Option.some.injEq] at hq
      obtain⟨q1,d6,q2,Bc,rfl⟩:=hq
      obtain⟨PT,ha2,hm2,hu2,afv⟩:=QD hc ks ms ss l q2 h2 Bc
      have one:X2 w k (some (.rows ts)) q1.1 v [] (q1.2.flatMap (d7 β))∧Ju h q1.2:=by
       cases hk:k.agg with
       | true=>
        cases s with
        | agg cs=>
         simp only[hk] at d6
         simp only[bX] at h1
         obtain⟨us,rfl,hus,fm⟩:=h1
         obtain⟨r1,r2⟩:=wU hc k.cts ts cs us q1 hus d6
         exact⟨⟨us,by rw[hk];rfl,fm,r1,rfl⟩,r2⟩
        | _=>simp [hk] at d6
       | false=>
        have afw:(dg k.cts ts [s]).val f h=some q1:=by
         cases s<;>simp only[hk] at d6<;>first | exact d6 | (simp at d6)
        have Qd:bt w (Av h β) β [s] [v]:=by simp only[bt];exact⟨v,[],rfl,h1,rfl⟩
        obtain⟨r1,r2⟩:=wU hc k.cts ts [s] [v] q1 Qd afw
        have fm:v.oneCell'=true:=by
         cases aqi:k.cts with
         | nil=>rw[aqi] at r1;simp only[fH] at r1;simp at r1
         | cons c cs=>
          rw[aqi] at r1
          cases c with
          | sl el=>
           simp only[fH] at r1
           obtain⟨t,DP,rows,ds',v',eo,m1,Om,_,_,e0,h3,_⟩:=r1
           injection e0 with e0
           subst e0
           exact h3.one
          | int _=>simp only[fH] at r1;obtain⟨d,ds',v',eo,_,e0,h3,_⟩:=r1;injection e0 with e0;subst e0;exact h3.one
          | bool=>simp only[fH] at r1;obtain⟨d,ds',v',eo,_,e0,h3,_⟩:=r1;injection e0 with e0;subst e0;exact h3.one
          | str=>simp only[fH] at r1;obtain⟨d,ds',v',eo,_,e0,h3,_⟩:=r1;injection e0 with e0;subst e0;exact h3.one
        exact⟨⟨[v],by rw[hk];exact⟨rfl,fm⟩,by simpa using fm,r1,rfl⟩,r2⟩
      refine⟨PT,⟨some (.rows ts),ms,q1.1,q2.1,v,l,[],PT,q1.2.flatMap (d7 β),q2.2.2.flatMap (d7 β),rfl,rfl,rfl,one.1,ha2,rfl,by simp⟩,hm2,one.2.append hu2,afv⟩
end
end Go.Proofs.YthpmalpdnnbkgaaGreat.Vm
set_option linter.unusedVariables false
set_option linter.unusedSimpArgs false
namespace Go.Proofs.YthpmalpdnnbkgaaGreat.Vm
section
variable {P:Program} {Γ:Ctx} {w0:World} {S:Own} {st:St} {o:Oper} {e:u4} {a:Act} {w w':World}
variable {f:Nat→SV} {h:Nat→Option bP} {β:Env} {φ:Nat→List Nat} {tm:Array Value}
def og:List MU→List DC→List (Nat×bP)
 | [],_=>[]
 | .box id t cs::l,ds=>(id,.box t (kU cs ds 0))::og l (ds.drop cs.length)
 | .row id t e u::l,ds=>(id,.row t e (ds.headD default).asRows false u)::og l ds.tail
 | .deep id t e ts::l,ds=>(id,.deep t e ts (ds.headD default).asRows none)::og l ds.tail
 | .non::l,ds=>og l ds.tail
theorem X6:∀(U:List MU) (ds:List DC),aa8 U ds=(og U ds).map fun x=>(x.1,some x.2)
 | [],_=>rfl
 | .box id t cs::l,ds=>by simp only[aa8,og,List.map_cons,X6 l]
 | .row id t e u::l,ds=>by simp only[aa8,og,List.map_cons,X6 l]
 | .deep id t e ts::l,ds=>by simp only[aa8,og,List.map_cons,X6 l]
 | .non::l,ds=>by simp only[aa8,og,X6 l]
theorem Jk:∀(U:List MU) (ds:List DC),(og U ds).map (·.1)=jH U
 | [],_=>rfl
 | .box id t cs::l,ds=>by simp only[og,jH,List.map_cons,Jk l]
 | .row id t e u::l,ds=>by simp only[og,jH,List.map_cons,Jk l]
 | .deep id t e ts::l,ds=>by simp only[og,jH,List.map_cons,Jk l]
 | .non::l,ds=>by simp only[og,jH,Jk l]
def Hr:List MU→Nat
 | []=>0
 | .box _ _ cs::l=>cs.length+Hr l
 | .row _ _ _ _::l=>1+Hr l
 | .deep _ _ _ _::l=>1+Hr l
 | .non::l=>1+Hr l
theorem QE:∀(cs:List CT) (d1 d2:List DC) (k:Nat),k+cs.length≤d1.length→kU cs (d1++d2) k=kU cs d1 k
 | [],_,_,_,_=>rfl
 | c::cs,d1,d2,k,h=>by
  simp only[kU]
  simp only[List.length_cons] at h
  rw[QE cs d1 d2 (k+1) (by omega)]
  congr 2
  simp only[List.getD_eq_getElem?_getD]
  rw[List.getElem?_append_left (by omega)]
theorem zp:∀(U V:List MU) (d1 d2:List DC),Hr U=d1.length→og (U++V) (d1++d2)=og U d1++og V d2
 | [],V,d1,d2,hl=>by
  have:d1=[]:=List.length_eq_zero_iff.1 hl.symm
  subst this
  rfl
 | .box id t cs::l,V,d1,d2,hl=>by
  simp only[Hr] at hl
  simp only[List.cons_append,og]
  rw[QE _ _ _ _ (by omega),List.drop_append_of_le_length (by omega),zp l V _ d2 (by simp;omega)]
 | .row id t e u::l,V,d1,d2,hl=>by
  simp only[Hr] at hl
  cases d1 with
  | nil=>simp at hl
  | cons d d1=>
   simp only[List.cons_append,og,List.headD_cons,List.tail_cons]
   rw[zp l V d1 d2 (by simp at hl;omega)]
 | .deep id t e ts::l,V,d1,d2,hl=>by
  simp only[Hr] at hl
  cases d1 with
  | nil=>simp at hl
  | cons d d1=>
   simp only[List.cons_append,og,List.headD_cons,List.tail_cons]
   rw[zp l V d1 d2 (by simp at hl;omega)]
 | .non::l,V,d1,d2,hl=>by
  simp only[Hr] at hl
  cases d1 with
  | nil=>simp at hl
  | cons d d1=>
   simp only[List.cons_append,og,List.tail_cons]
   rw[zp l V d1 d2 (by simp at hl;omega)]
theorem X7:∀(cs:List CT) (r:List DC) (g:Nat→Option Value) (fp:List Nat),cg cs=true→RdL w cs r g fp→fp=[]
 | [],r,g,fp,_,h=>by simp only[RdL] at h;exact h.2
 | c::cs,r,g,fp,hf,h=>by
  simp only[RdL] at h
  obtain⟨d,r',v,f1,f2,rfl,_,h1,h2,rfl⟩:=h
  cases c with
  | sl e=>simp [cg] at hf
  | int k=>
   simp only[RdC] at h1
   obtain⟨_,_,_,_,rfl⟩:=h1
   rw[X7 cs r' _ f2 (by simpa [cg] using hf) h2]
   rfl
  | bool=>
   simp only[RdC] at h1
   obtain⟨_,_,_,rfl⟩:=h1
   rw[X7 cs r' _ f2 (by simpa [cg] using hf) h2]
   rfl
  | str=>
   simp only[RdC] at h1
   obtain⟨_,_,_,_,rfl⟩:=h1
   rw[X7 cs r' _ f2 (by simpa [cg] using hf) h2]
   rfl
theorem X8 {e:List CT} {rows:List (List DC)} {vals:List Value} {fps:List (List Nat)} (hf:cg e=true) (h:Bu w e rows vals fps):fps.flatten=[]:=by
 rw[List.flatten_eq_nil_iff]
 intro l hl
 obtain⟨i,hi,rfl⟩:=List.getElem_of_mem hl
 have hi':i<rows.length:=by have:=h.1;omega
 exact X7 e _ _ _ hf (h.2 i rows[i] fps[i] (by simp) (by simp))
theorem abQ:∀(cs:List CT) (ds:List DC) (k:Nat),jI (kU cs ds k)=[]
 | [],_,_=>rfl
 | c::cs,ds,k=>by
  simp only[kU,jI,abQ cs ds (k+1),List.append_nil]
  cases c<;>rfl
def aqo (h:Nat→Option bP) (β:Env) (w':World) (im:List Nat) (x:My):Prop:=
 (∃o,h x.id=some o)∧oy x.obj=[]∧∀(av:Nat→Prop) (β':Env),β'.val x.id=β.val x.id→β'.Bn x.id=β.Bn x.id→β'.nb x.id=x.nb→(∀b∈im,¬av b)→Mt w' av β' x.id x.obj x.ot
def ai9 (h:Nat→Option bP) (β:Env) (w':World) (im:List Nat) (U:List MU) (od:List DC) (mb:List Nat):Prop:=
 Hr U=od.length∧∃T:List My,T.map (fun x=>(x.id,x.obj))=og U od∧T.flatMap My.ot=mb∧∀x∈T,aqo h β w' im x
theorem ai9.append {im:List Nat} {U V:List MU} {d1 d2:List DC} {m1 m2:List Nat} (h1:ai9 h β w' im U d1 m1) (h2:ai9 h β w' im V d2 m2):ai9 h β w' im (U++V) (d1++d2) (m1++m2):=by
 obtain⟨l1,T1,e1,b1,g1⟩:=h1
 obtain⟨l2,T2,e2,b2,g2⟩:=h2
 have:∀(U V:List MU),Hr (U++V)=Hr U+Hr V:=by
  intro U V
  induction U with
  | nil=>simp [Hr]
  | cons x l ih=>cases x<;>simp only[List.cons_append,Hr,ih]<;>omega
 refine⟨by simp only[this,List.length_append,l1,l2],T1++T2,by rw[List.map_append,e1,e2,zp _ _ _ _ l1],by simp [b1,b2],fun x hx=> ?_⟩
 rcases List.mem_append.1 hx with hx | hx
 ·exact g1 x hx
 ·exact g2 x hx
theorem Qc.aqp {t:TT} {e:List CT} {rows:List (List DC)} {mb:List Nat} (h:Qc w t e rows (.slice none 0 0) mb):mb=[]:=by
 cases t with
 | flat t=>
  obtain⟨_,_,_,_,_,rfl⟩:=h
  rfl
 | deep t its=>
  obtain⟨vals,d_,h1,h2,rfl⟩:=h
  rcases h1.2 with ⟨_,h0,_⟩ | ⟨g,cap,cur,hv,_⟩
  ·have:d_=[]:=List.length_eq_zero_iff.1 (by rw[h2.1,h0])
   subst this
   rfl
  ·cases hv
theorem Mz (hc:Core w0 S f h β φ tm w) {im:List Nat} :∀(cs:List CT) (ts:List TT) (ss:List SV) (us:List Value) (q:List DC×List MU) (od:List DC) (mb:List Nat),bt w (Av h β) β ss us→(dg cs ts ss).val f h=some q→U1 w' cs ts od us mb→
  ai9 h β w' im q.2 od mb
 | [],ts,ss,us,q,od,mb,hs,hq,ho=>by
  cases ts with
  | nil=>
   cases ss with
   | nil=>
    simp only[dg,M.ax,Option.some.injEq] at hq
    subst hq
    simp only[U1] at ho
    rw[ho.1,ho.2.2]
    exact⟨rfl,[],rfl,rfl,by simp⟩
   | cons s ss=>simp [dg] at hq
  | cons t ts=>simp [dg] at hq
 | .int k::cs,ts,ss,us,q,od,mb,hs,hq,ho=>by
  cases ss with
  | nil=>simp [dg] at hq
  | cons s ss=>
   simp only[bt] at hs
   obtain⟨v,eo,rfl,h1,h2⟩:=hs
   simp only[dg,M.aX,Option.bind_eq_some_iff,M.ax,Option.some.injEq] at hq
   obtain⟨q1,d6,q2,Bc,rfl⟩:=hq
   simp only[U1] at ho
   obtain⟨v',us1,e0,ho⟩:=ho
   simp only[List.cons.injEq] at e0
   obtain⟨rfl,rfl⟩:=e0
   exact Mz hc cs ts ss eo q2 od mb h2 Bc ho
 | .bool::cs,ts,ss,us,q,od,mb,hs,hq,ho=>by
  cases ss with
  | nil=>simp [dg] at hq
  | cons s ss=>
   simp only[bt] at hs
   obtain⟨v,eo,rfl,h1,h2⟩:=hs
   simp only[dg,M.aX,Option.bind_eq_some_iff,M.ax,Option.some.injEq] at hq
   obtain⟨q1,d6,q2,Bc,rfl⟩:=hq
   simp only[U1] at ho
   obtain⟨v',us1,e0,ho⟩:=ho
   simp only[List.cons.injEq] at e0
   obtain⟨rfl,rfl⟩:=e0
   exact Mz hc cs ts ss eo q2 od mb h2 Bc ho
 | .str::cs,ts,ss,us,q,od,mb,hs,hq,ho=>by
  cases ss with
  | nil=>simp [dg] at hq
  | cons s ss=>
   simp only[bt] at hs
   obtain⟨v,eo,rfl,h1,h2⟩:=hs
   simp only[dg,M.aX,Option.bind_eq_some_iff,M.ax,Option.some.injEq] at hq
   obtain⟨q1,d6,q2,Bc,rfl⟩:=hq
   simp only[U1] at ho
   obtain⟨v',us1,e0,ho⟩:=ho
   simp only[List.cons.injEq] at e0
   obtain⟨rfl,rfl⟩:=e0
   exact Mz hc cs ts ss eo q2 od mb h2 Bc ho
 | .sl el::cs,ts,ss,us,q,od,mb,hs,hq,ho=>by
  cases ts with
  | nil=>simp [dg] at hq
  | cons t ts=>
   cases ss with
   | nil=>cases t<;>simp [dg] at hq
   | cons s ss=>
    simp only[bt] at hs
    obtain⟨v,eo,rfl,h1,h2⟩:=hs
    simp only[U1] at ho
    obtain⟨t1,ts1,rows,od',v1,us1,m1,Om,e1,rfl,e2,o1,o3,rfl⟩:=ho
    simp only[List.cons.injEq] at e1 e2
    obtain⟨rfl,rfl⟩:=e1
    obtain⟨rfl,rfl⟩:=e2
    have pack:∀(q1:DC×MU) (q2:List DC×List MU),ai9 h β w' im [q1.2] [.sl rows] m1→(dg cs ts ss).val f h=some q2→ai9 h β w' im (q1.2::q2.2) (.sl rows::od') (m1++Om):=by
     intro q1 q2 k1 Bc
     exact k1.append (Mz hc cs ts ss eo q2 od' Om h2 Bc o3)
    have none_:v= .slice none 0 0→ai9 h β w' im [.non] [.sl rows] m1:=by
     rintro rfl
     exact⟨rfl,[],rfl,by rw[o1.aqp];rfl,by simp⟩
    cases t with
    | flat t=>
     simp only[dg,M.aX,Option.bind_eq_some_iff,M.ax,Option.some.injEq] at hq
     obtain⟨q1,d6,q2,Bc,rfl⟩:=hq
     refine pack q1 q2 ?_ Bc
     cases s with
     | nil=>
      simp only at d6
      cases D1:cg el
      ·simp [D1] at d6
      ·simp only[D1,cond_true,M.ax,Option.some.injEq] at d6
       subst d6
       simp only[bX] at h1
       exact none_ h1
     | own id=>
      simp only[M.eB,Option.bind_eq_some_iff] at d6
      obtain⟨ob,dT,d6⟩:=d6
      cases ob with
      | row t' e' r fz u=>
       cases fz with
       | true=>simp at d6
       | false=>
        simp only at d6
        cases dK:Nat.beq t' t && dG e' el && cg el
        ·simp [dK] at d6
        ·simp only[dK,cond_true,M.ax,Option.some.injEq] at d6
         subst d6
         simp only[Bool.and_eq_true] at dK
         have ht:=Nat.eq_of_beq_eq_true dK.1.1
         have he:=dR _ _ dK.1.2
         subst ht
         subst he
         simp only[bX] at h1
         obtain⟨D1,vals,fps,p1,p2,rfl⟩:=o1
         refine⟨rfl,[⟨id,.row t' e' rows false u,[],v.ownBlock.toList⟩],rfl,by simp,fun x hx=> ?_⟩
         rw[List.mem_singleton] at hx
         subst hx
         refine⟨⟨_,dT⟩,rfl,fun av β' hv hb hn him=> ?_⟩
         simp only at hv hb hn ⊢
         refine⟨vals,fps,by rw[hv,←h1.1];exact p1,p2,by rw[X8 D1 p2];simp, ?_⟩
         rw[hv,←h1.1,X8 D1 p2]
         cases u<;>simp
      | box _ _=>simp at d6
      | imm _ _=>simp at d6
      | deep _ _ _ _ _=>simp at d6
     | _=>simp at d6
    | deep t its=>
     simp only[dg,M.aX,Option.bind_eq_some_iff,M.ax,Option.some.injEq] at hq
     obtain⟨q1,d6,q2,Bc,rfl⟩:=hq
     refine pack q1 q2 ?_ Bc
     cases s with
     | nil=>
      simp only[M.ax,Option.some.injEq] at d6
      subst d6
      simp only[bX] at h1
      exact none_ h1
     | own id=>
      simp only[M.eB,Option.bind_eq_some_iff] at d6
      obtain⟨ob,dT,d6⟩:=d6
      cases ob with
      | deep t' e' DP r hl=>
       cases hl with
       | some _=>simp at d6
       | none=>
        simp only at d6
        cases dK:Nat.beq t' t && dG e' el && KC DP its
        ·simp [dK] at d6
        ·simp only[dK,cond_true,M.ax,Option.some.injEq] at d6
         subst d6
         simp only[Bool.and_eq_true] at dK
         have ht:=Nat.eq_of_beq_eq_true dK.1.1
         have he:=dR _ _ dK.1.2
         have hts:=Mp _ _ dK.2
         subst ht
         subst he
         subst hts
         simp only[bX] at h1
         obtain⟨vals,d_,p1,p2,rfl⟩:=o1
         refine⟨rfl,[⟨id,.deep t' e' DP rows none,d_.flatten,v.ownBlock.toList++d_.flatten⟩],rfl,by simp,fun x hx=> ?_⟩
         rw[List.mem_singleton] at hx
         subst hx
         refine⟨⟨_,dT⟩,rfl,fun av β' hv hb hn him=> ?_⟩
         simp only at hv hb hn ⊢
         exact⟨vals,d_,by rw[hv,←h1.1];exact p1,p2,hn,by rw[hv,←h1.1]⟩
      | box _ _=>simp at d6
      | imm _ _=>simp at d6
      | row _ _ _ _ _=>simp at d6
     | _=>simp at d6
theorem afH (hc:Core w0 S f h β φ tm w) {im0:List Nat} :∀(ks:List AK) (ms:List (Option MK)) (ss:List SV) (vs:List Value) (q:List DC×HJ×List MU) (od:List DC) (im mb:List Nat),bt w (Av h β) β ss vs→(jh ks ms ss).val f h=some q→ai5 w' ks ms od vs im mb→(∀b∈im,b∈im0)→
  ai9 h β w' im0 q.2.2 od mb
 | [],ms,ss,vs,q,od,im,mb,hs,hq,ho,_=>by
  cases ms with
  | nil=>
   cases ss with
   | nil=>
    simp only[jh,M.ax,Option.some.injEq] at hq
    subst hq
    simp only[ai5] at ho
    rw[ho.1,ho.2.2.2]
    exact⟨rfl,[],rfl,rfl,by simp⟩
   | cons s ss=>simp [jh] at hq
  | cons m ms=>simp [jh] at hq
 | k::ks,ms,ss,vs,q,od,im,mb,hs,hq,ho,him=>by
  simp only[ai5] at ho
  obtain⟨m,ms,d1,d2,v,l,i1,i2,b1,b2,rfl,rfl,rfl,o1,o2,rfl,rfl⟩:=ho
  cases ss with
  | nil=>cases m with
   | none=>simp [jh] at hq
   | some m=>cases m<;>simp [jh] at hq
  | cons s ss=>
   simp only[bt] at hs
   obtain⟨v0,l0,e0,h1,h2⟩:=hs
   simp only[List.cons.injEq] at e0
   obtain⟨rfl,rfl⟩:=e0
   have anz:∀b∈i2,b∈im0:=fun b hb=>him b (List.mem_append_right _ hb)
   cases m with
   | none=>
    simp only[jh,M.aX,Option.bind_eq_some_iff,M.ax,Option.some.injEq] at hq
    obtain⟨q1,d6,q2,Bc,rfl⟩:=hq
    simp only[arw] at o1
    obtain⟨rfl,rfl,rfl⟩:=o1
    exact afH hc ks ms ss l q2 d2 i2 b2 h2 Bc o2 anz
   | some m=>
    cases m with
    | box t=>
     cases s with
     | ptr id off=>
      cases off with
      | succ off=>simp [jh] at hq
      | zero=>
       simp only[jh,M.eB,Option.bind_eq_some_iff] at hq
       obtain⟨ob,dT,hq⟩:=hq
       cases ob with
       | box t' cells=>
        simp only at hq
        cases htt:Nat.beq t' t
        ·simp [htt] at hq
        ·have aos:=Nat.eq_of_beq_eq_true htt
         subst aos
         simp only[htt,cond_true,M.aX,Option.bind_eq_some_iff] at hq
         obtain⟨q1,d6,hq⟩:=hq
         cases hem:q1.2.1.isEmpty
         ·simp [hem] at hq
         ·simp only[hem,cond_true,M.aX,Option.bind_eq_some_iff,M.ax,Option.some.injEq] at hq
          obtain⟨q2,Bc,rfl⟩:=hq
          have k2:=afH hc ks ms ss l q2 d2 i2 b2 h2 Bc o2 anz
          obtain⟨us0,g1,g2,g3,g4⟩:=hc.dA id _ dT
          simp only[arw] at o1
          obtain⟨g,us,ev,ow1,ow2,ow3,ow4,rfl⟩:=o1
          simp only[bX] at h1
          have eg:g=β.Bn id:=by
           rw[h1] at ev
           simp only[Value.pointer.injEq,Option.some.injEq,Addr.mk.injEq,and_true] at ev
           exact ev.symm
          subst eg
          have hd1:d1.length=k.cts.length:=RdL.length _ _ _ _ ow3
          refine ai9.append (U:=[.box id t' k.cts]) ⟨by simp only[Hr,hd1];omega,[⟨id,.box t' (kU k.cts d1 0),[],[β.Bn id]⟩],rfl,by simp,fun x hx=> ?_⟩ k2
          rw[List.mem_singleton] at hx
          subst hx
          refine⟨⟨_,dT⟩,abQ _ _ _,fun av β' hv hb hn atS=> ?_⟩
          simp only at hv hb hn ⊢
          obtain⟨vs',l1,l2,l3,l4⟩:=RdL.lE (β:=β') (av:=av) ow3 (fun b hb=>atS b (him b (List.mem_append_left _ hb))) k.cts.length 0 (by omega)
          have ee:vs'=us:=by
           apply List.ext_getElem?
           intro j
           by_cases hj:j<vs'.length
           ·have:=l2 j vs'[j] (by simp)
            simp only[Nat.zero_add] at this
            rw[this]
            simp
           ·rw[List.getElem?_eq_none (by omega),List.getElem?_eq_none (by omega)]
          subst ee
          simp only[List.drop_zero,List.take_length] at l3
          exact⟨vs',by rw[hb];exact ow1,l3,ow2,by rw[hb]⟩
       | row _ _ _ _ _=>simp at hq
       | imm _ _=>simp at hq
       | deep _ _ _ _ _=>simp at hq
     | _=>simp [jh] at hq
    | rows ts=>
     simp only[jh,M.aX,Option.bind_eq_some_iff,M.ax,Option.some.injEq] at hq
     obtain⟨q1,d6,q2,Bc,rfl⟩:=hq
     have k2:=afH hc ks ms ss l q2 d2 i2 b2 h2 Bc o2 anz
     simp only[arw] at o1
     obtain⟨us,ev,o1,rfl⟩:=o1
     have one:ai9 h β w' im0 q1.2 d1 b1:=by
      cases hk:k.agg with
      | true=>
       cases s with
       | agg cs=>
        simp only[hk] at d6
        simp only[bX] at h1
        obtain⟨eo,rfl,hus,fm⟩:=h1
        rw[hk] at ev
        simp only[cond_true,Value.agg.injEq] at ev
        have:eo=us:=by simpa using congrArg Array.toList ev
        subst this
        exact Mz hc k.cts ts cs eo q1 d1 b1 hus d6 o1
       | _=>simp [hk] at d6
      | false=>
       have afw:(dg k.cts ts [s]).val f h=some q1:=by
        cases s<;>simp only[hk] at d6<;>first | exact d6 | (simp at d6)
       rw[hk] at ev
       simp only[cond_false] at ev
       subst ev
       have Qd:bt w (Av h β) β [s] [v]:=by simp only[bt];exact⟨v,[],rfl,h1,rfl⟩
       exact Mz hc k.cts ts [s] [v] q1 d1 b1 Qd afw o1
     exact one.append k2
end
end Go.Proofs.YthpmalpdnnbkgaaGreat.Vm
set_option linter.unusedVariables false
set_option linter.unusedSimpArgs false
namespace Go.Proofs.YthpmalpdnnbkgaaGreat.Vm
section
variable {P:Program} {Γ:Ctx} {w0:World} {S:Own} {st:St} {o:Oper} {e:u4} {a:Act} {w w':World}
variable {f:Nat→SV} {h:Nat→Option bP} {β:Env} {φ:Nat→List Nat} {tm:Array Value}
theorem aqq (T:List My) (l:List (Nat×Option bP)) (j:Nat):fo (T.map (fun x=>(x.id,some x.obj))++l) h j=match lkT T j with | some x=>some x.obj | none=>fo l h j:=by
 induction T with
 | nil=>rfl
 | cons y N ih=>
  simp only[List.map_cons,List.cons_append,fo,dB,lkT]
  split
  ·rfl
  ·exact ih
theorem alF {i:Nat} :∀ {m:HJ},lU i m=true→∀x∈m,x.1≠i
 | [],_,x,hx=>by simp at hx
 | (k,y)::l,hm,x,hx=>by
  simp only[lU,Bool.and_eq_true,Bool.not_eq_true'] at hm
  rcases List.mem_cons.1 hx with rfl | hx
  ·exact Nat.ne_of_beq_eq_false hm.1
  ·exact alF hm.2 x hx
theorem ai_ {i:Nat} :∀ {m:HJ},lU i m=true→fo (bE m) h i=h i
 | [],_=>rfl
 | (k,e',r,u)::l,hm=>by
  simp only[lU,Bool.and_eq_true,Bool.not_eq_true'] at hm
  simp only[bE,fo,dB]
  rw[if_neg (fun he=>Nat.ne_of_beq_eq_false hm.1 he.symm)]
  exact ai_ hm.2
theorem EJ:∀ {U:List MU},Ju h U→∀b∈U.flatMap (d7 β),∃id∈jH U,∃ob,h id=some ob∧b∈cb β id ob
 | [],_,b,hb=>by simp at hb
 | .box id t cs::l,hm,b,hb=>by
  simp only[Ju] at hm
  obtain⟨⟨cells,hc⟩,hm⟩:=hm
  rw[List.flatMap_cons,List.mem_append] at hb
  rcases hb with hb | hb
  ·exact⟨id,List.mem_cons_self ..,_,hc,hb⟩
  ·obtain⟨i,hi,ob,h1,h2⟩:=EJ hm b hb
   exact⟨i,List.mem_cons_of_mem _ hi,ob,h1,h2⟩
 | .row id t e u::l,hm,b,hb=>by
  simp only[Ju] at hm
  obtain⟨⟨_,rows,hc⟩,hm⟩:=hm
  rw[List.flatMap_cons,List.mem_append] at hb
  rcases hb with hb | hb
  ·exact⟨id,List.mem_cons_self ..,_,hc,hb⟩
  ·obtain⟨i,hi,ob,h1,h2⟩:=EJ hm b hb
   exact⟨i,List.mem_cons_of_mem _ hi,ob,h1,h2⟩
 | .deep id t e ts::l,hm,b,hb=>by
  simp only[Ju] at hm
  obtain⟨⟨rows,hc⟩,hm⟩:=hm
  rw[List.flatMap_cons,List.mem_append] at hb
  rcases hb with hb | hb
  ·exact⟨id,List.mem_cons_self ..,_,hc,hb⟩
  ·obtain⟨i,hi,ob,h1,h2⟩:=EJ hm b hb
   exact⟨i,List.mem_cons_of_mem _ hi,ob,h1,h2⟩
 | .non::l,hm,b,hb=>by
  rw[List.flatMap_cons] at hb
  exact EJ (U:=l) hm b (by simpa [d7] using hb)
theorem F2 {i:Nat} {l:List Nat} (hn:wQ (i::l)=true):i ∉ l∧wQ l=true:=by
 simp only[wQ,Bool.and_eq_true,Bool.not_eq_true',List.any_eq_false] at hn
 refine⟨fun hi=> ?_,hn.2⟩
 exact hn.1 i hi (Nat.beq_refl i)
theorem Jl (hc:Core w0 S f h β φ tm w):∀ {U:List MU},Ju h U→wQ (jH U)=true→(U.flatMap (d7 β)).Nodup
 | [],_,_=>by simp
 | .box id t cs::l,hm,hn=>by
  simp only[Ju] at hm
  obtain⟨⟨cells,ho⟩,hm⟩:=hm
  obtain⟨h1,h2⟩:=F2 hn
  rw[List.flatMap_cons,List.nodup_append]
  refine⟨by simp [d7],Jl hc hm h2, ?_⟩
  intro b hb b' hb' hbb
  subst hbb
  obtain⟨i,hi,ob,Js,RG⟩:=EJ (β:=β) hm b hb'
  exact hc.sep id i _ ob (fun he=>h1 (he ▸ hi)) ho Js b (bF (hc.dA _ _ ho) b hb) (bF (hc.dA _ _ Js) b RG)
 | .row id t e u::l,hm,hn=>by
  simp only[Ju] at hm
  obtain⟨⟨_,rows,ho⟩,hm⟩:=hm
  obtain⟨h1,h2⟩:=F2 hn
  rw[List.flatMap_cons,List.nodup_append]
  refine⟨?_,Jl hc hm h2, ?_⟩
  ·simp only[d7]
   cases (β.val id).ownBlock<;>simp
  ·intro b hb b' hb' hbb
   subst hbb
   obtain⟨i,hi,ob,Js,RG⟩:=EJ (β:=β) hm b hb'
   exact hc.sep id i _ ob (fun he=>h1 (he ▸ hi)) ho Js b (bF (hc.dA _ _ ho) b hb) (bF (hc.dA _ _ Js) b RG)
 | .deep id t e ts::l,hm,hn=>by
  simp only[Ju] at hm
  obtain⟨⟨rows,ho⟩,hm⟩:=hm
  obtain⟨h1,h2⟩:=F2 hn
  rw[List.flatMap_cons,List.nodup_append]
  refine⟨?_,Jl hc hm h2, ?_⟩
  ·obtain⟨vals,d_,_,_,g3,g4⟩:=hc.dA _ _ ho
   have:=(hc.fresh _ _ ho).1
   rw[g4] at this
   simpa only[d7,g3] using this
  ·intro b hb b' hb' hbb
   subst hbb
   obtain⟨i,hi,ob,Js,RG⟩:=EJ (β:=β) hm b hb'
   exact hc.sep id i _ ob (fun he=>h1 (he ▸ hi)) ho Js b (bF (hc.dA _ _ ho) b hb) (bF (hc.dA _ _ Js) b RG)
 | .non::l,hm,hn=>by
  rw[List.flatMap_cons]
  simpa [d7] using Jl hc (U:=l) hm hn
theorem abR {d:Nat} :∀(rks:List RK) (k:Nat) (r1 r2:List DC),r1.length=sO rks→eQ d k rks (r1++r2)=eQ d k rks r1
 | [],_,_,_,_=>rfl
 | r::rs,k,r1,r2,hl=>by
  simp only[sO] at hl
  simp only[eQ]
  rw[List.take_append_of_le_length (by omega),List.drop_append_of_le_length (by omega),abR rs _ _ r2 (by simp;omega)]
end
end Go.Proofs.YthpmalpdnnbkgaaGreat.Vm
set_option linter.unusedVariables false
set_option linter.unusedSimpArgs false
namespace Go.Proofs.YthpmalpdnnbkgaaGreat.Vm
section
variable {P:Program} {Γ:Ctx} {w0:World} {S:Own} {st:St} {o:Oper} {e:u4} {a:Act} {w w':World}
variable {f:Nat→SV} {h:Nat→Option bP} {β:Env} {φ:Nat→List Nat} {tm:Array Value}
theorem abS (DQ:ai P Γ) {s:Sum} {g:Nat} (hs:lkS Γ g=some s) (vJ:s.ann=false) (hpt:s.pt=none) (hms:s.ms≠[]) (hR:Rel w0 S st a w) (hd:∀d,o.dst=some d→eD st.n d) (lR:∀d,o.dst=some d→e.ow≠[]→jr st d)
  {l:List SV} {us:List Value} (atT:∀fn,P.funcs[g]? =some fn→fn.body.isSome=true→(fn.name== "runtime.NumGoroutine")=false→(execOp a.eval o).run P w= .ok (.enter g us.toArray) w)
  (hl:∀β φ,Core w0 S st.get st.obj β φ a.tmps w→bt w (Av st.obj β) β l us) (he:(aa9 s o.dst l).val st.get st.obj=some e) (hok:e.ok=true):Good P w0 S st o e a w:=by
 have hH:ox P g s:=by
  have h0:=DQ g s hs
  unfold Mx at h0
  rw[vJ,cond_false,hpt] at h0
  simp only at h0
  split at h0
  ·rename_i hm
   exact absurd hm hms
  ·exact h0
 unfold aa9 at he
 cases dK:Nat.blt (DB s.rs) 64 && !(shares s) && (o.dst.isSome || s.rs.isEmpty)
 ·simp [dK] at he
 simp only[dK,cond_true,M.aX,Option.bind_eq_some_iff] at he
 obtain⟨r,hr,he⟩:=he
 cases hc2:d4 r.2.1 && wQ (jH r.2.2) && (jH r.2.2).all (fun i=>lU i r.2.1)
 ·simp [hc2] at he
 simp only[hc2,cond_true,M.ax,Option.some.injEq] at he
 subst he
 simp only[Bool.and_eq_true,Bool.not_eq_true',List.all_eq_true] at dK hc2
 obtain⟨⟨h64,hsh⟩,hdr⟩:=dK
 obtain⟨⟨hmn,hun⟩,hum⟩:=hc2
 have h64:DB s.rs<64:=Nat.le_of_ble_eq_true h64
 obtain⟨⟨fn,hf,hb,hn⟩,ai7⟩:=hH
 obtain⟨β,φ,hc⟩:=hR.core
 obtain⟨fp,hargs,Mw,hmu,RI⟩:=QD hc s.ps s.ms l _ r (hl β φ hc) hr
 have atU:=Jl hc hmu hun
 have atV:∀b∈r.2.2.flatMap (d7 β),b ∉ fp:=by
  intro b hb hbf
  obtain⟨id,Bo,ob,dT,RL⟩:=EJ (β:=β) hmu b hb
  rcases RI b hbf with h3 | ⟨x,hx,hbx⟩
  ·exact h3 (.inl ⟨id,ob,dT,RL⟩)
  ·obtain⟨_,hx',_⟩:=Mw x hx
   rw[HL hx'] at hbx
   have sV:x.1≠id:=alF (hum id Bo) x hx
   exact hc.sep x.1 id _ ob sV hx' dT b (bF (hc.dA _ _ hx') b hbx) (bF (hc.dA _ _ dT) b RL)
 intro Q
 unfold Oper.wp
 rw[atT fn hf hb hn,Oper.upon_enter]
 refine (ai7 w r.1 _ fp _ hargs atU atV hok).mono ?_
 rintro _ w' ⟨vs,φs,im,tp,im2,rd,od,ψ,rfl,hfn,hrd,hk,hres,hnd,hal,atb,atW,hψ,anz⟩
 have atX:im=[]:=ResV.X5 _ _ _ _ _ _ (by simpa [shares] using hsh) hres
 have atc:(s.fn r.1).2.drop (sO s.rs)=od:=by rw[hfn,←hrd,List.drop_left]
 have hrv:eQ (o.dst.getD 0) 0 s.rs (s.fn r.1).2=eQ (o.dst.getD 0) 0 s.rs rd:=by rw[hfn,abR _ _ _ _ hrd]
 obtain⟨N,n1,n2,n3,n4,n5,n6⟩:=U2 (d:=o.dst.getD 0) s.rs 0 _ vs φs im tp hres
 obtain⟨_,T,hT,hTb,anA⟩:=afH (w':=w') hc s.ps s.ms l _ r od im2 ψ (hl β φ hc) hr atb (fun b hb=>hb)
 have hTi:T.map My.id=jH r.2.2:=by
  rw[←Jk r.2.2 od,←hT,List.map_map]
  rfl
 have PY:=hc.M7 r.2.1 Mw hmn
 have atd:N≠[]→∃d,o.dst=some d:=by
  intro sV
  cases dL:o.dst with
  | some d=>exact⟨d,rfl⟩
  | none=>
   rw[dL] at hdr
   simp only[Option.isSome_none,Bool.false_or] at hdr
   have hrs:s.rs=[]:=List.isEmpty_iff.1 hdr
   rw[hrs] at n2
   simp only[DB,List.range'_zero,List.map_nil,List.map_eq_nil_iff] at n2
   exact absurd n2 sV
 have aoe:∀x∈N,x.id / 64=o.dst.getD 0∧x.id∈N.map (·.id):=by
  intro x hx
  have hm:x.id∈N.map (·.id):=List.mem_map_of_mem hx
  refine⟨?_,hm⟩
  rw[n2] at hm
  obtain⟨j,hj,hj'⟩:=List.mem_map.1 hm
  rw[←hj']
  have:=List.mem_range'_1.1 hj
  exact uX _ j (by omega)
 have aoq:(N.map (·.id)).Nodup:=by
  rw[n2]
  refine List.Pairwise.map _ ?_ (List.nodup_range' ..)
  intro x y hxy e
  unfold bD at e
  omega
 have hle:=hR.kept.size
 have arV:∀x∈T,x.id∈jH r.2.2:=by
  intro x hx
  rw[←hTi]
  exact List.mem_map_of_mem hx
 have aqm:∀b∈r.2.2.flatMap (d7 β),Av st.obj β b:=by
  intro b hb
  obtain⟨id,Bo,ob,dT,RL⟩:=EJ (β:=β) hmu b hb
  exact .inl ⟨id,ob,dT,RL⟩
 have hval:∀x∈N,(β.ov N T).val x.id=x.v:=by
  intro x hx
  simp [Env.ov,anv hx aoq]
 let h':Nat→Option bP:=afx N T (fo (bE r.2.1) st.obj)
 have anx:∀b∈im2,¬Av h' (β.ov N T) b:=by
  rintro b hb (⟨j,oj,hj,ie⟩ | GR)
  case inr=>
   have hib:=anz b hb
   have hbw:=(PY.Ol b GR).1
   rcases hib.1 with aor | aqj
   ·rcases RI b aor with h3 | ⟨x,hx,hbx⟩
    ·exact h3 (.inr GR)
    ·exact tW hc Mw hx hbx (.inr GR)
   ·omega
  have hib:=anz b hb
  cases RJ:Jr N j with
  | some x=>
   simp only[h',afx,RJ,Option.some.injEq] at hj
   subst hj
   have hx:=(eM RJ).1
   refine hib.2.1 ?_
   rw[←n5]
   refine List.mem_flatMap.2 ⟨x,hx, ?_⟩
   obtain⟨_,rfl⟩:=eM RJ
   rwa [x.Qz (by simp [Env.ov,RJ]) (by simp [Env.ov,RJ])] at ie
  | none=>
   simp only[h',afx,RJ] at hj
   cases hu:lkT T j with
   | some x=>
    simp only[hu,Option.some.injEq] at hj
    subst hj
    obtain⟨hxT,rfl⟩:=yF hu
    have h1:b∈x.ot:=by
     have PU:=(anA x hxT).2.2 (fun _=>False) (β.ov N T) (by simp [Env.ov,RJ]) rfl (by simp [Env.ov,RJ,hu]) (fun _ _ h=>h)
     exact bF PU b ie
    exact hib.2.2 (by rw[←hTb];exact List.mem_flatMap.2 ⟨x,hxT,h1⟩)
   | none=>
    simp only[hu] at hj
    have ai8:b∈cb β j oj:=by
     cases oj<;>simp only[cb,Env.ov,RJ,hu] at ie ⊢ <;>exact ie
    have atQ:=((PY.fresh j oj hj).2 b (bF (PY.dA j oj hj) b ai8)).2
    rcases hib.1 with aor | aqj
    ·rcases RI b aor with h3 | ⟨x,hx,hbx⟩
     ·exact h3 (HM (.inl ⟨j,oj,hj,ai8⟩))
     ·exact tW hc Mw hx hbx (.inl ⟨j,oj,hj,ai8⟩)
    ·omega
 have hcN:=PY.atP (N:=N) (U:=T) (im:=im2) (mb:=r.2.2.flatMap (d7 β)) hk.size hle ?_ ?_ ?_ ?_ (by rw[hTb];exact atW) (by rw[hTb,n4];exact hψ) anx ?_ n3 (by rw[n4];exact hnd) (by rw[n4];exact hal)
 ·have GV:=n6 (Av h' (β.ov N T)) (β.ov N T) hval (by rw[atX];simp)
  have hk':Kept S w0 w':=by
   refine⟨hk.os.trans hR.kept.os,hk.tape.trans hR.kept.tape,hk.output.trans hR.kept.output,by have:=hk.size;omega,fun k h1 h2=> ?_⟩
   refine (hk.block k (by omega) (fun hkm=> ?_)).trans (hR.kept.block k h1 h2)
   obtain⟨id,Bo,ob,dT,RL⟩:=EJ (β:=β) hmu k hkm
   rcases ((hc.fresh id ob dT).2 k (bF (hc.dA _ _ dT) k RL)).1 with h3 | h3
   ·omega
   ·exact h2 h3
  have hfo:fo ((eQ (o.dst.getD 0) 0 s.rs (s.fn r.1).2).2++(aa8 r.2.2 ((s.fn r.1).2.drop (sO s.rs))++bE r.2.1)) (fc none st.obj)=h':=by
   funext j
   have:((og r.2.2 od).map fun x=>(x.1,some x.2))=T.map fun x=>(x.id,some x.obj):=by
    rw[←hT,List.map_map]
    rfl
   rw[hrv,atc,n1,X6,this,amu,aqq]
   rfl
  refine⟨pack vs,rfl,M4 hR hd hk' ⟨β.ov N T,Qe N T (fG φ r.2.1), ?_, ?_⟩⟩
  ·show Core w0 S st.get (fo ((eQ (o.dst.getD 0) 0 s.rs (s.fn r.1).2).2++(aa8 r.2.2 ((s.fn r.1).2.drop (sO s.rs))++bE r.2.1)) (fc none st.obj)) _ _ _ _
   rw[hfo]
   exact hcN
  ·show bX w' (Av (fo ((eQ (o.dst.getD 0) 0 s.rs (s.fn r.1).2).2++(aa8 r.2.2 ((s.fn r.1).2.drop (sO s.rs))++bE r.2.1)) (fc none st.obj)) (β.ov N T)) (β.ov N T) (PK (eQ (o.dst.getD 0) 0 s.rs (s.fn r.1).2).1) (pack vs)
   rw[hfo,hrv]
   generalize (eQ (o.dst.getD 0) 0 s.rs rd).1=q at GV
   match q,vs,GV with
   | [],vs,GV=>
    simp only[bt] at GV
    subst GV
    simp only[PK,pack,bX]
    exact⟨[],rfl,by simp [bt]⟩
   | [x],vs,GV=>
    simp only[bt] at GV
    obtain⟨v,l',rfl,h1,rfl⟩:=GV
    exact h1
   | x::y::q,vs,GV=>
    have aqn:=GV
    simp only[bt] at GV
    obtain⟨v,l',rfl,h1,v2,l2,rfl,h2,h3⟩:=GV
    simp only[PK,pack]
    unfold bX
    exact⟨v::v2::l2,rfl,aqn⟩
 ·intro b hb
  obtain⟨id,Bo,ob,dT,RL⟩:=EJ (β:=β) hmu b hb
  rw[←hTi] at Bo
  obtain⟨x,hx,rfl⟩:=List.mem_map.1 Bo
  exact⟨x,hx,ob,by rw[ai_ (hum _ (arV x hx))];exact dT,RL⟩
 ·exact fun b hb hnb=>hk.block b hb hnb
 ·intro x hx
  obtain⟨⟨ob,h1⟩,h2,_⟩:=anA x hx
  exact⟨⟨ob,by rw[ai_ (hum _ (arV x hx))];exact h1⟩,h2⟩
 ·exact fun x hx=>(anA x hx).2.2
 ·intro x hx
  have h1:=(aoe x hx).1
  obtain⟨d,dL⟩:=atd (fun h0=>by rw[h0] at hx;simp at hx)
  have lR:=lR d dL (by
   show (eQ (o.dst.getD 0) 0 s.rs (s.fn r.1).2).2++_≠[]
   rw[hrv,n1]
   intro h0
   rw[List.append_eq_nil_iff] at h0
   have:N=[]:=by simpa [M9] using h0.1
   rw[this] at hx
   simp at hx)
  rw[dL] at h1
  simp only[Option.getD_some] at h1
  refine⟨?_,fun i hi=>lR.slot i _ hi h1,fun k ok hk' hi=> ?_⟩
  ·cases hn:fo (bE r.2.1) st.obj x.id with
   | none=>rfl
   | some ob=>
    rcases tX hn with h2 | ⟨e',r',rfl,y,hy,h2⟩
    ·exact absurd h1 (lR.obj _ ob h2).1
    ·obtain⟨_,h3,_⟩:=Mw y hy
     rw[h2] at h3
     exact absurd h1 (lR.obj _ _ h3).1
  ·rcases tX hk' with h2 | ⟨e',r',rfl,_⟩
   ·exact (lR.obj k ok h2).2 _ hi h1
   ·simp [oy] at hi
end
end Go.Proofs.YthpmalpdnnbkgaaGreat.Vm
set_option linter.unusedVariables false
set_option linter.unusedSimpArgs false
namespace Go.Proofs.YthpmalpdnnbkgaaGreat.Vm
section
variable {P:Program} {Γ:Ctx} {w0:World} {S:Own} {st:St} {o:Oper} {e:u4} {a:Act} {w w':World}
variable {f:Nat→SV} {h:Nat→Option bP} {β:Env} {φ:Nat→List Nat} {tm:Array Value}
theorem RdL.all {av:Nat→Prop} {cs:List CT} {r:List DC} {us:List Value} {fp:List Nat} (hr:RdL w cs r (fun j=>us[j]?) fp) (hl:us.length=cs.length) (ha:∀b∈fp,¬av b):bt w av β (kU cs r 0) us:=by
 obtain⟨vs,l1,l2,l3,l4⟩:=RdL.lE (β:=β) hr ha cs.length 0 (by omega)
 have e:vs=us:=by
  apply List.ext_getElem?
  intro j
  by_cases hj:j<vs.length
  ·have:=l2 j vs[j] (by simp)
   simp only[Nat.zero_add] at this
   rw[this]
   simp
  ·rw[List.getElem?_eq_none (by omega),List.getElem?_eq_none (by omega)]
 subst e
 simpa only[List.drop_zero,List.take_length] using l3
theorem anB (DQ:ai P Γ) {s:Sum} {g:Nat} (hs:lkS Γ g=some s) (vJ:s.ann=false) {t:TypeId} {cts:List CT} (hpt:s.pt=some (t,cts)) (hR:Rel w0 S st a w) {d:Nat} (dL:o.dst=some d) (hd:eD st.n d) (lR:e.ow≠[]→jr st d)
  {c:Call} (ho:o.op= .call c) (hg:c.callee= .value (.func g)) {l:List SV}
  (hl:(aiM c.args.toList).val st.get st.obj=some l) (he:(S4 Γ (some d) g l).val st.get st.obj=some e) (hok:e.ok=true):Good P w0 S st o e a w:=by
 unfold S4 at he
 rw[hs] at he
 simp only[vJ,cond_false,hpt,M.aX,Option.bind_eq_some_iff] at he
 obtain⟨r,hr,he⟩:=he
 cases hmn:d4 r.2
 ·simp [hmn] at he
 simp only[hmn,cond_true,M.ax,Option.some.injEq] at he
 subst he
 have hH:aqh P g s t cts:=by
  have h0:=DQ g s hs
  unfold Mx at h0
  rw[vJ,cond_false,hpt] at h0
  exact h0
 obtain⟨⟨fn,hf,hb,hn⟩,ai7⟩:=hH
 obtain⟨β,φ,hc⟩:=hR.core
 obtain⟨fp,hargs,Mw,RI⟩:=X3 hc s.ps l _ r (QC hc _ l hl) hr
 intro Q
 unfold Oper.wp
 rw[ai6 ho hg hf hb hn,Oper.upon_enter]
 have anw:c.args.map a.eval=(c.args.toList.map a.eval).toArray:=by rw[←Array.toList_map,Array.toArray_toList]
 rw[anw]
 refine (ai7 w r.1 _ fp hargs hok).mono ?_
 rintro _ w' ⟨b,us,im,rfl,hk,hb0,hb1,hcell,fm,hrd,hlen,him⟩
 have PY:=hc.M7 r.2 Mw hmn
 have jj:bD d 0 / 64=d:=uX d 0 (by omega)
 have lR:=lR (by simp)
 have MF:∀j,j≠bD d 0→(β.UX (bD d 0) b).val j=β.val j∧(β.UX (bD d 0) b).Bn j=β.Bn j:=by
  intro j hj
  exact⟨rfl,by simp [Env.UX,dB,hj]⟩
 have Ov:(β.UX (bD d 0) b).Bn (bD d 0)=b:=by simp [Env.UX,dB]
 have PW:∀x∈cb (β.UX (bD d 0) b) (bD d 0) (.box t (kU cts (s.fn r.1).2 0)),w.heap.size≤x:=by
  intro x hx
  simp only[cb,Ov,List.mem_singleton] at hx
  omega
 have hle:=hR.kept.size
 have hw:∀x,x<w.heap.size→w'.heap[x]? =w.heap[x]? :=fun x hx=>hk.block x hx (fun h=>h)
 have hk':Kept S w0 w':=⟨hk.os.trans hR.kept.os,hk.tape.trans hR.kept.tape,hk.output.trans hR.kept.output,by have:=hk.size;omega,fun k h1 h2=>(hw k (by omega)).trans (hR.kept.block k h1 h2)⟩
 have anx:∀x∈im,¬Av (dB (fo (bE r.2) st.obj) (bD d 0) (some (.box t (kU cts (s.fn r.1).2 0)))) (β.UX (bD d 0) b) x:=by
  rintro x hx (⟨j,oj,hj,ie⟩ | GR)
  ·have hix:=him x hx
   by_cases sR:j=bD d 0
   ·subst sR
    simp only[dB,if_true,Option.some.injEq] at hj
    subst hj
    simp only[cb,Ov,List.mem_singleton] at ie
    exact hix.2 ie
   ·simp only[dB,sR,if_false] at hj
    have ai8:x∈cb β j oj:=by
     cases oj<;>simp only[cb,MF j sR] at ie ⊢ <;>exact ie
    have hlt:=((PY.fresh j oj hj).2 x (bF (PY.dA j oj hj) x ai8)).2
    rcases hix.1 with h3 | h3
    ·rcases RI x h3 with h4 | ⟨y,hy,h4⟩
     ·exact h4 (HM (.inl ⟨j,oj,hj,ai8⟩))
     ·exact tW hc Mw hy h4 (.inl ⟨j,oj,hj,ai8⟩)
    ·omega
  ·have hix:=him x hx
   have hbw:=(PY.Ol x GR).1
   rcases hix.1 with h3 | h3
   ·rcases RI x h3 with h4 | ⟨y,hy,h4⟩
    ·exact h4 (.inr GR)
    ·exact tW hc Mw hy h4 (.inr GR)
   ·omega
 refine⟨_,rfl,M4 hR (fun d' h'=>by rw[dL] at h';injection h' with h';exact h' ▸ hd) hk' ⟨β.UX (bD d 0) b,dB (fG φ r.2) (bD d 0) [b], ?_, ?_⟩⟩
 ·refine PY.create hk.size hw (fun i hi=>lR.slot i _ hi jj) (fun j ob hj hi=> ?_) ?_ MF PW ?_ (by simp) ?_
  ·rcases tX hj with h1 | ⟨e',r,rfl,_⟩
   ·exact (lR.obj j ob h1).2 _ hi jj
   ·simp [oy] at hi
  ·cases hn:fo (bE r.2) st.obj (bD d 0) with
   | none=>rfl
   | some ob=>
    rcases tX hn with h1 | ⟨e',r,rfl,y,hy,h2⟩
    ·exact absurd jj (lR.obj _ ob h1).1
    ·obtain⟨_,h3,_⟩:=Mw y hy
     rw[h2] at h3
     exact absurd jj (lR.obj _ _ h3).1
  ·exact⟨us,by rw[Ov];exact hcell,RdL.all hrd hlen anx,fm,by rw[Ov]⟩
  ·intro x hx
   rw[List.mem_singleton] at hx
   subst hx
   refine⟨⟨.inl (by omega),hb1⟩,fun j ob hj ie=> ?_⟩
   have:=((PY.fresh j ob hj).2 _ ie).2
   omega
 ·simp only[bX,Ov]
end
end Go.Proofs.YthpmalpdnnbkgaaGreat.Vm
