/- The value machine: slices, structs, new objects, appending, contracts. Conditions: as each lemma says. -/
import Derived.Test.YtnlkklmcfafgeaaGreatVa
import Derived.Laws.Tables
import Derived.Great.BuildSlice
import Derived.Laws.CopyRow
namespace Go.Proofs.YtnlkklmcfafgeaaGreat.Vm
theorem C2 {w:World} {e:List CT} {r:List (List DC)} {q:Option Addr} {n c:Nat} {fp:List Nat} (h:bY w (.sl e) (.sl r) (.slice q n c) fp) {l m:Nat} (hl:l≤m) (hm:m≤r.length):
  ∃BG,bY w (.sl e) (.sl ((r.take m).drop l)) (.slice (if c=l then q else q.map (·.add (l*e.length))) (m - l) (c - l)) BG∧∀b∈BG,b∈fp:=by
 obtain⟨q',n',c',hv,hn,hc,JV,iU⟩:=dh h
 injection hv with h1 h2 h3
 subst h1 h2 h3
 have hlen:((r.take m).drop l).length=m - l:=by simp;omega
 rcases Nat.eq_zero_or_pos (m - l) with h0 | h0
 ·exact⟨[],j5 hlen (by omega) (by omega) (.inl ⟨h0,rfl⟩),by simp⟩
 ·rcases iU with ⟨MY,_⟩ | ⟨_,b,o,aA,rfl,cr,eA,rfl,eJ⟩
  ·omega
  ·rw[if_neg (by omega)]
   refine⟨b::((aA.take m).drop l).flatten,j5 hlen (by omega) (by omega) (.inr ⟨h0,b,o+l*e.length,(aA.take m).drop l, ?_,cr,by simp;omega,rfl,fun i r' f hi hf=> ?_⟩), ?_⟩
   ·simp [dt]
   ·have dU:r[l+i]? =some r':=by
     rw[List.getElem?_drop,List.getElem?_take] at hi
     split at hi
     ·exact hi
     ·cases hi
    have Bq:aA[l+i]? =some f:=by
     rw[List.getElem?_drop,List.getElem?_take] at hf
     split at hf
     ·exact hf
     ·cases hf
    have:=eJ (l+i) r' f dU Bq
    have e1:∀j,o+((l+i)*e.length+j)=o+l*e.length+(i*e.length+j):=by intro j;rw[Nat.add_mul];omega
    simpa only[e1] using this
   ·intro x hx
    rcases List.mem_cons.1 hx with rfl | hx
    ·simp
    ·obtain⟨f,hf,hx⟩:=List.mem_flatten.1 hx
     exact List.mem_cons_of_mem _ (List.mem_flatten.2 ⟨f,List.mem_of_mem_take (List.mem_of_mem_drop hf),hx⟩)
section
variable {P:Program} {Γ:Ctx} {w0:World} {S:Own} {st:St} {o:Oper} {e:cJ} {a:Act} {w:World}
theorem Core.freeze {f:Nat→SV} {h:Nat→Option aj} {β:Env} {φ:Nat→List Nat} {tm:Array Value} (hc:Core w0 S f h β φ tm w) {id:Nat} {LZ:aj} {ct:List CT} {r:List (List DC)} {u:Bool}
  (dV:h id=some LZ) (KX:AJ LZ ct r u):Core w0 S f (az h id (some (.d_ ct r))) β (az φ id []) tm w:=by
 have cR:∀b,Av (az h id (some (.d_ ct r))) β b→Av h β b:=by
  rintro b (⟨i,ob,hi,hb⟩ | hb)
  case inr=>exact .inr hb
  by_cases lv:i=id
  ·subst lv
   simp only[az,if_true,Option.some.injEq] at hi
   subst hi
   simp [al] at hb
  ·simp only[az,lv,if_false] at hi
   exact .inl ⟨i,ob,hi,hb⟩
 have hE:=hc.ay id _ dV
 refine hc.step (fun _=>False) (Nat.le_refl _) (fun _ _ _=>rfl) (fun b hb=> .inl (cR b hb)) (fun _ _ _ h=>h) (fun _ _=>⟨rfl,rfl⟩) ?_ ?_
 ·intro i ob hi
  by_cases lv:i=id
  ·subst lv
   simp only[az,if_true,Option.some.injEq] at hi
   subst hi
   refine .inr ⟨⟨?_,by simp [az]⟩,by simp [az],by simp [az]⟩
   obtain⟨fp,h1,h2,_⟩:=Ay hE KX
   simp only[ak]
   refine⟨fp,h1,fun b hb hx=> ?_⟩
   rcases h2 b hb with aZ | hn
   ·rcases hx with ⟨j,Fx,hj,br⟩ | hx
    case inr=>exact hc.Bc dV (ah hE b aZ) hx
    have cM:j≠i:=by
     rintro rfl
     simp only[az,if_true,Option.some.injEq] at hj
     subst hj
     simp [al] at br
    simp only[az,cM,if_false] at hj
    exact hc.sep i j _ _ (Ne.symm cM) dV hj b (ah hE b aZ) (ah (hc.ay j _ hj) b br)
   ·exact hn (cR b hx)
  ·simp only[az,lv,if_false] at hi
   exact .inl ⟨fun h=>h,hi,by simp [az,lv],fun _ _ h=>h,fun _ _=>rfl⟩
 ·intro i j oi oj cM hi hj b hb
  by_cases lv:i=id
  ·subst lv;simp [az] at hb
  ·by_cases cf:j=id
   ·subst cf;simp [az]
   ·simp only[az,lv,cf,if_false] at hi hj hb ⊢
    exact hc.sep i j oi oj cM hi hj b hb
def bV (h:Nat→Option aj) (m:eZ):Prop:=∀x∈m,∃o,h x.1=some o∧AJ o x.2.1 x.2.2.1 x.2.2.2
def eX (h:Nat→Option aj) (β:Env) (i:Nat):List Nat:=
 match h i with
 | some o=>al β i o
 | none=>[]
theorem fj {h:Nat→Option aj} {β:Env} {i:Nat} {o:aj} (hi:h i=some o):eX h β i=al β i o:=by simp only[eX,hi]
def bo (φ:Nat→List Nat):eZ→Nat→List Nat
 | []=>φ
 | x::l=>az (bo φ l) x.1 []
theorem gC {id:Nat} {m:eZ} (h:bS id m=true):∀x∈m,x.1≠id:=by
 induction m with
 | nil=>simp
 | cons y l ih=>
  obtain⟨i,q⟩:=y
  simp only[bS,Bool.and_eq_true,Bool.not_eq_true'] at h
  intro x hx
  rcases List.mem_cons.1 hx with rfl | hx
  ·exact Nat.ne_of_beq_eq_false h.1
  ·exact ih h.2 x hx
theorem bL {h:Nat→Option aj} {m:eZ} {id:Nat} (hn:∀x∈m,x.1≠id):fo (ai m) h id=h id:=by
 induction m with
 | nil=>rfl
 | cons y l ih=>
  obtain⟨i,e',r,u⟩:=y
  simp only[ai,fo,az]
  rw[if_neg (fun e=>hn _ (List.mem_cons_self ..) e.symm)]
  exact ih (fun x hx=>hn x (List.mem_cons_of_mem _ hx))
theorem cZ {φ:Nat→List Nat} {m:eZ} {id:Nat} (hn:∀x∈m,x.1≠id):bo φ m id=φ id:=by
 induction m with
 | nil=>rfl
 | cons y l ih=>
  simp only[bo,az]
  rw[if_neg (fun e=>hn _ (List.mem_cons_self ..) e.symm)]
  exact ih (fun x hx=>hn x (List.mem_cons_of_mem _ hx))
theorem Core.gx {f:Nat→SV} {h:Nat→Option aj} {β:Env} {φ:Nat→List Nat} {tm:Array Value} (hc:Core w0 S f h β φ tm w):∀(m:eZ),bV h m→aO m=true→
  Core w0 S f (fo (ai m) h) β (bo φ m) tm w
 | [],_,_=>hc
 | (id,e',r,u)::l,hm,hn=>by
  simp only[aO,Bool.and_eq_true] at hn
  have ih:=Core.gx hc l (fun x hx=>hm x (List.mem_cons_of_mem _ hx)) hn.2
  obtain⟨o,dV,aK⟩:=hm _ (List.mem_cons_self ..)
  have KZ:=gC hn.1
  exact ih.freeze (id:=id) (ct:=e') (r:=r) (u:=u) (by rw[bL KZ];exact dV) aK
theorem iv (s:List UInt8) (l m:Nat):(⟨s.toArray⟩:ByteArray).extract l m=⟨((s.take m).drop l).toArray⟩:=by
 apply ByteArray.ext
 apply Array.toList_inj.1
 rw[Lib.extract_data]
 simp [List.drop_take]
theorem lF {n:Nat} {D2 D1:Option SV} {l m:Nat} {c:Bool} (h:dL n D2 D1=some (l,m,c)) (hc:c=true):
  l≤m∧m≤n∧((D2=none∧l=0)∨∃k,D2=some (.int k l))∧((D1=none∧m=n)∨∃k,D1=some (.int k m)):=by
 unfold dL at h
 split at h
 ·simp only[Option.some.injEq,Prod.mk.injEq] at h
  obtain⟨rfl,rfl,_⟩:=h
  exact⟨Nat.zero_le _,Nat.le_refl _,.inl ⟨rfl,rfl⟩,.inl ⟨rfl,rfl⟩⟩
 ·rename_i k z
  simp only[Option.some.injEq,Prod.mk.injEq] at h
  obtain⟨rfl,rfl,rfl⟩:=h
  simp only[Bool.and_eq_true,decide_eq_true_eq] at hc
  exact⟨by omega,Nat.le_refl _,.inr ⟨k,by rw[Int.toNat_of_nonneg hc.1]⟩,.inl ⟨rfl,rfl⟩⟩
 ·rename_i k z
  simp only[Option.some.injEq,Prod.mk.injEq] at h
  obtain⟨rfl,rfl,rfl⟩:=h
  simp only[Bool.and_eq_true,decide_eq_true_eq] at hc
  exact⟨Nat.zero_le _,by omega,.inl ⟨rfl,rfl⟩,.inr ⟨k,by rw[Int.toNat_of_nonneg hc.1]⟩⟩
 ·rename_i k z k' z'
  simp only[Option.some.injEq,Prod.mk.injEq] at h
  obtain⟨rfl,rfl,rfl⟩:=h
  simp only[Bool.and_eq_true,decide_eq_true_eq] at hc
  exact⟨by omega,by omega,.inr ⟨k,by rw[Int.toNat_of_nonneg hc.1.1]⟩,.inr ⟨k',by rw[Int.toNat_of_nonneg (by omega)]⟩⟩
 ·cases h
theorem iA {f:Nat→SV} {h:Nat→Option aj} {x:Option Operand} {s:SV} (e:(kj x).val f h=some (some s)):∃y,x=some y∧(cd y).val f h=some s:=by
 cases x with
 | none=>simp [kj] at e
 | some y=>
  simp only[kj,M.ae,Option.bind_eq_some_iff,M.aa,Option.some.injEq] at e
  obtain⟨s',h1,rfl⟩:=e
  exact⟨y,rfl,h1⟩
theorem iz {f:Nat→SV} {h:Nat→Option aj} {x:Option Operand} (e:(kj x).val f h=some none):x=none:=by
 cases x with
 | none=>rfl
 | some y=>simp [kj,Option.bind_eq_some_iff] at e
theorem iK {x:Nat} {k:IntKind} {y:Nat} {code:BoundsCode} (h:x≤y):(Instr.sliceBound (.int k x) y code).run P w= .ok x w:=by
 simp [Instr.sliceBound,asIntOf,h]
theorem jn {lo hi:Option Operand} {D2 D1:Option SV} {n cap l m:Nat} {c isS:Bool} {β:Env} {φ:Nat→List Nat} (lr:n≤cap) (hC:Core w0 S st.get st.obj β φ a.tmps w)
  (h1:(kj lo).val st.get st.obj=some D2) (h2:(kj hi).val st.get st.obj=some D1) (h:dL n D2 D1=some (l,m,c)) (hc:c=true):
  (Instr.sliceBounds isS n cap (lo.map a.eval) (hi.map a.eval) none).run P w= .ok (l,m,cap) w:=by
 obtain⟨FN,Bu,hl,hm⟩:=lF h hc
 rcases hl with ⟨rfl,rfl⟩ | ⟨k,rfl⟩<;>rcases hm with ⟨rfl,rfl⟩ | ⟨k',rfl⟩
 ·simp [iz h1,iz h2,Instr.sliceBounds]
 ·obtain⟨y,rfl,hy⟩:=iA h2
  have hy:=hC.ev hy
  simp only[ak] at hy
  simp [iz h1,Instr.sliceBounds,hy.1,iK (P:=P) (w:=w) (k:=k') (by omega:m≤cap)]
 ·obtain⟨y,rfl,hy⟩:=iA h1
  have hy:=hC.ev hy
  simp only[ak] at hy
  simp [iz h2,Instr.sliceBounds,hy.1,iK (P:=P) (w:=w) (k:=k) FN]
 ·obtain⟨y,rfl,hy⟩:=iA h1
  have hy:=hC.ev hy
  obtain⟨z,rfl,hz⟩:=iA h2
  have hz:=hC.ev hz
  simp only[ak] at hy hz
  simp [Instr.sliceBounds,hy.1,hz.1,iK (P:=P) (w:=w) (k:=k) FN,iK (P:=P) (w:=w) (k:=k') (by omega:m≤cap)]
theorem Ca (hR:Rel w0 S st a w) (hd:∀d,o.dst=some d→bc st.n d) {t:TypeId} {x:Operand} {lo hi:Option Operand} (ho:o.op= .slice t x lo hi none) {sx:SV} {D2 D1:Option SV}
  (h1:(cd x).val st.get st.obj=some sx) (h2:(kj lo).val st.get st.obj=some D2) (h3:(kj hi).val st.get st.obj=some D1)
  (he:(C3 P t sx D2 D1).val st.get st.obj=some e) (aJ:e.ok=true):Good P w0 S st o e a w:=by
 unfold C3 at he
 split at he
 ·rename_i hu
  split at he
  ·rename_i s
   split at he
   ·rename_i l m c gJ
    simp only[M.aa,Option.some.injEq] at he
    subst he
    have aJ:c=true:=aJ
    refine ao hR hd rfl rfl fun β φ hc=> ?_
    have hx:=hc.ev h1
    simp only[ak] at hx
    have hb:=jn (P:=P) (isS:=false) (Nat.le_refl _) hc h2 h3 gJ aJ
    refine⟨.string ⟨((s.take m).drop l).toArray⟩, ?_, ?_⟩
    ·simp [execOp,ho,hx.1,Instr.sliceAt,Instr.slice,run_underlying hu,dz,hb,iv]
    ·unfold ak
     refine⟨rfl, ?_⟩
     simp only[List.length_drop,List.length_take]
     omega
   ·simp at he
  ·simp at he
 ·rename_i et hu
  have run:∀(q:Option Addr) (n cap l m:Nat) (c:Bool) (i:TypeInfo) (β:Env) (φ:Nat→List Nat),Core w0 S st.get st.obj β φ a.tmps w→n≤cap→P.info? et=some i→dL n D2 D1=some (l,m,c)→c=true→
    a.eval x= .slice q n cap→(execOp a.eval o).run P w= .ok (.value (.slice (if cap=l then q else q.map (·.add (l*i.size))) (m - l) (cap - l))) w:=by
   intro q n cap l m c i β φ hc lr hi gJ AZ hx
   have hb:=jn (P:=P) (isS:=true) lr hc h2 h3 gJ AZ
   simp [execOp,ho,hx,Instr.sliceAt,Instr.slice,run_underlying hu,hb,sizeOf,typeInfo,hi]
  split at he
  ·rename_i ct r
   cases hz:aY P et ct.length
   ·simp [hz] at he
   simp only[hz,cond_true] at he
   obtain⟨i,hi,dB⟩:=aW hz
   split at he
   ·rename_i l m c gJ
    simp only[M.aa,Option.some.injEq] at he
    subst he
    have aJ:c=true:=aJ
    refine ao hR hd rfl rfl fun β φ hc=> ?_
    have hx:=hc.ev h1
    simp only[ak] at hx
    obtain⟨fp,hr,cR⟩:=hx
    obtain⟨q,n,cap,hv,hn,lr,_,_⟩:=dh hr
    obtain⟨FN,Bu,_⟩:=lF gJ aJ
    rw[hv] at hr
    obtain⟨BG,hY,HN⟩:=C2 hr FN Bu
    refine⟨_,run q n cap l m c i β φ hc lr hi (by rw[←hn];exact gJ) aJ hv, ?_⟩
    simp only[ak]
    rw[dB]
    exact⟨BG,hY,fun b hb=>cR b (HN b hb)⟩
   ·simp at he
  ·rename_i id
   simp only[M.aT,Option.bind_eq_some_iff] at he
   obtain⟨ob,aK,he⟩:=he
   split at he
   ·rename_i t' ct r u
    cases hz:Nat.beq t' et && aY P et ct.length
    ·simp [hz] at he
    simp only[hz,cond_true] at he
    simp only[Bool.and_eq_true] at hz
    obtain⟨i,hi,dB⟩:=aW hz.2
    split at he
    ·rename_i l m c gJ
     simp only[M.aa,Option.some.injEq] at he
     subst he
     have aJ:c=true:=aJ
     obtain⟨β,φ,hc⟩:=hR.core
     have hx:=hc.ev h1
     simp only[ak] at hx
     have LB:=hc.freeze aK (.inl ⟨_,_,rfl⟩)
     have EV:=(LB.ay id (.d_ ct r) (by simp [az])).1
     simp only[ak] at EV
     obtain⟨fp,hr,cR⟩:=EV
     obtain⟨q,n,cap,hv,hn,lr,_,_⟩:=dh hr
     obtain⟨FN,Bu,_⟩:=lF gJ aJ
     rw[hv] at hr
     obtain⟨BG,hY,HN⟩:=C2 hr FN Bu
     refine bM hR hd (run q n cap l m c i β φ hc lr hi (by rw[←hn];exact gJ) aJ (hx.1.trans hv)) hR.kept ⟨β,_,LB, ?_⟩
     simp only[ak]
     rw[dB]
     exact⟨BG,hY,fun b hb=>cR b (HN b hb)⟩
    ·simp at he
   ·rename_i ct r
    cases hz:aY P et ct.length
    ·simp [hz] at he
    simp only[hz,cond_true] at he
    obtain⟨i,hi,dB⟩:=aW hz
    split at he
    ·rename_i l m c gJ
     simp only[M.aa,Option.some.injEq] at he
     subst he
     have aJ:c=true:=aJ
     refine ao hR hd rfl rfl fun β φ hc=> ?_
     have hx:=hc.ev h1
     simp only[ak] at hx
     have EV:=(hc.ay id _ aK).1
     simp only[ak] at EV
     obtain⟨fp,hr,cR⟩:=EV
     obtain⟨q,n,cap,hv,hn,lr,_,_⟩:=dh hr
     obtain⟨FN,Bu,_⟩:=lF gJ aJ
     rw[hv] at hr
     obtain⟨BG,hY,HN⟩:=C2 hr FN Bu
     refine⟨_,run q n cap l m c i β φ hc lr hi (by rw[←hn];exact gJ) aJ (hx.1.trans hv), ?_⟩
     simp only[ak]
     rw[dB]
     exact⟨BG,hY,fun b hb=>cR b (HN b hb)⟩
    ·simp at he
   ·simp at he
  ·simp at he
 ·simp at he
end
end Go.Proofs.YtnlkklmcfafgeaaGreat.Vm
namespace Go.Proofs.YtnlkklmcfafgeaaGreat.Vm
theorem DD (off:Nat):∀(vs:List Value) (k:Nat) (cs:Array Value),off+k+vs.length≤cs.size→
  ((vs.zipIdx k).foldl (fun cs (x:Value×Nat)=>cs.setIfInBounds (off+x.2) x.1) cs).toList=cs.toList.take (off+k)++(vs++cs.toList.drop (off+k+vs.length))
 | [],k,cs,h=>by simp
 | v::vs,k,cs,h=>by
  simp only[List.zipIdx_cons,List.foldl_cons]
  simp only[List.length_cons] at h
  rw[DD off vs (k+1) _ (by simp;omega)]
  have e1:(cs.setIfInBounds (off+k) v).toList=cs.toList.set (off+k) v:=by simp
  have hl:off+k<cs.toList.length:=by simp;omega
  rw[e1]
  have e2:(cs.toList.set (off+k) v).take (off+(k+1))=cs.toList.take (off+k)++[v]:=by
   rw[←Nat.add_assoc,List.take_succ_eq_append_getElem (by simpa using hl),List.take_set_of_le (Nat.le_refl _)]
   simp
  have e3:(cs.toList.set (off+k) v).drop (off+(k+1)+vs.length)=cs.toList.drop (off+k+(vs.length+1)):=by
   rw[List.drop_set_of_lt (by omega)]
   congr 1
   omega
  rw[e2,e3]
  simp
theorem kl {place:Nat→Option (Nat×Nat)} {cells:Array Value} {i off:Nat} {v:Value} {rest:List (Nat×Value)} (hp:place i=some (off,v.cells.size)) (hl:off+v.cells.size≤cells.size):
  Instr.fill place cells ((i,v)::rest)=Instr.fill place (cells.toList.take off++(v.cells.toList++cells.toList.drop (off+v.cells.size))).toArray rest:=by
 have h1:(v.cells.zipIdx.foldl (fun cs (x:Value×Nat)=>cs.setIfInBounds (off+x.2) x.1) cells)=(cells.toList.take off++(v.cells.toList++cells.toList.drop (off+v.cells.size))).toArray:=by
  apply Array.toList_inj.1
  rw[←Array.foldl_toList,Array.toList_zipIdx]
  have:=DD off v.cells.toList 0 cells (by simpa using hl)
  simpa using this
 simp only[Instr.fill,hp]
 rw[if_neg (by simp;omega)]
 exact congrArg (fun x=>Instr.fill place x rest) h1
section
variable {P:Program} {Γ:Ctx} {w0:World} {S:Own} {st:St} {o:Oper} {e:cJ} {a:Act} {w:World}
theorem dQ {av:Nat→Prop} {β:Env} {f:Nat→SV} {h:Nat→Option aj} {s:SV} {v:Value} {cs:List SV} (hs:ak w av β s v) (hc:(aD s).val f h=some cs):
  af w av β cs v.cells.toList∧∀x∈v.cells.toList,x.oneCell'=true:=by
 have single:v.oneCell'=true→cs=[s]→af w av β cs v.cells.toList∧∀x∈v.cells.toList,x.oneCell'=true:=by
  intro bd fB
  have mh:v.cells= #[v]:=by cases v<;>first | rfl | (simp [Value.oneCell'] at bd)
  rw[mh,fB]
  simp only[List.mem_singleton,forall_eq,af]
  exact⟨⟨v,[],rfl,hs,rfl⟩,bd⟩
 cases s with
 | fy=>simp [aD] at hc
 | undef=>simp [aD] at hc
 | DG l=>simp [aD] at hc
 | FW g l=>simp [aD] at hc
 | FR id lo z=>simp [aD] at hc
 | agg l=>
  simp only[aD,M.aa,Option.some.injEq] at hc
  subst hc
  simp only[ak] at hs
  obtain⟨vs,rfl,h1,h2⟩:=hs
  simpa [Value.cells] using ⟨h1,h2⟩
 | kb b=>simp only[aD,M.aa,Option.some.injEq] at hc;exact single (by simp only[ak] at hs;subst hs;rfl) hc.symm
 | int k n=>simp only[aD,M.aa,Option.some.injEq] at hc;exact single (by simp only[ak] at hs;rw[hs.1];rfl) hc.symm
 | bool b=>simp only[aD,M.aa,Option.some.injEq] at hc;exact single (by simp only[ak] at hs;subst hs;rfl) hc.symm
 | str b=>simp only[aD,M.aa,Option.some.injEq] at hc;exact single (by simp only[ak] at hs;rw[hs.1];rfl) hc.symm
 | sl e r=>simp only[aD,M.aa,Option.some.injEq] at hc;exact single (by simp only[ak] at hs;obtain⟨fp,hr,_⟩:=hs;exact hr.one) hc.symm
 | nil=>simp only[aD,M.aa,Option.some.injEq] at hc;exact single (by simp only[ak] at hs;subst hs;rfl) hc.symm
 | own id=>simp only[aD,M.aa,Option.some.injEq] at hc;exact single (by simp only[ak] at hs;exact hs.2) hc.symm
 | ptr id off=>simp only[aD,M.aa,Option.some.injEq] at hc;exact single (by simp only[ak] at hs;subst hs;rfl) hc.symm
 | gN e r off=>simp only[aD,M.aa,Option.some.injEq] at hc;exact single (by simp only[ak] at hs;obtain⟨b,o,fp,hv,_⟩:=hs;subst hv;rfl) hc.symm
 | d9 id i z off=>simp only[aD,M.aa,Option.some.injEq] at hc;exact single (by simp only[ak] at hs;obtain⟨g,_,hv⟩:=hs;subst hv;rfl) hc.symm
theorem eN {av:Nat→Prop} {β:Env} :∀(l:List Value),af w av β (l.map ofConst) l
 | []=>by simp [af]
 | v::l=>by
  simp only[List.map_cons,af]
  exact⟨v,l,rfl,jk v,eN l⟩
theorem DV {fs:Array Field} {places:List (Nat×Nat)} (h:fs.toList.mapM (fun f=>(P.info? f.type).map fun i=>(f.offset,i.size))=some places) {i:Nat} {f:Field} (hf:fs[i]? =some f):
  ∃ti,P.info? f.type=some ti∧places.toArray[i]? =some (f.offset,ti.size):=by
 have Bq:fs.toList[i]? =some f:=by simpa using hf
 clear hf
 generalize fs.toList=l at h Bq
 induction l generalizing places i with
 | nil=>simp at Bq
 | cons g l ih=>
  simp only[List.mapM_cons,Option.bind_eq_bind,Option.pure_def] at h
  cases hi:P.info? g.type with
  | none=>simp [hi] at h
  | some ti=>
   cases hr:l.mapM (fun f=>(P.info? f.type).map fun i=>(f.offset,i.size)) with
   | none=>simp [hi,hr] at h
   | some rest=>
    simp [hi,hr] at h
    subst h
    cases i with
    | zero=>
     simp at Bq
     subst Bq
     exact⟨ti,hi,by simp⟩
    | succ i=>
     obtain⟨tj,h1,h2⟩:=ih hr (by simpa using Bq)
     exact⟨tj,h1,by simpa using h2⟩
theorem Ac {β:Env} {φ:Nat→List Nat} (hc:Core w0 S st.get st.obj β φ a.tmps w) {fs:Array Field} {places:List (Nat×Nat)}
  (hp:fs.toList.mapM (fun f=>(P.info? f.type).map fun i=>(f.offset,i.size))=some places):
  ∀(parts:List (Nat×Operand)) (cells:List SV) (cs:List SV) (vs:List Value),(kf P fs parts cells).val st.get st.obj=some cs→af w (Av st.obj β) β cells vs→(∀x∈vs,x.oneCell'=true)→
  ∃us:List Value,Instr.fill (places.toArray[·]?) vs.toArray (parts.map fun x=>(x.1,a.eval x.2))=some us.toArray∧af w (Av st.obj β) β cs us∧∀x∈us,x.oneCell'=true
 | [],cells,cs,vs,hb,hr,h1=>by
  simp only[kf,M.aa,Option.some.injEq] at hb
  subst hb
  exact⟨vs,by simp [Instr.fill],hr,h1⟩
 | (i,x)::rest,cells,cs,vs,hb,hr,h1=>by
  simp only[kf] at hb
  split at hb
  ·rename_i f hf
   simp only[M.ae,Option.bind_eq_some_iff] at hb
   obtain⟨s,hs,Ik,AZ,hb⟩:=hb
   cases hz:aY P f.type Ik.length && Nat.ble (f.offset+Ik.length) cells.length
   ·simp [hz] at hb
   simp only[hz,cond_true] at hb
   simp only[Bool.and_eq_true] at hz
   obtain⟨ti,Ga,La⟩:=DV hp hf
   obtain⟨M_,Gb,dB⟩:=aW hz.1
   rw[Ga] at Gb
   injection Gb with Gb
   subst Gb
   have hle:=Nat.le_of_ble_eq_true hz.2
   obtain⟨fB,bd⟩:=dQ (hc.ev hs) AZ
   have hlen:=af.length _ _ hr
   have BN:=af.length _ _ fB
   have bu:(a.eval x).cells.size=ti.size:=by simpa [dB] using BN
   have dT:f.offset+(a.eval x).cells.size≤vs.toArray.size:=by simp;omega
   have bG:af w (Av st.obj β) β (cells.take f.offset++(Ik++cells.drop (f.offset+Ik.length))) (vs.take f.offset++((a.eval x).cells.toList++vs.drop (f.offset+(a.eval x).cells.size))):=by
    refine af.append _ _ _ _ (af.take _ _ _ hr) (af.append _ _ _ _ fB ?_)
    have:Ik.length=(a.eval x).cells.size:=by simpa using BN.symm
    rw[this]
    exact af.drop _ _ _ hr
   obtain⟨us,kS,gl,mo⟩:=Ac hc hp rest _ cs _ hb bG (by
    intro y hy
    simp only[List.mem_append] at hy
    rcases hy with hy | hy | hy
    ·exact h1 y (List.mem_of_mem_take hy)
    ·exact bd y hy
    ·exact h1 y (List.mem_of_mem_drop hy))
   refine⟨us, ?_,gl,mo⟩
   simp only[List.map_cons]
   rw[kl (off:=f.offset) (by rw[bu];exact La) dT]
   simpa using kS
  ·simp at hb
theorem dA {f:Nat→SV} {h:Nat→Option aj} {t:TypeId} {z:List SV} (hz:(dM P t).val f h=some z):
  ∃i zv,P.info? t=some i∧i.zero=some zv∧z=zv.cells.toList.map ofConst∧∀x∈zv.cells.toList,x.oneCell'=true:=by
 unfold dM at hz
 split at hz
 ·rename_i i hi
  split at hz
  ·rename_i zv mV
   cases ha:zv.cells.toList.all (·.oneCell')
   ·simp [ha] at hz
   ·simp only[ha,cond_true,M.aa,Option.some.injEq] at hz
    exact⟨i,zv,hi,mV,hz.symm,fun x hx=>List.all_eq_true.1 ha x hx⟩
  ·simp at hz
 ·simp at hz
theorem B6 (hR:Rel w0 S st a w) (hd:∀d,o.dst=some d→bc st.n d) {t:TypeId} {parts:Array (Nat×Operand)} (ho:o.op= .build t parts) {fs:Array Field} {places:List (Nat×Nat)} {z cs:List SV}
  (hu:P.underlying t=some (.struct fs)) (hp:fs.toList.mapM (fun f=>(P.info? f.type).map fun i=>(f.offset,i.size))=some places)
  (hz:(dM P t).val st.get st.obj=some z) (hb:(kf P fs parts.toList z).val st.get st.obj=some cs) (he:e= {sv:= .agg cs}):Good P w0 S st o e a w:=by
 subst he
 refine ao hR hd rfl rfl fun β φ hc=> ?_
 obtain⟨i,zv,hi,mV,rfl,bd⟩:=dA hz
 obtain⟨us,kS,gl,mo⟩:=Ac hc hp parts.toList _ cs _ hb (eN zv.cells.toList) bd
 refine⟨.agg us.toArray, ?_,by unfold ak;exact⟨us,rfl,gl,mo⟩⟩
 have Hn:P.built t (parts.map fun x=>(x.1,a.eval x.2)).toList=some us.toArray:=by
  simp only[Program.built,hi,hu,mV,hp]
  simpa using kS
 have:=run_build (P:=P) w t (parts.map fun x=>(x.1,a.eval x.2)) us.toArray Hn
 simp [execOp,ho,this]
end
end Go.Proofs.YtnlkklmcfafgeaaGreat.Vm
namespace Go.Proofs.YtnlkklmcfafgeaaGreat.Vm
def Env.C0 (β:Env) (id b:Nat):Env:=⟨az β.cW id b,β.val,β.gI,β.nb⟩
def Env.fR (β:Env) (id:Nat) (v:Value):Env:=⟨β.cW,az β.val id v,β.gI,β.nb⟩
theorem mW {i:Nat} {m n:eZ} :bS i (m++n)=(bS i m && bS i n):=by
 induction m with
 | nil=>simp [bS]
 | cons x l ih=>obtain⟨j,q⟩:=x;simp [bS,ih,Bool.and_assoc]
theorem gL {m n:eZ} (h:aO (m++n)=true):aO m=true∧aO n=true∧∀x∈m,∀y∈n,x.1≠y.1:=by
 induction m with
 | nil=>exact⟨rfl,by simpa using h,by simp⟩
 | cons x l ih=>
  obtain⟨j,q⟩:=x
  simp only[List.cons_append,aO,mW,Bool.and_eq_true] at h
  obtain⟨h1,h2,h3⟩:=ih h.2
  refine⟨by simp [aO,h.1.1,h1],h2,fun x hx y hy=> ?_⟩
  rcases List.mem_cons.1 hx with rfl | hx
  ·exact fun e=>gC h.1.2 y hy e.symm
  ·exact h3 x hx y hy
section
variable {P:Program} {Γ:Ctx} {w0:World} {S:Own} {st:St} {o:Oper} {e:cJ} {a:Act} {w:World}
variable {f:Nat→SV} {h:Nat→Option aj} {β:Env} {φ:Nat→List Nat} {tm:Array Value}
theorem fX {m:eZ} {b:Nat} (hb:Av (fo (ai m) h) β b):Av h β b:=by
 induction m generalizing b with
 | nil=>exact hb
 | cons x l ih=>
  obtain⟨i,e',r,u⟩:=x
  rcases hb with ⟨j,ob,hj,br⟩ | hb
  case inr=>exact .inr hb
  simp only[ai,fo,az] at hj
  split at hj
  ·injection hj with hj
   subst hj
   simp [al] at br
  ·exact ih (.inl ⟨j,ob,hj,br⟩)
theorem dF (hc:Core w0 S f h β φ tm w) {m:eZ} (hm:bV h m) {x:Nat×List CT×List (List DC)×Bool} (hx:x∈m) {b:Nat} (hb:b∈eX h β x.1):¬Av (fo (ai m) h) β b:=by
 rintro (⟨j,ob,hj,br⟩ | fa)
 case inr=>
  obtain⟨o,dV,_⟩:=hm x hx
  rw[fj dV] at hb
  exact hc.Bc dV (ah (hc.ay _ _ dV) b hb) fa
 obtain⟨o,dV,_⟩:=hm x hx
 rw[fj dV] at hb
 have frozen:∀(l:eZ) (j:Nat),(∃y∈l,y.1=j)→∃e' r,fo (ai l) h j=some (.d_ e' r):=by
  intro l
  induction l with
  | nil=>rintro j ⟨y,hy,_⟩;simp at hy
  | cons z l ih=>
   obtain⟨i,e',r,u⟩:=z
   rintro j ⟨y,hy,rfl⟩
   simp only[ai,fo,az]
   by_cases Lj:y.1=i
   ·rw[if_pos Lj];exact⟨e',r,rfl⟩
   ·rw[if_neg Lj]
    rcases List.mem_cons.1 hy with rfl | hy
    ·exact absurd rfl Lj
    ·exact ih y.1 ⟨y,hy,rfl⟩
 by_cases BM:∃y∈m,y.1=j
 ·obtain⟨e',r,bP⟩:=frozen m j BM
  rw[bP] at hj
  injection hj with hj
  subst hj
  simp [al] at br
 ·have f_:h j=some ob:=by rw[bL (fun y hy e=>BM ⟨y,hy,e⟩)] at hj;exact hj
  have cM:x.1≠j:=fun e=>BM ⟨x,hx,e⟩
  exact hc.sep x.1 j _ _ cM dV f_ b (ah (hc.ay x.1 _ dV) b hb) (ah (hc.ay j _ f_) b br)
theorem dC (hc:Core w0 S f h β φ tm w) {ct:CT} {s:SV} {v:Value} {q:DC×eZ×Bool} (hs:ak w (Av h β) β s v) (hq:(eP ct s).val f h=some q):
  ∃fp,bY w ct q.1 v fp∧bV h q.2.1∧aO q.2.1=true∧(∀b∈fp,(¬Av h β b)∨∃x∈q.2.1,b∈eX h β x.1)∧
   (q.2.2=true→(∀b∈fp,∃x∈q.2.1,b∈φ x.1)∧fp.Nodup):=by
 have plain:∀(d:DC) (fr:Bool) (fp:List Nat),q=(d,[],fr)→bY w ct d v fp→(∀b∈fp,¬Av h β b)→(fr=true→fp=[])→
   ∃fp,bY w ct q.1 v fp∧bV h q.2.1∧aO q.2.1=true∧(∀b∈fp,(¬Av h β b)∨∃x∈q.2.1,b∈eX h β x.1)∧(q.2.2=true→(∀b∈fp,∃x∈q.2.1,b∈φ x.1)∧fp.Nodup):=by
  rintro d fr fp rfl hr cR bP
  refine⟨fp,hr,by simp [bV],rfl,fun b hb=> .inl (cR b hb),fun hf=> ?_⟩
  rw[bP hf]
  simp
 unfold eP at hq
 split at hq
 ·rename_i k n
  split at hq
  ·rename_i k'
   by_cases hk:k=k'
   ·subst hk
    simp only[decide_true,cond_true,M.aa,Option.some.injEq] at hq
    simp only[ak] at hs
    exact plain _ _ [] hq.symm (by unfold bY;exact⟨n,rfl,hs.1,hs.2,rfl⟩) (by simp) (by simp)
   ·simp [hk] at hq
  ·simp at hq
 ·split at hq
  ·simp only[M.aa,Option.some.injEq] at hq
   simp only[ak] at hs
   exact plain _ _ [] hq.symm (by unfold bY;exact⟨_,rfl,hs,rfl⟩) (by simp) (by simp)
  ·simp at hq
 ·split at hq
  ·simp only[M.aa,Option.some.injEq] at hq
   simp only[ak] at hs
   exact plain _ _ [] hq.symm (by unfold bY;exact⟨_,rfl,hs,rfl⟩) (by simp) (by simp)
  ·simp at hq
 ·split at hq
  ·simp only[M.aa,Option.some.injEq] at hq
   simp only[ak] at hs
   exact plain _ _ [] hq.symm (by unfold bY;exact⟨_,rfl,hs.1,hs.2,rfl⟩) (by simp) (by simp)
  ·simp at hq
 ·rename_i e' r
  split at hq
  ·rename_i Ez
   cases hb:aF e' Ez
   ·simp [hb] at hq
   ·simp only[hb,cond_true,M.aa,Option.some.injEq] at hq
    have:=aN _ _ hb
    subst this
    simp only[ak] at hs
    obtain⟨fp,hr,cR⟩:=hs
    exact plain _ _ fp hq.symm hr cR (by simp)
  ·simp at hq
 ·split at hq
  ·simp only[M.aa,Option.some.injEq] at hq
   simp only[ak] at hs
   subst hs
   exact plain _ _ [] hq.symm (j5 rfl (Nat.le_refl _) (Nat.zero_le _) (.inl ⟨rfl,rfl⟩)) (by simp) (by simp)
  ·simp at hq
 ·rename_i id
  split at hq
  ·rename_i e'
   simp only[ak] at hs
   obtain⟨hs,_⟩:=hs
   subst hs
   simp only[M.aT,Option.bind_eq_some_iff] at hq
   obtain⟨ob,aK,hq⟩:=hq
   split at hq
   ·rename_i t' Ez r fz u
    cases hb:aF Ez e'
    ·simp [hb] at hq
    ·simp only[hb,cond_true,M.aa,Option.some.injEq] at hq
     have:=aN _ _ hb
     subst this hq
     obtain⟨fp,h1,h2,h3⟩:=bn (hc.ay id _ aK)
     refine⟨fp,h1, ?_,rfl,fun b hb=> ?_,fun hu=>⟨fun b hb=>⟨_,List.mem_singleton.2 rfl,(h3 hu).1 b hb⟩,(h3 hu).2 (hc.fresh id _ aK).1⟩⟩
     ·intro x hx
      rw[List.mem_singleton] at hx
      subst hx
      exact⟨_,aK,.inl ⟨t',fz,rfl⟩⟩
     ·rcases h2 b hb with hx | hx
      ·exact .inr ⟨_,List.mem_singleton.2 rfl,by rw[fj aK];exact hx⟩
      ·exact .inl hx
   ·rename_i Ez r
    cases hb:aF Ez e'
    ·simp [hb] at hq
    ·simp only[hb,cond_true,M.aa,Option.some.injEq] at hq
     have:=aN _ _ hb
     subst this
     obtain⟨h1,_⟩:=hc.ay id _ aK
     simp only[ak] at h1
     obtain⟨fp,hr,cR⟩:=h1
     exact plain _ _ fp hq.symm hr cR (by simp)
   ·rename_i t' Ez ts r
    cases hb:aF Ez e'
    ·simp [hb] at hq
    ·simp only[hb,cond_true,M.aa,Option.some.injEq] at hq
     have:=aN _ _ hb
     subst this hq
     have LJ:AJ (.deep t' Ez ts r none) Ez r true:= .inr ⟨t',ts,rfl,rfl⟩
     obtain⟨fp,h1,h2,h3⟩:=Ay (hc.ay id _ aK) LJ
     refine⟨fp,h1, ?_,rfl,fun b hb=> ?_,fun hu=>⟨fun b hb=>⟨_,List.mem_singleton.2 rfl,(h3 hu).1 b hb⟩,(h3 hu).2 (hc.fresh id _ aK).1⟩⟩
     ·intro x hx
      rw[List.mem_singleton] at hx
      subst hx
      exact⟨_,aK,LJ⟩
     ·rcases h2 b hb with hx | hx
      ·exact .inr ⟨_,List.mem_singleton.2 rfl,by rw[fj aK];exact hx⟩
      ·exact .inl hx
   ·simp at hq
  ·simp at hq
 ·simp at hq
theorem fb {m n:eZ} (h1:bV h m) (h2:bV h n):bV h (m++n):=fun x hx=>by
 rcases List.mem_append.1 hx with hx | hx
 ·exact h1 x hx
 ·exact h2 x hx
theorem apart (hc:Core w0 S f h β φ tm w) {m n:eZ} (hm:bV h m) (hn:bV h n) (cM:∀x∈m,∀y∈n,x.1≠y.1) {p q:List Nat}
  (hp:∀b∈p,∃x∈m,b∈φ x.1) (hq:∀b∈q,∃x∈n,b∈φ x.1) (np:p.Nodup) (nq:q.Nodup):(p++q).Nodup:=by
 rw[List.nodup_append]
 refine⟨np,nq,fun b hb c g_ DN=> ?_⟩
 subst DN
 obtain⟨x,hx,ko⟩:=hp b hb
 obtain⟨y,hy,Bo⟩:=hq b g_
 obtain⟨_,h1,_⟩:=hm x hx
 obtain⟨_,h2,_⟩:=hn y hy
 exact hc.sep x.1 y.1 _ _ (cM x hx y hy) h1 h2 b ko Bo
theorem d6 (hc:Core w0 S f h β φ tm w):∀(bD:List CT) (bO:List SV) (vs:List Value) (q:List DC×eZ×Bool),af w (Av h β) β bO vs→(cg bD bO).val f h=some q→
  ∃fp,a9 w bD q.1 (fun j=>vs[j]?) fp∧bV h q.2.1∧(∀b∈fp,(¬Av h β b)∨∃x∈q.2.1,b∈eX h β x.1)∧
   (q.2.2=true→(∀b∈fp,∃x∈q.2.1,b∈φ x.1)∧(aO q.2.1=true→fp.Nodup))
 | [],[],vs,q,hs,hq=>by
  simp only[cg,M.aa,Option.some.injEq] at hq
  subst hq
  exact⟨[],by simp [a9],by simp [bV],by simp,by simp⟩
 | [],_::_,vs,q,hs,hq=>by simp [cg] at hq
 | _::_,[],vs,q,hs,hq=>by simp [cg] at hq
 | c::cs,s::ss,vs,q,hs,hq=>by
  simp only[af] at hs
  obtain⟨v,l,rfl,h1,h2⟩:=hs
  simp only[cg,M.ae,Option.bind_eq_some_iff,M.aa,Option.some.injEq] at hq
  obtain⟨q1,aG,q2,cz,rfl⟩:=hq
  obtain⟨f1,r1,m1,n1,a1,u1⟩:=dC hc h1 aG
  obtain⟨f2,r2,m2,a2,u2⟩:=d6 hc cs ss l q2 h2 cz
  refine⟨f1++f2, ?_,fb m1 m2, ?_, ?_⟩
  ·simp only[a9]
   exact⟨q1.1,q2.1,v,f1,f2,rfl,by simp,r1,by simpa using r2,rfl⟩
  ·intro b hb
   rcases List.mem_append.1 hb with hb | hb
   ·rcases a1 b hb with hx | ⟨x,hx,ko⟩
    ·exact .inl hx
    ·exact .inr ⟨x,List.mem_append_left _ hx,ko⟩
   ·rcases a2 b hb with hx | ⟨x,hx,ko⟩
    ·exact .inl hx
    ·exact .inr ⟨x,List.mem_append_right _ hx,ko⟩
  ·intro hu
   simp only[Bool.and_eq_true] at hu
   refine⟨fun b hb=> ?_,fun hn=> ?_⟩
   ·rcases List.mem_append.1 hb with hb | hb
    ·obtain⟨x,hx,ko⟩:=(u1 hu.1).1 b hb
     exact⟨x,List.mem_append_left _ hx,ko⟩
    ·obtain⟨x,hx,ko⟩:=(u2 hu.2).1 b hb
     exact⟨x,List.mem_append_right _ hx,ko⟩
   ·obtain⟨_,HC,cM⟩:=gL hn
    exact apart hc m1 m2 cM (u1 hu.1).1 (u2 hu.2).1 (u1 hu.1).2 ((u2 hu.2).2 HC)
theorem Core.create (hc:Core w0 S f h β φ tm w) {w':World} {β':Env} {id:Nat} {ob:aj} {Gv:List Nat} (hs:w.heap.size≤w'.heap.size) (hw:∀b,b<w.heap.size→w'.heap[b]? =w.heap[b]?)
  (hf:∀i,id ∉ bX (f i)) (ho:∀j o,h j=some o→id ∉ cF o) (hn:h id=none) (gm:∀j,j≠id→β'.val j=β.val j∧β'.cW j=β.cW j)
  (jc:∀b∈al β' id ob,w.heap.size≤b) (hE:fU w' (Av (az h id (some ob)) β') β' id ob Gv) (hnd:Gv.Nodup)
  (mJ:∀b∈Gv,((w0.heap.size≤b∨S b)∧b<w'.heap.size)∧∀j o,h j=some o→b ∉ φ j) (fa:β'.gI=β.gI:=by rfl) (jo:∀j,j≠id→β'.nb j=β.nb j:=by intro _ _;rfl):Core w0 S f (az h id (some ob)) β' (az φ id Gv) tm w':=by
 have iO:∀j o,j≠id→al β' j o=al β j o:=by
  intro j o hj
  cases o<;>simp [al,gm j hj,jo j hj]
 refine hc.mG (fun i=>i=id) hs (fun b hb _=>hw b hb) ?_ (fun i j hj e=>hf i (e ▸ hj)) gm ?_ ?_ fa
 ·rintro b (⟨j,oj,hj,br⟩ | hb)
  case inr=>exact .inl (.inr (fa ▸ hb))
  by_cases cf:j=id
  ·subst cf
   simp only[az,if_true,Option.some.injEq] at hj
   subst hj
   exact .inr (jc b br)
  ·simp only[az,cf,if_false] at hj
   rw[iO j oj cf] at br
   exact .inl (.inl ⟨j,oj,hj,br⟩)
 ·intro j oj hj
  by_cases cf:j=id
  ·subst cf
   simp only[az,if_true,Option.some.injEq] at hj
   subst hj
   exact .inr ⟨by simpa [az] using hE,by simpa [az] using hnd,fun b hb=>(mJ b (by simpa [az] using hb)).1⟩
  ·simp only[az,cf,if_false] at hj
   refine .inl ⟨cf,hj,jo j cf,by simp [az,cf],fun i hi e=>ho j oj hj (e ▸ hi),fun b hb=>hw b ?_⟩
   exact ((hc.fresh j oj hj).2 b (ah (hc.ay j oj hj) b hb)).2
 ·intro i j oi oj cM hi hj b hb
  by_cases lv:i=id
  ·subst lv
   have gy:j≠i:=Ne.symm cM
   simp only[az,gy,if_false] at hj
   simp only[az,if_true] at hb
   simp only[az,gy,if_false]
   exact (mJ b hb).2 j oj hj
  ·simp only[az,lv,if_false] at hi hb
   by_cases cf:j=id
   ·subst cf
    simp only[az,if_true]
    exact fun ax=>(mJ b ax).2 i oi hi hb
   ·simp only[az,cf,if_false] at hj ⊢
    exact hc.sep i j oi oj cM hi hj b hb
theorem af.beside {w':World} {β':Env} {id:Nat} {ob:aj} (hs:w.heap.size≤w'.heap.size) (hw:∀b,b<w.heap.size→w'.heap[b]? =w.heap[b]?)
  (gm:∀j,j≠id→β'.val j=β.val j∧β'.cW j=β.cW j) (jc:∀b∈al β' id ob,w.heap.size≤b) {ss:List SV} {vs:List Value} (hr:af w (Av h β) β ss vs) (hi:id ∉ bU ss) (fa:β'.gI=β.gI:=by rfl) (jo:∀j,j≠id→β'.nb j=β.nb j:=by intro _ _;rfl):
  af w' (Av (az h id (some ob)) β') β' ss vs:=by
 refine af.mono hs (fun b hb _=>hw b hb) ?_ ss vs hr (fun j hj=>gm j (fun e=>hi (e ▸ hj)))
 rintro b (⟨j,oj,hj,br⟩ | hb)
 case inr=>exact .inl (.inr (fa ▸ hb))
 by_cases cf:j=id
 ·subst cf
  simp only[az,if_true,Option.some.injEq] at hj
  subst hj
  exact .inr (jc b br)
 ·simp only[az,cf,if_false] at hj
  refine .inl (.inl ⟨j,oj,hj, ?_⟩)
  cases oj<;>simp only[al,gm j cf,jo j cf] at br ⊢ <;>exact br
structure bB (st:St) (d:Nat):Prop where
 slot:∀i,∀j∈bX (st.get i),j / 64≠d
 obj:∀j ob,st.obj j=some ob→j / 64≠d∧∀k∈cF ob,k / 64≠d
theorem cO (d k:Nat) (hk:k<64):ag d k / 64=d:=by unfold ag;omega
theorem Kept.alloc (hk:Kept S w0 w) (ob:Obj):Kept S w0 (w.alloc ob):=
 ⟨hk.os,hk.tape,hk.output,by have:=hk.size;simp;omega,fun k h1 h2=>(by show (w.heap.push ob)[k]? =_;rw[Array.getElem?_push,if_neg (by have:=hk.size;omega)];exact hk.block k h1 h2)⟩
theorem Kept.drew (hk:Kept S w0 w):Kept S w0 w.drew:=⟨hk.os,hk.tape,hk.output,hk.size,hk.block⟩
theorem cn (ob:Obj):(w.alloc ob).heap.size=w.heap.size+1:=by simp
theorem ec (ob:Obj):(w.alloc ob).heap[w.heap.size]? =some ob:=heap_alloc_new w ob
theorem alloc_old (ob:Obj) (b:Nat) (hb:b<w.heap.size):(w.alloc ob).heap[b]? =w.heap[b]? :=by
 show (w.heap.push ob)[b]? =_
 rw[Array.getElem?_push,if_neg (by omega)]
theorem kY (v:Value):bX (ofConst v)=[]:=by
 unfold ofConst
 split
 ·rfl
 ·cases BV _ _<;>rfl
 ·generalize Nat.ble _ _=c
  cases c<;>rfl
 ·rfl
 ·rfl
theorem jT:∀(l:List Value),bU (l.map ofConst)=[]
 | []=>rfl
 | v::l=>by simp [bU,kY,jT l]
theorem FI {d:Nat} (hf:bB st d) {x:Operand} {s:SV} (hx:(cd x).val st.get st.obj=some s):∀j∈bX s,j / 64≠d:=by
 have:=Dh hx
 subst this
 cases x with
 | tmp t=>exact hf.slot t
 | const v=>simp [Hd,kY]
 | global g=>intro j hj;simp [Hd,bX] at hj
 | func g=>intro j hj;simp [Hd,bX] at hj
theorem Ce {s:SV} {cs:List SV} (hc:(aD s).val f h=some cs):bU cs=bX s:=by
 cases s<;>simp [aD] at hc<;>subst hc<;>simp [bX,bU]
theorem j7 (hR:Rel w0 S st a w) {d:Nat} (aL:o.dst=some d) (hd:bc st.n d) (bP:bB st d) {t:TypeId} {cells:List SV} {vs:List Value}
  (bs:(execOp a.eval o).run P w= .ok (.value (.pointer (some ⟨w.heap.size,0,none⟩))) (w.alloc (.cells vs.toArray t)))
  (mh:∀β φ,Core w0 S st.get st.obj β φ a.tmps w→af w (Av st.obj β) β cells vs) (bd:∀x∈vs,x.oneCell'=true) (CD:∀j∈bU cells,j / 64≠d)
  (he:e= {sv:= .ptr (ag d 0) 0,ow:=[(ag d 0,some (.box t cells))]}):Good P w0 S st o e a w:=by
 subst he
 obtain⟨β,φ,hc⟩:=hR.core
 have bG:ag d 0 / 64=d:=cO d 0 (by omega)
 have gm:∀j,j≠ag d 0→(β.C0 (ag d 0) w.heap.size).val j=β.val j∧(β.C0 (ag d 0) w.heap.size).cW j=β.cW j:=by
  intro j hj
  exact⟨rfl,by simp [Env.C0,az,hj]⟩
 have jD:(β.C0 (ag d 0) w.heap.size).cW (ag d 0)=w.heap.size:=by simp [Env.C0,az]
 have jc:∀b∈al (β.C0 (ag d 0) w.heap.size) (ag d 0) (.box t cells),w.heap.size≤b:=by
  intro b hb
  simp only[al,jD,List.mem_singleton] at hb
  omega
 have hle:=hR.kept.size
 refine bM hR (fun d' h'=>by rw[aL] at h';injection h' with h';exact h' ▸ hd) bs (hR.kept.alloc _) ⟨β.C0 (ag d 0) w.heap.size,az φ (ag d 0) [w.heap.size], ?_, ?_⟩
 ·refine hc.create (by rw[cn];omega) (fun b hb=>alloc_old _ b hb) (fun i hi=>bP.slot i _ hi bG) (fun j ob hj hi=>(bP.obj j ob hj).2 _ hi bG) ?_ gm jc ?_ (by simp) ?_
  ·cases hn:st.obj (ag d 0) with
   | none=>rfl
   | some ob=>exact absurd bG (bP.obj _ ob hn).1
  ·refine⟨vs,by rw[jD];exact ec _, ?_,bd,by rw[jD]⟩
   exact af.beside (by rw[cn];omega) (fun b hb=>alloc_old _ b hb) gm jc (mh β φ hc) (fun hi=>CD _ hi bG)
  ·intro b hb
   rw[List.mem_singleton] at hb
   subst hb
   refine⟨⟨.inl hle,by rw[cn];omega⟩,fun j ob hj hb=> ?_⟩
   have:=((hc.fresh j ob hj).2 _ hb).2
   omega
 ·simp only[ak,jD]
theorem B5 (hR:Rel w0 S st a w) {d:Nat} (aL:o.dst=some d) (hd:bc st.n d) (bP:bB st d) {t:TypeId} (ho:o.op= .alloc t) {z:List SV} (hz:(dM P t).val st.get st.obj=some z)
  (he:e= {sv:= .ptr (ag d 0) 0,ow:=[(ag d 0,some (.box t z))]}):Good P w0 S st o e a w:=by
 obtain⟨i,zv,hi,mV,rfl,bd⟩:=dA hz
 refine j7 hR aL hd bP (vs:=zv.cells.toList) ?_ (fun β φ hc=>eN _) bd (by simp [jT]) he
 simp [execOp,ho,Instr.alloc,zeroValue,typeInfo,hi,mV,newVar,newRow]
theorem D4 (hR:Rel w0 S st a w) {d:Nat} (aL:o.dst=some d) (hd:bc st.n d) (bP:bB st d) {t:TypeId} {x:Operand} (ho:o.op= .box t x) {s:SV} {cs:List SV}
  (hx:(cd x).val st.get st.obj=some s) (fB:(aD s).val st.get st.obj=some cs)
  (he:e= {sv:= .ptr (ag d 0) 0,ow:=[(ag d 0,some (.box t cs))]}):Good P w0 S st o e a w:=by
 obtain⟨JD,JE,Ck⟩:=hR.core
 refine j7 hR aL hd bP (vs:=(a.eval x).cells.toList) ?_ (fun β φ hc=>(dQ (hc.ev hx) fB).1) (dQ (Ck.ev hx) fB).2 ?_ he
 ·simp [execOp,ho,Instr.box,newVar,newRow]
 ·rw[Ce fB]
  exact FI bP hx
end
end Go.Proofs.YtnlkklmcfafgeaaGreat.Vm
namespace Go.Proofs.YtnlkklmcfafgeaaGreat.Vm
section
variable {P:Program} {Γ:Ctx} {w0:World} {S:Own} {st:St} {o:Oper} {e:cJ} {a:Act} {w:World}
variable {f:Nat→SV} {h:Nat→Option aj} {β:Env} {φ:Nat→List Nat} {tm:Array Value}
theorem dO.cons {ct:List CT} {r:List DC} {l:List Value} {g:List Nat} {rows:List (List DC)} {vals:List Value} {aA:List (List Nat)} (h1:a9 w ct r (fun j=>l[j]?) g) (hl:l.length=ct.length)
  (h2:dO w ct rows vals aA):dO w ct (r::rows) (l++vals) (g::aA):=by
 refine⟨by simp [h2.1],fun i r' f' hi hf=> ?_⟩
 cases i with
 | zero=>
  simp at hi hf
  subst hi hf
  refine bn.a9.jV (fun j u hj=> ?_) h1
  simp only[Nat.zero_mul,Nat.zero_add]
  rw[List.getElem?_append_left (by have:=List.getElem?_eq_some_iff.1 hj;exact this.1)]
  exact hj
 | succ i=>
  have:=h2.2 i r' f' (by simpa using hi) (by simpa using hf)
  refine bn.a9.jV (fun j u hj=> ?_) this
  rw[List.getElem?_append_right (by rw[hl,Nat.succ_mul];omega)]
  rw[←hj]
  congr 1
  rw[hl,Nat.succ_mul]
  omega
theorem dO.nil {ct:List CT} {vals:List Value} :dO w ct [] vals []:=⟨rfl,by simp⟩
theorem dO.append {ct:List CT} {rows G3:List (List DC)} {vals AG:List Value} {aA FY:List (List Nat)} (h1:dO w ct rows vals aA) (hl:vals.length=rows.length*ct.length)
  (h2:dO w ct G3 AG FY):dO w ct (rows++G3) (vals++AG) (aA++FY):=by
 refine⟨by simp [h1.1,h2.1],fun i r f hi hf=> ?_⟩
 rcases Nat.lt_or_ge i rows.length with cr | ER
 ·rw[List.getElem?_append_left cr] at hi
  rw[List.getElem?_append_left (by rw[h1.1];exact cr)] at hf
  refine bn.a9.jV (fun j u hj=> ?_) (h1.2 i r f hi hf)
  rw[List.getElem?_append_left (by have:=List.getElem?_eq_some_iff.1 hj;exact this.1)]
  exact hj
 ·rw[List.getElem?_append_right ER] at hi
  rw[List.getElem?_append_right (by rw[h1.1];exact ER),h1.1] at hf
  refine bn.a9.jV (fun j u hj=> ?_) (h2.2 _ r f hi hf)
  have e1:i*ct.length+j=rows.length*ct.length+((i - rows.length)*ct.length+j):=by
   have:i*ct.length=rows.length*ct.length+(i - rows.length)*ct.length:=by rw[←Nat.add_mul];congr 1;omega
   omega
  rw[List.getElem?_append_right (by omega)]
  rw[←hj]
  congr 1
  omega
theorem dD {m:eZ} {j:Nat} {ob:aj} (hj:fo (ai m) h j=some ob):(h j=some ob)∨(∃e' r,ob= .d_ e' r∧∃y∈m,y.1=j):=by
 induction m with
 | nil=>exact .inl hj
 | cons x l ih=>
  obtain⟨i,e',r,u⟩:=x
  simp only[ai,fo,az] at hj
  split at hj
  ·rename_i gy
   injection hj with hj
   exact .inr ⟨e',r,hj.symm,_,List.mem_cons_self ..,gy.symm⟩
  ·rcases ih hj with h1 | ⟨Ez,r',h1,y,hy,h2⟩
   ·exact .inl h1
   ·exact .inr ⟨Ez,r',h1,y,List.mem_cons_of_mem _ hy,h2⟩
theorem gZ {m:eZ} {j:Nat} (BM:∃y∈m,y.1=j):bo φ m j=[]:=by
 induction m with
 | nil=>obtain⟨y,hy,_⟩:=BM;simp at hy
 | cons z l ih=>
  obtain⟨y,hy,rfl⟩:=BM
  simp only[bo,az]
  by_cases Lk:y.1=z.1
  ·rw[if_pos Lk]
  ·rw[if_neg Lk]
   rcases List.mem_cons.1 hy with rfl | hy
   ·exact absurd rfl Lk
   ·exact ih ⟨y,hy,rfl⟩
theorem fe (hR:Rel w0 S st a w) {d:Nat} (aL:o.dst=some d) (hd:bc st.n d) (bP:bB st d) {t:TypeId} {ct:List CT} {rows:List (List DC)} {fz u:Bool} {m:eZ} {w':World} {v:Value}
  (bs:(execOp a.eval o).run P w= .ok (.value v) w') (hk:Kept S w0 w') (hs:w.heap.size≤w'.heap.size) (hw:∀b,b<w.heap.size→w'.heap[b]? =w.heap[b]?)
  (hB:∀b∈v.ownBlock.toList,b=w.heap.size) (hm:bV st.obj m) (Bu:aO m=true) {vals:List Value} (aZ:cm w' t ct.length fz v rows.length vals)
  (de:∀β φ,Core w0 S st.get st.obj β φ a.tmps w→∃aA,dO w ct rows vals aA∧(∀b∈aA.flatten,(¬Av st.obj β b)∨∃x∈m,b∈eX st.obj β x.1)∧
   (u=true→(∀b∈aA.flatten,∃x∈m,b∈φ x.1)∧aA.flatten.Nodup))
  (fi:e.sv= .own (ag d 0)) (jG:e.cw=none) (how:e.ow=(ag d 0,some (.row t ct rows fz u))::ai m):Good P w0 S st o e a w:=by
 obtain⟨β,φ,hc⟩:=hR.core
 obtain⟨aA,de,cR,hu⟩:=de β φ hc
 have jF:=hc.gx m hm Bu
 have bG:ag d 0 / 64=d:=cO d 0 (by omega)
 have gm:∀j,j≠ag d 0→(β.fR (ag d 0) v).val j=β.val j∧(β.fR (ag d 0) v).cW j=β.cW j:=by
  intro j hj
  exact⟨by simp [Env.fR,az,hj],rfl⟩
 have hval:(β.fR (ag d 0) v).val (ag d 0)=v:=by simp [Env.fR,az]
 have jc:∀b∈al (β.fR (ag d 0) v) (ag d 0) (.row t ct rows fz u),w.heap.size≤b:=by
  intro b hb
  simp only[al,hval] at hb
  rw[hB b hb]
  exact Nat.le_refl _
 have cr:=de.lt
 have hle:=hR.kept.size
 have jC:∀b∈aA.flatten,¬Av (fo (ai m) st.obj) β b:=by
  intro b hb
  rcases cR b hb with h1 | ⟨x,hx,ko⟩
  ·exact fun h2=>h1 (fX h2)
  ·exact dF hc hm hx ko
 refine bM hR (fun d' h'=>by rw[aL] at h';injection h' with h';exact h' ▸ hd) bs hk
  ⟨β.fR (ag d 0) v,az (bo φ m) (ag d 0) (v.ownBlock.toList++(bif u then aA.flatten else [])), ?_, ?_⟩
 ·rw[how,jG]
  refine jF.create hs hw (fun i hi=>bP.slot i _ hi bG) (fun j ob hj hi=> ?_) ?_ gm jc ?_ ?_ ?_
  ·rcases dD hj with h1 | ⟨e',r,rfl,_⟩
   ·exact (bP.obj j ob h1).2 _ hi bG
   ·simp [cF] at hi
  ·cases hn:fo (ai m) st.obj (ag d 0) with
   | none=>rfl
   | some ob=>
    rcases dD hn with h1 | ⟨e',r,rfl,y,hy,h2⟩
    ·exact absurd bG (bP.obj _ ob h1).1
    ·obtain⟨_,h3,_⟩:=hm y hy
     rw[h2] at h3
     exact absurd bG (bP.obj _ _ h3).1
  ·refine⟨vals,aA,by rw[hval];exact aZ,de.mono hs (fun b hb=>hw b (cr b hb)),fun b hb hx=> ?_,by rw[hval]⟩
   rcases hx with ⟨j,oj,hj,br⟩ | hx
   case inr=>exact jC b hb (.inr hx)
   by_cases cf:j=ag d 0
   ·subst cf
    simp only[az,if_true,Option.some.injEq] at hj
    subst hj
    have:=jc b br
    have:=cr b hb
    omega
   ·simp only[az,cf,if_false] at hj
    refine jC b hb (.inl ⟨j,oj,hj, ?_⟩)
    cases oj<;>simp only[al,gm j cf] at br ⊢ <;>exact br
  ·have A2:v.ownBlock.toList.Nodup:=by cases v.ownBlock<;>simp
   cases u with
   | false=>simpa using A2
   | true=>
    rw[cond_true,List.nodup_append]
    refine⟨A2,(hu rfl).2,fun b hb c g_ DN=> ?_⟩
    have h1:=hB b hb
    have h2:=cr c g_
    omega
  ·intro b hb
   rcases List.mem_append.1 hb with hb | hb
   ·have h1:=hB b hb
    subst h1
    refine⟨⟨.inl hle, ?_⟩,fun j ob hj br=> ?_⟩
    ·have:=aZ.lt _ hb
     exact this
    ·have:=((jF.fresh j ob hj).2 _ br).2
     omega
   ·cases u with
    | false=>simp at hb
    | true=>
     simp only[cond_true] at hb
     obtain⟨x,hx,ko⟩:=(hu rfl).1 b hb
     obtain⟨_,h3,_⟩:=hm x hx
     have h4:=(hc.fresh x.1 _ h3).2 b ko
     refine⟨⟨h4.1,by omega⟩,fun j ob hj br=> ?_⟩
     by_cases BM:∃y∈m,y.1=j
     ·rw[gZ BM] at br
      simp at br
     ·have BO:∀y∈m,y.1≠j:=fun y hy e=>BM ⟨y,hy,e⟩
      rw[bL BO] at hj
      rw[cZ BO] at br
      exact hc.sep x.1 j _ _ (BO x hx) h3 hj b ko br
 ·rw[fi]
  unfold ak
  exact⟨hval.symm,aZ.one⟩
theorem Dc {ct:CT} {v:Value} {q:DC×eZ×Bool} (hq:(eP ct (ofConst v)).val f h=some q):q.2.1=[]∧q.2.2=true:=by
 unfold ofConst at hq
 split at hq
 ·simp only[eP] at hq
  split at hq<;>simp at hq
  subst hq;exact⟨rfl,rfl⟩
 ·rename_i k n
  cases hi:BV k n
  ·simp [hi,eP] at hq
  ·simp only[hi,cond_true,eP] at hq
   split at hq
   ·rename_i k'
    by_cases hk:k=k'
    ·simp [hk] at hq;subst hq;exact⟨rfl,rfl⟩
    ·simp [hk] at hq
   ·simp at hq
 ·generalize Nat.ble _ _=c at hq
  cases c
  ·simp [eP] at hq
  ·simp only[cond_true,eP] at hq
   split at hq<;>simp at hq
   subst hq;exact⟨rfl,rfl⟩
 ·simp only[eP] at hq
  split at hq<;>simp at hq
  subst hq;exact⟨rfl,rfl⟩
 ·simp [eP] at hq
theorem lg:∀(bD:List CT) (l:List Value) (q:List DC×eZ×Bool),(cg bD (l.map ofConst)).val f h=some q→q.2.1=[]∧q.2.2=true
 | [],[],q,hq=>by simp [cg] at hq;subst hq;exact⟨rfl,rfl⟩
 | [],_::_,q,hq=>by simp [cg] at hq
 | _::_,[],q,hq=>by simp [cg] at hq
 | c::cs,v::l,q,hq=>by
  simp only[List.map_cons,cg,M.ae,Option.bind_eq_some_iff,M.aa,Option.some.injEq] at hq
  obtain⟨q1,aG,q2,cz,rfl⟩:=hq
  obtain⟨h1,h2⟩:=Dc aG
  obtain⟨h3,h4⟩:=lg cs l q2 cz
  simp [h1,h2,h3,h4]
theorem cG:∀(bD:List CT) (l:List SV) (q:List DC×eZ×Bool),(cg bD l).val f h=some q→l.length=bD.length
 | [],[],q,hq=>rfl
 | [],_::_,q,hq=>by simp [cg] at hq
 | _::_,[],q,hq=>by simp [cg] at hq
 | c::cs,v::l,q,hq=>by
  simp only[cg,M.ae,Option.bind_eq_some_iff,M.aa,Option.some.injEq] at hq
  obtain⟨q1,aG,q2,cz,rfl⟩:=hq
  simp [cG cs l q2 cz]
theorem dO.replicate {ct:List CT} {r:List DC} {z:List Value} (h1:a9 w ct r (fun j=>z[j]?) []) (hl:z.length=ct.length):∀n,dO w ct (List.replicate n r) (List.replicate n z).flatten (List.replicate n [])
 | 0=>dO.nil
 | n+1=>by
  simp only[List.replicate_succ,List.flatten_cons]
  exact dO.cons h1 hl (dO.replicate h1 hl n)
theorem Dx (z:Array Value):∀n,(madeCells z (n*z.size)).toList=(List.replicate n z.toList).flatten:=by
 intro n
 apply List.ext_getElem?
 intro i
 simp only[madeCells]
 rcases Nat.eq_zero_or_pos z.size with h0 | hp
 ·have hz:z= #[]:=by simpa using h0
  subst hz
  simp
 ·rcases Nat.lt_or_ge i (n*z.size) with hi | hi
  ·have hr:(List.replicate n z.toList).flatten[i]? =z.toList[i % z.size]? :=by
    have key:∀n i,i<n*z.size→(List.replicate n z.toList).flatten[i]? =z.toList[i % z.size]? :=by
     intro n
     induction n with
     | zero=>intro i hi;simp at hi
     | succ n ih=>
      intro i hi
      simp only[List.replicate_succ,List.flatten_cons]
      rcases Nat.lt_or_ge i z.size with h1 | h1
      ·rw[List.getElem?_append_left (by simpa using h1),Nat.mod_eq_of_lt h1]
      ·rw[List.getElem?_append_right (by simpa using h1)]
       have h2:i - z.toList.length<n*z.size:=by simp;rw[Nat.succ_mul] at hi;omega
       rw[ih _ h2]
       congr 1
       simp only[Array.length_toList]
       rw[←Nat.mod_eq_sub_mod h1]
    exact key n i hi
   rw[hr]
   have hm:i % z.size<z.size:=Nat.mod_lt _ hp
   simp [hi,hm]
  ·rw[List.getElem?_eq_none (by simp;omega),List.getElem?_eq_none (by simp;omega)]
theorem C9 (hR:Rel w0 S st a w) {d:Nat} (aL:o.dst=some d) (hd:bc st.n d) (bP:bB st d) {t et:TypeId} {l c:Operand} (ho:o.op= .makeSlice t l c) {n m:Int} {ct:List CT} {i:TypeInfo} {z:List SV} {r:List DC×eZ×Bool}
  (hl:(cd l).val st.get st.obj=some (.int .i64 n)) (hm:(cd c).val st.get st.obj=some (.int .i64 m)) (hu:P.underlying t=some (.slice et)) (hi:P.info? et=some i) (dB:i.size=ct.length)
  (hz:(dM P et).val st.get st.obj=some z) (hr:(cg ct z).val st.get st.obj=some r)
  (he:e= {sv:= .own (ag d 0),ow:=[(ag d 0,some (.row et ct (List.replicate n.toNat r.1) false true))],ok:=decide (0≤n) && decide (n≤m) && decide (m.toNat*i.bytes≤140737488355328) && decide (m≤9223372036854775807)})
  (aJ:e.ok=true):Good P w0 S st o e a w:=by
 subst he
 simp only[Bool.and_eq_true,decide_eq_true_eq] at aJ
 obtain⟨⟨⟨h0,I5⟩,Bo⟩,JV⟩:=aJ
 obtain⟨i',zv,dU,mV,rfl,bd⟩:=dA hz
 rw[hi] at dU
 injection dU with dU
 subst dU
 obtain⟨kt,Kt⟩:=lg _ _ _ hr
 have jO:zv.cells.toList.length=ct.length:=by simpa using cG _ _ _ hr
 have EZ:(madeCells zv.cells (m.toNat*i.size)).toList=(List.replicate m.toNat zv.cells.toList).flatten:=by
  have:=Dx zv.cells m.toNat
  rw[dB,←jO]
  simpa using this
 obtain⟨JD,JE,Ck⟩:=hR.core
 have hx:=Ck.ev hl
 have hy:=Ck.ev hm
 simp only[ak] at hx hy
 have hb:(i.bytes:Int)*m≤281474976710656:=by
  have h1:((m.toNat*i.bytes:Nat):Int)≤140737488355328:=by omega
  rw[Int.natCast_mul,Int.toNat_of_nonneg (by omega),Int.mul_comm] at h1
  omega
 have bs:=run_make (P:=P) w t et i zv hu hi mV .i64 .i64 n m h0 I5 hb JV
 refine fe hR aL hd bP (m:=[]) (fz:=false) (u:=true) (vals:=(List.replicate n.toNat zv.cells.toList).flatten) (v:= .slice (some ⟨w.heap.size,0,none⟩) n.toNat m.toNat)
  (w':=w.alloc (.cells (madeCells zv.cells (m.toNat*i.size)) et)) ?_ (hR.kept.alloc _) (by rw[cn];omega) (fun b hb=>alloc_old _ b hb) (by simp [Value.ownBlock]) (by simp [bV]) rfl ?_ ?_ rfl rfl rfl
 ·simp [execOp,ho,hx.1,hy.1,bs]
 ·refine⟨by simp [jO],.inr ⟨w.heap.size,m.toNat,_,by simp,by simpa using ec _,by simp;omega,by simp only[maxLen];omega,by rw[size_madeCells,dB], ?_⟩⟩
  rw[EZ]
  have:List.replicate m.toNat zv.cells.toList=List.replicate n.toNat zv.cells.toList++List.replicate (m.toNat - n.toNat) zv.cells.toList:=by
   rw[List.replicate_append_replicate]
   congr 1
   omega
  rw[this,List.flatten_append,List.take_append_of_le_length (by simp [jO]),List.take_of_length_le (by simp [jO])]
 ·intro β φ hc
  obtain⟨fp,ka,_,_,Bs⟩:=d6 hc ct _ _ r (eN zv.cells.toList) hr
  have KR:fp=[]:=by
   have:=(Bs Kt).1
   cases fp with
   | nil=>rfl
   | cons b l=>
    obtain⟨x,hx,_⟩:=this b (List.mem_cons_self ..)
    rw[kt] at hx
    simp at hx
  subst KR
  refine⟨List.replicate n.toNat [],dO.replicate ka jO n.toNat, ?_, ?_⟩
  ·intro b hb
   simp at hb
  ·intro _
   constructor
   ·intro b hb;simp at hb
   ·have:(List.replicate n.toNat ([]:List Nat)).flatten=[]:=by simp
    rw[this]
    simp
theorem fM (hc:Core w0 S st.get st.obj β φ a.tmps w) {ct:List CT} :∀(parts:List (Nat×Operand)) (k:Nat) (q:List (List DC)×eZ×Bool),(ek ct k parts).val st.get st.obj=some q→
  ∃(vals:List Value) (aA:List (List Nat)),vals.length=parts.length*ct.length∧q.1.length=parts.length∧(∀x∈vals,x.oneCell'=true)∧dO w ct q.1 vals aA∧bV st.obj q.2.1∧
   (∀b∈aA.flatten,(¬Av st.obj β b)∨∃x∈q.2.1,b∈eX st.obj β x.1)∧(q.2.2=true→(∀b∈aA.flatten,∃x∈q.2.1,b∈φ x.1)∧(aO q.2.1=true→aA.flatten.Nodup))∧
   ∀(pre suf:List Value),pre.length=k*ct.length→suf.length=parts.length*ct.length→
    Instr.fill (fun i=>some (i*ct.length,ct.length)) (pre++suf).toArray (parts.map fun x=>(x.1,a.eval x.2))=some (pre++vals).toArray
 | [],k,q,hq=>by
  simp only[ek,M.aa,Option.some.injEq] at hq
  subst hq
  refine⟨[],[],by simp,rfl,by simp,dO.nil,by simp [bV],by simp,by simp,fun pre suf h1 h2=> ?_⟩
  have:suf=[]:=by simpa using h2
  subst this
  simp [Instr.fill]
 | (i,x)::rest,k,q,hq=>by
  simp only[ek] at hq
  cases D9:Nat.beq i k
  ·simp [D9] at hq
  have D9:=Nat.eq_of_beq_eq_true D9
  subst D9
  simp only[Nat.beq_refl,cond_true,M.ae,Option.bind_eq_some_iff,M.aa,Option.some.injEq] at hq
  obtain⟨s,hs,cs,fB,r,hr,q2,cz,rfl⟩:=hq
  obtain⟨fi,bd⟩:=dQ (hc.ev hs) fB
  have Bp:=cG _ _ _ hr
  have A6:=af.length _ _ fi
  have bu:(a.eval x).cells.size=ct.length:=by simpa [Bp] using A6
  obtain⟨fp,ka,F6,GD,GU⟩:=d6 hc ct cs _ r fi hr
  obtain⟨vals,aA,j_,IU,I7,jH,Dp,DM,DT,CA⟩:=fM hc rest (i+1) q2 cz
  refine⟨(a.eval x).cells.toList++vals,fp::aA, ?_,by simp [IU], ?_,dO.cons ka (by simpa using bu) jH,fb F6 Dp, ?_, ?_, ?_⟩
  ·simp only[List.length_append,j_,List.length_cons,Array.length_toList,bu,Nat.succ_mul]
   omega
  ·intro y hy
   rcases List.mem_append.1 hy with hy | hy
   ·exact bd y hy
   ·exact I7 y hy
  ·intro b hb
   simp only[List.flatten_cons,List.mem_append] at hb
   rcases hb with hb | hb
   ·rcases GD b hb with h1 | ⟨y,hy,h1⟩
    ·exact .inl h1
    ·exact .inr ⟨y,List.mem_append_left _ hy,h1⟩
   ·rcases DM b hb with h1 | ⟨y,hy,h1⟩
    ·exact .inl h1
    ·exact .inr ⟨y,List.mem_append_right _ hy,h1⟩
  ·intro hu
   simp only[Bool.and_eq_true] at hu
   refine⟨fun b hb=> ?_,fun hn=> ?_⟩
   ·simp only[List.flatten_cons,List.mem_append] at hb
    rcases hb with hb | hb
    ·obtain⟨y,hy,h1⟩:=(GU hu.1).1 b hb
     exact⟨y,List.mem_append_left _ hy,h1⟩
    ·obtain⟨y,hy,h1⟩:=(DT hu.2).1 b hb
     exact⟨y,List.mem_append_right _ hy,h1⟩
   ·obtain⟨JW,HC,cM⟩:=gL hn
    simp only[List.flatten_cons]
    exact apart hc F6 Dp cM (GU hu.1).1 (DT hu.2).1 ((GU hu.1).2 JW) ((DT hu.2).2 HC)
  ·intro pre suf h1 h2
   simp only[List.length_cons,Nat.succ_mul] at h2
   simp only[List.map_cons]
   rw[kl (off:=i*ct.length) (by rw[bu]) (by simp [h1,bu];omega)]
   have e1:((pre++suf).toArray.toList.take (i*ct.length)++((a.eval x).cells.toList++(pre++suf).toArray.toList.drop (i*ct.length+(a.eval x).cells.size)))=(pre++(a.eval x).cells.toList)++suf.drop ct.length:=by
    simp only[bu,←h1]
    simp [List.drop_append]
   rw[e1,CA (pre++(a.eval x).cells.toList) (suf.drop ct.length) (by simp [h1,bu,Nat.succ_mul]) (by simp [h2])]
   simp
theorem kG (hR:Rel w0 S st a w) {d:Nat} (aL:o.dst=some d) (hd:bc st.n d) (bP:bB st d) {t et:TypeId} {len:Nat} {parts:Array (Nat×Operand)} (ho:o.op= .buildSlice t len parts) {ct:List CT} {q:List (List DC)×eZ×Bool}
  (hu:P.underlying t=some (.slice et)) (dB:aY P et ct.length=true) (jK:0<ct.length) (hlen:len=parts.toList.length) (Ji:len*ct.length≤16777216)
  (hq:(ek ct 0 parts.toList).val st.get st.obj=some q) (hz:∃z,(dM P et).val st.get st.obj=some z) (hn:aO q.2.1=true)
  (he:e= {sv:= .own (ag d 0),ow:=(ag d 0,some (.row et ct q.1 false q.2.2))::ai q.2.1}):Good P w0 S st o e a w:=by
 subst he
 obtain⟨i,hi,bu⟩:=aW dB
 obtain⟨JD,JE,Ck⟩:=hR.core
 obtain⟨vals,_,A6,F_,bd,_,hm,_,_,kS⟩:=fM Ck parts.toList 0 q hq
 obtain⟨z,hz⟩:=hz
 obtain⟨i',zv,dU,mV,_,_⟩:=dA hz
 rw[hi] at dU
 injection dU with dU
 subst dU
 have hle:len≤maxLen:=by
  have:len≤len*ct.length:=Nat.le_mul_of_pos_right _ jK
  simp only[maxLen]
  omega
 have bs:(Instr.buildSlice t len (parts.map fun x=>(x.1,a.eval x.2))).run P w= .ok (.slice (some ⟨w.heap.size,0,none⟩) len len) (w.alloc (.cells vals.toArray et)):=by
  rcases Nat.eq_zero_or_pos len with h0 | h0
  ·have hp:parts= #[]:=by
    have:parts.toList.length=0:=by omega
    simpa using this
   have hv:vals=[]:=by
    have:vals.length=0:=by rw[A6,←hlen,h0,Nat.zero_mul]
    simpa using this
   subst hp hv h0
   simp [Instr.buildSlice,run_underlying hu,sizeOf,typeInfo,hi,Instr.fill,newRow,Array.range_zero']
  ·refine run_buildSlice (P:=P) w t et len _ vals.toArray i zv hu hi mV (by rw[bu];omega) (by rw[bu];exact Nat.ne_of_gt (Nat.mul_pos h0 jK)) ?_
   have:=kS [] ((Array.range (len*ct.length)).map (zv.cells[· % zv.cells.size]!)).toList (by simp) (by simp [hlen])
   rw[bu]
   generalize (Array.range (len*ct.length)).map (zv.cells[· % zv.cells.size]!)=A at this ⊢
   simpa using this
 refine fe hR aL hd bP (m:=q.2.1) (fz:=false) (u:=q.2.2) (vals:=vals) (v:= .slice (some ⟨w.heap.size,0,none⟩) len len) (w':=w.alloc (.cells vals.toArray et)) ?_ (hR.kept.alloc _)
  (by rw[cn];omega) (fun b hb=>alloc_old _ b hb) (by simp [Value.ownBlock]) hm hn ?_ ?_ rfl rfl rfl
 ·simp [execOp,ho,bs]
 ·refine⟨by rw[A6,F_],.inr ⟨w.heap.size,len,vals.toArray,by rw[F_,←hlen],by simpa using ec _,by rw[F_,←hlen];exact Nat.le_refl _,hle,by simp [A6,hlen], ?_⟩⟩
  rw[F_,←A6]
  simp
 ·intro β φ hc
  obtain⟨AG,aA,MP,MI,mo,de,KG,cR,gK,Hr⟩:=fM hc parts.toList 0 q hq
  have MR:AG=vals:=by
   have h1:=kS [] (List.replicate (parts.toList.length*ct.length) undef) (by simp) (by simp)
   have h2:=Hr [] (List.replicate (parts.toList.length*ct.length) undef) (by simp) (by simp)
   rw[h1] at h2
   simpa using h2.symm
  subst MR
  exact⟨aA,de,cR,fun h=>⟨(gK h).1,(gK h).2 hn⟩⟩
end
end Go.Proofs.YtnlkklmcfafgeaaGreat.Vm
namespace Go.Proofs.YtnlkklmcfafgeaaGreat.Vm
theorem bR (P:Program) (g o:Nat) (t:TypeId) (fz:Nat×Nat):∀(vs:List Value) (i:Nat) (cur:Array Value) (w:World),w.heap[g]? =some (.cells cur t fz)→(∀j,j<cur.size→¬(fz.1≤j∧j<fz.2))→
  o+i+vs.length≤cur.size→(∀v∈vs,v.oneCell'=true)→
  (storeCells ⟨g,o,none⟩ vs i).run P w= .ok () (w.setRow g (cur.toList.take (o+i)++(vs++cur.toList.drop (o+i+vs.length))).toArray)
 | [],i,cur,w,hg,_,_,_=>by
  simp only[storeCells,List.nil_append,List.length_nil,Nat.add_zero,List.take_append_drop,Array.toArray_toList]
  rw[setRow_self w g cur t fz hg]
  rfl
 | v::rest,i,cur,w,hg,hfz,hl,h1=>by
  have hi:o+i<cur.size:=by simp at hl;omega
  have hcell:w.cell? ⟨g,o+i,none⟩=some cur[o+i]:=by simp [World.cell?,hg,hi]
  have Ks:w.frozen? ⟨g,o+i,none⟩=false:=by
   have:=hfz (o+i) hi
   obtain⟨lo,dU⟩:=fz
   simp only[World.frozen?,hg,Bool.and_eq_false_iff,decide_eq_false_iff_not]
   simp only at this
   omega
  have hX:(store ((⟨g,o,none⟩:Addr).add i) v).run P w= .ok () (w.setRow g (cur.setIfInBounds (o+i) v)):=by
   rw[dt,run_store P w _ v _ (h1 v (by simp)),hcell]
   simp [Ks,setCell_eq_setRow w g (o+i) cur t fz v hg]
  have ih:=bR P g o t fz rest (i+1) (cur.setIfInBounds (o+i) v) (w.setRow g (cur.setIfInBounds (o+i) v)) (setRow_heap w g cur _ t _ hg) (by simpa using hfz) (by simp at hl ⊢;omega) (fun x hx=>h1 x (by simp [hx]))
  simp only[storeCells,Sem.run_bind,hX,Result.andThen_ok,ih,setRow_setRow]
  congr 3
  have:=list_seg_step cur.toList (o+i) v rest (by simp at hl ⊢;omega)
  simp only[Array.toList_setIfInBounds,List.length_cons]
  rw[←Nat.add_assoc]
  simpa [List.append_assoc] using this
theorem a9.split {w:World} :∀(AP ll:List CT) (r:List DC) (f:Nat→Option Value) (fp:List Nat),a9 w (AP++ll) r f fp→
  ∃lG gw,a9 w AP (r.take AP.length) f lG∧a9 w ll (r.drop AP.length) (fun j=>f (AP.length+j)) gw∧fp=lG++gw
 | [],ll,r,f,fp,h=>⟨[],fp,by simp [a9],by simpa using h,rfl⟩
 | c::cs,ll,r,f,fp,h=>by
  simp only[List.cons_append,a9] at h
  obtain⟨d,r',v,f1,f2,rfl,h0,h1,h2,rfl⟩:=h
  obtain⟨p1,p2,e1,e2,rfl⟩:=a9.split cs ll r' _ f2 h2
  refine⟨f1++p1,p2, ?_, ?_,by simp⟩
  ·simp only[List.length_cons,List.take_succ_cons,a9]
   exact⟨d,_,v,f1,p1,rfl,h0,h1,e1,rfl⟩
  ·simp only[List.length_cons,List.drop_succ_cons]
   have:∀j,cs.length+1+j=cs.length+j+1:=by intro j;omega
   simpa only[this] using e2
theorem a9.join {w:World} :∀(AP ll:List CT) (r1 r2:List DC) (f:Nat→Option Value) (lG gw:List Nat),a9 w AP r1 f lG→a9 w ll r2 (fun j=>f (AP.length+j)) gw→
  a9 w (AP++ll) (r1++r2) f (lG++gw)
 | [],ll,r1,r2,f,lG,gw,h1,h2=>by
  simp only[a9] at h1
  obtain⟨rfl,rfl⟩:=h1
  simpa using h2
 | c::cs,ll,r1,r2,f,lG,gw,h1,h2=>by
  simp only[a9] at h1
  obtain⟨d,r',v,f1,f2,rfl,h0,h3,h4,rfl⟩:=h1
  simp only[List.cons_append,a9]
  refine⟨d,r'++r2,v,f1,f2++gw,rfl,h0,h3,a9.join cs ll r' r2 _ f2 gw h4 ?_,by simp⟩
  have:∀j,(c::cs).length+j=cs.length+j+1:=by intro j;simp only[List.length_cons];omega
  simpa only[this] using h2
section
variable {P:Program} {Γ:Ctx} {w0:World} {S:Own} {st:St} {o:Oper} {e:cJ} {a:Act} {w:World}
variable {f:Nat→SV} {h:Nat→Option aj} {β:Env} {φ:Nat→List Nat} {tm:Array Value}
theorem Kept.setRow (hk:Kept S w0 w) {g:Nat} (hg:w0.heap.size≤g∨S g) (cs:Array Value):Kept S w0 (w.setRow g cs):=
 ⟨hk.os,hk.tape,hk.output,by simpa using hk.size,fun k h1 h2=>by
  rw[setRow_other w g k cs (fun e=>by subst e;rcases hg with h | h;omega;exact h2 h)]
  exact hk.block k h1 h2⟩
theorem Core.rewrite (hc:Core w0 S f h β φ tm w) {id:Nat} {ob Fx:aj} {g:Nat} {cs:Array Value} {Gv:List Nat} (dV:h id=some ob) (hg:g∈al β id ob) (ht:∀b∈al β id Fx,b∈al β id ob)
  (hE:fU (w.setRow g cs) (Av (az h id (some Fx)) β) β id Fx Gv) (hnd:Gv.Nodup) (mJ:∀b∈Gv,((w0.heap.size≤b∨S b)∧b<w.heap.size)∧∀j o,j≠id→h j=some o→b ∉ φ j):
  Core w0 S f (az h id (some Fx)) β (az φ id Gv) tm (w.setRow g cs):=by
 have CC:=ah (hc.ay id ob dV) g hg
 refine hc.step (fun _=>False) (by simp) (fun b _ hb=>setRow_other w g b cs (fun e=>hb (e ▸ .inl ⟨id,ob,dV,hg⟩))) ?_ (fun _ _ _ h=>h) (fun _ _=>⟨rfl,rfl⟩) ?_ ?_
 ·rintro b (⟨j,oj,hj,br⟩ | hb)
  case inr=>exact .inl (.inr hb)
  by_cases cf:j=id
  ·subst cf
   simp only[az,if_true,Option.some.injEq] at hj
   subst hj
   exact .inl (.inl ⟨j,ob,dV,ht b br⟩)
  ·simp only[az,cf,if_false] at hj
   exact .inl (.inl ⟨j,oj,hj,br⟩)
 ·intro j oj hj
  by_cases cf:j=id
  ·subst cf
   simp only[az,if_true,Option.some.injEq] at hj
   subst hj
   exact .inr ⟨by simpa [az] using hE,by simpa [az] using hnd,fun b hb=>by simpa using (mJ b (by simpa [az] using hb)).1⟩
  ·simp only[az,cf,if_false] at hj
   refine .inl ⟨fun h=>h,hj,by simp [az,cf],fun _ _ h=>h,fun b hb=>setRow_other w g b cs (fun e=> ?_)⟩
   subst e
   exact hc.sep id j _ _ (Ne.symm cf) dV hj b CC (ah (hc.ay j oj hj) b hb)
 ·intro i j oi oj cM hi hj b hb
  by_cases lv:i=id
  ·subst lv
   have gy:j≠i:=Ne.symm cM
   simp only[az,gy,if_false] at hj
   simp only[az,if_true] at hb
   simp only[az,gy,if_false]
   exact (mJ b hb).2 j oj gy hj
  ·simp only[az,lv,if_false] at hi hb
   by_cases cf:j=id
   ·subst cf
    simp only[az,if_true]
    exact fun ax=>(mJ b ax).2 i oi lv hi hb
   ·simp only[az,cf,if_false] at hj ⊢
    exact hc.sep i j oi oj cM hi hj b hb
theorem lV {id:Nat} {ob Fx:aj} (dV:h id=some ob) (ht:∀b∈al β id Fx,b∈al β id ob) {b:Nat} (hb:Av (az h id (some Fx)) β b):Av h β b:=by
 rcases hb with ⟨j,oj,hj,br⟩ | hb
 case inr=>exact .inr hb
 by_cases cf:j=id
 ·subst cf
  simp only[az,if_true,Option.some.injEq] at hj
  subst hj
  exact .inl ⟨j,ob,dV,ht b br⟩
 ·simp only[az,cf,if_false] at hj
  exact .inl ⟨j,oj,hj,br⟩
theorem iu {t:TypeId} {b off:Nat} {x:Value} {i:TypeInfo} (hi:P.info? t=some i) (dB:i.size=x.cells.size) {w':World} (bs:(storeCells ⟨b,off,none⟩ x.cells.toList 0).run P w= .ok () w'):
  (Instr.storeAt t (.pointer (some ⟨b,off,none⟩)) x).run P w= .ok () w':=by
 simp [Instr.storeAt,Instr.sureAddr,storeVar,sizeOf,typeInfo,hi,dB,bs]
theorem Aa {av:Nat→Prop} {cells bO:List SV} {vs us:List Value} {off:Nat} (h1:af w av β cells vs) (h2:af w av β bO us) (hl:us.length=bO.length):
  af w av β (cI cells off bO) (vs.take off++(us++vs.drop (off+us.length))):=by
 unfold cI
 refine af.append _ _ _ _ (af.take _ _ _ h1) (af.append _ _ _ _ h2 ?_)
 rw[hl]
 exact af.drop _ _ _ h1
theorem lA (hR:Rel w0 S st a w) (hd:∀d,o.dst=some d→bc st.n d) {t t':TypeId} {x y:Operand} (ho:o.op= .store t x y) {id off:Nat} {sy:SV} {bO cells:List SV}
  (h1:(cd x).val st.get st.obj=some (.ptr id off)) (h2:(cd y).val st.get st.obj=some sy) (fB:(aD sy).val st.get st.obj=some bO) (dB:aY P t bO.length=true)
  (aK:st.obj id=some (.box t' cells)) (dT:off+bO.length≤cells.length) (he:e= {sv:= .undef,cw:=some (id,off,bO)}):Good P w0 S st o e a w:=by
 subst he
 obtain⟨i,hi,bu⟩:=aW dB
 obtain⟨β,φ,hc⟩:=hR.core
 have hx:=hc.ev h1
 simp only[ak] at hx
 obtain⟨fi,bd⟩:=dQ (hc.ev h2) fB
 obtain⟨vs,hh,hr,mo,kz⟩:=hc.ay id _ aK
 have hl:=af.length _ _ hr
 have j_:=af.length _ _ fi
 have mQ:(a.eval y).cells.size=bO.length:=by simpa using j_
 have bs:=bR P (β.cW id) off t' (0,0) (a.eval y).cells.toList 0 vs.toArray w hh (by simp) (by simp;omega) bd
 simp only[Nat.add_zero] at bs
 have Mo:fc (some (id,off,bO)) st.obj=az st.obj id (some (.box t' (cI cells off bO))):=by simp only[fc,aK]
 have GS:=hc.fresh id _ aK
 have cR:∀b,Av (az st.obj id (some (.box t' (cI cells off bO)))) β b→Av st.obj β b:=fun b hb=>lV aK (by simp [al]) hb
 have GO:∀(ss:List SV) (us:List Value),af w (Av st.obj β) β ss us→∀cs,af (w.setRow (β.cW id) cs) (Av (az st.obj id (some (.box t' (cI cells off bO)))) β) β ss us:=by
  intro ss us HN cs
  exact af.mono (by simp) (fun b _ hb=>setRow_other w _ b cs (fun e=>hb (e ▸ .inl ⟨id,_,aK,by simp [al]⟩))) (fun b hb=> .inl (cR b hb)) ss us HN (fun _ _=>⟨rfl,rfl⟩)
 refine iB hR hd (w':=w.setRow (β.cW id) (vs.take off++((a.eval y).cells.toList++vs.drop (off+(a.eval y).cells.toList.length))).toArray) ?_ (hR.kept.setRow (GS.2 (β.cW id) (by rw[kz];simp)).1 _) ⟨β,az φ id [β.cW id], ?_,by simp [ak]⟩
 ·simp [execOp,ho,hx,iu hi (bu.trans mQ.symm) bs]
 ·show Core w0 S st.get (fo [] (fc (some (id,off,bO)) st.obj)) _ _ _ _
  simp only[fo,Mo]
  refine hc.rewrite aK (by simp [al]) (by simp [al]) ?_ (by simp) ?_
  ·refine⟨_,setRow_heap w _ _ _ _ _ hh,Aa (GO _ _ hr _) (GO _ _ fi _) j_, ?_,rfl⟩
   intro z hz
   simp only[List.mem_append] at hz
   rcases hz with hz | hz | hz
   ·exact mo z (List.mem_of_mem_take hz)
   ·exact bd z hz
   ·exact mo z (List.mem_of_mem_drop hz)
  ·intro b hb
   have ax:b∈φ id:=by rw[kz];exact hb
   exact⟨GS.2 b ax,fun j oj hj ja=>hc.sep id j _ _ (Ne.symm hj) aK ja b ax⟩
theorem bW {aA:List (List Nat)} {i:Nat} (hi:i<aA.length) (x:List Nat):(aA.set i x).flatten=(aA.take i).flatten++(x++(aA.drop (i+1)).flatten):=by
 rw[List.set_eq_take_append_cons_drop,if_pos hi]
 simp
theorem bw {aA:List (List Nat)} {i:Nat} (hi:i<aA.length):aA.flatten=(aA.take i).flatten++(aA[i]++(aA.drop (i+1)).flatten):=by
 have:=bW hi aA[i]
 rwa [List.set_getElem_self] at this
theorem dO.set {ct:List CT} {rows:List (List DC)} {vals:List Value} {aA:List (List Nat)} (de:dO w ct rows vals aA) (hl:vals.length=rows.length*ct.length) {i:Nat} (hi:i<rows.length)
  {off:Nat} {ds:List DC} {us:List Value} {fp:List Nat} (jb:off+us.length≤ct.length) (ka:a9 w ((ct.drop off).take us.length) ds (fun j=>us[j]?) fp):
  ∃p1 p2 p3,aA[i]? =some (p1++(p2++p3))∧dO w ct (rows.set i (bT (rows.getD i []) off ds)) (vals.take (i*ct.length+off)++(us++vals.drop (i*ct.length+off+us.length))) (aA.set i (p1++(fp++p3))):=by
 have F2:i<aA.length:=by rw[de.1];exact hi
 have eJ:=de.2 i (rows.getD i []) aA[i] (cD hi) (by simp)
 generalize rows.getD i []=r at eJ ⊢
 have BJ:ct=ct.take off++((ct.drop off).take us.length++ct.drop (off+us.length)):=by
  rw[←List.drop_drop,List.take_append_drop,List.take_append_drop]
 have GL:(ct.take off).length=off:=by simp;omega
 have j_:((ct.drop off).take us.length).length=us.length:=by simp;omega
 have Ml:ds.length=us.length:=by rw[a9.length _ _ _ _ ka,j_]
 have Jf:a9 w (ct.take off++((ct.drop off).take us.length++ct.drop (off+us.length))) r (fun j=>vals[i*ct.length+j]?) aA[i]:=by
  rw[←BJ]
  exact eJ
 obtain⟨p1,q,r1,r2,hq⟩:=a9.split _ _ _ _ _ Jf
 obtain⟨p2,p3,r3,r4,rfl⟩:=a9.split _ _ _ _ _ r2
 rw[GL] at r1 r2 r3 r4
 rw[j_] at r3 r4
 have JR:i*ct.length+ct.length≤vals.length:=by
  rw[hl,←Nat.succ_mul]
  exact Nat.mul_le_mul_right _ hi
 refine⟨p1,p2,p3,by rw[List.getElem?_eq_getElem F2,hq],by simp [de.1],fun k r' f' hk hf=> ?_⟩
 have lH:∀j,(vals.take (i*ct.length+off)++(us++vals.drop (i*ct.length+off+us.length)))[j]? =
   if j<i*ct.length+off then vals[j]? else if j<i*ct.length+off+us.length then us[j - (i*ct.length+off)]? else vals[j]? :=by
  intro j
  have ht:(vals.take (i*ct.length+off)).length=i*ct.length+off:=by simp;omega
  split
  ·rename_i hj
   rw[List.getElem?_append_left (by omega),List.getElem?_take,if_pos hj]
  ·rename_i hj
   rw[List.getElem?_append_right (by omega),ht]
   split
   ·rw[List.getElem?_append_left (by omega)]
   ·rw[List.getElem?_append_right (by omega),List.getElem?_drop]
    congr 1
    omega
 by_cases Am:k=i
 ·subst Am
  rw[List.getElem?_set_self hi] at hk
  rw[List.getElem?_set_self F2] at hf
  simp only[Option.some.injEq] at hk hf
  subst hk hf
  have:=a9.join (w:=w) (ct.take off) ((ct.drop off).take us.length++ct.drop (off+us.length)) (r.take off) (ds++r.drop (off+ds.length))
   (fun j=>(vals.take (k*ct.length+off)++(us++vals.drop (k*ct.length+off+us.length)))[k*ct.length+j]?) p1 (fp++p3) ?_ ?_
  ·rw[←BJ] at this
   exact this
  ·refine bn.a9.jl ?_ r1
   intro j u hj Bt
   rw[GL] at hj
   simp only[lH]
   rw[if_pos (by omega)]
   exact Bt
  ·refine a9.join _ _ _ _ _ _ _ ?_ ?_
   ·refine bn.a9.jl ?_ ka
    intro j u hj Bt
    rw[j_] at hj
    simp only[GL,lH]
    rw[if_neg (by omega),if_pos (by omega),←Bt]
    congr 1
    omega
   ·rw[Ml]
    simp only[List.drop_drop] at r4
    refine bn.a9.jV ?_ r4
    intro j u Bt
    simp only[GL,j_,lH]
    rw[if_neg (by omega),if_neg (by omega)]
    rw[←Bt]
 ·rw[List.getElem?_set_ne (Ne.symm Am)] at hk hf
  refine bn.a9.jl ?_ (de.2 k r' f' hk hf)
  intro j u hj Bt
  have FM:k<rows.length:=(List.getElem?_eq_some_iff.1 hk).1
  rw[lH]
  rcases Nat.lt_or_ge k i with cr | ER
  ·have:k*ct.length+ct.length≤i*ct.length:=by rw[←Nat.succ_mul];exact Nat.mul_le_mul_right _ cr
   rw[if_pos (by omega)]
   exact Bt
  ·have:i*ct.length+ct.length≤k*ct.length:=by rw[←Nat.succ_mul];exact Nat.mul_le_mul_right _ (by omega)
   rw[if_neg (by omega),if_neg (by omega)]
   exact Bt
end
end Go.Proofs.YtnlkklmcfafgeaaGreat.Vm
namespace Go.Proofs.YtnlkklmcfafgeaaGreat.Vm
theorem iw {α:Type} (l us:List α) (o m:Nat) (h1:o+us.length≤m) (h2:m≤l.length):
  (l.take o++(us++l.drop (o+us.length))).take m=(l.take m).take o++(us++(l.take m).drop (o+us.length)):=by
 rw[List.take_append,List.take_append]
 have e1:(l.take o).length=o:=by simp;omega
 rw[e1]
 have e2:(l.take o).take m=(l.take m).take o:=by rw[List.take_take,List.take_take,Nat.min_comm]
 have e3:us.take (m - o)=us:=List.take_of_length_le (by omega)
 rw[e2,e3]
 congr 2
 rw[List.drop_take]
 congr 1
 omega
section
variable {P:Program} {Γ:Ctx} {w0:World} {S:Own} {st:St} {o:Oper} {e:cJ} {a:Act} {w:World}
variable {f:Nat→SV} {h:Nat→Option aj} {β:Env} {φ:Nat→List Nat} {tm:Array Value}
theorem gF {A p1 p2 p3 B n:List Nat} (h:(A++((p1++(p2++p3))++B)).Nodup) (hn:n.Nodup) (hd:∀b∈n,b ∉ A++((p1++(p2++p3))++B)):(A++((p1++(n++p3))++B)).Nodup:=by
 have h1:((A++p1)++(p3++B)).Nodup:=by
  refine List.Sublist.nodup ?_ h
  simp only[List.append_assoc]
  refine List.Sublist.append (List.Sublist.refl _) (List.Sublist.append (List.Sublist.refl _) ?_)
  exact List.sublist_append_right _ _
 have h2:(n++((A++p1)++(p3++B))).Nodup:=by
  rw[List.nodup_append]
  refine⟨hn,h1,fun b hb c g_ DN=> ?_⟩
  subst DN
  refine hd b hb ?_
  simp only[List.mem_append] at g_ ⊢
  rcases g_ with (g_ | g_) | g_ | g_<;>simp [g_]
 refine (List.Perm.nodup_iff ?_).1 h2
 have:A++((p1++(n++p3))++B)=(A++p1)++(n++(p3++B)):=by simp
 rw[this]
 exact (List.perm_append_comm_assoc _ _ _)
theorem lB (hR:Rel w0 S st a w) (hd:∀d,o.dst=some d→bc st.n d) {t t':TypeId} {x y:Operand} (ho:o.op= .store t x y) {id i off:Nat} {sy:SV} {bO:List SV} {ct:List CT} {rows:List (List DC)} {fz u:Bool} {r:List DC×eZ×Bool}
  (h1:(cd x).val st.get st.obj=some (.d9 id i ct.length off)) (h2:(cd y).val st.get st.obj=some sy) (fB:(aD sy).val st.get st.obj=some bO) (dB:aY P t bO.length=true)
  (aK:st.obj id=some (.row t' ct rows fz u)) (dT:off+bO.length≤ct.length) (hr:(cg ((ct.drop off).take bO.length) bO).val st.get st.obj=some r) (Bu:bS id r.2.1=true) (hnd:aO r.2.1=true)
  (hi:i<rows.length) (jG:e.cw=none) (BR:e.sv= .undef)
  (how:e.ow=(id,some (.row t' ct (rows.set i (bT (rows.getD i []) off r.1)) fz (u && r.2.2)))::ai r.2.1):Good P w0 S st o e a w:=by
 obtain⟨ti,Ga,bu⟩:=aW dB
 obtain⟨β,φ,hc⟩:=hR.core
 have hx:=hc.ev h1
 simp only[ak] at hx
 obtain⟨g,hg,hx⟩:=hx
 obtain⟨fi,bd⟩:=dQ (hc.ev h2) fB
 have j_:=af.length _ _ fi
 have mQ:(a.eval y).cells.size=bO.length:=by simpa using j_
 obtain⟨fp,ka,kt,IG,Hu⟩:=d6 hc _ _ _ r fi hr
 have jF:=hc.gx r.2.1 kt hnd
 have BO:=gC Bu
 have hD:fo (ai r.2.1) st.obj id=some (.row t' ct rows fz u):=by rw[bL BO];exact aK
 have jC:∀b∈fp,¬Av (fo (ai r.2.1) st.obj) β b:=by
  intro b hb
  rcases IG b hb with h1 | ⟨z,hz,H8⟩
  ·exact fun h2=>h1 (fX h2)
  ·exact dF hc kt hz H8
 obtain⟨vals,aA,aZ,de,lu,kz⟩:=jF.ay id _ hD
 have kT:g∈al β id (.row t' ct rows fz u):=by simp [al,hg]
 rcases aZ.2 with ⟨hv,h0,_⟩ | ⟨g',cap,cur,hv,hh,A1,D8,mi,Fa⟩
 ·omega
 have Hv:g'=g:=by simpa [hv,Value.ownBlock] using hg
 subst Hv
 have hlen:i*ct.length+ct.length≤rows.length*ct.length:=by rw[←Nat.succ_mul];exact Nat.mul_le_mul_right _ hi
 have BN:rows.length*ct.length≤cap*ct.length:=Nat.mul_le_mul_right _ A1
 have EP:∀j,j<cur.size→¬((bif fz then (cur.size,cur.size+1) else ((0,0):Nat×Nat)).1≤j∧j<(bif fz then (cur.size,cur.size+1) else ((0,0):Nat×Nat)).2):=by
  intro j hj
  cases fz<;>simp<;>omega
 have CL:(a.eval y).cells.toList.length=bO.length:=by simpa using mQ
 have bs:=bR P g' (i*ct.length+off) t' _ (a.eval y).cells.toList 0 cur w hh EP (by rw[CL,mi];omega) bd
 simp only[Nat.add_zero] at bs
 generalize gl:(a.eval y).cells.toList=us at*
 rw[←CL] at dT ka
 obtain⟨p1,p2,p3,Kq,ml⟩:=de.set aZ.1 hi dT ka
 have F2:i<aA.length:=by rw[de.1];exact hi
 have EO:aA[i]=p1++(p2++p3):=by simpa [F2] using Kq
 have Dq:∀b∈(aA.set i (p1++(fp++p3))).flatten,b∈aA.flatten∨b∈fp:=by
  intro b hb
  rw[bW F2] at hb
  rw[bw F2,EO]
  simp only[List.mem_append] at hb ⊢
  rcases hb with hb | (hb | hb | hb) | hb<;>simp [hb]
 have iP:∀b∈(aA.set i (p1++(fp++p3))).flatten,¬Av (fo (ai r.2.1) st.obj) β b:=by
  intro b hb
  rcases Dq b hb with hb | hb
  ·exact lu b hb
  ·exact jC b hb
 have bA:=jF.fresh id _ hD
 have mj:(cur.toList.take (i*ct.length+off)++(us++cur.toList.drop (i*ct.length+off+us.length))).length=cur.size:=by
  simp only[List.length_append,List.length_take,List.length_drop,Array.length_toList]
  rw[mi]
  omega
 have Ao:∀b∈al β id (.row t' ct (rows.set i (bT (rows.getD i []) off r.1)) fz (u && r.2.2)),b∈al β id (.row t' ct rows fz u):=fun b hb=>hb
 refine iB hR hd (w':=w.setRow g' (cur.toList.take (i*ct.length+off)++(us++cur.toList.drop (i*ct.length+off+us.length))).toArray) ?_
  (hR.kept.setRow (bA.2 g' (ah (jF.ay id _ hD) g' kT)).1 _)
  ⟨β,az (bo φ r.2.1) id ((β.val id).ownBlock.toList++(bif (u && r.2.2) then (aA.set i (p1++(fp++p3))).flatten else [])), ?_,by rw[BR];simp [ak]⟩
 ·have:=iu (P:=P) (t:=t) (b:=g') (off:=i*ct.length+off) (x:=a.eval y) Ga (bu.trans mQ.symm) (by rw[gl];exact bs)
  simp [execOp,ho,hx,this]
 ·rw[how,jG]
  show Core w0 S st.get (az (fo (ai r.2.1) st.obj) id (some (.row t' ct (rows.set i (bT (rows.getD i []) off r.1)) fz (u && r.2.2)))) _ _ _ _
  refine jF.rewrite hD kT Ao ?_ ?_ ?_
  ·refine⟨vals.take (i*ct.length+off)++(us++vals.drop (i*ct.length+off+us.length)),aA.set i (p1++(fp++p3)),⟨?_,.inr ⟨g',cap,(cur.toList.take (i*ct.length+off)++(us++cur.toList.drop (i*ct.length+off+us.length))).toArray,by simpa using hv, ?_,by simpa using A1,D8,by simpa [mj] using mi, ?_⟩⟩, ?_, ?_,rfl⟩
   ·have:=aZ.1
    simp only[List.length_append,List.length_take,List.length_drop,List.length_set]
    omega
   ·rw[setRow_heap w _ _ _ _ _ hh]
    simp only[List.size_toArray,mj]
   ·simp only[List.length_set]
    rw[iw _ _ _ _ (by omega) (by simp only[Array.length_toList];omega),Fa]
   ·refine ml.mono (by simp) (fun b hb=>setRow_other w g' b _ (fun e=>iP b hb (e ▸ .inl ⟨id,_,hD,kT⟩)))
   ·exact fun b hb hx=>iP b hb (lV hD Ao hx)
  ·have A2:(β.val id).ownBlock.toList.Nodup:=by cases (β.val id).ownBlock<;>simp
   cases gK:(u && r.2.2) with
   | false=>simpa using A2
   | true=>
    simp only[Bool.and_eq_true] at gK
    have HP:bo φ r.2.1 id=(β.val id).ownBlock.toList++aA.flatten:=by rw[kz,gK.1];rfl
    have HB:=bA.1
    rw[HP,bw F2,EO,List.nodup_append] at HB
    obtain⟨JW,HC,IZ⟩:=HB
    have Kr:=(Hu gK.2).2 hnd
    have Ht:∀b∈fp,b ∉ bo φ r.2.1 id:=by
     intro b hb mg
     obtain⟨z,hz,H8⟩:=(Hu gK.2).1 b hb
     obtain⟨_,h3,_⟩:=kt z hz
     rw[cZ BO] at mg
     exact hc.sep z.1 id _ _ (BO z hz) h3 aK b H8 mg
    rw[HP,bw F2,EO] at Ht
    simp only[cond_true]
    rw[bW F2,List.nodup_append]
    refine⟨JW,gF HC Kr (fun b hb ax=>Ht b hb (List.mem_append_right _ ax)),fun b hb c g_ DN=> ?_⟩
    subst DN
    simp only[List.mem_append] at g_
    rcases g_ with g_ | (g_ | g_ | g_) | g_
    ·exact IZ b hb b (by simp [g_]) rfl
    ·exact IZ b hb b (by simp [g_]) rfl
    ·exact Ht b g_ (List.mem_append_left _ hb)
    ·exact IZ b hb b (by simp [g_]) rfl
    ·exact IZ b hb b (by simp [g_]) rfl
  ·intro b hb
   have lL:b∈bo φ r.2.1 id→((w0.heap.size≤b∨S b)∧b<w.heap.size)∧∀j oj,j≠id→fo (ai r.2.1) st.obj j=some oj→b ∉ bo φ r.2.1 j:=fun ax=>
    ⟨bA.2 b ax,fun j oj hj ja=>jF.sep id j _ _ (Ne.symm hj) hD ja b ax⟩
   rcases List.mem_append.1 hb with hb | hb
   ·exact lL (by rw[kz];exact List.mem_append_left _ hb)
   ·cases gK:(u && r.2.2) with
    | false=>simp [gK] at hb
    | true=>
     simp only[gK,cond_true] at hb
     simp only[Bool.and_eq_true] at gK
     rcases Dq b hb with hb | hb
     ·exact lL (by rw[kz,gK.1];exact List.mem_append_right _ hb)
     ·obtain⟨z,hz,H8⟩:=(Hu gK.2).1 b hb
      obtain⟨_,h3,_⟩:=kt z hz
      refine⟨(hc.fresh z.1 _ h3).2 b H8,fun j oj hj ja=> ?_⟩
      by_cases BM:∃k∈r.2.1,k.1=j
      ·rw[gZ BM];simp
      ·have CH:∀k∈r.2.1,k.1≠j:=fun k hk e=>BM ⟨k,hk,e⟩
       rw[bL CH] at ja
       rw[cZ CH]
       exact hc.sep z.1 j _ _ (CH z hz) h3 ja b H8
end
end Go.Proofs.YtnlkklmcfafgeaaGreat.Vm
namespace Go.Proofs.YtnlkklmcfafgeaaGreat.Vm
theorem Dk {w:World} :∀(ct:List CT) (r:List DC) (f:Nat→Option Value) (fp:List Nat),aq ct=true→a9 w ct r f fp→fp=[]
 | [],_,_,_,_,h=>by simp only[a9] at h;exact h.2
 | c::cs,_,_,_,hf,h=>by
  simp only[a9] at h
  obtain⟨d,r',v,f1,f2,rfl,_,h1,h2,rfl⟩:=h
  have h0:f1=[]∧aq cs=true:=by
   cases c with
   | int k=>simp only[bY] at h1;obtain⟨n,_,_,_,e⟩:=h1;exact⟨e,by simpa [aq] using hf⟩
   | bool=>simp only[bY] at h1;obtain⟨n,_,_,e⟩:=h1;exact⟨e,by simpa [aq] using hf⟩
   | str=>simp only[bY] at h1;obtain⟨n,_,_,_,e⟩:=h1;exact⟨e,by simpa [aq] using hf⟩
   | sl e=>simp [aq] at hf
  rw[h0.1,Dk cs _ _ _ h0.2 h2]
  rfl
theorem dO.flat {w:World} {ct:List CT} {rows:List (List DC)} {vals:List Value} {aA:List (List Nat)} (h:dO w ct rows vals aA) (hf:aq ct=true):aA.flatten=[]:=by
 rw[List.flatten_eq_nil_iff]
 intro l hl
 obtain⟨i,hi,rfl⟩:=List.getElem_of_mem hl
 have dU:i<rows.length:=by have:=h.1;omega
 exact Dk ct _ _ _ hf (h.2 i rows[i] aA[i] (by simp) (by simp))
theorem kI {w:World} {ct:List CT} {r:List (List DC)} {q:Option Addr} {m c:Nat} {fp:List Nat} (h:bY w (.sl ct) (.sl r) (.slice q m c) fp) (hp:0<ct.length):
  m=r.length∧∃(news:List Value) (aA:List (List Nat)),news.length=m*ct.length∧(q=none→m=0)∧(∀ad,q=some ad→∀j u,news[j]? =some u→w.cell? (ad.add j)=some u)∧(∀x∈news,x.oneCell'=true)∧
   dO w ct r news aA∧(∀b∈aA.flatten,b∈fp)∧(fp.Nodup→aA.flatten.Nodup):=by
 obtain⟨q',m',c',hv,hn,hc,hm,iU⟩:=dh h
 injection hv with e1 e2 e3
 subst e1 e2 e3
 refine⟨hn.symm, ?_⟩
 rcases iU with ⟨h0,rfl⟩ | ⟨jK,b,o,aA,rfl,cr,eA,rfl,eJ⟩
 ·have hr:r=[]:=by simpa [h0] using hn
  subst hr
  exact⟨[],[],by simp [h0],fun _=>h0,by simp,by simp,dO.nil,by simp,by simp⟩
 ·have cellAt:∀j,j<m*ct.length→∃u,w.cell? ⟨b,o+j,none⟩=some u∧u.oneCell'=true:=by
   intro j hj
   have h1:j / ct.length<r.length:=by rw[hn];exact Nat.div_lt_of_lt_mul (by rw[Nat.mul_comm];exact hj)
   have h2:j % ct.length<ct.length:=Nat.mod_lt _ hp
   have hf:j / ct.length<aA.length:=by omega
   obtain⟨u,BG,e1,e2,_⟩:=a9.get _ _ _ _ (j % ct.length) ct[j % ct.length] (eJ (j / ct.length) r[j / ct.length] aA[j / ct.length] (by simp) (by simp)) (by simp)
   refine⟨u, ?_,e2.one⟩
   have:j / ct.length*ct.length+j % ct.length=j:=by rw[Nat.mul_comm];exact Nat.div_add_mod j ct.length
   rw[this] at e1
   exact e1
  refine⟨(List.range (m*ct.length)).map (fun j=>(w.cell? ⟨b,o+j,none⟩).getD undef),aA,by simp,by simp, ?_, ?_,⟨by omega, ?_⟩,fun x hx=>List.mem_cons_of_mem _ hx,fun hn=>(List.nodup_cons.1 hn).2⟩
  ·intro ad H7 j u hj
   injection H7 with H7
   subst H7
   rw[dt]
   have Hy:j<m*ct.length:=by
    have:=(List.getElem?_eq_some_iff.1 hj).1
    simpa using this
   obtain⟨u',CJ,_⟩:=cellAt j Hy
   simp [Hy,CJ] at hj
   rw[CJ,hj]
  ·intro x hx
   simp only[List.mem_map,List.mem_range] at hx
   obtain⟨j,hj,rfl⟩:=hx
   obtain⟨u',CJ,ho⟩:=cellAt j hj
   rw[CJ]
   exact ho
  ·intro i r' f' hi hf
   refine bn.a9.jl ?_ (eJ i r' f' hi hf)
   intro j u hj Bt
   have ET:i<m:=by have:=(List.getElem?_eq_some_iff.1 hi).1;omega
   have:i*ct.length+j<m*ct.length:=by
    have:i*ct.length+ct.length≤m*ct.length:=by rw[←Nat.succ_mul];exact Nat.mul_le_mul_right _ ET
    omega
   simp [this,Bt]
section
variable {P:Program} {Γ:Ctx} {w0:World} {S:Own} {st:St} {o:Oper} {e:cJ} {a:Act} {w:World}
variable {f:Nat→SV} {h:Nat→Option aj} {β:Env} {φ:Nat→List Nat} {tm:Array Value}
theorem run_append_nil (base:Nat) (t ty et:TypeId) (i:TypeInfo) (size:Nat) (ht:P.underlying t=some (.slice et)) (hi:P.info? et=some i)
  (v:Value) (n:Nat) (xs:List Value) (aZ:w.ownsRow base et size v n xs) (c:Nat):(Builtin.append_ #[t,t] ty #[v,.slice none 0 c]).run P w= .ok v w:=by
 rcases aZ.2 with ⟨rfl,rfl⟩ | ⟨g,cap,cur,rfl,_,_,A1,_⟩
 ·simp [Builtin.append_,run_underlying ht,sizeOf,typeInfo,hi,Builtin.lenOf,Builtin.firstCells]
 ·simp [Builtin.append_,run_underlying ht,sizeOf,typeInfo,hi,Builtin.lenOf,Builtin.firstCells,A1,storeCells]
theorem B3 {t:TypeId} {i:TypeInfo} {n:Nat} (hi:P.info? t=some i) (h:fv P t n=true):n*i.bytes≤140737488355328∧n≤maxLen:=by
 simp only[fv,hi,Bool.and_eq_true,decide_eq_true_eq] at h
 exact⟨h.1,by simp only[maxLen];omega⟩
theorem i6 {t ty et:TypeId} {i:TypeInfo} {zv:Value} {ct:List CT} (ht:P.underlying t=some (.slice et)) (hi:P.info? et=some i) (hz:i.zero=some zv) (dB:i.size=ct.length) (Lm:zv.cells.size=ct.length) (hp:0<ct.length)
  {v:Value} {n:Nat} {vals:List Value} (aZ:cm w et ct.length false v n vals) {q:Option Addr} {m c:Nat} {news:List Value} (hl:news.length=m*ct.length) (hq:q=none→m=0)
  (I3:∀ad,q=some ad→∀j u,news[j]? =some u→w.cell? (ad.add j)=some u) (h1:∀x∈news,x.oneCell'=true) (eI:fv P et (n+m)=true):
  ∃v' w',(Builtin.append_ #[t,t] ty #[v,.slice q m c]).run P w= .ok v' w'∧cm w' et ct.length false v' (n+m) (vals++news)∧w.grownBy w' v.ownBlock∧(v'.ownBlock=v.ownBlock∨v'.ownBlock=some w.heap.size):=by
 obtain⟨hb,hm⟩:=B3 hi eI
 cases q with
 | none=>
  have MA:=hq rfl
  subst MA
  have hn:news=[]:=by simpa using hl
  subst hn
  exact⟨v,w,run_append_nil 0 t ty et i ct.length ht hi v n vals aZ.owns c,by simpa using aZ,⟨rfl,rfl,rfl,Nat.le_refl _,fun _ _ _=>rfl⟩,.inl rfl⟩
 | some ad=>
  obtain⟨v',w',hr,h2,h3,_,h5⟩:=run_append_own_at (P:=P) w 0 t ty et i zv ct.length i.bytes ht hi hz dB rfl Lm hp v n vals aZ.owns ad m c news hl (I3 ad rfl) h1 hm hb (Nat.zero_le _)
  exact⟨v',w',hr,cm.HZ h2,h3,h5⟩
theorem Kept.grown (hk:Kept S w0 w) {w':World} {row:Option Nat} (hg:w.grownBy w' row) (hr:∀b,row=some b→w0.heap.size≤b∨S b):Kept S w0 w':=
 ⟨hg.os.trans hk.os,hg.tape.trans hk.tape,hg.output.trans hk.output,Nat.le_trans hk.size hg.size,fun k h1 h2=>by
  rw[hg.block k (by have:=hk.size;omega) (fun e=>by rcases hr k e.symm with h | h;omega;exact h2 h)]
  exact hk.block k h1 h2⟩
mutual
theorem Cu:∀(a:CT),kN a a=true
 | .int k=>by simp [kN]
 | .bool=>rfl
 | .str=>rfl
 | .sl e=>by simp only[kN];exact eE e
theorem eE:∀(a:List CT),aF a a=true
 | []=>rfl
 | a::l=>by simp only[aF,Bool.and_eq_true];exact⟨Cu a,eE l⟩
end
theorem CZ {ct:List CT} {s:SV} {q:List (List DC)×eZ×Bool} (hq:(ld ct s).val f h=some q):(eP (.sl ct) s).val f h=some (.sl q.1,q.2):=by
 unfold ld at hq
 split at hq
 ·simp only[M.aa,Option.some.injEq] at hq
  subst hq
  simp [eP]
 ·rename_i e' r
  cases hb:aF ct e'
  ·simp [hb] at hq
  ·simp only[hb,cond_true,M.aa,Option.some.injEq] at hq
   have:=aN _ _ hb
   subst this hq
   simp [eP,eE]
 ·rename_i id
  simp only[M.aT,Option.bind_eq_some_iff] at hq
  obtain⟨ob,aK,hq⟩:=hq
  split at hq
  ·rename_i t' e' r fz u
   cases hb:aF ct e'
   ·simp [hb] at hq
   ·simp only[hb,cond_true,M.aa,Option.some.injEq] at hq
    have:=aN _ _ hb
    subst this hq
    simp [eP,aK,eE]
  ·rename_i e' r
   cases hb:aF ct e'
   ·simp [hb] at hq
   ·simp only[hb,cond_true,M.aa,Option.some.injEq] at hq
    have:=aN _ _ hb
    subst this hq
    simp [eP,aK,eE]
  ·simp at hq
 ·simp at hq
theorem jZ (hc:Core w0 S f h β φ tm w) {ct:List CT} {s:SV} {v:Value} {q:List (List DC)×eZ×Bool} (hs:ak w (Av h β) β s v) (hq:(ld ct s).val f h=some q):
  ∃fp,bY w (.sl ct) (.sl q.1) v fp∧bV h q.2.1∧aO q.2.1=true∧(∀b∈fp,(¬Av h β b)∨∃x∈q.2.1,b∈eX h β x.1)∧
   (q.2.2=true→(∀b∈fp,∃x∈q.2.1,b∈φ x.1)∧fp.Nodup):=dC hc hs (CZ hq)
theorem DE {ct:List CT} {m:eZ} (hm:bV h m) (hn:aO m=true):bV h (bif aq ct then [] else m)∧aO (bif aq ct then [] else m)=true:=by
 cases aq ct
 ·exact⟨hm,hn⟩
 ·exact⟨by simp [bV],rfl⟩
theorem kR {ct:List CT} {m:eZ} :(bif aq ct then [] else ai m)=ai (bif aq ct then [] else m):=by cases aq ct<;>rfl
theorem kE (hR:Rel w0 S st a w) {d:Nat} (aL:o.dst=some d) (hd:bc st.n d) (bP:bB st d) {t et:TypeId} {s x:Operand} {c:Call} (ho:o.op= .call c) (hb:c.callee= .builtin .append) (cy:c.args= #[s,x])
  (F0:c.argTypes= #[t,t]) {sx:SV} {ct:List CT} {q:List (List DC)×eZ×Bool} {z:List SV} (h1:(cd s).val st.get st.obj=some .nil) (h2:(cd x).val st.get st.obj=some sx) (hu:P.underlying t=some (.slice et))
  (dB:aY P et ct.length=true) (hp:0<ct.length) (hz:(dM P et).val st.get st.obj=some z) (jO:z.length=ct.length) (hq:(ld ct sx).val st.get st.obj=some q) (eI:fv P et q.1.length=true)
  (fi:e.sv= .own (ag d 0)) (jG:e.cw=none) (how:e.ow=(ag d 0,some (.row et ct q.1 false (aq ct || q.2.2)))::(bif aq ct then [] else ai q.2.1)):Good P w0 S st o e a w:=by
 obtain⟨i,hi,bu⟩:=aW dB
 obtain⟨i',zv,dU,mV,rfl,_⟩:=dA hz
 rw[hi] at dU
 injection dU with dU
 subst dU
 obtain⟨JD,JE,Ck⟩:=hR.core
 obtain⟨MX,HK,E2,HA,_,_⟩:=jZ Ck (Ck.ev h2) hq
 obtain⟨Q,m,cc,GX,MD,_,_,_⟩:=dh HK
 rw[GX] at HK
 obtain⟨IY,news,L7,HF,Ia,hcell,bd,Mw,_,_⟩:=kI HK hp
 have E7:=Ck.ev h1
 simp only[ak] at E7
 have Ja:cm w et ct.length false (.slice none 0 0) 0 []:=⟨by simp,.inl ⟨rfl,rfl,rfl⟩⟩
 obtain⟨v',w',bs,ga,dj,jD⟩:=i6 (P:=P) (ty:=o.type) (c:=cc) hu hi mV bu (by simpa using jO) hp Ja HF Ia hcell bd (by rw[IY,Nat.zero_add];exact eI)
 obtain⟨GN,F8⟩:=DE (ct:=ct) E2 HA
 refine fe hR aL hd bP (m:=bif aq ct then [] else q.2.1) (fz:=false) (u:=aq ct || q.2.2) (vals:=news) (v:=v') (w':=w') ?_ (hR.kept.grown dj (by simp [Value.ownBlock])) dj.size
  (fun b hb=>dj.block b hb (by simp [Value.ownBlock])) ?_ GN F8 ?_ ?_ fi jG (by rw[how,kR])
 ·simp [execOp,ho,resolve,hb,cy,F0,invoke,builtin,E7,GX,bs]
 ·intro b ax
  rcases jD with h3 | h3
  ·rw[h3] at ax;simp [Value.ownBlock] at ax
  ·rw[h3] at ax;simpa using ax
 ·rw[←IY]
  simpa using ga
 ·intro β φ hc
  obtain⟨fp,ka,kt,Bu,lu,IH⟩:=jZ hc (hc.ev h2) hq
  rw[GX] at ka
  obtain⟨_,Jx,aA,I4,_,Ho,_,de,hY,HG⟩:=kI ka hp
  have MF:dO w ct q.1 news aA:=by
   refine⟨de.1,fun k r' f' hk hf=> ?_⟩
   refine bn.a9.jl ?_ (de.2 k r' f' hk hf)
   intro j u hj Bt
   have IK:k*ct.length+j<Jx.length:=(List.getElem?_eq_some_iff.1 Bt).1
   cases Q with
   | none=>
    have:m=0:=Ia rfl
    subst this
    simp at I4
    simp [I4] at Bt
   | some ad=>
    have e1:=Ho ad rfl _ _ Bt
    have cr:k*ct.length+j<news.length:=by omega
    have e2:=hcell ad rfl (k*ct.length+j) news[k*ct.length+j] (by simp)
    rw[e1] at e2
    injection e2 with e2
    rw[List.getElem?_eq_getElem cr,←e2]
  refine⟨aA,MF, ?_, ?_⟩
  ·intro b ax
   cases eA:aq ct with
   | true=>rw[de.flat eA] at ax;simp at ax
   | false=>simpa using lu b (hY b ax)
  ·intro CJ
   cases eA:aq ct with
   | true=>rw[de.flat eA];simp
   | false=>
    rw[eA,Bool.false_or] at CJ
    exact⟨fun b ax=>by simpa using (IH CJ).1 b (hY b ax),HG (IH CJ).2⟩
theorem kF (hR:Rel w0 S st a w) {d:Nat} (aL:o.dst=some d) (hd:bc st.n d) (bP:bB st d) {t et:TypeId} {s x:Operand} {c:Call} (ho:o.op= .call c) (hb:c.callee= .builtin .append) (cy:c.args= #[s,x])
  (F0:c.argTypes= #[t,t]) {id:Nat} {u:Bool} {r:List (List DC)} {sx:SV} {ct:List CT} {q:List (List DC)×eZ×Bool} {z:List SV} (h1:(cd s).val st.get st.obj=some (.own id)) (h2:(cd x).val st.get st.obj=some sx)
  (aK:st.obj id=some (.row et ct r false u)) (hu:P.underlying t=some (.slice et))
  (dB:aY P et ct.length=true) (hp:0<ct.length) (hz:(dM P et).val st.get st.obj=some z) (jO:z.length=ct.length) (hq:(ld ct sx).val st.get st.obj=some q) (KV:bS id q.2.1=true)
  (eI:fv P et (r.length+q.1.length)=true) (fi:e.sv= .own (ag d 0)) (jG:e.cw=none)
  (how:e.ow=(ag d 0,some (.row et ct (r++q.1) false (u && (aq ct || q.2.2))))::(id,none)::(bif aq ct then [] else ai q.2.1)):Good P w0 S st o e a w:=by
 obtain⟨i,hi,bu⟩:=aW dB
 obtain⟨i',zv,dU,mV,rfl,_⟩:=dA hz
 rw[hi] at dU
 injection dU with dU
 subst dU
 obtain⟨β,φ,hc⟩:=hR.core
 obtain⟨fp,ka,E2,HA,lu,IH⟩:=jZ hc (hc.ev h2) hq
 obtain⟨Q,m,cc,GX,MD,_,_,_⟩:=dh ka
 rw[GX] at ka
 obtain⟨IY,news,mN,HF,Ia,hcell,bd,jH,hY,HG⟩:=kI ka hp
 obtain⟨GN,F8⟩:=DE (ct:=ct) E2 HA
 have KU:=gC KV
 have BO:∀y∈(bif aq ct then [] else q.2.1),y.1≠id:=by
  cases aq ct
  ·exact KU
  ·simp
 generalize hM:(bif aq ct then [] else q.2.1)=M' at GN F8 BO
 have jF:=hc.gx M' GN F8
 have hD:fo (ai M') st.obj id=some (.row et ct r false u):=by rw[bL BO];exact aK
 obtain⟨vals,aA,aZ,de,Hx,kz⟩:=jF.ay id _ hD
 have E7:=hc.ev h1
 simp only[ak] at E7
 obtain⟨v',w',bs,ga,dj,jD⟩:=i6 (P:=P) (ty:=o.type) (c:=cc) hu hi mV bu (by simpa using jO) hp aZ HF Ia hcell bd (by rw[IY];exact eI)
 have bG:ag d 0 / 64=d:=cO d 0 (by omega)
 have IJ:id≠ag d 0:=fun e=>(bP.obj id _ aK).1 (e ▸ bG)
 have gm:∀j,j≠ag d 0→(β.fR (ag d 0) v').val j=β.val j∧(β.fR (ag d 0) v').cW j=β.cW j:=by
  intro j hj
  exact⟨by simp [Env.fR,az,hj],rfl⟩
 have hval:(β.fR (ag d 0) v').val (ag d 0)=v':=by simp [Env.fR,az]
 have jL:=ah (jF.ay id _ hD)
 have bA:=jF.fresh id _ hD
 have F4:=de.lt
 have F5:=jH.lt
 have iP:∀b∈mN.flatten,¬Av (fo (ai M') st.obj) β b:=by
  intro b ax
  cases eA:aq ct with
  | true=>rw[jH.flat eA] at ax;simp at ax
  | false=>
   rw[eA,cond_false] at hM
   subst hM
   rcases lu b (hY b ax) with h3 | ⟨y,hy,Bo⟩
   ·exact fun h4=>h3 (fX h4)
   ·exact dF hc GN hy Bo
 have CG:(u && (aq ct || q.2.2))=true→∀b∈mN.flatten,∃y∈M',b∈φ y.1:=by
  intro gK b ax
  cases eA:aq ct with
  | true=>rw[jH.flat eA] at ax;simp at ax
  | false=>
   rw[eA,cond_false] at hM
   subst hM
   rw[eA,Bool.false_or,Bool.and_eq_true] at gK
   exact (IH gK.2).1 b (hY b ax)
 have I6:(u && (aq ct || q.2.2))=true→mN.flatten.Nodup:=by
  intro gK
  cases eA:aq ct with
  | true=>rw[jH.flat eA];simp
  | false=>
   rw[eA,Bool.false_or,Bool.and_eq_true] at gK
   exact HG (IH gK.2).2
 have jJ:∀j oj,az (az (fo (ai M') st.obj) id none) (ag d 0) (some (.row et ct (r++q.1) false (u && (aq ct || q.2.2)))) j=some oj→j≠ag d 0→j≠id∧fo (ai M') st.obj j=some oj:=by
  intro j oj hj mn
  simp only[az,mn,if_false] at hj
  split at hj
  ·cases hj
  ·exact⟨by assumption,hj⟩
 have hJ:∀b,(β.val id).ownBlock=some b→b∈bo φ M' id:=fun b ax=>jL b (by simp [al,ax])
 have Ap:∀b∈v'.ownBlock.toList,b∈bo φ M' id∨b=w.heap.size:=by
  intro b ax
  rcases jD with h3 | h3
  ·rw[h3] at ax
   exact .inl (jL b (by simpa [al] using ax))
  ·rw[h3] at ax
   exact .inr (by simpa using ax)
 have HS:u=true→∀b∈aA.flatten,b∈bo φ M' id:=by
  intro gK b ax
  rw[kz,gK]
  exact List.mem_append_right _ ax
 have BQ:∀b,b∈v'.ownBlock.toList++(bif (u && (aq ct || q.2.2)) then (aA++mN).flatten else [])→∀j oj,j≠id→fo (ai M') st.obj j=some oj→b ∉ bo φ M' j:=by
  intro b ax j oj hj ja br
  have lL:b∈bo φ M' id→False:=fun h3=>jF.sep id j _ _ (Ne.symm hj) hD ja b h3 br
  rcases List.mem_append.1 ax with ax | ax
  ·rcases Ap b ax with h3 | h3
   ·exact lL h3
   ·have:=((jF.fresh j oj ja).2 b br).2
    omega
  ·cases gK:(u && (aq ct || q.2.2)) with
   | false=>simp [gK] at ax
   | true=>
    simp only[gK,cond_true,List.flatten_append,List.mem_append] at ax
    rcases ax with ax | ax
    ·rw[Bool.and_eq_true] at gK
     exact lL (HS gK.1 b ax)
    ·obtain⟨y,hy,Bo⟩:=CG gK b ax
     obtain⟨_,h3,_⟩:=GN y hy
     by_cases BM:∃k∈M',k.1=j
     ·rw[gZ BM] at br
      simp at br
     ·have CH:∀k∈M',k.1≠j:=fun k hk e=>BM ⟨k,hk,e⟩
      rw[bL CH] at ja
      rw[cZ CH] at br
      exact hc.sep y.1 j _ _ (CH y hy) h3 ja b Bo br
 have fN:∀b,b<w.heap.size→(β.val id).ownBlock≠some b→w'.heap[b]? =w.heap[b]? :=fun b ax cM=>dj.block b ax (fun e=>cM e.symm)
 have kq:∀b∈(aA++mN).flatten,¬Av (fo (ai M') st.obj) β b∧b<w.heap.size:=by
  intro b ax
  simp only[List.flatten_append,List.mem_append] at ax
  rcases ax with ax | ax
  ·exact⟨Hx b ax,F4 b ax⟩
  ·exact⟨iP b ax,F5 b ax⟩
 have AY:∀b,Av (az (az (fo (ai M') st.obj) id none) (ag d 0) (some (.row et ct (r++q.1) false (u && (aq ct || q.2.2))))) (β.fR (ag d 0) v') b→Av (fo (ai M') st.obj) β b∨w.heap.size≤b:=by
  rintro b (⟨j,oj,hj,br⟩ | hb)
  case inr=>exact .inl (.inr hb)
  by_cases cf:j=ag d 0
  ·subst cf
   simp only[az,if_true,Option.some.injEq] at hj
   subst hj
   simp only[al,hval] at br
   rcases jD with h3 | h3
   ·rw[h3] at br
    exact .inl (.inl ⟨id,_,hD,by simpa [al] using br⟩)
   ·rw[h3] at br
    right
    have:b=w.heap.size:=by simpa using br
    omega
  ·obtain⟨_,f_⟩:=jJ j oj hj cf
   refine .inl (.inl ⟨j,oj,f_, ?_⟩)
   cases oj<;>simp only[al,gm j cf] at br ⊢ <;>exact br
 refine bM hR (fun d' h'=>by rw[aL] at h';injection h' with h';exact h' ▸ hd) (v:=v') (w':=w') ?_ (hR.kept.grown dj (fun b ax=>(bA.2 b (hJ b ax)).1))
  ⟨β.fR (ag d 0) v',az (bo φ M') (ag d 0) (v'.ownBlock.toList++(bif (u && (aq ct || q.2.2)) then (aA++mN).flatten else [])), ?_, ?_⟩
 ·simp [execOp,ho,resolve,hb,cy,F0,invoke,builtin,E7.1,GX,bs]
 ·rw[how,jG,kR,hM]
  show Core w0 S st.get (az (az (fo (ai M') st.obj) id none) (ag d 0) (some (.row et ct (r++q.1) false (u && (aq ct || q.2.2))))) _ _ _ _
  refine jF.step (fun j=>j=ag d 0) dj.size (fun b ax hn=>fN b ax (fun e=>hn (.inl ⟨id,_,hD,by simp [al,e]⟩))) AY
   (fun k j hj e=>bP.slot k j hj (by rw[e];exact bG)) gm ?_ ?_
  ·intro j oj hj
   by_cases cf:j=ag d 0
   ·subst cf
    have f_:=hj
    simp only[az,if_true,Option.some.injEq] at f_
    subst f_
    refine .inr ⟨?_, ?_, ?_⟩
    ·refine⟨vals++news,aA++mN, ?_, ?_, ?_, ?_⟩
     ·rw[hval]
      have:(r++q.1).length=r.length+m:=by simp [IY]
      rw[this]
      exact ga
     ·exact (de.append aZ.1 jH).mono dj.size (fun b ax=>fN b (kq b ax).2 (fun e=>(kq b ax).1 (.inl ⟨id,_,hD,by simp [al,e]⟩)))
     ·intro b ax hx
      rcases AY b hx with h3 | h3
      ·exact (kq b ax).1 h3
      ·have:=(kq b ax).2
       omega
     ·rw[hval]
      simp [az]
    ·simp only[az,if_true]
     have A2:v'.ownBlock.toList.Nodup:=by cases v'.ownBlock<;>simp
     cases gK:(u && (aq ct || q.2.2)) with
     | false=>simpa using A2
     | true=>
      have GU:u=true:=by rw[Bool.and_eq_true] at gK;exact gK.1
      have HB:=bA.1
      rw[kz,GU,cond_true,List.nodup_append] at HB
      obtain⟨_,HC,IZ⟩:=HB
      have JO:((aA++mN).flatten).Nodup:=by
       rw[List.flatten_append,List.nodup_append]
       refine⟨HC,I6 gK,fun b ax c' g_ DN=> ?_⟩
       subst DN
       obtain⟨y,hy,Bo⟩:=CG gK b g_
       obtain⟨_,h3,_⟩:=GN y hy
       have h4:=HS GU b ax
       rw[cZ BO] at h4
       exact hc.sep y.1 id _ _ (BO y hy) h3 aK b Bo h4
      rw[cond_true,List.nodup_append]
      refine⟨A2,JO,fun b ax c' g_ DN=> ?_⟩
      subst DN
      rcases jD with h3 | h3
      ·rw[h3] at ax
       exact (kq b g_).1 (.inl ⟨id,_,hD,by simpa [al] using ax⟩)
      ·rw[h3] at ax
       have h4:b=w.heap.size:=by simpa using ax
       have:=(kq b g_).2
       omega
    ·simp only[az,if_true]
     intro b ax
     rcases List.mem_append.1 ax with ax | ax
     ·rcases Ap b ax with h3 | h3
      ·have:=bA.2 b h3
       exact⟨this.1,by have:=dj.size;omega⟩
      ·subst h3
       refine⟨.inl hR.kept.size,ga.lt _ ax⟩
     ·cases gK:(u && (aq ct || q.2.2)) with
      | false=>simp [gK] at ax
      | true=>
       simp only[gK,cond_true,List.flatten_append,List.mem_append] at ax
       have MM:=dj.size
       rcases ax with ax | ax
       ·have GU:u=true:=by rw[Bool.and_eq_true] at gK;exact gK.1
        have:=bA.2 b (HS GU b ax)
        exact⟨this.1,by omega⟩
       ·obtain⟨y,hy,Bo⟩:=CG gK b ax
        obtain⟨_,h3,_⟩:=GN y hy
        have:=(hc.fresh y.1 _ h3).2 b Bo
        exact⟨this.1,by omega⟩
   ·obtain⟨gy,f_⟩:=jJ j oj hj cf
    refine .inl ⟨cf,f_,by simp [az,cf], ?_, ?_⟩
    ·intro k hk e
     rcases dD f_ with h3 | ⟨e',r',rfl,_⟩
     ·exact (bP.obj j oj h3).2 k hk (by rw[e];exact bG)
     ·simp [cF] at hk
    ·intro b ax
     have fD:=ah (jF.ay j oj f_) b ax
     refine fN b ((jF.fresh j oj f_).2 b fD).2 (fun e=> ?_)
     exact jF.sep id j _ _ (Ne.symm gy) hD f_ b (hJ b e) fD
  ·intro k j ok oj cM hk hj b ax
   by_cases Hz:k=ag d 0
   ·subst Hz
    have mn:j≠ag d 0:=Ne.symm cM
    obtain⟨gy,f_⟩:=jJ j oj hj mn
    simp only[az,if_true] at ax
    simp only[az,mn,if_false]
    exact BQ b ax j oj gy f_
   ·obtain⟨Am,CE⟩:=jJ k ok hk Hz
    simp only[az,Hz,if_false] at ax
    by_cases cf:j=ag d 0
    ·subst cf
     simp only[az,if_true]
     exact fun h3=>BQ b h3 k ok Am CE ax
    ·obtain⟨gy,f_⟩:=jJ j oj hj cf
     simp only[az,cf,if_false]
     exact jF.sep k j ok oj cM CE f_ b ax
 ·rw[fi]
  unfold ak
  exact⟨hval.symm,ga.one⟩
end
end Go.Proofs.YtnlkklmcfafgeaaGreat.Vm
namespace Go.Proofs.YtnlkklmcfafgeaaGreat.Vm
theorem B1:∀(ns:List Int) (l:List UInt8),ns.foldl (fun (r:ByteArray) n=>r.push (UInt8.ofNat n.toNat)) ⟨l.toArray⟩=⟨(l++ns.map (fun n=>UInt8.ofNat n.toNat)).toArray⟩
 | [],l=>by simp
 | n::ns,l=>by
  simp only[List.foldl_cons,List.map_cons]
  have:(⟨l.toArray⟩:ByteArray).push (UInt8.ofNat n.toNat)=⟨(l++[UInt8.ofNat n.toNat]).toArray⟩:=by
   apply ByteArray.ext
   simp [ByteArray.push]
  rw[this,B1 ns]
  simp
section
variable {P:Program} {Γ:Ctx} {w0:World} {S:Own} {st:St} {o:Oper} {e:cJ} {a:Act} {w:World}
variable {f:Nat→SV} {h:Nat→Option aj} {β:Env} {φ:Nat→List Nat} {tm:Array Value}
theorem Be {rows:List (List DC)} {v:Value} {fp:List Nat} (hr:bY w (.sl [.int .u8]) (.sl rows) v fp):
  (Conv.bytesToString v).run P w= .ok (.string ⟨(rows.map byteOf).toArray⟩) w:=by
 obtain⟨q,m,c,rfl,hn,_,_,iU⟩:=dh hr
 cases q with
 | none=>
  have hm:m=0:=by
   rcases iU with ⟨h0,_⟩ | ⟨_,b,o,aA,h1,_⟩
   ·exact h0
   ·cases h1
  have:rows=[]:=by simpa [hm] using hn
  subst this
  simp [Conv.bytesToString]
  rfl
 | some ad=>
  have IV:(loadCells ad m).run P w= .ok ((rows.map fun r=>(r.headD default).asInt).map (Value.int .u8)).toArray w:=by
   have:=run_loadCells_list (P:=P) (w:=w) ad ((rows.map fun r=>(r.headD default).asInt).map (Value.int .u8)) ?_
   ·simpa [hn] using this
   ·intro j u hj
    rcases iU with ⟨h0,_⟩ | ⟨_,b,o,aA,h1,cr,eA,_,eJ⟩
    ·have:rows=[]:=by simpa [h0] using hn
     subst this
     simp at hj
    ·injection h1 with h1
     subst h1
     rw[dt]
     have Hy:j<rows.length:=by
      have:=(List.getElem?_eq_some_iff.1 hj).1
      simpa using this
     have M0:j<aA.length:=by omega
     have:=eJ j rows[j] aA[j] (by simp) (by simp)
     simp only[a9,bY,List.length_singleton,Nat.mul_one,Nat.add_zero] at this
     obtain⟨d,r',v',f1,f2,e1,e2,⟨n,rfl,rfl,_,_⟩,⟨rfl,_⟩,_⟩:=this
     rw[e2]
     simp only[List.map_map,List.getElem?_map,List.getElem?_eq_getElem Hy,e1,Option.map_some,Option.some.injEq] at hj
     simpa [DC.asInt] using hj
  rw[run_bytesToString w ad m c _ IV]
  have:=B1 (rows.map fun r=>(r.headD default).asInt) []
  have e0:ByteArray.empty=⟨([]:List UInt8).toArray⟩:=rfl
  rw[e0,this]
  simp [byteOf,Function.comp_def]
theorem C6 (hR:Rel w0 S st a w) (hd:∀d,o.dst=some d→bc st.n d) (bP:e.ow≠[]→∀d,o.dst=some d→bB st d) {s t:TypeId} {x:Operand} (ho:o.op= .convert s t x) {sx:SV}
  (h1:(cd x).val st.get st.obj=some sx) (he:(Eu P o.dst s t sx).val st.get st.obj=some e):Good P w0 S st o e a w:=by
 unfold Eu at he
 split at he
 ·rename_i k src hk hs
  split at he
  ·rename_i k' n
   simp only[M.aa,Option.some.injEq] at he
   subst he
   refine ao hR hd rfl rfl fun β φ hc=> ?_
   have hx:=hc.ev h1
   simp only[ak] at hx
   refine⟨.int k (k.wrap n), ?_,by unfold ak;exact⟨rfl,fq _ _⟩⟩
   simp [execOp,ho,hx.1,convert,run_underlying hk,run_underlying hs,Conv.intToInt]
  ·simp at he
 ·rename_i hk hs
  split at he
  ·rename_i l
   simp only[M.aa,Option.some.injEq] at he
   subst he
   refine ao hR hd rfl rfl fun β φ hc=> ?_
   have hx:=hc.ev h1
   simp only[ak] at hx
   refine⟨.string ⟨l.toArray⟩, ?_,by unfold ak;exact⟨rfl,hx.2⟩⟩
   simp [execOp,ho,hx.1,convert,run_underlying hk,run_underlying hs]
  ·simp at he
 ·rename_i et hk hs
  split at he
  ·rename_i het
   simp only[M.ae,Option.bind_eq_some_iff,M.aa,Option.some.injEq] at he
   obtain⟨q,hq,rfl⟩:=he
   refine ao hR hd rfl rfl fun β φ hc=> ?_
   obtain⟨fp,ka,_⟩:=jZ hc (hc.ev h1) hq
   have bs:=Be (P:=P) ka
   obtain⟨qa,m,c,hv,hn,AZ,hm,_⟩:=dh ka
   refine⟨.string ⟨(q.1.map byteOf).toArray⟩, ?_,by unfold ak;exact⟨rfl,by simp;omega⟩⟩
   rw[hv] at bs
   have:=run_convert_bytes_string (P:=P) w s t et qa m c hs het hk
   simp [execOp,ho,hv,this,bs]
  ·simp at he
 ·rename_i et hk hs
  split at he
  ·rename_i l d het aL
   cases hz:aY P et 1
   ·simp [hz] at he
   simp only[hz,cond_true,M.aa,Option.some.injEq] at he
   subst he
   obtain⟨JD,JE,Ck⟩:=hR.core
   have hx:=Ck.ev h1
   simp only[ak] at hx
   have hlen:l.length≤9223372036854775807:=by have:=hx.2;simp only[maxLen] at this;omega
   generalize lr:Question.cut (.appendCap l.length 0 et) (w.tape w.drawn (.appendCap l.length 0 et))=cap
   have IA:l.length≤cap:=by rw[←lr];simp [Question.cut]
   have IB:cap≤maxLen:=by
    rw[←lr]
    simp only[Question.cut,maxLen]
    have:=Nat.mod_lt (w.tape w.drawn (.appendCap l.length 0 et)) (show 0<2 ^ 63 - l.length by omega)
    omega
   let cells:Array Value:=(l.map fun b=>Value.int .u8 b.toNat).toArray++Array.replicate (cap - l.length) (.int .u8 0)
   have fB:cells.size=cap:=by simp [cells];omega
   have Ib:∀b,b<w.heap.size→(World.freeze (w.drew.alloc (.cells cells et)) ⟨w.heap.size,cap,none⟩ 1).heap[b]? =w.heap[b]? :=by
    intro b hb
    simp only[World.freeze,Nat.one_ne_zero,if_false,Array.getElem?_modify]
    rw[if_neg (by omega)]
    exact alloc_old (w:=w.drew) _ b hb
   have bG:(World.freeze (w.drew.alloc (.cells cells et)) ⟨w.heap.size,cap,none⟩ 1).heap[w.heap.size]? =some (.cells cells et (cells.size,cells.size+1)):=by
    simp only[World.freeze,Nat.one_ne_zero,if_false,Array.getElem?_modify,if_true]
    have:=ec (w:=w.drew) (.cells cells et)
    have e1:w.drew.heap.size=w.heap.size:=rfl
    rw[e1] at this
    rw[this]
    simp [fB]
   have BP:(World.freeze (w.drew.alloc (.cells cells et)) ⟨w.heap.size,cap,none⟩ 1).heap.size=w.heap.size+1:=by simp [World.freeze]
   refine fe hR aL (hd d aL) (bP (by simp) d aL) (m:=[]) (fz:=true) (u:=true) (vals:=l.map fun b=>Value.int .u8 b.toNat) (v:= .slice (some ⟨w.heap.size,0,none⟩) l.length cap)
    (w':=World.freeze (w.drew.alloc (.cells cells et)) ⟨w.heap.size,cap,none⟩ 1) ?_ ?_ (by rw[BP];omega) Ib (by simp [Value.ownBlock]) (by simp [bV]) rfl ?_ ?_ rfl rfl rfl
   ·have A5:(w.drew.alloc (.cells cells et)).shape? w.heap.size=some (et,cap):=by
     have:=ec (w:=w.drew) (.cells cells et)
     have e1:w.drew.heap.size=w.heap.size:=rfl
     rw[e1] at this
     unfold World.shape?
     rw[this]
     simp [fB]
    simp only[execOp,ho,hx.1,convert,Sem.run_bind,run_underlying hk,run_underlying hs,run_underlying het,Result.andThen_ok,Conv.stringToBytes,run_choose]
    simp only[Question.forced,Bool.false_eq_true,if_false,Result.andThen_ok,dz,lr,newRow,Sem.run_bind,run_newObj,World.drew_eq,World.alloc_eq]
    have AZ:(Array.map (fun b:UInt8=>Value.int IntKind.u8 ↑b.toNat) l.toArray++Array.replicate (cap - l.length) (Value.int IntKind.u8 0))=cells:=by simp [cells]
    rw[AZ]
    simp [markStringish,A5]
   ·refine⟨hR.kept.os,hR.kept.tape,hR.kept.output,by rw[BP];have:=hR.kept.size;omega,fun k h2 h3=> ?_⟩
    rw[Ib k (by have:=hR.kept.size;omega)]
    exact hR.kept.block k h2 h3
   ·refine⟨by simp,.inr ⟨w.heap.size,cap,cells,by simp,by simpa using bG,by simpa using IA,IB,by simp [fB], ?_⟩⟩
    simp [cells]
   ·intro β φ hc
    refine⟨List.replicate l.length [],⟨by simp,fun i r' f' hi hf=> ?_⟩,by simp,by simp⟩
    have ET:i<l.length:=by
     have:=(List.getElem?_eq_some_iff.1 hi).1
     simpa using this
    have E6:r'=cS l[i]:=by simpa [ET] using hi.symm
    have Bq:f'=[]:=by
     have:=hf
     rw[List.getElem?_replicate,if_pos ET] at this
     injection this with this
     exact this.symm
    subst E6 Bq
    unfold cS
    simp only[a9,bY]
    refine⟨.int l[i].toNat,[],.int .u8 l[i].toNat,[],[],rfl, ?_,⟨_,rfl,rfl, ?_,rfl⟩,⟨rfl,rfl⟩,rfl⟩
    ·simp [ET]
    ·rw[eB]
     have h1:IntKind.u8.min=0:=by decide
     have h2:IntKind.u8.max=255:=by decide
     have:=l[i].toNat_lt
     omega
  ·simp at he
 ·simp at he
end
end Go.Proofs.YtnlkklmcfafgeaaGreat.Vm
set_option linter.unusedVariables false
set_option linter.unusedSimpArgs false
namespace Go.Proofs.YtnlkklmcfafgeaaGreat.Vm
def FV (w:World) (k:AK) (ds:List DC) (v:Value) (fp:List Nat):Prop:=
 ∃vs:List Value,(bif k.agg then v= .agg vs.toArray else (vs=[v]∧v.oneCell'=true))∧(∀x∈vs,x.oneCell'=true)∧a9 w k.bD ds (fun j=>vs[j]?) fp∧vs.length=k.bD.length
def dr (w:World):List AK→List DC→List Value→List Nat→Prop
 | [],ds,vs,fp=>ds=[]∧vs=[]∧fp=[]
 | k::ks,ds,vs,fp=>∃d1 d2 v cN f1 f2,ds=d1++d2∧vs=v::cN∧FV w k d1 v f1∧dr w ks d2 cN f2∧fp=f1++f2
def dm (w:World):List RC→List DC→List Value→List Nat→List Nat→List Nat→Prop
 | [],ds,vs,φ,im,tp=>ds=[]∧vs=[]∧φ=[]∧im=[]∧tp=[]
 | .d_ c::cs,ds,vs,φ,im,tp=>∃d aX v cN f1 Ff,ds=d::aX∧vs=v::cN∧bY w c d v f1∧dm w cs aX cN φ Ff tp∧im=f1++Ff
 | .own t e::cs,ds,vs,φ,im,tp=>∃rows aX v cN vals aA φ' Bm,ds= .sl rows::aX∧vs=v::cN∧cm w t e.length false v rows.length vals∧dO w e rows vals aA∧
   dm w cs aX cN φ' im Bm∧φ=(v.ownBlock.toList++aA.flatten)++φ'∧tp=v.ownBlock.toList++Bm
 | .deep t e ts::cs,ds,vs,φ,im,tp=>∃rows aX v cN vals aS φ' Bm,ds= .sl rows::aX∧vs=v::cN∧cm w t e.length false v rows.length vals∧bK w e ts rows vals (fun _=>none) aS∧
   dm w cs aX cN φ' im Bm∧φ=(v.ownBlock.toList++aS.flatten)++φ'∧tp=(v.ownBlock.toList++aS.flatten)++Bm
def fk (w:World):List RK→List DC→List Value→List Nat→List Nat→List Nat→Prop
 | [],ds,vs,φ,im,tp=>ds=[]∧vs=[]∧φ=[]∧im=[]∧tp=[]
 | k::ks,ds,vs,φ,im,tp=>∃d1 d2 v cN us D5 Bn i1 i2 t1 t2,ds=d1++d2∧vs=v::cN∧(bif k.agg then v= .agg us.toArray else us=[v])∧(∀x∈us,x.oneCell'=true)∧dm w k.cells d1 us D5 i1 t1∧
   fk w ks d2 cN Bn i2 t2∧φ=D5++Bn∧im=i1++i2∧tp=t1++t2
def pack:List Value→Value
 | [x]=>x
 | l=> .tuple l.toArray
def Ee (P:Program) (g:Nat) (s:Sum):Prop:=
 (∃fn,P.funcs[g]? =some fn∧fn.body.isSome=true∧(fn.name== "runtime.NumGoroutine")=false)∧
 ∀(w:World) (ds:List DC) (vals:List Value) (fp:List Nat),dr w s.ps ds vals fp→(s.fn ds).1=true→
  Calls P g vals.toArray w fun e w'=>∃vs φ im tp,e= .returned (pack vs)∧Kept Own.none w w'∧fk w' s.rs (s.fn ds).2 vs φ im tp∧φ.Nodup∧
   (∀b∈φ,w.heap.size≤b∧b<w'.heap.size)∧∀b∈im,(b∈fp∨w.heap.size≤b)∧b ∉ tp
def di (w:World):List CT→List TypeId→List DC→List Value→List Nat→Prop
 | [],ts,ds,us,mb=>ts=[]∧ds=[]∧us=[]∧mb=[]
 | .sl e::cs,ts,ds,us,mb=>∃t dN rows aX v aM vals aA gb,ts=t::dN∧ds= .sl rows::aX∧us=v::aM∧aq e=true∧cm w t e.length false v rows.length vals∧dO w e rows vals aA∧
   di w cs dN aX aM gb∧mb=v.ownBlock.toList++gb
 | c::cs,ts,ds,us,mb=>∃d aX v aM,ds=d::aX∧us=v::aM∧bY w c d v []∧di w cs ts aX aM mb
def gO (w:World) (t:TT) (e:List CT) (rows:List (List DC)) (v:Value) (mb:List Nat):Prop:=
 match t with
 | .flat t=>aq e=true∧∃vals aA,cm w t e.length false v rows.length vals∧dO w e rows vals aA∧mb=v.ownBlock.toList
 | .deep t its=>∃vals aS,cm w t e.length false v rows.length vals∧bK w e its rows vals (fun _=>none) aS∧mb=v.ownBlock.toList++aS.flatten
def aR (w:World):List CT→List TT→List DC→List Value→List Nat→Prop
 | [],ts,ds,us,mb=>ts=[]∧ds=[]∧us=[]∧mb=[]
 | .sl e::cs,ts,ds,us,mb=>∃t dN rows aX v aM m1 gb,ts=t::dN∧ds= .sl rows::aX∧us=v::aM∧gO w t e rows v m1∧aR w cs dN aX aM gb∧mb=m1++gb
 | c::cs,ts,ds,us,mb=>∃d aX v aM,ds=d::aX∧us=v::aM∧bY w c d v []∧aR w cs ts aX aM mb
def iX (w:World):List CT→List TT→List DC→List Value→List Nat→Prop
 | [],_,ds,us,mb=>ds=[]∧us=[]∧mb=[]
 | .sl e::cs,ts,ds,us,mb=>∃t dN rows aX v aM m1 gb,ts=t::dN∧ds= .sl rows::aX∧us=v::aM∧gO w t e rows v m1∧iX w cs dN aX aM gb∧mb=m1++gb
 | _::cs,ts,ds,us,mb=>∃v aM,us=v::aM∧iX w cs ts ds aM mb
def gn (w:World) (k:AK):Option MK→List DC→Value→List Nat→List Nat→Prop
 | none,d,v,f,b=>FV w k d v f∧b=[]
 | some (.box t),d,v,f,b=>∃(g:Nat) (us:List Value),v= .pointer (some ⟨g,0,none⟩)∧w.heap[g]? =some (.cells us.toArray t (0,0))∧(∀x∈us,x.oneCell'=true)∧a9 w k.bD d (fun j=>us[j]?) f∧us.length=k.bD.length∧b=[g]
 | some (.rows ts),d,v,f,b=>∃us:List Value,(bif k.agg then v= .agg us.toArray else (us=[v]∧v.oneCell'=true))∧(∀x∈us,x.oneCell'=true)∧aR w k.bD ts d us b∧f=[]
 | some (.jA ts),d,v,f,b=>∃us:List Value,(bif k.agg then v= .agg us.toArray else (us=[v]∧v.oneCell'=true))∧(∀x∈us,x.oneCell'=true)∧aR w k.bD ts d us b∧f=[]
 | some (.cL t ts),d,v,f,b=>∃(g:Nat) (us:List Value) (m:List Nat),v= .pointer (some ⟨g,0,none⟩)∧w.heap[g]? =some (.cells us.toArray t (0,0))∧(∀x∈us,x.oneCell'=true)∧aR w k.bD ts d us m∧b=g::m∧f=[]
def cK (w:World):List AK→List (Option MK)→List DC→List Value→List Nat→List Nat→Prop
 | [],ms,ds,vs,fp,mb=>ms=[]∧ds=[]∧vs=[]∧fp=[]∧mb=[]
 | k::ks,ms,ds,vs,fp,mb=>∃m Eb d1 d2 v cN f1 f2 b1 b2,ms=m::Eb∧ds=d1++d2∧vs=v::cN∧gn w k m d1 v f1 b1∧cK w ks Eb d2 cN f2 b2∧fp=f1++f2∧mb=b1++b2
def DH (w:World) (k:AK):Option MK→List DC→Value→List Nat→List Nat→Prop
 | none,d,_,im,b=>d=[]∧im=[]∧b=[]
 | some (.box t),d,v,im,b=>∃(g:Nat) (us:List Value),v= .pointer (some ⟨g,0,none⟩)∧w.heap[g]? =some (.cells us.toArray t (0,0))∧(∀x∈us,x.oneCell'=true)∧a9 w k.bD d (fun j=>us[j]?) im∧us.length=k.bD.length∧b=[g]
 | some (.rows ts),d,v,im,b=>∃us:List Value,(bif k.agg then v= .agg us.toArray else us=[v])∧iX w k.bD ts d us b∧im=[]
 | some (.jA _),d,_,im,b=>d=[]∧im=[]∧b=[]
 | some (.cL t ts),d,v,im,b=>∃(g:Nat) (us:List Value) (m:List Nat),v= .pointer (some ⟨g,0,none⟩)∧w.heap[g]? =some (.cells us.toArray t (0,0))∧(∀x∈us,x.oneCell'=true)∧aR w k.bD ts d us m∧b=g::m∧im=[]
def lP (w:World):List AK→List (Option MK)→List DC→List Value→List Nat→List Nat→Prop
 | [],_,ds,vs,im,mb=>ds=[]∧vs=[]∧im=[]∧mb=[]
 | k::ks,ms,ds,vs,im,mb=>∃m Eb d1 d2 v cN i1 i2 b1 b2,ms=m::Eb∧ds=d1++d2∧vs=v::cN∧DH w k m d1 v i1 b1∧lP w ks Eb d2 cN i2 b2∧im=i1++i2∧mb=b1++b2
def Cq (P:Program) (g:Nat) (s:Sum):Prop:=
 (∃fn,P.funcs[g]? =some fn∧fn.body.isSome=true∧(fn.name== "runtime.NumGoroutine")=false)∧
 ∀(w:World) (ds:List DC) (vals:List Value) (fp mb:List Nat),cK w s.ps s.ms ds vals fp mb→mb.Nodup→(∀b∈mb,b ∉ fp)→(s.fn ds).1=true→
  Calls P g vals.toArray w fun e w'=>∃vs φ im tp mK rd od ψ,e= .returned (pack vs)∧(s.fn ds).2=rd++od∧rd.length=cl s.rs∧Kept ⟨fun b=>b∈mb,fun _=>False,[]⟩ w w'∧fk w' s.rs rd vs φ im tp∧φ.Nodup∧
   (∀b∈φ,(b∈mb∨w.heap.size≤b)∧b<w'.heap.size)∧lP w' s.ps s.ms od vals mK ψ∧ψ.Nodup∧(∀b∈ψ,(b∈mb∨w.heap.size≤b)∧b<w'.heap.size∧b ∉ φ)∧∀b∈mK,(b∈fp∨w.heap.size≤b)∧b ∉ tp∧b ∉ ψ∧eY s.ms=false
def G8 (P:Program) (g:Nat) (s:Sum) (t:TypeId) (bD:List CT):Prop:=
 (∃fn,P.funcs[g]? =some fn∧fn.body.isSome=true∧(fn.name== "runtime.NumGoroutine")=false)∧
 ∀(w:World) (ds:List DC) (vals:List Value) (fp:List Nat),dr w s.ps ds vals fp→(s.fn ds).1=true→
  Calls P g vals.toArray w fun e w'=>∃(b:Nat) (us:List Value) (im:List Nat),e= .returned (.pointer (some ⟨b,0,none⟩))∧Kept Own.none w w'∧w.heap.size≤b∧b<w'.heap.size∧
   w'.heap[b]? =some (.cells us.toArray t (0,0))∧(∀x∈us,x.oneCell'=true)∧a9 w' bD (s.fn ds).2 (fun j=>us[j]?) im∧us.length=bD.length∧∀x∈im,(x∈fp∨w.heap.size≤x)∧x≠b
def gP (P:Program) (g:Nat) (s:Sum):Prop:=
 bif s.G_ then True else
 match s.pt with
 | some (t,bD)=>G8 P g s t bD
 | none=>
  match s.ms with
  | []=>Ee P g s
  | _::_=>Cq P g s
def bH (P:Program) (Γ:Ctx):Prop:=∀g s,Gh Γ g=some s→gP P g s
section
variable {P:Program} {Γ:Ctx} {w0:World} {S:Own} {st:St} {o:Oper} {e:cJ} {a:Act} {w:World}
variable {f:Nat→SV} {h:Nat→Option aj} {β:Env} {φ:Nat→List Nat} {tm:Array Value}
theorem lU (hc:Core w0 S f h β φ tm w):∀(ks:List AK) (ss:List SV) (vs:List Value) (q:List DC×eZ),af w (Av h β) β ss vs→(jt ks ss).val f h=some q→
  ∃fp,dr w ks q.1 vs fp∧bV h q.2∧∀b∈fp,(¬Av h β b)∨∃x∈q.2,b∈eX h β x.1
 | [],[],vs,q,hs,hq=>by
  simp only[jt,M.aa,Option.some.injEq] at hq
  subst hq
  simp only[af] at hs
  exact⟨[],⟨rfl,hs,rfl⟩,by simp [bV],by simp⟩
 | [],_::_,vs,q,hs,hq=>by simp [jt] at hq
 | _::_,[],vs,q,hs,hq=>by simp [jt] at hq
 | k::ks,s::ss,vs,q,hs,hq=>by
  simp only[af] at hs
  obtain⟨v,l,rfl,h1,h2⟩:=hs
  simp only[jt,M.ae,Option.bind_eq_some_iff,M.aa,Option.some.injEq] at hq
  obtain⟨q1,aG,q2,cz,rfl⟩:=hq
  obtain⟨gw,DM,Dp,iP⟩:=lU hc ks ss l q2 h2 cz
  have one:∃lG,FV w k q1.1 v lG∧bV h q1.2.1∧∀b∈lG,(¬Av h β b)∨∃x∈q1.2.1,b∈eX h β x.1:=by
   cases hk:k.agg with
   | true=>
    cases s with
    | agg cs=>
     simp only[hk] at aG
     simp only[ak] at h1
     obtain⟨us,rfl,gl,bd⟩:=h1
     obtain⟨lG,hr,hm,cR,_⟩:=d6 hc k.bD cs us q1 gl aG
     have hl:=af.length _ _ gl
     have j_:=cG _ _ _ aG
     exact⟨lG,⟨us,by rw[hk];rfl,bd,hr,by omega⟩,hm,cR⟩
    | _=>simp [hk] at aG
   | false=>
    have lx:(cg k.bD [s]).val f h=some q1:=by
     cases s<;>simp only[hk] at aG<;>first | exact aG | (simp at aG)
    have hO:af w (Av h β) β [s] [v]:=by simp only[af];exact⟨v,[],rfl,h1,rfl⟩
    obtain⟨lG,hr,hm,cR,_⟩:=d6 hc k.bD [s] [v] q1 hO lx
    have j_:=cG _ _ _ lx
    have bd:v.oneCell'=true:=by
     cases EL:k.bD with
     | nil=>rw[EL] at j_;simp at j_
     | cons c cs=>
      rw[EL] at hr
      simp only[a9] at hr
      obtain⟨d,r',v',f1,f2,_,h0,h3,_⟩:=hr
      simp at h0
      subst h0
      exact h3.one
    exact⟨lG,⟨[v],by rw[hk];exact⟨rfl,bd⟩,by simpa using bd,hr,by simpa using j_⟩,hm,cR⟩
  obtain⟨lG,GD,F6,jC⟩:=one
  refine⟨lG++gw,⟨q1.1,q2.1,v,l,lG,gw,rfl,rfl,GD,DM,rfl⟩,fb F6 Dp, ?_⟩
  intro b hb
  rcases List.mem_append.1 hb with hb | hb
  ·rcases jC b hb with h3 | ⟨x,hx,h3⟩
   ·exact .inl h3
   ·exact .inr ⟨x,List.mem_append_left _ hx,h3⟩
  ·rcases iP b hb with h3 | ⟨x,hx,h3⟩
   ·exact .inl h3
   ·exact .inr ⟨x,List.mem_append_right _ hx,h3⟩
structure ar where
 id:Nat
 t:TypeId
 e:List CT
 rows:List (List DC)
 v:Value
 aA:List (List Nat)
 ts:Option (List TypeId)
def ar.obj (x:ar):aj:=
 match x.ts with
 | none=> .row x.t x.e x.rows false true
 | some ts=> .deep x.t x.e ts x.rows none
def ar.bE (x:ar):List Nat:=x.v.ownBlock.toList++x.aA.flatten
def ar.al (x:ar):List Nat:=
 match x.ts with
 | none=>x.v.ownBlock.toList
 | some _=>x.bE
def ar.ok (w:World) (x:ar):Prop:=
 match x.ts with
 | none=>∃vals,cm w x.t x.e.length false x.v x.rows.length vals∧dO w x.e x.rows vals x.aA
 | some ts=>∃vals,cm w x.t x.e.length false x.v x.rows.length vals∧bK w x.e ts x.rows vals (fun _=>none) x.aA
theorem ar.ah (x:ar):∀b∈x.al,b∈x.bE:=by
 intro b hb
 unfold ar.al at hb
 split at hb
 ·exact List.mem_append_left _ hb
 ·exact hb
theorem ar.iO (x:ar) {β:Env} (hv:β.val x.id=x.v) (hn:β.nb x.id=x.aA.flatten):Vm.al β x.id x.obj=x.al:=by
 unfold ar.obj ar.al
 cases x.ts with
 | none=>simp [Vm.al,hv]
 | some ts=>simp [Vm.al,hv,hn,ar.bE]
theorem ar.ids (x:ar):cF x.obj=[]:=by
 unfold ar.obj
 cases x.ts<;>rfl
theorem ar.Jz {w:World} {x:ar} (h:x.ok w) {av:Nat→Prop} {β:Env} (hv:β.val x.id=x.v) (hn:β.nb x.id=x.aA.flatten) (ha:∀b∈x.aA.flatten,b ∉ x.al→¬av b) (hd:x.bE.Nodup):fU w av β x.id x.obj x.bE:=by
 unfold ar.ok at h
 unfold ar.obj
 cases FP:x.ts with
 | none=>
  rw[FP] at h
  obtain⟨vals,h1,h2⟩:=h
  refine⟨vals,x.aA,by rw[hv];exact h1,h2,fun b hb=>ha b hb ?_,by rw[hv];rfl⟩
  unfold ar.al
  rw[FP]
  intro ax
  unfold ar.bE at hd
  rw[List.nodup_append] at hd
  exact hd.2.2 b ax b hb rfl
 | some ts=>
  rw[FP] at h
  obtain⟨vals,h1,h2⟩:=h
  exact⟨vals,x.aA,by rw[hv];exact h1,h2,hn,by rw[hv];rfl⟩
def fC:List ar→Nat→Option ar
 | [],_=>none
 | x::l,i=>if i=x.id then some x else fC l i
theorem bg {N:List ar} {j:Nat} {x:ar} (h:fC N j=some x):x∈N∧x.id=j:=by
 induction N with
 | nil=>simp [fC] at h
 | cons y l ih=>
  simp only[fC] at h
  split at h
  ·rename_i hj
   injection h with h
   subst h
   exact⟨List.mem_cons_self ..,hj.symm⟩
  ·obtain⟨h1,h2⟩:=ih h
   exact⟨List.mem_cons_of_mem _ h1,h2⟩
theorem mr {N:List ar} {x:ar} (hx:x∈N) (hn:(N.map (·.id)).Nodup):fC N x.id=some x:=by
 induction N with
 | nil=>simp at hx
 | cons y l ih=>
  simp only[List.map_cons,List.nodup_cons] at hn
  simp only[fC]
  rcases List.mem_cons.1 hx with rfl | hx
  ·simp
  ·have:x.id≠y.id:=fun e=>hn.1 (e ▸ List.mem_map_of_mem hx)
   rw[if_neg this]
   exact ih hx hn.2
def cU (N:List ar):List (Nat×Option aj):=N.map fun x=>(x.id,some x.obj)
theorem AW (N:List ar) (l:List (Nat×Option aj)) (j:Nat):fo (cU N++l) h j=match fC N j with | some x=>some x.obj | none=>fo l h j:=by
 induction N with
 | nil=>rfl
 | cons y N ih=>
  simp only[cU,List.map_cons,List.cons_append,fo,az,fC]
  split
  ·rfl
  ·exact ih
def Env.fQ (β:Env) (N:List ar):Env:=⟨β.cW,fun j=>match fC N j with | some x=>x.v | none=>β.val j,β.gI,fun j=>match fC N j with | some x=>x.aA.flatten | none=>β.nb j⟩
theorem cX {N:List ar} (h:(N.flatMap ar.bE).Nodup):(∀x∈N,x.bE.Nodup)∧∀x∈N,∀y∈N,x≠y→∀b∈x.bE,b ∉ y.bE:=by
 induction N with
 | nil=>simp
 | cons z l ih=>
  rw[List.flatMap_cons,List.nodup_append] at h
  obtain⟨h1,h2,h3⟩:=h
  obtain⟨i1,i2⟩:=ih h2
  refine⟨fun x hx=> ?_,fun x hx y hy Ar b hb ax=> ?_⟩
  ·rcases List.mem_cons.1 hx with rfl | hx
   ·exact h1
   ·exact i1 x hx
  ·rcases List.mem_cons.1 hx with BT | BT<;>rcases List.mem_cons.1 hy with BU | BU
   ·exact Ar (BT.trans BU.symm)
   ·subst BT
    exact h3 b hb b (List.mem_flatMap.2 ⟨y,BU,ax⟩) rfl
   ·subst BU
    exact h3 b ax b (List.mem_flatMap.2 ⟨x,BT,hb⟩) rfl
   ·exact i2 x BT y BU Ar b hb ax
theorem Core.FX (hc:Core w0 S f h β φ tm w) {w':World} {N:List ar} (hs:w.heap.size≤w'.heap.size) (hw:∀b,b<w.heap.size→w'.heap[b]? =w.heap[b]?) (hk:w0.heap.size≤w.heap.size)
  (bA:∀x∈N,h x.id=none∧(∀i,x.id ∉ bX (f i))∧∀k o,h k=some o→x.id ∉ cF o) (aJ:∀x∈N,ar.ok w' x) (dV:(N.map (·.id)).Nodup)
  (hnd:(N.flatMap ar.bE).Nodup) (mJ:∀b∈N.flatMap ar.bE,w.heap.size≤b∧b<w'.heap.size):
  Core w0 S f (fun j=>match fC N j with | some x=>some x.obj | none=>h j) (β.fQ N) (fun j=>match fC N j with | some x=>x.bE | none=>φ j) tm w':=by
 have en:∀x∈N,∀b∈x.bE,b∈N.flatMap ar.bE:=fun x hx b hb=>List.mem_flatMap.2 ⟨x,hx,hb⟩
 have lJ:∀j oj,fC N j=none→al (β.fQ N) j oj=al β j oj:=by
  intro j oj hj
  cases oj<;>simp [al,Env.fQ,hj]
 have jM:∀j x,fC N j=some x→al (β.fQ N) j x.obj=x.al:=by
  intro j x hj
  obtain⟨_,rfl⟩:=bg hj
  exact x.iO (by simp [Env.fQ,hj]) (by simp [Env.fQ,hj])
 have JQ:∀b,Av (fun j=>match fC N j with | some x=>some x.obj | none=>h j) (β.fQ N) b→Av h β b∨(w.heap.size≤b∧∃x∈N,b∈x.al):=by
  rintro b (⟨j,oj,hj,br⟩ | hb)
  case inr=>exact .inl (.inr hb)
  cases hl:fC N j with
  | none=>
   simp only[hl] at hj
   rw[lJ j oj hl] at br
   exact .inl (.inl ⟨j,oj,hj,br⟩)
  | some x=>
   simp only[hl,Option.some.injEq] at hj
   subst hj
   rw[jM j x hl] at br
   have hx:=(bg hl).1
   exact .inr ⟨(mJ b (en x hx b (x.ah b br))).1,x,hx,br⟩
 refine hc.mG (fun j=>(fC N j).isSome=true) hs (fun b hb _=>hw b hb) (fun b hb=>(JQ b hb).imp id (·.1)) ?_ ?_ ?_ ?_
 ·intro i j hj hx
  obtain⟨x,hx⟩:=Option.isSome_iff_exists.1 hx
  obtain⟨hm,rfl⟩:=bg hx
  exact (bA x hm).2.1 i hj
 ·intro j hj
  have:fC N j=none:=by simpa using hj
  simp [Env.fQ,this]
 ·intro j oj hj
  cases hl:fC N j with
  | none=>
   simp only[hl] at hj
   refine .inl ⟨by simp [hl],hj,by simp [Env.fQ,hl],by simp, ?_,fun b hb=>hw b ?_⟩
   ·intro i hi hx
    obtain⟨x,hx⟩:=Option.isSome_iff_exists.1 hx
    obtain⟨hm,rfl⟩:=bg hx
    exact (bA x hm).2.2 j oj hj hi
   ·exact ((hc.fresh j oj hj).2 b (ah (hc.ay j oj hj) b hb)).2
  | some x=>
   simp only[hl,Option.some.injEq] at hj
   subst hj
   obtain⟨hm,rfl⟩:=bg hl
   refine .inr ⟨ar.Jz (aJ x hm) (by simp [Env.fQ,hl]) (by simp [Env.fQ,hl]) ?_ ((cX hnd).1 x hm), ?_, ?_⟩
   ·intro b hb GP hx
    have fD:b∈x.bE:=List.mem_append_right _ hb
    have mO:=(mJ b (en x hm b fD)).1
    rcases JQ b hx with Co | ⟨_,y,hy,Bo⟩
    ·have:=hc.Ii hk Co
     omega
    ·by_cases Ar:y=x
     ·subst Ar
      exact GP Bo
     ·exact (cX hnd).2 y hy x hm Ar b (y.ah b Bo) fD
   ·exact (cX hnd).1 x hm
   ·intro b hb
    have:=mJ b (en x hm b hb)
    exact⟨.inl (by omega),this.2⟩
 ·intro i j oi oj cM hi hj b hb
  cases JS:fC N i with
  | none=>
   simp only[JS] at hi hb
   cases DR:fC N j with
   | none=>
    simp only[DR] at hj ⊢
    exact hc.sep i j oi oj cM hi hj b hb
   | some y=>
    simp only
    intro Bo
    have:=(mJ b (en y (bg DR).1 b Bo)).1
    have:=((hc.fresh i oi hi).2 b hb).2
    omega
  | some x=>
   simp only[JS] at hi hb
   have Jn:=(bg JS).1
   cases DR:fC N j with
   | none=>
    simp only[DR] at hj ⊢
    intro br
    have:=(mJ b (en x Jn b hb)).1
    have:=((hc.fresh j oj hj).2 b br).2
    omega
   | some y=>
    simp only
    intro Bo
    have J0:=(bg DR).1
    have Ar:x≠y:=by
     rintro rfl
     exact cM ((bg JS).2.symm.trans (bg DR).2)
    exact (cX hnd).2 x Jn y J0 Ar b hb Bo
structure fL where
 id:Nat
 obj:aj
 nb:List Nat
 bE:List Nat
def mu:List fL→Nat→Option fL
 | [],_=>none
 | x::l,i=>if i=x.id then some x else mu l i
theorem df {U:List fL} {j:Nat} {x:fL} (h:mu U j=some x):x∈U∧x.id=j:=by
 induction U with
 | nil=>simp [mu] at h
 | cons y l ih=>
  simp only[mu] at h
  split at h
  ·rename_i hj
   injection h with h
   subst h
   exact⟨List.mem_cons_self ..,hj.symm⟩
  ·obtain⟨h1,h2⟩:=ih h
   exact⟨List.mem_cons_of_mem _ h1,h2⟩
theorem Fq {U:List fL} {x:fL} (hx:x∈U):∃y,mu U x.id=some y:=by
 induction U with
 | nil=>simp at hx
 | cons y l ih=>
  simp only[mu]
  split
  ·exact⟨_,rfl⟩
  ·rename_i cM
   rcases List.mem_cons.1 hx with rfl | hx
   ·exact absurd rfl cM
   ·exact ih hx
theorem lh {U:List fL} (h:(U.flatMap fL.bE).Nodup):(∀x∈U,x.bE.Nodup)∧∀x∈U,∀y∈U,x.id≠y.id→∀b∈x.bE,b ∉ y.bE:=by
 induction U with
 | nil=>simp
 | cons z l ih=>
  rw[List.flatMap_cons,List.nodup_append] at h
  obtain⟨h1,h2,h3⟩:=h
  obtain⟨i1,i2⟩:=ih h2
  refine⟨fun x hx=> ?_,fun x hx y hy Ar b hb ax=> ?_⟩
  ·rcases List.mem_cons.1 hx with rfl | hx
   ·exact h1
   ·exact i1 x hx
  ·rcases List.mem_cons.1 hx with BT | BT<;>rcases List.mem_cons.1 hy with BU | BU
   ·exact Ar (by rw[BT,BU])
   ·subst BT
    exact h3 b hb b (List.mem_flatMap.2 ⟨y,BU,ax⟩) rfl
   ·subst BU
    exact h3 b ax b (List.mem_flatMap.2 ⟨x,BT,hb⟩) rfl
   ·exact i2 x BT y BU Ar b hb ax
def Env.ca (β:Env) (N:List ar) (U:List fL):Env:=
 ⟨β.cW,fun j=>match fC N j with | some x=>x.v | none=>β.val j,β.gI,fun j=>match fC N j with | some x=>x.aA.flatten | none=>match mu U j with | some x=>x.nb | none=>β.nb j⟩
def lk (N:List ar) (U:List fL) (D:List Nat) (h:Nat→Option aj) (j:Nat):Option aj:=
 match fC N j with | some x=>some x.obj | none=>match mu U j with | some x=>some x.obj | none=>if j∈D then none else h j
def gR (N:List ar) (U:List fL) (φ:Nat→List Nat) (j:Nat):List Nat:=
 match fC N j with | some x=>x.bE | none=>match mu U j with | some x=>x.bE | none=>φ j
theorem Core.J8 (hc:Core w0 S f h β φ tm w) {w':World} {N:List ar} {U:List fL} {D im mb:List Nat} (hs:w.heap.size≤w'.heap.size) (hk:w0.heap.size≤w.heap.size)
  (GM:∀b∈mb,∃i,((∃x∈U,x.id=i)∨i∈D)∧∃o,h i=some o∧b∈al β i o)
  (hw:∀b,b<w.heap.size→b ∉ mb→w'.heap[b]? =w.heap[b]?)
  (hU:∀x∈U,∃o,h x.id=some o)
  (Md:∀x∈U,∀(av:Nat→Prop) (β':Env),β'.val x.id=β.val x.id→β'.cW x.id=β.cW x.id→β'.nb x.id=x.nb→(∀y∈N,β'.val y.id=y.v)→(∀b∈im,¬av b)→fU w' av β' x.id x.obj x.bE)
  (LA:(U.flatMap fL.bE).Nodup) (Hk:∀b∈U.flatMap fL.bE,(b∈mb∨w.heap.size≤b)∧b<w'.heap.size∧b ∉ N.flatMap ar.bE)
  (kp:∀b∈im,¬Av (lk N U D h) (β.ca N U) b) (mT:(N.map (·.id)).Nodup)
  (bA:∀x∈N,h x.id=none∧(∀i,x.id ∉ bX (f i))∧∀k o,h k=some o→x.id ∉ cF o) (aJ:∀x∈N,ar.ok w' x)
  (hnd:(N.flatMap ar.bE).Nodup) (mJ:∀b∈N.flatMap ar.bE,(b∈mb∨w.heap.size≤b)∧b<w'.heap.size):
  Core w0 S f (lk N U D h) (β.ca N U) (gR N U φ) tm w':=by
 have en:∀x∈N,∀b∈x.bE,b∈N.flatMap ar.bE:=fun x hx b hb=>List.mem_flatMap.2 ⟨x,hx,hb⟩
 have CM:∀x∈U,∀b∈x.bE,b∈U.flatMap fL.bE:=fun x hx b hb=>List.mem_flatMap.2 ⟨x,hx,hb⟩
 have MZ:∀x∈U,fC N x.id=none:=by
  intro x hx
  cases hl:fC N x.id with
  | none=>rfl
  | some y=>
   obtain⟨hm,he⟩:=bg hl
   obtain⟨o,ho⟩:=hU x hx
   have:=(bA y hm).1
   rw[he,ho] at this
   cases this
 have lJ:∀j oj,fC N j=none→mu U j=none→al (β.ca N U) j oj=al β j oj:=by
  intro j oj hj hu
  cases oj<;>simp [al,Env.ca,hj,hu]
 have jM:∀j x,fC N j=some x→al (β.ca N U) j x.obj=x.al:=by
  intro j x hj
  obtain⟨_,rfl⟩:=bg hj
  exact x.iO (by simp [Env.ca,hj]) (by simp [Env.ca,hj])
 have E5:∀j x,fC N j=none→mu U j=some x→fU w' (Av (lk N U D h) (β.ca N U)) (β.ca N U) j x.obj x.bE:=by
  intro j x hl hu
  obtain⟨hm,rfl⟩:=df hu
  exact Md x hm _ _ (by simp [Env.ca,hl]) rfl (by simp [Env.ca,hl,hu]) (fun y hy=>by simp [Env.ca,mr hy mT]) kp
 have E0:∀b∈mb,Av h β b:=by
  intro b hb
  obtain⟨i,_,o,ho,Iz⟩:=GM b hb
  exact .inl ⟨i,o,ho,Iz⟩
 have CF:∀b∈mb,∃i o,h i=some o∧b∈φ i:=by
  intro b hb
  obtain⟨i,_,o,ho,Iz⟩:=GM b hb
  exact⟨i,o,ho,Vm.ah (hc.ay _ _ ho) b Iz⟩
 have JQ:∀b,Av (lk N U D h) (β.ca N U) b→Av h β b∨w.heap.size≤b:=by
  rintro b (⟨j,oj,hj,br⟩ | hb)
  case inr=>exact .inl (.inr hb)
  unfold lk at hj
  cases hl:fC N j with
  | none=>
   simp only[hl] at hj
   cases hu:mu U j with
   | none=>
    simp only[hu] at hj
    split at hj
    ·cases hj
    rw[lJ j oj hl hu] at br
    exact .inl (.inl ⟨j,oj,hj,br⟩)
   | some x=>
    simp only[hu,Option.some.injEq] at hj
    subst hj
    have h1:=Vm.ah (E5 j x hl hu) b br
    rcases (Hk b (CM x (df hu).1 b h1)).1 with h2 | h2
    ·exact .inl (E0 b h2)
    ·exact .inr h2
  | some x=>
   simp only[hl,Option.some.injEq] at hj
   subst hj
   rw[jM j x hl] at br
   have hx:=(bg hl).1
   rcases (mJ b (en x hx b (x.ah b br))).1 with h2 | h2
   ·exact .inl (E0 b h2)
   ·exact .inr h2
 have FC:∀j oj,h j=some oj→(∀x∈U,x.id≠j)→j ∉ D→∀b∈φ j,b ∉ mb:=by
  intro j oj hj cM hnd b hb Iy
  obtain⟨i,hi,o,ho,Iz⟩:=GM b Iy
  refine hc.sep i j o oj (fun e=> ?_) ho hj b (Vm.ah (hc.ay _ _ ho) b Iz) hb
  rcases hi with ⟨x,hx,MS⟩ | hi
  ·exact cM x hx (MS.trans e)
  ·exact hnd (e ▸ hi)
 have Je:∀b,(b∈mb∨w.heap.size≤b)→¬β.gI b:=by
  intro b hb fa
  rcases hb with hb | hb
  ·obtain⟨i,o,ho,mg⟩:=CF b hb
   exact hc.Bc ho mg fa
  ·have:=(hc.gI b fa).1
   omega
 have EX:∀j oj,mu U j=none→(if j∈D then none else h j)=some oj→h j=some oj∧j ∉ D:=by
  intro j oj _ hj
  split at hj
  ·cases hj
  ·exact⟨hj,by assumption⟩
 have Jy:∀j,mu U j=none→∀x∈U,x.id≠j:=by
  intro j hu x hx he
  obtain⟨y,hy⟩:=Fq hx
  rw[he,hu] at hy
  cases hy
 refine hc.mG (fun j=>(fC N j).isSome=true) hs ?_ JQ ?_ ?_ ?_ ?_
 ·intro b hb hn
  exact hw b hb (fun Iy=>hn (E0 b Iy))
 ·intro i j hj hx
  obtain⟨x,hx⟩:=Option.isSome_iff_exists.1 hx
  obtain⟨hm,rfl⟩:=bg hx
  exact (bA x hm).2.1 i hj
 ·intro j hj
  have:fC N j=none:=by simpa using hj
  simp [Env.ca,this]
 ·intro j oj hj
  unfold lk at hj
  cases hl:fC N j with
  | none=>
   simp only[hl] at hj
   cases hu:mu U j with
   | none=>
    simp only[hu] at hj
    obtain⟨hj,IM⟩:=EX j oj hu hj
    refine .inl ⟨by simp [hl],hj,by simp [Env.ca,hl,hu],by simp [gR,hl,hu], ?_,fun b hb=> ?_⟩
    ·intro i hi hx
     obtain⟨x,hx⟩:=Option.isSome_iff_exists.1 hx
     obtain⟨hm,rfl⟩:=bg hx
     exact (bA x hm).2.2 j oj hj hi
    ·have fD:=Vm.ah (hc.ay j oj hj) b hb
     exact hw b ((hc.fresh j oj hj).2 b fD).2 (FC j oj hj (Jy j hu) IM b fD)
   | some x=>
    simp only[hu,Option.some.injEq] at hj
    subst hj
    have hm:=(df hu).1
    refine .inr ⟨by simpa only[gR,hl,hu] using E5 j x hl hu,by simpa only[gR,hl,hu] using (lh LA).1 x hm, ?_⟩
    simp only[gR,hl,hu]
    intro b hb
    obtain⟨h1,h2,_⟩:=Hk b (CM x hm b hb)
    refine⟨?_,h2⟩
    rcases h1 with h1 | h1
    ·obtain⟨i,o,ho,mg⟩:=CF b h1
     exact ((hc.fresh _ _ ho).2 b mg).1
    ·exact .inl (by omega)
  | some x=>
   simp only[hl,Option.some.injEq] at hj
   subst hj
   obtain⟨hm,rfl⟩:=bg hl
   refine .inr ⟨?_, ?_, ?_⟩
   ·simp only[gR,hl]
    refine ar.Jz (aJ x hm) (by simp [Env.ca,hl]) (by simp [Env.ca,hl]) ?_ ((cX hnd).1 x hm)
    rintro b hb GP hx
    have fD:b∈x.bE:=List.mem_append_right _ hb
    have Hl:=en x hm b fD
    have mO:=(mJ b Hl).1
    rcases hx with ⟨j,oj,hj,br⟩ | fa
    case inr=>exact Je b mO fa
    unfold lk at hj
    cases DR:fC N j with
    | some y=>
     simp only[DR,Option.some.injEq] at hj
     subst hj
     rw[jM j y DR] at br
     have hy:=(bg DR).1
     by_cases Ar:y=x
     ·subst Ar
      exact GP br
     ·exact (cX hnd).2 y hy x hm Ar b (y.ah b br) fD
    | none=>
     simp only[DR] at hj
     cases hu:mu U j with
     | some y=>
      simp only[hu,Option.some.injEq] at hj
      subst hj
      have h1:=Vm.ah (E5 j y DR hu) b br
      exact (Hk b (CM y (df hu).1 b h1)).2.2 Hl
     | none=>
      simp only[hu] at hj
      obtain⟨hj,IM⟩:=EX j oj hu hj
      rw[lJ j oj DR hu] at br
      have mP:=Vm.ah (hc.ay j oj hj) b br
      rcases mO with mO | mO
      ·exact FC j oj hj (Jy j hu) IM b mP mO
      ·have:=((hc.fresh j oj hj).2 b mP).2
       omega
   ·simp only[gR,hl]
    exact (cX hnd).1 x hm
   ·simp only[gR,hl]
    intro b hb
    have:=mJ b (en x hm b hb)
    refine⟨?_,this.2⟩
    rcases this.1 with h1 | h1
    ·obtain⟨i,o,ho,mg⟩:=CF b h1
     exact ((hc.fresh _ _ ho).2 b mg).1
    ·exact .inl (by omega)
 ·
  have kinds:∀j oj,lk N U D h j=some oj→∀b∈gR N U φ j,
    (∃x,fC N j=some x∧b∈x.bE)∨(∃x,fC N j=none∧mu U j=some x∧b∈x.bE)∨(fC N j=none∧mu U j=none∧(h j=some oj∧j ∉ D)∧b∈φ j):=by
   intro j oj hj b hb
   unfold lk at hj
   unfold gR at hb
   cases hl:fC N j with
   | some x=>simp only[hl] at hb;exact .inl ⟨x,rfl,hb⟩
   | none=>
    simp only[hl] at hj hb
    cases hu:mu U j with
    | some x=>simp only[hu] at hb;exact .inr (.inl ⟨x,rfl,rfl,hb⟩)
    | none=>simp only[hu] at hj hb;exact .inr (.inr ⟨rfl,rfl,EX j oj hu hj,hb⟩)
  have Fv:∀b,b∈N.flatMap ar.bE→∀j oj,mu U j=none→h j=some oj→j ∉ D→b∈φ j→False:=by
   intro b Hl j oj Bt hj IM br
   rcases (mJ b Hl).1 with h1 | h1
   ·exact FC j oj hj (Jy j Bt) IM b br h1
   ·have:=((hc.fresh j oj hj).2 b br).2
    omega
  intro i j oi oj cM hi hj b hb ax
  rcases kinds i oi hi b hb with ⟨x,hx,bx⟩ | ⟨x,_,hx,bx⟩ | ⟨_,LS,⟨hx,LQ⟩,bx⟩<;>rcases kinds j oj hj b ax with ⟨y,hy,D6⟩ | ⟨y,_,hy,D6⟩ | ⟨_,LV,⟨hy,LU⟩,D6⟩
  ·refine (cX hnd).2 x (bg hx).1 y (bg hy).1 ?_ b bx D6
   rintro rfl
   exact cM ((bg hx).2.symm.trans (bg hy).2)
  ·exact (Hk b (CM y (df hy).1 b D6)).2.2 (en x (bg hx).1 b bx)
  ·exact Fv b (en x (bg hx).1 b bx) j oj LV hy LU D6
  ·exact (Hk b (CM x (df hx).1 b bx)).2.2 (en y (bg hy).1 b D6)
  ·refine (lh LA).2 x (df hx).1 y (df hy).1 ?_ b bx D6
   rw[(df hx).2,(df hy).2]
   exact cM
  ·rcases (Hk b (CM x (df hx).1 b bx)).1 with h1 | h1
   ·exact FC j oj hy (Jy j LV) LU b D6 h1
   ·have:=((hc.fresh j oj hy).2 b D6).2
    omega
  ·exact Fv b (en y (bg hy).1 b D6) i oi LS hx LQ bx
  ·rcases (Hk b (CM y (df hy).1 b D6)).1 with h1 | h1
   ·exact FC i oi hx (Jy i LS) LQ b bx h1
   ·have:=((hc.fresh i oi hx).2 b bx).2
    omega
  ·exact hc.sep i j oi oj cM hx hy b bx D6
end
end Go.Proofs.YtnlkklmcfafgeaaGreat.Vm
namespace Go.Proofs.YtnlkklmcfafgeaaGreat.Vm
section
variable {P:Program} {Γ:Ctx} {w0:World} {S:Own} {st:St} {o:Oper} {e:cJ} {a:Act} {w:World}
variable {f:Nat→SV} {h:Nat→Option aj} {β:Env} {φ:Nat→List Nat} {tm:Array Value}
theorem dm.length {w:World} :∀(CW:List RC) (ds:List DC) (vs:List Value) (φ im tp:List Nat),dm w CW ds vs φ im tp→ds.length=CW.length
 | [],ds,vs,φ,im,tp,h=>by simp only[dm] at h;simp [h.1]
 | .d_ c::cs,ds,vs,φ,im,tp,h=>by
  simp only[dm] at h
  obtain⟨d,aX,v,cN,f1,Ff,rfl,_,_,h1,_⟩:=h
  simp [dm.length cs aX cN _ _ _ h1]
 | .own t e::cs,ds,vs,φ,im,tp,h=>by
  simp only[dm] at h
  obtain⟨rows,aX,v,cN,vals,aA,φ',Bm,rfl,_,_,_,h1,_⟩:=h
  simp [dm.length cs aX cN _ _ _ h1]
 | .deep t e ts::cs,ds,vs,φ,im,tp,h=>by
  simp only[dm] at h
  obtain⟨rows,aX,v,cN,vals,aS,φ',Bm,rfl,_,_,_,h1,_⟩:=h
  simp [dm.length cs aX cN _ _ _ h1]
theorem fJ {w':World} {d:Nat} :∀(CW:List RC) (k:Nat) (ds:List DC) (vs:List Value) (φ im tp:List Nat),dm w' CW ds vs φ im tp→
  ∃N:List ar,(cj d k CW ds).2=cU N∧N.map (·.id)=(List.range' k (dy CW)).map (ag d)∧(∀x∈N,x.ok w')∧N.flatMap ar.bE=φ∧N.flatMap ar.al=tp∧
   ∀(av:Nat→Prop) (β':Env),(∀x∈N,β'.val x.id=x.v)→(∀b∈im,¬av b)→af w' av β' (cj d k CW ds).1 vs
 | [],k,ds,vs,φ,im,tp,h=>by
  simp only[dm] at h
  obtain⟨rfl,rfl,rfl,rfl,rfl⟩:=h
  exact⟨[],rfl,rfl,by simp,rfl,rfl,by simp [cj,af]⟩
 | .d_ c::cs,k,ds,vs,φ,im,tp,h=>by
  simp only[dm] at h
  obtain⟨x,aX,v,cN,f1,Ff,rfl,rfl,h1,h2,rfl⟩:=h
  obtain⟨N,e1,e2,e3,e4,e5,e6⟩:=fJ cs k aX cN φ Ff tp h2
  refine⟨N,by simpa [cj] using e1,by simpa [dy] using e2,e3,e4,e5,fun av β' gm cR=> ?_⟩
  simp only[cj,List.headD_cons,List.tail_cons,af]
  exact⟨v,cN,rfl,dg h1 (fun b hb=>cR b (List.mem_append_left _ hb)),e6 av β' gm (fun b hb=>cR b (List.mem_append_right _ hb))⟩
 | .own t e::cs,k,ds,vs,φ,im,tp,h=>by
  simp only[dm] at h
  obtain⟨rows,aX,v,cN,vals,aA,φ',Bm,rfl,rfl,h1,h2,h3,rfl,rfl⟩:=h
  obtain⟨N,e1,e2,e3,e4,e5,e6⟩:=fJ cs (k+1) aX cN φ' im Bm h3
  refine⟨⟨ag d k,t,e,rows,v,aA,none⟩::N, ?_, ?_, ?_, ?_, ?_,fun av β' gm cR=> ?_⟩
  ·simp [cj,cU,ar.obj,DC.cq] at e1 ⊢
   exact e1
  ·simp only[List.map_cons,dy,List.range'_succ,e2]
  ·intro x hx
   rcases List.mem_cons.1 hx with rfl | hx
   ·exact⟨vals,h1,h2⟩
   ·exact e3 x hx
  ·simp [List.flatMap_cons,e4,ar.bE]
  ·simp [List.flatMap_cons,e5,ar.al]
  ·simp only[cj,List.headD_cons,List.tail_cons,af]
   refine⟨v,cN,rfl, ?_,e6 av β' (fun x hx=>gm x (List.mem_cons_of_mem _ hx)) cR⟩
   simp only[ak]
   exact⟨(gm _ (List.mem_cons_self ..)).symm,h1.one⟩
 | .deep t e ts::cs,k,ds,vs,φ,im,tp,h=>by
  simp only[dm] at h
  obtain⟨rows,aX,v,cN,vals,aS,φ',Bm,rfl,rfl,h1,h2,h3,rfl,rfl⟩:=h
  obtain⟨N,e1,e2,e3,e4,e5,e6⟩:=fJ cs (k+1) aX cN φ' im Bm h3
  refine⟨⟨ag d k,t,e,rows,v,aS,some ts⟩::N, ?_, ?_, ?_, ?_, ?_,fun av β' gm cR=> ?_⟩
  ·simp [cj,cU,ar.obj,DC.cq] at e1 ⊢
   exact e1
  ·simp only[List.map_cons,dy,List.range'_succ,e2]
  ·intro x hx
   rcases List.mem_cons.1 hx with rfl | hx
   ·exact⟨vals,h1,h2⟩
   ·exact e3 x hx
  ·simp [List.flatMap_cons,e4,ar.bE]
  ·simp [List.flatMap_cons,e5,ar.al,ar.bE]
  ·simp only[cj,List.headD_cons,List.tail_cons,af]
   refine⟨v,cN,rfl, ?_,e6 av β' (fun x hx=>gm x (List.mem_cons_of_mem _ hx)) cR⟩
   simp only[ak]
   exact⟨(gm _ (List.mem_cons_self ..)).symm,h1.one⟩
theorem jm {w':World} {d:Nat} :∀(B2:List RK) (k:Nat) (ds:List DC) (vs:List Value) (φ im tp:List Nat),fk w' B2 ds vs φ im tp→
  ∃N:List ar,(bl d k B2 ds).2=cU N∧N.map (·.id)=(List.range' k (bb B2)).map (ag d)∧(∀x∈N,x.ok w')∧N.flatMap ar.bE=φ∧N.flatMap ar.al=tp∧
   ∀(av:Nat→Prop) (β':Env),(∀x∈N,β'.val x.id=x.v)→(∀b∈im,¬av b)→af w' av β' (bl d k B2 ds).1 vs
 | [],k,ds,vs,φ,im,tp,h=>by
  simp only[fk] at h
  obtain⟨rfl,rfl,rfl,rfl,rfl⟩:=h
  exact⟨[],rfl,rfl,by simp,rfl,rfl,by simp [bl,af]⟩
 | r::rs,k,ds,vs,φ,im,tp,h=>by
  simp only[fk] at h
  obtain⟨d1,d2,v,cN,us,D5,Bn,i1,i2,t1,t2,rfl,rfl,hv,bd,h1,h2,rfl,rfl,rfl⟩:=h
  have hl:=dm.length _ _ _ _ _ _ h1
  obtain⟨N1,a1,a2,a3,a4,a5,a6⟩:=fJ (d:=d) r.cells k d1 us D5 i1 t1 h1
  obtain⟨N2,b1,b2,b3,b4,b5,b6⟩:=jm (d:=d) rs (k+dy r.cells) d2 cN Bn i2 t2 h2
  have ht:(d1++d2).take r.cells.length=d1:=by rw[←hl];simp
  have mR:(d1++d2).drop r.cells.length=d2:=by rw[←hl];simp
  refine⟨N1++N2, ?_, ?_, ?_,by simp [a4,b4],by simp [a5,b5],fun av β' gm cR=> ?_⟩
  ·simp only[bl,ht,mR,a1,b1,cU,List.map_append]
  ·rw[List.map_append,a2,b2,←List.map_append,List.range'_append_1]
   rfl
  ·intro x hx
   rcases List.mem_append.1 hx with hx | hx
   ·exact a3 x hx
   ·exact b3 x hx
  ·have s1:=a6 av β' (fun x hx=>gm x (List.mem_append_left _ hx)) (fun b hb=>cR b (List.mem_append_left _ hb))
   have s2:=b6 av β' (fun x hx=>gm x (List.mem_append_right _ hx)) (fun b hb=>cR b (List.mem_append_right _ hb))
   simp only[bl,ht,mR,af]
   refine⟨v,cN,rfl, ?_,s2⟩
   cases Iu:r.agg with
   | true=>
    rw[Iu,cond_true] at hv
    subst hv
    simp only[cond_true,ak]
    exact⟨us,rfl,s1,bd⟩
   | false=>
    rw[Iu,cond_false] at hv
    subst hv
    simp only[cond_false]
    generalize (cj d k r.cells d1).1=q at s1
    cases q with
    | nil=>simp [af] at s1
    | cons y l=>
     simp only[af] at s1
     obtain⟨v',l',e1,e2,_⟩:=s1
     injection e1 with e1
     subst e1
     simpa using e2
theorem dr.lt {w:World} :∀(ks:List AK) (ds:List DC) (vs:List Value) (fp:List Nat),dr w ks ds vs fp→∀b∈fp,b<w.heap.size
 | [],ds,vs,fp,h=>by simp only[dr] at h;simp [h.2.2]
 | k::ks,ds,vs,fp,h=>by
  simp only[dr] at h
  obtain⟨d1,d2,v,cN,f1,f2,rfl,rfl,⟨us,_,_,hr,_⟩,h2,rfl⟩:=h
  intro b hb
  rcases List.mem_append.1 hb with hb | hb
  ·exact a9.lt _ _ _ _ hr b hb
  ·exact dr.lt ks d2 cN f2 h2 b hb
theorem dm.jS {w:World} :∀(CW:List RC) (ds:List DC) (vs:List Value) (φ im tp:List Nat),hZ CW=false→dm w CW ds vs φ im tp→im=[]
 | [],ds,vs,φ,im,tp,_,h=>by simp only[dm] at h;exact h.2.2.2.1
 | .d_ c::cs,ds,vs,φ,im,tp,hn,h=>by
  simp only[dm] at h
  obtain⟨d,aX,v,cN,f1,Ff,rfl,_,h1,h2,rfl⟩:=h
  have:f1=[]∧hZ cs=false:=by
   cases c with
   | int k=>simp only[bY] at h1;obtain⟨n,_,_,_,e⟩:=h1;exact⟨e,by simpa [hZ] using hn⟩
   | bool=>simp only[bY] at h1;obtain⟨n,_,_,e⟩:=h1;exact⟨e,by simpa [hZ] using hn⟩
   | str=>simp only[bY] at h1;obtain⟨n,_,_,_,e⟩:=h1;exact⟨e,by simpa [hZ] using hn⟩
   | sl e=>simp [hZ] at hn
  rw[this.1,dm.jS cs aX cN _ _ _ this.2 h2]
  rfl
 | .own t e::cs,ds,vs,φ,im,tp,hn,h=>by
  simp only[dm] at h
  obtain⟨rows,aX,v,cN,vals,aA,φ',Bm,rfl,_,_,_,h1,_⟩:=h
  exact dm.jS cs aX cN _ _ _ (by simpa [hZ] using hn) h1
 | .deep t e ts::cs,ds,vs,φ,im,tp,hn,h=>by
  simp only[dm] at h
  obtain⟨rows,aX,v,cN,vals,aS,φ',Bm,rfl,_,_,_,h1,_⟩:=h
  exact dm.jS cs aX cN _ _ _ (by simpa [hZ] using hn) h1
theorem fk.jS {w:World} :∀(B2:List RK) (ds:List DC) (vs:List Value) (φ im tp:List Nat),(B2.any fun r=>hZ r.cells)=false→fk w B2 ds vs φ im tp→im=[]
 | [],ds,vs,φ,im,tp,_,h=>by simp only[fk] at h;exact h.2.2.2.1
 | r::rs,ds,vs,φ,im,tp,hn,h=>by
  simp only[fk] at h
  obtain⟨d1,d2,v,cN,us,D5,Bn,i1,i2,t1,t2,rfl,rfl,_,_,h1,h2,_,rfl,_⟩:=h
  simp only[List.any_cons,Bool.or_eq_false_iff] at hn
  rw[dm.jS _ _ _ _ _ _ hn.1 h1,fk.jS rs d2 cN _ _ _ hn.2 h2]
  rfl
theorem AQ (hc:Core w0 S st.get st.obj β φ a.tmps w):∀(xs:List Operand) (ss:List SV),(DL xs).val st.get st.obj=some ss→af w (Av st.obj β) β ss (xs.map a.eval)
 | [],ss,h=>by simp [DL] at h;subst h;simp [af]
 | x::xs,ss,h=>by
  simp only[DL,M.ae,Option.bind_eq_some_iff,M.aa,Option.some.injEq] at h
  obtain⟨s,h1,r,h2,rfl⟩:=h
  simp only[List.map_cons,af]
  exact⟨_,_,rfl,hc.ev h1,AQ hc xs r h2⟩
theorem B4 {c:Call} {g:Nat} {fn:Func} (ho:o.op= .call c) (hg:c.callee= .value (.func g)) (hf:P.funcs[g]? =some fn) (hb:fn.body.isSome=true) (hn:(fn.name== "runtime.NumGoroutine")=false):
  (execOp a.eval o).run P w= .ok (.enter g (c.args.map a.eval)) w:=by
 have ax:fn.body.isNone=false:=by cases h:fn.body<;>simp_all
 simp only[execOp,ho,resolve,hg,Act.eval,Deferred.ofValue,Sem.run_bind,Sem.run_pure,Result.andThen_ok,invoke,callFunc,run_program,hf,hn,ax,Bool.false_eq_true,if_false]
 simp
theorem C5 (eV:bH P Γ) {s:Sum} {g:Nat} (hs:Gh Γ g=some s) (eH:s.G_=false) (GR:s.pt=none) (JT:s.ms=[]) (hR:Rel w0 S st a w) {d:Nat} (aL:o.dst=some d) (hd:bc st.n d) (bP:e.ow≠[]→bB st d) {c:Call} (ho:o.op= .call c) (hg:c.callee= .value (.func g)) {l:List SV}
  (hl:(DL c.args.toList).val st.get st.obj=some l) (he:(kM Γ (some d) g l).val st.get st.obj=some e) (aJ:e.ok=true):Good P w0 S st o e a w:=by
 unfold kM at he
 rw[hs] at he
 simp only[eH,cond_false,GR,JT] at he
 cases Hi:Nat.blt (bb s.rs) 64
 ·simp [Hi] at he
 simp only[Hi,cond_true,M.ae,Option.bind_eq_some_iff] at he
 obtain⟨r,hr,he⟩:=he
 cases Ji:(!(shares s) || aO r.2)
 ·simp [Ji] at he
 simp only[Ji,cond_true,M.aa,Option.some.injEq] at he
 subst he
 have Hi:bb s.rs<64:=Nat.le_of_ble_eq_true Hi
 have hH:Ee P g s:=by have h0:=eV g s hs;unfold gP at h0;rw[eH,cond_false,GR] at h0;simp only[JT] at h0;exact h0
 obtain⟨⟨fn,hf,hb,hn⟩,Cy⟩:=hH
 obtain⟨β,φ,hc⟩:=hR.core
 obtain⟨fp,cy,kt,lu⟩:=lU hc s.ps l _ r (AQ hc _ l hl) hr
 have LC:=dr.lt _ _ _ _ cy
 intro Q
 unfold Oper.wp
 rw[B4 ho hg hf hb hn,Oper.upon_enter]
 have Fc:c.args.map a.eval=(c.args.toList.map a.eval).toArray:=by rw[←Array.toList_map,Array.toArray_toList]
 rw[Fc]
 refine (Cy w r.1 _ fp cy aJ).mono ?_
 rintro _ w' ⟨vs,J4,im,tp,rfl,hk,A3,hnd,mJ,kp⟩
 obtain⟨N,n1,n2,n3,n4,n5,n6⟩:=jm (d:=d) s.rs 0 _ vs J4 im tp A3
 let M':eZ:=bif shares s then r.2 else []
 have hM:bV st.obj M'∧aO M'=true:=by
  cases A5:shares s with
  | true=>
   have:M'=r.2:=by simp [M',A5]
   rw[this]
   exact⟨kt,by simpa [A5] using Ji⟩
  | false=>
   have:M'=[]:=by simp [M',A5]
   rw[this]
   exact⟨by simp [bV],rfl⟩
 have hfz:(bif shares s then ai r.2 else [])=ai M':=by cases A5:shares s<;>simp [M',A5,ai]
 have jF:=hc.gx M' hM.1 hM.2
 have CD:∀x∈N,x.id / 64=d∧x.id∈N.map (·.id):=by
  intro x hx
  have hm:x.id∈N.map (·.id):=List.mem_map_of_mem hx
  refine⟨?_,hm⟩
  rw[n2] at hm
  obtain⟨j,hj,f_⟩:=List.mem_map.1 hm
  rw[←f_]
  have:=List.mem_range'_1.1 hj
  exact cO d j (by omega)
 have mT:(N.map (·.id)).Nodup:=by
  rw[n2]
  refine List.Pairwise.map _ ?_ (List.nodup_range' ..)
  intro x y Ar e
  unfold ag at e
  omega
 have hle:=hR.kept.size
 have hw:∀b,b<w.heap.size→w'.heap[b]? =w.heap[b]? :=fun b hb=>hk.block b hb (fun h=>h)
 have Ki:=jF.FX (N:=N) hk.size hw hle ?_ n3 mT (by rw[n4];exact hnd) (by rw[n4];exact mJ)
 ·have hval:∀x∈N,(β.fQ N).val x.id=x.v:=by
   intro x hx
   simp [Env.fQ,mr hx mT]
  have EU:∀b∈im,¬Av (fun j=>match fC N j with | some x=>some x.obj | none=>fo (ai M') st.obj j) (β.fQ N) b:=by
   rintro b hb (⟨j,oj,hj,br⟩ | fa)
   case inr=>
    have ES:=kp b hb
    have Mj:=(jF.gI b fa).1
    rcases ES.1 with CB | mO
    ·cases A5:shares s with
     | false=>
      have:im=[]:=fk.jS _ _ _ _ _ _ (by simpa [shares] using A5) A3
      rw[this] at hb
      simp at hb
     | true=>
      have GC:M'=r.2:=by simp [M',A5]
      rcases lu b CB with h3 | ⟨x,hx,ko⟩
      ·exact h3 (.inr fa)
      ·exact dF hc hM.1 (by rw[GC];exact hx) ko (.inr fa)
    ·omega
   have ES:=kp b hb
   cases jI:fC N j with
   | some x=>
    simp only[jI,Option.some.injEq] at hj
    subst hj
    have hx:=(bg jI).1
    refine ES.2 ?_
    rw[←n5]
    refine List.mem_flatMap.2 ⟨x,hx, ?_⟩
    obtain⟨_,rfl⟩:=bg jI
    rwa [x.iO (by simp [Env.fQ,jI]) (by simp [Env.fQ,jI])] at br
   | none=>
    simp only[jI] at hj
    have mP:b∈al β j oj:=by
     cases oj<;>simp only[al,Env.fQ,jI] at br ⊢ <;>exact br
    have Kg:=((jF.fresh j oj hj).2 b (ah (jF.ay j oj hj) b mP)).2
    rcases ES.1 with CB | mO
    ·cases A5:shares s with
     | false=>
      have:im=[]:=fk.jS _ _ _ _ _ _ (by simpa [shares] using A5) A3
      rw[this] at hb
      simp at hb
     | true=>
      have GC:M'=r.2:=by simp [M',A5]
      rcases lu b CB with h3 | ⟨x,hx,ko⟩
      ·exact h3 (fX (.inl ⟨j,oj,hj,mP⟩))
      ·exact dF hc hM.1 (by rw[GC];exact hx) ko (.inl ⟨j,oj,hj,mP⟩)
    ·omega
  have eU:=n6 _ (β.fQ N) hval EU
  have CE:Kept S w0 w':=⟨hk.os.trans hR.kept.os,hk.tape.trans hR.kept.tape,hk.output.trans hR.kept.output,by have:=hk.size;omega,fun k h1 h2=>(hw k (by omega)).trans (hR.kept.block k h1 h2)⟩
  refine⟨pack vs,rfl,iI hR (fun d' h'=>by rw[aL] at h';injection h' with h';exact h' ▸ hd) CE ⟨β.fQ N,fun j=>match fC N j with | some x=>x.bE | none=>bo φ M' j, ?_, ?_⟩⟩
  ·have:fo ((bl d 0 s.rs (s.fn r.1).2).2++(bif shares s then ai r.2 else [])) (fc none st.obj)=fun j=>match fC N j with | some x=>some x.obj | none=>fo (ai M') st.obj j:=by
    funext j
    rw[n1,hfz,AW]
    rfl
   show Core w0 S st.get (fo ((bl d 0 s.rs (s.fn r.1).2).2++(bif shares s then ai r.2 else [])) (fc none st.obj)) _ _ _ _
   rw[this]
   exact Ki
  ·have:fo ((bl d 0 s.rs (s.fn r.1).2).2++(bif shares s then ai r.2 else [])) (fc none st.obj)=fun j=>match fC N j with | some x=>some x.obj | none=>fo (ai M') st.obj j:=by
    funext j
    rw[n1,hfz,AW]
    rfl
   show ak w' (Av (fo ((bl d 0 s.rs (s.fn r.1).2).2++(bif shares s then ai r.2 else [])) (fc none st.obj)) (β.fQ N)) (β.fQ N) (il (bl d 0 s.rs (s.fn r.1).2).1) (pack vs)
   rw[this]
   generalize (bl d 0 s.rs (s.fn r.1).2).1=q at eU
   match q,vs,eU with
   | [],vs,eU=>
    simp only[af] at eU
    subst eU
    simp only[il,pack,ak]
    exact⟨[],rfl,by simp [af]⟩
   | [x],vs,eU=>
    simp only[af] at eU
    obtain⟨v,l',rfl,h1,rfl⟩:=eU
    exact h1
   | x::y::q,vs,eU=>
    have E9:=eU
    simp only[af] at eU
    obtain⟨v,l',rfl,h1,v2,l2,rfl,h2,h3⟩:=eU
    simp only[il,pack]
    unfold ak
    exact⟨v::v2::l2,rfl,E9⟩
 ·intro x hx
  have h1:=(CD x hx).1
  have bP:=bP (by
   show (bl d 0 s.rs (s.fn r.1).2).2++_≠[]
   rw[n1]
   intro h0
   rw[List.append_eq_nil_iff] at h0
   have:N=[]:=by simpa [cU] using h0.1
   rw[this] at hx
   simp at hx)
  refine⟨?_,fun i hi=>bP.slot i _ hi h1,fun k ok CE hi=> ?_⟩
  ·cases hn:fo (ai M') st.obj x.id with
   | none=>rfl
   | some ob=>
    rcases dD hn with h2 | ⟨e',r',rfl,y,hy,h2⟩
    ·exact absurd h1 (bP.obj _ ob h2).1
    ·obtain⟨_,h3,_⟩:=hM.1 y hy
     rw[h2] at h3
     exact absurd h1 (bP.obj _ _ h3).1
  ·rcases dD CE with h2 | ⟨e',r',rfl,_⟩
   ·exact (bP.obj k ok h2).2 _ hi h1
   ·simp [cF] at hi
end
end Go.Proofs.YtnlkklmcfafgeaaGreat.Vm
set_option linter.unusedVariables false
set_option linter.unusedSimpArgs false
namespace Go.Proofs.YtnlkklmcfafgeaaGreat.Vm
section
variable {P:Program} {Γ:Ctx} {w0:World} {S:Own} {st:St} {o:Oper} {e:cJ} {a:Act} {w:World}
variable {f:Nat→SV} {h:Nat→Option aj} {β:Env} {φ:Nat→List Nat} {tm:Array Value}
def aC (β:Env):MU→List Nat
 | .box id _ _=>[β.cW id]
 | .row id _ _ _=>(β.val id).ownBlock.toList
 | .deep id _ _ _=>(β.val id).ownBlock.toList++β.nb id
 | .gone id dp=>(β.val id).ownBlock.toList++(bif dp then β.nb id else [])
 | .cL id _ _ _=>[β.cW id]
 | .lK=>[]
def Cp (dp:Bool) (o:aj):Prop:=(dp=false∧∃t e rows u,aq e=true∧o= .row t e rows false u)∨(dp=true∧∃t e ts rows,o= .deep t e ts rows none)
theorem Cp.al {dp:Bool} {o:aj} (h:Cp dp o) (β:Env) (id:Nat):al β id o=aC β (.gone id dp):=by
 rcases h with ⟨rfl,t,e,rows,u,_,rfl⟩ | ⟨rfl,t,e,ts,rows,rfl⟩<;>simp [Vm.al,aC]
def cV (h:Nat→Option aj):List MU→Prop
 | []=>True
 | .box id t cs::l=>(∃cells,h id=some (.box t cells))∧cV h l
 | .row id t e u::l=>(aq e=true∧∃rows,h id=some (.row t e rows false u))∧cV h l
 | .deep id t e ts::l=>(∃rows,h id=some (.deep t e ts rows none))∧cV h l
 | .gone id dp::l=>(∃o,h id=some o∧Cp dp o)∧cV h l
 | .cL id t cs ts::l=>(∃cells,h id=some (.box t cells))∧cV h l
 | .lK::l=>cV h l
theorem cV.append {U V:List MU} (hu:cV h U) (hv:cV h V):cV h (U++V):=by
 induction U with
 | nil=>exact hv
 | cons x l ih=>
  cases x<;>simp only[List.cons_append,cV] at hu ⊢
  ·exact⟨hu.1,ih hu.2⟩
  ·exact⟨hu.1,ih hu.2⟩
  ·exact⟨hu.1,ih hu.2⟩
  ·exact⟨hu.1,ih hu.2⟩
  ·exact⟨hu.1,ih hu.2⟩
  ·exact ih hu
theorem jB:∀ {U:List MU},bQ U=true→cV h U→(cQ U).flatMap (aC β)=U.flatMap (aC β)∧cV h (cQ U)
 | [],_,_=>⟨rfl,trivial⟩
 | .row id t e u::l,hr,hm=>by
  simp only[bQ] at hr
  simp only[cV] at hm
  obtain⟨⟨hf,rows,ho⟩,hm⟩:=hm
  obtain⟨h1,h2⟩:=jB hr hm
  refine⟨?_, ?_⟩
  ·simp only[cQ,List.flatMap_cons,h1,aC,cond_false,List.append_nil]
  ·simp only[cQ,cV]
   exact⟨⟨_,ho,.inl ⟨rfl,t,e,rows,u,hf,rfl⟩⟩,h2⟩
 | .deep id t e ts::l,hr,hm=>by
  simp only[bQ] at hr
  simp only[cV] at hm
  obtain⟨⟨rows,ho⟩,hm⟩:=hm
  obtain⟨h1,h2⟩:=jB hr hm
  refine⟨?_, ?_⟩
  ·simp only[cQ,List.flatMap_cons,h1,aC,cond_true]
  ·simp only[cQ,cV]
   exact⟨⟨_,ho,.inr ⟨rfl,t,e,ts,rows,rfl⟩⟩,h2⟩
 | .box _ _ _::l,hr,_=>by simp [bQ] at hr
 | .gone _ _::l,hr,_=>by simp [bQ] at hr
 | .cL _ _ _ _::l,hr,_=>by simp [bQ] at hr
 | .lK::l,hr,hm=>by
  simp only[bQ] at hr
  simp only[cV] at hm
  obtain⟨h1,h2⟩:=jB hr hm
  exact⟨by simp only[cQ,List.flatMap_cons,h1,aC,List.nil_append],h2⟩
theorem dc (hc:Core w0 S f h β φ tm w):∀(cs:List CT) (ts:List TypeId) (ss:List SV) (us:List Value) (q:List DC×List MU),af w (Av h β) β ss us→(aU cs ts ss).val f h=some q→
  di w cs ts q.1 us (q.2.flatMap (aC β))∧cV h q.2
 | [],ts,ss,us,q,hs,hq=>by
  cases ts with
  | nil=>
   cases ss with
   | nil=>
    simp only[aU,M.aa,Option.some.injEq] at hq
    subst hq
    simp only[af] at hs
    exact⟨⟨rfl,rfl,hs,rfl⟩,trivial⟩
   | cons s ss=>simp [aU] at hq
  | cons t ts=>simp [aU] at hq
 | .int k::cs,ts,ss,us,q,hs,hq=>by
  cases ss with
  | nil=>simp [aU] at hq
  | cons s ss=>
   simp only[af] at hs
   obtain⟨v,aM,rfl,h1,h2⟩:=hs
   simp only[aU,M.ae,Option.bind_eq_some_iff,M.aa,Option.some.injEq] at hq
   obtain⟨q1,aG,q2,cz,rfl⟩:=hq
   obtain⟨fp,hr,_⟩:=dC hc h1 aG
   obtain⟨k1,k2⟩:=dc hc cs ts ss aM q2 h2 cz
   refine⟨?_,k2⟩
   simp only[di]
   refine⟨q1.1,q2.1,v,aM,rfl,rfl, ?_,k1⟩
   simp only[bY] at hr ⊢
   obtain⟨n,a,b,c,_⟩:=hr
   exact⟨n,a,b,c,trivial⟩
 | .bool::cs,ts,ss,us,q,hs,hq=>by
  cases ss with
  | nil=>simp [aU] at hq
  | cons s ss=>
   simp only[af] at hs
   obtain⟨v,aM,rfl,h1,h2⟩:=hs
   simp only[aU,M.ae,Option.bind_eq_some_iff,M.aa,Option.some.injEq] at hq
   obtain⟨q1,aG,q2,cz,rfl⟩:=hq
   obtain⟨fp,hr,_⟩:=dC hc h1 aG
   obtain⟨k1,k2⟩:=dc hc cs ts ss aM q2 h2 cz
   refine⟨?_,k2⟩
   simp only[di]
   refine⟨q1.1,q2.1,v,aM,rfl,rfl, ?_,k1⟩
   simp only[bY] at hr ⊢
   obtain⟨n,a,b,_⟩:=hr
   exact⟨n,a,b,trivial⟩
 | .str::cs,ts,ss,us,q,hs,hq=>by
  cases ss with
  | nil=>simp [aU] at hq
  | cons s ss=>
   simp only[af] at hs
   obtain⟨v,aM,rfl,h1,h2⟩:=hs
   simp only[aU,M.ae,Option.bind_eq_some_iff,M.aa,Option.some.injEq] at hq
   obtain⟨q1,aG,q2,cz,rfl⟩:=hq
   obtain⟨fp,hr,_⟩:=dC hc h1 aG
   obtain⟨k1,k2⟩:=dc hc cs ts ss aM q2 h2 cz
   refine⟨?_,k2⟩
   simp only[di]
   refine⟨q1.1,q2.1,v,aM,rfl,rfl, ?_,k1⟩
   simp only[bY] at hr ⊢
   obtain⟨n,a,b,c,_⟩:=hr
   exact⟨n,a,b,c,trivial⟩
 | .sl el::cs,ts,ss,us,q,hs,hq=>by
  cases ts with
  | nil=>simp [aU] at hq
  | cons t ts=>
   cases ss with
   | nil=>simp [aU] at hq
   | cons s ss=>
    simp only[af] at hs
    obtain⟨v,aM,rfl,h1,h2⟩:=hs
    simp only[aU,M.ae,Option.bind_eq_some_iff,M.aa,Option.some.injEq] at hq
    obtain⟨q1,aG,q2,cz,rfl⟩:=hq
    obtain⟨k1,k2⟩:=dc hc cs ts ss aM q2 h2 cz
    cases s with
    | nil=>
     simp only at aG
     cases eA:aq el
     ·simp [eA] at aG
     ·simp only[eA,cond_true,M.aa,Option.some.injEq] at aG
      subst aG
      simp only[ak] at h1
      subst h1
      refine⟨?_,k2⟩
      simp only[di]
      exact⟨t,ts,[],q2.1,_,aM,[],[],q2.2.flatMap (aC β),rfl,rfl,rfl,eA,⟨by simp,.inl ⟨rfl,rfl,rfl⟩⟩,⟨rfl,by simp⟩,k1,by simp [aC,Value.ownBlock]⟩
    | own id=>
     simp only[M.aT,Option.bind_eq_some_iff] at aG
     obtain⟨ob,aK,aG⟩:=aG
     cases ob with
     | row t' e' r fz u=>
      cases fz with
      | true=>simp at aG
      | false=>
       simp only at aG
       cases aI:Nat.beq t' t && aF e' el && aq el
       ·simp [aI] at aG
       ·simp only[aI,cond_true,M.aa,Option.some.injEq] at aG
        subst aG
        simp only[Bool.and_eq_true] at aI
        have ht:=Nat.eq_of_beq_eq_true aI.1.1
        have he:=aN _ _ aI.1.2
        subst ht
        subst he
        simp only[ak] at h1
        obtain⟨vals,aA,g1,g2,_,_⟩:=hc.ay id _ aK
        refine⟨?_,⟨⟨aI.2,r,aK⟩,k2⟩⟩
        simp only[di]
        refine⟨t',ts,r,q2.1,v,aM,vals,aA,q2.2.flatMap (aC β),rfl,rfl,rfl,aI.2,by rw[h1.1];exact g1,g2,k1, ?_⟩
        simp only[List.flatMap_cons,aC,h1.1]
     | box _ _=>simp at aG
     | d_ _ _=>simp at aG
     | deep _ _ _ _ _=>simp at aG
    | _=>simp at aG
theorem gO.one {t:TT} {e:List CT} {rows:List (List DC)} {v:Value} {mb:List Nat} (h:gO w t e rows v mb):v.oneCell'=true:=by
 cases t with
 | flat t=>
  obtain⟨_,_,_,h1,_⟩:=h
  exact h1.one
 | deep t its=>
  obtain⟨_,_,h1,_⟩:=h
  exact h1.one
theorem cA (hc:Core w0 S f h β φ tm w):∀(cs:List CT) (ts:List TT) (ss:List SV) (us:List Value) (q:List DC×List MU),af w (Av h β) β ss us→(aw cs ts ss).val f h=some q→
  aR w cs ts q.1 us (q.2.flatMap (aC β))∧cV h q.2
 | [],ts,ss,us,q,hs,hq=>by
  cases ts with
  | nil=>
   cases ss with
   | nil=>
    simp only[aw,M.aa,Option.some.injEq] at hq
    subst hq
    simp only[af] at hs
    exact⟨⟨rfl,rfl,hs,rfl⟩,trivial⟩
   | cons s ss=>simp [aw] at hq
  | cons t ts=>simp [aw] at hq
 | .int k::cs,ts,ss,us,q,hs,hq=>by
  cases ss with
  | nil=>simp [aw] at hq
  | cons s ss=>
   simp only[af] at hs
   obtain⟨v,aM,rfl,h1,h2⟩:=hs
   simp only[aw,M.ae,Option.bind_eq_some_iff,M.aa,Option.some.injEq] at hq
   obtain⟨q1,aG,q2,cz,rfl⟩:=hq
   obtain⟨fp,hr,_⟩:=dC hc h1 aG
   obtain⟨k1,k2⟩:=cA hc cs ts ss aM q2 h2 cz
   refine⟨?_,k2⟩
   simp only[aR]
   refine⟨q1.1,q2.1,v,aM,rfl,rfl, ?_,k1⟩
   simp only[bY] at hr ⊢
   obtain⟨n,a,b,c,_⟩:=hr
   exact⟨n,a,b,c,trivial⟩
 | .bool::cs,ts,ss,us,q,hs,hq=>by
  cases ss with
  | nil=>simp [aw] at hq
  | cons s ss=>
   simp only[af] at hs
   obtain⟨v,aM,rfl,h1,h2⟩:=hs
   simp only[aw,M.ae,Option.bind_eq_some_iff,M.aa,Option.some.injEq] at hq
   obtain⟨q1,aG,q2,cz,rfl⟩:=hq
   obtain⟨fp,hr,_⟩:=dC hc h1 aG
   obtain⟨k1,k2⟩:=cA hc cs ts ss aM q2 h2 cz
   refine⟨?_,k2⟩
   simp only[aR]
   refine⟨q1.1,q2.1,v,aM,rfl,rfl, ?_,k1⟩
   simp only[bY] at hr ⊢
   obtain⟨n,a,b,_⟩:=hr
   exact⟨n,a,b,trivial⟩
 | .str::cs,ts,ss,us,q,hs,hq=>by
  cases ss with
  | nil=>simp [aw] at hq
  | cons s ss=>
   simp only[af] at hs
   obtain⟨v,aM,rfl,h1,h2⟩:=hs
   simp only[aw,M.ae,Option.bind_eq_some_iff,M.aa,Option.some.injEq] at hq
   obtain⟨q1,aG,q2,cz,rfl⟩:=hq
   obtain⟨fp,hr,_⟩:=dC hc h1 aG
   obtain⟨k1,k2⟩:=cA hc cs ts ss aM q2 h2 cz
   refine⟨?_,k2⟩
   simp only[aR]
   refine⟨q1.1,q2.1,v,aM,rfl,rfl, ?_,k1⟩
   simp only[bY] at hr ⊢
   obtain⟨n,a,b,c,_⟩:=hr
   exact⟨n,a,b,c,trivial⟩
 | .sl el::cs,ts,ss,us,q,hs,hq=>by
  cases ts with
  | nil=>simp [aw] at hq
  | cons t ts=>
   cases ss with
   | nil=>cases t<;>simp [aw] at hq
   | cons s ss=>
    simp only[af] at hs
    obtain⟨v,aM,rfl,h1,h2⟩:=hs
    cases t with
    | flat t=>
     simp only[aw,M.ae,Option.bind_eq_some_iff,M.aa,Option.some.injEq] at hq
     obtain⟨q1,aG,q2,cz,rfl⟩:=hq
     obtain⟨k1,k2⟩:=cA hc cs ts ss aM q2 h2 cz
     cases s with
     | nil=>
      simp only at aG
      cases eA:aq el
      ·simp [eA] at aG
      ·simp only[eA,cond_true,M.aa,Option.some.injEq] at aG
       subst aG
       simp only[ak] at h1
       subst h1
       refine⟨?_,k2⟩
       simp only[aR]
       exact⟨.flat t,ts,[],q2.1,_,aM,[],q2.2.flatMap (aC β),rfl,rfl,rfl,⟨eA,[],[],⟨by simp,.inl ⟨rfl,rfl,rfl⟩⟩,⟨rfl,by simp⟩,by simp [Value.ownBlock]⟩,k1,by simp [aC]⟩
     | own id=>
      simp only[M.aT,Option.bind_eq_some_iff] at aG
      obtain⟨ob,aK,aG⟩:=aG
      cases ob with
      | row t' e' r fz u=>
       cases fz with
       | true=>simp at aG
       | false=>
        simp only at aG
        cases aI:Nat.beq t' t && aF e' el && aq el
        ·simp [aI] at aG
        ·simp only[aI,cond_true,M.aa,Option.some.injEq] at aG
         subst aG
         simp only[Bool.and_eq_true] at aI
         have ht:=Nat.eq_of_beq_eq_true aI.1.1
         have he:=aN _ _ aI.1.2
         subst ht
         subst he
         simp only[ak] at h1
         obtain⟨vals,aA,g1,g2,_,_⟩:=hc.ay id _ aK
         refine⟨?_,⟨⟨aI.2,r,aK⟩,k2⟩⟩
         simp only[aR]
         refine⟨.flat t',ts,r,q2.1,v,aM,v.ownBlock.toList,q2.2.flatMap (aC β),rfl,rfl,rfl,⟨aI.2,vals,aA,by rw[h1.1];exact g1,g2,rfl⟩,k1, ?_⟩
         simp only[List.flatMap_cons,aC,h1.1]
      | box _ _=>simp at aG
      | d_ _ _=>simp at aG
      | deep _ _ _ _ _=>simp at aG
     | _=>simp at aG
    | deep t its=>
     simp only[aw,M.ae,Option.bind_eq_some_iff,M.aa,Option.some.injEq] at hq
     obtain⟨q1,aG,q2,cz,rfl⟩:=hq
     obtain⟨k1,k2⟩:=cA hc cs ts ss aM q2 h2 cz
     cases s with
     | nil=>
      simp only[M.aa,Option.some.injEq] at aG
      subst aG
      simp only[ak] at h1
      subst h1
      refine⟨?_,k2⟩
      simp only[aR]
      exact⟨.deep t its,ts,[],q2.1,_,aM,[],q2.2.flatMap (aC β),rfl,rfl,rfl,⟨[],[],⟨by simp,.inl ⟨rfl,rfl,rfl⟩⟩,⟨rfl,by simp⟩,by simp [Value.ownBlock]⟩,k1,by simp [aC]⟩
     | own id=>
      simp only[M.aT,Option.bind_eq_some_iff] at aG
      obtain⟨ob,aK,aG⟩:=aG
      cases ob with
      | deep t' e' dN r hl=>
       cases hl with
       | some _=>simp at aG
       | none=>
        simp only at aG
        cases aI:Nat.beq t' t && aF e' el && fK dN its
        ·simp [aI] at aG
        ·simp only[aI,cond_true,M.aa,Option.some.injEq] at aG
         subst aG
         simp only[Bool.and_eq_true] at aI
         have ht:=Nat.eq_of_beq_eq_true aI.1.1
         have he:=aN _ _ aI.1.2
         have FP:=gk _ _ aI.2
         subst ht
         subst he
         subst FP
         simp only[ak] at h1
         obtain⟨vals,aS,g1,g2,g3,_⟩:=hc.ay id _ aK
         refine⟨?_,⟨⟨r,aK⟩,k2⟩⟩
         simp only[aR]
         refine⟨.deep t' dN,ts,r,q2.1,v,aM,v.ownBlock.toList++aS.flatten,q2.2.flatMap (aC β),rfl,rfl,rfl,⟨vals,aS,by rw[h1.1];exact g1,g2,rfl⟩,k1, ?_⟩
         simp only[List.flatMap_cons,aC,h1.1,g3]
      | box _ _=>simp at aG
      | d_ _ _=>simp at aG
      | row _ _ _ _ _=>simp at aG
     | _=>simp at aG
theorem mC (hc:Core w0 S f h β φ tm w) {k:AK} {ts:List TT} {s:SV} {v:Value} {q1:List DC×List MU} (h1:ak w (Av h β) β s v) (aG:(ir k ts s).val f h=some q1):
  (∃us:List Value,(bif k.agg then v= .agg us.toArray else (us=[v]∧v.oneCell'=true))∧(∀x∈us,x.oneCell'=true)∧aR w k.bD ts q1.1 us (q1.2.flatMap (aC β)))∧cV h q1.2:=by
 unfold ir at aG
 cases hk:k.agg with
 | true=>
  cases s with
  | agg cs=>
   simp only[hk] at aG
   simp only[ak] at h1
   obtain⟨us,rfl,gl,bd⟩:=h1
   obtain⟨r1,r2⟩:=cA hc k.bD ts cs us q1 gl aG
   exact⟨⟨us,rfl,bd,r1⟩,r2⟩
  | _=>simp [hk] at aG
 | false=>
  have lx:(aw k.bD ts [s]).val f h=some q1:=by
   cases s<;>simp only[hk] at aG<;>first | exact aG | (simp at aG)
  have hO:af w (Av h β) β [s] [v]:=by simp only[af];exact⟨v,[],rfl,h1,rfl⟩
  obtain⟨r1,r2⟩:=cA hc k.bD ts [s] [v] q1 hO lx
  have bd:v.oneCell'=true:=by
   cases EL:k.bD with
   | nil=>rw[EL] at r1;simp only[aR] at r1;simp at r1
   | cons c cs=>
    rw[EL] at r1
    cases c with
    | sl el=>
     simp only[aR] at r1
     obtain⟨t,dN,rows,aX,v',aM,m1,gb,_,_,e0,h3,_⟩:=r1
     injection e0 with e0
     subst e0
     exact h3.one
    | int _=>simp only[aR] at r1;obtain⟨d,aX,v',aM,_,e0,h3,_⟩:=r1;injection e0 with e0;subst e0;exact h3.one
    | bool=>simp only[aR] at r1;obtain⟨d,aX,v',aM,_,e0,h3,_⟩:=r1;injection e0 with e0;subst e0;exact h3.one
    | str=>simp only[aR] at r1;obtain⟨d,aX,v',aM,_,e0,h3,_⟩:=r1;injection e0 with e0;subst e0;exact h3.one
  exact⟨⟨[v],⟨rfl,bd⟩,by simpa using bd,r1⟩,r2⟩
theorem fg (hc:Core w0 S f h β φ tm w):∀(ks:List AK) (ms:List (Option MK)) (ss:List SV) (vs:List Value) (q:List DC×eZ×List MU),af w (Av h β) β ss vs→(a_ ks ms ss).val f h=some q→
  ∃fp,cK w ks ms q.1 vs fp (q.2.2.flatMap (aC β))∧bV h q.2.1∧cV h q.2.2∧∀b∈fp,(¬Av h β b)∨∃x∈q.2.1,b∈eX h β x.1
 | [],ms,ss,vs,q,hs,hq=>by
  cases ms with
  | nil=>
   cases ss with
   | nil=>
    simp only[a_,M.aa,Option.some.injEq] at hq
    subst hq
    simp only[af] at hs
    exact⟨[],⟨rfl,rfl,hs,rfl,rfl⟩,by simp [bV],trivial,by simp⟩
   | cons s ss=>simp [a_] at hq
  | cons m ms=>simp [a_] at hq
 | k::ks,ms,ss,vs,q,hs,hq=>by
  cases ms with
  | nil=>simp [a_] at hq
  | cons m ms=>
   cases ss with
   | nil=>cases m with
    | none=>simp [a_] at hq
    | some m=>cases m<;>simp [a_] at hq
   | cons s ss=>
    simp only[af] at hs
    obtain⟨v,l,rfl,h1,h2⟩:=hs
    cases m with
    | none=>
     simp only[a_,M.ae,Option.bind_eq_some_iff,M.aa,Option.some.injEq] at hq
     obtain⟨q1,aG,q2,cz,rfl⟩:=hq
     obtain⟨gw,DM,Dp,DT,iP⟩:=fg hc ks ms ss l q2 h2 cz
     have lx:(jt [k] [s]).val f h=some (q1.1++[],q1.2.1++[]):=by
      simp only[jt,M.ae,Option.bind_eq_some_iff,M.aa,Option.some.injEq]
      exact⟨q1,aG,([],[]),rfl,rfl⟩
     have hO:af w (Av h β) β [s] [v]:=by simp only[af];exact⟨v,[],rfl,h1,rfl⟩
     obtain⟨lG,GD,F6,jC⟩:=lU hc [k] [s] [v] _ hO lx
     simp only[List.append_nil] at GD F6 jC
     obtain⟨d1,d2,v',cN,f1,f2,e1,e2,GD,⟨rfl,rfl,rfl⟩,rfl⟩:=GD
     simp only[List.append_nil] at e1 jC
     simp only[List.cons.injEq,and_true] at e2
     subst e2
     subst e1
     refine⟨f1++gw,⟨none,ms,q1.1,q2.1,v,l,f1,gw,[],q2.2.2.flatMap (aC β),rfl,rfl,rfl,⟨GD,rfl⟩,DM,rfl,rfl⟩,fb F6 Dp,DT, ?_⟩
     intro b hb
     rcases List.mem_append.1 hb with hb | hb
     ·rcases jC b hb with h3 | ⟨x,hx,h3⟩
      ·exact .inl h3
      ·exact .inr ⟨x,List.mem_append_left _ hx,h3⟩
     ·rcases iP b hb with h3 | ⟨x,hx,h3⟩
      ·exact .inl h3
      ·exact .inr ⟨x,List.mem_append_right _ hx,h3⟩
    | some m=>
     cases m with
     | box t=>
      cases s with
      | ptr id off=>
       cases off with
       | succ off=>simp [a_] at hq
       | zero=>
        simp only[a_,M.aT,Option.bind_eq_some_iff] at hq
        obtain⟨ob,aK,hq⟩:=hq
        cases ob with
        | box t' cells=>
         simp only at hq
         cases kx:Nat.beq t' t
         ·simp [kx] at hq
         ·have ky:=Nat.eq_of_beq_eq_true kx
          subst ky
          simp only[kx,cond_true,M.ae,Option.bind_eq_some_iff] at hq
          obtain⟨q1,aG,hq⟩:=hq
          cases FL:q1.2.1.isEmpty
          ·simp [FL] at hq
          ·simp only[FL,cond_true,M.ae,Option.bind_eq_some_iff,M.aa,Option.some.injEq] at hq
           obtain⟨q2,cz,rfl⟩:=hq
           obtain⟨gw,DM,Dp,DT,iP⟩:=fg hc ks ms ss l q2 h2 cz
           obtain⟨us,g1,g2,g3,_⟩:=hc.ay id _ aK
           obtain⟨lG,hr,F6,jC,_⟩:=d6 hc k.bD cells us q1 g2 aG
           have hl:=af.length _ _ g2
           have j_:=cG _ _ _ aG
           simp only[ak] at h1
           have KK:q1.2.1=[]:=List.isEmpty_iff.1 FL
           refine⟨lG++gw,⟨some (.box t'),ms,q1.1,q2.1,v,l,lG,gw,[β.cW id],q2.2.2.flatMap (aC β),rfl,rfl,rfl,⟨β.cW id,us,h1,g1,g3,hr,by omega,rfl⟩,DM,rfl,by simp [aC]⟩,Dp,⟨⟨cells,aK⟩,DT⟩, ?_⟩
           intro b hb
           rcases List.mem_append.1 hb with hb | hb
           ·rcases jC b hb with h3 | ⟨x,hx,h3⟩
            ·exact .inl h3
            ·rw[KK] at hx
             simp at hx
           ·exact iP b hb
        | row _ _ _ _ _=>simp at hq
        | d_ _ _=>simp at hq
        | deep _ _ _ _ _=>simp at hq
      | _=>simp [a_] at hq
     | rows ts=>
      simp only[a_,M.ae,Option.bind_eq_some_iff,M.aa,Option.some.injEq] at hq
      obtain⟨q1,aG,q2,cz,rfl⟩:=hq
      obtain⟨gw,DM,Dp,DT,iP⟩:=fg hc ks ms ss l q2 h2 cz
      obtain⟨⟨us,a1,a2,a3⟩,a4⟩:=mC hc h1 aG
      refine⟨gw,⟨some (.rows ts),ms,q1.1,q2.1,v,l,[],gw,q1.2.flatMap (aC β),q2.2.2.flatMap (aC β),rfl,rfl,rfl,⟨us,a1,a2,a3,rfl⟩,DM,rfl,by simp⟩,Dp,a4.append DT,iP⟩
     | jA ts=>
      simp only[a_,M.ae,Option.bind_eq_some_iff] at hq
      obtain⟨q1,aG,hq⟩:=hq
      cases A4:bQ q1.2
      ·simp [A4] at hq
      simp only[A4,cond_true,M.ae,Option.bind_eq_some_iff,M.aa,Option.some.injEq] at hq
      obtain⟨q2,cz,rfl⟩:=hq
      obtain⟨gw,DM,Dp,DT,iP⟩:=fg hc ks ms ss l q2 h2 cz
      obtain⟨⟨us,a1,a2,a3⟩,a4⟩:=mC hc h1 aG
      obtain⟨g1,g2⟩:=jB (β:=β) A4 a4
      refine⟨gw,⟨some (.jA ts),ms,q1.1,q2.1,v,l,[],gw,q1.2.flatMap (aC β),q2.2.2.flatMap (aC β),rfl,rfl,rfl,⟨us,a1,a2,a3,rfl⟩,DM,rfl,by rw[List.flatMap_append,g1]⟩,Dp,g2.append DT,iP⟩
     | cL t ts=>
      cases s with
      | ptr id off=>
       cases off with
       | succ off=>simp [a_] at hq
       | zero=>
        simp only[a_,M.aT,Option.bind_eq_some_iff] at hq
        obtain⟨ob,aK,hq⟩:=hq
        cases ob with
        | box t' cells=>
         simp only at hq
         cases kx:Nat.beq t' t
         ·simp [kx] at hq
         ·have ky:=Nat.eq_of_beq_eq_true kx
          subst ky
          simp only[kx,cond_true,M.ae,Option.bind_eq_some_iff] at hq
          obtain⟨q1,aG,hq⟩:=hq
          cases A4:bQ q1.2
          ·simp [A4] at hq
          simp only[A4,cond_true,M.ae,Option.bind_eq_some_iff,M.aa,Option.some.injEq] at hq
          obtain⟨q2,cz,rfl⟩:=hq
          obtain⟨gw,DM,Dp,DT,iP⟩:=fg hc ks ms ss l q2 h2 cz
          obtain⟨us,g1,g2,g3,_⟩:=hc.ay id _ aK
          obtain⟨r1,r2⟩:=cA hc k.bD ts cells us q1 g2 aG
          obtain⟨e1,e2⟩:=jB (β:=β) A4 r2
          simp only[ak] at h1
          refine⟨gw,⟨some (.cL t' ts),ms,q1.1,q2.1,v,l,[],gw,β.cW id::q1.2.flatMap (aC β),q2.2.2.flatMap (aC β),rfl,rfl,rfl,⟨β.cW id,us,_,h1,g1,g3,r1,rfl,rfl⟩,DM,rfl, ?_⟩,Dp,⟨⟨cells,aK⟩,e2.append DT⟩,iP⟩
          simp only[List.flatMap_cons,List.flatMap_append,e1,aC,List.cons_append,List.nil_append]
        | row _ _ _ _ _=>simp at hq
        | d_ _ _=>simp at hq
        | deep _ _ _ _ _=>simp at hq
      | _=>simp [a_] at hq
end
end Go.Proofs.YtnlkklmcfafgeaaGreat.Vm
set_option linter.unusedVariables false
set_option linter.unusedSimpArgs false
namespace Go.Proofs.YtnlkklmcfafgeaaGreat.Vm
section
variable {P:Program} {Γ:Ctx} {w0:World} {S:Own} {st:St} {o:Oper} {e:cJ} {a:Act} {w w':World}
variable {f:Nat→SV} {h:Nat→Option aj} {β:Env} {φ:Nat→List Nat} {tm:Array Value}
def bt (d:Nat):Nat→List MU→List DC→List (Nat×aj)
 | _,[],_=>[]
 | k,.box id t cs::l,ds=>(id,.box t (ch cs ds 0))::bt d k l (ds.drop cs.length)
 | k,.row id t e u::l,ds=>(id,.row t e (ds.headD default).cq false u)::bt d k l ds.tail
 | k,.deep id t e ts::l,ds=>(id,.deep t e ts (ds.headD default).cq none)::bt d k l ds.tail
 | k,.gone _ _::l,ds=>bt d k l ds
 | k,.cL id t cs ts::l,ds=>(id,.box t (bk d k cs ts ds).1)::bt d (k+aB cs) l (ds.drop cs.length)
 | k,.lK::l,ds=>bt d k l ds.tail
theorem gD {d:Nat} :∀(k:Nat) (U:List MU) (ds:List DC),ji d k U ds=(bt d k U ds).map fun x=>(x.1,some x.2)
 | _,[],_=>rfl
 | k,.box id t cs::l,ds=>by simp only[ji,bt,List.map_cons,gD k l]
 | k,.row id t e u::l,ds=>by simp only[ji,bt,List.map_cons,gD k l]
 | k,.deep id t e ts::l,ds=>by simp only[ji,bt,List.map_cons,gD k l]
 | k,.gone id dp::l,ds=>by simp only[ji,bt,gD k l]
 | k,.cL id t cs ts::l,ds=>by simp only[ji,bt,List.map_cons,gD (k+aB cs) l]
 | k,.lK::l,ds=>by simp only[ji,bt,gD k l]
def b_:List MU→List Nat
 | []=>[]
 | .box id _ _::l=>id::b_ l
 | .row id _ _ _::l=>id::b_ l
 | .deep id _ _ _::l=>id::b_ l
 | .gone _ _::l=>b_ l
 | .cL id _ _ _::l=>id::b_ l
 | .lK::l=>b_ l
theorem gE {i:Nat} :∀(U:List MU),(i∈bq U↔i∈b_ U∨i∈cu U)
 | []=>by simp [bq,b_,cu]
 | .box id _ _::l=>by simp only[bq,b_,cu,List.mem_cons,gE l,or_assoc]
 | .row id _ _ _::l=>by simp only[bq,b_,cu,List.mem_cons,gE l,or_assoc]
 | .deep id _ _ _::l=>by simp only[bq,b_,cu,List.mem_cons,gE l,or_assoc]
 | .gone id _::l=>by
  simp only[bq,b_,cu,List.mem_cons,gE l]
  constructor
  ·rintro (h | h | h)
   ·exact .inr (.inl h)
   ·exact .inl h
   ·exact .inr (.inr h)
  ·rintro (h | h | h)
   ·exact .inr (.inl h)
   ·exact .inl h
   ·exact .inr (.inr h)
 | .cL id _ _ _::l=>by simp only[bq,b_,cu,List.mem_cons,gE l,or_assoc]
 | .lK::l=>by simp only[bq,b_,cu,gE l]
theorem dE {d:Nat} :∀(k:Nat) (U:List MU) (ds:List DC),(bt d k U ds).map (·.1)=b_ U
 | _,[],_=>rfl
 | k,.box id t cs::l,ds=>by simp only[bt,b_,List.map_cons,dE k l]
 | k,.row id t e u::l,ds=>by simp only[bt,b_,List.map_cons,dE k l]
 | k,.deep id t e ts::l,ds=>by simp only[bt,b_,List.map_cons,dE k l]
 | k,.gone id dp::l,ds=>by simp only[bt,b_,dE k l]
 | k,.cL id t cs ts::l,ds=>by simp only[bt,b_,List.map_cons,dE (k+aB cs) l]
 | k,.lK::l,ds=>by simp only[bt,b_,dE k l]
def dx:List MU→Nat
 | []=>0
 | .box _ _ cs::l=>cs.length+dx l
 | .row _ _ _ _::l=>1+dx l
 | .deep _ _ _ _::l=>1+dx l
 | .gone _ _::l=>dx l
 | .cL _ _ cs _::l=>cs.length+dx l
 | .lK::l=>1+dx l
theorem iF:∀(cs:List CT) (d1 d2:List DC) (k:Nat),k+cs.length≤d1.length→ch cs (d1++d2) k=ch cs d1 k
 | [],_,_,_,_=>rfl
 | c::cs,d1,d2,k,h=>by
  simp only[ch]
  simp only[List.length_cons] at h
  rw[iF cs d1 d2 (k+1) (by omega)]
  congr 2
  simp only[List.getD_eq_getElem?_getD]
  rw[List.getElem?_append_left (by omega)]
theorem jR {d:Nat} :∀(k:Nat) (cs:List CT) (ts:List TT) (d1 d2:List DC),cs.length≤d1.length→bk d k cs ts (d1++d2)=bk d k cs ts d1
 | _,[],_,_,_,_=>rfl
 | k,c::cs,ts,d1,d2,hl=>by
  cases d1 with
  | nil=>simp at hl
  | cons x d1=>
   have D_:cs.length≤d1.length:=by simpa using hl
   cases c<;>simp only[List.cons_append,bk,List.headD_cons,List.tail_cons]<;>rw[jR _ cs _ d1 d2 D_]
theorem eu {d:Nat} :∀(k:Nat) (U V:List MU) (d1 d2:List DC),dx U=d1.length→bt d k (U++V) (d1++d2)=bt d k U d1++bt d (k+aQ U) V d2∧dJ d k (U++V) (d1++d2)=dJ d k U d1++dJ d (k+aQ U) V d2
 | k,[],V,d1,d2,hl=>by
  have:d1=[]:=List.length_eq_zero_iff.1 hl.symm
  subst this
  exact⟨rfl,rfl⟩
 | k,.box id t cs::l,V,d1,d2,hl=>by
  simp only[dx] at hl
  obtain⟨h1,h2⟩:=eu (d:=d) k l V (d1.drop cs.length) d2 (by simp;omega)
  simp only[List.cons_append,bt,dJ,aQ]
  rw[iF _ _ _ _ (by omega),List.drop_append_of_le_length (by omega),h1,h2]
  exact⟨rfl,rfl⟩
 | k,.row id t e u::l,V,d1,d2,hl=>by
  simp only[dx] at hl
  cases d1 with
  | nil=>simp at hl
  | cons x d1=>
   obtain⟨h1,h2⟩:=eu (d:=d) k l V d1 d2 (by simp at hl;omega)
   simp only[List.cons_append,bt,dJ,aQ,List.headD_cons,List.tail_cons,h1,h2,and_self]
 | k,.deep id t e ts::l,V,d1,d2,hl=>by
  simp only[dx] at hl
  cases d1 with
  | nil=>simp at hl
  | cons x d1=>
   obtain⟨h1,h2⟩:=eu (d:=d) k l V d1 d2 (by simp at hl;omega)
   simp only[List.cons_append,bt,dJ,aQ,List.headD_cons,List.tail_cons,h1,h2,and_self]
 | k,.gone id dp::l,V,d1,d2,hl=>by
  simp only[dx] at hl
  obtain⟨h1,h2⟩:=eu (d:=d) k l V d1 d2 hl
  simp only[List.cons_append,bt,dJ,aQ,h1,h2,and_self]
 | k,.cL id t cs ts::l,V,d1,d2,hl=>by
  simp only[dx] at hl
  obtain⟨h1,h2⟩:=eu (d:=d) (k+aB cs) l V (d1.drop cs.length) d2 (by simp;omega)
  simp only[List.cons_append,bt,dJ,aQ]
  rw[jR _ _ _ _ _ (by omega),List.drop_append_of_le_length (by omega),h1,h2,←Nat.add_assoc,List.append_assoc]
  exact⟨rfl,rfl⟩
 | k,.lK::l,V,d1,d2,hl=>by
  simp only[dx] at hl
  cases d1 with
  | nil=>simp at hl
  | cons x d1=>
   obtain⟨h1,h2⟩:=eu (d:=d) k l V d1 d2 (by simp at hl;omega)
   simp only[List.cons_append,bt,dJ,aQ,List.tail_cons,h1,h2,and_self]
theorem jr:∀(cs:List CT) (r:List DC) (g:Nat→Option Value) (fp:List Nat),aq cs=true→a9 w cs r g fp→fp=[]
 | [],r,g,fp,_,h=>by simp only[a9] at h;exact h.2
 | c::cs,r,g,fp,hf,h=>by
  simp only[a9] at h
  obtain⟨d,r',v,f1,f2,rfl,_,h1,h2,rfl⟩:=h
  cases c with
  | sl e=>simp [aq] at hf
  | int k=>
   simp only[bY] at h1
   obtain⟨_,_,_,_,rfl⟩:=h1
   rw[jr cs r' _ f2 (by simpa [aq] using hf) h2]
   rfl
  | bool=>
   simp only[bY] at h1
   obtain⟨_,_,_,rfl⟩:=h1
   rw[jr cs r' _ f2 (by simpa [aq] using hf) h2]
   rfl
  | str=>
   simp only[bY] at h1
   obtain⟨_,_,_,_,rfl⟩:=h1
   rw[jr cs r' _ f2 (by simpa [aq] using hf) h2]
   rfl
theorem gQ {e:List CT} {rows:List (List DC)} {vals:List Value} {aA:List (List Nat)} (hf:aq e=true) (h:dO w e rows vals aA):aA.flatten=[]:=by
 rw[List.flatten_eq_nil_iff]
 intro l hl
 obtain⟨i,hi,rfl⟩:=List.getElem_of_mem hl
 have dU:i<rows.length:=by have:=h.1;omega
 exact jr e _ _ _ hf (h.2 i rows[i] aA[i] (by simp) (by simp))
theorem eM {d:Nat} :∀(k:Nat) (cs:List CT) (ts:List TT) (ds:List DC) (us:List Value) (mb:List Nat),aR w' cs ts ds us mb→
  ∃N:List ar,(bk d k cs ts ds).2=cU N∧N.map (·.id)=(List.range' k (aB cs)).map (ag d)∧(∀x∈N,x.ok w')∧N.flatMap ar.bE=mb∧ds.length=cs.length∧
   ∀(av:Nat→Prop) (β':Env),(∀x∈N,β'.val x.id=x.v)→af w' av β' (bk d k cs ts ds).1 us
 | k,[],ts,ds,us,mb,hm=>by
  simp only[aR] at hm
  obtain⟨rfl,rfl,rfl,rfl⟩:=hm
  exact⟨[],rfl,rfl,by simp,rfl,rfl,fun av β' _=>by simp [bk,af]⟩
 | k,.int x::cs,ts,ds,us,mb,hm=>by
  simp only[aR] at hm
  obtain⟨dd,aX,v,aM,rfl,rfl,h1,hm⟩:=hm
  obtain⟨N,e1,e2,e3,e4,e5,e6⟩:=eM (d:=d) k cs ts aX aM mb hm
  refine⟨N,by simpa only[bk,List.tail_cons] using e1,by simpa only[aB] using e2,e3,e4,by simp [e5],fun av β' hb=> ?_⟩
  simp only[bk,List.headD_cons,List.tail_cons,af]
  exact⟨v,aM,rfl,dg h1 (by simp),e6 av β' hb⟩
 | k,.bool::cs,ts,ds,us,mb,hm=>by
  simp only[aR] at hm
  obtain⟨dd,aX,v,aM,rfl,rfl,h1,hm⟩:=hm
  obtain⟨N,e1,e2,e3,e4,e5,e6⟩:=eM (d:=d) k cs ts aX aM mb hm
  refine⟨N,by simpa only[bk,List.tail_cons] using e1,by simpa only[aB] using e2,e3,e4,by simp [e5],fun av β' hb=> ?_⟩
  simp only[bk,List.headD_cons,List.tail_cons,af]
  exact⟨v,aM,rfl,dg h1 (by simp),e6 av β' hb⟩
 | k,.str::cs,ts,ds,us,mb,hm=>by
  simp only[aR] at hm
  obtain⟨dd,aX,v,aM,rfl,rfl,h1,hm⟩:=hm
  obtain⟨N,e1,e2,e3,e4,e5,e6⟩:=eM (d:=d) k cs ts aX aM mb hm
  refine⟨N,by simpa only[bk,List.tail_cons] using e1,by simpa only[aB] using e2,e3,e4,by simp [e5],fun av β' hb=> ?_⟩
  simp only[bk,List.headD_cons,List.tail_cons,af]
  exact⟨v,aM,rfl,dg h1 (by simp),e6 av β' hb⟩
 | k,.sl e::cs,ts,ds,us,mb,hm=>by
  simp only[aR] at hm
  obtain⟨t,dN,rows,aX,v,aM,m1,gb,rfl,rfl,rfl,EK,hm,rfl⟩:=hm
  obtain⟨N,e1,e2,e3,e4,e5,e6⟩:=eM (d:=d) (k+1) cs dN aX aM gb hm
  have one:∃x:ar,x.id=ag d k∧x.obj=eO t e rows∧x.v=v∧x.ok w'∧x.bE=m1:=by
   cases t with
   | flat t=>
    obtain⟨eA,vals,aA,h1,h2,rfl⟩:=EK
    exact⟨⟨ag d k,t,e,rows,v,aA,none⟩,rfl,rfl,rfl,⟨vals,h1,h2⟩,by simp only[ar.bE,gQ eA h2,List.append_nil]⟩
   | deep t its=>
    obtain⟨vals,aS,h1,h2,rfl⟩:=EK
    exact⟨⟨ag d k,t,e,rows,v,aS,some its⟩,rfl,rfl,rfl,⟨vals,h1,h2⟩,rfl⟩
  obtain⟨x,x1,x2,x3,x4,x5⟩:=one
  refine⟨x::N, ?_, ?_, ?_, ?_,by simp [e5],fun av β' hb=> ?_⟩
  ·simp only[bk,List.headD_cons,List.tail_cons,cU,List.map_cons,x1,x2,DC.cq] at e1 ⊢
   rw[e1]
  ·simp only[List.map_cons,aB,List.range'_succ,e2,x1]
  ·intro y hy
   rcases List.mem_cons.1 hy with rfl | hy
   ·exact x4
   ·exact e3 y hy
  ·simp only[List.flatMap_cons,e4,x5]
  ·simp only[bk,List.headD_cons,List.tail_cons,af]
   refine⟨v,aM,rfl, ?_,e6 av β' (fun y hy=>hb y (List.mem_cons_of_mem _ hy))⟩
   simp only[ak]
   have:=hb x (List.mem_cons_self ..)
   rw[x1,x3] at this
   exact⟨this.symm,EK.one⟩
def Eh (h:Nat→Option aj) (β:Env) (w':World) (im:List Nat) (N:List ar) (x:fL):Prop:=
 (∃o,h x.id=some o)∧∀(av:Nat→Prop) (β':Env),β'.val x.id=β.val x.id→β'.cW x.id=β.cW x.id→β'.nb x.id=x.nb→(∀y∈N,β'.val y.id=y.v)→(∀b∈im,¬av b)→fU w' av β' x.id x.obj x.bE
def jq (d k:Nat) (h:Nat→Option aj) (β:Env) (w':World) (im:List Nat) (U:List MU) (od:List DC) (mb:List Nat):Prop:=
 dx U=od.length∧∃(T:List fL) (N:List ar),T.map (fun x=>(x.id,x.obj))=bt d k U od∧dJ d k U od=cU N∧N.map (·.id)=(List.range' k (aQ U)).map (ag d)∧(∀x∈N,x.ok w')∧
  (T.flatMap fL.bE++N.flatMap ar.bE).Perm mb∧∀x∈T,Eh h β w' im N x
theorem jq.append {d k:Nat} {im:List Nat} {U V:List MU} {d1 d2:List DC} {m1 m2:List Nat} (h1:jq d k h β w' im U d1 m1) (h2:jq d (k+aQ U) h β w' im V d2 m2):jq d k h β w' im (U++V) (d1++d2) (m1++m2):=by
 obtain⟨l1,T1,N1,e1,f1,i1,o1,b1,g1⟩:=h1
 obtain⟨l2,T2,N2,e2,f2,i2,o2,b2,g2⟩:=h2
 have hlen:∀(U V:List MU),dx (U++V)=dx U+dx V∧aQ (U++V)=aQ U+aQ V:=by
  intro U V
  induction U with
  | nil=>simp [dx,aQ]
  | cons x l ih=>cases x<;>simp only[List.cons_append,dx,aQ,ih.1,ih.2,Nat.add_assoc,and_self]
 obtain⟨a1,a2⟩:=eu (d:=d) k U V d1 d2 l1
 refine⟨by simp only[hlen,List.length_append,l1,l2],T1++T2,N1++N2,by rw[List.map_append,e1,e2,a1],by rw[a2,f1,f2];simp [cU], ?_,fun x hx=> ?_, ?_,fun x hx=> ?_⟩
 ·rw[List.map_append,i1,i2,(hlen U V).2,←List.map_append,List.range'_append_1]
 ·rcases List.mem_append.1 hx with hx | hx
  ·exact o1 x hx
  ·exact o2 x hx
 ·refine List.Perm.trans ?_ (b1.append b2)
  simp only[List.flatMap_append,List.append_assoc]
  refine List.Perm.append_left _ ?_
  rw[←List.append_assoc,←List.append_assoc]
  exact List.Perm.append_right _ List.perm_append_comm
 ·rcases List.mem_append.1 hx with hx | hx
  ·exact⟨(g1 x hx).1,fun av β' a b c dd e=>(g1 x hx).2 av β' a b c (fun y hy=>dd y (List.mem_append_left _ hy)) e⟩
  ·exact⟨(g2 x hx).1,fun av β' a b c dd e=>(g2 x hx).2 av β' a b c (fun y hy=>dd y (List.mem_append_right _ hy)) e⟩
theorem kn {d:Nat} (k:Nat) {im:List Nat} :∀(U:List MU),jq d k h β w' im (cQ U) [] []
 | []=>⟨rfl,[],[],rfl,rfl,rfl,by simp,List.Perm.refl _,by simp⟩
 | x::l=>by
  have ih:jq d k h β w' im (cQ l) [] []:=kn k l
  cases x<;>simp only[cQ]<;>first
   | exact ih
   | (obtain⟨a,T,N,b,c,dd,e,f,g⟩:=ih;exact⟨a,T,N,b,c,dd,e,f,g⟩)
theorem gO.Fw {t:TT} {e:List CT} {rows:List (List DC)} {mb:List Nat} (h:gO w t e rows (.slice none 0 0) mb):mb=[]:=by
 cases t with
 | flat t=>
  obtain⟨_,_,_,_,_,rfl⟩:=h
  rfl
 | deep t its=>
  obtain⟨vals,aS,h1,h2,rfl⟩:=h
  rcases h1.2 with ⟨_,h0,_⟩ | ⟨g,cap,cur,hv,_⟩
  ·have:aS=[]:=List.length_eq_zero_iff.1 (by rw[h2.1,h0])
   subst this
   rfl
  ·cases hv
theorem gi (hc:Core w0 S f h β φ tm w) {d:Nat} {im:List Nat} :∀(k:Nat) (cs:List CT) (ts:List TT) (ss:List SV) (us:List Value) (q:List DC×List MU) (od:List DC) (mb:List Nat),af w (Av h β) β ss us→(aw cs ts ss).val f h=some q→iX w' cs ts od us mb→
  jq d k h β w' im q.2 od mb
 | k,[],ts,ss,us,q,od,mb,hs,hq,ho=>by
  cases ts with
  | nil=>
   cases ss with
   | nil=>
    simp only[aw,M.aa,Option.some.injEq] at hq
    subst hq
    simp only[iX] at ho
    rw[ho.1,ho.2.2]
    exact⟨rfl,[],[],rfl,rfl,rfl,by simp,List.Perm.refl _,by simp⟩
   | cons s ss=>simp [aw] at hq
  | cons t ts=>simp [aw] at hq
 | k,.int kk::cs,ts,ss,us,q,od,mb,hs,hq,ho=>by
  cases ss with
  | nil=>simp [aw] at hq
  | cons s ss=>
   simp only[af] at hs
   obtain⟨v,aM,rfl,h1,h2⟩:=hs
   simp only[aw,M.ae,Option.bind_eq_some_iff,M.aa,Option.some.injEq] at hq
   obtain⟨q1,aG,q2,cz,rfl⟩:=hq
   simp only[iX] at ho
   obtain⟨v',FT,e0,ho⟩:=ho
   simp only[List.cons.injEq] at e0
   obtain⟨rfl,rfl⟩:=e0
   exact gi (d:=d) hc k cs ts ss aM q2 od mb h2 cz ho
 | k,.bool::cs,ts,ss,us,q,od,mb,hs,hq,ho=>by
  cases ss with
  | nil=>simp [aw] at hq
  | cons s ss=>
   simp only[af] at hs
   obtain⟨v,aM,rfl,h1,h2⟩:=hs
   simp only[aw,M.ae,Option.bind_eq_some_iff,M.aa,Option.some.injEq] at hq
   obtain⟨q1,aG,q2,cz,rfl⟩:=hq
   simp only[iX] at ho
   obtain⟨v',FT,e0,ho⟩:=ho
   simp only[List.cons.injEq] at e0
   obtain⟨rfl,rfl⟩:=e0
   exact gi (d:=d) hc k cs ts ss aM q2 od mb h2 cz ho
 | k,.str::cs,ts,ss,us,q,od,mb,hs,hq,ho=>by
  cases ss with
  | nil=>simp [aw] at hq
  | cons s ss=>
   simp only[af] at hs
   obtain⟨v,aM,rfl,h1,h2⟩:=hs
   simp only[aw,M.ae,Option.bind_eq_some_iff,M.aa,Option.some.injEq] at hq
   obtain⟨q1,aG,q2,cz,rfl⟩:=hq
   simp only[iX] at ho
   obtain⟨v',FT,e0,ho⟩:=ho
   simp only[List.cons.injEq] at e0
   obtain⟨rfl,rfl⟩:=e0
   exact gi (d:=d) hc k cs ts ss aM q2 od mb h2 cz ho
 | k,.sl el::cs,ts,ss,us,q,od,mb,hs,hq,ho=>by
  cases ts with
  | nil=>simp [aw] at hq
  | cons t ts=>
   cases ss with
   | nil=>cases t<;>simp [aw] at hq
   | cons s ss=>
    simp only[af] at hs
    obtain⟨v,aM,rfl,h1,h2⟩:=hs
    simp only[iX] at ho
    obtain⟨t1,Gt,rows,L0,v1,FT,m1,gb,e1,rfl,e2,o1,o3,rfl⟩:=ho
    simp only[List.cons.injEq] at e1 e2
    obtain⟨rfl,rfl⟩:=e1
    obtain⟨rfl,rfl⟩:=e2
    have pack:∀(q1:DC×MU) (q2:List DC×List MU),jq d k h β w' im [q1.2] [.sl rows] m1→(aw cs ts ss).val f h=some q2→jq d k h β w' im (q1.2::q2.2) (.sl rows::L0) (m1++gb):=by
     intro q1 q2 k1 cz
     exact k1.append (gi (d:=d) hc _ cs ts ss aM q2 L0 gb h2 cz o3)
    have none_:v= .slice none 0 0→jq d k h β w' im [.lK] [.sl rows] m1:=by
     rintro rfl
     exact⟨rfl,[],[],rfl,rfl,rfl,by simp,by rw[o1.Fw];exact List.Perm.refl _,by simp⟩
    cases t with
    | flat t=>
     simp only[aw,M.ae,Option.bind_eq_some_iff,M.aa,Option.some.injEq] at hq
     obtain⟨q1,aG,q2,cz,rfl⟩:=hq
     refine pack q1 q2 ?_ cz
     cases s with
     | nil=>
      simp only at aG
      cases eA:aq el
      ·simp [eA] at aG
      ·simp only[eA,cond_true,M.aa,Option.some.injEq] at aG
       subst aG
       simp only[ak] at h1
       exact none_ h1
     | own id=>
      simp only[M.aT,Option.bind_eq_some_iff] at aG
      obtain⟨ob,aK,aG⟩:=aG
      cases ob with
      | row t' e' r fz u=>
       cases fz with
       | true=>simp at aG
       | false=>
        simp only at aG
        cases aI:Nat.beq t' t && aF e' el && aq el
        ·simp [aI] at aG
        ·simp only[aI,cond_true,M.aa,Option.some.injEq] at aG
         subst aG
         simp only[Bool.and_eq_true] at aI
         have ht:=Nat.eq_of_beq_eq_true aI.1.1
         have he:=aN _ _ aI.1.2
         subst ht
         subst he
         simp only[ak] at h1
         obtain⟨eA,vals,aA,p1,p2,rfl⟩:=o1
         refine⟨rfl,[⟨id,.row t' e' rows false u,[],v.ownBlock.toList⟩],[],rfl,rfl,rfl,by simp,by simp,fun x hx=> ?_⟩
         rw[List.mem_singleton] at hx
         subst hx
         refine⟨⟨_,aK⟩,fun av β' hv hb hn _ kp=> ?_⟩
         simp only at hv hb hn ⊢
         refine⟨vals,aA,by rw[hv,←h1.1];exact p1,p2,by rw[gQ eA p2];simp, ?_⟩
         rw[hv,←h1.1,gQ eA p2]
         cases u<;>simp
      | box _ _=>simp at aG
      | d_ _ _=>simp at aG
      | deep _ _ _ _ _=>simp at aG
     | _=>simp at aG
    | deep t its=>
     simp only[aw,M.ae,Option.bind_eq_some_iff,M.aa,Option.some.injEq] at hq
     obtain⟨q1,aG,q2,cz,rfl⟩:=hq
     refine pack q1 q2 ?_ cz
     cases s with
     | nil=>
      simp only[M.aa,Option.some.injEq] at aG
      subst aG
      simp only[ak] at h1
      exact none_ h1
     | own id=>
      simp only[M.aT,Option.bind_eq_some_iff] at aG
      obtain⟨ob,aK,aG⟩:=aG
      cases ob with
      | deep t' e' dN r hl=>
       cases hl with
       | some _=>simp at aG
       | none=>
        simp only at aG
        cases aI:Nat.beq t' t && aF e' el && fK dN its
        ·simp [aI] at aG
        ·simp only[aI,cond_true,M.aa,Option.some.injEq] at aG
         subst aG
         simp only[Bool.and_eq_true] at aI
         have ht:=Nat.eq_of_beq_eq_true aI.1.1
         have he:=aN _ _ aI.1.2
         have FP:=gk _ _ aI.2
         subst ht
         subst he
         subst FP
         simp only[ak] at h1
         obtain⟨vals,aS,p1,p2,rfl⟩:=o1
         refine⟨rfl,[⟨id,.deep t' e' dN rows none,aS.flatten,v.ownBlock.toList++aS.flatten⟩],[],rfl,rfl,rfl,by simp,by simp,fun x hx=> ?_⟩
         rw[List.mem_singleton] at hx
         subst hx
         refine⟨⟨_,aK⟩,fun av β' hv hb hn _ kp=> ?_⟩
         simp only at hv hb hn ⊢
         exact⟨vals,aS,by rw[hv,←h1.1];exact p1,p2,hn,by rw[hv,←h1.1]⟩
      | box _ _=>simp at aG
      | d_ _ _=>simp at aG
      | row _ _ _ _ _=>simp at aG
     | _=>simp at aG
theorem iE (hc:Core w0 S f h β φ tm w) {d:Nat} {Ic:List Nat} :∀(k0:Nat) (ks:List AK) (ms:List (Option MK)) (ss:List SV) (vs:List Value) (q:List DC×eZ×List MU) (od:List DC) (im mb:List Nat),af w (Av h β) β ss vs→(a_ ks ms ss).val f h=some q→lP w' ks ms od vs im mb→(∀b∈im,b∈Ic)→
  jq d k0 h β w' Ic q.2.2 od mb
 | k0,[],ms,ss,vs,q,od,im,mb,hs,hq,ho,_=>by
  cases ms with
  | nil=>
   cases ss with
   | nil=>
    simp only[a_,M.aa,Option.some.injEq] at hq
    subst hq
    simp only[lP] at ho
    rw[ho.1,ho.2.2.2]
    exact⟨rfl,[],[],rfl,rfl,rfl,by simp,List.Perm.refl _,by simp⟩
   | cons s ss=>simp [a_] at hq
  | cons m ms=>simp [a_] at hq
 | k0,k::ks,ms,ss,vs,q,od,im,mb,hs,hq,ho,kp=>by
  simp only[lP] at ho
  obtain⟨m,ms,d1,d2,v,l,i1,i2,b1,b2,rfl,rfl,rfl,o1,o2,rfl,rfl⟩:=ho
  cases ss with
  | nil=>cases m with
   | none=>simp [a_] at hq
   | some m=>cases m<;>simp [a_] at hq
  | cons s ss=>
   simp only[af] at hs
   obtain⟨v0,l0,e0,h1,h2⟩:=hs
   simp only[List.cons.injEq] at e0
   obtain⟨rfl,rfl⟩:=e0
   have A0:∀b∈i2,b∈Ic:=fun b hb=>kp b (List.mem_append_right _ hb)
   cases m with
   | none=>
    simp only[a_,M.ae,Option.bind_eq_some_iff,M.aa,Option.some.injEq] at hq
    obtain⟨q1,aG,q2,cz,rfl⟩:=hq
    simp only[DH] at o1
    obtain⟨rfl,rfl,rfl⟩:=o1
    exact iE (d:=d) hc k0 ks ms ss l q2 d2 i2 b2 h2 cz o2 A0
   | some m=>
    cases m with
    | box t=>
     cases s with
     | ptr id off=>
      cases off with
      | succ off=>simp [a_] at hq
      | zero=>
       simp only[a_,M.aT,Option.bind_eq_some_iff] at hq
       obtain⟨ob,aK,hq⟩:=hq
       cases ob with
       | box t' cells=>
        simp only at hq
        cases kx:Nat.beq t' t
        ·simp [kx] at hq
        ·have ky:=Nat.eq_of_beq_eq_true kx
         subst ky
         simp only[kx,cond_true,M.ae,Option.bind_eq_some_iff] at hq
         obtain⟨q1,aG,hq⟩:=hq
         cases FL:q1.2.1.isEmpty
         ·simp [FL] at hq
         ·simp only[FL,cond_true,M.ae,Option.bind_eq_some_iff,M.aa,Option.some.injEq] at hq
          obtain⟨q2,cz,rfl⟩:=hq
          have k2:=iE (d:=d) hc (k0+aQ [.box id t' k.bD]) ks ms ss l q2 d2 i2 b2 h2 cz o2 A0
          obtain⟨us0,g1,g2,g3,g4⟩:=hc.ay id _ aK
          simp only[DH] at o1
          obtain⟨g,us,ev,Lq,Lr,J3,M8,rfl⟩:=o1
          simp only[ak] at h1
          have eg:g=β.cW id:=by
           rw[h1] at ev
           simp only[Value.pointer.injEq,Option.some.injEq,Addr.mk.injEq,and_true] at ev
           exact ev.symm
          subst eg
          have Kl:d1.length=k.bD.length:=a9.length _ _ _ _ J3
          refine jq.append (U:=[.box id t' k.bD]) ⟨by simp only[dx,Kl];omega,[⟨id,.box t' (ch k.bD d1 0),[],[β.cW id]⟩],[],rfl,rfl,rfl,by simp,by simp,fun x hx=> ?_⟩ k2
          rw[List.mem_singleton] at hx
          subst hx
          refine⟨⟨_,aK⟩,fun av β' hv hb hn _ IL=> ?_⟩
          simp only at hv hb hn ⊢
          obtain⟨cN,l1,l2,l3,l4⟩:=a9.bO (β:=β') (av:=av) J3 (fun b hb=>IL b (kp b (List.mem_append_left _ hb))) k.bD.length 0 (by omega)
          have ee:cN=us:=by
           apply List.ext_getElem?
           intro j
           by_cases hj:j<cN.length
           ·have:=l2 j cN[j] (by simp)
            simp only[Nat.zero_add] at this
            rw[this]
            simp
           ·rw[List.getElem?_eq_none (by omega),List.getElem?_eq_none (by omega)]
          subst ee
          simp only[List.drop_zero,List.take_length] at l3
          exact⟨cN,by rw[hb];exact Lq,l3,Lr,by rw[hb]⟩
       | row _ _ _ _ _=>simp at hq
       | d_ _ _=>simp at hq
       | deep _ _ _ _ _=>simp at hq
     | _=>simp [a_] at hq
    | rows ts=>
     simp only[a_,M.ae,Option.bind_eq_some_iff,M.aa,Option.some.injEq] at hq
     obtain⟨q1,aG,q2,cz,rfl⟩:=hq
     have k2:=iE (d:=d) hc (k0+aQ q1.2) ks ms ss l q2 d2 i2 b2 h2 cz o2 A0
     simp only[DH] at o1
     obtain⟨us,ev,o1,rfl⟩:=o1
     have one:jq d k0 h β w' Ic q1.2 d1 b1:=by
      unfold ir at aG
      cases hk:k.agg with
      | true=>
       cases s with
       | agg cs=>
        simp only[hk] at aG
        simp only[ak] at h1
        obtain⟨aM,rfl,gl,bd⟩:=h1
        rw[hk] at ev
        simp only[cond_true,Value.agg.injEq] at ev
        have:aM=us:=by simpa using congrArg Array.toList ev
        subst this
        exact gi (d:=d) hc k0 k.bD ts cs aM q1 d1 b1 gl aG o1
       | _=>simp [hk] at aG
      | false=>
       have lx:(aw k.bD ts [s]).val f h=some q1:=by
        cases s<;>simp only[hk] at aG<;>first | exact aG | (simp at aG)
       rw[hk] at ev
       simp only[cond_false] at ev
       subst ev
       have hO:af w (Av h β) β [s] [v]:=by simp only[af];exact⟨v,[],rfl,h1,rfl⟩
       exact gi (d:=d) hc k0 k.bD ts [s] [v] q1 d1 b1 hO lx o1
     exact one.append k2
    | jA ts=>
     simp only[a_,M.ae,Option.bind_eq_some_iff] at hq
     obtain⟨q1,aG,hq⟩:=hq
     cases A4:bQ q1.2
     ·simp [A4] at hq
     simp only[A4,cond_true,M.ae,Option.bind_eq_some_iff,M.aa,Option.some.injEq] at hq
     obtain⟨q2,cz,rfl⟩:=hq
     simp only[DH] at o1
     obtain⟨rfl,rfl,rfl⟩:=o1
     exact (kn k0 q1.2).append (iE (d:=d) hc _ ks ms ss l q2 d2 i2 b2 h2 cz o2 A0)
    | cL t ts=>
     cases s with
     | ptr id off=>
      cases off with
      | succ off=>simp [a_] at hq
      | zero=>
       simp only[a_,M.aT,Option.bind_eq_some_iff] at hq
       obtain⟨ob,aK,hq⟩:=hq
       cases ob with
       | box t' cells=>
        simp only at hq
        cases kx:Nat.beq t' t
        ·simp [kx] at hq
        ·have ky:=Nat.eq_of_beq_eq_true kx
         subst ky
         simp only[kx,cond_true,M.ae,Option.bind_eq_some_iff] at hq
         obtain⟨q1,aG,hq⟩:=hq
         cases A4:bQ q1.2
         ·simp [A4] at hq
         simp only[A4,cond_true,M.ae,Option.bind_eq_some_iff,M.aa,Option.some.injEq] at hq
         obtain⟨q2,cz,rfl⟩:=hq
         simp only[DH] at o1
         obtain⟨g,us,mm,ev,Lq,Lr,J3,rfl,rfl⟩:=o1
         simp only[ak] at h1
         have eg:g=β.cW id:=by
          rw[h1] at ev
          simp only[Value.pointer.injEq,Option.some.injEq,Addr.mk.injEq,and_true] at ev
          exact ev.symm
         subst eg
         obtain⟨N,n1,n2,n3,n4,n5,n6⟩:=eM (d:=d) k0 k.bD ts d1 us mm J3
         have first:jq d k0 h β w' Ic [.cL id t' k.bD ts] d1 (β.cW id::mm):=by
          refine⟨by simp only[dx,n5];omega,[⟨id,.box t' (bk d k0 k.bD ts d1).1,[],[β.cW id]⟩],N,rfl,by simp only[dJ,List.append_nil,n1],by simpa only[aQ,Nat.add_zero] using n2,n3,by simp [n4],fun x hx=> ?_⟩
          rw[List.mem_singleton] at hx
          subst hx
          refine⟨⟨_,aK⟩,fun av β' hv hb hn hN IL=> ?_⟩
          simp only at hv hb hn ⊢
          exact⟨us,by rw[hb];exact Lq,n6 av β' hN,Lr,by rw[hb]⟩
         have two:=(kn (d:=d) (h:=h) (β:=β) (w':=w') (im:=Ic) (k0+aQ [.cL id t' k.bD ts]) q1.2).append (iE (d:=d) hc _ ks ms ss l q2 d2 i2 b2 h2 cz o2 A0)
         exact first.append two
       | row _ _ _ _ _=>simp at hq
       | d_ _ _=>simp at hq
       | deep _ _ _ _ _=>simp at hq
     | _=>simp [a_] at hq
end
end Go.Proofs.YtnlkklmcfafgeaaGreat.Vm
set_option linter.unusedVariables false
set_option linter.unusedSimpArgs false
namespace Go.Proofs.YtnlkklmcfafgeaaGreat.Vm
section
variable {P:Program} {Γ:Ctx} {w0:World} {S:Own} {st:St} {o:Oper} {e:cJ} {a:Act} {w w':World}
variable {f:Nat→SV} {h:Nat→Option aj} {β:Env} {φ:Nat→List Nat} {tm:Array Value}
theorem EH (T:List fL) (l:List (Nat×Option aj)) (j:Nat):fo (T.map (fun x=>(x.id,some x.obj))++l) h j=match mu T j with | some x=>some x.obj | none=>fo l h j:=by
 induction T with
 | nil=>rfl
 | cons y N ih=>
  simp only[List.map_cons,List.cons_append,fo,az,mu]
  split
  ·rfl
  ·exact ih
theorem EE (D:List Nat) (l:List (Nat×Option aj)) (j:Nat):fo (i7 D++l) h j=if j∈D then none else fo l h j:=by
 induction D with
 | nil=>simp [i7]
 | cons y D ih=>
  simp only[i7,List.map_cons,List.cons_append,fo,az,List.mem_cons] at ih ⊢
  by_cases hj:j=y
  ·simp [hj]
  ·rw[if_neg hj,ih]
   simp [hj]
theorem Ax {i:Nat} :∀ {m:eZ},bS i m=true→∀x∈m,x.1≠i
 | [],_,x,hx=>by simp at hx
 | (k,y)::l,hm,x,hx=>by
  simp only[bS,Bool.and_eq_true,Bool.not_eq_true'] at hm
  rcases List.mem_cons.1 hx with rfl | hx
  ·exact Nat.ne_of_beq_eq_false hm.1
  ·exact Ax hm.2 x hx
theorem mc {i:Nat} :∀ {m:eZ},bS i m=true→fo (ai m) h i=h i
 | [],_=>rfl
 | (k,e',r,u)::l,hm=>by
  simp only[bS,Bool.and_eq_true,Bool.not_eq_true'] at hm
  simp only[ai,fo,az]
  rw[if_neg (fun he=>Nat.ne_of_beq_eq_false hm.1 he.symm)]
  exact mc hm.2
theorem dq:∀ {U:List MU},cV h U→∀b∈U.flatMap (aC β),∃id∈bq U,∃ob,h id=some ob∧b∈al β id ob
 | [],_,b,hb=>by simp at hb
 | .box id t cs::l,hm,b,hb=>by
  simp only[cV] at hm
  obtain⟨⟨cells,hc⟩,hm⟩:=hm
  rw[List.flatMap_cons,List.mem_append] at hb
  rcases hb with hb | hb
  ·exact⟨id,List.mem_cons_self ..,_,hc,hb⟩
  ·obtain⟨i,hi,ob,h1,h2⟩:=dq hm b hb
   exact⟨i,List.mem_cons_of_mem _ hi,ob,h1,h2⟩
 | .row id t e u::l,hm,b,hb=>by
  simp only[cV] at hm
  obtain⟨⟨_,rows,hc⟩,hm⟩:=hm
  rw[List.flatMap_cons,List.mem_append] at hb
  rcases hb with hb | hb
  ·exact⟨id,List.mem_cons_self ..,_,hc,hb⟩
  ·obtain⟨i,hi,ob,h1,h2⟩:=dq hm b hb
   exact⟨i,List.mem_cons_of_mem _ hi,ob,h1,h2⟩
 | .deep id t e ts::l,hm,b,hb=>by
  simp only[cV] at hm
  obtain⟨⟨rows,hc⟩,hm⟩:=hm
  rw[List.flatMap_cons,List.mem_append] at hb
  rcases hb with hb | hb
  ·exact⟨id,List.mem_cons_self ..,_,hc,hb⟩
  ·obtain⟨i,hi,ob,h1,h2⟩:=dq hm b hb
   exact⟨i,List.mem_cons_of_mem _ hi,ob,h1,h2⟩
 | .gone id dp::l,hm,b,hb=>by
  simp only[cV] at hm
  obtain⟨⟨o,ho,hg⟩,hm⟩:=hm
  rw[List.flatMap_cons,List.mem_append] at hb
  rcases hb with hb | hb
  ·exact⟨id,List.mem_cons_self ..,_,ho,by rw[hg.al];exact hb⟩
  ·obtain⟨i,hi,ob,h1,h2⟩:=dq hm b hb
   exact⟨i,List.mem_cons_of_mem _ hi,ob,h1,h2⟩
 | .cL id t cs ts::l,hm,b,hb=>by
  simp only[cV] at hm
  obtain⟨⟨cells,hc⟩,hm⟩:=hm
  rw[List.flatMap_cons,List.mem_append] at hb
  rcases hb with hb | hb
  ·exact⟨id,List.mem_cons_self ..,_,hc,hb⟩
  ·obtain⟨i,hi,ob,h1,h2⟩:=dq hm b hb
   exact⟨i,List.mem_cons_of_mem _ hi,ob,h1,h2⟩
 | .lK::l,hm,b,hb=>by
  rw[List.flatMap_cons] at hb
  exact dq (U:=l) hm b (by simpa [aC] using hb)
theorem db {i:Nat} {l:List Nat} (hn:da (i::l)=true):i ∉ l∧da l=true:=by
 simp only[da,Bool.and_eq_true,Bool.not_eq_true',List.any_eq_false] at hn
 refine⟨fun hi=> ?_,hn.2⟩
 exact hn.1 i hi (Nat.beq_refl i)
theorem dW (hc:Core w0 S f h β φ tm w):∀ {U:List MU},cV h U→da (bq U)=true→(U.flatMap (aC β)).Nodup
 | [],_,_=>by simp
 | .box id t cs::l,hm,hn=>by
  simp only[cV] at hm
  obtain⟨⟨cells,ho⟩,hm⟩:=hm
  obtain⟨h1,h2⟩:=db hn
  rw[List.flatMap_cons,List.nodup_append]
  refine⟨by simp [aC],dW hc hm h2, ?_⟩
  intro b hb b' ax EI
  subst EI
  obtain⟨i,hi,ob,d8,iC⟩:=dq (β:=β) hm b ax
  exact hc.sep id i _ ob (fun he=>h1 (he ▸ hi)) ho d8 b (ah (hc.ay _ _ ho) b hb) (ah (hc.ay _ _ d8) b iC)
 | .row id t e u::l,hm,hn=>by
  simp only[cV] at hm
  obtain⟨⟨_,rows,ho⟩,hm⟩:=hm
  obtain⟨h1,h2⟩:=db hn
  rw[List.flatMap_cons,List.nodup_append]
  refine⟨?_,dW hc hm h2, ?_⟩
  ·simp only[aC]
   cases (β.val id).ownBlock<;>simp
  ·intro b hb b' ax EI
   subst EI
   obtain⟨i,hi,ob,d8,iC⟩:=dq (β:=β) hm b ax
   exact hc.sep id i _ ob (fun he=>h1 (he ▸ hi)) ho d8 b (ah (hc.ay _ _ ho) b hb) (ah (hc.ay _ _ d8) b iC)
 | .deep id t e ts::l,hm,hn=>by
  simp only[cV] at hm
  obtain⟨⟨rows,ho⟩,hm⟩:=hm
  obtain⟨h1,h2⟩:=db hn
  rw[List.flatMap_cons,List.nodup_append]
  refine⟨?_,dW hc hm h2, ?_⟩
  ·obtain⟨vals,aS,_,_,g3,g4⟩:=hc.ay _ _ ho
   have:=(hc.fresh _ _ ho).1
   rw[g4] at this
   simpa only[aC,g3] using this
  ·intro b hb b' ax EI
   subst EI
   obtain⟨i,hi,ob,d8,iC⟩:=dq (β:=β) hm b ax
   exact hc.sep id i _ ob (fun he=>h1 (he ▸ hi)) ho d8 b (ah (hc.ay _ _ ho) b hb) (ah (hc.ay _ _ d8) b iC)
 | .gone id dp::l,hm,hn=>by
  simp only[cV] at hm
  obtain⟨⟨o,ho,hg⟩,hm⟩:=hm
  obtain⟨h1,h2⟩:=db hn
  rw[List.flatMap_cons,List.nodup_append]
  refine⟨?_,dW hc hm h2, ?_⟩
  ·rw[←hg.al]
   rcases hg with ⟨_,t,e,rows,u,_,rfl⟩ | ⟨_,t,e,ts,rows,rfl⟩
   ·simp only[al]
    cases (β.val id).ownBlock<;>simp
   ·obtain⟨vals,aS,_,_,g3,g4⟩:=hc.ay _ _ ho
    have:=(hc.fresh _ _ ho).1
    rw[g4] at this
    simpa only[al,g3] using this
  ·intro b hb b' ax EI
   subst EI
   rw[←hg.al] at hb
   obtain⟨i,hi,ob,d8,iC⟩:=dq (β:=β) hm b ax
   exact hc.sep id i _ ob (fun he=>h1 (he ▸ hi)) ho d8 b (ah (hc.ay _ _ ho) b hb) (ah (hc.ay _ _ d8) b iC)
 | .cL id t cs ts::l,hm,hn=>by
  simp only[cV] at hm
  obtain⟨⟨cells,ho⟩,hm⟩:=hm
  obtain⟨h1,h2⟩:=db hn
  rw[List.flatMap_cons,List.nodup_append]
  refine⟨by simp [aC],dW hc hm h2, ?_⟩
  intro b hb b' ax EI
  subst EI
  obtain⟨i,hi,ob,d8,iC⟩:=dq (β:=β) hm b ax
  exact hc.sep id i _ ob (fun he=>h1 (he ▸ hi)) ho d8 b (ah (hc.ay _ _ ho) b hb) (ah (hc.ay _ _ d8) b iC)
 | .lK::l,hm,hn=>by
  rw[List.flatMap_cons]
  simpa [aC] using dW hc (U:=l) hm hn
theorem la {d:Nat} :∀(B2:List RK) (k:Nat) (r1 r2:List DC),r1.length=cl B2→bl d k B2 (r1++r2)=bl d k B2 r1
 | [],_,_,_,_=>rfl
 | r::rs,k,r1,r2,hl=>by
  simp only[cl] at hl
  simp only[bl]
  rw[List.take_append_of_le_length (by omega),List.drop_append_of_le_length (by omega),la rs _ _ r2 (by simp;omega)]
end
end Go.Proofs.YtnlkklmcfafgeaaGreat.Vm
set_option linter.unusedVariables false
set_option linter.unusedSimpArgs false
namespace Go.Proofs.YtnlkklmcfafgeaaGreat.Vm
section
variable {P:Program} {Γ:Ctx} {w0:World} {S:Own} {st:St} {o:Oper} {e:cJ} {a:Act} {w w':World}
variable {f:Nat→SV} {h:Nat→Option aj} {β:Env} {φ:Nat→List Nat} {tm:Array Value}
theorem B7 (eV:bH P Γ) {s:Sum} {g:Nat} (hs:Gh Γ g=some s) (eH:s.G_=false) (GR:s.pt=none) (JT:s.ms≠[]) (hR:Rel w0 S st a w) (hd:∀d,o.dst=some d→bc st.n d) (bP:∀d,o.dst=some d→e.ow≠[]→bB st d)
  {l:List SV} {us:List Value} (Kn:∀fn,P.funcs[g]? =some fn→fn.body.isSome=true→(fn.name== "runtime.NumGoroutine")=false→(execOp a.eval o).run P w= .ok (.enter g us.toArray) w)
  (hl:∀β φ,Core w0 S st.get st.obj β φ a.tmps w→af w (Av st.obj β) β l us) (he:(AM s o.dst l).val st.get st.obj=some e) (aJ:e.ok=true):Good P w0 S st o e a w:=by
 have hH:Cq P g s:=by
  have h0:=eV g s hs
  unfold gP at h0
  rw[eH,cond_false,GR] at h0
  simp only at h0
  split at h0
  ·rename_i hm
   exact absurd hm JT
  ·exact h0
 unfold AM at he
 cases aI:Nat.blt (bb s.rs) 64 && !(shares s) && (o.dst.isSome || s.rs.isEmpty)
 ·simp [aI] at he
 simp only[aI,cond_true,M.ae,Option.bind_eq_some_iff] at he
 obtain⟨r,hr,he⟩:=he
 cases JL:aO r.2.1 && da (bq r.2.2) && (bq r.2.2).all (fun i=>bS i r.2.1) && (Nat.blt (bb s.rs+aQ r.2.2) 64 && (o.dst.isSome || Nat.beq (aQ r.2.2) 0))
 ·simp [JL] at he
 simp only[JL,cond_true,M.aa,Option.some.injEq] at he
 subst he
 simp only[Bool.and_eq_true,Bool.not_eq_true',List.all_eq_true] at aI JL
 obtain⟨⟨L9,A5⟩,mR⟩:=aI
 obtain⟨⟨⟨Bu,Jk⟩,LN⟩,Hi,Hq⟩:=JL
 have Hi:bb s.rs+aQ r.2.2<64:=Nat.le_of_ble_eq_true Hi
 obtain⟨⟨fn,hf,hb,hn⟩,Cy⟩:=hH
 obtain⟨β,φ,hc⟩:=hR.core
 obtain⟨fp,cy,kt,Cn,lu⟩:=fg hc s.ps s.ms l _ r (hl β φ hc) hr
 have KI:=dW hc Cn Jk
 have KH:∀b∈r.2.2.flatMap (aC β),b ∉ fp:=by
  intro b hb Mg
  obtain⟨id,dV,ob,aK,jE⟩:=dq (β:=β) Cn b hb
  rcases lu b Mg with h3 | ⟨x,hx,ko⟩
  ·exact h3 (.inl ⟨id,ob,aK,jE⟩)
  ·obtain⟨_,Co,_⟩:=kt x hx
   rw[fj Co] at ko
   have cM:x.1≠id:=Ax (LN id dV) x hx
   exact hc.sep x.1 id _ ob cM Co aK b (ah (hc.ay _ _ Co) b ko) (ah (hc.ay _ _ aK) b jE)
 intro Q
 unfold Oper.wp
 rw[Kn fn hf hb hn,Oper.upon_enter]
 refine (Cy w r.1 _ fp _ cy KI KH aJ).mono ?_
 rintro _ w' ⟨vs,J4,im,tp,mK,rd,od,ψ,rfl,JO,ka,hk,A3,hnd,mJ,I_,Ln,J1,A0⟩
 have Kx:im=[]:=fk.jS _ _ _ _ _ _ (by simpa [shares] using A5) A3
 have GG:(s.fn r.1).2.drop (cl s.rs)=od:=by rw[JO,←ka,List.drop_left]
 have Jg:bl (o.dst.getD 0) 0 s.rs (s.fn r.1).2=bl (o.dst.getD 0) 0 s.rs rd:=by rw[JO,la _ _ _ _ ka]
 obtain⟨N1,n1,n2,n3,n4,n5,n6⟩:=jm (d:=o.dst.getD 0) s.rs 0 _ vs J4 im tp A3
 obtain⟨_,T,N2,hT,Ly,q2,q3,Ke,BL⟩:=iE (d:=o.dst.getD 0) (w':=w') hc (bb s.rs) s.ps s.ms l _ r od mK ψ (hl β φ hc) hr I_ (fun b hb=>hb)
 obtain⟨N,hN⟩:∃N,N=N1++N2:=⟨_,rfl⟩
 have Kd:N.flatMap ar.bE=J4++N2.flatMap ar.bE:=by rw[hN,List.flatMap_append,n4]
 have Hj:N.map (·.id)=(List.range' 0 (bb s.rs+aQ r.2.2)).map (ag (o.dst.getD 0)):=by
  have h0:List.range' 0 (bb s.rs)++List.range' (bb s.rs) (aQ r.2.2)=List.range' 0 (bb s.rs+aQ r.2.2):=by
   have:=List.range'_append_1 (s:=0) (m:=bb s.rs) (n:=aQ r.2.2)
   rwa [Nat.zero_add] at this
  rw[hN,List.map_append,n2,q2,←List.map_append,h0]
 have Lz:T.map fL.id=b_ r.2.2:=by
  rw[←dE (d:=o.dst.getD 0) (bb s.rs) r.2.2 od,←hT,List.map_map]
  rfl
 have Jr:∀b∈T.flatMap fL.bE,b∈ψ:=fun b hb=>Ke.subset (List.mem_append_left _ hb)
 have Gf:∀b∈N2.flatMap ar.bE,b∈ψ:=fun b hb=>Ke.subset (List.mem_append_right _ hb)
 have JJ:=Ke.symm.nodup Ln
 rw[List.nodup_append] at JJ
 obtain⟨M',GC⟩:∃M':eZ,M'=bif eY s.ms then [] else r.2.1:=⟨_,rfl⟩
 have hM:bV st.obj M'∧aO M'=true∧∀id∈bq r.2.2,bS id M'=true:=by
  cases jo:eY s.ms with
  | true=>rw[GC,jo];exact⟨by simp [bV],rfl,fun _ _=>rfl⟩
  | false=>rw[GC,jo];exact⟨kt,Bu,LN⟩
 have hfz:(bif eY s.ms then [] else ai r.2.1)=ai M':=by rw[GC];cases eY s.ms<;>rfl
 have jF:=hc.gx M' hM.1 hM.2.1
 have Jj:=hM.2.2
 have KD:∀i∈b_ r.2.2,i∈bq r.2.2:=fun i hi=>(gE r.2.2).2 (.inl hi)
 have Mk:∀i∈cu r.2.2,i∈bq r.2.2:=fun i hi=>(gE r.2.2).2 (.inr hi)
 have Ir:N≠[]→∃d,o.dst=some d:=by
  intro cM
  cases aL:o.dst with
  | some d=>exact⟨d,rfl⟩
  | none=>
   rw[aL] at mR Hq
   simp only[Option.isSome_none,Bool.false_or] at mR Hq
   have Le:s.rs=[]:=List.isEmpty_iff.1 mR
   have h0:=Nat.eq_of_beq_eq_true Hq
   have:=Hj
   rw[Le,h0] at this
   simp only[bb,Nat.add_zero,List.range'_zero,List.map_nil,List.map_eq_nil_iff] at this
   exact absurd this cM
 have CD:∀x∈N,x.id / 64=o.dst.getD 0∧x.id∈N.map (·.id):=by
  intro x hx
  have hm:x.id∈N.map (·.id):=List.mem_map_of_mem hx
  refine⟨?_,hm⟩
  rw[Hj] at hm
  obtain⟨j,hj,f_⟩:=List.mem_map.1 hm
  rw[←f_]
  have:=List.mem_range'_1.1 hj
  exact cO _ j (by omega)
 have mT:(N.map (·.id)).Nodup:=by
  rw[Hj]
  refine List.Pairwise.map _ ?_ (List.nodup_range' ..)
  intro x y Ar e
  unfold ag at e
  omega
 have hle:=hR.kept.size
 have Is:∀x∈T,x.id∈bq r.2.2:=by
  intro x hx
  refine KD _ ?_
  rw[←Lz]
  exact List.mem_map_of_mem hx
 have hval:∀x∈N,(β.ca N T).val x.id=x.v:=by
  intro x hx
  simp [Env.ca,mr hx mT]
 have GW:∀(β':Env),(∀x∈N,β'.val x.id=x.v)→∀x∈N2,β'.val x.id=x.v:=fun β' hb x hx=>hb x (by rw[hN];exact List.mem_append_right _ hx)
 let h':Nat→Option aj:=lk N T (cu r.2.2) (fo (ai M') st.obj)
 have EU:∀b∈mK,¬Av h' (β.ca N T) b:=by
  intro b hb
  have ES:=A0 b hb
  have Mb:M'=r.2.1:=by rw[GC,ES.2.2.2];rfl
  rintro (⟨j,oj,hj,br⟩ | fa)
  case inr=>
   have Mj:=(jF.gI b fa).1
   rcases ES.1 with CB | mO
   ·rcases lu b CB with h3 | ⟨x,hx,ko⟩
    ·exact h3 (.inr fa)
    ·exact dF hc kt hx ko (.inr fa)
   ·omega
  cases jI:fC N j with
  | some x=>
   simp only[h',lk,jI,Option.some.injEq] at hj
   subst hj
   obtain⟨hx,rfl⟩:=bg jI
   rw[x.iO (by simp [Env.ca,jI]) (by simp [Env.ca,jI])] at br
   rw[hN] at hx
   rcases List.mem_append.1 hx with hx | hx
   ·refine ES.2.1 ?_
    rw[←n5]
    exact List.mem_flatMap.2 ⟨x,hx,br⟩
   ·exact ES.2.2.1 (Gf b (List.mem_flatMap.2 ⟨x,hx,x.ah b br⟩))
  | none=>
   simp only[h',lk,jI] at hj
   cases hu:mu T j with
   | some x=>
    simp only[hu,Option.some.injEq] at hj
    subst hj
    obtain⟨LR,rfl⟩:=df hu
    have h1:b∈x.bE:=by
     have hE:=(BL x LR).2 (fun _=>False) (β.ca N T) (by simp [Env.ca,jI]) rfl (by simp [Env.ca,jI,hu]) (GW _ hval) (fun _ _ h=>h)
     exact ah hE b br
    exact ES.2.2.1 (Jr b (List.mem_flatMap.2 ⟨x,LR,h1⟩))
   | none=>
    simp only[hu] at hj
    split at hj
    ·cases hj
    have mP:b∈al β j oj:=by
     cases oj<;>simp only[al,Env.ca,jI,hu] at br ⊢ <;>exact br
    have Kg:=((jF.fresh j oj hj).2 b (ah (jF.ay j oj hj) b mP)).2
    rcases ES.1 with CB | mO
    ·rcases lu b CB with h3 | ⟨x,hx,ko⟩
     ·exact h3 (fX (.inl ⟨j,oj,hj,mP⟩))
     ·exact dF hc hM.1 (by rw[Mb];exact hx) ko (.inl ⟨j,oj,hj,mP⟩)
    ·omega
 have Ki:=jF.J8 (N:=N) (U:=T) (D:=cu r.2.2) (im:=mK) (mb:=r.2.2.flatMap (aC β)) hk.size hle ?_ ?_ ?_ ?_ JJ.1 ?_ EU mT ?_ ?_ ?_ ?_
 ·have eU:=n6 (Av h' (β.ca N T)) (β.ca N T) (fun x hx=>hval x (by rw[hN];exact List.mem_append_left _ hx)) (by rw[Kx];simp)
  have CE:Kept S w0 w':=by
   refine⟨hk.os.trans hR.kept.os,hk.tape.trans hR.kept.tape,hk.output.trans hR.kept.output,by have:=hk.size;omega,fun k h1 h2=> ?_⟩
   refine (hk.block k (by omega) (fun F3=> ?_)).trans (hR.kept.block k h1 h2)
   obtain⟨id,dV,ob,aK,jE⟩:=dq (β:=β) Cn k F3
   rcases ((hc.fresh id ob aK).2 k (ah (hc.ay _ _ aK) k jE)).1 with h3 | h3
   ·omega
   ·exact h2 h3
  have JP:fo ((bl (o.dst.getD 0) 0 s.rs (s.fn r.1).2).2++(dJ (o.dst.getD 0) (bb s.rs) r.2.2 ((s.fn r.1).2.drop (cl s.rs))++
    (ji (o.dst.getD 0) (bb s.rs) r.2.2 ((s.fn r.1).2.drop (cl s.rs))++(i7 (cu r.2.2)++(bif eY s.ms then [] else ai r.2.1))))) (fc none st.obj)=h':=by
   funext j
   have:((bt (o.dst.getD 0) (bb s.rs) r.2.2 od).map fun x=>(x.1,some x.2))=T.map fun x=>(x.id,some x.obj):=by
    rw[←hT,List.map_map]
    rfl
   have A4:cU N1++(cU N2++(T.map (fun x=>(x.id,some x.obj))++(i7 (cu r.2.2)++ai M')))=cU N++(T.map (fun x=>(x.id,some x.obj))++(i7 (cu r.2.2)++ai M')):=by
    rw[hN]
    simp only[cU,List.map_append,List.append_assoc]
   rw[hfz,Jg,GG,n1,gD,this,Ly,A4,AW,EH,EE]
   rfl
  refine⟨pack vs,rfl,iI hR hd CE ⟨β.ca N T,gR N T (bo φ M'), ?_, ?_⟩⟩
  ·show Core w0 S st.get (fo (_++(_++(_++(_++_)))) (fc none st.obj)) _ _ _ _
   rw[JP]
   exact Ki
  ·show ak w' (Av (fo (_++(_++(_++(_++_)))) (fc none st.obj)) (β.ca N T)) (β.ca N T) (il (bl (o.dst.getD 0) 0 s.rs (s.fn r.1).2).1) (pack vs)
   rw[JP,Jg]
   generalize (bl (o.dst.getD 0) 0 s.rs rd).1=q at eU
   match q,vs,eU with
   | [],vs,eU=>
    simp only[af] at eU
    subst eU
    simp only[il,pack,ak]
    exact⟨[],rfl,by simp [af]⟩
   | [x],vs,eU=>
    simp only[af] at eU
    obtain⟨v,l',rfl,h1,rfl⟩:=eU
    exact h1
   | x::y::q,vs,eU=>
    have E9:=eU
    simp only[af] at eU
    obtain⟨v,l',rfl,h1,v2,l2,rfl,h2,h3⟩:=eU
    simp only[il,pack]
    unfold ak
    exact⟨v::v2::l2,rfl,E9⟩
 ·intro b hb
  obtain⟨id,dV,ob,aK,jE⟩:=dq (β:=β) Cn b hb
  refine⟨id, ?_,ob,by rw[mc (Jj _ dV)];exact aK,jE⟩
  rcases (gE r.2.2).1 dV with h3 | h3
  ·rw[←Lz] at h3
   obtain⟨x,hx,rfl⟩:=List.mem_map.1 h3
   exact .inl ⟨x,hx,rfl⟩
  ·exact .inr h3
 ·exact fun b hb jo=>hk.block b hb jo
 ·intro x hx
  obtain⟨⟨ob,h1⟩,_⟩:=BL x hx
  exact⟨ob,by rw[mc (Jj _ (Is x hx))];exact h1⟩
 ·exact fun x hx av β' a b c dd e=>(BL x hx).2 av β' a b c (GW β' dd) e
 ·intro b hb
  obtain⟨p1,p2,p3⟩:=J1 b (Jr b hb)
  refine⟨p1,p2,fun Hl=> ?_⟩
  rw[Kd] at Hl
  rcases List.mem_append.1 Hl with h3 | h3
  ·exact p3 h3
  ·exact JJ.2.2 b hb b h3 rfl
 ·intro x hx
  have h1:=(CD x hx).1
  obtain⟨d,aL⟩:=Ir (fun h0=>by rw[h0] at hx;simp at hx)
  have bP:=bP d aL (by
   show (bl (o.dst.getD 0) 0 s.rs (s.fn r.1).2).2++(dJ (o.dst.getD 0) (bb s.rs) r.2.2 ((s.fn r.1).2.drop (cl s.rs))++_)≠[]
   rw[Jg,n1,GG,Ly]
   intro h0
   rw[List.append_eq_nil_iff] at h0
   have a1:N1=[]:=by simpa [cU] using h0.1
   have h1:=(List.append_eq_nil_iff.1 h0.2).1
   have a2:N2=[]:=by simpa [cU] using h1
   rw[hN,a1,a2] at hx
   simp at hx)
  rw[aL] at h1
  simp only[Option.getD_some] at h1
  refine⟨?_,fun i hi=>bP.slot i _ hi h1,fun k ok CE hi=> ?_⟩
  ·cases hn:fo (ai M') st.obj x.id with
   | none=>rfl
   | some ob=>
    rcases dD hn with h2 | ⟨e',r',rfl,y,hy,h2⟩
    ·exact absurd h1 (bP.obj _ ob h2).1
    ·obtain⟨_,h3,_⟩:=hM.1 y hy
     rw[h2] at h3
     exact absurd h1 (bP.obj _ _ h3).1
  ·rcases dD CE with h2 | ⟨e',r',rfl,_⟩
   ·exact (bP.obj k ok h2).2 _ hi h1
   ·simp [cF] at hi
 ·intro x hx
  rw[hN] at hx
  rcases List.mem_append.1 hx with hx | hx
  ·exact n3 x hx
  ·exact q3 x hx
 ·rw[Kd,List.nodup_append]
  exact⟨hnd,JJ.2.1,fun b hb b' ax EI=>(J1 b' (Gf b' ax)).2.2 (EI ▸ hb)⟩
 ·intro b hb
  rw[Kd] at hb
  rcases List.mem_append.1 hb with hb | hb
  ·exact mJ b hb
  ·exact⟨(J1 b (Gf b hb)).1,(J1 b (Gf b hb)).2.1⟩
end
end Go.Proofs.YtnlkklmcfafgeaaGreat.Vm
set_option linter.unusedVariables false
set_option linter.unusedSimpArgs false
namespace Go.Proofs.YtnlkklmcfafgeaaGreat.Vm
section
variable {P:Program} {Γ:Ctx} {w0:World} {S:Own} {st:St} {o:Oper} {e:cJ} {a:Act} {w w':World}
variable {f:Nat→SV} {h:Nat→Option aj} {β:Env} {φ:Nat→List Nat} {tm:Array Value}
theorem a9.all {av:Nat→Prop} {cs:List CT} {r:List DC} {us:List Value} {fp:List Nat} (hr:a9 w cs r (fun j=>us[j]?) fp) (hl:us.length=cs.length) (ha:∀b∈fp,¬av b):af w av β (ch cs r 0) us:=by
 obtain⟨vs,l1,l2,l3,l4⟩:=a9.bO (β:=β) hr ha cs.length 0 (by omega)
 have e:vs=us:=by
  apply List.ext_getElem?
  intro j
  by_cases hj:j<vs.length
  ·have:=l2 j vs[j] (by simp)
   simp only[Nat.zero_add] at this
   rw[this]
   simp
  ·rw[List.getElem?_eq_none (by omega),List.getElem?_eq_none (by omega)]
 subst e
 simpa only[List.drop_zero,List.take_length] using l3
end
end Go.Proofs.YtnlkklmcfafgeaaGreat.Vm
