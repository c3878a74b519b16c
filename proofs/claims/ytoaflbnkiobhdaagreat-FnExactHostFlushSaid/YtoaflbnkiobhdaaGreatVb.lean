/- The value machine: slices, structs, new objects, appending, contracts. Conditions: as each lemma says. -/
import Derived.Test.YtoaflbnkiobhdaaGreatVa
import Derived.Laws.Tables
import Derived.Great.BuildSlice
import Derived.Laws.CopyRow
namespace Go.Proofs.YtoaflbnkiobhdaaGreat.Vm
theorem CX {w:World} {e:List CT} {r:List (List DC)} {q:Option Addr} {n c:Nat} {fp:List Nat} (h:bV w (.sl e) (.sl r) (.slice q n c) fp) {l m:Nat} (hl:l≤m) (hm:m≤r.length):
  ∃BA,bV w (.sl e) (.sl ((r.take m).drop l)) (.slice (if c=l then q else q.map (·.add (l*e.length))) (m - l) (c - l)) BA∧∀b∈BA,b∈fp:=by
 obtain⟨q',n',c',hv,hn,hc,JP,iT⟩:=de h
 injection hv with h1 h2 h3
 subst h1 h2 h3
 have hlen:((r.take m).drop l).length=m - l:=by simp;omega
 rcases Nat.eq_zero_or_pos (m - l) with h0 | h0
 ·exact⟨[],j4 hlen (by omega) (by omega) (.inl ⟨h0,rfl⟩),by simp⟩
 ·rcases iT with ⟨MR,_⟩ | ⟨_,b,o,aA,rfl,cm,eB,rfl,eJ⟩
  ·omega
  ·rw[if_neg (by omega)]
   refine⟨b::((aA.take m).drop l).flatten,j4 hlen (by omega) (by omega) (.inr ⟨h0,b,o+l*e.length,(aA.take m).drop l, ?_,cm,by simp;omega,rfl,fun i r' f hi hf=> ?_⟩), ?_⟩
   ·simp [dn]
   ·have dQ:r[l+i]? =some r':=by
     rw[List.getElem?_drop,List.getElem?_take] at hi
     split at hi
     ·exact hi
     ·cases hi
    have Bl:aA[l+i]? =some f:=by
     rw[List.getElem?_drop,List.getElem?_take] at hf
     split at hf
     ·exact hf
     ·cases hf
    have:=eJ (l+i) r' f dQ Bl
    have e1:∀j,o+((l+i)*e.length+j)=o+l*e.length+(i*e.length+j):=by intro j;rw[Nat.add_mul];omega
    simpa only[e1] using this
   ·intro x hx
    rcases List.mem_cons.1 hx with rfl | hx
    ·simp
    ·obtain⟨f,hf,hx⟩:=List.mem_flatten.1 hx
     exact List.mem_cons_of_mem _ (List.mem_flatten.2 ⟨f,List.mem_of_mem_take (List.mem_of_mem_drop hf),hx⟩)
section
variable {P:Program} {Γ:Ctx} {w0:World} {S:Own} {st:St} {o:Oper} {e:cG} {a:Act} {w:World}
theorem Core.freeze {f:Nat→SV} {h:Nat→Option aj} {β:Env} {φ:Nat→List Nat} {tm:Array Value} (hc:Core w0 S f h β φ tm w) {id:Nat} {LS:aj} {ct:List CT} {r:List (List DC)} {u:Bool}
  (dR:h id=some LS) (KR:AD LS ct r u):Core w0 S f (az h id (some (.d_ ct r))) β (az φ id []) tm w:=by
 have cO:∀b,Av (az h id (some (.d_ ct r))) β b→Av h β b:=by
  rintro b (⟨i,ob,hi,hb⟩ | hb)
  case inr=>exact .inr hb
  by_cases lu:i=id
  ·subst lu
   simp only[az,if_true,Option.some.injEq] at hi
   subst hi
   simp [al] at hb
  ·simp only[az,lu,if_false] at hi
   exact .inl ⟨i,ob,hi,hb⟩
 have hD:=hc.ay id _ dR
 refine hc.step (fun _=>False) (Nat.le_refl _) (fun _ _ _=>rfl) (fun b hb=> .inl (cO b hb)) (fun _ _ _ h=>h) (fun _ _=>⟨rfl,rfl⟩) ?_ ?_
 ·intro i ob hi
  by_cases lu:i=id
  ·subst lu
   simp only[az,if_true,Option.some.injEq] at hi
   subst hi
   refine .inr ⟨⟨?_,by simp [az]⟩,by simp [az],by simp [az]⟩
   obtain⟨fp,h1,h2,_⟩:=Ar hD KR
   simp only[ak]
   refine⟨fp,h1,fun b hb hx=> ?_⟩
   rcases h2 b hb with aZ | hn
   ·rcases hx with ⟨j,Fs,hj,bo⟩ | hx
    case inr=>exact hc.A8 dR (ah hD b aZ) hx
    have cJ:j≠i:=by
     rintro rfl
     simp only[az,if_true,Option.some.injEq] at hj
     subst hj
     simp [al] at bo
    simp only[az,cJ,if_false] at hj
    exact hc.sep i j _ _ (Ne.symm cJ) dR hj b (ah hD b aZ) (ah (hc.ay j _ hj) b bo)
   ·exact hn (cO b hx)
  ·simp only[az,lu,if_false] at hi
   exact .inl ⟨fun h=>h,hi,by simp [az,lu],fun _ _ h=>h,fun _ _=>rfl⟩
 ·intro i j oi oj cJ hi hj b hb
  by_cases lu:i=id
  ·subst lu;simp [az] at hb
  ·by_cases ca:j=id
   ·subst ca;simp [az]
   ·simp only[az,lu,ca,if_false] at hi hj hb ⊢
    exact hc.sep i j oi oj cJ hi hj b hb
def bS (h:Nat→Option aj) (m:eZ):Prop:=∀x∈m,∃o,h x.1=some o∧AD o x.2.1 x.2.2.1 x.2.2.2
def eX (h:Nat→Option aj) (β:Env) (i:Nat):List Nat:=
 match h i with
 | some o=>al β i o
 | none=>[]
theorem fk {h:Nat→Option aj} {β:Env} {i:Nat} {o:aj} (hi:h i=some o):eX h β i=al β i o:=by simp only[eX,hi]
def bm (φ:Nat→List Nat):eZ→Nat→List Nat
 | []=>φ
 | x::l=>az (bm φ l) x.1 []
theorem gB {id:Nat} {m:eZ} (h:bP id m=true):∀x∈m,x.1≠id:=by
 induction m with
 | nil=>simp
 | cons y l ih=>
  obtain⟨i,q⟩:=y
  simp only[bP,Bool.and_eq_true,Bool.not_eq_true'] at h
  intro x hx
  rcases List.mem_cons.1 hx with rfl | hx
  ·exact Nat.ne_of_beq_eq_false h.1
  ·exact ih h.2 x hx
theorem bI {h:Nat→Option aj} {m:eZ} {id:Nat} (hn:∀x∈m,x.1≠id):fo (ai m) h id=h id:=by
 induction m with
 | nil=>rfl
 | cons y l ih=>
  obtain⟨i,e',r,u⟩:=y
  simp only[ai,fo,az]
  rw[if_neg (fun e=>hn _ (List.mem_cons_self ..) e.symm)]
  exact ih (fun x hx=>hn x (List.mem_cons_of_mem _ hx))
theorem cW {φ:Nat→List Nat} {m:eZ} {id:Nat} (hn:∀x∈m,x.1≠id):bm φ m id=φ id:=by
 induction m with
 | nil=>rfl
 | cons y l ih=>
  simp only[bm,az]
  rw[if_neg (fun e=>hn _ (List.mem_cons_self ..) e.symm)]
  exact ih (fun x hx=>hn x (List.mem_cons_of_mem _ hx))
theorem Core.gw {f:Nat→SV} {h:Nat→Option aj} {β:Env} {φ:Nat→List Nat} {tm:Array Value} (hc:Core w0 S f h β φ tm w):∀(m:eZ),bS h m→aO m=true→
  Core w0 S f (fo (ai m) h) β (bm φ m) tm w
 | [],_,_=>hc
 | (id,e',r,u)::l,hm,hn=>by
  simp only[aO,Bool.and_eq_true] at hn
  have ih:=Core.gw hc l (fun x hx=>hm x (List.mem_cons_of_mem _ hx)) hn.2
  obtain⟨o,dR,aK⟩:=hm _ (List.mem_cons_self ..)
  have KT:=gB hn.1
  exact ih.freeze (id:=id) (ct:=e') (r:=r) (u:=u) (by rw[bI KT];exact dR) aK
theorem iu (s:List UInt8) (l m:Nat):(⟨s.toArray⟩:ByteArray).extract l m=⟨((s.take m).drop l).toArray⟩:=by
 apply ByteArray.ext
 apply Array.toList_inj.1
 rw[Lib.extract_data]
 simp [List.drop_take]
theorem lE {n:Nat} {DW DV:Option SV} {l m:Nat} {c:Bool} (h:dH n DW DV=some (l,m,c)) (hc:c=true):
  l≤m∧m≤n∧((DW=none∧l=0)∨∃k,DW=some (.int k l))∧((DV=none∧m=n)∨∃k,DV=some (.int k m)):=by
 unfold dH at h
 split at h
 ·simp only[Option.some.injEq,Prod.mk.injEq] at h
  obtain⟨rfl,rfl,_⟩:=h
  exact⟨Nat.zero_le _,Nat.le_refl _,.inl ⟨rfl,rfl⟩,.inl ⟨rfl,rfl⟩⟩
 ·rename_i k z
  simp only[Option.some.injEq,Prod.mk.injEq] at h
  obtain⟨rfl,rfl,rfl⟩:=h
  simp only[Bool.and_eq_true,decide_eq_true_eq] at hc
  exact⟨by omega,Nat.le_refl _,.inr ⟨k,by rw[Int.toNat_of_nonneg hc.1]⟩,.inl ⟨rfl,rfl⟩⟩
 ·rename_i k z
  simp only[Option.some.injEq,Prod.mk.injEq] at h
  obtain⟨rfl,rfl,rfl⟩:=h
  simp only[Bool.and_eq_true,decide_eq_true_eq] at hc
  exact⟨Nat.zero_le _,by omega,.inl ⟨rfl,rfl⟩,.inr ⟨k,by rw[Int.toNat_of_nonneg hc.1]⟩⟩
 ·rename_i k z k' z'
  simp only[Option.some.injEq,Prod.mk.injEq] at h
  obtain⟨rfl,rfl,rfl⟩:=h
  simp only[Bool.and_eq_true,decide_eq_true_eq] at hc
  exact⟨by omega,by omega,.inr ⟨k,by rw[Int.toNat_of_nonneg hc.1.1]⟩,.inr ⟨k',by rw[Int.toNat_of_nonneg (by omega)]⟩⟩
 ·cases h
theorem iz {f:Nat→SV} {h:Nat→Option aj} {x:Option Operand} {s:SV} (e:(ki x).val f h=some (some s)):∃y,x=some y∧(b_ y).val f h=some s:=by
 cases x with
 | none=>simp [ki] at e
 | some y=>
  simp only[ki,M.ae,Option.bind_eq_some_iff,M.aa,Option.some.injEq] at e
  obtain⟨s',h1,rfl⟩:=e
  exact⟨y,rfl,h1⟩
theorem iy {f:Nat→SV} {h:Nat→Option aj} {x:Option Operand} (e:(ki x).val f h=some none):x=none:=by
 cases x with
 | none=>rfl
 | some y=>simp [ki,Option.bind_eq_some_iff] at e
theorem iJ {x:Nat} {k:IntKind} {y:Nat} {code:BoundsCode} (h:x≤y):(Instr.sliceBound (.int k x) y code).run P w= .ok x w:=by
 simp [Instr.sliceBound,asIntOf,h]
theorem jm {lo hi:Option Operand} {DW DV:Option SV} {n cap l m:Nat} {c isS:Bool} {β:Env} {φ:Nat→List Nat} (ln:n≤cap) (hC:Core w0 S st.get st.obj β φ a.tmps w)
  (h1:(ki lo).val st.get st.obj=some DW) (h2:(ki hi).val st.get st.obj=some DV) (h:dH n DW DV=some (l,m,c)) (hc:c=true):
  (Instr.sliceBounds isS n cap (lo.map a.eval) (hi.map a.eval) none).run P w= .ok (l,m,cap) w:=by
 obtain⟨FH,Bo,hl,hm⟩:=lE h hc
 rcases hl with ⟨rfl,rfl⟩ | ⟨k,rfl⟩<;>rcases hm with ⟨rfl,rfl⟩ | ⟨k',rfl⟩
 ·simp [iy h1,iy h2,Instr.sliceBounds]
 ·obtain⟨y,rfl,hy⟩:=iz h2
  have hy:=hC.ev hy
  simp only[ak] at hy
  simp [iy h1,Instr.sliceBounds,hy.1,iJ (P:=P) (w:=w) (k:=k') (by omega:m≤cap)]
 ·obtain⟨y,rfl,hy⟩:=iz h1
  have hy:=hC.ev hy
  simp only[ak] at hy
  simp [iy h2,Instr.sliceBounds,hy.1,iJ (P:=P) (w:=w) (k:=k) FH]
 ·obtain⟨y,rfl,hy⟩:=iz h1
  have hy:=hC.ev hy
  obtain⟨z,rfl,hz⟩:=iz h2
  have hz:=hC.ev hz
  simp only[ak] at hy hz
  simp [Instr.sliceBounds,hy.1,hz.1,iJ (P:=P) (w:=w) (k:=k) FH,iJ (P:=P) (w:=w) (k:=k') (by omega:m≤cap)]
theorem B6 (hR:Rel w0 S st a w) (hd:∀d,o.dst=some d→ba st.n d) {t:TypeId} {x:Operand} {lo hi:Option Operand} (ho:o.op= .slice t x lo hi none) {sx:SV} {DW DV:Option SV}
  (h1:(b_ x).val st.get st.obj=some sx) (h2:(ki lo).val st.get st.obj=some DW) (h3:(ki hi).val st.get st.obj=some DV)
  (he:(CY P t sx DW DV).val st.get st.obj=some e) (aJ:e.ok=true):Good P w0 S st o e a w:=by
 unfold CY at he
 split at he
 ·rename_i hu
  split at he
  ·rename_i s
   split at he
   ·rename_i l m c gI
    simp only[M.aa,Option.some.injEq] at he
    subst he
    have aJ:c=true:=aJ
    refine ao hR hd rfl rfl fun β φ hc=> ?_
    have hx:=hc.ev h1
    simp only[ak] at hx
    have hb:=jm (P:=P) (isS:=false) (Nat.le_refl _) hc h2 h3 gI aJ
    refine⟨.string ⟨((s.take m).drop l).toArray⟩, ?_, ?_⟩
    ·simp [execOp,ho,hx.1,Instr.sliceAt,Instr.slice,run_underlying hu,dv,hb,iu]
    ·unfold ak
     refine⟨rfl, ?_⟩
     simp only[List.length_drop,List.length_take]
     omega
   ·simp at he
  ·simp at he
 ·rename_i et hu
  have run:∀(q:Option Addr) (n cap l m:Nat) (c:Bool) (i:TypeInfo) (β:Env) (φ:Nat→List Nat),Core w0 S st.get st.obj β φ a.tmps w→n≤cap→P.info? et=some i→dH n DW DV=some (l,m,c)→c=true→
    a.eval x= .slice q n cap→(execOp a.eval o).run P w= .ok (.value (.slice (if cap=l then q else q.map (·.add (l*i.size))) (m - l) (cap - l))) w:=by
   intro q n cap l m c i β φ hc ln hi gI AU hx
   have hb:=jm (P:=P) (isS:=true) ln hc h2 h3 gI AU
   simp [execOp,ho,hx,Instr.sliceAt,Instr.slice,run_underlying hu,hb,sizeOf,typeInfo,hi]
  split at he
  ·rename_i ct r
   cases hz:aY P et ct.length
   ·simp [hz] at he
   simp only[hz,cond_true] at he
   obtain⟨i,hi,dx⟩:=aW hz
   split at he
   ·rename_i l m c gI
    simp only[M.aa,Option.some.injEq] at he
    subst he
    have aJ:c=true:=aJ
    refine ao hR hd rfl rfl fun β φ hc=> ?_
    have hx:=hc.ev h1
    simp only[ak] at hx
    obtain⟨fp,hr,cO⟩:=hx
    obtain⟨q,n,cap,hv,hn,ln,_,_⟩:=de hr
    obtain⟨FH,Bo,_⟩:=lE gI aJ
    rw[hv] at hr
    obtain⟨BA,hX,HH⟩:=CX hr FH Bo
    refine⟨_,run q n cap l m c i β φ hc ln hi (by rw[←hn];exact gI) aJ hv, ?_⟩
    simp only[ak]
    rw[dx]
    exact⟨BA,hX,fun b hb=>cO b (HH b hb)⟩
   ·simp at he
  ·rename_i id
   simp only[M.aT,Option.bind_eq_some_iff] at he
   obtain⟨ob,aK,he⟩:=he
   split at he
   ·rename_i t' ct r u
    cases hz:Nat.beq t' et && aY P et ct.length
    ·simp [hz] at he
    simp only[hz,cond_true] at he
    simp only[Bool.and_eq_true] at hz
    obtain⟨i,hi,dx⟩:=aW hz.2
    split at he
    ·rename_i l m c gI
     simp only[M.aa,Option.some.injEq] at he
     subst he
     have aJ:c=true:=aJ
     obtain⟨β,φ,hc⟩:=hR.core
     have hx:=hc.ev h1
     simp only[ak] at hx
     have Lv:=hc.freeze aK (.inl ⟨_,_,rfl⟩)
     have EO:=(Lv.ay id (.d_ ct r) (by simp [az])).1
     simp only[ak] at EO
     obtain⟨fp,hr,cO⟩:=EO
     obtain⟨q,n,cap,hv,hn,ln,_,_⟩:=de hr
     obtain⟨FH,Bo,_⟩:=lE gI aJ
     rw[hv] at hr
     obtain⟨BA,hX,HH⟩:=CX hr FH Bo
     refine bJ hR hd (run q n cap l m c i β φ hc ln hi (by rw[←hn];exact gI) aJ (hx.1.trans hv)) hR.kept ⟨β,_,Lv, ?_⟩
     simp only[ak]
     rw[dx]
     exact⟨BA,hX,fun b hb=>cO b (HH b hb)⟩
    ·simp at he
   ·rename_i ct r
    cases hz:aY P et ct.length
    ·simp [hz] at he
    simp only[hz,cond_true] at he
    obtain⟨i,hi,dx⟩:=aW hz
    split at he
    ·rename_i l m c gI
     simp only[M.aa,Option.some.injEq] at he
     subst he
     have aJ:c=true:=aJ
     refine ao hR hd rfl rfl fun β φ hc=> ?_
     have hx:=hc.ev h1
     simp only[ak] at hx
     have EO:=(hc.ay id _ aK).1
     simp only[ak] at EO
     obtain⟨fp,hr,cO⟩:=EO
     obtain⟨q,n,cap,hv,hn,ln,_,_⟩:=de hr
     obtain⟨FH,Bo,_⟩:=lE gI aJ
     rw[hv] at hr
     obtain⟨BA,hX,HH⟩:=CX hr FH Bo
     refine⟨_,run q n cap l m c i β φ hc ln hi (by rw[←hn];exact gI) aJ (hx.1.trans hv), ?_⟩
     simp only[ak]
     rw[dx]
     exact⟨BA,hX,fun b hb=>cO b (HH b hb)⟩
    ·simp at he
   ·simp at he
  ·simp at he
 ·simp at he
end
end Go.Proofs.YtoaflbnkiobhdaaGreat.Vm
namespace Go.Proofs.YtoaflbnkiobhdaaGreat.Vm
theorem Dw (off:Nat):∀(vs:List Value) (k:Nat) (cs:Array Value),off+k+vs.length≤cs.size→
  ((vs.zipIdx k).foldl (fun cs (x:Value×Nat)=>cs.setIfInBounds (off+x.2) x.1) cs).toList=cs.toList.take (off+k)++(vs++cs.toList.drop (off+k+vs.length))
 | [],k,cs,h=>by simp
 | v::vs,k,cs,h=>by
  simp only[List.zipIdx_cons,List.foldl_cons]
  simp only[List.length_cons] at h
  rw[Dw off vs (k+1) _ (by simp;omega)]
  have e1:(cs.setIfInBounds (off+k) v).toList=cs.toList.set (off+k) v:=by simp
  have hl:off+k<cs.toList.length:=by simp;omega
  rw[e1]
  have e2:(cs.toList.set (off+k) v).take (off+(k+1))=cs.toList.take (off+k)++[v]:=by
   rw[←Nat.add_assoc,List.take_succ_eq_append_getElem (by simpa using hl),List.take_set_of_le (Nat.le_refl _)]
   simp
  have e3:(cs.toList.set (off+k) v).drop (off+(k+1)+vs.length)=cs.toList.drop (off+k+(vs.length+1)):=by
   rw[List.drop_set_of_lt (by omega)]
   congr 1
   omega
  rw[e2,e3]
  simp
theorem kj {place:Nat→Option (Nat×Nat)} {cells:Array Value} {i off:Nat} {v:Value} {rest:List (Nat×Value)} (hp:place i=some (off,v.cells.size)) (hl:off+v.cells.size≤cells.size):
  Instr.fill place cells ((i,v)::rest)=Instr.fill place (cells.toList.take off++(v.cells.toList++cells.toList.drop (off+v.cells.size))).toArray rest:=by
 have h1:(v.cells.zipIdx.foldl (fun cs (x:Value×Nat)=>cs.setIfInBounds (off+x.2) x.1) cells)=(cells.toList.take off++(v.cells.toList++cells.toList.drop (off+v.cells.size))).toArray:=by
  apply Array.toList_inj.1
  rw[←Array.foldl_toList,Array.toList_zipIdx]
  have:=Dw off v.cells.toList 0 cells (by simpa using hl)
  simpa using this
 simp only[Instr.fill,hp]
 rw[if_neg (by simp;omega)]
 exact congrArg (fun x=>Instr.fill place x rest) h1
section
variable {P:Program} {Γ:Ctx} {w0:World} {S:Own} {st:St} {o:Oper} {e:cG} {a:Act} {w:World}
theorem dM {av:Nat→Prop} {β:Env} {f:Nat→SV} {h:Nat→Option aj} {s:SV} {v:Value} {cs:List SV} (hs:ak w av β s v) (hc:(aD s).val f h=some cs):
  af w av β cs v.cells.toList∧∀x∈v.cells.toList,x.oneCell'=true:=by
 have single:v.oneCell'=true→cs=[s]→af w av β cs v.cells.toList∧∀x∈v.cells.toList,x.oneCell'=true:=by
  intro bb fC
  have mf:v.cells= #[v]:=by cases v<;>first | rfl | (simp [Value.oneCell'] at bb)
  rw[mf,fC]
  simp only[List.mem_singleton,forall_eq,af]
  exact⟨⟨v,[],rfl,hs,rfl⟩,bb⟩
 cases s with
 | fA=>simp [aD] at hc
 | undef=>simp [aD] at hc
 | Dz l=>simp [aD] at hc
 | FQ g l=>simp [aD] at hc
 | FM id lo z=>simp [aD] at hc
 | agg l=>
  simp only[aD,M.aa,Option.some.injEq] at hc
  subst hc
  simp only[ak] at hs
  obtain⟨vs,rfl,h1,h2⟩:=hs
  simpa [Value.cells] using ⟨h1,h2⟩
 | kb b=>simp only[aD,M.aa,Option.some.injEq] at hc;exact single (by simp only[ak] at hs;subst hs;rfl) hc.symm
 | int k n=>simp only[aD,M.aa,Option.some.injEq] at hc;exact single (by simp only[ak] at hs;rw[hs.1];rfl) hc.symm
 | bool b=>simp only[aD,M.aa,Option.some.injEq] at hc;exact single (by simp only[ak] at hs;subst hs;rfl) hc.symm
 | str b=>simp only[aD,M.aa,Option.some.injEq] at hc;exact single (by simp only[ak] at hs;rw[hs.1];rfl) hc.symm
 | sl e r=>simp only[aD,M.aa,Option.some.injEq] at hc;exact single (by simp only[ak] at hs;obtain⟨fp,hr,_⟩:=hs;exact hr.one) hc.symm
 | nil=>simp only[aD,M.aa,Option.some.injEq] at hc;exact single (by simp only[ak] at hs;subst hs;rfl) hc.symm
 | own id=>simp only[aD,M.aa,Option.some.injEq] at hc;exact single (by simp only[ak] at hs;exact hs.2) hc.symm
 | ptr id off=>simp only[aD,M.aa,Option.some.injEq] at hc;exact single (by simp only[ak] at hs;subst hs;rfl) hc.symm
 | gM e r off=>simp only[aD,M.aa,Option.some.injEq] at hc;exact single (by simp only[ak] at hs;obtain⟨b,o,fp,hv,_⟩:=hs;subst hv;rfl) hc.symm
 | d9 id i z off=>simp only[aD,M.aa,Option.some.injEq] at hc;exact single (by simp only[ak] at hs;obtain⟨g,_,hv⟩:=hs;subst hv;rfl) hc.symm
theorem eN {av:Nat→Prop} {β:Env} :∀(l:List Value),af w av β (l.map ofConst) l
 | []=>by simp [af]
 | v::l=>by
  simp only[List.map_cons,af]
  exact⟨v,l,rfl,jj v,eN l⟩
theorem DP {fs:Array Field} {places:List (Nat×Nat)} (h:fs.toList.mapM (fun f=>(P.info? f.type).map fun i=>(f.offset,i.size))=some places) {i:Nat} {f:Field} (hf:fs[i]? =some f):
  ∃ti,P.info? f.type=some ti∧places.toArray[i]? =some (f.offset,ti.size):=by
 have Bl:fs.toList[i]? =some f:=by simpa using hf
 clear hf
 generalize fs.toList=l at h Bl
 induction l generalizing places i with
 | nil=>simp at Bl
 | cons g l ih=>
  simp only[List.mapM_cons,Option.bind_eq_bind,Option.pure_def] at h
  cases hi:P.info? g.type with
  | none=>simp [hi] at h
  | some ti=>
   cases hr:l.mapM (fun f=>(P.info? f.type).map fun i=>(f.offset,i.size)) with
   | none=>simp [hi,hr] at h
   | some rest=>
    simp [hi,hr] at h
    subst h
    cases i with
    | zero=>
     simp at Bl
     subst Bl
     exact⟨ti,hi,by simp⟩
    | succ i=>
     obtain⟨tj,h1,h2⟩:=ih hr (by simpa using Bl)
     exact⟨tj,h1,by simpa using h2⟩
theorem m7 {β:Env} {φ:Nat→List Nat} (hc:Core w0 S st.get st.obj β φ a.tmps w) {fs:Array Field} {places:List (Nat×Nat)}
  (hp:fs.toList.mapM (fun f=>(P.info? f.type).map fun i=>(f.offset,i.size))=some places):
  ∀(parts:List (Nat×Operand)) (cells:List SV) (cs:List SV) (vs:List Value),(ke P fs parts cells).val st.get st.obj=some cs→af w (Av st.obj β) β cells vs→(∀x∈vs,x.oneCell'=true)→
  ∃us:List Value,Instr.fill (places.toArray[·]?) vs.toArray (parts.map fun x=>(x.1,a.eval x.2))=some us.toArray∧af w (Av st.obj β) β cs us∧∀x∈us,x.oneCell'=true
 | [],cells,cs,vs,hb,hr,h1=>by
  simp only[ke,M.aa,Option.some.injEq] at hb
  subst hb
  exact⟨vs,by simp [Instr.fill],hr,h1⟩
 | (i,x)::rest,cells,cs,vs,hb,hr,h1=>by
  simp only[ke] at hb
  split at hb
  ·rename_i f hf
   simp only[M.ae,Option.bind_eq_some_iff] at hb
   obtain⟨s,hs,Ic,AU,hb⟩:=hb
   cases hz:aY P f.type Ic.length && Nat.ble (f.offset+Ic.length) cells.length
   ·simp [hz] at hb
   simp only[hz,cond_true] at hb
   simp only[Bool.and_eq_true] at hz
   obtain⟨ti,F6,KV⟩:=DP hp hf
   obtain⟨M4,F7,dx⟩:=aW hz.1
   rw[F6] at F7
   injection F7 with F7
   subst F7
   have hle:=Nat.le_of_ble_eq_true hz.2
   obtain⟨fC,bb⟩:=dM (hc.ev hs) AU
   have hlen:=af.length _ _ hr
   have BI:=af.length _ _ fC
   have br:(a.eval x).cells.size=ti.size:=by simpa [dx] using BI
   have dP:f.offset+(a.eval x).cells.size≤vs.toArray.size:=by simp;omega
   have bD:af w (Av st.obj β) β (cells.take f.offset++(Ic++cells.drop (f.offset+Ic.length))) (vs.take f.offset++((a.eval x).cells.toList++vs.drop (f.offset+(a.eval x).cells.size))):=by
    refine af.append _ _ _ _ (af.take _ _ _ hr) (af.append _ _ _ _ fC ?_)
    have:Ic.length=(a.eval x).cells.size:=by simpa using BI.symm
    rw[this]
    exact af.drop _ _ _ hr
   obtain⟨us,kR,gk,ml⟩:=m7 hc hp rest _ cs _ hb bD (by
    intro y hy
    simp only[List.mem_append] at hy
    rcases hy with hy | hy | hy
    ·exact h1 y (List.mem_of_mem_take hy)
    ·exact bb y hy
    ·exact h1 y (List.mem_of_mem_drop hy))
   refine⟨us, ?_,gk,ml⟩
   simp only[List.map_cons]
   rw[kj (off:=f.offset) (by rw[br];exact KV) dP]
   simpa using kR
  ·simp at hb
theorem dw {f:Nat→SV} {h:Nat→Option aj} {t:TypeId} {z:List SV} (hz:(dI P t).val f h=some z):
  ∃i zv,P.info? t=some i∧i.zero=some zv∧z=zv.cells.toList.map ofConst∧∀x∈zv.cells.toList,x.oneCell'=true:=by
 unfold dI at hz
 split at hz
 ·rename_i i hi
  split at hz
  ·rename_i zv mU
   cases ha:zv.cells.toList.all (·.oneCell')
   ·simp [ha] at hz
   ·simp only[ha,cond_true,M.aa,Option.some.injEq] at hz
    exact⟨i,zv,hi,mU,hz.symm,fun x hx=>List.all_eq_true.1 ha x hx⟩
  ·simp at hz
 ·simp at hz
theorem B1 (hR:Rel w0 S st a w) (hd:∀d,o.dst=some d→ba st.n d) {t:TypeId} {parts:Array (Nat×Operand)} (ho:o.op= .build t parts) {fs:Array Field} {places:List (Nat×Nat)} {z cs:List SV}
  (hu:P.underlying t=some (.struct fs)) (hp:fs.toList.mapM (fun f=>(P.info? f.type).map fun i=>(f.offset,i.size))=some places)
  (hz:(dI P t).val st.get st.obj=some z) (hb:(ke P fs parts.toList z).val st.get st.obj=some cs) (he:e= {sv:= .agg cs}):Good P w0 S st o e a w:=by
 subst he
 refine ao hR hd rfl rfl fun β φ hc=> ?_
 obtain⟨i,zv,hi,mU,rfl,bb⟩:=dw hz
 obtain⟨us,kR,gk,ml⟩:=m7 hc hp parts.toList _ cs _ hb (eN zv.cells.toList) bb
 refine⟨.agg us.toArray, ?_,by unfold ak;exact⟨us,rfl,gk,ml⟩⟩
 have Hh:P.built t (parts.map fun x=>(x.1,a.eval x.2)).toList=some us.toArray:=by
  simp only[Program.built,hi,hu,mU,hp]
  simpa using kR
 have:=run_build (P:=P) w t (parts.map fun x=>(x.1,a.eval x.2)) us.toArray Hh
 simp [execOp,ho,this]
end
end Go.Proofs.YtoaflbnkiobhdaaGreat.Vm
namespace Go.Proofs.YtoaflbnkiobhdaaGreat.Vm
def Env.CV (β:Env) (id b:Nat):Env:=⟨az β.cT id b,β.val,β.gH,β.nb⟩
def Env.fS (β:Env) (id:Nat) (v:Value):Env:=⟨β.cT,az β.val id v,β.gH,β.nb⟩
theorem mV {i:Nat} {m n:eZ} :bP i (m++n)=(bP i m && bP i n):=by
 induction m with
 | nil=>simp [bP]
 | cons x l ih=>obtain⟨j,q⟩:=x;simp [bP,ih,Bool.and_assoc]
theorem gK {m n:eZ} (h:aO (m++n)=true):aO m=true∧aO n=true∧∀x∈m,∀y∈n,x.1≠y.1:=by
 induction m with
 | nil=>exact⟨rfl,by simpa using h,by simp⟩
 | cons x l ih=>
  obtain⟨j,q⟩:=x
  simp only[List.cons_append,aO,mV,Bool.and_eq_true] at h
  obtain⟨h1,h2,h3⟩:=ih h.2
  refine⟨by simp [aO,h.1.1,h1],h2,fun x hx y hy=> ?_⟩
  rcases List.mem_cons.1 hx with rfl | hx
  ·exact fun e=>gB h.1.2 y hy e.symm
  ·exact h3 x hx y hy
section
variable {P:Program} {Γ:Ctx} {w0:World} {S:Own} {st:St} {o:Oper} {e:cG} {a:Act} {w:World}
variable {f:Nat→SV} {h:Nat→Option aj} {β:Env} {φ:Nat→List Nat} {tm:Array Value}
theorem fY {m:eZ} {b:Nat} (hb:Av (fo (ai m) h) β b):Av h β b:=by
 induction m generalizing b with
 | nil=>exact hb
 | cons x l ih=>
  obtain⟨i,e',r,u⟩:=x
  rcases hb with ⟨j,ob,hj,bo⟩ | hb
  case inr=>exact .inr hb
  simp only[ai,fo,az] at hj
  split at hj
  ·injection hj with hj
   subst hj
   simp [al] at bo
  ·exact ih (.inl ⟨j,ob,hj,bo⟩)
theorem dB (hc:Core w0 S f h β φ tm w) {m:eZ} (hm:bS h m) {x:Nat×List CT×List (List DC)×Bool} (hx:x∈m) {b:Nat} (hb:b∈eX h β x.1):¬Av (fo (ai m) h) β b:=by
 rintro (⟨j,ob,hj,bo⟩ | fa)
 case inr=>
  obtain⟨o,dR,_⟩:=hm x hx
  rw[fk dR] at hb
  exact hc.A8 dR (ah (hc.ay _ _ dR) b hb) fa
 obtain⟨o,dR,_⟩:=hm x hx
 rw[fk dR] at hb
 have frozen:∀(l:eZ) (j:Nat),(∃y∈l,y.1=j)→∃e' r,fo (ai l) h j=some (.d_ e' r):=by
  intro l
  induction l with
  | nil=>rintro j ⟨y,hy,_⟩;simp at hy
  | cons z l ih=>
   obtain⟨i,e',r,u⟩:=z
   rintro j ⟨y,hy,rfl⟩
   simp only[ai,fo,az]
   by_cases Ld:y.1=i
   ·rw[if_pos Ld];exact⟨e',r,rfl⟩
   ·rw[if_neg Ld]
    rcases List.mem_cons.1 hy with rfl | hy
    ·exact absurd rfl Ld
    ·exact ih y.1 ⟨y,hy,rfl⟩
 by_cases BH:∃y∈m,y.1=j
 ·obtain⟨e',r,bM⟩:=frozen m j BH
  rw[bM] at hj
  injection hj with hj
  subst hj
  simp [al] at bo
 ·have f9:h j=some ob:=by rw[bI (fun y hy e=>BH ⟨y,hy,e⟩)] at hj;exact hj
  have cJ:x.1≠j:=fun e=>BH ⟨x,hx,e⟩
  exact hc.sep x.1 j _ _ cJ dR f9 b (ah (hc.ay x.1 _ dR) b hb) (ah (hc.ay j _ f9) b bo)
theorem dy (hc:Core w0 S f h β φ tm w) {ct:CT} {s:SV} {v:Value} {q:DC×eZ×Bool} (hs:ak w (Av h β) β s v) (hq:(eP ct s).val f h=some q):
  ∃fp,bV w ct q.1 v fp∧bS h q.2.1∧aO q.2.1=true∧(∀b∈fp,(¬Av h β b)∨∃x∈q.2.1,b∈eX h β x.1)∧
   (q.2.2=true→(∀b∈fp,∃x∈q.2.1,b∈φ x.1)∧fp.Nodup):=by
 have plain:∀(d:DC) (fr:Bool) (fp:List Nat),q=(d,[],fr)→bV w ct d v fp→(∀b∈fp,¬Av h β b)→(fr=true→fp=[])→
   ∃fp,bV w ct q.1 v fp∧bS h q.2.1∧aO q.2.1=true∧(∀b∈fp,(¬Av h β b)∨∃x∈q.2.1,b∈eX h β x.1)∧(q.2.2=true→(∀b∈fp,∃x∈q.2.1,b∈φ x.1)∧fp.Nodup):=by
  rintro d fr fp rfl hr cO bM
  refine⟨fp,hr,by simp [bS],rfl,fun b hb=> .inl (cO b hb),fun hf=> ?_⟩
  rw[bM hf]
  simp
 unfold eP at hq
 split at hq
 ·rename_i k n
  split at hq
  ·rename_i k'
   by_cases hk:k=k'
   ·subst hk
    simp only[decide_true,cond_true,M.aa,Option.some.injEq] at hq
    simp only[ak] at hs
    exact plain _ _ [] hq.symm (by unfold bV;exact⟨n,rfl,hs.1,hs.2,rfl⟩) (by simp) (by simp)
   ·simp [hk] at hq
  ·simp at hq
 ·split at hq
  ·simp only[M.aa,Option.some.injEq] at hq
   simp only[ak] at hs
   exact plain _ _ [] hq.symm (by unfold bV;exact⟨_,rfl,hs,rfl⟩) (by simp) (by simp)
  ·simp at hq
 ·split at hq
  ·simp only[M.aa,Option.some.injEq] at hq
   simp only[ak] at hs
   exact plain _ _ [] hq.symm (by unfold bV;exact⟨_,rfl,hs,rfl⟩) (by simp) (by simp)
  ·simp at hq
 ·split at hq
  ·simp only[M.aa,Option.some.injEq] at hq
   simp only[ak] at hs
   exact plain _ _ [] hq.symm (by unfold bV;exact⟨_,rfl,hs.1,hs.2,rfl⟩) (by simp) (by simp)
  ·simp at hq
 ·rename_i e' r
  split at hq
  ·rename_i Et
   cases hb:aF e' Et
   ·simp [hb] at hq
   ·simp only[hb,cond_true,M.aa,Option.some.injEq] at hq
    have:=aN _ _ hb
    subst this
    simp only[ak] at hs
    obtain⟨fp,hr,cO⟩:=hs
    exact plain _ _ fp hq.symm hr cO (by simp)
  ·simp at hq
 ·split at hq
  ·simp only[M.aa,Option.some.injEq] at hq
   simp only[ak] at hs
   subst hs
   exact plain _ _ [] hq.symm (j4 rfl (Nat.le_refl _) (Nat.zero_le _) (.inl ⟨rfl,rfl⟩)) (by simp) (by simp)
  ·simp at hq
 ·rename_i id
  split at hq
  ·rename_i e'
   simp only[ak] at hs
   obtain⟨hs,_⟩:=hs
   subst hs
   simp only[M.aT,Option.bind_eq_some_iff] at hq
   obtain⟨ob,aK,hq⟩:=hq
   split at hq
   ·rename_i t' Et r fz u
    cases hb:aF Et e'
    ·simp [hb] at hq
    ·simp only[hb,cond_true,M.aa,Option.some.injEq] at hq
     have:=aN _ _ hb
     subst this hq
     obtain⟨fp,h1,h2,h3⟩:=bl (hc.ay id _ aK)
     refine⟨fp,h1, ?_,rfl,fun b hb=> ?_,fun hu=>⟨fun b hb=>⟨_,List.mem_singleton.2 rfl,(h3 hu).1 b hb⟩,(h3 hu).2 (hc.fresh id _ aK).1⟩⟩
     ·intro x hx
      rw[List.mem_singleton] at hx
      subst hx
      exact⟨_,aK,.inl ⟨t',fz,rfl⟩⟩
     ·rcases h2 b hb with hx | hx
      ·exact .inr ⟨_,List.mem_singleton.2 rfl,by rw[fk aK];exact hx⟩
      ·exact .inl hx
   ·rename_i Et r
    cases hb:aF Et e'
    ·simp [hb] at hq
    ·simp only[hb,cond_true,M.aa,Option.some.injEq] at hq
     have:=aN _ _ hb
     subst this
     obtain⟨h1,_⟩:=hc.ay id _ aK
     simp only[ak] at h1
     obtain⟨fp,hr,cO⟩:=h1
     exact plain _ _ fp hq.symm hr cO (by simp)
   ·rename_i t' Et ts r
    cases hb:aF Et e'
    ·simp [hb] at hq
    ·simp only[hb,cond_true,M.aa,Option.some.injEq] at hq
     have:=aN _ _ hb
     subst this hq
     have LC:AD (.deep t' Et ts r none) Et r true:= .inr ⟨t',ts,rfl,rfl⟩
     obtain⟨fp,h1,h2,h3⟩:=Ar (hc.ay id _ aK) LC
     refine⟨fp,h1, ?_,rfl,fun b hb=> ?_,fun hu=>⟨fun b hb=>⟨_,List.mem_singleton.2 rfl,(h3 hu).1 b hb⟩,(h3 hu).2 (hc.fresh id _ aK).1⟩⟩
     ·intro x hx
      rw[List.mem_singleton] at hx
      subst hx
      exact⟨_,aK,LC⟩
     ·rcases h2 b hb with hx | hx
      ·exact .inr ⟨_,List.mem_singleton.2 rfl,by rw[fk aK];exact hx⟩
      ·exact .inl hx
   ·simp at hq
  ·simp at hq
 ·simp at hq
theorem fe {m n:eZ} (h1:bS h m) (h2:bS h n):bS h (m++n):=fun x hx=>by
 rcases List.mem_append.1 hx with hx | hx
 ·exact h1 x hx
 ·exact h2 x hx
theorem apart (hc:Core w0 S f h β φ tm w) {m n:eZ} (hm:bS h m) (hn:bS h n) (cJ:∀x∈m,∀y∈n,x.1≠y.1) {p q:List Nat}
  (hp:∀b∈p,∃x∈m,b∈φ x.1) (hq:∀b∈q,∃x∈n,b∈φ x.1) (np:p.Nodup) (nq:q.Nodup):(p++q).Nodup:=by
 rw[List.nodup_append]
 refine⟨np,nq,fun b hb c gZ DH=> ?_⟩
 subst DH
 obtain⟨x,hx,kn⟩:=hp b hb
 obtain⟨y,hy,Bj⟩:=hq b gZ
 obtain⟨_,h1,_⟩:=hm x hx
 obtain⟨_,h2,_⟩:=hn y hy
 exact hc.sep x.1 y.1 _ _ (cJ x hx y hy) h1 h2 b kn Bj
theorem dZ (hc:Core w0 S f h β φ tm w):∀(bA:List CT) (bL:List SV) (vs:List Value) (q:List DC×eZ×Bool),af w (Av h β) β bL vs→(cb bA bL).val f h=some q→
  ∃fp,a7 w bA q.1 (fun j=>vs[j]?) fp∧bS h q.2.1∧(∀b∈fp,(¬Av h β b)∨∃x∈q.2.1,b∈eX h β x.1)∧
   (q.2.2=true→(∀b∈fp,∃x∈q.2.1,b∈φ x.1)∧(aO q.2.1=true→fp.Nodup))
 | [],[],vs,q,hs,hq=>by
  simp only[cb,M.aa,Option.some.injEq] at hq
  subst hq
  exact⟨[],by simp [a7],by simp [bS],by simp,by simp⟩
 | [],_::_,vs,q,hs,hq=>by simp [cb] at hq
 | _::_,[],vs,q,hs,hq=>by simp [cb] at hq
 | c::cs,s::ss,vs,q,hs,hq=>by
  simp only[af] at hs
  obtain⟨v,l,rfl,h1,h2⟩:=hs
  simp only[cb,M.ae,Option.bind_eq_some_iff,M.aa,Option.some.injEq] at hq
  obtain⟨q1,aG,q2,cv,rfl⟩:=hq
  obtain⟨f1,r1,m1,n1,a1,u1⟩:=dy hc h1 aG
  obtain⟨f2,r2,m2,a2,u2⟩:=dZ hc cs ss l q2 h2 cv
  refine⟨f1++f2, ?_,fe m1 m2, ?_, ?_⟩
  ·simp only[a7]
   exact⟨q1.1,q2.1,v,f1,f2,rfl,by simp,r1,by simpa using r2,rfl⟩
  ·intro b hb
   rcases List.mem_append.1 hb with hb | hb
   ·rcases a1 b hb with hx | ⟨x,hx,kn⟩
    ·exact .inl hx
    ·exact .inr ⟨x,List.mem_append_left _ hx,kn⟩
   ·rcases a2 b hb with hx | ⟨x,hx,kn⟩
    ·exact .inl hx
    ·exact .inr ⟨x,List.mem_append_right _ hx,kn⟩
  ·intro hu
   simp only[Bool.and_eq_true] at hu
   refine⟨fun b hb=> ?_,fun hn=> ?_⟩
   ·rcases List.mem_append.1 hb with hb | hb
    ·obtain⟨x,hx,kn⟩:=(u1 hu.1).1 b hb
     exact⟨x,List.mem_append_left _ hx,kn⟩
    ·obtain⟨x,hx,kn⟩:=(u2 hu.2).1 b hb
     exact⟨x,List.mem_append_right _ hx,kn⟩
   ·obtain⟨_,Hw,cJ⟩:=gK hn
    exact apart hc m1 m2 cJ (u1 hu.1).1 (u2 hu.2).1 (u1 hu.1).2 ((u2 hu.2).2 Hw)
theorem Core.create (hc:Core w0 S f h β φ tm w) {w':World} {β':Env} {id:Nat} {ob:aj} {Gq:List Nat} (hs:w.heap.size≤w'.heap.size) (hw:∀b,b<w.heap.size→w'.heap[b]? =w.heap[b]?)
  (hf:∀i,id ∉ bU (f i)) (ho:∀j o,h j=some o→id ∉ cC o) (hn:h id=none) (gl:∀j,j≠id→β'.val j=β.val j∧β'.cT j=β.cT j)
  (jb:∀b∈al β' id ob,w.heap.size≤b) (hD:fV w' (Av (az h id (some ob)) β') β' id ob Gq) (hnd:Gq.Nodup)
  (mH:∀b∈Gq,((w0.heap.size≤b∨S b)∧b<w'.heap.size)∧∀j o,h j=some o→b ∉ φ j) (fa:β'.gH=β.gH:=by rfl) (jn:∀j,j≠id→β'.nb j=β.nb j:=by intro _ _;rfl):Core w0 S f (az h id (some ob)) β' (az φ id Gq) tm w':=by
 have iN:∀j o,j≠id→al β' j o=al β j o:=by
  intro j o hj
  cases o<;>simp [al,gl j hj,jn j hj]
 refine hc.mE (fun i=>i=id) hs (fun b hb _=>hw b hb) ?_ (fun i j hj e=>hf i (e ▸ hj)) gl ?_ ?_ fa
 ·rintro b (⟨j,oj,hj,bo⟩ | hb)
  case inr=>exact .inl (.inr (fa ▸ hb))
  by_cases ca:j=id
  ·subst ca
   simp only[az,if_true,Option.some.injEq] at hj
   subst hj
   exact .inr (jb b bo)
  ·simp only[az,ca,if_false] at hj
   rw[iN j oj ca] at bo
   exact .inl (.inl ⟨j,oj,hj,bo⟩)
 ·intro j oj hj
  by_cases ca:j=id
  ·subst ca
   simp only[az,if_true,Option.some.injEq] at hj
   subst hj
   exact .inr ⟨by simpa [az] using hD,by simpa [az] using hnd,fun b hb=>(mH b (by simpa [az] using hb)).1⟩
  ·simp only[az,ca,if_false] at hj
   refine .inl ⟨ca,hj,jn j ca,by simp [az,ca],fun i hi e=>ho j oj hj (e ▸ hi),fun b hb=>hw b ?_⟩
   exact ((hc.fresh j oj hj).2 b (ah (hc.ay j oj hj) b hb)).2
 ·intro i j oi oj cJ hi hj b hb
  by_cases lu:i=id
  ·subst lu
   have gx:j≠i:=Ne.symm cJ
   simp only[az,gx,if_false] at hj
   simp only[az,if_true] at hb
   simp only[az,gx,if_false]
   exact (mH b hb).2 j oj hj
  ·simp only[az,lu,if_false] at hi hb
   by_cases ca:j=id
   ·subst ca
    simp only[az,if_true]
    exact fun ax=>(mH b ax).2 i oi hi hb
   ·simp only[az,ca,if_false] at hj ⊢
    exact hc.sep i j oi oj cJ hi hj b hb
theorem af.beside {w':World} {β':Env} {id:Nat} {ob:aj} (hs:w.heap.size≤w'.heap.size) (hw:∀b,b<w.heap.size→w'.heap[b]? =w.heap[b]?)
  (gl:∀j,j≠id→β'.val j=β.val j∧β'.cT j=β.cT j) (jb:∀b∈al β' id ob,w.heap.size≤b) {ss:List SV} {vs:List Value} (hr:af w (Av h β) β ss vs) (hi:id ∉ bR ss) (fa:β'.gH=β.gH:=by rfl) (jn:∀j,j≠id→β'.nb j=β.nb j:=by intro _ _;rfl):
  af w' (Av (az h id (some ob)) β') β' ss vs:=by
 refine af.mono hs (fun b hb _=>hw b hb) ?_ ss vs hr (fun j hj=>gl j (fun e=>hi (e ▸ hj)))
 rintro b (⟨j,oj,hj,bo⟩ | hb)
 case inr=>exact .inl (.inr (fa ▸ hb))
 by_cases ca:j=id
 ·subst ca
  simp only[az,if_true,Option.some.injEq] at hj
  subst hj
  exact .inr (jb b bo)
 ·simp only[az,ca,if_false] at hj
  refine .inl (.inl ⟨j,oj,hj, ?_⟩)
  cases oj<;>simp only[al,gl j ca,jn j ca] at bo ⊢ <;>exact bo
structure bw (st:St) (d:Nat):Prop where
 slot:∀i,∀j∈bU (st.get i),j / 64≠d
 obj:∀j ob,st.obj j=some ob→j / 64≠d∧∀k∈cC ob,k / 64≠d
theorem cL (d k:Nat) (hk:k<64):ag d k / 64=d:=by unfold ag;omega
theorem Kept.alloc (hk:Kept S w0 w) (ob:Obj):Kept S w0 (w.alloc ob):=
 ⟨hk.os,hk.tape,hk.output,by have:=hk.size;simp;omega,fun k h1 h2=>(by show (w.heap.push ob)[k]? =_;rw[Array.getElem?_push,if_neg (by have:=hk.size;omega)];exact hk.block k h1 h2)⟩
theorem Kept.drew (hk:Kept S w0 w):Kept S w0 w.drew:=⟨hk.os,hk.tape,hk.output,hk.size,hk.block⟩
theorem cj (ob:Obj):(w.alloc ob).heap.size=w.heap.size+1:=by simp
theorem ec (ob:Obj):(w.alloc ob).heap[w.heap.size]? =some ob:=heap_alloc_new w ob
theorem alloc_old (ob:Obj) (b:Nat) (hb:b<w.heap.size):(w.alloc ob).heap[b]? =w.heap[b]? :=by
 show (w.heap.push ob)[b]? =_
 rw[Array.getElem?_push,if_neg (by omega)]
theorem kX (v:Value):bU (ofConst v)=[]:=by
 unfold ofConst
 split
 ·rfl
 ·cases BQ _ _<;>rfl
 ·generalize Nat.ble _ _=c
  cases c<;>rfl
 ·rfl
 ·rfl
theorem jS:∀(l:List Value),bR (l.map ofConst)=[]
 | []=>rfl
 | v::l=>by simp [bR,kX,jS l]
theorem FD {d:Nat} (hf:bw st d) {x:Operand} {s:SV} (hx:(b_ x).val st.get st.obj=some s):∀j∈bU s,j / 64≠d:=by
 have:=Dc hx
 subst this
 cases x with
 | tmp t=>exact hf.slot t
 | const v=>simp [G8,kX]
 | global g=>intro j hj;simp [G8,bU] at hj
 | func g=>intro j hj;simp [G8,bU] at hj
theorem B_ {s:SV} {cs:List SV} (hc:(aD s).val f h=some cs):bR cs=bU s:=by
 cases s<;>simp [aD] at hc<;>subst hc<;>simp [bU,bR]
theorem j6 (hR:Rel w0 S st a w) {d:Nat} (aL:o.dst=some d) (hd:ba st.n d) (bM:bw st d) {t:TypeId} {cells:List SV} {vs:List Value}
  (bp:(execOp a.eval o).run P w= .ok (.value (.pointer (some ⟨w.heap.size,0,none⟩))) (w.alloc (.cells vs.toArray t)))
  (mf:∀β φ,Core w0 S st.get st.obj β φ a.tmps w→af w (Av st.obj β) β cells vs) (bb:∀x∈vs,x.oneCell'=true) (Cy:∀j∈bR cells,j / 64≠d)
  (he:e= {sv:= .ptr (ag d 0) 0,ow:=[(ag d 0,some (.box t cells))]}):Good P w0 S st o e a w:=by
 subst he
 obtain⟨β,φ,hc⟩:=hR.core
 have bD:ag d 0 / 64=d:=cL d 0 (by omega)
 have gl:∀j,j≠ag d 0→(β.CV (ag d 0) w.heap.size).val j=β.val j∧(β.CV (ag d 0) w.heap.size).cT j=β.cT j:=by
  intro j hj
  exact⟨rfl,by simp [Env.CV,az,hj]⟩
 have jC:(β.CV (ag d 0) w.heap.size).cT (ag d 0)=w.heap.size:=by simp [Env.CV,az]
 have jb:∀b∈al (β.CV (ag d 0) w.heap.size) (ag d 0) (.box t cells),w.heap.size≤b:=by
  intro b hb
  simp only[al,jC,List.mem_singleton] at hb
  omega
 have hle:=hR.kept.size
 refine bJ hR (fun d' h'=>by rw[aL] at h';injection h' with h';exact h' ▸ hd) bp (hR.kept.alloc _) ⟨β.CV (ag d 0) w.heap.size,az φ (ag d 0) [w.heap.size], ?_, ?_⟩
 ·refine hc.create (by rw[cj];omega) (fun b hb=>alloc_old _ b hb) (fun i hi=>bM.slot i _ hi bD) (fun j ob hj hi=>(bM.obj j ob hj).2 _ hi bD) ?_ gl jb ?_ (by simp) ?_
  ·cases hn:st.obj (ag d 0) with
   | none=>rfl
   | some ob=>exact absurd bD (bM.obj _ ob hn).1
  ·refine⟨vs,by rw[jC];exact ec _, ?_,bb,by rw[jC]⟩
   exact af.beside (by rw[cj];omega) (fun b hb=>alloc_old _ b hb) gl jb (mf β φ hc) (fun hi=>Cy _ hi bD)
  ·intro b hb
   rw[List.mem_singleton] at hb
   subst hb
   refine⟨⟨.inl hle,by rw[cj];omega⟩,fun j ob hj hb=> ?_⟩
   have:=((hc.fresh j ob hj).2 _ hb).2
   omega
 ·simp only[ak,jC]
theorem B0 (hR:Rel w0 S st a w) {d:Nat} (aL:o.dst=some d) (hd:ba st.n d) (bM:bw st d) {t:TypeId} (ho:o.op= .alloc t) {z:List SV} (hz:(dI P t).val st.get st.obj=some z)
  (he:e= {sv:= .ptr (ag d 0) 0,ow:=[(ag d 0,some (.box t z))]}):Good P w0 S st o e a w:=by
 obtain⟨i,zv,hi,mU,rfl,bb⟩:=dw hz
 refine j6 hR aL hd bM (vs:=zv.cells.toList) ?_ (fun β φ hc=>eN _) bb (by simp [jS]) he
 simp [execOp,ho,Instr.alloc,zeroValue,typeInfo,hi,mU,newVar,newRow]
theorem DY (hR:Rel w0 S st a w) {d:Nat} (aL:o.dst=some d) (hd:ba st.n d) (bM:bw st d) {t:TypeId} {x:Operand} (ho:o.op= .box t x) {s:SV} {cs:List SV}
  (hx:(b_ x).val st.get st.obj=some s) (fC:(aD s).val st.get st.obj=some cs)
  (he:e= {sv:= .ptr (ag d 0) 0,ow:=[(ag d 0,some (.box t cs))]}):Good P w0 S st o e a w:=by
 obtain⟨Jx,Jy,Cf⟩:=hR.core
 refine j6 hR aL hd bM (vs:=(a.eval x).cells.toList) ?_ (fun β φ hc=>(dM (hc.ev hx) fC).1) (dM (Cf.ev hx) fC).2 ?_ he
 ·simp [execOp,ho,Instr.box,newVar,newRow]
 ·rw[B_ fC]
  exact FD bM hx
end
end Go.Proofs.YtoaflbnkiobhdaaGreat.Vm
namespace Go.Proofs.YtoaflbnkiobhdaaGreat.Vm
section
variable {P:Program} {Γ:Ctx} {w0:World} {S:Own} {st:St} {o:Oper} {e:cG} {a:Act} {w:World}
variable {f:Nat→SV} {h:Nat→Option aj} {β:Env} {φ:Nat→List Nat} {tm:Array Value}
theorem dK.cons {ct:List CT} {r:List DC} {l:List Value} {g:List Nat} {rows:List (List DC)} {vals:List Value} {aA:List (List Nat)} (h1:a7 w ct r (fun j=>l[j]?) g) (hl:l.length=ct.length)
  (h2:dK w ct rows vals aA):dK w ct (r::rows) (l++vals) (g::aA):=by
 refine⟨by simp [h2.1],fun i r' f' hi hf=> ?_⟩
 cases i with
 | zero=>
  simp at hi hf
  subst hi hf
  refine bl.a7.jU (fun j u hj=> ?_) h1
  simp only[Nat.zero_mul,Nat.zero_add]
  rw[List.getElem?_append_left (by have:=List.getElem?_eq_some_iff.1 hj;exact this.1)]
  exact hj
 | succ i=>
  have:=h2.2 i r' f' (by simpa using hi) (by simpa using hf)
  refine bl.a7.jU (fun j u hj=> ?_) this
  rw[List.getElem?_append_right (by rw[hl,Nat.succ_mul];omega)]
  rw[←hj]
  congr 1
  rw[hl,Nat.succ_mul]
  omega
theorem dK.nil {ct:List CT} {vals:List Value} :dK w ct [] vals []:=⟨rfl,by simp⟩
theorem dK.append {ct:List CT} {rows GX:List (List DC)} {vals AA:List Value} {aA FT:List (List Nat)} (h1:dK w ct rows vals aA) (hl:vals.length=rows.length*ct.length)
  (h2:dK w ct GX AA FT):dK w ct (rows++GX) (vals++AA) (aA++FT):=by
 refine⟨by simp [h1.1,h2.1],fun i r f hi hf=> ?_⟩
 rcases Nat.lt_or_ge i rows.length with cm | EJ
 ·rw[List.getElem?_append_left cm] at hi
  rw[List.getElem?_append_left (by rw[h1.1];exact cm)] at hf
  refine bl.a7.jU (fun j u hj=> ?_) (h1.2 i r f hi hf)
  rw[List.getElem?_append_left (by have:=List.getElem?_eq_some_iff.1 hj;exact this.1)]
  exact hj
 ·rw[List.getElem?_append_right EJ] at hi
  rw[List.getElem?_append_right (by rw[h1.1];exact EJ),h1.1] at hf
  refine bl.a7.jU (fun j u hj=> ?_) (h2.2 _ r f hi hf)
  have e1:i*ct.length+j=rows.length*ct.length+((i - rows.length)*ct.length+j):=by
   have:i*ct.length=rows.length*ct.length+(i - rows.length)*ct.length:=by rw[←Nat.add_mul];congr 1;omega
   omega
  rw[List.getElem?_append_right (by omega)]
  rw[←hj]
  congr 1
  omega
theorem dz {m:eZ} {j:Nat} {ob:aj} (hj:fo (ai m) h j=some ob):(h j=some ob)∨(∃e' r,ob= .d_ e' r∧∃y∈m,y.1=j):=by
 induction m with
 | nil=>exact .inl hj
 | cons x l ih=>
  obtain⟨i,e',r,u⟩:=x
  simp only[ai,fo,az] at hj
  split at hj
  ·rename_i gx
   injection hj with hj
   exact .inr ⟨e',r,hj.symm,_,List.mem_cons_self ..,gx.symm⟩
  ·rcases ih hj with h1 | ⟨Et,r',h1,y,hy,h2⟩
   ·exact .inl h1
   ·exact .inr ⟨Et,r',h1,y,List.mem_cons_of_mem _ hy,h2⟩
theorem gY {m:eZ} {j:Nat} (BH:∃y∈m,y.1=j):bm φ m j=[]:=by
 induction m with
 | nil=>obtain⟨y,hy,_⟩:=BH;simp at hy
 | cons z l ih=>
  obtain⟨y,hy,rfl⟩:=BH
  simp only[bm,az]
  by_cases Le:y.1=z.1
  ·rw[if_pos Le]
  ·rw[if_neg Le]
   rcases List.mem_cons.1 hy with rfl | hy
   ·exact absurd rfl Le
   ·exact ih ⟨y,hy,rfl⟩
theorem ff (hR:Rel w0 S st a w) {d:Nat} (aL:o.dst=some d) (hd:ba st.n d) (bM:bw st d) {t:TypeId} {ct:List CT} {rows:List (List DC)} {fz u:Bool} {m:eZ} {w':World} {v:Value}
  (bp:(execOp a.eval o).run P w= .ok (.value v) w') (hk:Kept S w0 w') (hs:w.heap.size≤w'.heap.size) (hw:∀b,b<w.heap.size→w'.heap[b]? =w.heap[b]?)
  (hB:∀b∈v.ownBlock.toList,b=w.heap.size) (hm:bS st.obj m) (Bo:aO m=true) {vals:List Value} (aZ:ch w' t ct.length fz v rows.length vals)
  (da:∀β φ,Core w0 S st.get st.obj β φ a.tmps w→∃aA,dK w ct rows vals aA∧(∀b∈aA.flatten,(¬Av st.obj β b)∨∃x∈m,b∈eX st.obj β x.1)∧
   (u=true→(∀b∈aA.flatten,∃x∈m,b∈φ x.1)∧aA.flatten.Nodup))
  (fj:e.sv= .own (ag d 0)) (jF:e.cw=none) (how:e.ow=(ag d 0,some (.row t ct rows fz u))::ai m):Good P w0 S st o e a w:=by
 obtain⟨β,φ,hc⟩:=hR.core
 obtain⟨aA,da,cO,hu⟩:=da β φ hc
 have jE:=hc.gw m hm Bo
 have bD:ag d 0 / 64=d:=cL d 0 (by omega)
 have gl:∀j,j≠ag d 0→(β.fS (ag d 0) v).val j=β.val j∧(β.fS (ag d 0) v).cT j=β.cT j:=by
  intro j hj
  exact⟨by simp [Env.fS,az,hj],rfl⟩
 have hval:(β.fS (ag d 0) v).val (ag d 0)=v:=by simp [Env.fS,az]
 have jb:∀b∈al (β.fS (ag d 0) v) (ag d 0) (.row t ct rows fz u),w.heap.size≤b:=by
  intro b hb
  simp only[al,hval] at hb
  rw[hB b hb]
  exact Nat.le_refl _
 have cm:=da.lt
 have hle:=hR.kept.size
 have jB:∀b∈aA.flatten,¬Av (fo (ai m) st.obj) β b:=by
  intro b hb
  rcases cO b hb with h1 | ⟨x,hx,kn⟩
  ·exact fun h2=>h1 (fY h2)
  ·exact dB hc hm hx kn
 refine bJ hR (fun d' h'=>by rw[aL] at h';injection h' with h';exact h' ▸ hd) bp hk
  ⟨β.fS (ag d 0) v,az (bm φ m) (ag d 0) (v.ownBlock.toList++(bif u then aA.flatten else [])), ?_, ?_⟩
 ·rw[how,jF]
  refine jE.create hs hw (fun i hi=>bM.slot i _ hi bD) (fun j ob hj hi=> ?_) ?_ gl jb ?_ ?_ ?_
  ·rcases dz hj with h1 | ⟨e',r,rfl,_⟩
   ·exact (bM.obj j ob h1).2 _ hi bD
   ·simp [cC] at hi
  ·cases hn:fo (ai m) st.obj (ag d 0) with
   | none=>rfl
   | some ob=>
    rcases dz hn with h1 | ⟨e',r,rfl,y,hy,h2⟩
    ·exact absurd bD (bM.obj _ ob h1).1
    ·obtain⟨_,h3,_⟩:=hm y hy
     rw[h2] at h3
     exact absurd bD (bM.obj _ _ h3).1
  ·refine⟨vals,aA,by rw[hval];exact aZ,da.mono hs (fun b hb=>hw b (cm b hb)),fun b hb hx=> ?_,by rw[hval]⟩
   rcases hx with ⟨j,oj,hj,bo⟩ | hx
   case inr=>exact jB b hb (.inr hx)
   by_cases ca:j=ag d 0
   ·subst ca
    simp only[az,if_true,Option.some.injEq] at hj
    subst hj
    have:=jb b bo
    have:=cm b hb
    omega
   ·simp only[az,ca,if_false] at hj
    refine jB b hb (.inl ⟨j,oj,hj, ?_⟩)
    cases oj<;>simp only[al,gl j ca] at bo ⊢ <;>exact bo
  ·have AX:v.ownBlock.toList.Nodup:=by cases v.ownBlock<;>simp
   cases u with
   | false=>simpa using AX
   | true=>
    rw[cond_true,List.nodup_append]
    refine⟨AX,(hu rfl).2,fun b hb c gZ DH=> ?_⟩
    have h1:=hB b hb
    have h2:=cm c gZ
    omega
  ·intro b hb
   rcases List.mem_append.1 hb with hb | hb
   ·have h1:=hB b hb
    subst h1
    refine⟨⟨.inl hle, ?_⟩,fun j ob hj bo=> ?_⟩
    ·have:=aZ.lt _ hb
     exact this
    ·have:=((jE.fresh j ob hj).2 _ bo).2
     omega
   ·cases u with
    | false=>simp at hb
    | true=>
     simp only[cond_true] at hb
     obtain⟨x,hx,kn⟩:=(hu rfl).1 b hb
     obtain⟨_,h3,_⟩:=hm x hx
     have h4:=(hc.fresh x.1 _ h3).2 b kn
     refine⟨⟨h4.1,by omega⟩,fun j ob hj bo=> ?_⟩
     by_cases BH:∃y∈m,y.1=j
     ·rw[gY BH] at bo
      simp at bo
     ·have BJ:∀y∈m,y.1≠j:=fun y hy e=>BH ⟨y,hy,e⟩
      rw[bI BJ] at hj
      rw[cW BJ] at bo
      exact hc.sep x.1 j _ _ (BJ x hx) h3 hj b kn bo
 ·rw[fj]
  unfold ak
  exact⟨hval.symm,aZ.one⟩
theorem C8 {ct:CT} {v:Value} {q:DC×eZ×Bool} (hq:(eP ct (ofConst v)).val f h=some q):q.2.1=[]∧q.2.2=true:=by
 unfold ofConst at hq
 split at hq
 ·simp only[eP] at hq
  split at hq<;>simp at hq
  subst hq;exact⟨rfl,rfl⟩
 ·rename_i k n
  cases hi:BQ k n
  ·simp [hi,eP] at hq
  ·simp only[hi,cond_true,eP] at hq
   split at hq
   ·rename_i k'
    by_cases hk:k=k'
    ·simp [hk] at hq;subst hq;exact⟨rfl,rfl⟩
    ·simp [hk] at hq
   ·simp at hq
 ·generalize Nat.ble _ _=c at hq
  cases c
  ·simp [eP] at hq
  ·simp only[cond_true,eP] at hq
   split at hq<;>simp at hq
   subst hq;exact⟨rfl,rfl⟩
 ·simp only[eP] at hq
  split at hq<;>simp at hq
  subst hq;exact⟨rfl,rfl⟩
 ·simp [eP] at hq
theorem lf:∀(bA:List CT) (l:List Value) (q:List DC×eZ×Bool),(cb bA (l.map ofConst)).val f h=some q→q.2.1=[]∧q.2.2=true
 | [],[],q,hq=>by simp [cb] at hq;subst hq;exact⟨rfl,rfl⟩
 | [],_::_,q,hq=>by simp [cb] at hq
 | _::_,[],q,hq=>by simp [cb] at hq
 | c::cs,v::l,q,hq=>by
  simp only[List.map_cons,cb,M.ae,Option.bind_eq_some_iff,M.aa,Option.some.injEq] at hq
  obtain⟨q1,aG,q2,cv,rfl⟩:=hq
  obtain⟨h1,h2⟩:=C8 aG
  obtain⟨h3,h4⟩:=lf cs l q2 cv
  simp [h1,h2,h3,h4]
theorem cD:∀(bA:List CT) (l:List SV) (q:List DC×eZ×Bool),(cb bA l).val f h=some q→l.length=bA.length
 | [],[],q,hq=>rfl
 | [],_::_,q,hq=>by simp [cb] at hq
 | _::_,[],q,hq=>by simp [cb] at hq
 | c::cs,v::l,q,hq=>by
  simp only[cb,M.ae,Option.bind_eq_some_iff,M.aa,Option.some.injEq] at hq
  obtain⟨q1,aG,q2,cv,rfl⟩:=hq
  simp [cD cs l q2 cv]
theorem dK.replicate {ct:List CT} {r:List DC} {z:List Value} (h1:a7 w ct r (fun j=>z[j]?) []) (hl:z.length=ct.length):∀n,dK w ct (List.replicate n r) (List.replicate n z).flatten (List.replicate n [])
 | 0=>dK.nil
 | n+1=>by
  simp only[List.replicate_succ,List.flatten_cons]
  exact dK.cons h1 hl (dK.replicate h1 hl n)
theorem Dr (z:Array Value):∀n,(madeCells z (n*z.size)).toList=(List.replicate n z.toList).flatten:=by
 intro n
 apply List.ext_getElem?
 intro i
 simp only[madeCells]
 rcases Nat.eq_zero_or_pos z.size with h0 | hp
 ·have hz:z= #[]:=by simpa using h0
  subst hz
  simp
 ·rcases Nat.lt_or_ge i (n*z.size) with hi | hi
  ·have hr:(List.replicate n z.toList).flatten[i]? =z.toList[i % z.size]? :=by
    have key:∀n i,i<n*z.size→(List.replicate n z.toList).flatten[i]? =z.toList[i % z.size]? :=by
     intro n
     induction n with
     | zero=>intro i hi;simp at hi
     | succ n ih=>
      intro i hi
      simp only[List.replicate_succ,List.flatten_cons]
      rcases Nat.lt_or_ge i z.size with h1 | h1
      ·rw[List.getElem?_append_left (by simpa using h1),Nat.mod_eq_of_lt h1]
      ·rw[List.getElem?_append_right (by simpa using h1)]
       have h2:i - z.toList.length<n*z.size:=by simp;rw[Nat.succ_mul] at hi;omega
       rw[ih _ h2]
       congr 1
       simp only[Array.length_toList]
       rw[←Nat.mod_eq_sub_mod h1]
    exact key n i hi
   rw[hr]
   have hm:i % z.size<z.size:=Nat.mod_lt _ hp
   simp [hi,hm]
  ·rw[List.getElem?_eq_none (by simp;omega),List.getElem?_eq_none (by simp;omega)]
theorem C4 (hR:Rel w0 S st a w) {d:Nat} (aL:o.dst=some d) (hd:ba st.n d) (bM:bw st d) {t et:TypeId} {l c:Operand} (ho:o.op= .makeSlice t l c) {n m:Int} {ct:List CT} {i:TypeInfo} {z:List SV} {r:List DC×eZ×Bool}
  (hl:(b_ l).val st.get st.obj=some (.int .i64 n)) (hm:(b_ c).val st.get st.obj=some (.int .i64 m)) (hu:P.underlying t=some (.slice et)) (hi:P.info? et=some i) (dx:i.size=ct.length)
  (hz:(dI P et).val st.get st.obj=some z) (hr:(cb ct z).val st.get st.obj=some r)
  (he:e= {sv:= .own (ag d 0),ow:=[(ag d 0,some (.row et ct (List.replicate n.toNat r.1) false true))],ok:=decide (0≤n) && decide (n≤m) && decide (m.toNat*i.bytes≤140737488355328) && decide (m≤9223372036854775807)})
  (aJ:e.ok=true):Good P w0 S st o e a w:=by
 subst he
 simp only[Bool.and_eq_true,decide_eq_true_eq] at aJ
 obtain⟨⟨⟨h0,IZ⟩,Bj⟩,JP⟩:=aJ
 obtain⟨i',zv,dQ,mU,rfl,bb⟩:=dw hz
 rw[hi] at dQ
 injection dQ with dQ
 subst dQ
 obtain⟨kr,Kn⟩:=lf _ _ _ hr
 have jN:zv.cells.toList.length=ct.length:=by simpa using cD _ _ _ hr
 have ET:(madeCells zv.cells (m.toNat*i.size)).toList=(List.replicate m.toNat zv.cells.toList).flatten:=by
  have:=Dr zv.cells m.toNat
  rw[dx,←jN]
  simpa using this
 obtain⟨Jx,Jy,Cf⟩:=hR.core
 have hx:=Cf.ev hl
 have hy:=Cf.ev hm
 simp only[ak] at hx hy
 have hb:(i.bytes:Int)*m≤281474976710656:=by
  have h1:((m.toNat*i.bytes:Nat):Int)≤140737488355328:=by omega
  rw[Int.natCast_mul,Int.toNat_of_nonneg (by omega),Int.mul_comm] at h1
  omega
 have bp:=run_make (P:=P) w t et i zv hu hi mU .i64 .i64 n m h0 IZ hb JP
 refine ff hR aL hd bM (m:=[]) (fz:=false) (u:=true) (vals:=(List.replicate n.toNat zv.cells.toList).flatten) (v:= .slice (some ⟨w.heap.size,0,none⟩) n.toNat m.toNat)
  (w':=w.alloc (.cells (madeCells zv.cells (m.toNat*i.size)) et)) ?_ (hR.kept.alloc _) (by rw[cj];omega) (fun b hb=>alloc_old _ b hb) (by simp [Value.ownBlock]) (by simp [bS]) rfl ?_ ?_ rfl rfl rfl
 ·simp [execOp,ho,hx.1,hy.1,bp]
 ·refine⟨by simp [jN],.inr ⟨w.heap.size,m.toNat,_,by simp,by simpa using ec _,by simp;omega,by simp only[maxLen];omega,by rw[size_madeCells,dx], ?_⟩⟩
  rw[ET]
  have:List.replicate m.toNat zv.cells.toList=List.replicate n.toNat zv.cells.toList++List.replicate (m.toNat - n.toNat) zv.cells.toList:=by
   rw[List.replicate_append_replicate]
   congr 1
   omega
  rw[this,List.flatten_append,List.take_append_of_le_length (by simp [jN]),List.take_of_length_le (by simp [jN])]
 ·intro β φ hc
  obtain⟨fp,j_,_,_,Bm⟩:=dZ hc ct _ _ r (eN zv.cells.toList) hr
  have KK:fp=[]:=by
   have:=(Bm Kn).1
   cases fp with
   | nil=>rfl
   | cons b l=>
    obtain⟨x,hx,_⟩:=this b (List.mem_cons_self ..)
    rw[kr] at hx
    simp at hx
  subst KK
  refine⟨List.replicate n.toNat [],dK.replicate j_ jN n.toNat, ?_, ?_⟩
  ·intro b hb
   simp at hb
  ·intro _
   constructor
   ·intro b hb;simp at hb
   ·have:(List.replicate n.toNat ([]:List Nat)).flatten=[]:=by simp
    rw[this]
    simp
theorem fN (hc:Core w0 S st.get st.obj β φ a.tmps w) {ct:List CT} :∀(parts:List (Nat×Operand)) (k:Nat) (q:List (List DC)×eZ×Bool),(ek ct k parts).val st.get st.obj=some q→
  ∃(vals:List Value) (aA:List (List Nat)),vals.length=parts.length*ct.length∧q.1.length=parts.length∧(∀x∈vals,x.oneCell'=true)∧dK w ct q.1 vals aA∧bS st.obj q.2.1∧
   (∀b∈aA.flatten,(¬Av st.obj β b)∨∃x∈q.2.1,b∈eX st.obj β x.1)∧(q.2.2=true→(∀b∈aA.flatten,∃x∈q.2.1,b∈φ x.1)∧(aO q.2.1=true→aA.flatten.Nodup))∧
   ∀(pre suf:List Value),pre.length=k*ct.length→suf.length=parts.length*ct.length→
    Instr.fill (fun i=>some (i*ct.length,ct.length)) (pre++suf).toArray (parts.map fun x=>(x.1,a.eval x.2))=some (pre++vals).toArray
 | [],k,q,hq=>by
  simp only[ek,M.aa,Option.some.injEq] at hq
  subst hq
  refine⟨[],[],by simp,rfl,by simp,dK.nil,by simp [bS],by simp,by simp,fun pre suf h1 h2=> ?_⟩
  have:suf=[]:=by simpa using h2
  subst this
  simp [Instr.fill]
 | (i,x)::rest,k,q,hq=>by
  simp only[ek] at hq
  cases D3:Nat.beq i k
  ·simp [D3] at hq
  have D3:=Nat.eq_of_beq_eq_true D3
  subst D3
  simp only[Nat.beq_refl,cond_true,M.ae,Option.bind_eq_some_iff,M.aa,Option.some.injEq] at hq
  obtain⟨s,hs,cs,fC,r,hr,q2,cv,rfl⟩:=hq
  obtain⟨fj,bb⟩:=dM (hc.ev hs) fC
  have Bk:=cD _ _ _ hr
  have A1:=af.length _ _ fj
  have br:(a.eval x).cells.size=ct.length:=by simpa [Bk] using A1
  obtain⟨fp,j_,F1,Gx,GO⟩:=dZ hc ct cs _ r fj hr
  obtain⟨vals,aA,j9,IJ,I1,jG,Dj,DG,DM,Cv⟩:=fN hc rest (i+1) q2 cv
  refine⟨(a.eval x).cells.toList++vals,fp::aA, ?_,by simp [IJ], ?_,dK.cons j_ (by simpa using br) jG,fe F1 Dj, ?_, ?_, ?_⟩
  ·simp only[List.length_append,j9,List.length_cons,Array.length_toList,br,Nat.succ_mul]
   omega
  ·intro y hy
   rcases List.mem_append.1 hy with hy | hy
   ·exact bb y hy
   ·exact I1 y hy
  ·intro b hb
   simp only[List.flatten_cons,List.mem_append] at hb
   rcases hb with hb | hb
   ·rcases Gx b hb with h1 | ⟨y,hy,h1⟩
    ·exact .inl h1
    ·exact .inr ⟨y,List.mem_append_left _ hy,h1⟩
   ·rcases DG b hb with h1 | ⟨y,hy,h1⟩
    ·exact .inl h1
    ·exact .inr ⟨y,List.mem_append_right _ hy,h1⟩
  ·intro hu
   simp only[Bool.and_eq_true] at hu
   refine⟨fun b hb=> ?_,fun hn=> ?_⟩
   ·simp only[List.flatten_cons,List.mem_append] at hb
    rcases hb with hb | hb
    ·obtain⟨y,hy,h1⟩:=(GO hu.1).1 b hb
     exact⟨y,List.mem_append_left _ hy,h1⟩
    ·obtain⟨y,hy,h1⟩:=(DM hu.2).1 b hb
     exact⟨y,List.mem_append_right _ hy,h1⟩
   ·obtain⟨JQ,Hw,cJ⟩:=gK hn
    simp only[List.flatten_cons]
    exact apart hc F1 Dj cJ (GO hu.1).1 (DM hu.2).1 ((GO hu.1).2 JQ) ((DM hu.2).2 Hw)
  ·intro pre suf h1 h2
   simp only[List.length_cons,Nat.succ_mul] at h2
   simp only[List.map_cons]
   rw[kj (off:=i*ct.length) (by rw[br]) (by simp [h1,br];omega)]
   have e1:((pre++suf).toArray.toList.take (i*ct.length)++((a.eval x).cells.toList++(pre++suf).toArray.toList.drop (i*ct.length+(a.eval x).cells.size)))=(pre++(a.eval x).cells.toList)++suf.drop ct.length:=by
    simp only[br,←h1]
    simp [List.drop_append]
   rw[e1,Cv (pre++(a.eval x).cells.toList) (suf.drop ct.length) (by simp [h1,br,Nat.succ_mul]) (by simp [h2])]
   simp
theorem kF (hR:Rel w0 S st a w) {d:Nat} (aL:o.dst=some d) (hd:ba st.n d) (bM:bw st d) {t et:TypeId} {len:Nat} {parts:Array (Nat×Operand)} (ho:o.op= .buildSlice t len parts) {ct:List CT} {q:List (List DC)×eZ×Bool}
  (hu:P.underlying t=some (.slice et)) (dx:aY P et ct.length=true) (jJ:0<ct.length) (hlen:len=parts.toList.length) (Jc:len*ct.length≤16777216)
  (hq:(ek ct 0 parts.toList).val st.get st.obj=some q) (hz:∃z,(dI P et).val st.get st.obj=some z) (hn:aO q.2.1=true)
  (he:e= {sv:= .own (ag d 0),ow:=(ag d 0,some (.row et ct q.1 false q.2.2))::ai q.2.1}):Good P w0 S st o e a w:=by
 subst he
 obtain⟨i,hi,br⟩:=aW dx
 obtain⟨Jx,Jy,Cf⟩:=hR.core
 obtain⟨vals,_,A1,F5,bb,_,hm,_,_,kR⟩:=fN Cf parts.toList 0 q hq
 obtain⟨z,hz⟩:=hz
 obtain⟨i',zv,dQ,mU,_,_⟩:=dw hz
 rw[hi] at dQ
 injection dQ with dQ
 subst dQ
 have hle:len≤maxLen:=by
  have:len≤len*ct.length:=Nat.le_mul_of_pos_right _ jJ
  simp only[maxLen]
  omega
 have bp:(Instr.buildSlice t len (parts.map fun x=>(x.1,a.eval x.2))).run P w= .ok (.slice (some ⟨w.heap.size,0,none⟩) len len) (w.alloc (.cells vals.toArray et)):=by
  rcases Nat.eq_zero_or_pos len with h0 | h0
  ·have hp:parts= #[]:=by
    have:parts.toList.length=0:=by omega
    simpa using this
   have hv:vals=[]:=by
    have:vals.length=0:=by rw[A1,←hlen,h0,Nat.zero_mul]
    simpa using this
   subst hp hv h0
   simp [Instr.buildSlice,run_underlying hu,sizeOf,typeInfo,hi,Instr.fill,newRow,Array.range_zero']
  ·refine run_buildSlice (P:=P) w t et len _ vals.toArray i zv hu hi mU (by rw[br];omega) (by rw[br];exact Nat.ne_of_gt (Nat.mul_pos h0 jJ)) ?_
   have:=kR [] ((Array.range (len*ct.length)).map (zv.cells[· % zv.cells.size]!)).toList (by simp) (by simp [hlen])
   rw[br]
   generalize (Array.range (len*ct.length)).map (zv.cells[· % zv.cells.size]!)=A at this ⊢
   simpa using this
 refine ff hR aL hd bM (m:=q.2.1) (fz:=false) (u:=q.2.2) (vals:=vals) (v:= .slice (some ⟨w.heap.size,0,none⟩) len len) (w':=w.alloc (.cells vals.toArray et)) ?_ (hR.kept.alloc _)
  (by rw[cj];omega) (fun b hb=>alloc_old _ b hb) (by simp [Value.ownBlock]) hm hn ?_ ?_ rfl rfl rfl
 ·simp [execOp,ho,bp]
 ·refine⟨by rw[A1,F5],.inr ⟨w.heap.size,len,vals.toArray,by rw[F5,←hlen],by simpa using ec _,by rw[F5,←hlen];exact Nat.le_refl _,hle,by simp [A1,hlen], ?_⟩⟩
  rw[F5,←A1]
  simp
 ·intro β φ hc
  obtain⟨AA,aA,MI,MC,ml,da,KA,cO,gJ,Hl⟩:=fN hc parts.toList 0 q hq
  have ML:AA=vals:=by
   have h1:=kR [] (List.replicate (parts.toList.length*ct.length) undef) (by simp) (by simp)
   have h2:=Hl [] (List.replicate (parts.toList.length*ct.length) undef) (by simp) (by simp)
   rw[h1] at h2
   simpa using h2.symm
  subst ML
  exact⟨aA,da,cO,fun h=>⟨(gJ h).1,(gJ h).2 hn⟩⟩
end
end Go.Proofs.YtoaflbnkiobhdaaGreat.Vm
namespace Go.Proofs.YtoaflbnkiobhdaaGreat.Vm
theorem bO (P:Program) (g o:Nat) (t:TypeId) (fz:Nat×Nat):∀(vs:List Value) (i:Nat) (cur:Array Value) (w:World),w.heap[g]? =some (.cells cur t fz)→(∀j,j<cur.size→¬(fz.1≤j∧j<fz.2))→
  o+i+vs.length≤cur.size→(∀v∈vs,v.oneCell'=true)→
  (storeCells ⟨g,o,none⟩ vs i).run P w= .ok () (w.setRow g (cur.toList.take (o+i)++(vs++cur.toList.drop (o+i+vs.length))).toArray)
 | [],i,cur,w,hg,_,_,_=>by
  simp only[storeCells,List.nil_append,List.length_nil,Nat.add_zero,List.take_append_drop,Array.toArray_toList]
  rw[setRow_self w g cur t fz hg]
  rfl
 | v::rest,i,cur,w,hg,hfz,hl,h1=>by
  have hi:o+i<cur.size:=by simp at hl;omega
  have hcell:w.cell? ⟨g,o+i,none⟩=some cur[o+i]:=by simp [World.cell?,hg,hi]
  have Km:w.frozen? ⟨g,o+i,none⟩=false:=by
   have:=hfz (o+i) hi
   obtain⟨lo,dQ⟩:=fz
   simp only[World.frozen?,hg,Bool.and_eq_false_iff,decide_eq_false_iff_not]
   simp only at this
   omega
  have hP:(store ((⟨g,o,none⟩:Addr).add i) v).run P w= .ok () (w.setRow g (cur.setIfInBounds (o+i) v)):=by
   rw[dn,run_store P w _ v _ (h1 v (by simp)),hcell]
   simp [Km,setCell_eq_setRow w g (o+i) cur t fz v hg]
  have ih:=bO P g o t fz rest (i+1) (cur.setIfInBounds (o+i) v) (w.setRow g (cur.setIfInBounds (o+i) v)) (setRow_heap w g cur _ t _ hg) (by simpa using hfz) (by simp at hl ⊢;omega) (fun x hx=>h1 x (by simp [hx]))
  simp only[storeCells,Sem.run_bind,hP,Result.andThen_ok,ih,setRow_setRow]
  congr 3
  have:=list_seg_step cur.toList (o+i) v rest (by simp at hl ⊢;omega)
  simp only[Array.toList_setIfInBounds,List.length_cons]
  rw[←Nat.add_assoc]
  simpa [List.append_assoc] using this
theorem a7.split {w:World} :∀(AH lk:List CT) (r:List DC) (f:Nat→Option Value) (fp:List Nat),a7 w (AH++lk) r f fp→
  ∃lF gv,a7 w AH (r.take AH.length) f lF∧a7 w lk (r.drop AH.length) (fun j=>f (AH.length+j)) gv∧fp=lF++gv
 | [],lk,r,f,fp,h=>⟨[],fp,by simp [a7],by simpa using h,rfl⟩
 | c::cs,lk,r,f,fp,h=>by
  simp only[List.cons_append,a7] at h
  obtain⟨d,r',v,f1,f2,rfl,h0,h1,h2,rfl⟩:=h
  obtain⟨p1,p2,e1,e2,rfl⟩:=a7.split cs lk r' _ f2 h2
  refine⟨f1++p1,p2, ?_, ?_,by simp⟩
  ·simp only[List.length_cons,List.take_succ_cons,a7]
   exact⟨d,_,v,f1,p1,rfl,h0,h1,e1,rfl⟩
  ·simp only[List.length_cons,List.drop_succ_cons]
   have:∀j,cs.length+1+j=cs.length+j+1:=by intro j;omega
   simpa only[this] using e2
theorem a7.join {w:World} :∀(AH lk:List CT) (r1 r2:List DC) (f:Nat→Option Value) (lF gv:List Nat),a7 w AH r1 f lF→a7 w lk r2 (fun j=>f (AH.length+j)) gv→
  a7 w (AH++lk) (r1++r2) f (lF++gv)
 | [],lk,r1,r2,f,lF,gv,h1,h2=>by
  simp only[a7] at h1
  obtain⟨rfl,rfl⟩:=h1
  simpa using h2
 | c::cs,lk,r1,r2,f,lF,gv,h1,h2=>by
  simp only[a7] at h1
  obtain⟨d,r',v,f1,f2,rfl,h0,h3,h4,rfl⟩:=h1
  simp only[List.cons_append,a7]
  refine⟨d,r'++r2,v,f1,f2++gv,rfl,h0,h3,a7.join cs lk r' r2 _ f2 gv h4 ?_,by simp⟩
  have:∀j,(c::cs).length+j=cs.length+j+1:=by intro j;simp only[List.length_cons];omega
  simpa only[this] using h2
section
variable {P:Program} {Γ:Ctx} {w0:World} {S:Own} {st:St} {o:Oper} {e:cG} {a:Act} {w:World}
variable {f:Nat→SV} {h:Nat→Option aj} {β:Env} {φ:Nat→List Nat} {tm:Array Value}
theorem Kept.setRow (hk:Kept S w0 w) {g:Nat} (hg:w0.heap.size≤g∨S g) (cs:Array Value):Kept S w0 (w.setRow g cs):=
 ⟨hk.os,hk.tape,hk.output,by simpa using hk.size,fun k h1 h2=>by
  rw[setRow_other w g k cs (fun e=>by subst e;rcases hg with h | h;omega;exact h2 h)]
  exact hk.block k h1 h2⟩
theorem Core.rewrite (hc:Core w0 S f h β φ tm w) {id:Nat} {ob Fs:aj} {g:Nat} {cs:Array Value} {Gq:List Nat} (dR:h id=some ob) (hg:g∈al β id ob) (ht:∀b∈al β id Fs,b∈al β id ob)
  (hD:fV (w.setRow g cs) (Av (az h id (some Fs)) β) β id Fs Gq) (hnd:Gq.Nodup) (mH:∀b∈Gq,((w0.heap.size≤b∨S b)∧b<w.heap.size)∧∀j o,j≠id→h j=some o→b ∉ φ j):
  Core w0 S f (az h id (some Fs)) β (az φ id Gq) tm (w.setRow g cs):=by
 have Cx:=ah (hc.ay id ob dR) g hg
 refine hc.step (fun _=>False) (by simp) (fun b _ hb=>setRow_other w g b cs (fun e=>hb (e ▸ .inl ⟨id,ob,dR,hg⟩))) ?_ (fun _ _ _ h=>h) (fun _ _=>⟨rfl,rfl⟩) ?_ ?_
 ·rintro b (⟨j,oj,hj,bo⟩ | hb)
  case inr=>exact .inl (.inr hb)
  by_cases ca:j=id
  ·subst ca
   simp only[az,if_true,Option.some.injEq] at hj
   subst hj
   exact .inl (.inl ⟨j,ob,dR,ht b bo⟩)
  ·simp only[az,ca,if_false] at hj
   exact .inl (.inl ⟨j,oj,hj,bo⟩)
 ·intro j oj hj
  by_cases ca:j=id
  ·subst ca
   simp only[az,if_true,Option.some.injEq] at hj
   subst hj
   exact .inr ⟨by simpa [az] using hD,by simpa [az] using hnd,fun b hb=>by simpa using (mH b (by simpa [az] using hb)).1⟩
  ·simp only[az,ca,if_false] at hj
   refine .inl ⟨fun h=>h,hj,by simp [az,ca],fun _ _ h=>h,fun b hb=>setRow_other w g b cs (fun e=> ?_)⟩
   subst e
   exact hc.sep id j _ _ (Ne.symm ca) dR hj b Cx (ah (hc.ay j oj hj) b hb)
 ·intro i j oi oj cJ hi hj b hb
  by_cases lu:i=id
  ·subst lu
   have gx:j≠i:=Ne.symm cJ
   simp only[az,gx,if_false] at hj
   simp only[az,if_true] at hb
   simp only[az,gx,if_false]
   exact (mH b hb).2 j oj gx hj
  ·simp only[az,lu,if_false] at hi hb
   by_cases ca:j=id
   ·subst ca
    simp only[az,if_true]
    exact fun ax=>(mH b ax).2 i oi lu hi hb
   ·simp only[az,ca,if_false] at hj ⊢
    exact hc.sep i j oi oj cJ hi hj b hb
theorem lT {id:Nat} {ob Fs:aj} (dR:h id=some ob) (ht:∀b∈al β id Fs,b∈al β id ob) {b:Nat} (hb:Av (az h id (some Fs)) β b):Av h β b:=by
 rcases hb with ⟨j,oj,hj,bo⟩ | hb
 case inr=>exact .inr hb
 by_cases ca:j=id
 ·subst ca
  simp only[az,if_true,Option.some.injEq] at hj
  subst hj
  exact .inl ⟨j,ob,dR,ht b bo⟩
 ·simp only[az,ca,if_false] at hj
  exact .inl ⟨j,oj,hj,bo⟩
theorem ir {t:TypeId} {b off:Nat} {x:Value} {i:TypeInfo} (hi:P.info? t=some i) (dx:i.size=x.cells.size) {w':World} (bp:(storeCells ⟨b,off,none⟩ x.cells.toList 0).run P w= .ok () w'):
  (Instr.storeAt t (.pointer (some ⟨b,off,none⟩)) x).run P w= .ok () w':=by
 simp [Instr.storeAt,Instr.sureAddr,storeVar,sizeOf,typeInfo,hi,dx,bp]
theorem m0 {av:Nat→Prop} {cells bL:List SV} {vs us:List Value} {off:Nat} (h1:af w av β cells vs) (h2:af w av β bL us) (hl:us.length=bL.length):
  af w av β (cF cells off bL) (vs.take off++(us++vs.drop (off+us.length))):=by
 unfold cF
 refine af.append _ _ _ _ (af.take _ _ _ h1) (af.append _ _ _ _ h2 ?_)
 rw[hl]
 exact af.drop _ _ _ h1
theorem lz (hR:Rel w0 S st a w) (hd:∀d,o.dst=some d→ba st.n d) {t t':TypeId} {x y:Operand} (ho:o.op= .store t x y) {id off:Nat} {sy:SV} {bL cells:List SV}
  (h1:(b_ x).val st.get st.obj=some (.ptr id off)) (h2:(b_ y).val st.get st.obj=some sy) (fC:(aD sy).val st.get st.obj=some bL) (dx:aY P t bL.length=true)
  (aK:st.obj id=some (.box t' cells)) (dP:off+bL.length≤cells.length) (he:e= {sv:= .undef,cw:=some (id,off,bL)}):Good P w0 S st o e a w:=by
 subst he
 obtain⟨i,hi,br⟩:=aW dx
 obtain⟨β,φ,hc⟩:=hR.core
 have hx:=hc.ev h1
 simp only[ak] at hx
 obtain⟨fj,bb⟩:=dM (hc.ev h2) fC
 obtain⟨vs,hh,hr,ml,ky⟩:=hc.ay id _ aK
 have hl:=af.length _ _ hr
 have j9:=af.length _ _ fj
 have mP:(a.eval y).cells.size=bL.length:=by simpa using j9
 have bp:=bO P (β.cT id) off t' (0,0) (a.eval y).cells.toList 0 vs.toArray w hh (by simp) (by simp;omega) bb
 simp only[Nat.add_zero] at bp
 have Mi:fc (some (id,off,bL)) st.obj=az st.obj id (some (.box t' (cF cells off bL))):=by simp only[fc,aK]
 have GN:=hc.fresh id _ aK
 have cO:∀b,Av (az st.obj id (some (.box t' (cF cells off bL)))) β b→Av st.obj β b:=fun b hb=>lT aK (by simp [al]) hb
 have GJ:∀(ss:List SV) (us:List Value),af w (Av st.obj β) β ss us→∀cs,af (w.setRow (β.cT id) cs) (Av (az st.obj id (some (.box t' (cF cells off bL)))) β) β ss us:=by
  intro ss us HH cs
  exact af.mono (by simp) (fun b _ hb=>setRow_other w _ b cs (fun e=>hb (e ▸ .inl ⟨id,_,aK,by simp [al]⟩))) (fun b hb=> .inl (cO b hb)) ss us HH (fun _ _=>⟨rfl,rfl⟩)
 refine iA hR hd (w':=w.setRow (β.cT id) (vs.take off++((a.eval y).cells.toList++vs.drop (off+(a.eval y).cells.toList.length))).toArray) ?_ (hR.kept.setRow (GN.2 (β.cT id) (by rw[ky];simp)).1 _) ⟨β,az φ id [β.cT id], ?_,by simp [ak]⟩
 ·simp [execOp,ho,hx,ir hi (br.trans mP.symm) bp]
 ·show Core w0 S st.get (fo [] (fc (some (id,off,bL)) st.obj)) _ _ _ _
  simp only[fo,Mi]
  refine hc.rewrite aK (by simp [al]) (by simp [al]) ?_ (by simp) ?_
  ·refine⟨_,setRow_heap w _ _ _ _ _ hh,m0 (GJ _ _ hr _) (GJ _ _ fj _) j9, ?_,rfl⟩
   intro z hz
   simp only[List.mem_append] at hz
   rcases hz with hz | hz | hz
   ·exact ml z (List.mem_of_mem_take hz)
   ·exact bb z hz
   ·exact ml z (List.mem_of_mem_drop hz)
  ·intro b hb
   have ax:b∈φ id:=by rw[ky];exact hb
   exact⟨GN.2 b ax,fun j oj hj i_=>hc.sep id j _ _ (Ne.symm hj) aK i_ b ax⟩
theorem bT {aA:List (List Nat)} {i:Nat} (hi:i<aA.length) (x:List Nat):(aA.set i x).flatten=(aA.take i).flatten++(x++(aA.drop (i+1)).flatten):=by
 rw[List.set_eq_take_append_cons_drop,if_pos hi]
 simp
theorem bs {aA:List (List Nat)} {i:Nat} (hi:i<aA.length):aA.flatten=(aA.take i).flatten++(aA[i]++(aA.drop (i+1)).flatten):=by
 have:=bT hi aA[i]
 rwa [List.set_getElem_self] at this
theorem dK.set {ct:List CT} {rows:List (List DC)} {vals:List Value} {aA:List (List Nat)} (da:dK w ct rows vals aA) (hl:vals.length=rows.length*ct.length) {i:Nat} (hi:i<rows.length)
  {off:Nat} {ds:List DC} {us:List Value} {fp:List Nat} (ja:off+us.length≤ct.length) (j_:a7 w ((ct.drop off).take us.length) ds (fun j=>us[j]?) fp):
  ∃p1 p2 p3,aA[i]? =some (p1++(p2++p3))∧dK w ct (rows.set i (bQ (rows.getD i []) off ds)) (vals.take (i*ct.length+off)++(us++vals.drop (i*ct.length+off+us.length))) (aA.set i (p1++(fp++p3))):=by
 have FX:i<aA.length:=by rw[da.1];exact hi
 have eJ:=da.2 i (rows.getD i []) aA[i] (cA hi) (by simp)
 generalize rows.getD i []=r at eJ ⊢
 have BD:ct=ct.take off++((ct.drop off).take us.length++ct.drop (off+us.length)):=by
  rw[←List.drop_drop,List.take_append_drop,List.take_append_drop]
 have GG:(ct.take off).length=off:=by simp;omega
 have j9:((ct.drop off).take us.length).length=us.length:=by simp;omega
 have Mf:ds.length=us.length:=by rw[a7.length _ _ _ _ j_,j9]
 have I_:a7 w (ct.take off++((ct.drop off).take us.length++ct.drop (off+us.length))) r (fun j=>vals[i*ct.length+j]?) aA[i]:=by
  rw[←BD]
  exact eJ
 obtain⟨p1,q,r1,r2,hq⟩:=a7.split _ _ _ _ _ I_
 obtain⟨p2,p3,r3,r4,rfl⟩:=a7.split _ _ _ _ _ r2
 rw[GG] at r1 r2 r3 r4
 rw[j9] at r3 r4
 have JL:i*ct.length+ct.length≤vals.length:=by
  rw[hl,←Nat.succ_mul]
  exact Nat.mul_le_mul_right _ hi
 refine⟨p1,p2,p3,by rw[List.getElem?_eq_getElem FX,hq],by simp [da.1],fun k r' f' hk hf=> ?_⟩
 have lG:∀j,(vals.take (i*ct.length+off)++(us++vals.drop (i*ct.length+off+us.length)))[j]? =
   if j<i*ct.length+off then vals[j]? else if j<i*ct.length+off+us.length then us[j - (i*ct.length+off)]? else vals[j]? :=by
  intro j
  have ht:(vals.take (i*ct.length+off)).length=i*ct.length+off:=by simp;omega
  split
  ·rename_i hj
   rw[List.getElem?_append_left (by omega),List.getElem?_take,if_pos hj]
  ·rename_i hj
   rw[List.getElem?_append_right (by omega),ht]
   split
   ·rw[List.getElem?_append_left (by omega)]
   ·rw[List.getElem?_append_right (by omega),List.getElem?_drop]
    congr 1
    omega
 by_cases Ah:k=i
 ·subst Ah
  rw[List.getElem?_set_self hi] at hk
  rw[List.getElem?_set_self FX] at hf
  simp only[Option.some.injEq] at hk hf
  subst hk hf
  have:=a7.join (w:=w) (ct.take off) ((ct.drop off).take us.length++ct.drop (off+us.length)) (r.take off) (ds++r.drop (off+ds.length))
   (fun j=>(vals.take (k*ct.length+off)++(us++vals.drop (k*ct.length+off+us.length)))[k*ct.length+j]?) p1 (fp++p3) ?_ ?_
  ·rw[←BD] at this
   exact this
  ·refine bl.a7.jk ?_ r1
   intro j u hj Bn
   rw[GG] at hj
   simp only[lG]
   rw[if_pos (by omega)]
   exact Bn
  ·refine a7.join _ _ _ _ _ _ _ ?_ ?_
   ·refine bl.a7.jk ?_ j_
    intro j u hj Bn
    rw[j9] at hj
    simp only[GG,lG]
    rw[if_neg (by omega),if_pos (by omega),←Bn]
    congr 1
    omega
   ·rw[Mf]
    simp only[List.drop_drop] at r4
    refine bl.a7.jU ?_ r4
    intro j u Bn
    simp only[GG,j9,lG]
    rw[if_neg (by omega),if_neg (by omega)]
    rw[←Bn]
 ·rw[List.getElem?_set_ne (Ne.symm Ah)] at hk hf
  refine bl.a7.jk ?_ (da.2 k r' f' hk hf)
  intro j u hj Bn
  have FG:k<rows.length:=(List.getElem?_eq_some_iff.1 hk).1
  rw[lG]
  rcases Nat.lt_or_ge k i with cm | EJ
  ·have:k*ct.length+ct.length≤i*ct.length:=by rw[←Nat.succ_mul];exact Nat.mul_le_mul_right _ cm
   rw[if_pos (by omega)]
   exact Bn
  ·have:i*ct.length+ct.length≤k*ct.length:=by rw[←Nat.succ_mul];exact Nat.mul_le_mul_right _ (by omega)
   rw[if_neg (by omega),if_neg (by omega)]
   exact Bn
end
end Go.Proofs.YtoaflbnkiobhdaaGreat.Vm
namespace Go.Proofs.YtoaflbnkiobhdaaGreat.Vm
theorem iv {α:Type} (l us:List α) (o m:Nat) (h1:o+us.length≤m) (h2:m≤l.length):
  (l.take o++(us++l.drop (o+us.length))).take m=(l.take m).take o++(us++(l.take m).drop (o+us.length)):=by
 rw[List.take_append,List.take_append]
 have e1:(l.take o).length=o:=by simp;omega
 rw[e1]
 have e2:(l.take o).take m=(l.take m).take o:=by rw[List.take_take,List.take_take,Nat.min_comm]
 have e3:us.take (m - o)=us:=List.take_of_length_le (by omega)
 rw[e2,e3]
 congr 2
 rw[List.drop_take]
 congr 1
 omega
section
variable {P:Program} {Γ:Ctx} {w0:World} {S:Own} {st:St} {o:Oper} {e:cG} {a:Act} {w:World}
variable {f:Nat→SV} {h:Nat→Option aj} {β:Env} {φ:Nat→List Nat} {tm:Array Value}
theorem gE {A p1 p2 p3 B n:List Nat} (h:(A++((p1++(p2++p3))++B)).Nodup) (hn:n.Nodup) (hd:∀b∈n,b ∉ A++((p1++(p2++p3))++B)):(A++((p1++(n++p3))++B)).Nodup:=by
 have h1:((A++p1)++(p3++B)).Nodup:=by
  refine List.Sublist.nodup ?_ h
  simp only[List.append_assoc]
  refine List.Sublist.append (List.Sublist.refl _) (List.Sublist.append (List.Sublist.refl _) ?_)
  exact List.sublist_append_right _ _
 have h2:(n++((A++p1)++(p3++B))).Nodup:=by
  rw[List.nodup_append]
  refine⟨hn,h1,fun b hb c gZ DH=> ?_⟩
  subst DH
  refine hd b hb ?_
  simp only[List.mem_append] at gZ ⊢
  rcases gZ with (gZ | gZ) | gZ | gZ<;>simp [gZ]
 refine (List.Perm.nodup_iff ?_).1 h2
 have:A++((p1++(n++p3))++B)=(A++p1)++(n++(p3++B)):=by simp
 rw[this]
 exact (List.perm_append_comm_assoc _ _ _)
theorem lA (hR:Rel w0 S st a w) (hd:∀d,o.dst=some d→ba st.n d) {t t':TypeId} {x y:Operand} (ho:o.op= .store t x y) {id i off:Nat} {sy:SV} {bL:List SV} {ct:List CT} {rows:List (List DC)} {fz u:Bool} {r:List DC×eZ×Bool}
  (h1:(b_ x).val st.get st.obj=some (.d9 id i ct.length off)) (h2:(b_ y).val st.get st.obj=some sy) (fC:(aD sy).val st.get st.obj=some bL) (dx:aY P t bL.length=true)
  (aK:st.obj id=some (.row t' ct rows fz u)) (dP:off+bL.length≤ct.length) (hr:(cb ((ct.drop off).take bL.length) bL).val st.get st.obj=some r) (Bo:bP id r.2.1=true) (hnd:aO r.2.1=true)
  (hi:i<rows.length) (jF:e.cw=none) (BM:e.sv= .undef)
  (how:e.ow=(id,some (.row t' ct (rows.set i (bQ (rows.getD i []) off r.1)) fz (u && r.2.2)))::ai r.2.1):Good P w0 S st o e a w:=by
 obtain⟨ti,F6,br⟩:=aW dx
 obtain⟨β,φ,hc⟩:=hR.core
 have hx:=hc.ev h1
 simp only[ak] at hx
 obtain⟨g,hg,hx⟩:=hx
 obtain⟨fj,bb⟩:=dM (hc.ev h2) fC
 have j9:=af.length _ _ fj
 have mP:(a.eval y).cells.size=bL.length:=by simpa using j9
 obtain⟨fp,j_,kr,Iz,Ho⟩:=dZ hc _ _ _ r fj hr
 have jE:=hc.gw r.2.1 kr hnd
 have BJ:=gB Bo
 have g_:fo (ai r.2.1) st.obj id=some (.row t' ct rows fz u):=by rw[bI BJ];exact aK
 have jB:∀b∈fp,¬Av (fo (ai r.2.1) st.obj) β b:=by
  intro b hb
  rcases Iz b hb with h1 | ⟨z,hz,H2⟩
  ·exact fun h2=>h1 (fY h2)
  ·exact dB hc kr hz H2
 obtain⟨vals,aA,aZ,da,lr,ky⟩:=jE.ay id _ g_
 have kS:g∈al β id (.row t' ct rows fz u):=by simp [al,hg]
 rcases aZ.2 with ⟨hv,h0,_⟩ | ⟨g',cap,cur,hv,hh,AW,D2,mg,E5⟩
 ·omega
 have Hp:g'=g:=by simpa [hv,Value.ownBlock] using hg
 subst Hp
 have hlen:i*ct.length+ct.length≤rows.length*ct.length:=by rw[←Nat.succ_mul];exact Nat.mul_le_mul_right _ hi
 have BI:rows.length*ct.length≤cap*ct.length:=Nat.mul_le_mul_right _ AW
 have EI:∀j,j<cur.size→¬((bif fz then (cur.size,cur.size+1) else ((0,0):Nat×Nat)).1≤j∧j<(bif fz then (cur.size,cur.size+1) else ((0,0):Nat×Nat)).2):=by
  intro j hj
  cases fz<;>simp<;>omega
 have CF:(a.eval y).cells.toList.length=bL.length:=by simpa using mP
 have bp:=bO P g' (i*ct.length+off) t' _ (a.eval y).cells.toList 0 cur w hh EI (by rw[CF,mg];omega) bb
 simp only[Nat.add_zero] at bp
 generalize gk:(a.eval y).cells.toList=us at*
 rw[←CF] at dP j_
 obtain⟨p1,p2,p3,Kk,mi⟩:=da.set aZ.1 hi dP j_
 have FX:i<aA.length:=by rw[da.1];exact hi
 have EH:aA[i]=p1++(p2++p3):=by simpa [FX] using Kk
 have Dk:∀b∈(aA.set i (p1++(fp++p3))).flatten,b∈aA.flatten∨b∈fp:=by
  intro b hb
  rw[bT FX] at hb
  rw[bs FX,EH]
  simp only[List.mem_append] at hb ⊢
  rcases hb with hb | (hb | hb | hb) | hb<;>simp [hb]
 have iO:∀b∈(aA.set i (p1++(fp++p3))).flatten,¬Av (fo (ai r.2.1) st.obj) β b:=by
  intro b hb
  rcases Dk b hb with hb | hb
  ·exact lr b hb
  ·exact jB b hb
 have bu:=jE.fresh id _ g_
 have mh:(cur.toList.take (i*ct.length+off)++(us++cur.toList.drop (i*ct.length+off+us.length))).length=cur.size:=by
  simp only[List.length_append,List.length_take,List.length_drop,Array.length_toList]
  rw[mg]
  omega
 have Aj:∀b∈al β id (.row t' ct (rows.set i (bQ (rows.getD i []) off r.1)) fz (u && r.2.2)),b∈al β id (.row t' ct rows fz u):=fun b hb=>hb
 refine iA hR hd (w':=w.setRow g' (cur.toList.take (i*ct.length+off)++(us++cur.toList.drop (i*ct.length+off+us.length))).toArray) ?_
  (hR.kept.setRow (bu.2 g' (ah (jE.ay id _ g_) g' kS)).1 _)
  ⟨β,az (bm φ r.2.1) id ((β.val id).ownBlock.toList++(bif (u && r.2.2) then (aA.set i (p1++(fp++p3))).flatten else [])), ?_,by rw[BM];simp [ak]⟩
 ·have:=ir (P:=P) (t:=t) (b:=g') (off:=i*ct.length+off) (x:=a.eval y) F6 (br.trans mP.symm) (by rw[gk];exact bp)
  simp [execOp,ho,hx,this]
 ·rw[how,jF]
  show Core w0 S st.get (az (fo (ai r.2.1) st.obj) id (some (.row t' ct (rows.set i (bQ (rows.getD i []) off r.1)) fz (u && r.2.2)))) _ _ _ _
  refine jE.rewrite g_ kS Aj ?_ ?_ ?_
  ·refine⟨vals.take (i*ct.length+off)++(us++vals.drop (i*ct.length+off+us.length)),aA.set i (p1++(fp++p3)),⟨?_,.inr ⟨g',cap,(cur.toList.take (i*ct.length+off)++(us++cur.toList.drop (i*ct.length+off+us.length))).toArray,by simpa using hv, ?_,by simpa using AW,D2,by simpa [mh] using mg, ?_⟩⟩, ?_, ?_,rfl⟩
   ·have:=aZ.1
    simp only[List.length_append,List.length_take,List.length_drop,List.length_set]
    omega
   ·rw[setRow_heap w _ _ _ _ _ hh]
    simp only[List.size_toArray,mh]
   ·simp only[List.length_set]
    rw[iv _ _ _ _ (by omega) (by simp only[Array.length_toList];omega),E5]
   ·refine mi.mono (by simp) (fun b hb=>setRow_other w g' b _ (fun e=>iO b hb (e ▸ .inl ⟨id,_,g_,kS⟩)))
   ·exact fun b hb hx=>iO b hb (lT g_ Aj hx)
  ·have AX:(β.val id).ownBlock.toList.Nodup:=by cases (β.val id).ownBlock<;>simp
   cases gJ:(u && r.2.2) with
   | false=>simpa using AX
   | true=>
    simp only[Bool.and_eq_true] at gJ
    have HJ:bm φ r.2.1 id=(β.val id).ownBlock.toList++aA.flatten:=by rw[ky,gJ.1];rfl
    have Hv:=bu.1
    rw[HJ,bs FX,EH,List.nodup_append] at Hv
    obtain⟨JQ,Hw,IQ⟩:=Hv
    have Kl:=(Ho gJ.2).2 hnd
    have Hn:∀b∈fp,b ∉ bm φ r.2.1 id:=by
     intro b hb me
     obtain⟨z,hz,H2⟩:=(Ho gJ.2).1 b hb
     obtain⟨_,h3,_⟩:=kr z hz
     rw[cW BJ] at me
     exact hc.sep z.1 id _ _ (BJ z hz) h3 aK b H2 me
    rw[HJ,bs FX,EH] at Hn
    simp only[cond_true]
    rw[bT FX,List.nodup_append]
    refine⟨JQ,gE Hw Kl (fun b hb ax=>Hn b hb (List.mem_append_right _ ax)),fun b hb c gZ DH=> ?_⟩
    subst DH
    simp only[List.mem_append] at gZ
    rcases gZ with gZ | (gZ | gZ | gZ) | gZ
    ·exact IQ b hb b (by simp [gZ]) rfl
    ·exact IQ b hb b (by simp [gZ]) rfl
    ·exact Hn b gZ (List.mem_append_left _ hb)
    ·exact IQ b hb b (by simp [gZ]) rfl
    ·exact IQ b hb b (by simp [gZ]) rfl
  ·intro b hb
   have lK:b∈bm φ r.2.1 id→((w0.heap.size≤b∨S b)∧b<w.heap.size)∧∀j oj,j≠id→fo (ai r.2.1) st.obj j=some oj→b ∉ bm φ r.2.1 j:=fun ax=>
    ⟨bu.2 b ax,fun j oj hj i_=>jE.sep id j _ _ (Ne.symm hj) g_ i_ b ax⟩
   rcases List.mem_append.1 hb with hb | hb
   ·exact lK (by rw[ky];exact List.mem_append_left _ hb)
   ·cases gJ:(u && r.2.2) with
    | false=>simp [gJ] at hb
    | true=>
     simp only[gJ,cond_true] at hb
     simp only[Bool.and_eq_true] at gJ
     rcases Dk b hb with hb | hb
     ·exact lK (by rw[ky,gJ.1];exact List.mem_append_right _ hb)
     ·obtain⟨z,hz,H2⟩:=(Ho gJ.2).1 b hb
      obtain⟨_,h3,_⟩:=kr z hz
      refine⟨(hc.fresh z.1 _ h3).2 b H2,fun j oj hj i_=> ?_⟩
      by_cases BH:∃k∈r.2.1,k.1=j
      ·rw[gY BH];simp
      ·have CC:∀k∈r.2.1,k.1≠j:=fun k hk e=>BH ⟨k,hk,e⟩
       rw[bI CC] at i_
       rw[cW CC]
       exact hc.sep z.1 j _ _ (CC z hz) h3 i_ b H2
end
end Go.Proofs.YtoaflbnkiobhdaaGreat.Vm
namespace Go.Proofs.YtoaflbnkiobhdaaGreat.Vm
theorem Df {w:World} :∀(ct:List CT) (r:List DC) (f:Nat→Option Value) (fp:List Nat),aq ct=true→a7 w ct r f fp→fp=[]
 | [],_,_,_,_,h=>by simp only[a7] at h;exact h.2
 | c::cs,_,_,_,hf,h=>by
  simp only[a7] at h
  obtain⟨d,r',v,f1,f2,rfl,_,h1,h2,rfl⟩:=h
  have h0:f1=[]∧aq cs=true:=by
   cases c with
   | int k=>simp only[bV] at h1;obtain⟨n,_,_,_,e⟩:=h1;exact⟨e,by simpa [aq] using hf⟩
   | bool=>simp only[bV] at h1;obtain⟨n,_,_,e⟩:=h1;exact⟨e,by simpa [aq] using hf⟩
   | str=>simp only[bV] at h1;obtain⟨n,_,_,_,e⟩:=h1;exact⟨e,by simpa [aq] using hf⟩
   | sl e=>simp [aq] at hf
  rw[h0.1,Df cs _ _ _ h0.2 h2]
  rfl
theorem dK.flat {w:World} {ct:List CT} {rows:List (List DC)} {vals:List Value} {aA:List (List Nat)} (h:dK w ct rows vals aA) (hf:aq ct=true):aA.flatten=[]:=by
 rw[List.flatten_eq_nil_iff]
 intro l hl
 obtain⟨i,hi,rfl⟩:=List.getElem_of_mem hl
 have dQ:i<rows.length:=by have:=h.1;omega
 exact Df ct _ _ _ hf (h.2 i rows[i] aA[i] (by simp) (by simp))
theorem kH {w:World} {ct:List CT} {r:List (List DC)} {q:Option Addr} {m c:Nat} {fp:List Nat} (h:bV w (.sl ct) (.sl r) (.slice q m c) fp) (hp:0<ct.length):
  m=r.length∧∃(news:List Value) (aA:List (List Nat)),news.length=m*ct.length∧(q=none→m=0)∧(∀ad,q=some ad→∀j u,news[j]? =some u→w.cell? (ad.add j)=some u)∧(∀x∈news,x.oneCell'=true)∧
   dK w ct r news aA∧(∀b∈aA.flatten,b∈fp)∧(fp.Nodup→aA.flatten.Nodup):=by
 obtain⟨q',m',c',hv,hn,hc,hm,iT⟩:=de h
 injection hv with e1 e2 e3
 subst e1 e2 e3
 refine⟨hn.symm, ?_⟩
 rcases iT with ⟨h0,rfl⟩ | ⟨jJ,b,o,aA,rfl,cm,eB,rfl,eJ⟩
 ·have hr:r=[]:=by simpa [h0] using hn
  subst hr
  exact⟨[],[],by simp [h0],fun _=>h0,by simp,by simp,dK.nil,by simp,by simp⟩
 ·have cellAt:∀j,j<m*ct.length→∃u,w.cell? ⟨b,o+j,none⟩=some u∧u.oneCell'=true:=by
   intro j hj
   have h1:j / ct.length<r.length:=by rw[hn];exact Nat.div_lt_of_lt_mul (by rw[Nat.mul_comm];exact hj)
   have h2:j % ct.length<ct.length:=Nat.mod_lt _ hp
   have hf:j / ct.length<aA.length:=by omega
   obtain⟨u,BA,e1,e2,_⟩:=a7.get _ _ _ _ (j % ct.length) ct[j % ct.length] (eJ (j / ct.length) r[j / ct.length] aA[j / ct.length] (by simp) (by simp)) (by simp)
   refine⟨u, ?_,e2.one⟩
   have:j / ct.length*ct.length+j % ct.length=j:=by rw[Nat.mul_comm];exact Nat.div_add_mod j ct.length
   rw[this] at e1
   exact e1
  refine⟨(List.range (m*ct.length)).map (fun j=>(w.cell? ⟨b,o+j,none⟩).getD undef),aA,by simp,by simp, ?_, ?_,⟨by omega, ?_⟩,fun x hx=>List.mem_cons_of_mem _ hx,fun hn=>(List.nodup_cons.1 hn).2⟩
  ·intro ad H0 j u hj
   injection H0 with H0
   subst H0
   rw[dn]
   have Hs:j<m*ct.length:=by
    have:=(List.getElem?_eq_some_iff.1 hj).1
    simpa using this
   obtain⟨u',CE,_⟩:=cellAt j Hs
   simp [Hs,CE] at hj
   rw[CE,hj]
  ·intro x hx
   simp only[List.mem_map,List.mem_range] at hx
   obtain⟨j,hj,rfl⟩:=hx
   obtain⟨u',CE,ho⟩:=cellAt j hj
   rw[CE]
   exact ho
  ·intro i r' f' hi hf
   refine bl.a7.jk ?_ (eJ i r' f' hi hf)
   intro j u hj Bn
   have EL:i<m:=by have:=(List.getElem?_eq_some_iff.1 hi).1;omega
   have:i*ct.length+j<m*ct.length:=by
    have:i*ct.length+ct.length≤m*ct.length:=by rw[←Nat.succ_mul];exact Nat.mul_le_mul_right _ EL
    omega
   simp [this,Bn]
section
variable {P:Program} {Γ:Ctx} {w0:World} {S:Own} {st:St} {o:Oper} {e:cG} {a:Act} {w:World}
variable {f:Nat→SV} {h:Nat→Option aj} {β:Env} {φ:Nat→List Nat} {tm:Array Value}
theorem run_append_nil (base:Nat) (t ty et:TypeId) (i:TypeInfo) (size:Nat) (ht:P.underlying t=some (.slice et)) (hi:P.info? et=some i)
  (v:Value) (n:Nat) (xs:List Value) (aZ:w.ownsRow base et size v n xs) (c:Nat):(Builtin.append_ #[t,t] ty #[v,.slice none 0 c]).run P w= .ok v w:=by
 rcases aZ.2 with ⟨rfl,rfl⟩ | ⟨g,cap,cur,rfl,_,_,AW,_⟩
 ·simp [Builtin.append_,run_underlying ht,sizeOf,typeInfo,hi,Builtin.lenOf,Builtin.firstCells]
 ·simp [Builtin.append_,run_underlying ht,sizeOf,typeInfo,hi,Builtin.lenOf,Builtin.firstCells,AW,storeCells]
theorem BX {t:TypeId} {i:TypeInfo} {n:Nat} (hi:P.info? t=some i) (h:fw P t n=true):n*i.bytes≤140737488355328∧n≤maxLen:=by
 simp only[fw,hi,Bool.and_eq_true,decide_eq_true_eq] at h
 exact⟨h.1,by simp only[maxLen];omega⟩
theorem iZ {t ty et:TypeId} {i:TypeInfo} {zv:Value} {ct:List CT} (ht:P.underlying t=some (.slice et)) (hi:P.info? et=some i) (hz:i.zero=some zv) (dx:i.size=ct.length) (Lg:zv.cells.size=ct.length) (hp:0<ct.length)
  {v:Value} {n:Nat} {vals:List Value} (aZ:ch w et ct.length false v n vals) {q:Option Addr} {m c:Nat} {news:List Value} (hl:news.length=m*ct.length) (hq:q=none→m=0)
  (IX:∀ad,q=some ad→∀j u,news[j]? =some u→w.cell? (ad.add j)=some u) (h1:∀x∈news,x.oneCell'=true) (eI:fw P et (n+m)=true):
  ∃v' w',(Builtin.append_ #[t,t] ty #[v,.slice q m c]).run P w= .ok v' w'∧ch w' et ct.length false v' (n+m) (vals++news)∧w.grownBy w' v.ownBlock∧(v'.ownBlock=v.ownBlock∨v'.ownBlock=some w.heap.size):=by
 obtain⟨hb,hm⟩:=BX hi eI
 cases q with
 | none=>
  have Mu:=hq rfl
  subst Mu
  have hn:news=[]:=by simpa using hl
  subst hn
  exact⟨v,w,run_append_nil 0 t ty et i ct.length ht hi v n vals aZ.owns c,by simpa using aZ,⟨rfl,rfl,rfl,Nat.le_refl _,fun _ _ _=>rfl⟩,.inl rfl⟩
 | some ad=>
  obtain⟨v',w',hr,h2,h3,_,h5⟩:=run_append_own_at (P:=P) w 0 t ty et i zv ct.length i.bytes ht hi hz dx rfl Lg hp v n vals aZ.owns ad m c news hl (IX ad rfl) h1 hm hb (Nat.zero_le _)
  exact⟨v',w',hr,ch.HT h2,h3,h5⟩
theorem Kept.grown (hk:Kept S w0 w) {w':World} {row:Option Nat} (hg:w.grownBy w' row) (hr:∀b,row=some b→w0.heap.size≤b∨S b):Kept S w0 w':=
 ⟨hg.os.trans hk.os,hg.tape.trans hk.tape,hg.output.trans hk.output,Nat.le_trans hk.size hg.size,fun k h1 h2=>by
  rw[hg.block k (by have:=hk.size;omega) (fun e=>by rcases hr k e.symm with h | h;omega;exact h2 h)]
  exact hk.block k h1 h2⟩
mutual
theorem Cp:∀(a:CT),kM a a=true
 | .int k=>by simp [kM]
 | .bool=>rfl
 | .str=>rfl
 | .sl e=>by simp only[kM];exact eE e
theorem eE:∀(a:List CT),aF a a=true
 | []=>rfl
 | a::l=>by simp only[aF,Bool.and_eq_true];exact⟨Cp a,eE l⟩
end
theorem CU {ct:List CT} {s:SV} {q:List (List DC)×eZ×Bool} (hq:(lb ct s).val f h=some q):(eP (.sl ct) s).val f h=some (.sl q.1,q.2):=by
 unfold lb at hq
 split at hq
 ·simp only[M.aa,Option.some.injEq] at hq
  subst hq
  simp [eP]
 ·rename_i e' r
  cases hb:aF ct e'
  ·simp [hb] at hq
  ·simp only[hb,cond_true,M.aa,Option.some.injEq] at hq
   have:=aN _ _ hb
   subst this hq
   simp [eP,eE]
 ·rename_i id
  simp only[M.aT,Option.bind_eq_some_iff] at hq
  obtain⟨ob,aK,hq⟩:=hq
  split at hq
  ·rename_i t' e' r fz u
   cases hb:aF ct e'
   ·simp [hb] at hq
   ·simp only[hb,cond_true,M.aa,Option.some.injEq] at hq
    have:=aN _ _ hb
    subst this hq
    simp [eP,aK,eE]
  ·rename_i e' r
   cases hb:aF ct e'
   ·simp [hb] at hq
   ·simp only[hb,cond_true,M.aa,Option.some.injEq] at hq
    have:=aN _ _ hb
    subst this hq
    simp [eP,aK,eE]
  ·simp at hq
 ·simp at hq
theorem jY (hc:Core w0 S f h β φ tm w) {ct:List CT} {s:SV} {v:Value} {q:List (List DC)×eZ×Bool} (hs:ak w (Av h β) β s v) (hq:(lb ct s).val f h=some q):
  ∃fp,bV w (.sl ct) (.sl q.1) v fp∧bS h q.2.1∧aO q.2.1=true∧(∀b∈fp,(¬Av h β b)∨∃x∈q.2.1,b∈eX h β x.1)∧
   (q.2.2=true→(∀b∈fp,∃x∈q.2.1,b∈φ x.1)∧fp.Nodup):=dy hc hs (CU hq)
theorem Dx {ct:List CT} {m:eZ} (hm:bS h m) (hn:aO m=true):bS h (bif aq ct then [] else m)∧aO (bif aq ct then [] else m)=true:=by
 cases aq ct
 ·exact⟨hm,hn⟩
 ·exact⟨by simp [bS],rfl⟩
theorem kQ {ct:List CT} {m:eZ} :(bif aq ct then [] else ai m)=ai (bif aq ct then [] else m):=by cases aq ct<;>rfl
theorem kD (hR:Rel w0 S st a w) {d:Nat} (aL:o.dst=some d) (hd:ba st.n d) (bM:bw st d) {t et:TypeId} {s x:Operand} {c:Call} (ho:o.op= .call c) (hb:c.callee= .builtin .append) (cu:c.args= #[s,x])
  (FV:c.argTypes= #[t,t]) {sx:SV} {ct:List CT} {q:List (List DC)×eZ×Bool} {z:List SV} (h1:(b_ s).val st.get st.obj=some .nil) (h2:(b_ x).val st.get st.obj=some sx) (hu:P.underlying t=some (.slice et))
  (dx:aY P et ct.length=true) (hp:0<ct.length) (hz:(dI P et).val st.get st.obj=some z) (jN:z.length=ct.length) (hq:(lb ct sx).val st.get st.obj=some q) (eI:fw P et q.1.length=true)
  (fj:e.sv= .own (ag d 0)) (jF:e.cw=none) (how:e.ow=(ag d 0,some (.row et ct q.1 false (aq ct || q.2.2)))::(bif aq ct then [] else ai q.2.1)):Good P w0 S st o e a w:=by
 obtain⟨i,hi,br⟩:=aW dx
 obtain⟨i',zv,dQ,mU,rfl,_⟩:=dw hz
 rw[hi] at dQ
 injection dQ with dQ
 subst dQ
 obtain⟨Jx,Jy,Cf⟩:=hR.core
 obtain⟨MQ,HE,EV,Hu,_,_⟩:=jY Cf (Cf.ev h2) hq
 obtain⟨Q,m,cc,GR,Mx,_,_,_⟩:=de HE
 rw[GR] at HE
 obtain⟨IP,news,L1,Hz,H5,hcell,bb,Mq,_,_⟩:=kH HE hp
 have E0:=Cf.ev h1
 simp only[ak] at E0
 have I5:ch w et ct.length false (.slice none 0 0) 0 []:=⟨by simp,.inl ⟨rfl,rfl,rfl⟩⟩
 obtain⟨v',w',bp,f_,dg,jC⟩:=iZ (P:=P) (ty:=o.type) (c:=cc) hu hi mU br (by simpa using jN) hp I5 Hz H5 hcell bb (by rw[IP,Nat.zero_add];exact eI)
 obtain⟨GI,F3⟩:=Dx (ct:=ct) EV Hu
 refine ff hR aL hd bM (m:=bif aq ct then [] else q.2.1) (fz:=false) (u:=aq ct || q.2.2) (vals:=news) (v:=v') (w':=w') ?_ (hR.kept.grown dg (by simp [Value.ownBlock])) dg.size
  (fun b hb=>dg.block b hb (by simp [Value.ownBlock])) ?_ GI F3 ?_ ?_ fj jF (by rw[how,kQ])
 ·simp [execOp,ho,resolve,hb,cu,FV,invoke,builtin,E0,GR,bp]
 ·intro b ax
  rcases jC with h3 | h3
  ·rw[h3] at ax;simp [Value.ownBlock] at ax
  ·rw[h3] at ax;simpa using ax
 ·rw[←IP]
  simpa using f_
 ·intro β φ hc
  obtain⟨fp,j_,kr,Bo,lr,IA⟩:=jY hc (hc.ev h2) hq
  rw[GR] at j_
  obtain⟨_,Jr,aA,IY,_,Hi,_,da,hX,HA⟩:=kH j_ hp
  have Mz:dK w ct q.1 news aA:=by
   refine⟨da.1,fun k r' f' hk hf=> ?_⟩
   refine bl.a7.jk ?_ (da.2 k r' f' hk hf)
   intro j u hj Bn
   have ID:k*ct.length+j<Jr.length:=(List.getElem?_eq_some_iff.1 Bn).1
   cases Q with
   | none=>
    have:m=0:=H5 rfl
    subst this
    simp at IY
    simp [IY] at Bn
   | some ad=>
    have e1:=Hi ad rfl _ _ Bn
    have cm:k*ct.length+j<news.length:=by omega
    have e2:=hcell ad rfl (k*ct.length+j) news[k*ct.length+j] (by simp)
    rw[e1] at e2
    injection e2 with e2
    rw[List.getElem?_eq_getElem cm,←e2]
  refine⟨aA,Mz, ?_, ?_⟩
  ·intro b ax
   cases eB:aq ct with
   | true=>rw[da.flat eB] at ax;simp at ax
   | false=>simpa using lr b (hX b ax)
  ·intro CE
   cases eB:aq ct with
   | true=>rw[da.flat eB];simp
   | false=>
    rw[eB,Bool.false_or] at CE
    exact⟨fun b ax=>by simpa using (IA CE).1 b (hX b ax),HA (IA CE).2⟩
theorem kE (hR:Rel w0 S st a w) {d:Nat} (aL:o.dst=some d) (hd:ba st.n d) (bM:bw st d) {t et:TypeId} {s x:Operand} {c:Call} (ho:o.op= .call c) (hb:c.callee= .builtin .append) (cu:c.args= #[s,x])
  (FV:c.argTypes= #[t,t]) {id:Nat} {u:Bool} {r:List (List DC)} {sx:SV} {ct:List CT} {q:List (List DC)×eZ×Bool} {z:List SV} (h1:(b_ s).val st.get st.obj=some (.own id)) (h2:(b_ x).val st.get st.obj=some sx)
  (aK:st.obj id=some (.row et ct r false u)) (hu:P.underlying t=some (.slice et))
  (dx:aY P et ct.length=true) (hp:0<ct.length) (hz:(dI P et).val st.get st.obj=some z) (jN:z.length=ct.length) (hq:(lb ct sx).val st.get st.obj=some q) (KO:bP id q.2.1=true)
  (eI:fw P et (r.length+q.1.length)=true) (fj:e.sv= .own (ag d 0)) (jF:e.cw=none)
  (how:e.ow=(ag d 0,some (.row et ct (r++q.1) false (u && (aq ct || q.2.2))))::(id,none)::(bif aq ct then [] else ai q.2.1)):Good P w0 S st o e a w:=by
 obtain⟨i,hi,br⟩:=aW dx
 obtain⟨i',zv,dQ,mU,rfl,_⟩:=dw hz
 rw[hi] at dQ
 injection dQ with dQ
 subst dQ
 obtain⟨β,φ,hc⟩:=hR.core
 obtain⟨fp,j_,EV,Hu,lr,IA⟩:=jY hc (hc.ev h2) hq
 obtain⟨Q,m,cc,GR,Mx,_,_,_⟩:=de j_
 rw[GR] at j_
 obtain⟨IP,news,mM,Hz,H5,hcell,bb,jG,hX,HA⟩:=kH j_ hp
 obtain⟨GI,F3⟩:=Dx (ct:=ct) EV Hu
 have KN:=gB KO
 have BJ:∀y∈(bif aq ct then [] else q.2.1),y.1≠id:=by
  cases aq ct
  ·exact KN
  ·simp
 generalize hM:(bif aq ct then [] else q.2.1)=M' at GI F3 BJ
 have jE:=hc.gw M' GI F3
 have g_:fo (ai M') st.obj id=some (.row et ct r false u):=by rw[bI BJ];exact aK
 obtain⟨vals,aA,aZ,da,Hr,ky⟩:=jE.ay id _ g_
 have E0:=hc.ev h1
 simp only[ak] at E0
 obtain⟨v',w',bp,f_,dg,jC⟩:=iZ (P:=P) (ty:=o.type) (c:=cc) hu hi mU br (by simpa using jN) hp aZ Hz H5 hcell bb (by rw[IP];exact eI)
 have bD:ag d 0 / 64=d:=cL d 0 (by omega)
 have IC:id≠ag d 0:=fun e=>(bM.obj id _ aK).1 (e ▸ bD)
 have gl:∀j,j≠ag d 0→(β.fS (ag d 0) v').val j=β.val j∧(β.fS (ag d 0) v').cT j=β.cT j:=by
  intro j hj
  exact⟨by simp [Env.fS,az,hj],rfl⟩
 have hval:(β.fS (ag d 0) v').val (ag d 0)=v':=by simp [Env.fS,az]
 have jK:=ah (jE.ay id _ g_)
 have bu:=jE.fresh id _ g_
 have FZ:=da.lt
 have F0:=jG.lt
 have iO:∀b∈mM.flatten,¬Av (fo (ai M') st.obj) β b:=by
  intro b ax
  cases eB:aq ct with
  | true=>rw[jG.flat eB] at ax;simp at ax
  | false=>
   rw[eB,cond_false] at hM
   subst hM
   rcases lr b (hX b ax) with h3 | ⟨y,hy,Bj⟩
   ·exact fun h4=>h3 (fY h4)
   ·exact dB hc GI hy Bj
 have CB:(u && (aq ct || q.2.2))=true→∀b∈mM.flatten,∃y∈M',b∈φ y.1:=by
  intro gJ b ax
  cases eB:aq ct with
  | true=>rw[jG.flat eB] at ax;simp at ax
  | false=>
   rw[eB,cond_false] at hM
   subst hM
   rw[eB,Bool.false_or,Bool.and_eq_true] at gJ
   exact (IA gJ.2).1 b (hX b ax)
 have I0:(u && (aq ct || q.2.2))=true→mM.flatten.Nodup:=by
  intro gJ
  cases eB:aq ct with
  | true=>rw[jG.flat eB];simp
  | false=>
   rw[eB,Bool.false_or,Bool.and_eq_true] at gJ
   exact HA (IA gJ.2).2
 have jI:∀j oj,az (az (fo (ai M') st.obj) id none) (ag d 0) (some (.row et ct (r++q.1) false (u && (aq ct || q.2.2)))) j=some oj→j≠ag d 0→j≠id∧fo (ai M') st.obj j=some oj:=by
  intro j oj hj mj
  simp only[az,mj,if_false] at hj
  split at hj
  ·cases hj
  ·exact⟨by assumption,hj⟩
 have hJ:∀b,(β.val id).ownBlock=some b→b∈bm φ M' id:=fun b ax=>jK b (by simp [al,ax])
 have Ak:∀b∈v'.ownBlock.toList,b∈bm φ M' id∨b=w.heap.size:=by
  intro b ax
  rcases jC with h3 | h3
  ·rw[h3] at ax
   exact .inl (jK b (by simpa [al] using ax))
  ·rw[h3] at ax
   exact .inr (by simpa using ax)
 have HM:u=true→∀b∈aA.flatten,b∈bm φ M' id:=by
  intro gJ b ax
  rw[ky,gJ]
  exact List.mem_append_right _ ax
 have BL:∀b,b∈v'.ownBlock.toList++(bif (u && (aq ct || q.2.2)) then (aA++mM).flatten else [])→∀j oj,j≠id→fo (ai M') st.obj j=some oj→b ∉ bm φ M' j:=by
  intro b ax j oj hj i_ bo
  have lK:b∈bm φ M' id→False:=fun h3=>jE.sep id j _ _ (Ne.symm hj) g_ i_ b h3 bo
  rcases List.mem_append.1 ax with ax | ax
  ·rcases Ak b ax with h3 | h3
   ·exact lK h3
   ·have:=((jE.fresh j oj i_).2 b bo).2
    omega
  ·cases gJ:(u && (aq ct || q.2.2)) with
   | false=>simp [gJ] at ax
   | true=>
    simp only[gJ,cond_true,List.flatten_append,List.mem_append] at ax
    rcases ax with ax | ax
    ·rw[Bool.and_eq_true] at gJ
     exact lK (HM gJ.1 b ax)
    ·obtain⟨y,hy,Bj⟩:=CB gJ b ax
     obtain⟨_,h3,_⟩:=GI y hy
     by_cases BH:∃k∈M',k.1=j
     ·rw[gY BH] at bo
      simp at bo
     ·have CC:∀k∈M',k.1≠j:=fun k hk e=>BH ⟨k,hk,e⟩
      rw[bI CC] at i_
      rw[cW CC] at bo
      exact hc.sep y.1 j _ _ (CC y hy) h3 i_ b Bj bo
 have fO:∀b,b<w.heap.size→(β.val id).ownBlock≠some b→w'.heap[b]? =w.heap[b]? :=fun b ax cJ=>dg.block b ax (fun e=>cJ e.symm)
 have kp:∀b∈(aA++mM).flatten,¬Av (fo (ai M') st.obj) β b∧b<w.heap.size:=by
  intro b ax
  simp only[List.flatten_append,List.mem_append] at ax
  rcases ax with ax | ax
  ·exact⟨Hr b ax,FZ b ax⟩
  ·exact⟨iO b ax,F0 b ax⟩
 have AR:∀b,Av (az (az (fo (ai M') st.obj) id none) (ag d 0) (some (.row et ct (r++q.1) false (u && (aq ct || q.2.2))))) (β.fS (ag d 0) v') b→Av (fo (ai M') st.obj) β b∨w.heap.size≤b:=by
  rintro b (⟨j,oj,hj,bo⟩ | hb)
  case inr=>exact .inl (.inr hb)
  by_cases ca:j=ag d 0
  ·subst ca
   simp only[az,if_true,Option.some.injEq] at hj
   subst hj
   simp only[al,hval] at bo
   rcases jC with h3 | h3
   ·rw[h3] at bo
    exact .inl (.inl ⟨id,_,g_,by simpa [al] using bo⟩)
   ·rw[h3] at bo
    right
    have:b=w.heap.size:=by simpa using bo
    omega
  ·obtain⟨_,f9⟩:=jI j oj hj ca
   refine .inl (.inl ⟨j,oj,f9, ?_⟩)
   cases oj<;>simp only[al,gl j ca] at bo ⊢ <;>exact bo
 refine bJ hR (fun d' h'=>by rw[aL] at h';injection h' with h';exact h' ▸ hd) (v:=v') (w':=w') ?_ (hR.kept.grown dg (fun b ax=>(bu.2 b (hJ b ax)).1))
  ⟨β.fS (ag d 0) v',az (bm φ M') (ag d 0) (v'.ownBlock.toList++(bif (u && (aq ct || q.2.2)) then (aA++mM).flatten else [])), ?_, ?_⟩
 ·simp [execOp,ho,resolve,hb,cu,FV,invoke,builtin,E0.1,GR,bp]
 ·rw[how,jF,kQ,hM]
  show Core w0 S st.get (az (az (fo (ai M') st.obj) id none) (ag d 0) (some (.row et ct (r++q.1) false (u && (aq ct || q.2.2))))) _ _ _ _
  refine jE.step (fun j=>j=ag d 0) dg.size (fun b ax hn=>fO b ax (fun e=>hn (.inl ⟨id,_,g_,by simp [al,e]⟩))) AR
   (fun k j hj e=>bM.slot k j hj (by rw[e];exact bD)) gl ?_ ?_
  ·intro j oj hj
   by_cases ca:j=ag d 0
   ·subst ca
    have f9:=hj
    simp only[az,if_true,Option.some.injEq] at f9
    subst f9
    refine .inr ⟨?_, ?_, ?_⟩
    ·refine⟨vals++news,aA++mM, ?_, ?_, ?_, ?_⟩
     ·rw[hval]
      have:(r++q.1).length=r.length+m:=by simp [IP]
      rw[this]
      exact f_
     ·exact (da.append aZ.1 jG).mono dg.size (fun b ax=>fO b (kp b ax).2 (fun e=>(kp b ax).1 (.inl ⟨id,_,g_,by simp [al,e]⟩)))
     ·intro b ax hx
      rcases AR b hx with h3 | h3
      ·exact (kp b ax).1 h3
      ·have:=(kp b ax).2
       omega
     ·rw[hval]
      simp [az]
    ·simp only[az,if_true]
     have AX:v'.ownBlock.toList.Nodup:=by cases v'.ownBlock<;>simp
     cases gJ:(u && (aq ct || q.2.2)) with
     | false=>simpa using AX
     | true=>
      have GO:u=true:=by rw[Bool.and_eq_true] at gJ;exact gJ.1
      have Hv:=bu.1
      rw[ky,GO,cond_true,List.nodup_append] at Hv
      obtain⟨_,Hw,IQ⟩:=Hv
      have JI:((aA++mM).flatten).Nodup:=by
       rw[List.flatten_append,List.nodup_append]
       refine⟨Hw,I0 gJ,fun b ax c' gZ DH=> ?_⟩
       subst DH
       obtain⟨y,hy,Bj⟩:=CB gJ b gZ
       obtain⟨_,h3,_⟩:=GI y hy
       have h4:=HM GO b ax
       rw[cW BJ] at h4
       exact hc.sep y.1 id _ _ (BJ y hy) h3 aK b Bj h4
      rw[cond_true,List.nodup_append]
      refine⟨AX,JI,fun b ax c' gZ DH=> ?_⟩
      subst DH
      rcases jC with h3 | h3
      ·rw[h3] at ax
       exact (kp b gZ).1 (.inl ⟨id,_,g_,by simpa [al] using ax⟩)
      ·rw[h3] at ax
       have h4:b=w.heap.size:=by simpa using ax
       have:=(kp b gZ).2
       omega
    ·simp only[az,if_true]
     intro b ax
     rcases List.mem_append.1 ax with ax | ax
     ·rcases Ak b ax with h3 | h3
      ·have:=bu.2 b h3
       exact⟨this.1,by have:=dg.size;omega⟩
      ·subst h3
       refine⟨.inl hR.kept.size,f_.lt _ ax⟩
     ·cases gJ:(u && (aq ct || q.2.2)) with
      | false=>simp [gJ] at ax
      | true=>
       simp only[gJ,cond_true,List.flatten_append,List.mem_append] at ax
       have MF:=dg.size
       rcases ax with ax | ax
       ·have GO:u=true:=by rw[Bool.and_eq_true] at gJ;exact gJ.1
        have:=bu.2 b (HM GO b ax)
        exact⟨this.1,by omega⟩
       ·obtain⟨y,hy,Bj⟩:=CB gJ b ax
        obtain⟨_,h3,_⟩:=GI y hy
        have:=(hc.fresh y.1 _ h3).2 b Bj
        exact⟨this.1,by omega⟩
   ·obtain⟨gx,f9⟩:=jI j oj hj ca
    refine .inl ⟨ca,f9,by simp [az,ca], ?_, ?_⟩
    ·intro k hk e
     rcases dz f9 with h3 | ⟨e',r',rfl,_⟩
     ·exact (bM.obj j oj h3).2 k hk (by rw[e];exact bD)
     ·simp [cC] at hk
    ·intro b ax
     have fE:=ah (jE.ay j oj f9) b ax
     refine fO b ((jE.fresh j oj f9).2 b fE).2 (fun e=> ?_)
     exact jE.sep id j _ _ (Ne.symm gx) g_ f9 b (hJ b e) fE
  ·intro k j ok oj cJ hk hj b ax
   by_cases Ht:k=ag d 0
   ·subst Ht
    have mj:j≠ag d 0:=Ne.symm cJ
    obtain⟨gx,f9⟩:=jI j oj hj mj
    simp only[az,if_true] at ax
    simp only[az,mj,if_false]
    exact BL b ax j oj gx f9
   ·obtain⟨Ah,Cz⟩:=jI k ok hk Ht
    simp only[az,Ht,if_false] at ax
    by_cases ca:j=ag d 0
    ·subst ca
     simp only[az,if_true]
     exact fun h3=>BL b h3 k ok Ah Cz ax
    ·obtain⟨gx,f9⟩:=jI j oj hj ca
     simp only[az,ca,if_false]
     exact jE.sep k j ok oj cJ Cz f9 b ax
 ·rw[fj]
  unfold ak
  exact⟨hval.symm,f_.one⟩
end
end Go.Proofs.YtoaflbnkiobhdaaGreat.Vm
namespace Go.Proofs.YtoaflbnkiobhdaaGreat.Vm
theorem BV:∀(ns:List Int) (l:List UInt8),ns.foldl (fun (r:ByteArray) n=>r.push (UInt8.ofNat n.toNat)) ⟨l.toArray⟩=⟨(l++ns.map (fun n=>UInt8.ofNat n.toNat)).toArray⟩
 | [],l=>by simp
 | n::ns,l=>by
  simp only[List.foldl_cons,List.map_cons]
  have:(⟨l.toArray⟩:ByteArray).push (UInt8.ofNat n.toNat)=⟨(l++[UInt8.ofNat n.toNat]).toArray⟩:=by
   apply ByteArray.ext
   simp [ByteArray.push]
  rw[this,BV ns]
  simp
section
variable {P:Program} {Γ:Ctx} {w0:World} {S:Own} {st:St} {o:Oper} {e:cG} {a:Act} {w:World}
variable {f:Nat→SV} {h:Nat→Option aj} {β:Env} {φ:Nat→List Nat} {tm:Array Value}
theorem A_ {rows:List (List DC)} {v:Value} {fp:List Nat} (hr:bV w (.sl [.int .u8]) (.sl rows) v fp):
  (Conv.bytesToString v).run P w= .ok (.string ⟨(rows.map byteOf).toArray⟩) w:=by
 obtain⟨q,m,c,rfl,hn,_,_,iT⟩:=de hr
 cases q with
 | none=>
  have hm:m=0:=by
   rcases iT with ⟨h0,_⟩ | ⟨_,b,o,aA,h1,_⟩
   ·exact h0
   ·cases h1
  have:rows=[]:=by simpa [hm] using hn
  subst this
  simp [Conv.bytesToString]
  rfl
 | some ad=>
  have IK:(loadCells ad m).run P w= .ok ((rows.map fun r=>(r.headD default).asInt).map (Value.int .u8)).toArray w:=by
   have:=run_loadCells_list (P:=P) (w:=w) ad ((rows.map fun r=>(r.headD default).asInt).map (Value.int .u8)) ?_
   ·simpa [hn] using this
   ·intro j u hj
    rcases iT with ⟨h0,_⟩ | ⟨_,b,o,aA,h1,cm,eB,_,eJ⟩
    ·have:rows=[]:=by simpa [h0] using hn
     subst this
     simp at hj
    ·injection h1 with h1
     subst h1
     rw[dn]
     have Hs:j<rows.length:=by
      have:=(List.getElem?_eq_some_iff.1 hj).1
      simpa using this
     have MT:j<aA.length:=by omega
     have:=eJ j rows[j] aA[j] (by simp) (by simp)
     simp only[a7,bV,List.length_singleton,Nat.mul_one,Nat.add_zero] at this
     obtain⟨d,r',v',f1,f2,e1,e2,⟨n,rfl,rfl,_,_⟩,⟨rfl,_⟩,_⟩:=this
     rw[e2]
     simp only[List.map_map,List.getElem?_map,List.getElem?_eq_getElem Hs,e1,Option.map_some,Option.some.injEq] at hj
     simpa [DC.asInt] using hj
  rw[run_bytesToString w ad m c _ IK]
  have:=BV (rows.map fun r=>(r.headD default).asInt) []
  have e0:ByteArray.empty=⟨([]:List UInt8).toArray⟩:=rfl
  rw[e0,this]
  simp [byteOf,Function.comp_def]
theorem C1 (hR:Rel w0 S st a w) (hd:∀d,o.dst=some d→ba st.n d) (bM:e.ow≠[]→∀d,o.dst=some d→bw st d) {s t:TypeId} {x:Operand} (ho:o.op= .convert s t x) {sx:SV}
  (h1:(b_ x).val st.get st.obj=some sx) (he:(En P o.dst s t sx).val st.get st.obj=some e):Good P w0 S st o e a w:=by
 unfold En at he
 split at he
 ·rename_i k src hk hs
  split at he
  ·rename_i k' n
   simp only[M.aa,Option.some.injEq] at he
   subst he
   refine ao hR hd rfl rfl fun β φ hc=> ?_
   have hx:=hc.ev h1
   simp only[ak] at hx
   refine⟨.int k (k.wrap n), ?_,by unfold ak;exact⟨rfl,ft _ _⟩⟩
   simp [execOp,ho,hx.1,convert,run_underlying hk,run_underlying hs,Conv.intToInt]
  ·simp at he
 ·rename_i hk hs
  split at he
  ·rename_i l
   simp only[M.aa,Option.some.injEq] at he
   subst he
   refine ao hR hd rfl rfl fun β φ hc=> ?_
   have hx:=hc.ev h1
   simp only[ak] at hx
   refine⟨.string ⟨l.toArray⟩, ?_,by unfold ak;exact⟨rfl,hx.2⟩⟩
   simp [execOp,ho,hx.1,convert,run_underlying hk,run_underlying hs]
  ·simp at he
 ·rename_i et hk hs
  split at he
  ·rename_i het
   simp only[M.ae,Option.bind_eq_some_iff,M.aa,Option.some.injEq] at he
   obtain⟨q,hq,rfl⟩:=he
   refine ao hR hd rfl rfl fun β φ hc=> ?_
   obtain⟨fp,j_,_⟩:=jY hc (hc.ev h1) hq
   have bp:=A_ (P:=P) j_
   obtain⟨qa,m,c,hv,hn,AU,hm,_⟩:=de j_
   refine⟨.string ⟨(q.1.map byteOf).toArray⟩, ?_,by unfold ak;exact⟨rfl,by simp;omega⟩⟩
   rw[hv] at bp
   have:=run_convert_bytes_string (P:=P) w s t et qa m c hs het hk
   simp [execOp,ho,hv,this,bp]
  ·simp at he
 ·rename_i et hk hs
  split at he
  ·rename_i l d het aL
   cases hz:aY P et 1
   ·simp [hz] at he
   simp only[hz,cond_true,M.aa,Option.some.injEq] at he
   subst he
   obtain⟨Jx,Jy,Cf⟩:=hR.core
   have hx:=Cf.ev h1
   simp only[ak] at hx
   have hlen:l.length≤9223372036854775807:=by have:=hx.2;simp only[maxLen] at this;omega
   generalize ln:Question.cut (.appendCap l.length 0 et) (w.tape w.drawn (.appendCap l.length 0 et))=cap
   have Iu:l.length≤cap:=by rw[←ln];simp [Question.cut]
   have Iv:cap≤maxLen:=by
    rw[←ln]
    simp only[Question.cut,maxLen]
    have:=Nat.mod_lt (w.tape w.drawn (.appendCap l.length 0 et)) (show 0<2 ^ 63 - l.length by omega)
    omega
   let cells:Array Value:=(l.map fun b=>Value.int .u8 b.toNat).toArray++Array.replicate (cap - l.length) (.int .u8 0)
   have fC:cells.size=cap:=by simp [cells];omega
   have H6:∀b,b<w.heap.size→(World.freeze (w.drew.alloc (.cells cells et)) ⟨w.heap.size,cap,none⟩ 1).heap[b]? =w.heap[b]? :=by
    intro b hb
    simp only[World.freeze,Nat.one_ne_zero,if_false,Array.getElem?_modify]
    rw[if_neg (by omega)]
    exact alloc_old (w:=w.drew) _ b hb
   have bD:(World.freeze (w.drew.alloc (.cells cells et)) ⟨w.heap.size,cap,none⟩ 1).heap[w.heap.size]? =some (.cells cells et (cells.size,cells.size+1)):=by
    simp only[World.freeze,Nat.one_ne_zero,if_false,Array.getElem?_modify,if_true]
    have:=ec (w:=w.drew) (.cells cells et)
    have e1:w.drew.heap.size=w.heap.size:=rfl
    rw[e1] at this
    rw[this]
    simp [fC]
   have BK:(World.freeze (w.drew.alloc (.cells cells et)) ⟨w.heap.size,cap,none⟩ 1).heap.size=w.heap.size+1:=by simp [World.freeze]
   refine ff hR aL (hd d aL) (bM (by simp) d aL) (m:=[]) (fz:=true) (u:=true) (vals:=l.map fun b=>Value.int .u8 b.toNat) (v:= .slice (some ⟨w.heap.size,0,none⟩) l.length cap)
    (w':=World.freeze (w.drew.alloc (.cells cells et)) ⟨w.heap.size,cap,none⟩ 1) ?_ ?_ (by rw[BK];omega) H6 (by simp [Value.ownBlock]) (by simp [bS]) rfl ?_ ?_ rfl rfl rfl
   ·have A0:(w.drew.alloc (.cells cells et)).shape? w.heap.size=some (et,cap):=by
     have:=ec (w:=w.drew) (.cells cells et)
     have e1:w.drew.heap.size=w.heap.size:=rfl
     rw[e1] at this
     unfold World.shape?
     rw[this]
     simp [fC]
    simp only[execOp,ho,hx.1,convert,Sem.run_bind,run_underlying hk,run_underlying hs,run_underlying het,Result.andThen_ok,Conv.stringToBytes,run_choose]
    simp only[Question.forced,Bool.false_eq_true,if_false,Result.andThen_ok,dv,ln,newRow,Sem.run_bind,run_newObj,World.drew_eq,World.alloc_eq]
    have AU:(Array.map (fun b:UInt8=>Value.int IntKind.u8 ↑b.toNat) l.toArray++Array.replicate (cap - l.length) (Value.int IntKind.u8 0))=cells:=by simp [cells]
    rw[AU]
    simp [markStringish,A0]
   ·refine⟨hR.kept.os,hR.kept.tape,hR.kept.output,by rw[BK];have:=hR.kept.size;omega,fun k h2 h3=> ?_⟩
    rw[H6 k (by have:=hR.kept.size;omega)]
    exact hR.kept.block k h2 h3
   ·refine⟨by simp,.inr ⟨w.heap.size,cap,cells,by simp,by simpa using bD,by simpa using Iu,Iv,by simp [fC], ?_⟩⟩
    simp [cells]
   ·intro β φ hc
    refine⟨List.replicate l.length [],⟨by simp,fun i r' f' hi hf=> ?_⟩,by simp,by simp⟩
    have EL:i<l.length:=by
     have:=(List.getElem?_eq_some_iff.1 hi).1
     simpa using this
    have EZ:r'=cP l[i]:=by simpa [EL] using hi.symm
    have Bl:f'=[]:=by
     have:=hf
     rw[List.getElem?_replicate,if_pos EL] at this
     injection this with this
     exact this.symm
    subst EZ Bl
    unfold cP
    simp only[a7,bV]
    refine⟨.int l[i].toNat,[],.int .u8 l[i].toNat,[],[],rfl, ?_,⟨_,rfl,rfl, ?_,rfl⟩,⟨rfl,rfl⟩,rfl⟩
    ·simp [EL]
    ·rw[eC]
     have h1:IntKind.u8.min=0:=by decide
     have h2:IntKind.u8.max=255:=by decide
     have:=l[i].toNat_lt
     omega
  ·simp at he
 ·simp at he
end
end Go.Proofs.YtoaflbnkiobhdaaGreat.Vm
set_option linter.unusedVariables false
set_option linter.unusedSimpArgs false
namespace Go.Proofs.YtoaflbnkiobhdaaGreat.Vm
def FP (w:World) (k:AK) (ds:List DC) (v:Value) (fp:List Nat):Prop:=
 ∃vs:List Value,(bif k.agg then v= .agg vs.toArray else (vs=[v]∧v.oneCell'=true))∧(∀x∈vs,x.oneCell'=true)∧a7 w k.bA ds (fun j=>vs[j]?) fp∧vs.length=k.bA.length
def dm (w:World):List AK→List DC→List Value→List Nat→Prop
 | [],ds,vs,fp=>ds=[]∧vs=[]∧fp=[]
 | k::ks,ds,vs,fp=>∃d1 d2 v cK f1 f2,ds=d1++d2∧vs=v::cK∧FP w k d1 v f1∧dm w ks d2 cK f2∧fp=f1++f2
def di (w:World):List RC→List DC→List Value→List Nat→List Nat→List Nat→Prop
 | [],ds,vs,φ,im,tp=>ds=[]∧vs=[]∧φ=[]∧im=[]∧tp=[]
 | .d_ c::cs,ds,vs,φ,im,tp=>∃d aX v cK f1 E9,ds=d::aX∧vs=v::cK∧bV w c d v f1∧di w cs aX cK φ E9 tp∧im=f1++E9
 | .own t e::cs,ds,vs,φ,im,tp=>∃rows aX v cK vals aA φ' Bh,ds= .sl rows::aX∧vs=v::cK∧ch w t e.length false v rows.length vals∧dK w e rows vals aA∧
   di w cs aX cK φ' im Bh∧φ=(v.ownBlock.toList++aA.flatten)++φ'∧tp=v.ownBlock.toList++Bh
 | .deep t e ts::cs,ds,vs,φ,im,tp=>∃rows aX v cK vals aS φ' Bh,ds= .sl rows::aX∧vs=v::cK∧ch w t e.length false v rows.length vals∧bH w e ts rows vals (fun _=>none) aS∧
   di w cs aX cK φ' im Bh∧φ=(v.ownBlock.toList++aS.flatten)++φ'∧tp=(v.ownBlock.toList++aS.flatten)++Bh
def fl (w:World):List RK→List DC→List Value→List Nat→List Nat→List Nat→Prop
 | [],ds,vs,φ,im,tp=>ds=[]∧vs=[]∧φ=[]∧im=[]∧tp=[]
 | k::ks,ds,vs,φ,im,tp=>∃d1 d2 v cK us DZ Bi i1 i2 t1 t2,ds=d1++d2∧vs=v::cK∧(bif k.agg then v= .agg us.toArray else us=[v])∧(∀x∈us,x.oneCell'=true)∧di w k.cells d1 us DZ i1 t1∧
   fl w ks d2 cK Bi i2 t2∧φ=DZ++Bi∧im=i1++i2∧tp=t1++t2
def pack:List Value→Value
 | [x]=>x
 | l=> .tuple l.toArray
def D9 (P:Program) (g:Nat) (s:Sum):Prop:=
 (∃fn,P.funcs[g]? =some fn∧fn.body.isSome=true∧(fn.name== "runtime.NumGoroutine")=false)∧
 ∀(w:World) (ds:List DC) (vals:List Value) (fp:List Nat),dm w s.ps ds vals fp→(s.fn ds).1=true→
  Calls P g vals.toArray w fun e w'=>∃vs φ im tp,e= .returned (pack vs)∧Kept Own.none w w'∧fl w' s.rs (s.fn ds).2 vs φ im tp∧φ.Nodup∧
   (∀b∈φ,w.heap.size≤b∧b<w'.heap.size)∧∀b∈im,(b∈fp∨w.heap.size≤b)∧b ∉ tp
def df (w:World):List CT→List TypeId→List DC→List Value→List Nat→Prop
 | [],ts,ds,us,mb=>ts=[]∧ds=[]∧us=[]∧mb=[]
 | .sl e::cs,ts,ds,us,mb=>∃t dJ rows aX v aM vals aA ga,ts=t::dJ∧ds= .sl rows::aX∧us=v::aM∧aq e=true∧ch w t e.length false v rows.length vals∧dK w e rows vals aA∧
   df w cs dJ aX aM ga∧mb=v.ownBlock.toList++ga
 | c::cs,ts,ds,us,mb=>∃d aX v aM,ds=d::aX∧us=v::aM∧bV w c d v []∧df w cs ts aX aM mb
def gN (w:World) (t:TT) (e:List CT) (rows:List (List DC)) (v:Value) (mb:List Nat):Prop:=
 match t with
 | .flat t=>aq e=true∧∃vals aA,ch w t e.length false v rows.length vals∧dK w e rows vals aA∧mb=v.ownBlock.toList
 | .deep t its=>∃vals aS,ch w t e.length false v rows.length vals∧bH w e its rows vals (fun _=>none) aS∧mb=v.ownBlock.toList++aS.flatten
def aR (w:World):List CT→List TT→List DC→List Value→List Nat→Prop
 | [],ts,ds,us,mb=>ts=[]∧ds=[]∧us=[]∧mb=[]
 | .sl e::cs,ts,ds,us,mb=>∃t dJ rows aX v aM m1 ga,ts=t::dJ∧ds= .sl rows::aX∧us=v::aM∧gN w t e rows v m1∧aR w cs dJ aX aM ga∧mb=m1++ga
 | c::cs,ts,ds,us,mb=>∃d aX v aM,ds=d::aX∧us=v::aM∧bV w c d v []∧aR w cs ts aX aM mb
def iW (w:World):List CT→List TT→List DC→List Value→List Nat→Prop
 | [],_,ds,us,mb=>ds=[]∧us=[]∧mb=[]
 | .sl e::cs,ts,ds,us,mb=>∃t dJ rows aX v aM m1 ga,ts=t::dJ∧ds= .sl rows::aX∧us=v::aM∧gN w t e rows v m1∧iW w cs dJ aX aM ga∧mb=m1++ga
 | _::cs,ts,ds,us,mb=>∃v aM,us=v::aM∧iW w cs ts ds aM mb
def gm (w:World) (k:AK):Option MK→List DC→Value→List Nat→List Nat→Prop
 | none,d,v,f,b=>FP w k d v f∧b=[]
 | some (.box t),d,v,f,b=>∃(g:Nat) (us:List Value),v= .pointer (some ⟨g,0,none⟩)∧w.heap[g]? =some (.cells us.toArray t (0,0))∧(∀x∈us,x.oneCell'=true)∧a7 w k.bA d (fun j=>us[j]?) f∧us.length=k.bA.length∧b=[g]
 | some (.rows ts),d,v,f,b=>∃us:List Value,(bif k.agg then v= .agg us.toArray else (us=[v]∧v.oneCell'=true))∧(∀x∈us,x.oneCell'=true)∧aR w k.bA ts d us b∧f=[]
 | some (.jz ts),d,v,f,b=>∃us:List Value,(bif k.agg then v= .agg us.toArray else (us=[v]∧v.oneCell'=true))∧(∀x∈us,x.oneCell'=true)∧aR w k.bA ts d us b∧f=[]
 | some (.cI t ts),d,v,f,b=>∃(g:Nat) (us:List Value) (m:List Nat),v= .pointer (some ⟨g,0,none⟩)∧w.heap[g]? =some (.cells us.toArray t (0,0))∧(∀x∈us,x.oneCell'=true)∧aR w k.bA ts d us m∧b=g::m∧f=[]
def cH (w:World):List AK→List (Option MK)→List DC→List Value→List Nat→List Nat→Prop
 | [],ms,ds,vs,fp,mb=>ms=[]∧ds=[]∧vs=[]∧fp=[]∧mb=[]
 | k::ks,ms,ds,vs,fp,mb=>∃m D6 d1 d2 v cK f1 f2 b1 b2,ms=m::D6∧ds=d1++d2∧vs=v::cK∧gm w k m d1 v f1 b1∧cH w ks D6 d2 cK f2 b2∧fp=f1++f2∧mb=b1++b2
def DA (w:World) (k:AK):Option MK→List DC→Value→List Nat→List Nat→Prop
 | none,d,_,im,b=>d=[]∧im=[]∧b=[]
 | some (.box t),d,v,im,b=>∃(g:Nat) (us:List Value),v= .pointer (some ⟨g,0,none⟩)∧w.heap[g]? =some (.cells us.toArray t (0,0))∧(∀x∈us,x.oneCell'=true)∧a7 w k.bA d (fun j=>us[j]?) im∧us.length=k.bA.length∧b=[g]
 | some (.rows ts),d,v,im,b=>∃us:List Value,(bif k.agg then v= .agg us.toArray else us=[v])∧iW w k.bA ts d us b∧im=[]
 | some (.jz _),d,_,im,b=>d=[]∧im=[]∧b=[]
 | some (.cI t ts),d,v,im,b=>∃(g:Nat) (us:List Value) (m:List Nat),v= .pointer (some ⟨g,0,none⟩)∧w.heap[g]? =some (.cells us.toArray t (0,0))∧(∀x∈us,x.oneCell'=true)∧aR w k.bA ts d us m∧b=g::m∧im=[]
def lO (w:World):List AK→List (Option MK)→List DC→List Value→List Nat→List Nat→Prop
 | [],_,ds,vs,im,mb=>ds=[]∧vs=[]∧im=[]∧mb=[]
 | k::ks,ms,ds,vs,im,mb=>∃m D6 d1 d2 v cK i1 i2 b1 b2,ms=m::D6∧ds=d1++d2∧vs=v::cK∧DA w k m d1 v i1 b1∧lO w ks D6 d2 cK i2 b2∧im=i1++i2∧mb=b1++b2
def Cl (P:Program) (g:Nat) (s:Sum):Prop:=
 (∃fn,P.funcs[g]? =some fn∧fn.body.isSome=true∧(fn.name== "runtime.NumGoroutine")=false)∧
 ∀(w:World) (ds:List DC) (vals:List Value) (fp mb:List Nat),cH w s.ps s.ms ds vals fp mb→mb.Nodup→(∀b∈mb,b ∉ fp)→(s.fn ds).1=true→
  Calls P g vals.toArray w fun e w'=>∃vs φ im tp mI rd od ψ,e= .returned (pack vs)∧(s.fn ds).2=rd++od∧rd.length=cg s.rs∧Kept ⟨fun b=>b∈mb,fun _=>False,[]⟩ w w'∧fl w' s.rs rd vs φ im tp∧φ.Nodup∧
   (∀b∈φ,(b∈mb∨w.heap.size≤b)∧b<w'.heap.size)∧lO w' s.ps s.ms od vals mI ψ∧ψ.Nodup∧(∀b∈ψ,(b∈mb∨w.heap.size≤b)∧b<w'.heap.size∧b ∉ φ)∧∀b∈mI,(b∈fp∨w.heap.size≤b)∧b ∉ tp∧b ∉ ψ∧eY s.ms=false
def G2 (P:Program) (g:Nat) (s:Sum) (t:TypeId) (bA:List CT):Prop:=
 (∃fn,P.funcs[g]? =some fn∧fn.body.isSome=true∧(fn.name== "runtime.NumGoroutine")=false)∧
 ∀(w:World) (ds:List DC) (vals:List Value) (fp:List Nat),dm w s.ps ds vals fp→(s.fn ds).1=true→
  Calls P g vals.toArray w fun e w'=>∃(b:Nat) (us:List Value) (im:List Nat),e= .returned (.pointer (some ⟨b,0,none⟩))∧Kept Own.none w w'∧w.heap.size≤b∧b<w'.heap.size∧
   w'.heap[b]? =some (.cells us.toArray t (0,0))∧(∀x∈us,x.oneCell'=true)∧a7 w' bA (s.fn ds).2 (fun j=>us[j]?) im∧us.length=bA.length∧∀x∈im,(x∈fp∨w.heap.size≤x)∧x≠b
def gO (P:Program) (g:Nat) (s:Sum):Prop:=
 bif s.G4 then True else
 match s.pt with
 | some (t,bA)=>G2 P g s t bA
 | none=>
  match s.ms with
  | []=>D9 P g s
  | _::_=>Cl P g s
def bE (P:Program) (Γ:Ctx):Prop:=∀g s,Gc Γ g=some s→gO P g s
section
variable {P:Program} {Γ:Ctx} {w0:World} {S:Own} {st:St} {o:Oper} {e:cG} {a:Act} {w:World}
variable {f:Nat→SV} {h:Nat→Option aj} {β:Env} {φ:Nat→List Nat} {tm:Array Value}
theorem lS (hc:Core w0 S f h β φ tm w):∀(ks:List AK) (ss:List SV) (vs:List Value) (q:List DC×eZ),af w (Av h β) β ss vs→(js ks ss).val f h=some q→
  ∃fp,dm w ks q.1 vs fp∧bS h q.2∧∀b∈fp,(¬Av h β b)∨∃x∈q.2,b∈eX h β x.1
 | [],[],vs,q,hs,hq=>by
  simp only[js,M.aa,Option.some.injEq] at hq
  subst hq
  simp only[af] at hs
  exact⟨[],⟨rfl,hs,rfl⟩,by simp [bS],by simp⟩
 | [],_::_,vs,q,hs,hq=>by simp [js] at hq
 | _::_,[],vs,q,hs,hq=>by simp [js] at hq
 | k::ks,s::ss,vs,q,hs,hq=>by
  simp only[af] at hs
  obtain⟨v,l,rfl,h1,h2⟩:=hs
  simp only[js,M.ae,Option.bind_eq_some_iff,M.aa,Option.some.injEq] at hq
  obtain⟨q1,aG,q2,cv,rfl⟩:=hq
  obtain⟨gv,DG,Dj,iO⟩:=lS hc ks ss l q2 h2 cv
  have one:∃lF,FP w k q1.1 v lF∧bS h q1.2.1∧∀b∈lF,(¬Av h β b)∨∃x∈q1.2.1,b∈eX h β x.1:=by
   cases hk:k.agg with
   | true=>
    cases s with
    | agg cs=>
     simp only[hk] at aG
     simp only[ak] at h1
     obtain⟨us,rfl,gk,bb⟩:=h1
     obtain⟨lF,hr,hm,cO,_⟩:=dZ hc k.bA cs us q1 gk aG
     have hl:=af.length _ _ gk
     have j9:=cD _ _ _ aG
     exact⟨lF,⟨us,by rw[hk];rfl,bb,hr,by omega⟩,hm,cO⟩
    | _=>simp [hk] at aG
   | false=>
    have lv:(cb k.bA [s]).val f h=some q1:=by
     cases s<;>simp only[hk] at aG<;>first | exact aG | (simp at aG)
    have hO:af w (Av h β) β [s] [v]:=by simp only[af];exact⟨v,[],rfl,h1,rfl⟩
    obtain⟨lF,hr,hm,cO,_⟩:=dZ hc k.bA [s] [v] q1 hO lv
    have j9:=cD _ _ _ lv
    have bb:v.oneCell'=true:=by
     cases EF:k.bA with
     | nil=>rw[EF] at j9;simp at j9
     | cons c cs=>
      rw[EF] at hr
      simp only[a7] at hr
      obtain⟨d,r',v',f1,f2,_,h0,h3,_⟩:=hr
      simp at h0
      subst h0
      exact h3.one
    exact⟨lF,⟨[v],by rw[hk];exact⟨rfl,bb⟩,by simpa using bb,hr,by simpa using j9⟩,hm,cO⟩
  obtain⟨lF,Gx,F1,jB⟩:=one
  refine⟨lF++gv,⟨q1.1,q2.1,v,l,lF,gv,rfl,rfl,Gx,DG,rfl⟩,fe F1 Dj, ?_⟩
  intro b hb
  rcases List.mem_append.1 hb with hb | hb
  ·rcases jB b hb with h3 | ⟨x,hx,h3⟩
   ·exact .inl h3
   ·exact .inr ⟨x,List.mem_append_left _ hx,h3⟩
  ·rcases iO b hb with h3 | ⟨x,hx,h3⟩
   ·exact .inl h3
   ·exact .inr ⟨x,List.mem_append_right _ hx,h3⟩
structure ar where
 id:Nat
 t:TypeId
 e:List CT
 rows:List (List DC)
 v:Value
 aA:List (List Nat)
 ts:Option (List TypeId)
def ar.obj (x:ar):aj:=
 match x.ts with
 | none=> .row x.t x.e x.rows false true
 | some ts=> .deep x.t x.e ts x.rows none
def ar.bB (x:ar):List Nat:=x.v.ownBlock.toList++x.aA.flatten
def ar.al (x:ar):List Nat:=
 match x.ts with
 | none=>x.v.ownBlock.toList
 | some _=>x.bB
def ar.ok (w:World) (x:ar):Prop:=
 match x.ts with
 | none=>∃vals,ch w x.t x.e.length false x.v x.rows.length vals∧dK w x.e x.rows vals x.aA
 | some ts=>∃vals,ch w x.t x.e.length false x.v x.rows.length vals∧bH w x.e ts x.rows vals (fun _=>none) x.aA
theorem ar.ah (x:ar):∀b∈x.al,b∈x.bB:=by
 intro b hb
 unfold ar.al at hb
 split at hb
 ·exact List.mem_append_left _ hb
 ·exact hb
theorem ar.iN (x:ar) {β:Env} (hv:β.val x.id=x.v) (hn:β.nb x.id=x.aA.flatten):Vm.al β x.id x.obj=x.al:=by
 unfold ar.obj ar.al
 cases x.ts with
 | none=>simp [Vm.al,hv]
 | some ts=>simp [Vm.al,hv,hn,ar.bB]
theorem ar.ids (x:ar):cC x.obj=[]:=by
 unfold ar.obj
 cases x.ts<;>rfl
theorem ar.Jt {w:World} {x:ar} (h:x.ok w) {av:Nat→Prop} {β:Env} (hv:β.val x.id=x.v) (hn:β.nb x.id=x.aA.flatten) (ha:∀b∈x.aA.flatten,b ∉ x.al→¬av b) (hd:x.bB.Nodup):fV w av β x.id x.obj x.bB:=by
 unfold ar.ok at h
 unfold ar.obj
 cases FJ:x.ts with
 | none=>
  rw[FJ] at h
  obtain⟨vals,h1,h2⟩:=h
  refine⟨vals,x.aA,by rw[hv];exact h1,h2,fun b hb=>ha b hb ?_,by rw[hv];rfl⟩
  unfold ar.al
  rw[FJ]
  intro ax
  unfold ar.bB at hd
  rw[List.nodup_append] at hd
  exact hd.2.2 b ax b hb rfl
 | some ts=>
  rw[FJ] at h
  obtain⟨vals,h1,h2⟩:=h
  exact⟨vals,x.aA,by rw[hv];exact h1,h2,hn,by rw[hv];rfl⟩
def fD:List ar→Nat→Option ar
 | [],_=>none
 | x::l,i=>if i=x.id then some x else fD l i
theorem bd {N:List ar} {j:Nat} {x:ar} (h:fD N j=some x):x∈N∧x.id=j:=by
 induction N with
 | nil=>simp [fD] at h
 | cons y l ih=>
  simp only[fD] at h
  split at h
  ·rename_i hj
   injection h with h
   subst h
   exact⟨List.mem_cons_self ..,hj.symm⟩
  ·obtain⟨h1,h2⟩:=ih h
   exact⟨List.mem_cons_of_mem _ h1,h2⟩
theorem mo {N:List ar} {x:ar} (hx:x∈N) (hn:(N.map (·.id)).Nodup):fD N x.id=some x:=by
 induction N with
 | nil=>simp at hx
 | cons y l ih=>
  simp only[List.map_cons,List.nodup_cons] at hn
  simp only[fD]
  rcases List.mem_cons.1 hx with rfl | hx
  ·simp
  ·have:x.id≠y.id:=fun e=>hn.1 (e ▸ List.mem_map_of_mem hx)
   rw[if_neg this]
   exact ih hx hn.2
def cR (N:List ar):List (Nat×Option aj):=N.map fun x=>(x.id,some x.obj)
theorem AP (N:List ar) (l:List (Nat×Option aj)) (j:Nat):fo (cR N++l) h j=match fD N j with | some x=>some x.obj | none=>fo l h j:=by
 induction N with
 | nil=>rfl
 | cons y N ih=>
  simp only[cR,List.map_cons,List.cons_append,fo,az,fD]
  split
  ·rfl
  ·exact ih
def Env.fR (β:Env) (N:List ar):Env:=⟨β.cT,fun j=>match fD N j with | some x=>x.v | none=>β.val j,β.gH,fun j=>match fD N j with | some x=>x.aA.flatten | none=>β.nb j⟩
theorem cU {N:List ar} (h:(N.flatMap ar.bB).Nodup):(∀x∈N,x.bB.Nodup)∧∀x∈N,∀y∈N,x≠y→∀b∈x.bB,b ∉ y.bB:=by
 induction N with
 | nil=>simp
 | cons z l ih=>
  rw[List.flatMap_cons,List.nodup_append] at h
  obtain⟨h1,h2,h3⟩:=h
  obtain⟨i1,i2⟩:=ih h2
  refine⟨fun x hx=> ?_,fun x hx y hy Am b hb ax=> ?_⟩
  ·rcases List.mem_cons.1 hx with rfl | hx
   ·exact h1
   ·exact i1 x hx
  ·rcases List.mem_cons.1 hx with BO | BO<;>rcases List.mem_cons.1 hy with BP | BP
   ·exact Am (BO.trans BP.symm)
   ·subst BO
    exact h3 b hb b (List.mem_flatMap.2 ⟨y,BP,ax⟩) rfl
   ·subst BP
    exact h3 b ax b (List.mem_flatMap.2 ⟨x,BO,hb⟩) rfl
   ·exact i2 x BO y BP Am b hb ax
theorem Core.FR (hc:Core w0 S f h β φ tm w) {w':World} {N:List ar} (hs:w.heap.size≤w'.heap.size) (hw:∀b,b<w.heap.size→w'.heap[b]? =w.heap[b]?) (hk:w0.heap.size≤w.heap.size)
  (bu:∀x∈N,h x.id=none∧(∀i,x.id ∉ bU (f i))∧∀k o,h k=some o→x.id ∉ cC o) (aJ:∀x∈N,ar.ok w' x) (dR:(N.map (·.id)).Nodup)
  (hnd:(N.flatMap ar.bB).Nodup) (mH:∀b∈N.flatMap ar.bB,w.heap.size≤b∧b<w'.heap.size):
  Core w0 S f (fun j=>match fD N j with | some x=>some x.obj | none=>h j) (β.fR N) (fun j=>match fD N j with | some x=>x.bB | none=>φ j) tm w':=by
 have ep:∀x∈N,∀b∈x.bB,b∈N.flatMap ar.bB:=fun x hx b hb=>List.mem_flatMap.2 ⟨x,hx,hb⟩
 have lI:∀j oj,fD N j=none→al (β.fR N) j oj=al β j oj:=by
  intro j oj hj
  cases oj<;>simp [al,Env.fR,hj]
 have jL:∀j x,fD N j=some x→al (β.fR N) j x.obj=x.al:=by
  intro j x hj
  obtain⟨_,rfl⟩:=bd hj
  exact x.iN (by simp [Env.fR,hj]) (by simp [Env.fR,hj])
 have JK:∀b,Av (fun j=>match fD N j with | some x=>some x.obj | none=>h j) (β.fR N) b→Av h β b∨(w.heap.size≤b∧∃x∈N,b∈x.al):=by
  rintro b (⟨j,oj,hj,bo⟩ | hb)
  case inr=>exact .inl (.inr hb)
  cases hl:fD N j with
  | none=>
   simp only[hl] at hj
   rw[lI j oj hl] at bo
   exact .inl (.inl ⟨j,oj,hj,bo⟩)
  | some x=>
   simp only[hl,Option.some.injEq] at hj
   subst hj
   rw[jL j x hl] at bo
   have hx:=(bd hl).1
   exact .inr ⟨(mH b (ep x hx b (x.ah b bo))).1,x,hx,bo⟩
 refine hc.mE (fun j=>(fD N j).isSome=true) hs (fun b hb _=>hw b hb) (fun b hb=>(JK b hb).imp id (·.1)) ?_ ?_ ?_ ?_
 ·intro i j hj hx
  obtain⟨x,hx⟩:=Option.isSome_iff_exists.1 hx
  obtain⟨hm,rfl⟩:=bd hx
  exact (bu x hm).2.1 i hj
 ·intro j hj
  have:fD N j=none:=by simpa using hj
  simp [Env.fR,this]
 ·intro j oj hj
  cases hl:fD N j with
  | none=>
   simp only[hl] at hj
   refine .inl ⟨by simp [hl],hj,by simp [Env.fR,hl],by simp, ?_,fun b hb=>hw b ?_⟩
   ·intro i hi hx
    obtain⟨x,hx⟩:=Option.isSome_iff_exists.1 hx
    obtain⟨hm,rfl⟩:=bd hx
    exact (bu x hm).2.2 j oj hj hi
   ·exact ((hc.fresh j oj hj).2 b (ah (hc.ay j oj hj) b hb)).2
  | some x=>
   simp only[hl,Option.some.injEq] at hj
   subst hj
   obtain⟨hm,rfl⟩:=bd hl
   refine .inr ⟨ar.Jt (aJ x hm) (by simp [Env.fR,hl]) (by simp [Env.fR,hl]) ?_ ((cU hnd).1 x hm), ?_, ?_⟩
   ·intro b hb GK hx
    have fE:b∈x.bB:=List.mem_append_right _ hb
    have mN:=(mH b (ep x hm b fE)).1
    rcases JK b hx with Cj | ⟨_,y,hy,Bj⟩
    ·have:=hc.Ia hk Cj
     omega
    ·by_cases Am:y=x
     ·subst Am
      exact GK Bj
     ·exact (cU hnd).2 y hy x hm Am b (y.ah b Bj) fE
   ·exact (cU hnd).1 x hm
   ·intro b hb
    have:=mH b (ep x hm b hb)
    exact⟨.inl (by omega),this.2⟩
 ·intro i j oi oj cJ hi hj b hb
  cases JM:fD N i with
  | none=>
   simp only[JM] at hi hb
   cases DK:fD N j with
   | none=>
    simp only[DK] at hj ⊢
    exact hc.sep i j oi oj cJ hi hj b hb
   | some y=>
    simp only
    intro Bj
    have:=(mH b (ep y (bd DK).1 b Bj)).1
    have:=((hc.fresh i oi hi).2 b hb).2
    omega
  | some x=>
   simp only[JM] at hi hb
   have Jh:=(bd JM).1
   cases DK:fD N j with
   | none=>
    simp only[DK] at hj ⊢
    intro bo
    have:=(mH b (ep x Jh b hb)).1
    have:=((hc.fresh j oj hj).2 b bo).2
    omega
   | some y=>
    simp only
    intro Bj
    have JU:=(bd DK).1
    have Am:x≠y:=by
     rintro rfl
     exact cJ ((bd JM).2.symm.trans (bd DK).2)
    exact (cU hnd).2 x Jh y JU Am b hb Bj
structure fM where
 id:Nat
 obj:aj
 nb:List Nat
 bB:List Nat
def mq:List fM→Nat→Option fM
 | [],_=>none
 | x::l,i=>if i=x.id then some x else mq l i
theorem db {U:List fM} {j:Nat} {x:fM} (h:mq U j=some x):x∈U∧x.id=j:=by
 induction U with
 | nil=>simp [mq] at h
 | cons y l ih=>
  simp only[mq] at h
  split at h
  ·rename_i hj
   injection h with h
   subst h
   exact⟨List.mem_cons_self ..,hj.symm⟩
  ·obtain⟨h1,h2⟩:=ih h
   exact⟨List.mem_cons_of_mem _ h1,h2⟩
theorem Fk {U:List fM} {x:fM} (hx:x∈U):∃y,mq U x.id=some y:=by
 induction U with
 | nil=>simp at hx
 | cons y l ih=>
  simp only[mq]
  split
  ·exact⟨_,rfl⟩
  ·rename_i cJ
   rcases List.mem_cons.1 hx with rfl | hx
   ·exact absurd rfl cJ
   ·exact ih hx
theorem lg {U:List fM} (h:(U.flatMap fM.bB).Nodup):(∀x∈U,x.bB.Nodup)∧∀x∈U,∀y∈U,x.id≠y.id→∀b∈x.bB,b ∉ y.bB:=by
 induction U with
 | nil=>simp
 | cons z l ih=>
  rw[List.flatMap_cons,List.nodup_append] at h
  obtain⟨h1,h2,h3⟩:=h
  obtain⟨i1,i2⟩:=ih h2
  refine⟨fun x hx=> ?_,fun x hx y hy Am b hb ax=> ?_⟩
  ·rcases List.mem_cons.1 hx with rfl | hx
   ·exact h1
   ·exact i1 x hx
  ·rcases List.mem_cons.1 hx with BO | BO<;>rcases List.mem_cons.1 hy with BP | BP
   ·exact Am (by rw[BO,BP])
   ·subst BO
    exact h3 b hb b (List.mem_flatMap.2 ⟨y,BP,ax⟩) rfl
   ·subst BP
    exact h3 b ax b (List.mem_flatMap.2 ⟨x,BO,hb⟩) rfl
   ·exact i2 x BO y BP Am b hb ax
def Env.bY (β:Env) (N:List ar) (U:List fM):Env:=
 ⟨β.cT,fun j=>match fD N j with | some x=>x.v | none=>β.val j,β.gH,fun j=>match fD N j with | some x=>x.aA.flatten | none=>match mq U j with | some x=>x.nb | none=>β.nb j⟩
def lj (N:List ar) (U:List fM) (D:List Nat) (h:Nat→Option aj) (j:Nat):Option aj:=
 match fD N j with | some x=>some x.obj | none=>match mq U j with | some x=>some x.obj | none=>if j∈D then none else h j
def gQ (N:List ar) (U:List fM) (φ:Nat→List Nat) (j:Nat):List Nat:=
 match fD N j with | some x=>x.bB | none=>match mq U j with | some x=>x.bB | none=>φ j
theorem Core.J2 (hc:Core w0 S f h β φ tm w) {w':World} {N:List ar} {U:List fM} {D im mb:List Nat} (hs:w.heap.size≤w'.heap.size) (hk:w0.heap.size≤w.heap.size)
  (GH:∀b∈mb,∃i,((∃x∈U,x.id=i)∨i∈D)∧∃o,h i=some o∧b∈al β i o)
  (hw:∀b,b<w.heap.size→b ∉ mb→w'.heap[b]? =w.heap[b]?)
  (hU:∀x∈U,∃o,h x.id=some o)
  (L8:∀x∈U,∀(av:Nat→Prop) (β':Env),β'.val x.id=β.val x.id→β'.cT x.id=β.cT x.id→β'.nb x.id=x.nb→(∀y∈N,β'.val y.id=y.v)→(∀b∈im,¬av b)→fV w' av β' x.id x.obj x.bB)
  (Lu:(U.flatMap fM.bB).Nodup) (He:∀b∈U.flatMap fM.bB,(b∈mb∨w.heap.size≤b)∧b<w'.heap.size∧b ∉ N.flatMap ar.bB)
  (ko:∀b∈im,¬Av (lj N U D h) (β.bY N U) b) (mS:(N.map (·.id)).Nodup)
  (bu:∀x∈N,h x.id=none∧(∀i,x.id ∉ bU (f i))∧∀k o,h k=some o→x.id ∉ cC o) (aJ:∀x∈N,ar.ok w' x)
  (hnd:(N.flatMap ar.bB).Nodup) (mH:∀b∈N.flatMap ar.bB,(b∈mb∨w.heap.size≤b)∧b<w'.heap.size):
  Core w0 S f (lj N U D h) (β.bY N U) (gQ N U φ) tm w':=by
 have ep:∀x∈N,∀b∈x.bB,b∈N.flatMap ar.bB:=fun x hx b hb=>List.mem_flatMap.2 ⟨x,hx,hb⟩
 have CG:∀x∈U,∀b∈x.bB,b∈U.flatMap fM.bB:=fun x hx b hb=>List.mem_flatMap.2 ⟨x,hx,hb⟩
 have MS:∀x∈U,fD N x.id=none:=by
  intro x hx
  cases hl:fD N x.id with
  | none=>rfl
  | some y=>
   obtain⟨hm,he⟩:=bd hl
   obtain⟨o,ho⟩:=hU x hx
   have:=(bu y hm).1
   rw[he,ho] at this
   cases this
 have lI:∀j oj,fD N j=none→mq U j=none→al (β.bY N U) j oj=al β j oj:=by
  intro j oj hj hu
  cases oj<;>simp [al,Env.bY,hj,hu]
 have jL:∀j x,fD N j=some x→al (β.bY N U) j x.obj=x.al:=by
  intro j x hj
  obtain⟨_,rfl⟩:=bd hj
  exact x.iN (by simp [Env.bY,hj]) (by simp [Env.bY,hj])
 have EY:∀j x,fD N j=none→mq U j=some x→fV w' (Av (lj N U D h) (β.bY N U)) (β.bY N U) j x.obj x.bB:=by
  intro j x hl hu
  obtain⟨hm,rfl⟩:=db hu
  exact L8 x hm _ _ (by simp [Env.bY,hl]) rfl (by simp [Env.bY,hl,hu]) (fun y hy=>by simp [Env.bY,mo hy mS]) ko
 have EU:∀b∈mb,Av h β b:=by
  intro b hb
  obtain⟨i,_,o,ho,It⟩:=GH b hb
  exact .inl ⟨i,o,ho,It⟩
 have CA:∀b∈mb,∃i o,h i=some o∧b∈φ i:=by
  intro b hb
  obtain⟨i,_,o,ho,It⟩:=GH b hb
  exact⟨i,o,ho,Vm.ah (hc.ay _ _ ho) b It⟩
 have JK:∀b,Av (lj N U D h) (β.bY N U) b→Av h β b∨w.heap.size≤b:=by
  rintro b (⟨j,oj,hj,bo⟩ | hb)
  case inr=>exact .inl (.inr hb)
  unfold lj at hj
  cases hl:fD N j with
  | none=>
   simp only[hl] at hj
   cases hu:mq U j with
   | none=>
    simp only[hu] at hj
    split at hj
    ·cases hj
    rw[lI j oj hl hu] at bo
    exact .inl (.inl ⟨j,oj,hj,bo⟩)
   | some x=>
    simp only[hu,Option.some.injEq] at hj
    subst hj
    have h1:=Vm.ah (EY j x hl hu) b bo
    rcases (He b (CG x (db hu).1 b h1)).1 with h2 | h2
    ·exact .inl (EU b h2)
    ·exact .inr h2
  | some x=>
   simp only[hl,Option.some.injEq] at hj
   subst hj
   rw[jL j x hl] at bo
   have hx:=(bd hl).1
   rcases (mH b (ep x hx b (x.ah b bo))).1 with h2 | h2
   ·exact .inl (EU b h2)
   ·exact .inr h2
 have Fx:∀j oj,h j=some oj→(∀x∈U,x.id≠j)→j ∉ D→∀b∈φ j,b ∉ mb:=by
  intro j oj hj cJ hnd b hb Is
  obtain⟨i,hi,o,ho,It⟩:=GH b Is
  refine hc.sep i j o oj (fun e=> ?_) ho hj b (Vm.ah (hc.ay _ _ ho) b It) hb
  rcases hi with ⟨x,hx,MM⟩ | hi
  ·exact cJ x hx (MM.trans e)
  ·exact hnd (e ▸ hi)
 have I9:∀b,(b∈mb∨w.heap.size≤b)→¬β.gH b:=by
  intro b hb fa
  rcases hb with hb | hb
  ·obtain⟨i,o,ho,me⟩:=CA b hb
   exact hc.A8 ho me fa
  ·have:=(hc.gH b fa).1
   omega
 have ER:∀j oj,mq U j=none→(if j∈D then none else h j)=some oj→h j=some oj∧j ∉ D:=by
  intro j oj _ hj
  split at hj
  ·cases hj
  ·exact⟨hj,by assumption⟩
 have Js:∀j,mq U j=none→∀x∈U,x.id≠j:=by
  intro j hu x hx he
  obtain⟨y,hy⟩:=Fk hx
  rw[he,hu] at hy
  cases hy
 refine hc.mE (fun j=>(fD N j).isSome=true) hs ?_ JK ?_ ?_ ?_ ?_
 ·intro b hb hn
  exact hw b hb (fun Is=>hn (EU b Is))
 ·intro i j hj hx
  obtain⟨x,hx⟩:=Option.isSome_iff_exists.1 hx
  obtain⟨hm,rfl⟩:=bd hx
  exact (bu x hm).2.1 i hj
 ·intro j hj
  have:fD N j=none:=by simpa using hj
  simp [Env.bY,this]
 ·intro j oj hj
  unfold lj at hj
  cases hl:fD N j with
  | none=>
   simp only[hl] at hj
   cases hu:mq U j with
   | none=>
    simp only[hu] at hj
    obtain⟨hj,IG⟩:=ER j oj hu hj
    refine .inl ⟨by simp [hl],hj,by simp [Env.bY,hl,hu],by simp [gQ,hl,hu], ?_,fun b hb=> ?_⟩
    ·intro i hi hx
     obtain⟨x,hx⟩:=Option.isSome_iff_exists.1 hx
     obtain⟨hm,rfl⟩:=bd hx
     exact (bu x hm).2.2 j oj hj hi
    ·have fE:=Vm.ah (hc.ay j oj hj) b hb
     exact hw b ((hc.fresh j oj hj).2 b fE).2 (Fx j oj hj (Js j hu) IG b fE)
   | some x=>
    simp only[hu,Option.some.injEq] at hj
    subst hj
    have hm:=(db hu).1
    refine .inr ⟨by simpa only[gQ,hl,hu] using EY j x hl hu,by simpa only[gQ,hl,hu] using (lg Lu).1 x hm, ?_⟩
    simp only[gQ,hl,hu]
    intro b hb
    obtain⟨h1,h2,_⟩:=He b (CG x hm b hb)
    refine⟨?_,h2⟩
    rcases h1 with h1 | h1
    ·obtain⟨i,o,ho,me⟩:=CA b h1
     exact ((hc.fresh _ _ ho).2 b me).1
    ·exact .inl (by omega)
  | some x=>
   simp only[hl,Option.some.injEq] at hj
   subst hj
   obtain⟨hm,rfl⟩:=bd hl
   refine .inr ⟨?_, ?_, ?_⟩
   ·simp only[gQ,hl]
    refine ar.Jt (aJ x hm) (by simp [Env.bY,hl]) (by simp [Env.bY,hl]) ?_ ((cU hnd).1 x hm)
    rintro b hb GK hx
    have fE:b∈x.bB:=List.mem_append_right _ hb
    have Hf:=ep x hm b fE
    have mN:=(mH b Hf).1
    rcases hx with ⟨j,oj,hj,bo⟩ | fa
    case inr=>exact I9 b mN fa
    unfold lj at hj
    cases DK:fD N j with
    | some y=>
     simp only[DK,Option.some.injEq] at hj
     subst hj
     rw[jL j y DK] at bo
     have hy:=(bd DK).1
     by_cases Am:y=x
     ·subst Am
      exact GK bo
     ·exact (cU hnd).2 y hy x hm Am b (y.ah b bo) fE
    | none=>
     simp only[DK] at hj
     cases hu:mq U j with
     | some y=>
      simp only[hu,Option.some.injEq] at hj
      subst hj
      have h1:=Vm.ah (EY j y DK hu) b bo
      exact (He b (CG y (db hu).1 b h1)).2.2 Hf
     | none=>
      simp only[hu] at hj
      obtain⟨hj,IG⟩:=ER j oj hu hj
      rw[lI j oj DK hu] at bo
      have mO:=Vm.ah (hc.ay j oj hj) b bo
      rcases mN with mN | mN
      ·exact Fx j oj hj (Js j hu) IG b mO mN
      ·have:=((hc.fresh j oj hj).2 b mO).2
       omega
   ·simp only[gQ,hl]
    exact (cU hnd).1 x hm
   ·simp only[gQ,hl]
    intro b hb
    have:=mH b (ep x hm b hb)
    refine⟨?_,this.2⟩
    rcases this.1 with h1 | h1
    ·obtain⟨i,o,ho,me⟩:=CA b h1
     exact ((hc.fresh _ _ ho).2 b me).1
    ·exact .inl (by omega)
 ·
  have kinds:∀j oj,lj N U D h j=some oj→∀b∈gQ N U φ j,
    (∃x,fD N j=some x∧b∈x.bB)∨(∃x,fD N j=none∧mq U j=some x∧b∈x.bB)∨(fD N j=none∧mq U j=none∧(h j=some oj∧j ∉ D)∧b∈φ j):=by
   intro j oj hj b hb
   unfold lj at hj
   unfold gQ at hb
   cases hl:fD N j with
   | some x=>simp only[hl] at hb;exact .inl ⟨x,rfl,hb⟩
   | none=>
    simp only[hl] at hj hb
    cases hu:mq U j with
    | some x=>simp only[hu] at hb;exact .inr (.inl ⟨x,rfl,rfl,hb⟩)
    | none=>simp only[hu] at hj hb;exact .inr (.inr ⟨rfl,rfl,ER j oj hu hj,hb⟩)
  have Fp:∀b,b∈N.flatMap ar.bB→∀j oj,mq U j=none→h j=some oj→j ∉ D→b∈φ j→False:=by
   intro b Hf j oj Bn hj IG bo
   rcases (mH b Hf).1 with h1 | h1
   ·exact Fx j oj hj (Js j Bn) IG b bo h1
   ·have:=((hc.fresh j oj hj).2 b bo).2
    omega
  intro i j oi oj cJ hi hj b hb ax
  rcases kinds i oi hi b hb with ⟨x,hx,bx⟩ | ⟨x,_,hx,bx⟩ | ⟨_,LM,⟨hx,LK⟩,bx⟩<;>rcases kinds j oj hj b ax with ⟨y,hy,D0⟩ | ⟨y,_,hy,D0⟩ | ⟨_,LO,⟨hy,LN⟩,D0⟩
  ·refine (cU hnd).2 x (bd hx).1 y (bd hy).1 ?_ b bx D0
   rintro rfl
   exact cJ ((bd hx).2.symm.trans (bd hy).2)
  ·exact (He b (CG y (db hy).1 b D0)).2.2 (ep x (bd hx).1 b bx)
  ·exact Fp b (ep x (bd hx).1 b bx) j oj LO hy LN D0
  ·exact (He b (CG x (db hx).1 b bx)).2.2 (ep y (bd hy).1 b D0)
  ·refine (lg Lu).2 x (db hx).1 y (db hy).1 ?_ b bx D0
   rw[(db hx).2,(db hy).2]
   exact cJ
  ·rcases (He b (CG x (db hx).1 b bx)).1 with h1 | h1
   ·exact Fx j oj hy (Js j LO) LN b D0 h1
   ·have:=((hc.fresh j oj hy).2 b D0).2
    omega
  ·exact Fp b (ep y (bd hy).1 b D0) i oi LM hx LK bx
  ·rcases (He b (CG y (db hy).1 b D0)).1 with h1 | h1
   ·exact Fx i oi hx (Js i LM) LK b bx h1
   ·have:=((hc.fresh i oi hx).2 b bx).2
    omega
  ·exact hc.sep i j oi oj cJ hx hy b bx D0
end
end Go.Proofs.YtoaflbnkiobhdaaGreat.Vm
namespace Go.Proofs.YtoaflbnkiobhdaaGreat.Vm
section
variable {P:Program} {Γ:Ctx} {w0:World} {S:Own} {st:St} {o:Oper} {e:cG} {a:Act} {w:World}
variable {f:Nat→SV} {h:Nat→Option aj} {β:Env} {φ:Nat→List Nat} {tm:Array Value}
theorem di.length {w:World} :∀(CQ:List RC) (ds:List DC) (vs:List Value) (φ im tp:List Nat),di w CQ ds vs φ im tp→ds.length=CQ.length
 | [],ds,vs,φ,im,tp,h=>by simp only[di] at h;simp [h.1]
 | .d_ c::cs,ds,vs,φ,im,tp,h=>by
  simp only[di] at h
  obtain⟨d,aX,v,cK,f1,E9,rfl,_,_,h1,_⟩:=h
  simp [di.length cs aX cK _ _ _ h1]
 | .own t e::cs,ds,vs,φ,im,tp,h=>by
  simp only[di] at h
  obtain⟨rows,aX,v,cK,vals,aA,φ',Bh,rfl,_,_,_,h1,_⟩:=h
  simp [di.length cs aX cK _ _ _ h1]
 | .deep t e ts::cs,ds,vs,φ,im,tp,h=>by
  simp only[di] at h
  obtain⟨rows,aX,v,cK,vals,aS,φ',Bh,rfl,_,_,_,h1,_⟩:=h
  simp [di.length cs aX cK _ _ _ h1]
theorem fK {w':World} {d:Nat} :∀(CQ:List RC) (k:Nat) (ds:List DC) (vs:List Value) (φ im tp:List Nat),di w' CQ ds vs φ im tp→
  ∃N:List ar,(cf d k CQ ds).2=cR N∧N.map (·.id)=(List.range' k (du CQ)).map (ag d)∧(∀x∈N,x.ok w')∧N.flatMap ar.bB=φ∧N.flatMap ar.al=tp∧
   ∀(av:Nat→Prop) (β':Env),(∀x∈N,β'.val x.id=x.v)→(∀b∈im,¬av b)→af w' av β' (cf d k CQ ds).1 vs
 | [],k,ds,vs,φ,im,tp,h=>by
  simp only[di] at h
  obtain⟨rfl,rfl,rfl,rfl,rfl⟩:=h
  exact⟨[],rfl,rfl,by simp,rfl,rfl,by simp [cf,af]⟩
 | .d_ c::cs,k,ds,vs,φ,im,tp,h=>by
  simp only[di] at h
  obtain⟨x,aX,v,cK,f1,E9,rfl,rfl,h1,h2,rfl⟩:=h
  obtain⟨N,e1,e2,e3,e4,e5,e6⟩:=fK cs k aX cK φ E9 tp h2
  refine⟨N,by simpa [cf] using e1,by simpa [du] using e2,e3,e4,e5,fun av β' gl cO=> ?_⟩
  simp only[cf,List.headD_cons,List.tail_cons,af]
  exact⟨v,cK,rfl,dc h1 (fun b hb=>cO b (List.mem_append_left _ hb)),e6 av β' gl (fun b hb=>cO b (List.mem_append_right _ hb))⟩
 | .own t e::cs,k,ds,vs,φ,im,tp,h=>by
  simp only[di] at h
  obtain⟨rows,aX,v,cK,vals,aA,φ',Bh,rfl,rfl,h1,h2,h3,rfl,rfl⟩:=h
  obtain⟨N,e1,e2,e3,e4,e5,e6⟩:=fK cs (k+1) aX cK φ' im Bh h3
  refine⟨⟨ag d k,t,e,rows,v,aA,none⟩::N, ?_, ?_, ?_, ?_, ?_,fun av β' gl cO=> ?_⟩
  ·simp [cf,cR,ar.obj,DC.cl] at e1 ⊢
   exact e1
  ·simp only[List.map_cons,du,List.range'_succ,e2]
  ·intro x hx
   rcases List.mem_cons.1 hx with rfl | hx
   ·exact⟨vals,h1,h2⟩
   ·exact e3 x hx
  ·simp [List.flatMap_cons,e4,ar.bB]
  ·simp [List.flatMap_cons,e5,ar.al]
  ·simp only[cf,List.headD_cons,List.tail_cons,af]
   refine⟨v,cK,rfl, ?_,e6 av β' (fun x hx=>gl x (List.mem_cons_of_mem _ hx)) cO⟩
   simp only[ak]
   exact⟨(gl _ (List.mem_cons_self ..)).symm,h1.one⟩
 | .deep t e ts::cs,k,ds,vs,φ,im,tp,h=>by
  simp only[di] at h
  obtain⟨rows,aX,v,cK,vals,aS,φ',Bh,rfl,rfl,h1,h2,h3,rfl,rfl⟩:=h
  obtain⟨N,e1,e2,e3,e4,e5,e6⟩:=fK cs (k+1) aX cK φ' im Bh h3
  refine⟨⟨ag d k,t,e,rows,v,aS,some ts⟩::N, ?_, ?_, ?_, ?_, ?_,fun av β' gl cO=> ?_⟩
  ·simp [cf,cR,ar.obj,DC.cl] at e1 ⊢
   exact e1
  ·simp only[List.map_cons,du,List.range'_succ,e2]
  ·intro x hx
   rcases List.mem_cons.1 hx with rfl | hx
   ·exact⟨vals,h1,h2⟩
   ·exact e3 x hx
  ·simp [List.flatMap_cons,e4,ar.bB]
  ·simp [List.flatMap_cons,e5,ar.al,ar.bB]
  ·simp only[cf,List.headD_cons,List.tail_cons,af]
   refine⟨v,cK,rfl, ?_,e6 av β' (fun x hx=>gl x (List.mem_cons_of_mem _ hx)) cO⟩
   simp only[ak]
   exact⟨(gl _ (List.mem_cons_self ..)).symm,h1.one⟩
theorem jl {w':World} {d:Nat} :∀(BW:List RK) (k:Nat) (ds:List DC) (vs:List Value) (φ im tp:List Nat),fl w' BW ds vs φ im tp→
  ∃N:List ar,(bj d k BW ds).2=cR N∧N.map (·.id)=(List.range' k (a_ BW)).map (ag d)∧(∀x∈N,x.ok w')∧N.flatMap ar.bB=φ∧N.flatMap ar.al=tp∧
   ∀(av:Nat→Prop) (β':Env),(∀x∈N,β'.val x.id=x.v)→(∀b∈im,¬av b)→af w' av β' (bj d k BW ds).1 vs
 | [],k,ds,vs,φ,im,tp,h=>by
  simp only[fl] at h
  obtain⟨rfl,rfl,rfl,rfl,rfl⟩:=h
  exact⟨[],rfl,rfl,by simp,rfl,rfl,by simp [bj,af]⟩
 | r::rs,k,ds,vs,φ,im,tp,h=>by
  simp only[fl] at h
  obtain⟨d1,d2,v,cK,us,DZ,Bi,i1,i2,t1,t2,rfl,rfl,hv,bb,h1,h2,rfl,rfl,rfl⟩:=h
  have hl:=di.length _ _ _ _ _ _ h1
  obtain⟨N1,a1,a2,a3,a4,a5,a6⟩:=fK (d:=d) r.cells k d1 us DZ i1 t1 h1
  obtain⟨N2,b1,b2,b3,b4,b5,b6⟩:=jl (d:=d) rs (k+du r.cells) d2 cK Bi i2 t2 h2
  have ht:(d1++d2).take r.cells.length=d1:=by rw[←hl];simp
  have mQ:(d1++d2).drop r.cells.length=d2:=by rw[←hl];simp
  refine⟨N1++N2, ?_, ?_, ?_,by simp [a4,b4],by simp [a5,b5],fun av β' gl cO=> ?_⟩
  ·simp only[bj,ht,mQ,a1,b1,cR,List.map_append]
  ·rw[List.map_append,a2,b2,←List.map_append,List.range'_append_1]
   rfl
  ·intro x hx
   rcases List.mem_append.1 hx with hx | hx
   ·exact a3 x hx
   ·exact b3 x hx
  ·have s1:=a6 av β' (fun x hx=>gl x (List.mem_append_left _ hx)) (fun b hb=>cO b (List.mem_append_left _ hb))
   have s2:=b6 av β' (fun x hx=>gl x (List.mem_append_right _ hx)) (fun b hb=>cO b (List.mem_append_right _ hb))
   simp only[bj,ht,mQ,af]
   refine⟨v,cK,rfl, ?_,s2⟩
   cases Io:r.agg with
   | true=>
    rw[Io,cond_true] at hv
    subst hv
    simp only[cond_true,ak]
    exact⟨us,rfl,s1,bb⟩
   | false=>
    rw[Io,cond_false] at hv
    subst hv
    simp only[cond_false]
    generalize (cf d k r.cells d1).1=q at s1
    cases q with
    | nil=>simp [af] at s1
    | cons y l=>
     simp only[af] at s1
     obtain⟨v',l',e1,e2,_⟩:=s1
     injection e1 with e1
     subst e1
     simpa using e2
theorem dm.lt {w:World} :∀(ks:List AK) (ds:List DC) (vs:List Value) (fp:List Nat),dm w ks ds vs fp→∀b∈fp,b<w.heap.size
 | [],ds,vs,fp,h=>by simp only[dm] at h;simp [h.2.2]
 | k::ks,ds,vs,fp,h=>by
  simp only[dm] at h
  obtain⟨d1,d2,v,cK,f1,f2,rfl,rfl,⟨us,_,_,hr,_⟩,h2,rfl⟩:=h
  intro b hb
  rcases List.mem_append.1 hb with hb | hb
  ·exact a7.lt _ _ _ _ hr b hb
  ·exact dm.lt ks d2 cK f2 h2 b hb
theorem di.jR {w:World} :∀(CQ:List RC) (ds:List DC) (vs:List Value) (φ im tp:List Nat),hY CQ=false→di w CQ ds vs φ im tp→im=[]
 | [],ds,vs,φ,im,tp,_,h=>by simp only[di] at h;exact h.2.2.2.1
 | .d_ c::cs,ds,vs,φ,im,tp,hn,h=>by
  simp only[di] at h
  obtain⟨d,aX,v,cK,f1,E9,rfl,_,h1,h2,rfl⟩:=h
  have:f1=[]∧hY cs=false:=by
   cases c with
   | int k=>simp only[bV] at h1;obtain⟨n,_,_,_,e⟩:=h1;exact⟨e,by simpa [hY] using hn⟩
   | bool=>simp only[bV] at h1;obtain⟨n,_,_,e⟩:=h1;exact⟨e,by simpa [hY] using hn⟩
   | str=>simp only[bV] at h1;obtain⟨n,_,_,_,e⟩:=h1;exact⟨e,by simpa [hY] using hn⟩
   | sl e=>simp [hY] at hn
  rw[this.1,di.jR cs aX cK _ _ _ this.2 h2]
  rfl
 | .own t e::cs,ds,vs,φ,im,tp,hn,h=>by
  simp only[di] at h
  obtain⟨rows,aX,v,cK,vals,aA,φ',Bh,rfl,_,_,_,h1,_⟩:=h
  exact di.jR cs aX cK _ _ _ (by simpa [hY] using hn) h1
 | .deep t e ts::cs,ds,vs,φ,im,tp,hn,h=>by
  simp only[di] at h
  obtain⟨rows,aX,v,cK,vals,aS,φ',Bh,rfl,_,_,_,h1,_⟩:=h
  exact di.jR cs aX cK _ _ _ (by simpa [hY] using hn) h1
theorem fl.jR {w:World} :∀(BW:List RK) (ds:List DC) (vs:List Value) (φ im tp:List Nat),(BW.any fun r=>hY r.cells)=false→fl w BW ds vs φ im tp→im=[]
 | [],ds,vs,φ,im,tp,_,h=>by simp only[fl] at h;exact h.2.2.2.1
 | r::rs,ds,vs,φ,im,tp,hn,h=>by
  simp only[fl] at h
  obtain⟨d1,d2,v,cK,us,DZ,Bi,i1,i2,t1,t2,rfl,rfl,_,_,h1,h2,_,rfl,_⟩:=h
  simp only[List.any_cons,Bool.or_eq_false_iff] at hn
  rw[di.jR _ _ _ _ _ _ hn.1 h1,fl.jR rs d2 cK _ _ _ hn.2 h2]
  rfl
theorem AJ (hc:Core w0 S st.get st.obj β φ a.tmps w):∀(xs:List Operand) (ss:List SV),(DF xs).val st.get st.obj=some ss→af w (Av st.obj β) β ss (xs.map a.eval)
 | [],ss,h=>by simp [DF] at h;subst h;simp [af]
 | x::xs,ss,h=>by
  simp only[DF,M.ae,Option.bind_eq_some_iff,M.aa,Option.some.injEq] at h
  obtain⟨s,h1,r,h2,rfl⟩:=h
  simp only[List.map_cons,af]
  exact⟨_,_,rfl,hc.ev h1,AJ hc xs r h2⟩
theorem BZ {c:Call} {g:Nat} {fn:Func} (ho:o.op= .call c) (hg:c.callee= .value (.func g)) (hf:P.funcs[g]? =some fn) (hb:fn.body.isSome=true) (hn:(fn.name== "runtime.NumGoroutine")=false):
  (execOp a.eval o).run P w= .ok (.enter g (c.args.map a.eval)) w:=by
 have ax:fn.body.isNone=false:=by cases h:fn.body<;>simp_all
 simp only[execOp,ho,resolve,hg,Act.eval,Deferred.ofValue,Sem.run_bind,Sem.run_pure,Result.andThen_ok,invoke,callFunc,run_program,hf,hn,ax,Bool.false_eq_true,if_false]
 simp
theorem C0 (eV:bE P Γ) {s:Sum} {g:Nat} (hs:Gc Γ g=some s) (eH:s.G4=false) (GM:s.pt=none) (JN:s.ms=[]) (hR:Rel w0 S st a w) {d:Nat} (aL:o.dst=some d) (hd:ba st.n d) (bM:e.ow≠[]→bw st d) {c:Call} (ho:o.op= .call c) (hg:c.callee= .value (.func g)) {l:List SV}
  (hl:(DF c.args.toList).val st.get st.obj=some l) (he:(kL Γ (some d) g l).val st.get st.obj=some e) (aJ:e.ok=true):Good P w0 S st o e a w:=by
 unfold kL at he
 rw[hs] at he
 simp only[eH,cond_false,GM,JN] at he
 cases Hc:Nat.blt (a_ s.rs) 64
 ·simp [Hc] at he
 simp only[Hc,cond_true,M.ae,Option.bind_eq_some_iff] at he
 obtain⟨r,hr,he⟩:=he
 cases Jc:(!(shares s) || aO r.2)
 ·simp [Jc] at he
 simp only[Jc,cond_true,M.aa,Option.some.injEq] at he
 subst he
 have Hc:a_ s.rs<64:=Nat.le_of_ble_eq_true Hc
 have hH:D9 P g s:=by have h0:=eV g s hs;unfold gO at h0;rw[eH,cond_false,GM] at h0;simp only[JN] at h0;exact h0
 obtain⟨⟨fn,hf,hb,hn⟩,Ct⟩:=hH
 obtain⟨β,φ,hc⟩:=hR.core
 obtain⟨fp,cu,kr,lr⟩:=lS hc s.ps l _ r (AJ hc _ l hl) hr
 have Lw:=dm.lt _ _ _ _ cu
 intro Q
 unfold Oper.wp
 rw[BZ ho hg hf hb hn,Oper.upon_enter]
 have E7:c.args.map a.eval=(c.args.toList.map a.eval).toArray:=by rw[←Array.toList_map,Array.toArray_toList]
 rw[E7]
 refine (Ct w r.1 _ fp cu aJ).mono ?_
 rintro _ w' ⟨vs,JY,im,tp,rfl,hk,AY,hnd,mH,ko⟩
 obtain⟨N,n1,n2,n3,n4,n5,n6⟩:=jl (d:=d) s.rs 0 _ vs JY im tp AY
 let M':eZ:=bif shares s then r.2 else []
 have hM:bS st.obj M'∧aO M'=true:=by
  cases A0:shares s with
  | true=>
   have:M'=r.2:=by simp [M',A0]
   rw[this]
   exact⟨kr,by simpa [A0] using Jc⟩
  | false=>
   have:M'=[]:=by simp [M',A0]
   rw[this]
   exact⟨by simp [bS],rfl⟩
 have hfz:(bif shares s then ai r.2 else [])=ai M':=by cases A0:shares s<;>simp [M',A0,ai]
 have jE:=hc.gw M' hM.1 hM.2
 have Cy:∀x∈N,x.id / 64=d∧x.id∈N.map (·.id):=by
  intro x hx
  have hm:x.id∈N.map (·.id):=List.mem_map_of_mem hx
  refine⟨?_,hm⟩
  rw[n2] at hm
  obtain⟨j,hj,f9⟩:=List.mem_map.1 hm
  rw[←f9]
  have:=List.mem_range'_1.1 hj
  exact cL d j (by omega)
 have mS:(N.map (·.id)).Nodup:=by
  rw[n2]
  refine List.Pairwise.map _ ?_ (List.nodup_range' ..)
  intro x y Am e
  unfold ag at e
  omega
 have hle:=hR.kept.size
 have hw:∀b,b<w.heap.size→w'.heap[b]? =w.heap[b]? :=fun b hb=>hk.block b hb (fun h=>h)
 have Kc:=jE.FR (N:=N) hk.size hw hle ?_ n3 mS (by rw[n4];exact hnd) (by rw[n4];exact mH)
 ·have hval:∀x∈N,(β.fR N).val x.id=x.v:=by
   intro x hx
   simp [Env.fR,mo hx mS]
  have EM:∀b∈im,¬Av (fun j=>match fD N j with | some x=>some x.obj | none=>fo (ai M') st.obj j) (β.fR N) b:=by
   rintro b hb (⟨j,oj,hj,bo⟩ | fa)
   case inr=>
    have EK:=ko b hb
    have Md:=(jE.gH b fa).1
    rcases EK.1 with Cw | mN
    ·cases A0:shares s with
     | false=>
      have:im=[]:=fl.jR _ _ _ _ _ _ (by simpa [shares] using A0) AY
      rw[this] at hb
      simp at hb
     | true=>
      have Gw:M'=r.2:=by simp [M',A0]
      rcases lr b Cw with h3 | ⟨x,hx,kn⟩
      ·exact h3 (.inr fa)
      ·exact dB hc hM.1 (by rw[Gw];exact hx) kn (.inr fa)
    ·omega
   have EK:=ko b hb
   cases jH:fD N j with
   | some x=>
    simp only[jH,Option.some.injEq] at hj
    subst hj
    have hx:=(bd jH).1
    refine EK.2 ?_
    rw[←n5]
    refine List.mem_flatMap.2 ⟨x,hx, ?_⟩
    obtain⟨_,rfl⟩:=bd jH
    rwa [x.iN (by simp [Env.fR,jH]) (by simp [Env.fR,jH])] at bo
   | none=>
    simp only[jH] at hj
    have mO:b∈al β j oj:=by
     cases oj<;>simp only[al,Env.fR,jH] at bo ⊢ <;>exact bo
    have Ka:=((jE.fresh j oj hj).2 b (ah (jE.ay j oj hj) b mO)).2
    rcases EK.1 with Cw | mN
    ·cases A0:shares s with
     | false=>
      have:im=[]:=fl.jR _ _ _ _ _ _ (by simpa [shares] using A0) AY
      rw[this] at hb
      simp at hb
     | true=>
      have Gw:M'=r.2:=by simp [M',A0]
      rcases lr b Cw with h3 | ⟨x,hx,kn⟩
      ·exact h3 (fY (.inl ⟨j,oj,hj,mO⟩))
      ·exact dB hc hM.1 (by rw[Gw];exact hx) kn (.inl ⟨j,oj,hj,mO⟩)
    ·omega
  have eU:=n6 _ (β.fR N) hval EM
  have Cz:Kept S w0 w':=⟨hk.os.trans hR.kept.os,hk.tape.trans hR.kept.tape,hk.output.trans hR.kept.output,by have:=hk.size;omega,fun k h1 h2=>(hw k (by omega)).trans (hR.kept.block k h1 h2)⟩
  refine⟨pack vs,rfl,iH hR (fun d' h'=>by rw[aL] at h';injection h' with h';exact h' ▸ hd) Cz ⟨β.fR N,fun j=>match fD N j with | some x=>x.bB | none=>bm φ M' j, ?_, ?_⟩⟩
  ·have:fo ((bj d 0 s.rs (s.fn r.1).2).2++(bif shares s then ai r.2 else [])) (fc none st.obj)=fun j=>match fD N j with | some x=>some x.obj | none=>fo (ai M') st.obj j:=by
    funext j
    rw[n1,hfz,AP]
    rfl
   show Core w0 S st.get (fo ((bj d 0 s.rs (s.fn r.1).2).2++(bif shares s then ai r.2 else [])) (fc none st.obj)) _ _ _ _
   rw[this]
   exact Kc
  ·have:fo ((bj d 0 s.rs (s.fn r.1).2).2++(bif shares s then ai r.2 else [])) (fc none st.obj)=fun j=>match fD N j with | some x=>some x.obj | none=>fo (ai M') st.obj j:=by
    funext j
    rw[n1,hfz,AP]
    rfl
   show ak w' (Av (fo ((bj d 0 s.rs (s.fn r.1).2).2++(bif shares s then ai r.2 else [])) (fc none st.obj)) (β.fR N)) (β.fR N) (ik (bj d 0 s.rs (s.fn r.1).2).1) (pack vs)
   rw[this]
   generalize (bj d 0 s.rs (s.fn r.1).2).1=q at eU
   match q,vs,eU with
   | [],vs,eU=>
    simp only[af] at eU
    subst eU
    simp only[ik,pack,ak]
    exact⟨[],rfl,by simp [af]⟩
   | [x],vs,eU=>
    simp only[af] at eU
    obtain⟨v,l',rfl,h1,rfl⟩:=eU
    exact h1
   | x::y::q,vs,eU=>
    have E3:=eU
    simp only[af] at eU
    obtain⟨v,l',rfl,h1,v2,l2,rfl,h2,h3⟩:=eU
    simp only[ik,pack]
    unfold ak
    exact⟨v::v2::l2,rfl,E3⟩
 ·intro x hx
  have h1:=(Cy x hx).1
  have bM:=bM (by
   show (bj d 0 s.rs (s.fn r.1).2).2++_≠[]
   rw[n1]
   intro h0
   rw[List.append_eq_nil_iff] at h0
   have:N=[]:=by simpa [cR] using h0.1
   rw[this] at hx
   simp at hx)
  refine⟨?_,fun i hi=>bM.slot i _ hi h1,fun k ok Cz hi=> ?_⟩
  ·cases hn:fo (ai M') st.obj x.id with
   | none=>rfl
   | some ob=>
    rcases dz hn with h2 | ⟨e',r',rfl,y,hy,h2⟩
    ·exact absurd h1 (bM.obj _ ob h2).1
    ·obtain⟨_,h3,_⟩:=hM.1 y hy
     rw[h2] at h3
     exact absurd h1 (bM.obj _ _ h3).1
  ·rcases dz Cz with h2 | ⟨e',r',rfl,_⟩
   ·exact (bM.obj k ok h2).2 _ hi h1
   ·simp [cC] at hi
end
end Go.Proofs.YtoaflbnkiobhdaaGreat.Vm
set_option linter.unusedVariables false
set_option linter.unusedSimpArgs false
namespace Go.Proofs.YtoaflbnkiobhdaaGreat.Vm
section
variable {P:Program} {Γ:Ctx} {w0:World} {S:Own} {st:St} {o:Oper} {e:cG} {a:Act} {w:World}
variable {f:Nat→SV} {h:Nat→Option aj} {β:Env} {φ:Nat→List Nat} {tm:Array Value}
def aC (β:Env):MU→List Nat
 | .box id _ _=>[β.cT id]
 | .row id _ _ _=>(β.val id).ownBlock.toList
 | .deep id _ _ _=>(β.val id).ownBlock.toList++β.nb id
 | .gone id dp=>(β.val id).ownBlock.toList++(bif dp then β.nb id else [])
 | .cI id _ _ _=>[β.cT id]
 | .lJ=>[]
def Ck (dp:Bool) (o:aj):Prop:=(dp=false∧∃t e rows u,aq e=true∧o= .row t e rows false u)∨(dp=true∧∃t e ts rows,o= .deep t e ts rows none)
theorem Ck.al {dp:Bool} {o:aj} (h:Ck dp o) (β:Env) (id:Nat):al β id o=aC β (.gone id dp):=by
 rcases h with ⟨rfl,t,e,rows,u,_,rfl⟩ | ⟨rfl,t,e,ts,rows,rfl⟩<;>simp [Vm.al,aC]
def cS (h:Nat→Option aj):List MU→Prop
 | []=>True
 | .box id t cs::l=>(∃cells,h id=some (.box t cells))∧cS h l
 | .row id t e u::l=>(aq e=true∧∃rows,h id=some (.row t e rows false u))∧cS h l
 | .deep id t e ts::l=>(∃rows,h id=some (.deep t e ts rows none))∧cS h l
 | .gone id dp::l=>(∃o,h id=some o∧Ck dp o)∧cS h l
 | .cI id t cs ts::l=>(∃cells,h id=some (.box t cells))∧cS h l
 | .lJ::l=>cS h l
theorem cS.append {U V:List MU} (hu:cS h U) (hv:cS h V):cS h (U++V):=by
 induction U with
 | nil=>exact hv
 | cons x l ih=>
  cases x<;>simp only[List.cons_append,cS] at hu ⊢
  ·exact⟨hu.1,ih hu.2⟩
  ·exact⟨hu.1,ih hu.2⟩
  ·exact⟨hu.1,ih hu.2⟩
  ·exact⟨hu.1,ih hu.2⟩
  ·exact⟨hu.1,ih hu.2⟩
  ·exact ih hu
theorem jA:∀ {U:List MU},bN U=true→cS h U→(cN U).flatMap (aC β)=U.flatMap (aC β)∧cS h (cN U)
 | [],_,_=>⟨rfl,trivial⟩
 | .row id t e u::l,hr,hm=>by
  simp only[bN] at hr
  simp only[cS] at hm
  obtain⟨⟨hf,rows,ho⟩,hm⟩:=hm
  obtain⟨h1,h2⟩:=jA hr hm
  refine⟨?_, ?_⟩
  ·simp only[cN,List.flatMap_cons,h1,aC,cond_false,List.append_nil]
  ·simp only[cN,cS]
   exact⟨⟨_,ho,.inl ⟨rfl,t,e,rows,u,hf,rfl⟩⟩,h2⟩
 | .deep id t e ts::l,hr,hm=>by
  simp only[bN] at hr
  simp only[cS] at hm
  obtain⟨⟨rows,ho⟩,hm⟩:=hm
  obtain⟨h1,h2⟩:=jA hr hm
  refine⟨?_, ?_⟩
  ·simp only[cN,List.flatMap_cons,h1,aC,cond_true]
  ·simp only[cN,cS]
   exact⟨⟨_,ho,.inr ⟨rfl,t,e,ts,rows,rfl⟩⟩,h2⟩
 | .box _ _ _::l,hr,_=>by simp [bN] at hr
 | .gone _ _::l,hr,_=>by simp [bN] at hr
 | .cI _ _ _ _::l,hr,_=>by simp [bN] at hr
 | .lJ::l,hr,hm=>by
  simp only[bN] at hr
  simp only[cS] at hm
  obtain⟨h1,h2⟩:=jA hr hm
  exact⟨by simp only[cN,List.flatMap_cons,h1,aC,List.nil_append],h2⟩
theorem c_ (hc:Core w0 S f h β φ tm w):∀(cs:List CT) (ts:List TypeId) (ss:List SV) (us:List Value) (q:List DC×List MU),af w (Av h β) β ss us→(aU cs ts ss).val f h=some q→
  df w cs ts q.1 us (q.2.flatMap (aC β))∧cS h q.2
 | [],ts,ss,us,q,hs,hq=>by
  cases ts with
  | nil=>
   cases ss with
   | nil=>
    simp only[aU,M.aa,Option.some.injEq] at hq
    subst hq
    simp only[af] at hs
    exact⟨⟨rfl,rfl,hs,rfl⟩,trivial⟩
   | cons s ss=>simp [aU] at hq
  | cons t ts=>simp [aU] at hq
 | .int k::cs,ts,ss,us,q,hs,hq=>by
  cases ss with
  | nil=>simp [aU] at hq
  | cons s ss=>
   simp only[af] at hs
   obtain⟨v,aM,rfl,h1,h2⟩:=hs
   simp only[aU,M.ae,Option.bind_eq_some_iff,M.aa,Option.some.injEq] at hq
   obtain⟨q1,aG,q2,cv,rfl⟩:=hq
   obtain⟨fp,hr,_⟩:=dy hc h1 aG
   obtain⟨k1,k2⟩:=c_ hc cs ts ss aM q2 h2 cv
   refine⟨?_,k2⟩
   simp only[df]
   refine⟨q1.1,q2.1,v,aM,rfl,rfl, ?_,k1⟩
   simp only[bV] at hr ⊢
   obtain⟨n,a,b,c,_⟩:=hr
   exact⟨n,a,b,c,trivial⟩
 | .bool::cs,ts,ss,us,q,hs,hq=>by
  cases ss with
  | nil=>simp [aU] at hq
  | cons s ss=>
   simp only[af] at hs
   obtain⟨v,aM,rfl,h1,h2⟩:=hs
   simp only[aU,M.ae,Option.bind_eq_some_iff,M.aa,Option.some.injEq] at hq
   obtain⟨q1,aG,q2,cv,rfl⟩:=hq
   obtain⟨fp,hr,_⟩:=dy hc h1 aG
   obtain⟨k1,k2⟩:=c_ hc cs ts ss aM q2 h2 cv
   refine⟨?_,k2⟩
   simp only[df]
   refine⟨q1.1,q2.1,v,aM,rfl,rfl, ?_,k1⟩
   simp only[bV] at hr ⊢
   obtain⟨n,a,b,_⟩:=hr
   exact⟨n,a,b,trivial⟩
 | .str::cs,ts,ss,us,q,hs,hq=>by
  cases ss with
  | nil=>simp [aU] at hq
  | cons s ss=>
   simp only[af] at hs
   obtain⟨v,aM,rfl,h1,h2⟩:=hs
   simp only[aU,M.ae,Option.bind_eq_some_iff,M.aa,Option.some.injEq] at hq
   obtain⟨q1,aG,q2,cv,rfl⟩:=hq
   obtain⟨fp,hr,_⟩:=dy hc h1 aG
   obtain⟨k1,k2⟩:=c_ hc cs ts ss aM q2 h2 cv
   refine⟨?_,k2⟩
   simp only[df]
   refine⟨q1.1,q2.1,v,aM,rfl,rfl, ?_,k1⟩
   simp only[bV] at hr ⊢
   obtain⟨n,a,b,c,_⟩:=hr
   exact⟨n,a,b,c,trivial⟩
 | .sl el::cs,ts,ss,us,q,hs,hq=>by
  cases ts with
  | nil=>simp [aU] at hq
  | cons t ts=>
   cases ss with
   | nil=>simp [aU] at hq
   | cons s ss=>
    simp only[af] at hs
    obtain⟨v,aM,rfl,h1,h2⟩:=hs
    simp only[aU,M.ae,Option.bind_eq_some_iff,M.aa,Option.some.injEq] at hq
    obtain⟨q1,aG,q2,cv,rfl⟩:=hq
    obtain⟨k1,k2⟩:=c_ hc cs ts ss aM q2 h2 cv
    cases s with
    | nil=>
     simp only at aG
     cases eB:aq el
     ·simp [eB] at aG
     ·simp only[eB,cond_true,M.aa,Option.some.injEq] at aG
      subst aG
      simp only[ak] at h1
      subst h1
      refine⟨?_,k2⟩
      simp only[df]
      exact⟨t,ts,[],q2.1,_,aM,[],[],q2.2.flatMap (aC β),rfl,rfl,rfl,eB,⟨by simp,.inl ⟨rfl,rfl,rfl⟩⟩,⟨rfl,by simp⟩,k1,by simp [aC,Value.ownBlock]⟩
    | own id=>
     simp only[M.aT,Option.bind_eq_some_iff] at aG
     obtain⟨ob,aK,aG⟩:=aG
     cases ob with
     | row t' e' r fz u=>
      cases fz with
      | true=>simp at aG
      | false=>
       simp only at aG
       cases aI:Nat.beq t' t && aF e' el && aq el
       ·simp [aI] at aG
       ·simp only[aI,cond_true,M.aa,Option.some.injEq] at aG
        subst aG
        simp only[Bool.and_eq_true] at aI
        have ht:=Nat.eq_of_beq_eq_true aI.1.1
        have he:=aN _ _ aI.1.2
        subst ht
        subst he
        simp only[ak] at h1
        obtain⟨vals,aA,g1,g2,_,_⟩:=hc.ay id _ aK
        refine⟨?_,⟨⟨aI.2,r,aK⟩,k2⟩⟩
        simp only[df]
        refine⟨t',ts,r,q2.1,v,aM,vals,aA,q2.2.flatMap (aC β),rfl,rfl,rfl,aI.2,by rw[h1.1];exact g1,g2,k1, ?_⟩
        simp only[List.flatMap_cons,aC,h1.1]
     | box _ _=>simp at aG
     | d_ _ _=>simp at aG
     | deep _ _ _ _ _=>simp at aG
    | _=>simp at aG
theorem gN.one {t:TT} {e:List CT} {rows:List (List DC)} {v:Value} {mb:List Nat} (h:gN w t e rows v mb):v.oneCell'=true:=by
 cases t with
 | flat t=>
  obtain⟨_,_,_,h1,_⟩:=h
  exact h1.one
 | deep t its=>
  obtain⟨_,_,h1,_⟩:=h
  exact h1.one
theorem cx (hc:Core w0 S f h β φ tm w):∀(cs:List CT) (ts:List TT) (ss:List SV) (us:List Value) (q:List DC×List MU),af w (Av h β) β ss us→(aw cs ts ss).val f h=some q→
  aR w cs ts q.1 us (q.2.flatMap (aC β))∧cS h q.2
 | [],ts,ss,us,q,hs,hq=>by
  cases ts with
  | nil=>
   cases ss with
   | nil=>
    simp only[aw,M.aa,Option.some.injEq] at hq
    subst hq
    simp only[af] at hs
    exact⟨⟨rfl,rfl,hs,rfl⟩,trivial⟩
   | cons s ss=>simp [aw] at hq
  | cons t ts=>simp [aw] at hq
 | .int k::cs,ts,ss,us,q,hs,hq=>by
  cases ss with
  | nil=>simp [aw] at hq
  | cons s ss=>
   simp only[af] at hs
   obtain⟨v,aM,rfl,h1,h2⟩:=hs
   simp only[aw,M.ae,Option.bind_eq_some_iff,M.aa,Option.some.injEq] at hq
   obtain⟨q1,aG,q2,cv,rfl⟩:=hq
   obtain⟨fp,hr,_⟩:=dy hc h1 aG
   obtain⟨k1,k2⟩:=cx hc cs ts ss aM q2 h2 cv
   refine⟨?_,k2⟩
   simp only[aR]
   refine⟨q1.1,q2.1,v,aM,rfl,rfl, ?_,k1⟩
   simp only[bV] at hr ⊢
   obtain⟨n,a,b,c,_⟩:=hr
   exact⟨n,a,b,c,trivial⟩
 | .bool::cs,ts,ss,us,q,hs,hq=>by
  cases ss with
  | nil=>simp [aw] at hq
  | cons s ss=>
   simp only[af] at hs
   obtain⟨v,aM,rfl,h1,h2⟩:=hs
   simp only[aw,M.ae,Option.bind_eq_some_iff,M.aa,Option.some.injEq] at hq
   obtain⟨q1,aG,q2,cv,rfl⟩:=hq
   obtain⟨fp,hr,_⟩:=dy hc h1 aG
   obtain⟨k1,k2⟩:=cx hc cs ts ss aM q2 h2 cv
   refine⟨?_,k2⟩
   simp only[aR]
   refine⟨q1.1,q2.1,v,aM,rfl,rfl, ?_,k1⟩
   simp only[bV] at hr ⊢
   obtain⟨n,a,b,_⟩:=hr
   exact⟨n,a,b,trivial⟩
 | .str::cs,ts,ss,us,q,hs,hq=>by
  cases ss with
  | nil=>simp [aw] at hq
  | cons s ss=>
   simp only[af] at hs
   obtain⟨v,aM,rfl,h1,h2⟩:=hs
   simp only[aw,M.ae,Option.bind_eq_some_iff,M.aa,Option.some.injEq] at hq
   obtain⟨q1,aG,q2,cv,rfl⟩:=hq
   obtain⟨fp,hr,_⟩:=dy hc h1 aG
   obtain⟨k1,k2⟩:=cx hc cs ts ss aM q2 h2 cv
   refine⟨?_,k2⟩
   simp only[aR]
   refine⟨q1.1,q2.1,v,aM,rfl,rfl, ?_,k1⟩
   simp only[bV] at hr ⊢
   obtain⟨n,a,b,c,_⟩:=hr
   exact⟨n,a,b,c,trivial⟩
 | .sl el::cs,ts,ss,us,q,hs,hq=>by
  cases ts with
  | nil=>simp [aw] at hq
  | cons t ts=>
   cases ss with
   | nil=>cases t<;>simp [aw] at hq
   | cons s ss=>
    simp only[af] at hs
    obtain⟨v,aM,rfl,h1,h2⟩:=hs
    cases t with
    | flat t=>
     simp only[aw,M.ae,Option.bind_eq_some_iff,M.aa,Option.some.injEq] at hq
     obtain⟨q1,aG,q2,cv,rfl⟩:=hq
     obtain⟨k1,k2⟩:=cx hc cs ts ss aM q2 h2 cv
     cases s with
     | nil=>
      simp only at aG
      cases eB:aq el
      ·simp [eB] at aG
      ·simp only[eB,cond_true,M.aa,Option.some.injEq] at aG
       subst aG
       simp only[ak] at h1
       subst h1
       refine⟨?_,k2⟩
       simp only[aR]
       exact⟨.flat t,ts,[],q2.1,_,aM,[],q2.2.flatMap (aC β),rfl,rfl,rfl,⟨eB,[],[],⟨by simp,.inl ⟨rfl,rfl,rfl⟩⟩,⟨rfl,by simp⟩,by simp [Value.ownBlock]⟩,k1,by simp [aC]⟩
     | own id=>
      simp only[M.aT,Option.bind_eq_some_iff] at aG
      obtain⟨ob,aK,aG⟩:=aG
      cases ob with
      | row t' e' r fz u=>
       cases fz with
       | true=>simp at aG
       | false=>
        simp only at aG
        cases aI:Nat.beq t' t && aF e' el && aq el
        ·simp [aI] at aG
        ·simp only[aI,cond_true,M.aa,Option.some.injEq] at aG
         subst aG
         simp only[Bool.and_eq_true] at aI
         have ht:=Nat.eq_of_beq_eq_true aI.1.1
         have he:=aN _ _ aI.1.2
         subst ht
         subst he
         simp only[ak] at h1
         obtain⟨vals,aA,g1,g2,_,_⟩:=hc.ay id _ aK
         refine⟨?_,⟨⟨aI.2,r,aK⟩,k2⟩⟩
         simp only[aR]
         refine⟨.flat t',ts,r,q2.1,v,aM,v.ownBlock.toList,q2.2.flatMap (aC β),rfl,rfl,rfl,⟨aI.2,vals,aA,by rw[h1.1];exact g1,g2,rfl⟩,k1, ?_⟩
         simp only[List.flatMap_cons,aC,h1.1]
      | box _ _=>simp at aG
      | d_ _ _=>simp at aG
      | deep _ _ _ _ _=>simp at aG
     | _=>simp at aG
    | deep t its=>
     simp only[aw,M.ae,Option.bind_eq_some_iff,M.aa,Option.some.injEq] at hq
     obtain⟨q1,aG,q2,cv,rfl⟩:=hq
     obtain⟨k1,k2⟩:=cx hc cs ts ss aM q2 h2 cv
     cases s with
     | nil=>
      simp only[M.aa,Option.some.injEq] at aG
      subst aG
      simp only[ak] at h1
      subst h1
      refine⟨?_,k2⟩
      simp only[aR]
      exact⟨.deep t its,ts,[],q2.1,_,aM,[],q2.2.flatMap (aC β),rfl,rfl,rfl,⟨[],[],⟨by simp,.inl ⟨rfl,rfl,rfl⟩⟩,⟨rfl,by simp⟩,by simp [Value.ownBlock]⟩,k1,by simp [aC]⟩
     | own id=>
      simp only[M.aT,Option.bind_eq_some_iff] at aG
      obtain⟨ob,aK,aG⟩:=aG
      cases ob with
      | deep t' e' dJ r hl=>
       cases hl with
       | some _=>simp at aG
       | none=>
        simp only at aG
        cases aI:Nat.beq t' t && aF e' el && fL dJ its
        ·simp [aI] at aG
        ·simp only[aI,cond_true,M.aa,Option.some.injEq] at aG
         subst aG
         simp only[Bool.and_eq_true] at aI
         have ht:=Nat.eq_of_beq_eq_true aI.1.1
         have he:=aN _ _ aI.1.2
         have FJ:=gj _ _ aI.2
         subst ht
         subst he
         subst FJ
         simp only[ak] at h1
         obtain⟨vals,aS,g1,g2,g3,_⟩:=hc.ay id _ aK
         refine⟨?_,⟨⟨r,aK⟩,k2⟩⟩
         simp only[aR]
         refine⟨.deep t' dJ,ts,r,q2.1,v,aM,v.ownBlock.toList++aS.flatten,q2.2.flatMap (aC β),rfl,rfl,rfl,⟨vals,aS,by rw[h1.1];exact g1,g2,rfl⟩,k1, ?_⟩
         simp only[List.flatMap_cons,aC,h1.1,g3]
      | box _ _=>simp at aG
      | d_ _ _=>simp at aG
      | row _ _ _ _ _=>simp at aG
     | _=>simp at aG
theorem mA (hc:Core w0 S f h β φ tm w) {k:AK} {ts:List TT} {s:SV} {v:Value} {q1:List DC×List MU} (h1:ak w (Av h β) β s v) (aG:(iq k ts s).val f h=some q1):
  (∃us:List Value,(bif k.agg then v= .agg us.toArray else (us=[v]∧v.oneCell'=true))∧(∀x∈us,x.oneCell'=true)∧aR w k.bA ts q1.1 us (q1.2.flatMap (aC β)))∧cS h q1.2:=by
 unfold iq at aG
 cases hk:k.agg with
 | true=>
  cases s with
  | agg cs=>
   simp only[hk] at aG
   simp only[ak] at h1
   obtain⟨us,rfl,gk,bb⟩:=h1
   obtain⟨r1,r2⟩:=cx hc k.bA ts cs us q1 gk aG
   exact⟨⟨us,rfl,bb,r1⟩,r2⟩
  | _=>simp [hk] at aG
 | false=>
  have lv:(aw k.bA ts [s]).val f h=some q1:=by
   cases s<;>simp only[hk] at aG<;>first | exact aG | (simp at aG)
  have hO:af w (Av h β) β [s] [v]:=by simp only[af];exact⟨v,[],rfl,h1,rfl⟩
  obtain⟨r1,r2⟩:=cx hc k.bA ts [s] [v] q1 hO lv
  have bb:v.oneCell'=true:=by
   cases EF:k.bA with
   | nil=>rw[EF] at r1;simp only[aR] at r1;simp at r1
   | cons c cs=>
    rw[EF] at r1
    cases c with
    | sl el=>
     simp only[aR] at r1
     obtain⟨t,dJ,rows,aX,v',aM,m1,ga,_,_,e0,h3,_⟩:=r1
     injection e0 with e0
     subst e0
     exact h3.one
    | int _=>simp only[aR] at r1;obtain⟨d,aX,v',aM,_,e0,h3,_⟩:=r1;injection e0 with e0;subst e0;exact h3.one
    | bool=>simp only[aR] at r1;obtain⟨d,aX,v',aM,_,e0,h3,_⟩:=r1;injection e0 with e0;subst e0;exact h3.one
    | str=>simp only[aR] at r1;obtain⟨d,aX,v',aM,_,e0,h3,_⟩:=r1;injection e0 with e0;subst e0;exact h3.one
  exact⟨⟨[v],⟨rfl,bb⟩,by simpa using bb,r1⟩,r2⟩
theorem fh (hc:Core w0 S f h β φ tm w):∀(ks:List AK) (ms:List (Option MK)) (ss:List SV) (vs:List Value) (q:List DC×eZ×List MU),af w (Av h β) β ss vs→(a8 ks ms ss).val f h=some q→
  ∃fp,cH w ks ms q.1 vs fp (q.2.2.flatMap (aC β))∧bS h q.2.1∧cS h q.2.2∧∀b∈fp,(¬Av h β b)∨∃x∈q.2.1,b∈eX h β x.1
 | [],ms,ss,vs,q,hs,hq=>by
  cases ms with
  | nil=>
   cases ss with
   | nil=>
    simp only[a8,M.aa,Option.some.injEq] at hq
    subst hq
    simp only[af] at hs
    exact⟨[],⟨rfl,rfl,hs,rfl,rfl⟩,by simp [bS],trivial,by simp⟩
   | cons s ss=>simp [a8] at hq
  | cons m ms=>simp [a8] at hq
 | k::ks,ms,ss,vs,q,hs,hq=>by
  cases ms with
  | nil=>simp [a8] at hq
  | cons m ms=>
   cases ss with
   | nil=>cases m with
    | none=>simp [a8] at hq
    | some m=>cases m<;>simp [a8] at hq
   | cons s ss=>
    simp only[af] at hs
    obtain⟨v,l,rfl,h1,h2⟩:=hs
    cases m with
    | none=>
     simp only[a8,M.ae,Option.bind_eq_some_iff,M.aa,Option.some.injEq] at hq
     obtain⟨q1,aG,q2,cv,rfl⟩:=hq
     obtain⟨gv,DG,Dj,DM,iO⟩:=fh hc ks ms ss l q2 h2 cv
     have lv:(js [k] [s]).val f h=some (q1.1++[],q1.2.1++[]):=by
      simp only[js,M.ae,Option.bind_eq_some_iff,M.aa,Option.some.injEq]
      exact⟨q1,aG,([],[]),rfl,rfl⟩
     have hO:af w (Av h β) β [s] [v]:=by simp only[af];exact⟨v,[],rfl,h1,rfl⟩
     obtain⟨lF,Gx,F1,jB⟩:=lS hc [k] [s] [v] _ hO lv
     simp only[List.append_nil] at Gx F1 jB
     obtain⟨d1,d2,v',cK,f1,f2,e1,e2,Gx,⟨rfl,rfl,rfl⟩,rfl⟩:=Gx
     simp only[List.append_nil] at e1 jB
     simp only[List.cons.injEq,and_true] at e2
     subst e2
     subst e1
     refine⟨f1++gv,⟨none,ms,q1.1,q2.1,v,l,f1,gv,[],q2.2.2.flatMap (aC β),rfl,rfl,rfl,⟨Gx,rfl⟩,DG,rfl,rfl⟩,fe F1 Dj,DM, ?_⟩
     intro b hb
     rcases List.mem_append.1 hb with hb | hb
     ·rcases jB b hb with h3 | ⟨x,hx,h3⟩
      ·exact .inl h3
      ·exact .inr ⟨x,List.mem_append_left _ hx,h3⟩
     ·rcases iO b hb with h3 | ⟨x,hx,h3⟩
      ·exact .inl h3
      ·exact .inr ⟨x,List.mem_append_right _ hx,h3⟩
    | some m=>
     cases m with
     | box t=>
      cases s with
      | ptr id off=>
       cases off with
       | succ off=>simp [a8] at hq
       | zero=>
        simp only[a8,M.aT,Option.bind_eq_some_iff] at hq
        obtain⟨ob,aK,hq⟩:=hq
        cases ob with
        | box t' cells=>
         simp only at hq
         cases kv:Nat.beq t' t
         ·simp [kv] at hq
         ·have kx:=Nat.eq_of_beq_eq_true kv
          subst kx
          simp only[kv,cond_true,M.ae,Option.bind_eq_some_iff] at hq
          obtain⟨q1,aG,hq⟩:=hq
          cases FF:q1.2.1.isEmpty
          ·simp [FF] at hq
          ·simp only[FF,cond_true,M.ae,Option.bind_eq_some_iff,M.aa,Option.some.injEq] at hq
           obtain⟨q2,cv,rfl⟩:=hq
           obtain⟨gv,DG,Dj,DM,iO⟩:=fh hc ks ms ss l q2 h2 cv
           obtain⟨us,g1,g2,g3,_⟩:=hc.ay id _ aK
           obtain⟨lF,hr,F1,jB,_⟩:=dZ hc k.bA cells us q1 g2 aG
           have hl:=af.length _ _ g2
           have j9:=cD _ _ _ aG
           simp only[ak] at h1
           have KE:q1.2.1=[]:=List.isEmpty_iff.1 FF
           refine⟨lF++gv,⟨some (.box t'),ms,q1.1,q2.1,v,l,lF,gv,[β.cT id],q2.2.2.flatMap (aC β),rfl,rfl,rfl,⟨β.cT id,us,h1,g1,g3,hr,by omega,rfl⟩,DG,rfl,by simp [aC]⟩,Dj,⟨⟨cells,aK⟩,DM⟩, ?_⟩
           intro b hb
           rcases List.mem_append.1 hb with hb | hb
           ·rcases jB b hb with h3 | ⟨x,hx,h3⟩
            ·exact .inl h3
            ·rw[KE] at hx
             simp at hx
           ·exact iO b hb
        | row _ _ _ _ _=>simp at hq
        | d_ _ _=>simp at hq
        | deep _ _ _ _ _=>simp at hq
      | _=>simp [a8] at hq
     | rows ts=>
      simp only[a8,M.ae,Option.bind_eq_some_iff,M.aa,Option.some.injEq] at hq
      obtain⟨q1,aG,q2,cv,rfl⟩:=hq
      obtain⟨gv,DG,Dj,DM,iO⟩:=fh hc ks ms ss l q2 h2 cv
      obtain⟨⟨us,a1,a2,a3⟩,a4⟩:=mA hc h1 aG
      refine⟨gv,⟨some (.rows ts),ms,q1.1,q2.1,v,l,[],gv,q1.2.flatMap (aC β),q2.2.2.flatMap (aC β),rfl,rfl,rfl,⟨us,a1,a2,a3,rfl⟩,DG,rfl,by simp⟩,Dj,a4.append DM,iO⟩
     | jz ts=>
      simp only[a8,M.ae,Option.bind_eq_some_iff] at hq
      obtain⟨q1,aG,hq⟩:=hq
      cases AZ:bN q1.2
      ·simp [AZ] at hq
      simp only[AZ,cond_true,M.ae,Option.bind_eq_some_iff,M.aa,Option.some.injEq] at hq
      obtain⟨q2,cv,rfl⟩:=hq
      obtain⟨gv,DG,Dj,DM,iO⟩:=fh hc ks ms ss l q2 h2 cv
      obtain⟨⟨us,a1,a2,a3⟩,a4⟩:=mA hc h1 aG
      obtain⟨g1,g2⟩:=jA (β:=β) AZ a4
      refine⟨gv,⟨some (.jz ts),ms,q1.1,q2.1,v,l,[],gv,q1.2.flatMap (aC β),q2.2.2.flatMap (aC β),rfl,rfl,rfl,⟨us,a1,a2,a3,rfl⟩,DG,rfl,by rw[List.flatMap_append,g1]⟩,Dj,g2.append DM,iO⟩
     | cI t ts=>
      cases s with
      | ptr id off=>
       cases off with
       | succ off=>simp [a8] at hq
       | zero=>
        simp only[a8,M.aT,Option.bind_eq_some_iff] at hq
        obtain⟨ob,aK,hq⟩:=hq
        cases ob with
        | box t' cells=>
         simp only at hq
         cases kv:Nat.beq t' t
         ·simp [kv] at hq
         ·have kx:=Nat.eq_of_beq_eq_true kv
          subst kx
          simp only[kv,cond_true,M.ae,Option.bind_eq_some_iff] at hq
          obtain⟨q1,aG,hq⟩:=hq
          cases AZ:bN q1.2
          ·simp [AZ] at hq
          simp only[AZ,cond_true,M.ae,Option.bind_eq_some_iff,M.aa,Option.some.injEq] at hq
          obtain⟨q2,cv,rfl⟩:=hq
          obtain⟨gv,DG,Dj,DM,iO⟩:=fh hc ks ms ss l q2 h2 cv
          obtain⟨us,g1,g2,g3,_⟩:=hc.ay id _ aK
          obtain⟨r1,r2⟩:=cx hc k.bA ts cells us q1 g2 aG
          obtain⟨e1,e2⟩:=jA (β:=β) AZ r2
          simp only[ak] at h1
          refine⟨gv,⟨some (.cI t' ts),ms,q1.1,q2.1,v,l,[],gv,β.cT id::q1.2.flatMap (aC β),q2.2.2.flatMap (aC β),rfl,rfl,rfl,⟨β.cT id,us,_,h1,g1,g3,r1,rfl,rfl⟩,DG,rfl, ?_⟩,Dj,⟨⟨cells,aK⟩,e2.append DM⟩,iO⟩
          simp only[List.flatMap_cons,List.flatMap_append,e1,aC,List.cons_append,List.nil_append]
        | row _ _ _ _ _=>simp at hq
        | d_ _ _=>simp at hq
        | deep _ _ _ _ _=>simp at hq
      | _=>simp [a8] at hq
end
end Go.Proofs.YtoaflbnkiobhdaaGreat.Vm
set_option linter.unusedVariables false
set_option linter.unusedSimpArgs false
namespace Go.Proofs.YtoaflbnkiobhdaaGreat.Vm
section
variable {P:Program} {Γ:Ctx} {w0:World} {S:Own} {st:St} {o:Oper} {e:cG} {a:Act} {w w':World}
variable {f:Nat→SV} {h:Nat→Option aj} {β:Env} {φ:Nat→List Nat} {tm:Array Value}
def bq (d:Nat):Nat→List MU→List DC→List (Nat×aj)
 | _,[],_=>[]
 | k,.box id t cs::l,ds=>(id,.box t (cd cs ds 0))::bq d k l (ds.drop cs.length)
 | k,.row id t e u::l,ds=>(id,.row t e (ds.headD default).cl false u)::bq d k l ds.tail
 | k,.deep id t e ts::l,ds=>(id,.deep t e ts (ds.headD default).cl none)::bq d k l ds.tail
 | k,.gone _ _::l,ds=>bq d k l ds
 | k,.cI id t cs ts::l,ds=>(id,.box t (bh d k cs ts ds).1)::bq d (k+aB cs) l (ds.drop cs.length)
 | k,.lJ::l,ds=>bq d k l ds.tail
theorem gC {d:Nat} :∀(k:Nat) (U:List MU) (ds:List DC),jh d k U ds=(bq d k U ds).map fun x=>(x.1,some x.2)
 | _,[],_=>rfl
 | k,.box id t cs::l,ds=>by simp only[jh,bq,List.map_cons,gC k l]
 | k,.row id t e u::l,ds=>by simp only[jh,bq,List.map_cons,gC k l]
 | k,.deep id t e ts::l,ds=>by simp only[jh,bq,List.map_cons,gC k l]
 | k,.gone id dp::l,ds=>by simp only[jh,bq,gC k l]
 | k,.cI id t cs ts::l,ds=>by simp only[jh,bq,List.map_cons,gC (k+aB cs) l]
 | k,.lJ::l,ds=>by simp only[jh,bq,gC k l]
def bX:List MU→List Nat
 | []=>[]
 | .box id _ _::l=>id::bX l
 | .row id _ _ _::l=>id::bX l
 | .deep id _ _ _::l=>id::bX l
 | .gone _ _::l=>bX l
 | .cI id _ _ _::l=>id::bX l
 | .lJ::l=>bX l
theorem gD {i:Nat} :∀(U:List MU),(i∈bn U↔i∈bX U∨i∈cn U)
 | []=>by simp [bn,bX,cn]
 | .box id _ _::l=>by simp only[bn,bX,cn,List.mem_cons,gD l,or_assoc]
 | .row id _ _ _::l=>by simp only[bn,bX,cn,List.mem_cons,gD l,or_assoc]
 | .deep id _ _ _::l=>by simp only[bn,bX,cn,List.mem_cons,gD l,or_assoc]
 | .gone id _::l=>by
  simp only[bn,bX,cn,List.mem_cons,gD l]
  constructor
  ·rintro (h | h | h)
   ·exact .inr (.inl h)
   ·exact .inl h
   ·exact .inr (.inr h)
  ·rintro (h | h | h)
   ·exact .inr (.inl h)
   ·exact .inl h
   ·exact .inr (.inr h)
 | .cI id _ _ _::l=>by simp only[bn,bX,cn,List.mem_cons,gD l,or_assoc]
 | .lJ::l=>by simp only[bn,bX,cn,gD l]
theorem dA {d:Nat} :∀(k:Nat) (U:List MU) (ds:List DC),(bq d k U ds).map (·.1)=bX U
 | _,[],_=>rfl
 | k,.box id t cs::l,ds=>by simp only[bq,bX,List.map_cons,dA k l]
 | k,.row id t e u::l,ds=>by simp only[bq,bX,List.map_cons,dA k l]
 | k,.deep id t e ts::l,ds=>by simp only[bq,bX,List.map_cons,dA k l]
 | k,.gone id dp::l,ds=>by simp only[bq,bX,dA k l]
 | k,.cI id t cs ts::l,ds=>by simp only[bq,bX,List.map_cons,dA (k+aB cs) l]
 | k,.lJ::l,ds=>by simp only[bq,bX,dA k l]
def dt:List MU→Nat
 | []=>0
 | .box _ _ cs::l=>cs.length+dt l
 | .row _ _ _ _::l=>1+dt l
 | .deep _ _ _ _::l=>1+dt l
 | .gone _ _::l=>dt l
 | .cI _ _ cs _::l=>cs.length+dt l
 | .lJ::l=>1+dt l
theorem iE:∀(cs:List CT) (d1 d2:List DC) (k:Nat),k+cs.length≤d1.length→cd cs (d1++d2) k=cd cs d1 k
 | [],_,_,_,_=>rfl
 | c::cs,d1,d2,k,h=>by
  simp only[cd]
  simp only[List.length_cons] at h
  rw[iE cs d1 d2 (k+1) (by omega)]
  congr 2
  simp only[List.getD_eq_getElem?_getD]
  rw[List.getElem?_append_left (by omega)]
theorem jQ {d:Nat} :∀(k:Nat) (cs:List CT) (ts:List TT) (d1 d2:List DC),cs.length≤d1.length→bh d k cs ts (d1++d2)=bh d k cs ts d1
 | _,[],_,_,_,_=>rfl
 | k,c::cs,ts,d1,d2,hl=>by
  cases d1 with
  | nil=>simp at hl
  | cons x d1=>
   have D4:cs.length≤d1.length:=by simpa using hl
   cases c<;>simp only[List.cons_append,bh,List.headD_cons,List.tail_cons]<;>rw[jQ _ cs _ d1 d2 D4]
theorem ew {d:Nat} :∀(k:Nat) (U V:List MU) (d1 d2:List DC),dt U=d1.length→bq d k (U++V) (d1++d2)=bq d k U d1++bq d (k+aQ U) V d2∧dF d k (U++V) (d1++d2)=dF d k U d1++dF d (k+aQ U) V d2
 | k,[],V,d1,d2,hl=>by
  have:d1=[]:=List.length_eq_zero_iff.1 hl.symm
  subst this
  exact⟨rfl,rfl⟩
 | k,.box id t cs::l,V,d1,d2,hl=>by
  simp only[dt] at hl
  obtain⟨h1,h2⟩:=ew (d:=d) k l V (d1.drop cs.length) d2 (by simp;omega)
  simp only[List.cons_append,bq,dF,aQ]
  rw[iE _ _ _ _ (by omega),List.drop_append_of_le_length (by omega),h1,h2]
  exact⟨rfl,rfl⟩
 | k,.row id t e u::l,V,d1,d2,hl=>by
  simp only[dt] at hl
  cases d1 with
  | nil=>simp at hl
  | cons x d1=>
   obtain⟨h1,h2⟩:=ew (d:=d) k l V d1 d2 (by simp at hl;omega)
   simp only[List.cons_append,bq,dF,aQ,List.headD_cons,List.tail_cons,h1,h2,and_self]
 | k,.deep id t e ts::l,V,d1,d2,hl=>by
  simp only[dt] at hl
  cases d1 with
  | nil=>simp at hl
  | cons x d1=>
   obtain⟨h1,h2⟩:=ew (d:=d) k l V d1 d2 (by simp at hl;omega)
   simp only[List.cons_append,bq,dF,aQ,List.headD_cons,List.tail_cons,h1,h2,and_self]
 | k,.gone id dp::l,V,d1,d2,hl=>by
  simp only[dt] at hl
  obtain⟨h1,h2⟩:=ew (d:=d) k l V d1 d2 hl
  simp only[List.cons_append,bq,dF,aQ,h1,h2,and_self]
 | k,.cI id t cs ts::l,V,d1,d2,hl=>by
  simp only[dt] at hl
  obtain⟨h1,h2⟩:=ew (d:=d) (k+aB cs) l V (d1.drop cs.length) d2 (by simp;omega)
  simp only[List.cons_append,bq,dF,aQ]
  rw[jQ _ _ _ _ _ (by omega),List.drop_append_of_le_length (by omega),h1,h2,←Nat.add_assoc,List.append_assoc]
  exact⟨rfl,rfl⟩
 | k,.lJ::l,V,d1,d2,hl=>by
  simp only[dt] at hl
  cases d1 with
  | nil=>simp at hl
  | cons x d1=>
   obtain⟨h1,h2⟩:=ew (d:=d) k l V d1 d2 (by simp at hl;omega)
   simp only[List.cons_append,bq,dF,aQ,List.tail_cons,h1,h2,and_self]
theorem jq:∀(cs:List CT) (r:List DC) (g:Nat→Option Value) (fp:List Nat),aq cs=true→a7 w cs r g fp→fp=[]
 | [],r,g,fp,_,h=>by simp only[a7] at h;exact h.2
 | c::cs,r,g,fp,hf,h=>by
  simp only[a7] at h
  obtain⟨d,r',v,f1,f2,rfl,_,h1,h2,rfl⟩:=h
  cases c with
  | sl e=>simp [aq] at hf
  | int k=>
   simp only[bV] at h1
   obtain⟨_,_,_,_,rfl⟩:=h1
   rw[jq cs r' _ f2 (by simpa [aq] using hf) h2]
   rfl
  | bool=>
   simp only[bV] at h1
   obtain⟨_,_,_,rfl⟩:=h1
   rw[jq cs r' _ f2 (by simpa [aq] using hf) h2]
   rfl
  | str=>
   simp only[bV] at h1
   obtain⟨_,_,_,_,rfl⟩:=h1
   rw[jq cs r' _ f2 (by simpa [aq] using hf) h2]
   rfl
theorem gP {e:List CT} {rows:List (List DC)} {vals:List Value} {aA:List (List Nat)} (hf:aq e=true) (h:dK w e rows vals aA):aA.flatten=[]:=by
 rw[List.flatten_eq_nil_iff]
 intro l hl
 obtain⟨i,hi,rfl⟩:=List.getElem_of_mem hl
 have dQ:i<rows.length:=by have:=h.1;omega
 exact jq e _ _ _ hf (h.2 i rows[i] aA[i] (by simp) (by simp))
theorem eM {d:Nat} :∀(k:Nat) (cs:List CT) (ts:List TT) (ds:List DC) (us:List Value) (mb:List Nat),aR w' cs ts ds us mb→
  ∃N:List ar,(bh d k cs ts ds).2=cR N∧N.map (·.id)=(List.range' k (aB cs)).map (ag d)∧(∀x∈N,x.ok w')∧N.flatMap ar.bB=mb∧ds.length=cs.length∧
   ∀(av:Nat→Prop) (β':Env),(∀x∈N,β'.val x.id=x.v)→af w' av β' (bh d k cs ts ds).1 us
 | k,[],ts,ds,us,mb,hm=>by
  simp only[aR] at hm
  obtain⟨rfl,rfl,rfl,rfl⟩:=hm
  exact⟨[],rfl,rfl,by simp,rfl,rfl,fun av β' _=>by simp [bh,af]⟩
 | k,.int x::cs,ts,ds,us,mb,hm=>by
  simp only[aR] at hm
  obtain⟨dd,aX,v,aM,rfl,rfl,h1,hm⟩:=hm
  obtain⟨N,e1,e2,e3,e4,e5,e6⟩:=eM (d:=d) k cs ts aX aM mb hm
  refine⟨N,by simpa only[bh,List.tail_cons] using e1,by simpa only[aB] using e2,e3,e4,by simp [e5],fun av β' hb=> ?_⟩
  simp only[bh,List.headD_cons,List.tail_cons,af]
  exact⟨v,aM,rfl,dc h1 (by simp),e6 av β' hb⟩
 | k,.bool::cs,ts,ds,us,mb,hm=>by
  simp only[aR] at hm
  obtain⟨dd,aX,v,aM,rfl,rfl,h1,hm⟩:=hm
  obtain⟨N,e1,e2,e3,e4,e5,e6⟩:=eM (d:=d) k cs ts aX aM mb hm
  refine⟨N,by simpa only[bh,List.tail_cons] using e1,by simpa only[aB] using e2,e3,e4,by simp [e5],fun av β' hb=> ?_⟩
  simp only[bh,List.headD_cons,List.tail_cons,af]
  exact⟨v,aM,rfl,dc h1 (by simp),e6 av β' hb⟩
 | k,.str::cs,ts,ds,us,mb,hm=>by
  simp only[aR] at hm
  obtain⟨dd,aX,v,aM,rfl,rfl,h1,hm⟩:=hm
  obtain⟨N,e1,e2,e3,e4,e5,e6⟩:=eM (d:=d) k cs ts aX aM mb hm
  refine⟨N,by simpa only[bh,List.tail_cons] using e1,by simpa only[aB] using e2,e3,e4,by simp [e5],fun av β' hb=> ?_⟩
  simp only[bh,List.headD_cons,List.tail_cons,af]
  exact⟨v,aM,rfl,dc h1 (by simp),e6 av β' hb⟩
 | k,.sl e::cs,ts,ds,us,mb,hm=>by
  simp only[aR] at hm
  obtain⟨t,dJ,rows,aX,v,aM,m1,ga,rfl,rfl,rfl,EE,hm,rfl⟩:=hm
  obtain⟨N,e1,e2,e3,e4,e5,e6⟩:=eM (d:=d) (k+1) cs dJ aX aM ga hm
  have one:∃x:ar,x.id=ag d k∧x.obj=eO t e rows∧x.v=v∧x.ok w'∧x.bB=m1:=by
   cases t with
   | flat t=>
    obtain⟨eB,vals,aA,h1,h2,rfl⟩:=EE
    exact⟨⟨ag d k,t,e,rows,v,aA,none⟩,rfl,rfl,rfl,⟨vals,h1,h2⟩,by simp only[ar.bB,gP eB h2,List.append_nil]⟩
   | deep t its=>
    obtain⟨vals,aS,h1,h2,rfl⟩:=EE
    exact⟨⟨ag d k,t,e,rows,v,aS,some its⟩,rfl,rfl,rfl,⟨vals,h1,h2⟩,rfl⟩
  obtain⟨x,x1,x2,x3,x4,x5⟩:=one
  refine⟨x::N, ?_, ?_, ?_, ?_,by simp [e5],fun av β' hb=> ?_⟩
  ·simp only[bh,List.headD_cons,List.tail_cons,cR,List.map_cons,x1,x2,DC.cl] at e1 ⊢
   rw[e1]
  ·simp only[List.map_cons,aB,List.range'_succ,e2,x1]
  ·intro y hy
   rcases List.mem_cons.1 hy with rfl | hy
   ·exact x4
   ·exact e3 y hy
  ·simp only[List.flatMap_cons,e4,x5]
  ·simp only[bh,List.headD_cons,List.tail_cons,af]
   refine⟨v,aM,rfl, ?_,e6 av β' (fun y hy=>hb y (List.mem_cons_of_mem _ hy))⟩
   simp only[ak]
   have:=hb x (List.mem_cons_self ..)
   rw[x1,x3] at this
   exact⟨this.symm,EE.one⟩
def Eb (h:Nat→Option aj) (β:Env) (w':World) (im:List Nat) (N:List ar) (x:fM):Prop:=
 (∃o,h x.id=some o)∧∀(av:Nat→Prop) (β':Env),β'.val x.id=β.val x.id→β'.cT x.id=β.cT x.id→β'.nb x.id=x.nb→(∀y∈N,β'.val y.id=y.v)→(∀b∈im,¬av b)→fV w' av β' x.id x.obj x.bB
def jo (d k:Nat) (h:Nat→Option aj) (β:Env) (w':World) (im:List Nat) (U:List MU) (od:List DC) (mb:List Nat):Prop:=
 dt U=od.length∧∃(T:List fM) (N:List ar),T.map (fun x=>(x.id,x.obj))=bq d k U od∧dF d k U od=cR N∧N.map (·.id)=(List.range' k (aQ U)).map (ag d)∧(∀x∈N,x.ok w')∧
  (T.flatMap fM.bB++N.flatMap ar.bB).Perm mb∧∀x∈T,Eb h β w' im N x
theorem jo.append {d k:Nat} {im:List Nat} {U V:List MU} {d1 d2:List DC} {m1 m2:List Nat} (h1:jo d k h β w' im U d1 m1) (h2:jo d (k+aQ U) h β w' im V d2 m2):jo d k h β w' im (U++V) (d1++d2) (m1++m2):=by
 obtain⟨l1,T1,N1,e1,f1,i1,o1,b1,g1⟩:=h1
 obtain⟨l2,T2,N2,e2,f2,i2,o2,b2,g2⟩:=h2
 have hlen:∀(U V:List MU),dt (U++V)=dt U+dt V∧aQ (U++V)=aQ U+aQ V:=by
  intro U V
  induction U with
  | nil=>simp [dt,aQ]
  | cons x l ih=>cases x<;>simp only[List.cons_append,dt,aQ,ih.1,ih.2,Nat.add_assoc,and_self]
 obtain⟨a1,a2⟩:=ew (d:=d) k U V d1 d2 l1
 refine⟨by simp only[hlen,List.length_append,l1,l2],T1++T2,N1++N2,by rw[List.map_append,e1,e2,a1],by rw[a2,f1,f2];simp [cR], ?_,fun x hx=> ?_, ?_,fun x hx=> ?_⟩
 ·rw[List.map_append,i1,i2,(hlen U V).2,←List.map_append,List.range'_append_1]
 ·rcases List.mem_append.1 hx with hx | hx
  ·exact o1 x hx
  ·exact o2 x hx
 ·refine List.Perm.trans ?_ (b1.append b2)
  simp only[List.flatMap_append,List.append_assoc]
  refine List.Perm.append_left _ ?_
  rw[←List.append_assoc,←List.append_assoc]
  exact List.Perm.append_right _ List.perm_append_comm
 ·rcases List.mem_append.1 hx with hx | hx
  ·exact⟨(g1 x hx).1,fun av β' a b c dd e=>(g1 x hx).2 av β' a b c (fun y hy=>dd y (List.mem_append_left _ hy)) e⟩
  ·exact⟨(g2 x hx).1,fun av β' a b c dd e=>(g2 x hx).2 av β' a b c (fun y hy=>dd y (List.mem_append_right _ hy)) e⟩
theorem km {d:Nat} (k:Nat) {im:List Nat} :∀(U:List MU),jo d k h β w' im (cN U) [] []
 | []=>⟨rfl,[],[],rfl,rfl,rfl,by simp,List.Perm.refl _,by simp⟩
 | x::l=>by
  have ih:jo d k h β w' im (cN l) [] []:=km k l
  cases x<;>simp only[cN]<;>first
   | exact ih
   | (obtain⟨a,T,N,b,c,dd,e,f,g⟩:=ih;exact⟨a,T,N,b,c,dd,e,f,g⟩)
theorem gN.Fq {t:TT} {e:List CT} {rows:List (List DC)} {mb:List Nat} (h:gN w t e rows (.slice none 0 0) mb):mb=[]:=by
 cases t with
 | flat t=>
  obtain⟨_,_,_,_,_,rfl⟩:=h
  rfl
 | deep t its=>
  obtain⟨vals,aS,h1,h2,rfl⟩:=h
  rcases h1.2 with ⟨_,h0,_⟩ | ⟨g,cap,cur,hv,_⟩
  ·have:aS=[]:=List.length_eq_zero_iff.1 (by rw[h2.1,h0])
   subst this
   rfl
  ·cases hv
theorem gh (hc:Core w0 S f h β φ tm w) {d:Nat} {im:List Nat} :∀(k:Nat) (cs:List CT) (ts:List TT) (ss:List SV) (us:List Value) (q:List DC×List MU) (od:List DC) (mb:List Nat),af w (Av h β) β ss us→(aw cs ts ss).val f h=some q→iW w' cs ts od us mb→
  jo d k h β w' im q.2 od mb
 | k,[],ts,ss,us,q,od,mb,hs,hq,ho=>by
  cases ts with
  | nil=>
   cases ss with
   | nil=>
    simp only[aw,M.aa,Option.some.injEq] at hq
    subst hq
    simp only[iW] at ho
    rw[ho.1,ho.2.2]
    exact⟨rfl,[],[],rfl,rfl,rfl,by simp,List.Perm.refl _,by simp⟩
   | cons s ss=>simp [aw] at hq
  | cons t ts=>simp [aw] at hq
 | k,.int kk::cs,ts,ss,us,q,od,mb,hs,hq,ho=>by
  cases ss with
  | nil=>simp [aw] at hq
  | cons s ss=>
   simp only[af] at hs
   obtain⟨v,aM,rfl,h1,h2⟩:=hs
   simp only[aw,M.ae,Option.bind_eq_some_iff,M.aa,Option.some.injEq] at hq
   obtain⟨q1,aG,q2,cv,rfl⟩:=hq
   simp only[iW] at ho
   obtain⟨v',FN,e0,ho⟩:=ho
   simp only[List.cons.injEq] at e0
   obtain⟨rfl,rfl⟩:=e0
   exact gh (d:=d) hc k cs ts ss aM q2 od mb h2 cv ho
 | k,.bool::cs,ts,ss,us,q,od,mb,hs,hq,ho=>by
  cases ss with
  | nil=>simp [aw] at hq
  | cons s ss=>
   simp only[af] at hs
   obtain⟨v,aM,rfl,h1,h2⟩:=hs
   simp only[aw,M.ae,Option.bind_eq_some_iff,M.aa,Option.some.injEq] at hq
   obtain⟨q1,aG,q2,cv,rfl⟩:=hq
   simp only[iW] at ho
   obtain⟨v',FN,e0,ho⟩:=ho
   simp only[List.cons.injEq] at e0
   obtain⟨rfl,rfl⟩:=e0
   exact gh (d:=d) hc k cs ts ss aM q2 od mb h2 cv ho
 | k,.str::cs,ts,ss,us,q,od,mb,hs,hq,ho=>by
  cases ss with
  | nil=>simp [aw] at hq
  | cons s ss=>
   simp only[af] at hs
   obtain⟨v,aM,rfl,h1,h2⟩:=hs
   simp only[aw,M.ae,Option.bind_eq_some_iff,M.aa,Option.some.injEq] at hq
   obtain⟨q1,aG,q2,cv,rfl⟩:=hq
   simp only[iW] at ho
   obtain⟨v',FN,e0,ho⟩:=ho
   simp only[List.cons.injEq] at e0
   obtain⟨rfl,rfl⟩:=e0
   exact gh (d:=d) hc k cs ts ss aM q2 od mb h2 cv ho
 | k,.sl el::cs,ts,ss,us,q,od,mb,hs,hq,ho=>by
  cases ts with
  | nil=>simp [aw] at hq
  | cons t ts=>
   cases ss with
   | nil=>cases t<;>simp [aw] at hq
   | cons s ss=>
    simp only[af] at hs
    obtain⟨v,aM,rfl,h1,h2⟩:=hs
    simp only[iW] at ho
    obtain⟨t1,Gn,rows,LU,v1,FN,m1,ga,e1,rfl,e2,o1,o3,rfl⟩:=ho
    simp only[List.cons.injEq] at e1 e2
    obtain⟨rfl,rfl⟩:=e1
    obtain⟨rfl,rfl⟩:=e2
    have pack:∀(q1:DC×MU) (q2:List DC×List MU),jo d k h β w' im [q1.2] [.sl rows] m1→(aw cs ts ss).val f h=some q2→jo d k h β w' im (q1.2::q2.2) (.sl rows::LU) (m1++ga):=by
     intro q1 q2 k1 cv
     exact k1.append (gh (d:=d) hc _ cs ts ss aM q2 LU ga h2 cv o3)
    have none_:v= .slice none 0 0→jo d k h β w' im [.lJ] [.sl rows] m1:=by
     rintro rfl
     exact⟨rfl,[],[],rfl,rfl,rfl,by simp,by rw[o1.Fq];exact List.Perm.refl _,by simp⟩
    cases t with
    | flat t=>
     simp only[aw,M.ae,Option.bind_eq_some_iff,M.aa,Option.some.injEq] at hq
     obtain⟨q1,aG,q2,cv,rfl⟩:=hq
     refine pack q1 q2 ?_ cv
     cases s with
     | nil=>
      simp only at aG
      cases eB:aq el
      ·simp [eB] at aG
      ·simp only[eB,cond_true,M.aa,Option.some.injEq] at aG
       subst aG
       simp only[ak] at h1
       exact none_ h1
     | own id=>
      simp only[M.aT,Option.bind_eq_some_iff] at aG
      obtain⟨ob,aK,aG⟩:=aG
      cases ob with
      | row t' e' r fz u=>
       cases fz with
       | true=>simp at aG
       | false=>
        simp only at aG
        cases aI:Nat.beq t' t && aF e' el && aq el
        ·simp [aI] at aG
        ·simp only[aI,cond_true,M.aa,Option.some.injEq] at aG
         subst aG
         simp only[Bool.and_eq_true] at aI
         have ht:=Nat.eq_of_beq_eq_true aI.1.1
         have he:=aN _ _ aI.1.2
         subst ht
         subst he
         simp only[ak] at h1
         obtain⟨eB,vals,aA,p1,p2,rfl⟩:=o1
         refine⟨rfl,[⟨id,.row t' e' rows false u,[],v.ownBlock.toList⟩],[],rfl,rfl,rfl,by simp,by simp,fun x hx=> ?_⟩
         rw[List.mem_singleton] at hx
         subst hx
         refine⟨⟨_,aK⟩,fun av β' hv hb hn _ ko=> ?_⟩
         simp only at hv hb hn ⊢
         refine⟨vals,aA,by rw[hv,←h1.1];exact p1,p2,by rw[gP eB p2];simp, ?_⟩
         rw[hv,←h1.1,gP eB p2]
         cases u<;>simp
      | box _ _=>simp at aG
      | d_ _ _=>simp at aG
      | deep _ _ _ _ _=>simp at aG
     | _=>simp at aG
    | deep t its=>
     simp only[aw,M.ae,Option.bind_eq_some_iff,M.aa,Option.some.injEq] at hq
     obtain⟨q1,aG,q2,cv,rfl⟩:=hq
     refine pack q1 q2 ?_ cv
     cases s with
     | nil=>
      simp only[M.aa,Option.some.injEq] at aG
      subst aG
      simp only[ak] at h1
      exact none_ h1
     | own id=>
      simp only[M.aT,Option.bind_eq_some_iff] at aG
      obtain⟨ob,aK,aG⟩:=aG
      cases ob with
      | deep t' e' dJ r hl=>
       cases hl with
       | some _=>simp at aG
       | none=>
        simp only at aG
        cases aI:Nat.beq t' t && aF e' el && fL dJ its
        ·simp [aI] at aG
        ·simp only[aI,cond_true,M.aa,Option.some.injEq] at aG
         subst aG
         simp only[Bool.and_eq_true] at aI
         have ht:=Nat.eq_of_beq_eq_true aI.1.1
         have he:=aN _ _ aI.1.2
         have FJ:=gj _ _ aI.2
         subst ht
         subst he
         subst FJ
         simp only[ak] at h1
         obtain⟨vals,aS,p1,p2,rfl⟩:=o1
         refine⟨rfl,[⟨id,.deep t' e' dJ rows none,aS.flatten,v.ownBlock.toList++aS.flatten⟩],[],rfl,rfl,rfl,by simp,by simp,fun x hx=> ?_⟩
         rw[List.mem_singleton] at hx
         subst hx
         refine⟨⟨_,aK⟩,fun av β' hv hb hn _ ko=> ?_⟩
         simp only at hv hb hn ⊢
         exact⟨vals,aS,by rw[hv,←h1.1];exact p1,p2,hn,by rw[hv,←h1.1]⟩
      | box _ _=>simp at aG
      | d_ _ _=>simp at aG
      | row _ _ _ _ _=>simp at aG
     | _=>simp at aG
theorem iD (hc:Core w0 S f h β φ tm w) {d:Nat} {H7:List Nat} :∀(k0:Nat) (ks:List AK) (ms:List (Option MK)) (ss:List SV) (vs:List Value) (q:List DC×eZ×List MU) (od:List DC) (im mb:List Nat),af w (Av h β) β ss vs→(a8 ks ms ss).val f h=some q→lO w' ks ms od vs im mb→(∀b∈im,b∈H7)→
  jo d k0 h β w' H7 q.2.2 od mb
 | k0,[],ms,ss,vs,q,od,im,mb,hs,hq,ho,_=>by
  cases ms with
  | nil=>
   cases ss with
   | nil=>
    simp only[a8,M.aa,Option.some.injEq] at hq
    subst hq
    simp only[lO] at ho
    rw[ho.1,ho.2.2.2]
    exact⟨rfl,[],[],rfl,rfl,rfl,by simp,List.Perm.refl _,by simp⟩
   | cons s ss=>simp [a8] at hq
  | cons m ms=>simp [a8] at hq
 | k0,k::ks,ms,ss,vs,q,od,im,mb,hs,hq,ho,ko=>by
  simp only[lO] at ho
  obtain⟨m,ms,d1,d2,v,l,i1,i2,b1,b2,rfl,rfl,rfl,o1,o2,rfl,rfl⟩:=ho
  cases ss with
  | nil=>cases m with
   | none=>simp [a8] at hq
   | some m=>cases m<;>simp [a8] at hq
  | cons s ss=>
   simp only[af] at hs
   obtain⟨v0,l0,e0,h1,h2⟩:=hs
   simp only[List.cons.injEq] at e0
   obtain⟨rfl,rfl⟩:=e0
   have AV:∀b∈i2,b∈H7:=fun b hb=>ko b (List.mem_append_right _ hb)
   cases m with
   | none=>
    simp only[a8,M.ae,Option.bind_eq_some_iff,M.aa,Option.some.injEq] at hq
    obtain⟨q1,aG,q2,cv,rfl⟩:=hq
    simp only[DA] at o1
    obtain⟨rfl,rfl,rfl⟩:=o1
    exact iD (d:=d) hc k0 ks ms ss l q2 d2 i2 b2 h2 cv o2 AV
   | some m=>
    cases m with
    | box t=>
     cases s with
     | ptr id off=>
      cases off with
      | succ off=>simp [a8] at hq
      | zero=>
       simp only[a8,M.aT,Option.bind_eq_some_iff] at hq
       obtain⟨ob,aK,hq⟩:=hq
       cases ob with
       | box t' cells=>
        simp only at hq
        cases kv:Nat.beq t' t
        ·simp [kv] at hq
        ·have kx:=Nat.eq_of_beq_eq_true kv
         subst kx
         simp only[kv,cond_true,M.ae,Option.bind_eq_some_iff] at hq
         obtain⟨q1,aG,hq⟩:=hq
         cases FF:q1.2.1.isEmpty
         ·simp [FF] at hq
         ·simp only[FF,cond_true,M.ae,Option.bind_eq_some_iff,M.aa,Option.some.injEq] at hq
          obtain⟨q2,cv,rfl⟩:=hq
          have k2:=iD (d:=d) hc (k0+aQ [.box id t' k.bA]) ks ms ss l q2 d2 i2 b2 h2 cv o2 AV
          obtain⟨M5,g1,g2,g3,g4⟩:=hc.ay id _ aK
          simp only[DA] at o1
          obtain⟨g,us,ev,Lk,Ll,JX,M1,rfl⟩:=o1
          simp only[ak] at h1
          have eg:g=β.cT id:=by
           rw[h1] at ev
           simp only[Value.pointer.injEq,Option.some.injEq,Addr.mk.injEq,and_true] at ev
           exact ev.symm
          subst eg
          have Kf:d1.length=k.bA.length:=a7.length _ _ _ _ JX
          refine jo.append (U:=[.box id t' k.bA]) ⟨by simp only[dt,Kf];omega,[⟨id,.box t' (cd k.bA d1 0),[],[β.cT id]⟩],[],rfl,rfl,rfl,by simp,by simp,fun x hx=> ?_⟩ k2
          rw[List.mem_singleton] at hx
          subst hx
          refine⟨⟨_,aK⟩,fun av β' hv hb hn _ IE=> ?_⟩
          simp only at hv hb hn ⊢
          obtain⟨cK,l1,l2,l3,l4⟩:=a7.bL (β:=β') (av:=av) JX (fun b hb=>IE b (ko b (List.mem_append_left _ hb))) k.bA.length 0 (by omega)
          have ee:cK=us:=by
           apply List.ext_getElem?
           intro j
           by_cases hj:j<cK.length
           ·have:=l2 j cK[j] (by simp)
            simp only[Nat.zero_add] at this
            rw[this]
            simp
           ·rw[List.getElem?_eq_none (by omega),List.getElem?_eq_none (by omega)]
          subst ee
          simp only[List.drop_zero,List.take_length] at l3
          exact⟨cK,by rw[hb];exact Lk,l3,Ll,by rw[hb]⟩
       | row _ _ _ _ _=>simp at hq
       | d_ _ _=>simp at hq
       | deep _ _ _ _ _=>simp at hq
     | _=>simp [a8] at hq
    | rows ts=>
     simp only[a8,M.ae,Option.bind_eq_some_iff,M.aa,Option.some.injEq] at hq
     obtain⟨q1,aG,q2,cv,rfl⟩:=hq
     have k2:=iD (d:=d) hc (k0+aQ q1.2) ks ms ss l q2 d2 i2 b2 h2 cv o2 AV
     simp only[DA] at o1
     obtain⟨us,ev,o1,rfl⟩:=o1
     have one:jo d k0 h β w' H7 q1.2 d1 b1:=by
      unfold iq at aG
      cases hk:k.agg with
      | true=>
       cases s with
       | agg cs=>
        simp only[hk] at aG
        simp only[ak] at h1
        obtain⟨aM,rfl,gk,bb⟩:=h1
        rw[hk] at ev
        simp only[cond_true,Value.agg.injEq] at ev
        have:aM=us:=by simpa using congrArg Array.toList ev
        subst this
        exact gh (d:=d) hc k0 k.bA ts cs aM q1 d1 b1 gk aG o1
       | _=>simp [hk] at aG
      | false=>
       have lv:(aw k.bA ts [s]).val f h=some q1:=by
        cases s<;>simp only[hk] at aG<;>first | exact aG | (simp at aG)
       rw[hk] at ev
       simp only[cond_false] at ev
       subst ev
       have hO:af w (Av h β) β [s] [v]:=by simp only[af];exact⟨v,[],rfl,h1,rfl⟩
       exact gh (d:=d) hc k0 k.bA ts [s] [v] q1 d1 b1 hO lv o1
     exact one.append k2
    | jz ts=>
     simp only[a8,M.ae,Option.bind_eq_some_iff] at hq
     obtain⟨q1,aG,hq⟩:=hq
     cases AZ:bN q1.2
     ·simp [AZ] at hq
     simp only[AZ,cond_true,M.ae,Option.bind_eq_some_iff,M.aa,Option.some.injEq] at hq
     obtain⟨q2,cv,rfl⟩:=hq
     simp only[DA] at o1
     obtain⟨rfl,rfl,rfl⟩:=o1
     exact (km k0 q1.2).append (iD (d:=d) hc _ ks ms ss l q2 d2 i2 b2 h2 cv o2 AV)
    | cI t ts=>
     cases s with
     | ptr id off=>
      cases off with
      | succ off=>simp [a8] at hq
      | zero=>
       simp only[a8,M.aT,Option.bind_eq_some_iff] at hq
       obtain⟨ob,aK,hq⟩:=hq
       cases ob with
       | box t' cells=>
        simp only at hq
        cases kv:Nat.beq t' t
        ·simp [kv] at hq
        ·have kx:=Nat.eq_of_beq_eq_true kv
         subst kx
         simp only[kv,cond_true,M.ae,Option.bind_eq_some_iff] at hq
         obtain⟨q1,aG,hq⟩:=hq
         cases AZ:bN q1.2
         ·simp [AZ] at hq
         simp only[AZ,cond_true,M.ae,Option.bind_eq_some_iff,M.aa,Option.some.injEq] at hq
         obtain⟨q2,cv,rfl⟩:=hq
         simp only[DA] at o1
         obtain⟨g,us,mm,ev,Lk,Ll,JX,rfl,rfl⟩:=o1
         simp only[ak] at h1
         have eg:g=β.cT id:=by
          rw[h1] at ev
          simp only[Value.pointer.injEq,Option.some.injEq,Addr.mk.injEq,and_true] at ev
          exact ev.symm
         subst eg
         obtain⟨N,n1,n2,n3,n4,n5,n6⟩:=eM (d:=d) k0 k.bA ts d1 us mm JX
         have first:jo d k0 h β w' H7 [.cI id t' k.bA ts] d1 (β.cT id::mm):=by
          refine⟨by simp only[dt,n5];omega,[⟨id,.box t' (bh d k0 k.bA ts d1).1,[],[β.cT id]⟩],N,rfl,by simp only[dF,List.append_nil,n1],by simpa only[aQ,Nat.add_zero] using n2,n3,by simp [n4],fun x hx=> ?_⟩
          rw[List.mem_singleton] at hx
          subst hx
          refine⟨⟨_,aK⟩,fun av β' hv hb hn hN IE=> ?_⟩
          simp only at hv hb hn ⊢
          exact⟨us,by rw[hb];exact Lk,n6 av β' hN,Ll,by rw[hb]⟩
         have two:=(km (d:=d) (h:=h) (β:=β) (w':=w') (im:=H7) (k0+aQ [.cI id t' k.bA ts]) q1.2).append (iD (d:=d) hc _ ks ms ss l q2 d2 i2 b2 h2 cv o2 AV)
         exact first.append two
       | row _ _ _ _ _=>simp at hq
       | d_ _ _=>simp at hq
       | deep _ _ _ _ _=>simp at hq
     | _=>simp [a8] at hq
end
end Go.Proofs.YtoaflbnkiobhdaaGreat.Vm
set_option linter.unusedVariables false
set_option linter.unusedSimpArgs false
namespace Go.Proofs.YtoaflbnkiobhdaaGreat.Vm
section
variable {P:Program} {Γ:Ctx} {w0:World} {S:Own} {st:St} {o:Oper} {e:cG} {a:Act} {w w':World}
variable {f:Nat→SV} {h:Nat→Option aj} {β:Env} {φ:Nat→List Nat} {tm:Array Value}
theorem EB (T:List fM) (l:List (Nat×Option aj)) (j:Nat):fo (T.map (fun x=>(x.id,some x.obj))++l) h j=match mq T j with | some x=>some x.obj | none=>fo l h j:=by
 induction T with
 | nil=>rfl
 | cons y N ih=>
  simp only[List.map_cons,List.cons_append,fo,az,mq]
  split
  ·rfl
  ·exact ih
theorem Ey (D:List Nat) (l:List (Nat×Option aj)) (j:Nat):fo (i6 D++l) h j=if j∈D then none else fo l h j:=by
 induction D with
 | nil=>simp [i6]
 | cons y D ih=>
  simp only[i6,List.map_cons,List.cons_append,fo,az,List.mem_cons] at ih ⊢
  by_cases hj:j=y
  ·simp [hj]
  ·rw[if_neg hj,ih]
   simp [hj]
theorem Aq {i:Nat} :∀ {m:eZ},bP i m=true→∀x∈m,x.1≠i
 | [],_,x,hx=>by simp at hx
 | (k,y)::l,hm,x,hx=>by
  simp only[bP,Bool.and_eq_true,Bool.not_eq_true'] at hm
  rcases List.mem_cons.1 hx with rfl | hx
  ·exact Nat.ne_of_beq_eq_false hm.1
  ·exact Aq hm.2 x hx
theorem l5 {i:Nat} :∀ {m:eZ},bP i m=true→fo (ai m) h i=h i
 | [],_=>rfl
 | (k,e',r,u)::l,hm=>by
  simp only[bP,Bool.and_eq_true,Bool.not_eq_true'] at hm
  simp only[ai,fo,az]
  rw[if_neg (fun he=>Nat.ne_of_beq_eq_false hm.1 he.symm)]
  exact l5 hm.2
theorem dk:∀ {U:List MU},cS h U→∀b∈U.flatMap (aC β),∃id∈bn U,∃ob,h id=some ob∧b∈al β id ob
 | [],_,b,hb=>by simp at hb
 | .box id t cs::l,hm,b,hb=>by
  simp only[cS] at hm
  obtain⟨⟨cells,hc⟩,hm⟩:=hm
  rw[List.flatMap_cons,List.mem_append] at hb
  rcases hb with hb | hb
  ·exact⟨id,List.mem_cons_self ..,_,hc,hb⟩
  ·obtain⟨i,hi,ob,h1,h2⟩:=dk hm b hb
   exact⟨i,List.mem_cons_of_mem _ hi,ob,h1,h2⟩
 | .row id t e u::l,hm,b,hb=>by
  simp only[cS] at hm
  obtain⟨⟨_,rows,hc⟩,hm⟩:=hm
  rw[List.flatMap_cons,List.mem_append] at hb
  rcases hb with hb | hb
  ·exact⟨id,List.mem_cons_self ..,_,hc,hb⟩
  ·obtain⟨i,hi,ob,h1,h2⟩:=dk hm b hb
   exact⟨i,List.mem_cons_of_mem _ hi,ob,h1,h2⟩
 | .deep id t e ts::l,hm,b,hb=>by
  simp only[cS] at hm
  obtain⟨⟨rows,hc⟩,hm⟩:=hm
  rw[List.flatMap_cons,List.mem_append] at hb
  rcases hb with hb | hb
  ·exact⟨id,List.mem_cons_self ..,_,hc,hb⟩
  ·obtain⟨i,hi,ob,h1,h2⟩:=dk hm b hb
   exact⟨i,List.mem_cons_of_mem _ hi,ob,h1,h2⟩
 | .gone id dp::l,hm,b,hb=>by
  simp only[cS] at hm
  obtain⟨⟨o,ho,hg⟩,hm⟩:=hm
  rw[List.flatMap_cons,List.mem_append] at hb
  rcases hb with hb | hb
  ·exact⟨id,List.mem_cons_self ..,_,ho,by rw[hg.al];exact hb⟩
  ·obtain⟨i,hi,ob,h1,h2⟩:=dk hm b hb
   exact⟨i,List.mem_cons_of_mem _ hi,ob,h1,h2⟩
 | .cI id t cs ts::l,hm,b,hb=>by
  simp only[cS] at hm
  obtain⟨⟨cells,hc⟩,hm⟩:=hm
  rw[List.flatMap_cons,List.mem_append] at hb
  rcases hb with hb | hb
  ·exact⟨id,List.mem_cons_self ..,_,hc,hb⟩
  ·obtain⟨i,hi,ob,h1,h2⟩:=dk hm b hb
   exact⟨i,List.mem_cons_of_mem _ hi,ob,h1,h2⟩
 | .lJ::l,hm,b,hb=>by
  rw[List.flatMap_cons] at hb
  exact dk (U:=l) hm b (by simpa [aC] using hb)
theorem cZ {i:Nat} {l:List Nat} (hn:cY (i::l)=true):i ∉ l∧cY l=true:=by
 simp only[cY,Bool.and_eq_true,Bool.not_eq_true',List.any_eq_false] at hn
 refine⟨fun hi=> ?_,hn.2⟩
 exact hn.1 i hi (Nat.beq_refl i)
theorem dS (hc:Core w0 S f h β φ tm w):∀ {U:List MU},cS h U→cY (bn U)=true→(U.flatMap (aC β)).Nodup
 | [],_,_=>by simp
 | .box id t cs::l,hm,hn=>by
  simp only[cS] at hm
  obtain⟨⟨cells,ho⟩,hm⟩:=hm
  obtain⟨h1,h2⟩:=cZ hn
  rw[List.flatMap_cons,List.nodup_append]
  refine⟨by simp [aC],dS hc hm h2, ?_⟩
  intro b hb b' ax EC
  subst EC
  obtain⟨i,hi,ob,d8,iB⟩:=dk (β:=β) hm b ax
  exact hc.sep id i _ ob (fun he=>h1 (he ▸ hi)) ho d8 b (ah (hc.ay _ _ ho) b hb) (ah (hc.ay _ _ d8) b iB)
 | .row id t e u::l,hm,hn=>by
  simp only[cS] at hm
  obtain⟨⟨_,rows,ho⟩,hm⟩:=hm
  obtain⟨h1,h2⟩:=cZ hn
  rw[List.flatMap_cons,List.nodup_append]
  refine⟨?_,dS hc hm h2, ?_⟩
  ·simp only[aC]
   cases (β.val id).ownBlock<;>simp
  ·intro b hb b' ax EC
   subst EC
   obtain⟨i,hi,ob,d8,iB⟩:=dk (β:=β) hm b ax
   exact hc.sep id i _ ob (fun he=>h1 (he ▸ hi)) ho d8 b (ah (hc.ay _ _ ho) b hb) (ah (hc.ay _ _ d8) b iB)
 | .deep id t e ts::l,hm,hn=>by
  simp only[cS] at hm
  obtain⟨⟨rows,ho⟩,hm⟩:=hm
  obtain⟨h1,h2⟩:=cZ hn
  rw[List.flatMap_cons,List.nodup_append]
  refine⟨?_,dS hc hm h2, ?_⟩
  ·obtain⟨vals,aS,_,_,g3,g4⟩:=hc.ay _ _ ho
   have:=(hc.fresh _ _ ho).1
   rw[g4] at this
   simpa only[aC,g3] using this
  ·intro b hb b' ax EC
   subst EC
   obtain⟨i,hi,ob,d8,iB⟩:=dk (β:=β) hm b ax
   exact hc.sep id i _ ob (fun he=>h1 (he ▸ hi)) ho d8 b (ah (hc.ay _ _ ho) b hb) (ah (hc.ay _ _ d8) b iB)
 | .gone id dp::l,hm,hn=>by
  simp only[cS] at hm
  obtain⟨⟨o,ho,hg⟩,hm⟩:=hm
  obtain⟨h1,h2⟩:=cZ hn
  rw[List.flatMap_cons,List.nodup_append]
  refine⟨?_,dS hc hm h2, ?_⟩
  ·rw[←hg.al]
   rcases hg with ⟨_,t,e,rows,u,_,rfl⟩ | ⟨_,t,e,ts,rows,rfl⟩
   ·simp only[al]
    cases (β.val id).ownBlock<;>simp
   ·obtain⟨vals,aS,_,_,g3,g4⟩:=hc.ay _ _ ho
    have:=(hc.fresh _ _ ho).1
    rw[g4] at this
    simpa only[al,g3] using this
  ·intro b hb b' ax EC
   subst EC
   rw[←hg.al] at hb
   obtain⟨i,hi,ob,d8,iB⟩:=dk (β:=β) hm b ax
   exact hc.sep id i _ ob (fun he=>h1 (he ▸ hi)) ho d8 b (ah (hc.ay _ _ ho) b hb) (ah (hc.ay _ _ d8) b iB)
 | .cI id t cs ts::l,hm,hn=>by
  simp only[cS] at hm
  obtain⟨⟨cells,ho⟩,hm⟩:=hm
  obtain⟨h1,h2⟩:=cZ hn
  rw[List.flatMap_cons,List.nodup_append]
  refine⟨by simp [aC],dS hc hm h2, ?_⟩
  intro b hb b' ax EC
  subst EC
  obtain⟨i,hi,ob,d8,iB⟩:=dk (β:=β) hm b ax
  exact hc.sep id i _ ob (fun he=>h1 (he ▸ hi)) ho d8 b (ah (hc.ay _ _ ho) b hb) (ah (hc.ay _ _ d8) b iB)
 | .lJ::l,hm,hn=>by
  rw[List.flatMap_cons]
  simpa [aC] using dS hc (U:=l) hm hn
theorem kZ {d:Nat} :∀(BW:List RK) (k:Nat) (r1 r2:List DC),r1.length=cg BW→bj d k BW (r1++r2)=bj d k BW r1
 | [],_,_,_,_=>rfl
 | r::rs,k,r1,r2,hl=>by
  simp only[cg] at hl
  simp only[bj]
  rw[List.take_append_of_le_length (by omega),List.drop_append_of_le_length (by omega),kZ rs _ _ r2 (by simp;omega)]
end
end Go.Proofs.YtoaflbnkiobhdaaGreat.Vm
set_option linter.unusedVariables false
set_option linter.unusedSimpArgs false
namespace Go.Proofs.YtoaflbnkiobhdaaGreat.Vm
section
variable {P:Program} {Γ:Ctx} {w0:World} {S:Own} {st:St} {o:Oper} {e:cG} {a:Act} {w w':World}
variable {f:Nat→SV} {h:Nat→Option aj} {β:Env} {φ:Nat→List Nat} {tm:Array Value}
theorem B2 (eV:bE P Γ) {s:Sum} {g:Nat} (hs:Gc Γ g=some s) (eH:s.G4=false) (GM:s.pt=none) (JN:s.ms≠[]) (hR:Rel w0 S st a w) (hd:∀d,o.dst=some d→ba st.n d) (bM:∀d,o.dst=some d→e.ow≠[]→bw st d)
  {l:List SV} {us:List Value} (Kh:∀fn,P.funcs[g]? =some fn→fn.body.isSome=true→(fn.name== "runtime.NumGoroutine")=false→(execOp a.eval o).run P w= .ok (.enter g us.toArray) w)
  (hl:∀β φ,Core w0 S st.get st.obj β φ a.tmps w→af w (Av st.obj β) β l us) (he:(AF s o.dst l).val st.get st.obj=some e) (aJ:e.ok=true):Good P w0 S st o e a w:=by
 have hH:Cl P g s:=by
  have h0:=eV g s hs
  unfold gO at h0
  rw[eH,cond_false,GM] at h0
  simp only at h0
  split at h0
  ·rename_i hm
   exact absurd hm JN
  ·exact h0
 unfold AF at he
 cases aI:Nat.blt (a_ s.rs) 64 && !(shares s) && (o.dst.isSome || s.rs.isEmpty)
 ·simp [aI] at he
 simp only[aI,cond_true,M.ae,Option.bind_eq_some_iff] at he
 obtain⟨r,hr,he⟩:=he
 cases JF:aO r.2.1 && cY (bn r.2.2) && (bn r.2.2).all (fun i=>bP i r.2.1) && (Nat.blt (a_ s.rs+aQ r.2.2) 64 && (o.dst.isSome || Nat.beq (aQ r.2.2) 0))
 ·simp [JF] at he
 simp only[JF,cond_true,M.aa,Option.some.injEq] at he
 subst he
 simp only[Bool.and_eq_true,Bool.not_eq_true',List.all_eq_true] at aI JF
 obtain⟨⟨L3,A0⟩,mQ⟩:=aI
 obtain⟨⟨⟨Bo,Je⟩,LH⟩,Hc,Hk⟩:=JF
 have Hc:a_ s.rs+aQ r.2.2<64:=Nat.le_of_ble_eq_true Hc
 obtain⟨⟨fn,hf,hb,hn⟩,Ct⟩:=hH
 obtain⟨β,φ,hc⟩:=hR.core
 obtain⟨fp,cu,kr,Ci,lr⟩:=fh hc s.ps s.ms l _ r (hl β φ hc) hr
 have KC:=dS hc Ci Je
 have KB:∀b∈r.2.2.flatMap (aC β),b ∉ fp:=by
  intro b hb Ma
  obtain⟨id,dR,ob,aK,jD⟩:=dk (β:=β) Ci b hb
  rcases lr b Ma with h3 | ⟨x,hx,kn⟩
  ·exact h3 (.inl ⟨id,ob,aK,jD⟩)
  ·obtain⟨_,Cj,_⟩:=kr x hx
   rw[fk Cj] at kn
   have cJ:x.1≠id:=Aq (LH id dR) x hx
   exact hc.sep x.1 id _ ob cJ Cj aK b (ah (hc.ay _ _ Cj) b kn) (ah (hc.ay _ _ aK) b jD)
 intro Q
 unfold Oper.wp
 rw[Kh fn hf hb hn,Oper.upon_enter]
 refine (Ct w r.1 _ fp _ cu KC KB aJ).mono ?_
 rintro _ w' ⟨vs,JY,im,tp,mI,rd,od,ψ,rfl,JI,j_,hk,AY,hnd,mH,I4,Lh,JV,AV⟩
 have Kr:im=[]:=fl.jR _ _ _ _ _ _ (by simpa [shares] using A0) AY
 have Gz:(s.fn r.1).2.drop (cg s.rs)=od:=by rw[JI,←j_,List.drop_left]
 have Ja:bj (o.dst.getD 0) 0 s.rs (s.fn r.1).2=bj (o.dst.getD 0) 0 s.rs rd:=by rw[JI,kZ _ _ _ _ j_]
 obtain⟨N1,n1,n2,n3,n4,n5,n6⟩:=jl (d:=o.dst.getD 0) s.rs 0 _ vs JY im tp AY
 obtain⟨_,T,N2,hT,Ls,q2,q3,J9,BG⟩:=iD (d:=o.dst.getD 0) (w':=w') hc (a_ s.rs) s.ps s.ms l _ r od mI ψ (hl β φ hc) hr I4 (fun b hb=>hb)
 obtain⟨N,hN⟩:∃N,N=N1++N2:=⟨_,rfl⟩
 have J8:N.flatMap ar.bB=JY++N2.flatMap ar.bB:=by rw[hN,List.flatMap_append,n4]
 have Hd:N.map (·.id)=(List.range' 0 (a_ s.rs+aQ r.2.2)).map (ag (o.dst.getD 0)):=by
  have h0:List.range' 0 (a_ s.rs)++List.range' (a_ s.rs) (aQ r.2.2)=List.range' 0 (a_ s.rs+aQ r.2.2):=by
   have:=List.range'_append_1 (s:=0) (m:=a_ s.rs) (n:=aQ r.2.2)
   rwa [Nat.zero_add] at this
  rw[hN,List.map_append,n2,q2,←List.map_append,h0]
 have Lt:T.map fM.id=bX r.2.2:=by
  rw[←dA (d:=o.dst.getD 0) (a_ s.rs) r.2.2 od,←hT,List.map_map]
  rfl
 have Jl:∀b∈T.flatMap fM.bB,b∈ψ:=fun b hb=>J9.subset (List.mem_append_left _ hb)
 have Ga:∀b∈N2.flatMap ar.bB,b∈ψ:=fun b hb=>J9.subset (List.mem_append_right _ hb)
 have JD:=J9.symm.nodup Lh
 rw[List.nodup_append] at JD
 obtain⟨M',Gw⟩:∃M':eZ,M'=bif eY s.ms then [] else r.2.1:=⟨_,rfl⟩
 have hM:bS st.obj M'∧aO M'=true∧∀id∈bn r.2.2,bP id M'=true:=by
  cases jn:eY s.ms with
  | true=>rw[Gw,jn];exact⟨by simp [bS],rfl,fun _ _=>rfl⟩
  | false=>rw[Gw,jn];exact⟨kr,Bo,LH⟩
 have hfz:(bif eY s.ms then [] else ai r.2.1)=ai M':=by rw[Gw];cases eY s.ms<;>rfl
 have jE:=hc.gw M' hM.1 hM.2.1
 have Jd:=hM.2.2
 have Kx:∀i∈bX r.2.2,i∈bn r.2.2:=fun i hi=>(gD r.2.2).2 (.inl hi)
 have Me:∀i∈cn r.2.2,i∈bn r.2.2:=fun i hi=>(gD r.2.2).2 (.inr hi)
 have Ik:N≠[]→∃d,o.dst=some d:=by
  intro cJ
  cases aL:o.dst with
  | some d=>exact⟨d,rfl⟩
  | none=>
   rw[aL] at mQ Hk
   simp only[Option.isSome_none,Bool.false_or] at mQ Hk
   have KZ:s.rs=[]:=List.isEmpty_iff.1 mQ
   have h0:=Nat.eq_of_beq_eq_true Hk
   have:=Hd
   rw[KZ,h0] at this
   simp only[a_,Nat.add_zero,List.range'_zero,List.map_nil,List.map_eq_nil_iff] at this
   exact absurd this cJ
 have Cy:∀x∈N,x.id / 64=o.dst.getD 0∧x.id∈N.map (·.id):=by
  intro x hx
  have hm:x.id∈N.map (·.id):=List.mem_map_of_mem hx
  refine⟨?_,hm⟩
  rw[Hd] at hm
  obtain⟨j,hj,f9⟩:=List.mem_map.1 hm
  rw[←f9]
  have:=List.mem_range'_1.1 hj
  exact cL _ j (by omega)
 have mS:(N.map (·.id)).Nodup:=by
  rw[Hd]
  refine List.Pairwise.map _ ?_ (List.nodup_range' ..)
  intro x y Am e
  unfold ag at e
  omega
 have hle:=hR.kept.size
 have Il:∀x∈T,x.id∈bn r.2.2:=by
  intro x hx
  refine Kx _ ?_
  rw[←Lt]
  exact List.mem_map_of_mem hx
 have hval:∀x∈N,(β.bY N T).val x.id=x.v:=by
  intro x hx
  simp [Env.bY,mo hx mS]
 have GQ:∀(β':Env),(∀x∈N,β'.val x.id=x.v)→∀x∈N2,β'.val x.id=x.v:=fun β' hb x hx=>hb x (by rw[hN];exact List.mem_append_right _ hx)
 let h':Nat→Option aj:=lj N T (cn r.2.2) (fo (ai M') st.obj)
 have EM:∀b∈mI,¬Av h' (β.bY N T) b:=by
  intro b hb
  have EK:=AV b hb
  have L6:M'=r.2.1:=by rw[Gw,EK.2.2.2];rfl
  rintro (⟨j,oj,hj,bo⟩ | fa)
  case inr=>
   have Md:=(jE.gH b fa).1
   rcases EK.1 with Cw | mN
   ·rcases lr b Cw with h3 | ⟨x,hx,kn⟩
    ·exact h3 (.inr fa)
    ·exact dB hc kr hx kn (.inr fa)
   ·omega
  cases jH:fD N j with
  | some x=>
   simp only[h',lj,jH,Option.some.injEq] at hj
   subst hj
   obtain⟨hx,rfl⟩:=bd jH
   rw[x.iN (by simp [Env.bY,jH]) (by simp [Env.bY,jH])] at bo
   rw[hN] at hx
   rcases List.mem_append.1 hx with hx | hx
   ·refine EK.2.1 ?_
    rw[←n5]
    exact List.mem_flatMap.2 ⟨x,hx,bo⟩
   ·exact EK.2.2.1 (Ga b (List.mem_flatMap.2 ⟨x,hx,x.ah b bo⟩))
  | none=>
   simp only[h',lj,jH] at hj
   cases hu:mq T j with
   | some x=>
    simp only[hu,Option.some.injEq] at hj
    subst hj
    obtain⟨LL,rfl⟩:=db hu
    have h1:b∈x.bB:=by
     have hD:=(BG x LL).2 (fun _=>False) (β.bY N T) (by simp [Env.bY,jH]) rfl (by simp [Env.bY,jH,hu]) (GQ _ hval) (fun _ _ h=>h)
     exact ah hD b bo
    exact EK.2.2.1 (Jl b (List.mem_flatMap.2 ⟨x,LL,h1⟩))
   | none=>
    simp only[hu] at hj
    split at hj
    ·cases hj
    have mO:b∈al β j oj:=by
     cases oj<;>simp only[al,Env.bY,jH,hu] at bo ⊢ <;>exact bo
    have Ka:=((jE.fresh j oj hj).2 b (ah (jE.ay j oj hj) b mO)).2
    rcases EK.1 with Cw | mN
    ·rcases lr b Cw with h3 | ⟨x,hx,kn⟩
     ·exact h3 (fY (.inl ⟨j,oj,hj,mO⟩))
     ·exact dB hc hM.1 (by rw[L6];exact hx) kn (.inl ⟨j,oj,hj,mO⟩)
    ·omega
 have Kc:=jE.J2 (N:=N) (U:=T) (D:=cn r.2.2) (im:=mI) (mb:=r.2.2.flatMap (aC β)) hk.size hle ?_ ?_ ?_ ?_ JD.1 ?_ EM mS ?_ ?_ ?_ ?_
 ·have eU:=n6 (Av h' (β.bY N T)) (β.bY N T) (fun x hx=>hval x (by rw[hN];exact List.mem_append_left _ hx)) (by rw[Kr];simp)
  have Cz:Kept S w0 w':=by
   refine⟨hk.os.trans hR.kept.os,hk.tape.trans hR.kept.tape,hk.output.trans hR.kept.output,by have:=hk.size;omega,fun k h1 h2=> ?_⟩
   refine (hk.block k (by omega) (fun FY=> ?_)).trans (hR.kept.block k h1 h2)
   obtain⟨id,dR,ob,aK,jD⟩:=dk (β:=β) Ci k FY
   rcases ((hc.fresh id ob aK).2 k (ah (hc.ay _ _ aK) k jD)).1 with h3 | h3
   ·omega
   ·exact h2 h3
  have JJ:fo ((bj (o.dst.getD 0) 0 s.rs (s.fn r.1).2).2++(dF (o.dst.getD 0) (a_ s.rs) r.2.2 ((s.fn r.1).2.drop (cg s.rs))++
    (jh (o.dst.getD 0) (a_ s.rs) r.2.2 ((s.fn r.1).2.drop (cg s.rs))++(i6 (cn r.2.2)++(bif eY s.ms then [] else ai r.2.1))))) (fc none st.obj)=h':=by
   funext j
   have:((bq (o.dst.getD 0) (a_ s.rs) r.2.2 od).map fun x=>(x.1,some x.2))=T.map fun x=>(x.id,some x.obj):=by
    rw[←hT,List.map_map]
    rfl
   have AZ:cR N1++(cR N2++(T.map (fun x=>(x.id,some x.obj))++(i6 (cn r.2.2)++ai M')))=cR N++(T.map (fun x=>(x.id,some x.obj))++(i6 (cn r.2.2)++ai M')):=by
    rw[hN]
    simp only[cR,List.map_append,List.append_assoc]
   rw[hfz,Ja,Gz,n1,gC,this,Ls,AZ,AP,EB,Ey]
   rfl
  refine⟨pack vs,rfl,iH hR hd Cz ⟨β.bY N T,gQ N T (bm φ M'), ?_, ?_⟩⟩
  ·show Core w0 S st.get (fo (_++(_++(_++(_++_)))) (fc none st.obj)) _ _ _ _
   rw[JJ]
   exact Kc
  ·show ak w' (Av (fo (_++(_++(_++(_++_)))) (fc none st.obj)) (β.bY N T)) (β.bY N T) (ik (bj (o.dst.getD 0) 0 s.rs (s.fn r.1).2).1) (pack vs)
   rw[JJ,Ja]
   generalize (bj (o.dst.getD 0) 0 s.rs rd).1=q at eU
   match q,vs,eU with
   | [],vs,eU=>
    simp only[af] at eU
    subst eU
    simp only[ik,pack,ak]
    exact⟨[],rfl,by simp [af]⟩
   | [x],vs,eU=>
    simp only[af] at eU
    obtain⟨v,l',rfl,h1,rfl⟩:=eU
    exact h1
   | x::y::q,vs,eU=>
    have E3:=eU
    simp only[af] at eU
    obtain⟨v,l',rfl,h1,v2,l2,rfl,h2,h3⟩:=eU
    simp only[ik,pack]
    unfold ak
    exact⟨v::v2::l2,rfl,E3⟩
 ·intro b hb
  obtain⟨id,dR,ob,aK,jD⟩:=dk (β:=β) Ci b hb
  refine⟨id, ?_,ob,by rw[l5 (Jd _ dR)];exact aK,jD⟩
  rcases (gD r.2.2).1 dR with h3 | h3
  ·rw[←Lt] at h3
   obtain⟨x,hx,rfl⟩:=List.mem_map.1 h3
   exact .inl ⟨x,hx,rfl⟩
  ·exact .inr h3
 ·exact fun b hb jn=>hk.block b hb jn
 ·intro x hx
  obtain⟨⟨ob,h1⟩,_⟩:=BG x hx
  exact⟨ob,by rw[l5 (Jd _ (Il x hx))];exact h1⟩
 ·exact fun x hx av β' a b c dd e=>(BG x hx).2 av β' a b c (GQ β' dd) e
 ·intro b hb
  obtain⟨p1,p2,p3⟩:=JV b (Jl b hb)
  refine⟨p1,p2,fun Hf=> ?_⟩
  rw[J8] at Hf
  rcases List.mem_append.1 Hf with h3 | h3
  ·exact p3 h3
  ·exact JD.2.2 b hb b h3 rfl
 ·intro x hx
  have h1:=(Cy x hx).1
  obtain⟨d,aL⟩:=Ik (fun h0=>by rw[h0] at hx;simp at hx)
  have bM:=bM d aL (by
   show (bj (o.dst.getD 0) 0 s.rs (s.fn r.1).2).2++(dF (o.dst.getD 0) (a_ s.rs) r.2.2 ((s.fn r.1).2.drop (cg s.rs))++_)≠[]
   rw[Ja,n1,Gz,Ls]
   intro h0
   rw[List.append_eq_nil_iff] at h0
   have a1:N1=[]:=by simpa [cR] using h0.1
   have h1:=(List.append_eq_nil_iff.1 h0.2).1
   have a2:N2=[]:=by simpa [cR] using h1
   rw[hN,a1,a2] at hx
   simp at hx)
  rw[aL] at h1
  simp only[Option.getD_some] at h1
  refine⟨?_,fun i hi=>bM.slot i _ hi h1,fun k ok Cz hi=> ?_⟩
  ·cases hn:fo (ai M') st.obj x.id with
   | none=>rfl
   | some ob=>
    rcases dz hn with h2 | ⟨e',r',rfl,y,hy,h2⟩
    ·exact absurd h1 (bM.obj _ ob h2).1
    ·obtain⟨_,h3,_⟩:=hM.1 y hy
     rw[h2] at h3
     exact absurd h1 (bM.obj _ _ h3).1
  ·rcases dz Cz with h2 | ⟨e',r',rfl,_⟩
   ·exact (bM.obj k ok h2).2 _ hi h1
   ·simp [cC] at hi
 ·intro x hx
  rw[hN] at hx
  rcases List.mem_append.1 hx with hx | hx
  ·exact n3 x hx
  ·exact q3 x hx
 ·rw[J8,List.nodup_append]
  exact⟨hnd,JD.2.1,fun b hb b' ax EC=>(JV b' (Ga b' ax)).2.2 (EC ▸ hb)⟩
 ·intro b hb
  rw[J8] at hb
  rcases List.mem_append.1 hb with hb | hb
  ·exact mH b hb
  ·exact⟨(JV b (Ga b hb)).1,(JV b (Ga b hb)).2.1⟩
end
end Go.Proofs.YtoaflbnkiobhdaaGreat.Vm
set_option linter.unusedVariables false
set_option linter.unusedSimpArgs false
namespace Go.Proofs.YtoaflbnkiobhdaaGreat.Vm
section
variable {P:Program} {Γ:Ctx} {w0:World} {S:Own} {st:St} {o:Oper} {e:cG} {a:Act} {w w':World}
variable {f:Nat→SV} {h:Nat→Option aj} {β:Env} {φ:Nat→List Nat} {tm:Array Value}
theorem a7.all {av:Nat→Prop} {cs:List CT} {r:List DC} {us:List Value} {fp:List Nat} (hr:a7 w cs r (fun j=>us[j]?) fp) (hl:us.length=cs.length) (ha:∀b∈fp,¬av b):af w av β (cd cs r 0) us:=by
 obtain⟨vs,l1,l2,l3,l4⟩:=a7.bL (β:=β) hr ha cs.length 0 (by omega)
 have e:vs=us:=by
  apply List.ext_getElem?
  intro j
  by_cases hj:j<vs.length
  ·have:=l2 j vs[j] (by simp)
   simp only[Nat.zero_add] at this
   rw[this]
   simp
  ·rw[List.getElem?_eq_none (by omega),List.getElem?_eq_none (by omega)]
 subst e
 simpa only[List.drop_zero,List.take_length] using l3
end
end Go.Proofs.YtoaflbnkiobhdaaGreat.Vm
