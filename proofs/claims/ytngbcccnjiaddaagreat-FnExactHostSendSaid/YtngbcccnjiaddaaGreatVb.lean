/- The value machine: slices, structs, new objects, appending, contracts. Conditions: as each lemma says. -/
import Derived.Test.YtngbcccnjiaddaaGreatVa
import Derived.Laws.Tables
import Derived.Great.BuildSlice
import Derived.Laws.CopyRow
namespace Go.Proofs.YtngbcccnjiaddaaGreat.Vm
theorem CW {w:World} {e:List CT} {r:List (List DC)} {q:Option Addr} {n c:Nat} {fp:List Nat} (h:bV w (.sl e) (.sl r) (.slice q n c) fp) {l m:Nat} (hl:l≤m) (hm:m≤r.length):
  ∃BC,bV w (.sl e) (.sl ((r.take m).drop l)) (.slice (if c=l then q else q.map (·.add (l*e.length))) (m - l) (c - l)) BC∧∀b∈BC,b∈fp:=by
 obtain⟨q',n',c',hv,hn,hc,JO,iX⟩:=dc h
 injection hv with h1 h2 h3
 subst h1 h2 h3
 have hlen:((r.take m).drop l).length=m - l:=by simp;omega
 rcases Nat.eq_zero_or_pos (m - l) with h0 | h0
 ·exact⟨[],j5 hlen (by omega) (by omega) (.inl ⟨h0,rfl⟩),by simp⟩
 ·rcases iX with ⟨MR,_⟩ | ⟨_,b,o,az,rfl,cn,ew,rfl,eP⟩
  ·omega
  ·rw[if_neg (by omega)]
   refine⟨b::((az.take m).drop l).flatten,j5 hlen (by omega) (by omega) (.inr ⟨h0,b,o+l*e.length,(az.take m).drop l, ?_,cn,by simp;omega,rfl,fun i r' f hi hf=> ?_⟩), ?_⟩
   ·simp [dm]
   ·have dQ:r[l+i]? =some r':=by
     rw[List.getElem?_drop,List.getElem?_take] at hi
     split at hi
     ·exact hi
     ·cases hi
    have Bn:az[l+i]? =some f:=by
     rw[List.getElem?_drop,List.getElem?_take] at hf
     split at hf
     ·exact hf
     ·cases hf
    have:=eP (l+i) r' f dQ Bn
    have e1:∀j,o+((l+i)*e.length+j)=o+l*e.length+(i*e.length+j):=by intro j;rw[Nat.add_mul];omega
    simpa only[e1] using this
   ·intro x hx
    rcases List.mem_cons.1 hx with rfl | hx
    ·simp
    ·obtain⟨f,hf,hx⟩:=List.mem_flatten.1 hx
     exact List.mem_cons_of_mem _ (List.mem_flatten.2 ⟨f,List.mem_of_mem_take (List.mem_of_mem_drop hf),hx⟩)
section
variable {P:Program} {Γ:Ctx} {w0:World} {S:Own} {st:St} {o:Oper} {e:cL} {a:Act} {w:World}
theorem Core.freeze {f:Nat→SV} {h:Nat→Option aj} {β:Env} {φ:Nat→List Nat} {tm:Array Value} (hc:Core w0 S f h β φ tm w) {id:Nat} {LS:aj} {ct:List CT} {r:List (List DC)} {u:Bool}
  (dR:h id=some LS) (KP:AE LS ct r u):Core w0 S f (aA h id (some (.d7 ct r))) β (aA φ id []) tm w:=by
 have cP:∀b,Av (aA h id (some (.d7 ct r))) β b→Av h β b:=by
  rintro b (⟨i,ob,hi,hb⟩ | hb)
  case inr=>exact .inr hb
  by_cases ly:i=id
  ·subst ly
   simp only[aA,if_true,Option.some.injEq] at hi
   subst hi
   simp [al] at hb
  ·simp only[aA,ly,if_false] at hi
   exact .inl ⟨i,ob,hi,hb⟩
 have hE:=hc.ay id _ dR
 refine hc.step (fun _=>False) (Nat.le_refl _) (fun _ _ _=>rfl) (fun b hb=> .inl (cP b hb)) (fun _ _ _ h=>h) (fun _ _=>⟨rfl,rfl⟩) ?_ ?_
 ·intro i ob hi
  by_cases ly:i=id
  ·subst ly
   simp only[aA,if_true,Option.some.injEq] at hi
   subst hi
   refine .inr ⟨⟨?_,by simp [aA]⟩,by simp [aA],by simp [aA]⟩
   obtain⟨fp,h1,h2,_⟩:=Au hE KP
   simp only[ak]
   refine⟨fp,h1,fun b hb hx=> ?_⟩
   rcases h2 b hb with a7 | hn
   ·rcases hx with ⟨j,Fq,hj,bo⟩ | hx
    case inr=>exact hc.A_ dR (ah hE b a7) hx
    have cJ:j≠i:=by
     rintro rfl
     simp only[aA,if_true,Option.some.injEq] at hj
     subst hj
     simp [al] at bo
    simp only[aA,cJ,if_false] at hj
    exact hc.sep i j _ _ (Ne.symm cJ) dR hj b (ah hE b a7) (ah (hc.ay j _ hj) b bo)
   ·exact hn (cP b hx)
  ·simp only[aA,ly,if_false] at hi
   exact .inl ⟨fun h=>h,hi,by simp [aA,ly],fun _ _ h=>h,fun _ _=>rfl⟩
 ·intro i j oi oj cJ hi hj b hb
  by_cases ly:i=id
  ·subst ly;simp [aA] at hb
  ·by_cases cd:j=id
   ·subst cd;simp [aA]
   ·simp only[aA,ly,cd,if_false] at hi hj hb ⊢
    exact hc.sep i j oi oj cJ hi hj b hb
def bS (h:Nat→Option aj) (m:eW):Prop:=∀x∈m,∃o,h x.1=some o∧AE o x.2.1 x.2.2.1 x.2.2.2
def eU (h:Nat→Option aj) (β:Env) (i:Nat):List Nat:=
 match h i with
 | some o=>al β i o
 | none=>[]
theorem fg {h:Nat→Option aj} {β:Env} {i:Nat} {o:aj} (hi:h i=some o):eU h β i=al β i o:=by simp only[eU,hi]
def bm (φ:Nat→List Nat):eW→Nat→List Nat
 | []=>φ
 | x::l=>aA (bm φ l) x.1 []
theorem gB {id:Nat} {m:eW} (h:bP id m=true):∀x∈m,x.1≠id:=by
 induction m with
 | nil=>simp
 | cons y l ih=>
  obtain⟨i,q⟩:=y
  simp only[bP,Bool.and_eq_true,Bool.not_eq_true'] at h
  intro x hx
  rcases List.mem_cons.1 hx with rfl | hx
  ·exact Nat.ne_of_beq_eq_false h.1
  ·exact ih h.2 x hx
theorem bK {h:Nat→Option aj} {m:eW} {id:Nat} (hn:∀x∈m,x.1≠id):fo (ai m) h id=h id:=by
 induction m with
 | nil=>rfl
 | cons y l ih=>
  obtain⟨i,e',r,u⟩:=y
  simp only[ai,fo,aA]
  rw[if_neg (fun e=>hn _ (List.mem_cons_self ..) e.symm)]
  exact ih (fun x hx=>hn x (List.mem_cons_of_mem _ hx))
theorem cW {φ:Nat→List Nat} {m:eW} {id:Nat} (hn:∀x∈m,x.1≠id):bm φ m id=φ id:=by
 induction m with
 | nil=>rfl
 | cons y l ih=>
  simp only[bm,aA]
  rw[if_neg (fun e=>hn _ (List.mem_cons_self ..) e.symm)]
  exact ih (fun x hx=>hn x (List.mem_cons_of_mem _ hx))
theorem Core.gw {f:Nat→SV} {h:Nat→Option aj} {β:Env} {φ:Nat→List Nat} {tm:Array Value} (hc:Core w0 S f h β φ tm w):∀(m:eW),bS h m→aM m=true→
  Core w0 S f (fo (ai m) h) β (bm φ m) tm w
 | [],_,_=>hc
 | (id,e',r,u)::l,hm,hn=>by
  simp only[aM,Bool.and_eq_true] at hn
  have ih:=Core.gw hc l (fun x hx=>hm x (List.mem_cons_of_mem _ hx)) hn.2
  obtain⟨o,dR,aL⟩:=hm _ (List.mem_cons_self ..)
  have KS:=gB hn.1
  exact ih.freeze (id:=id) (ct:=e') (r:=r) (u:=u) (by rw[bK KS];exact dR) aL
theorem iy (s:List UInt8) (l m:Nat):(⟨s.toArray⟩:ByteArray).extract l m=⟨((s.take m).drop l).toArray⟩:=by
 apply ByteArray.ext
 apply Array.toList_inj.1
 rw[Lib.extract_data]
 simp [List.drop_take]
theorem lH {n:Nat} {DW DV:Option SV} {l m:Nat} {c:Bool} (h:dI n DW DV=some (l,m,c)) (hc:c=true):
  l≤m∧m≤n∧((DW=none∧l=0)∨∃k,DW=some (.int k l))∧((DV=none∧m=n)∨∃k,DV=some (.int k m)):=by
 unfold dI at h
 split at h
 ·simp only[Option.some.injEq,Prod.mk.injEq] at h
  obtain⟨rfl,rfl,_⟩:=h
  exact⟨Nat.zero_le _,Nat.le_refl _,.inl ⟨rfl,rfl⟩,.inl ⟨rfl,rfl⟩⟩
 ·rename_i k z
  simp only[Option.some.injEq,Prod.mk.injEq] at h
  obtain⟨rfl,rfl,rfl⟩:=h
  simp only[Bool.and_eq_true,decide_eq_true_eq] at hc
  exact⟨by omega,Nat.le_refl _,.inr ⟨k,by rw[Int.toNat_of_nonneg hc.1]⟩,.inl ⟨rfl,rfl⟩⟩
 ·rename_i k z
  simp only[Option.some.injEq,Prod.mk.injEq] at h
  obtain⟨rfl,rfl,rfl⟩:=h
  simp only[Bool.and_eq_true,decide_eq_true_eq] at hc
  exact⟨Nat.zero_le _,by omega,.inl ⟨rfl,rfl⟩,.inr ⟨k,by rw[Int.toNat_of_nonneg hc.1]⟩⟩
 ·rename_i k z k' z'
  simp only[Option.some.injEq,Prod.mk.injEq] at h
  obtain⟨rfl,rfl,rfl⟩:=h
  simp only[Bool.and_eq_true,decide_eq_true_eq] at hc
  exact⟨by omega,by omega,.inr ⟨k,by rw[Int.toNat_of_nonneg hc.1.1]⟩,.inr ⟨k',by rw[Int.toNat_of_nonneg (by omega)]⟩⟩
 ·cases h
theorem iD {f:Nat→SV} {h:Nat→Option aj} {x:Option Operand} {s:SV} (e:(kj x).val f h=some (some s)):∃y,x=some y∧(cb y).val f h=some s:=by
 cases x with
 | none=>simp [kj] at e
 | some y=>
  simp only[kj,M.ae,Option.bind_eq_some_iff,M.aa,Option.some.injEq] at e
  obtain⟨s',h1,rfl⟩:=e
  exact⟨y,rfl,h1⟩
theorem iC {f:Nat→SV} {h:Nat→Option aj} {x:Option Operand} (e:(kj x).val f h=some none):x=none:=by
 cases x with
 | none=>rfl
 | some y=>simp [kj,Option.bind_eq_some_iff] at e
theorem iN {x:Nat} {k:IntKind} {y:Nat} {code:BoundsCode} (h:x≤y):(Instr.sliceBound (.int k x) y code).run P w= .ok x w:=by
 simp [Instr.sliceBound,asIntOf,h]
theorem jq {lo hi:Option Operand} {DW DV:Option SV} {n cap l m:Nat} {c isS:Bool} {β:Env} {φ:Nat→List Nat} (lv:n≤cap) (hC:Core w0 S st.get st.obj β φ a.tmps w)
  (h1:(kj lo).val st.get st.obj=some DW) (h2:(kj hi).val st.get st.obj=some DV) (h:dI n DW DV=some (l,m,c)) (hc:c=true):
  (Instr.sliceBounds isS n cap (lo.map a.eval) (hi.map a.eval) none).run P w= .ok (l,m,cap) w:=by
 obtain⟨FG,Bq,hl,hm⟩:=lH h hc
 rcases hl with ⟨rfl,rfl⟩ | ⟨k,rfl⟩<;>rcases hm with ⟨rfl,rfl⟩ | ⟨k',rfl⟩
 ·simp [iC h1,iC h2,Instr.sliceBounds]
 ·obtain⟨y,rfl,hy⟩:=iD h2
  have hy:=hC.ev hy
  simp only[ak] at hy
  simp [iC h1,Instr.sliceBounds,hy.1,iN (P:=P) (w:=w) (k:=k') (by omega:m≤cap)]
 ·obtain⟨y,rfl,hy⟩:=iD h1
  have hy:=hC.ev hy
  simp only[ak] at hy
  simp [iC h2,Instr.sliceBounds,hy.1,iN (P:=P) (w:=w) (k:=k) FG]
 ·obtain⟨y,rfl,hy⟩:=iD h1
  have hy:=hC.ev hy
  obtain⟨z,rfl,hz⟩:=iD h2
  have hz:=hC.ev hz
  simp only[ak] at hy hz
  simp [Instr.sliceBounds,hy.1,hz.1,iN (P:=P) (w:=w) (k:=k) FG,iN (P:=P) (w:=w) (k:=k') (by omega:m≤cap)]
theorem B8 (hR:Rel w0 S st a w) (hd:∀d,o.dst=some d→bd st.n d) {t:TypeId} {x:Operand} {lo hi:Option Operand} (ho:o.op= .slice t x lo hi none) {sx:SV} {DW DV:Option SV}
  (h1:(cb x).val st.get st.obj=some sx) (h2:(kj lo).val st.get st.obj=some DW) (h3:(kj hi).val st.get st.obj=some DV)
  (he:(CX P t sx DW DV).val st.get st.obj=some e) (aJ:e.ok=true):Good P w0 S st o e a w:=by
 unfold CX at he
 split at he
 ·rename_i hu
  split at he
  ·rename_i s
   split at he
   ·rename_i l m c gI
    simp only[M.aa,Option.some.injEq] at he
    subst he
    have aJ:c=true:=aJ
    refine ao hR hd rfl rfl fun β φ hc=> ?_
    have hx:=hc.ev h1
    simp only[ak] at hx
    have hb:=jq (P:=P) (isS:=false) (Nat.le_refl _) hc h2 h3 gI aJ
    refine⟨.string ⟨((s.take m).drop l).toArray⟩, ?_, ?_⟩
    ·simp [execOp,ho,hx.1,Instr.sliceAt,Instr.slice,run_underlying hu,dv,hb,iy]
    ·unfold ak
     refine⟨rfl, ?_⟩
     simp only[List.length_drop,List.length_take]
     omega
   ·simp at he
  ·simp at he
 ·rename_i et hu
  have run:∀(q:Option Addr) (n cap l m:Nat) (c:Bool) (i:TypeInfo) (β:Env) (φ:Nat→List Nat),Core w0 S st.get st.obj β φ a.tmps w→n≤cap→P.info? et=some i→dI n DW DV=some (l,m,c)→c=true→
    a.eval x= .slice q n cap→(execOp a.eval o).run P w= .ok (.value (.slice (if cap=l then q else q.map (·.add (l*i.size))) (m - l) (cap - l))) w:=by
   intro q n cap l m c i β φ hc lv hi gI AV hx
   have hb:=jq (P:=P) (isS:=true) lv hc h2 h3 gI AV
   simp [execOp,ho,hx,Instr.sliceAt,Instr.slice,run_underlying hu,hb,sizeOf,typeInfo,hi]
  split at he
  ·rename_i ct r
   cases hz:aY P et ct.length
   ·simp [hz] at he
   simp only[hz,cond_true] at he
   obtain⟨i,hi,dx⟩:=aX hz
   split at he
   ·rename_i l m c gI
    simp only[M.aa,Option.some.injEq] at he
    subst he
    have aJ:c=true:=aJ
    refine ao hR hd rfl rfl fun β φ hc=> ?_
    have hx:=hc.ev h1
    simp only[ak] at hx
    obtain⟨fp,hr,cP⟩:=hx
    obtain⟨q,n,cap,hv,hn,lv,_,_⟩:=dc hr
    obtain⟨FG,Bq,_⟩:=lH gI aJ
    rw[hv] at hr
    obtain⟨BC,ic,HG⟩:=CW hr FG Bq
    refine⟨_,run q n cap l m c i β φ hc lv hi (by rw[←hn];exact gI) aJ hv, ?_⟩
    simp only[ak]
    rw[dx]
    exact⟨BC,ic,fun b hb=>cP b (HG b hb)⟩
   ·simp at he
  ·rename_i id
   simp only[M.aU,Option.bind_eq_some_iff] at he
   obtain⟨ob,aL,he⟩:=he
   split at he
   ·rename_i t' ct r u
    cases hz:Nat.beq t' et && aY P et ct.length
    ·simp [hz] at he
    simp only[hz,cond_true] at he
    simp only[Bool.and_eq_true] at hz
    obtain⟨i,hi,dx⟩:=aX hz.2
    split at he
    ·rename_i l m c gI
     simp only[M.aa,Option.some.injEq] at he
     subst he
     have aJ:c=true:=aJ
     obtain⟨β,φ,hc⟩:=hR.core
     have hx:=hc.ev h1
     simp only[ak] at hx
     have Lv:=hc.freeze aL (.inl ⟨_,_,rfl⟩)
     have EM:=(Lv.ay id (.d7 ct r) (by simp [aA])).1
     simp only[ak] at EM
     obtain⟨fp,hr,cP⟩:=EM
     obtain⟨q,n,cap,hv,hn,lv,_,_⟩:=dc hr
     obtain⟨FG,Bq,_⟩:=lH gI aJ
     rw[hv] at hr
     obtain⟨BC,ic,HG⟩:=CW hr FG Bq
     refine bY hR hd (run q n cap l m c i β φ hc lv hi (by rw[←hn];exact gI) aJ (hx.1.trans hv)) hR.kept ⟨β,_,Lv, ?_⟩
     simp only[ak]
     rw[dx]
     exact⟨BC,ic,fun b hb=>cP b (HG b hb)⟩
    ·simp at he
   ·rename_i ct r
    cases hz:aY P et ct.length
    ·simp [hz] at he
    simp only[hz,cond_true] at he
    obtain⟨i,hi,dx⟩:=aX hz
    split at he
    ·rename_i l m c gI
     simp only[M.aa,Option.some.injEq] at he
     subst he
     have aJ:c=true:=aJ
     refine ao hR hd rfl rfl fun β φ hc=> ?_
     have hx:=hc.ev h1
     simp only[ak] at hx
     have EM:=(hc.ay id _ aL).1
     simp only[ak] at EM
     obtain⟨fp,hr,cP⟩:=EM
     obtain⟨q,n,cap,hv,hn,lv,_,_⟩:=dc hr
     obtain⟨FG,Bq,_⟩:=lH gI aJ
     rw[hv] at hr
     obtain⟨BC,ic,HG⟩:=CW hr FG Bq
     refine⟨_,run q n cap l m c i β φ hc lv hi (by rw[←hn];exact gI) aJ (hx.1.trans hv), ?_⟩
     simp only[ak]
     rw[dx]
     exact⟨BC,ic,fun b hb=>cP b (HG b hb)⟩
    ·simp at he
   ·simp at he
  ·simp at he
 ·simp at he
end
end Go.Proofs.YtngbcccnjiaddaaGreat.Vm
namespace Go.Proofs.YtngbcccnjiaddaaGreat.Vm
theorem Dw (off:Nat):∀(vs:List Value) (k:Nat) (cs:Array Value),off+k+vs.length≤cs.size→
  ((vs.zipIdx k).foldl (fun cs (x:Value×Nat)=>cs.setIfInBounds (off+x.2) x.1) cs).toList=cs.toList.take (off+k)++(vs++cs.toList.drop (off+k+vs.length))
 | [],k,cs,h=>by simp
 | v::vs,k,cs,h=>by
  simp only[List.zipIdx_cons,List.foldl_cons]
  simp only[List.length_cons] at h
  rw[Dw off vs (k+1) _ (by simp;omega)]
  have e1:(cs.setIfInBounds (off+k) v).toList=cs.toList.set (off+k) v:=by simp
  have hl:off+k<cs.toList.length:=by simp;omega
  rw[e1]
  have e2:(cs.toList.set (off+k) v).take (off+(k+1))=cs.toList.take (off+k)++[v]:=by
   rw[←Nat.add_assoc,List.take_succ_eq_append_getElem (by simpa using hl),List.take_set_of_le (Nat.le_refl _)]
   simp
  have e3:(cs.toList.set (off+k) v).drop (off+(k+1)+vs.length)=cs.toList.drop (off+k+(vs.length+1)):=by
   rw[List.drop_set_of_lt (by omega)]
   congr 1
   omega
  rw[e2,e3]
  simp
theorem kl {place:Nat→Option (Nat×Nat)} {cells:Array Value} {i off:Nat} {v:Value} {rest:List (Nat×Value)} (hp:place i=some (off,v.cells.size)) (hl:off+v.cells.size≤cells.size):
  Instr.fill place cells ((i,v)::rest)=Instr.fill place (cells.toList.take off++(v.cells.toList++cells.toList.drop (off+v.cells.size))).toArray rest:=by
 have h1:(v.cells.zipIdx.foldl (fun cs (x:Value×Nat)=>cs.setIfInBounds (off+x.2) x.1) cells)=(cells.toList.take off++(v.cells.toList++cells.toList.drop (off+v.cells.size))).toArray:=by
  apply Array.toList_inj.1
  rw[←Array.foldl_toList,Array.toList_zipIdx]
  have:=Dw off v.cells.toList 0 cells (by simpa using hl)
  simpa using this
 simp only[Instr.fill,hp]
 rw[if_neg (by simp;omega)]
 exact congrArg (fun x=>Instr.fill place x rest) h1
section
variable {P:Program} {Γ:Ctx} {w0:World} {S:Own} {st:St} {o:Oper} {e:cL} {a:Act} {w:World}
theorem dM {av:Nat→Prop} {β:Env} {f:Nat→SV} {h:Nat→Option aj} {s:SV} {v:Value} {cs:List SV} (hs:ak w av β s v) (hc:(aC s).val f h=some cs):
  af w av β cs v.cells.toList∧∀x∈v.cells.toList,x.oneCell'=true:=by
 have single:v.oneCell'=true→cs=[s]→af w av β cs v.cells.toList∧∀x∈v.cells.toList,x.oneCell'=true:=by
  intro bg fA
  have mi:v.cells= #[v]:=by cases v<;>first | rfl | (simp [Value.oneCell'] at bg)
  rw[mi,fA]
  simp only[List.mem_singleton,forall_eq,af]
  exact⟨⟨v,[],rfl,hs,rfl⟩,bg⟩
 cases s with
 | fw=>simp [aC] at hc
 | undef=>simp [aC] at hc
 | Dz l=>simp [aC] at hc
 | FP g l=>simp [aC] at hc
 | FL id lo z=>simp [aC] at hc
 | agg l=>
  simp only[aC,M.aa,Option.some.injEq] at hc
  subst hc
  simp only[ak] at hs
  obtain⟨vs,rfl,h1,h2⟩:=hs
  simpa [Value.cells] using ⟨h1,h2⟩
 | kb b=>simp only[aC,M.aa,Option.some.injEq] at hc;exact single (by simp only[ak] at hs;subst hs;rfl) hc.symm
 | int k n=>simp only[aC,M.aa,Option.some.injEq] at hc;exact single (by simp only[ak] at hs;rw[hs.1];rfl) hc.symm
 | bool b=>simp only[aC,M.aa,Option.some.injEq] at hc;exact single (by simp only[ak] at hs;subst hs;rfl) hc.symm
 | str b=>simp only[aC,M.aa,Option.some.injEq] at hc;exact single (by simp only[ak] at hs;rw[hs.1];rfl) hc.symm
 | sl e r=>simp only[aC,M.aa,Option.some.injEq] at hc;exact single (by simp only[ak] at hs;obtain⟨fp,hr,_⟩:=hs;exact hr.one) hc.symm
 | nil=>simp only[aC,M.aa,Option.some.injEq] at hc;exact single (by simp only[ak] at hs;subst hs;rfl) hc.symm
 | own id=>simp only[aC,M.aa,Option.some.injEq] at hc;exact single (by simp only[ak] at hs;exact hs.2) hc.symm
 | ptr id off=>simp only[aC,M.aa,Option.some.injEq] at hc;exact single (by simp only[ak] at hs;subst hs;rfl) hc.symm
 | gM e r off=>simp only[aC,M.aa,Option.some.injEq] at hc;exact single (by simp only[ak] at hs;obtain⟨b,o,fp,hv,_⟩:=hs;subst hv;rfl) hc.symm
 | ec id i z off=>simp only[aC,M.aa,Option.some.injEq] at hc;exact single (by simp only[ak] at hs;obtain⟨g,_,hv⟩:=hs;subst hv;rfl) hc.symm
theorem eI {av:Nat→Prop} {β:Env} :∀(l:List Value),af w av β (l.map ofConst) l
 | []=>by simp [af]
 | v::l=>by
  simp only[List.map_cons,af]
  exact⟨v,l,rfl,jm v,eI l⟩
theorem DP {fs:Array Field} {places:List (Nat×Nat)} (h:fs.toList.mapM (fun f=>(P.info? f.type).map fun i=>(f.offset,i.size))=some places) {i:Nat} {f:Field} (hf:fs[i]? =some f):
  ∃ti,P.info? f.type=some ti∧places.toArray[i]? =some (f.offset,ti.size):=by
 have Bn:fs.toList[i]? =some f:=by simpa using hf
 clear hf
 generalize fs.toList=l at h Bn
 induction l generalizing places i with
 | nil=>simp at Bn
 | cons g l ih=>
  simp only[List.mapM_cons,Option.bind_eq_bind,Option.pure_def] at h
  cases hi:P.info? g.type with
  | none=>simp [hi] at h
  | some ti=>
   cases hr:l.mapM (fun f=>(P.info? f.type).map fun i=>(f.offset,i.size)) with
   | none=>simp [hi,hr] at h
   | some rest=>
    simp [hi,hr] at h
    subst h
    cases i with
    | zero=>
     simp at Bn
     subst Bn
     exact⟨ti,hi,by simp⟩
    | succ i=>
     obtain⟨tj,h1,h2⟩:=ih hr (by simpa using Bn)
     exact⟨tj,h1,by simpa using h2⟩
theorem m9 {β:Env} {φ:Nat→List Nat} (hc:Core w0 S st.get st.obj β φ a.tmps w) {fs:Array Field} {places:List (Nat×Nat)}
  (hp:fs.toList.mapM (fun f=>(P.info? f.type).map fun i=>(f.offset,i.size))=some places):
  ∀(parts:List (Nat×Operand)) (cells:List SV) (cs:List SV) (vs:List Value),(kf P fs parts cells).val st.get st.obj=some cs→af w (Av st.obj β) β cells vs→(∀x∈vs,x.oneCell'=true)→
  ∃us:List Value,Instr.fill (places.toArray[·]?) vs.toArray (parts.map fun x=>(x.1,a.eval x.2))=some us.toArray∧af w (Av st.obj β) β cs us∧∀x∈us,x.oneCell'=true
 | [],cells,cs,vs,hb,hr,h1=>by
  simp only[kf,M.aa,Option.some.injEq] at hb
  subst hb
  exact⟨vs,by simp [Instr.fill],hr,h1⟩
 | (i,x)::rest,cells,cs,vs,hb,hr,h1=>by
  simp only[kf] at hb
  split at hb
  ·rename_i f hf
   simp only[M.ae,Option.bind_eq_some_iff] at hb
   obtain⟨s,hs,Ib,AV,hb⟩:=hb
   cases hz:aY P f.type Ib.length && Nat.ble (f.offset+Ib.length) cells.length
   ·simp [hz] at hb
   simp only[hz,cond_true] at hb
   simp only[Bool.and_eq_true] at hz
   obtain⟨ti,F5,KV⟩:=DP hp hf
   obtain⟨M4,F6,dx⟩:=aX hz.1
   rw[F5] at F6
   injection F6 with F6
   subst F6
   have hle:=Nat.le_of_ble_eq_true hz.2
   obtain⟨fA,bg⟩:=dM (hc.ev hs) AV
   have hlen:=af.length _ _ hr
   have BJ:=af.length _ _ fA
   have bt:(a.eval x).cells.size=ti.size:=by simpa [dx] using BJ
   have dP:f.offset+(a.eval x).cells.size≤vs.toArray.size:=by simp;omega
   have bE:af w (Av st.obj β) β (cells.take f.offset++(Ib++cells.drop (f.offset+Ib.length))) (vs.take f.offset++((a.eval x).cells.toList++vs.drop (f.offset+(a.eval x).cells.size))):=by
    refine af.append _ _ _ _ (af.take _ _ _ hr) (af.append _ _ _ _ fA ?_)
    have:Ib.length=(a.eval x).cells.size:=by simpa using BJ.symm
    rw[this]
    exact af.drop _ _ _ hr
   obtain⟨us,kU,gj,mq⟩:=m9 hc hp rest _ cs _ hb bE (by
    intro y hy
    simp only[List.mem_append] at hy
    rcases hy with hy | hy | hy
    ·exact h1 y (List.mem_of_mem_take hy)
    ·exact bg y hy
    ·exact h1 y (List.mem_of_mem_drop hy))
   refine⟨us, ?_,gj,mq⟩
   simp only[List.map_cons]
   rw[kl (off:=f.offset) (by rw[bt];exact KV) dP]
   simpa using kU
  ·simp at hb
theorem dw {f:Nat→SV} {h:Nat→Option aj} {t:TypeId} {z:List SV} (hz:(dJ P t).val f h=some z):
  ∃i zv,P.info? t=some i∧i.zero=some zv∧z=zv.cells.toList.map ofConst∧∀x∈zv.cells.toList,x.oneCell'=true:=by
 unfold dJ at hz
 split at hz
 ·rename_i i hi
  split at hz
  ·rename_i zv mX
   cases ha:zv.cells.toList.all (·.oneCell')
   ·simp [ha] at hz
   ·simp only[ha,cond_true,M.aa,Option.some.injEq] at hz
    exact⟨i,zv,hi,mX,hz.symm,fun x hx=>List.all_eq_true.1 ha x hx⟩
  ·simp at hz
 ·simp at hz
theorem B3 (hR:Rel w0 S st a w) (hd:∀d,o.dst=some d→bd st.n d) {t:TypeId} {parts:Array (Nat×Operand)} (ho:o.op= .build t parts) {fs:Array Field} {places:List (Nat×Nat)} {z cs:List SV}
  (hu:P.underlying t=some (.struct fs)) (hp:fs.toList.mapM (fun f=>(P.info? f.type).map fun i=>(f.offset,i.size))=some places)
  (hz:(dJ P t).val st.get st.obj=some z) (hb:(kf P fs parts.toList z).val st.get st.obj=some cs) (he:e= {sv:= .agg cs}):Good P w0 S st o e a w:=by
 subst he
 refine ao hR hd rfl rfl fun β φ hc=> ?_
 obtain⟨i,zv,hi,mX,rfl,bg⟩:=dw hz
 obtain⟨us,kU,gj,mq⟩:=m9 hc hp parts.toList _ cs _ hb (eI zv.cells.toList) bg
 refine⟨.agg us.toArray, ?_,by unfold ak;exact⟨us,rfl,gj,mq⟩⟩
 have Hf:P.built t (parts.map fun x=>(x.1,a.eval x.2)).toList=some us.toArray:=by
  simp only[Program.built,hi,hu,mX,hp]
  simpa using kU
 have:=run_build (P:=P) w t (parts.map fun x=>(x.1,a.eval x.2)) us.toArray Hf
 simp [execOp,ho,this]
end
end Go.Proofs.YtngbcccnjiaddaaGreat.Vm
namespace Go.Proofs.YtngbcccnjiaddaaGreat.Vm
def Env.CU (β:Env) (id b:Nat):Env:=⟨aA β.cU id b,β.val,β.gH,β.nb⟩
def Env.fQ (β:Env) (id:Nat) (v:Value):Env:=⟨β.cU,aA β.val id v,β.gH,β.nb⟩
theorem mY {i:Nat} {m n:eW} :bP i (m++n)=(bP i m && bP i n):=by
 induction m with
 | nil=>simp [bP]
 | cons x l ih=>obtain⟨j,q⟩:=x;simp [bP,ih,Bool.and_assoc]
theorem gK {m n:eW} (h:aM (m++n)=true):aM m=true∧aM n=true∧∀x∈m,∀y∈n,x.1≠y.1:=by
 induction m with
 | nil=>exact⟨rfl,by simpa using h,by simp⟩
 | cons x l ih=>
  obtain⟨j,q⟩:=x
  simp only[List.cons_append,aM,mY,Bool.and_eq_true] at h
  obtain⟨h1,h2,h3⟩:=ih h.2
  refine⟨by simp [aM,h.1.1,h1],h2,fun x hx y hy=> ?_⟩
  rcases List.mem_cons.1 hx with rfl | hx
  ·exact fun e=>gB h.1.2 y hy e.symm
  ·exact h3 x hx y hy
section
variable {P:Program} {Γ:Ctx} {w0:World} {S:Own} {st:St} {o:Oper} {e:cL} {a:Act} {w:World}
variable {f:Nat→SV} {h:Nat→Option aj} {β:Env} {φ:Nat→List Nat} {tm:Array Value}
theorem fX {m:eW} {b:Nat} (hb:Av (fo (ai m) h) β b):Av h β b:=by
 induction m generalizing b with
 | nil=>exact hb
 | cons x l ih=>
  obtain⟨i,e',r,u⟩:=x
  rcases hb with ⟨j,ob,hj,bo⟩ | hb
  case inr=>exact .inr hb
  simp only[ai,fo,aA] at hj
  split at hj
  ·injection hj with hj
   subst hj
   simp [al] at bo
  ·exact ih (.inl ⟨j,ob,hj,bo⟩)
theorem dC (hc:Core w0 S f h β φ tm w) {m:eW} (hm:bS h m) {x:Nat×List CT×List (List DC)×Bool} (hx:x∈m) {b:Nat} (hb:b∈eU h β x.1):¬Av (fo (ai m) h) β b:=by
 rintro (⟨j,ob,hj,bo⟩ | eY)
 case inr=>
  obtain⟨o,dR,_⟩:=hm x hx
  rw[fg dR] at hb
  exact hc.A_ dR (ah (hc.ay _ _ dR) b hb) eY
 obtain⟨o,dR,_⟩:=hm x hx
 rw[fg dR] at hb
 have frozen:∀(l:eW) (j:Nat),(∃y∈l,y.1=j)→∃e' r,fo (ai l) h j=some (.d7 e' r):=by
  intro l
  induction l with
  | nil=>rintro j ⟨y,hy,_⟩;simp at hy
  | cons z l ih=>
   obtain⟨i,e',r,u⟩:=z
   rintro j ⟨y,hy,rfl⟩
   simp only[ai,fo,aA]
   by_cases Ld:y.1=i
   ·rw[if_pos Ld];exact⟨e',r,rfl⟩
   ·rw[if_neg Ld]
    rcases List.mem_cons.1 hy with rfl | hy
    ·exact absurd rfl Ld
    ·exact ih y.1 ⟨y,hy,rfl⟩
 by_cases BI:∃y∈m,y.1=j
 ·obtain⟨e',r,bW⟩:=frozen m j BI
  rw[bW] at hj
  injection hj with hj
  subst hj
  simp [al] at bo
 ·have f_:h j=some ob:=by rw[bK (fun y hy e=>BI ⟨y,hy,e⟩)] at hj;exact hj
  have cJ:x.1≠j:=fun e=>BI ⟨x,hx,e⟩
  exact hc.sep x.1 j _ _ cJ dR f_ b (ah (hc.ay x.1 _ dR) b hb) (ah (hc.ay j _ f_) b bo)
theorem dz (hc:Core w0 S f h β φ tm w) {ct:CT} {s:SV} {v:Value} {q:DC×eW×Bool} (hs:ak w (Av h β) β s v) (hq:(eK ct s).val f h=some q):
  ∃fp,bV w ct q.1 v fp∧bS h q.2.1∧aM q.2.1=true∧(∀b∈fp,(¬Av h β b)∨∃x∈q.2.1,b∈eU h β x.1)∧
   (q.2.2=true→(∀b∈fp,∃x∈q.2.1,b∈φ x.1)∧fp.Nodup):=by
 have plain:∀(d:DC) (fr:Bool) (fp:List Nat),q=(d,[],fr)→bV w ct d v fp→(∀b∈fp,¬Av h β b)→(fr=true→fp=[])→
   ∃fp,bV w ct q.1 v fp∧bS h q.2.1∧aM q.2.1=true∧(∀b∈fp,(¬Av h β b)∨∃x∈q.2.1,b∈eU h β x.1)∧(q.2.2=true→(∀b∈fp,∃x∈q.2.1,b∈φ x.1)∧fp.Nodup):=by
  rintro d fr fp rfl hr cP bW
  refine⟨fp,hr,by simp [bS],rfl,fun b hb=> .inl (cP b hb),fun hf=> ?_⟩
  rw[bW hf]
  simp
 unfold eK at hq
 split at hq
 ·rename_i k n
  split at hq
  ·rename_i k'
   by_cases hk:k=k'
   ·subst hk
    simp only[decide_true,cond_true,M.aa,Option.some.injEq] at hq
    simp only[ak] at hs
    exact plain _ _ [] hq.symm (by unfold bV;exact⟨n,rfl,hs.1,hs.2,rfl⟩) (by simp) (by simp)
   ·simp [hk] at hq
  ·simp at hq
 ·split at hq
  ·simp only[M.aa,Option.some.injEq] at hq
   simp only[ak] at hs
   exact plain _ _ [] hq.symm (by unfold bV;exact⟨_,rfl,hs,rfl⟩) (by simp) (by simp)
  ·simp at hq
 ·split at hq
  ·simp only[M.aa,Option.some.injEq] at hq
   simp only[ak] at hs
   exact plain _ _ [] hq.symm (by unfold bV;exact⟨_,rfl,hs,rfl⟩) (by simp) (by simp)
  ·simp at hq
 ·split at hq
  ·simp only[M.aa,Option.some.injEq] at hq
   simp only[ak] at hs
   exact plain _ _ [] hq.symm (by unfold bV;exact⟨_,rfl,hs.1,hs.2,rfl⟩) (by simp) (by simp)
  ·simp at hq
 ·rename_i e' r
  split at hq
  ·rename_i Es
   cases hb:aE e' Es
   ·simp [hb] at hq
   ·simp only[hb,cond_true,M.aa,Option.some.injEq] at hq
    have:=aK _ _ hb
    subst this
    simp only[ak] at hs
    obtain⟨fp,hr,cP⟩:=hs
    exact plain _ _ fp hq.symm hr cP (by simp)
  ·simp at hq
 ·split at hq
  ·simp only[M.aa,Option.some.injEq] at hq
   simp only[ak] at hs
   subst hs
   exact plain _ _ [] hq.symm (j5 rfl (Nat.le_refl _) (Nat.zero_le _) (.inl ⟨rfl,rfl⟩)) (by simp) (by simp)
  ·simp at hq
 ·rename_i id
  split at hq
  ·rename_i e'
   simp only[ak] at hs
   obtain⟨hs,_⟩:=hs
   subst hs
   simp only[M.aU,Option.bind_eq_some_iff] at hq
   obtain⟨ob,aL,hq⟩:=hq
   split at hq
   ·rename_i t' Es r fz u
    cases hb:aE Es e'
    ·simp [hb] at hq
    ·simp only[hb,cond_true,M.aa,Option.some.injEq] at hq
     have:=aK _ _ hb
     subst this hq
     obtain⟨fp,h1,h2,h3⟩:=bl (hc.ay id _ aL)
     refine⟨fp,h1, ?_,rfl,fun b hb=> ?_,fun hu=>⟨fun b hb=>⟨_,List.mem_singleton.2 rfl,(h3 hu).1 b hb⟩,(h3 hu).2 (hc.fresh id _ aL).1⟩⟩
     ·intro x hx
      rw[List.mem_singleton] at hx
      subst hx
      exact⟨_,aL,.inl ⟨t',fz,rfl⟩⟩
     ·rcases h2 b hb with hx | hx
      ·exact .inr ⟨_,List.mem_singleton.2 rfl,by rw[fg aL];exact hx⟩
      ·exact .inl hx
   ·rename_i Es r
    cases hb:aE Es e'
    ·simp [hb] at hq
    ·simp only[hb,cond_true,M.aa,Option.some.injEq] at hq
     have:=aK _ _ hb
     subst this
     obtain⟨h1,_⟩:=hc.ay id _ aL
     simp only[ak] at h1
     obtain⟨fp,hr,cP⟩:=h1
     exact plain _ _ fp hq.symm hr cP (by simp)
   ·rename_i t' Es ts r
    cases hb:aE Es e'
    ·simp [hb] at hq
    ·simp only[hb,cond_true,M.aa,Option.some.injEq] at hq
     have:=aK _ _ hb
     subst this hq
     have LC:AE (.deep t' Es ts r none) Es r true:= .inr ⟨t',ts,rfl,rfl⟩
     obtain⟨fp,h1,h2,h3⟩:=Au (hc.ay id _ aL) LC
     refine⟨fp,h1, ?_,rfl,fun b hb=> ?_,fun hu=>⟨fun b hb=>⟨_,List.mem_singleton.2 rfl,(h3 hu).1 b hb⟩,(h3 hu).2 (hc.fresh id _ aL).1⟩⟩
     ·intro x hx
      rw[List.mem_singleton] at hx
      subst hx
      exact⟨_,aL,LC⟩
     ·rcases h2 b hb with hx | hx
      ·exact .inr ⟨_,List.mem_singleton.2 rfl,by rw[fg aL];exact hx⟩
      ·exact .inl hx
   ·simp at hq
  ·simp at hq
 ·simp at hq
theorem e_ {m n:eW} (h1:bS h m) (h2:bS h n):bS h (m++n):=fun x hx=>by
 rcases List.mem_append.1 hx with hx | hx
 ·exact h1 x hx
 ·exact h2 x hx
theorem apart (hc:Core w0 S f h β φ tm w) {m n:eW} (hm:bS h m) (hn:bS h n) (cJ:∀x∈m,∀y∈n,x.1≠y.1) {p q:List Nat}
  (hp:∀b∈p,∃x∈m,b∈φ x.1) (hq:∀b∈q,∃x∈n,b∈φ x.1) (np:p.Nodup) (nq:q.Nodup):(p++q).Nodup:=by
 rw[List.nodup_append]
 refine⟨np,nq,fun b hb c gZ DH=> ?_⟩
 subst DH
 obtain⟨x,hx,ko⟩:=hp b hb
 obtain⟨y,hy,Bl⟩:=hq b gZ
 obtain⟨_,h1,_⟩:=hm x hx
 obtain⟨_,h2,_⟩:=hn y hy
 exact hc.sep x.1 y.1 _ _ (cJ x hx y hy) h1 h2 b ko Bl
theorem dY (hc:Core w0 S f h β φ tm w):∀(bB:List CT) (bM:List SV) (vs:List Value) (q:List DC×eW×Bool),af w (Av h β) β bM vs→(cf bB bM).val f h=some q→
  ∃fp,a8 w bB q.1 (fun j=>vs[j]?) fp∧bS h q.2.1∧(∀b∈fp,(¬Av h β b)∨∃x∈q.2.1,b∈eU h β x.1)∧
   (q.2.2=true→(∀b∈fp,∃x∈q.2.1,b∈φ x.1)∧(aM q.2.1=true→fp.Nodup))
 | [],[],vs,q,hs,hq=>by
  simp only[cf,M.aa,Option.some.injEq] at hq
  subst hq
  exact⟨[],by simp [a8],by simp [bS],by simp,by simp⟩
 | [],_::_,vs,q,hs,hq=>by simp [cf] at hq
 | _::_,[],vs,q,hs,hq=>by simp [cf] at hq
 | c::cs,s::ss,vs,q,hs,hq=>by
  simp only[af] at hs
  obtain⟨v,l,rfl,h1,h2⟩:=hs
  simp only[cf,M.ae,Option.bind_eq_some_iff,M.aa,Option.some.injEq] at hq
  obtain⟨q1,aG,q2,cx,rfl⟩:=hq
  obtain⟨f1,r1,m1,n1,a1,u1⟩:=dz hc h1 aG
  obtain⟨f2,r2,m2,a2,u2⟩:=dY hc cs ss l q2 h2 cx
  refine⟨f1++f2, ?_,e_ m1 m2, ?_, ?_⟩
  ·simp only[a8]
   exact⟨q1.1,q2.1,v,f1,f2,rfl,by simp,r1,by simpa using r2,rfl⟩
  ·intro b hb
   rcases List.mem_append.1 hb with hb | hb
   ·rcases a1 b hb with hx | ⟨x,hx,ko⟩
    ·exact .inl hx
    ·exact .inr ⟨x,List.mem_append_left _ hx,ko⟩
   ·rcases a2 b hb with hx | ⟨x,hx,ko⟩
    ·exact .inl hx
    ·exact .inr ⟨x,List.mem_append_right _ hx,ko⟩
  ·intro hu
   simp only[Bool.and_eq_true] at hu
   refine⟨fun b hb=> ?_,fun hn=> ?_⟩
   ·rcases List.mem_append.1 hb with hb | hb
    ·obtain⟨x,hx,ko⟩:=(u1 hu.1).1 b hb
     exact⟨x,List.mem_append_left _ hx,ko⟩
    ·obtain⟨x,hx,ko⟩:=(u2 hu.2).1 b hb
     exact⟨x,List.mem_append_right _ hx,ko⟩
   ·obtain⟨_,Hv,cJ⟩:=gK hn
    exact apart hc m1 m2 cJ (u1 hu.1).1 (u2 hu.2).1 (u1 hu.1).2 ((u2 hu.2).2 Hv)
theorem Core.create (hc:Core w0 S f h β φ tm w) {w':World} {β':Env} {id:Nat} {ob:aj} {Gp:List Nat} (hs:w.heap.size≤w'.heap.size) (hw:∀b,b<w.heap.size→w'.heap[b]? =w.heap[b]?)
  (hf:∀i,id ∉ bU (f i)) (ho:∀j o,h j=some o→id ∉ cD o) (hn:h id=none) (gk:∀j,j≠id→β'.val j=β.val j∧β'.cU j=β.cU j)
  (je:∀b∈al β' id ob,w.heap.size≤b) (hE:fU w' (Av (aA h id (some ob)) β') β' id ob Gp) (hnd:Gp.Nodup)
  (mK:∀b∈Gp,((w0.heap.size≤b∨S b)∧b<w'.heap.size)∧∀j o,h j=some o→b ∉ φ j) (eY:β'.gH=β.gH:=by rfl) (jr:∀j,j≠id→β'.nb j=β.nb j:=by intro _ _;rfl):Core w0 S f (aA h id (some ob)) β' (aA φ id Gp) tm w':=by
 have iQ:∀j o,j≠id→al β' j o=al β j o:=by
  intro j o hj
  cases o<;>simp [al,gk j hj,jr j hj]
 refine hc.mH (fun i=>i=id) hs (fun b hb _=>hw b hb) ?_ (fun i j hj e=>hf i (e ▸ hj)) gk ?_ ?_ eY
 ·rintro b (⟨j,oj,hj,bo⟩ | hb)
  case inr=>exact .inl (.inr (eY ▸ hb))
  by_cases cd:j=id
  ·subst cd
   simp only[aA,if_true,Option.some.injEq] at hj
   subst hj
   exact .inr (je b bo)
  ·simp only[aA,cd,if_false] at hj
   rw[iQ j oj cd] at bo
   exact .inl (.inl ⟨j,oj,hj,bo⟩)
 ·intro j oj hj
  by_cases cd:j=id
  ·subst cd
   simp only[aA,if_true,Option.some.injEq] at hj
   subst hj
   exact .inr ⟨by simpa [aA] using hE,by simpa [aA] using hnd,fun b hb=>(mK b (by simpa [aA] using hb)).1⟩
  ·simp only[aA,cd,if_false] at hj
   refine .inl ⟨cd,hj,jr j cd,by simp [aA,cd],fun i hi e=>ho j oj hj (e ▸ hi),fun b hb=>hw b ?_⟩
   exact ((hc.fresh j oj hj).2 b (ah (hc.ay j oj hj) b hb)).2
 ·intro i j oi oj cJ hi hj b hb
  by_cases ly:i=id
  ·subst ly
   have gx:j≠i:=Ne.symm cJ
   simp only[aA,gx,if_false] at hj
   simp only[aA,if_true] at hb
   simp only[aA,gx,if_false]
   exact (mK b hb).2 j oj hj
  ·simp only[aA,ly,if_false] at hi hb
   by_cases cd:j=id
   ·subst cd
    simp only[aA,if_true]
    exact fun ax=>(mK b ax).2 i oi hi hb
   ·simp only[aA,cd,if_false] at hj ⊢
    exact hc.sep i j oi oj cJ hi hj b hb
theorem af.beside {w':World} {β':Env} {id:Nat} {ob:aj} (hs:w.heap.size≤w'.heap.size) (hw:∀b,b<w.heap.size→w'.heap[b]? =w.heap[b]?)
  (gk:∀j,j≠id→β'.val j=β.val j∧β'.cU j=β.cU j) (je:∀b∈al β' id ob,w.heap.size≤b) {ss:List SV} {vs:List Value} (hr:af w (Av h β) β ss vs) (hi:id ∉ bR ss) (eY:β'.gH=β.gH:=by rfl) (jr:∀j,j≠id→β'.nb j=β.nb j:=by intro _ _;rfl):
  af w' (Av (aA h id (some ob)) β') β' ss vs:=by
 refine af.mono hs (fun b hb _=>hw b hb) ?_ ss vs hr (fun j hj=>gk j (fun e=>hi (e ▸ hj)))
 rintro b (⟨j,oj,hj,bo⟩ | hb)
 case inr=>exact .inl (.inr (eY ▸ hb))
 by_cases cd:j=id
 ·subst cd
  simp only[aA,if_true,Option.some.injEq] at hj
  subst hj
  exact .inr (je b bo)
 ·simp only[aA,cd,if_false] at hj
  refine .inl (.inl ⟨j,oj,hj, ?_⟩)
  cases oj<;>simp only[al,gk j cd,jr j cd] at bo ⊢ <;>exact bo
structure bJ (st:St) (d:Nat):Prop where
 slot:∀i,∀j∈bU (st.get i),j / 64≠d
 obj:∀j ob,st.obj j=some ob→j / 64≠d∧∀k∈cD ob,k / 64≠d
theorem cM (d k:Nat) (hk:k<64):ag d k / 64=d:=by unfold ag;omega
theorem Kept.alloc (hk:Kept S w0 w) (ob:Obj):Kept S w0 (w.alloc ob):=
 ⟨hk.os,hk.tape,hk.output,by have:=hk.size;simp;omega,fun k h1 h2=>(by show (w.heap.push ob)[k]? =_;rw[Array.getElem?_push,if_neg (by have:=hk.size;omega)];exact hk.block k h1 h2)⟩
theorem Kept.drew (hk:Kept S w0 w):Kept S w0 w.drew:=⟨hk.os,hk.tape,hk.output,hk.size,hk.block⟩
theorem cm (ob:Obj):(w.alloc ob).heap.size=w.heap.size+1:=by simp
theorem d9 (ob:Obj):(w.alloc ob).heap[w.heap.size]? =some ob:=heap_alloc_new w ob
theorem alloc_old (ob:Obj) (b:Nat) (hb:b<w.heap.size):(w.alloc ob).heap[b]? =w.heap[b]? :=by
 show (w.heap.push ob)[b]? =_
 rw[Array.getElem?_push,if_neg (by omega)]
theorem la (v:Value):bU (ofConst v)=[]:=by
 unfold ofConst
 split
 ·rfl
 ·cases BS _ _<;>rfl
 ·generalize Nat.ble _ _=c
  cases c<;>rfl
 ·rfl
 ·rfl
theorem jT:∀(l:List Value),bR (l.map ofConst)=[]
 | []=>rfl
 | v::l=>by simp [bR,la,jT l]
theorem FC {d:Nat} (hf:bJ st d) {x:Operand} {s:SV} (hx:(cb x).val st.get st.obj=some s):∀j∈bU s,j / 64≠d:=by
 have:=Db hx
 subst this
 cases x with
 | tmp t=>exact hf.slot t
 | const v=>simp [G6,la]
 | global g=>intro j hj;simp [G6,bU] at hj
 | func g=>intro j hj;simp [G6,bU] at hj
theorem Ca {s:SV} {cs:List SV} (hc:(aC s).val f h=some cs):bR cs=bU s:=by
 cases s<;>simp [aC] at hc<;>subst hc<;>simp [bU,bR]
theorem j7 (hR:Rel w0 S st a w) {d:Nat} (aQ:o.dst=some d) (hd:bd st.n d) (bW:bJ st d) {t:TypeId} {cells:List SV} {vs:List Value}
  (bp:(execOp a.eval o).run P w= .ok (.value (.pointer (some ⟨w.heap.size,0,none⟩))) (w.alloc (.cells vs.toArray t)))
  (mi:∀β φ,Core w0 S st.get st.obj β φ a.tmps w→af w (Av st.obj β) β cells vs) (bg:∀x∈vs,x.oneCell'=true) (Cy:∀j∈bR cells,j / 64≠d)
  (he:e= {sv:= .ptr (ag d 0) 0,ow:=[(ag d 0,some (.box t cells))]}):Good P w0 S st o e a w:=by
 subst he
 obtain⟨β,φ,hc⟩:=hR.core
 have bE:ag d 0 / 64=d:=cM d 0 (by omega)
 have gk:∀j,j≠ag d 0→(β.CU (ag d 0) w.heap.size).val j=β.val j∧(β.CU (ag d 0) w.heap.size).cU j=β.cU j:=by
  intro j hj
  exact⟨rfl,by simp [Env.CU,aA,hj]⟩
 have jF:(β.CU (ag d 0) w.heap.size).cU (ag d 0)=w.heap.size:=by simp [Env.CU,aA]
 have je:∀b∈al (β.CU (ag d 0) w.heap.size) (ag d 0) (.box t cells),w.heap.size≤b:=by
  intro b hb
  simp only[al,jF,List.mem_singleton] at hb
  omega
 have hle:=hR.kept.size
 refine bY hR (fun d' h'=>by rw[aQ] at h';injection h' with h';exact h' ▸ hd) bp (hR.kept.alloc _) ⟨β.CU (ag d 0) w.heap.size,aA φ (ag d 0) [w.heap.size], ?_, ?_⟩
 ·refine hc.create (by rw[cm];omega) (fun b hb=>alloc_old _ b hb) (fun i hi=>bW.slot i _ hi bE) (fun j ob hj hi=>(bW.obj j ob hj).2 _ hi bE) ?_ gk je ?_ (by simp) ?_
  ·cases hn:st.obj (ag d 0) with
   | none=>rfl
   | some ob=>exact absurd bE (bW.obj _ ob hn).1
  ·refine⟨vs,by rw[jF];exact d9 _, ?_,bg,by rw[jF]⟩
   exact af.beside (by rw[cm];omega) (fun b hb=>alloc_old _ b hb) gk je (mi β φ hc) (fun hi=>Cy _ hi bE)
  ·intro b hb
   rw[List.mem_singleton] at hb
   subst hb
   refine⟨⟨.inl hle,by rw[cm];omega⟩,fun j ob hj hb=> ?_⟩
   have:=((hc.fresh j ob hj).2 _ hb).2
   omega
 ·simp only[ak,jF]
theorem B2 (hR:Rel w0 S st a w) {d:Nat} (aQ:o.dst=some d) (hd:bd st.n d) (bW:bJ st d) {t:TypeId} (ho:o.op= .alloc t) {z:List SV} (hz:(dJ P t).val st.get st.obj=some z)
  (he:e= {sv:= .ptr (ag d 0) 0,ow:=[(ag d 0,some (.box t z))]}):Good P w0 S st o e a w:=by
 obtain⟨i,zv,hi,mX,rfl,bg⟩:=dw hz
 refine j7 hR aQ hd bW (vs:=zv.cells.toList) ?_ (fun β φ hc=>eI _) bg (by simp [jT]) he
 simp [execOp,ho,Instr.alloc,zeroValue,typeInfo,hi,mX,newVar,newRow]
theorem DY (hR:Rel w0 S st a w) {d:Nat} (aQ:o.dst=some d) (hd:bd st.n d) (bW:bJ st d) {t:TypeId} {x:Operand} (ho:o.op= .box t x) {s:SV} {cs:List SV}
  (hx:(cb x).val st.get st.obj=some s) (fA:(aC s).val st.get st.obj=some cs)
  (he:e= {sv:= .ptr (ag d 0) 0,ow:=[(ag d 0,some (.box t cs))]}):Good P w0 S st o e a w:=by
 obtain⟨Jw,Jx,Cg⟩:=hR.core
 refine j7 hR aQ hd bW (vs:=(a.eval x).cells.toList) ?_ (fun β φ hc=>(dM (hc.ev hx) fA).1) (dM (Cg.ev hx) fA).2 ?_ he
 ·simp [execOp,ho,Instr.box,newVar,newRow]
 ·rw[Ca fA]
  exact FC bW hx
end
end Go.Proofs.YtngbcccnjiaddaaGreat.Vm
namespace Go.Proofs.YtngbcccnjiaddaaGreat.Vm
section
variable {P:Program} {Γ:Ctx} {w0:World} {S:Own} {st:St} {o:Oper} {e:cL} {a:Act} {w:World}
variable {f:Nat→SV} {h:Nat→Option aj} {β:Env} {φ:Nat→List Nat} {tm:Array Value}
theorem dK.cons {ct:List CT} {r:List DC} {l:List Value} {g:List Nat} {rows:List (List DC)} {vals:List Value} {az:List (List Nat)} (h1:a8 w ct r (fun j=>l[j]?) g) (hl:l.length=ct.length)
  (h2:dK w ct rows vals az):dK w ct (r::rows) (l++vals) (g::az):=by
 refine⟨by simp [h2.1],fun i r' f' hi hf=> ?_⟩
 cases i with
 | zero=>
  simp at hi hf
  subst hi hf
  refine bl.a8.jV (fun j u hj=> ?_) h1
  simp only[Nat.zero_mul,Nat.zero_add]
  rw[List.getElem?_append_left (by have:=List.getElem?_eq_some_iff.1 hj;exact this.1)]
  exact hj
 | succ i=>
  have:=h2.2 i r' f' (by simpa using hi) (by simpa using hf)
  refine bl.a8.jV (fun j u hj=> ?_) this
  rw[List.getElem?_append_right (by rw[hl,Nat.succ_mul];omega)]
  rw[←hj]
  congr 1
  rw[hl,Nat.succ_mul]
  omega
theorem dK.nil {ct:List CT} {vals:List Value} :dK w ct [] vals []:=⟨rfl,by simp⟩
theorem dK.append {ct:List CT} {rows GW:List (List DC)} {vals AB:List Value} {az FR:List (List Nat)} (h1:dK w ct rows vals az) (hl:vals.length=rows.length*ct.length)
  (h2:dK w ct GW AB FR):dK w ct (rows++GW) (vals++AB) (az++FR):=by
 refine⟨by simp [h1.1,h2.1],fun i r f hi hf=> ?_⟩
 rcases Nat.lt_or_ge i rows.length with cn | EI
 ·rw[List.getElem?_append_left cn] at hi
  rw[List.getElem?_append_left (by rw[h1.1];exact cn)] at hf
  refine bl.a8.jV (fun j u hj=> ?_) (h1.2 i r f hi hf)
  rw[List.getElem?_append_left (by have:=List.getElem?_eq_some_iff.1 hj;exact this.1)]
  exact hj
 ·rw[List.getElem?_append_right EI] at hi
  rw[List.getElem?_append_right (by rw[h1.1];exact EI),h1.1] at hf
  refine bl.a8.jV (fun j u hj=> ?_) (h2.2 _ r f hi hf)
  have e1:i*ct.length+j=rows.length*ct.length+((i - rows.length)*ct.length+j):=by
   have:i*ct.length=rows.length*ct.length+(i - rows.length)*ct.length:=by rw[←Nat.add_mul];congr 1;omega
   omega
  rw[List.getElem?_append_right (by omega)]
  rw[←hj]
  congr 1
  omega
theorem dA {m:eW} {j:Nat} {ob:aj} (hj:fo (ai m) h j=some ob):(h j=some ob)∨(∃e' r,ob= .d7 e' r∧∃y∈m,y.1=j):=by
 induction m with
 | nil=>exact .inl hj
 | cons x l ih=>
  obtain⟨i,e',r,u⟩:=x
  simp only[ai,fo,aA] at hj
  split at hj
  ·rename_i gx
   injection hj with hj
   exact .inr ⟨e',r,hj.symm,_,List.mem_cons_self ..,gx.symm⟩
  ·rcases ih hj with h1 | ⟨Es,r',h1,y,hy,h2⟩
   ·exact .inl h1
   ·exact .inr ⟨Es,r',h1,y,List.mem_cons_of_mem _ hy,h2⟩
theorem gY {m:eW} {j:Nat} (BI:∃y∈m,y.1=j):bm φ m j=[]:=by
 induction m with
 | nil=>obtain⟨y,hy,_⟩:=BI;simp at hy
 | cons z l ih=>
  obtain⟨y,hy,rfl⟩:=BI
  simp only[bm,aA]
  by_cases Le:y.1=z.1
  ·rw[if_pos Le]
  ·rw[if_neg Le]
   rcases List.mem_cons.1 hy with rfl | hy
   ·exact absurd rfl Le
   ·exact ih ⟨y,hy,rfl⟩
theorem fa (hR:Rel w0 S st a w) {d:Nat} (aQ:o.dst=some d) (hd:bd st.n d) (bW:bJ st d) {t:TypeId} {ct:List CT} {rows:List (List DC)} {fz u:Bool} {m:eW} {w':World} {v:Value}
  (bp:(execOp a.eval o).run P w= .ok (.value v) w') (hk:Kept S w0 w') (hs:w.heap.size≤w'.heap.size) (hw:∀b,b<w.heap.size→w'.heap[b]? =w.heap[b]?)
  (hB:∀b∈v.ownBlock.toList,b=w.heap.size) (hm:bS st.obj m) (Bq:aM m=true) {vals:List Value} (a7:cl w' t ct.length fz v rows.length vals)
  (da:∀β φ,Core w0 S st.get st.obj β φ a.tmps w→∃az,dK w ct rows vals az∧(∀b∈az.flatten,(¬Av st.obj β b)∨∃x∈m,b∈eU st.obj β x.1)∧
   (u=true→(∀b∈az.flatten,∃x∈m,b∈φ x.1)∧az.flatten.Nodup))
  (fT:e.sv= .own (ag d 0)) (kT:e.cw=none) (how:e.ow=(ag d 0,some (.row t ct rows fz u))::ai m):Good P w0 S st o e a w:=by
 obtain⟨β,φ,hc⟩:=hR.core
 obtain⟨az,da,cP,hu⟩:=da β φ hc
 have jH:=hc.gw m hm Bq
 have bE:ag d 0 / 64=d:=cM d 0 (by omega)
 have gk:∀j,j≠ag d 0→(β.fQ (ag d 0) v).val j=β.val j∧(β.fQ (ag d 0) v).cU j=β.cU j:=by
  intro j hj
  exact⟨by simp [Env.fQ,aA,hj],rfl⟩
 have hval:(β.fQ (ag d 0) v).val (ag d 0)=v:=by simp [Env.fQ,aA]
 have je:∀b∈al (β.fQ (ag d 0) v) (ag d 0) (.row t ct rows fz u),w.heap.size≤b:=by
  intro b hb
  simp only[al,hval] at hb
  rw[hB b hb]
  exact Nat.le_refl _
 have cn:=da.lt
 have hle:=hR.kept.size
 have jE:∀b∈az.flatten,¬Av (fo (ai m) st.obj) β b:=by
  intro b hb
  rcases cP b hb with h1 | ⟨x,hx,ko⟩
  ·exact fun h2=>h1 (fX h2)
  ·exact dC hc hm hx ko
 refine bY hR (fun d' h'=>by rw[aQ] at h';injection h' with h';exact h' ▸ hd) bp hk
  ⟨β.fQ (ag d 0) v,aA (bm φ m) (ag d 0) (v.ownBlock.toList++(bif u then az.flatten else [])), ?_, ?_⟩
 ·rw[how,kT]
  refine jH.create hs hw (fun i hi=>bW.slot i _ hi bE) (fun j ob hj hi=> ?_) ?_ gk je ?_ ?_ ?_
  ·rcases dA hj with h1 | ⟨e',r,rfl,_⟩
   ·exact (bW.obj j ob h1).2 _ hi bE
   ·simp [cD] at hi
  ·cases hn:fo (ai m) st.obj (ag d 0) with
   | none=>rfl
   | some ob=>
    rcases dA hn with h1 | ⟨e',r,rfl,y,hy,h2⟩
    ·exact absurd bE (bW.obj _ ob h1).1
    ·obtain⟨_,h3,_⟩:=hm y hy
     rw[h2] at h3
     exact absurd bE (bW.obj _ _ h3).1
  ·refine⟨vals,az,by rw[hval];exact a7,da.mono hs (fun b hb=>hw b (cn b hb)),fun b hb hx=> ?_,by rw[hval]⟩
   rcases hx with ⟨j,oj,hj,bo⟩ | hx
   case inr=>exact jE b hb (.inr hx)
   by_cases cd:j=ag d 0
   ·subst cd
    simp only[aA,if_true,Option.some.injEq] at hj
    subst hj
    have:=je b bo
    have:=cn b hb
    omega
   ·simp only[aA,cd,if_false] at hj
    refine jE b hb (.inl ⟨j,oj,hj, ?_⟩)
    cases oj<;>simp only[al,gk j cd] at bo ⊢ <;>exact bo
  ·have AY:v.ownBlock.toList.Nodup:=by cases v.ownBlock<;>simp
   cases u with
   | false=>simpa using AY
   | true=>
    rw[cond_true,List.nodup_append]
    refine⟨AY,(hu rfl).2,fun b hb c gZ DH=> ?_⟩
    have h1:=hB b hb
    have h2:=cn c gZ
    omega
  ·intro b hb
   rcases List.mem_append.1 hb with hb | hb
   ·have h1:=hB b hb
    subst h1
    refine⟨⟨.inl hle, ?_⟩,fun j ob hj bo=> ?_⟩
    ·have:=a7.lt _ hb
     exact this
    ·have:=((jH.fresh j ob hj).2 _ bo).2
     omega
   ·cases u with
    | false=>simp at hb
    | true=>
     simp only[cond_true] at hb
     obtain⟨x,hx,ko⟩:=(hu rfl).1 b hb
     obtain⟨_,h3,_⟩:=hm x hx
     have h4:=(hc.fresh x.1 _ h3).2 b ko
     refine⟨⟨h4.1,by omega⟩,fun j ob hj bo=> ?_⟩
     by_cases BI:∃y∈m,y.1=j
     ·rw[gY BI] at bo
      simp at bo
     ·have BK:∀y∈m,y.1≠j:=fun y hy e=>BI ⟨y,hy,e⟩
      rw[bK BK] at hj
      rw[cW BK] at bo
      exact hc.sep x.1 j _ _ (BK x hx) h3 hj b ko bo
 ·rw[fT]
  unfold ak
  exact⟨hval.symm,a7.one⟩
theorem C7 {ct:CT} {v:Value} {q:DC×eW×Bool} (hq:(eK ct (ofConst v)).val f h=some q):q.2.1=[]∧q.2.2=true:=by
 unfold ofConst at hq
 split at hq
 ·simp only[eK] at hq
  split at hq<;>simp at hq
  subst hq;exact⟨rfl,rfl⟩
 ·rename_i k n
  cases hi:BS k n
  ·simp [hi,eK] at hq
  ·simp only[hi,cond_true,eK] at hq
   split at hq
   ·rename_i k'
    by_cases hk:k=k'
    ·simp [hk] at hq;subst hq;exact⟨rfl,rfl⟩
    ·simp [hk] at hq
   ·simp at hq
 ·generalize Nat.ble _ _=c at hq
  cases c
  ·simp [eK] at hq
  ·simp only[cond_true,eK] at hq
   split at hq<;>simp at hq
   subst hq;exact⟨rfl,rfl⟩
 ·simp only[eK] at hq
  split at hq<;>simp at hq
  subst hq;exact⟨rfl,rfl⟩
 ·simp [eK] at hq
theorem lj:∀(bB:List CT) (l:List Value) (q:List DC×eW×Bool),(cf bB (l.map ofConst)).val f h=some q→q.2.1=[]∧q.2.2=true
 | [],[],q,hq=>by simp [cf] at hq;subst hq;exact⟨rfl,rfl⟩
 | [],_::_,q,hq=>by simp [cf] at hq
 | _::_,[],q,hq=>by simp [cf] at hq
 | c::cs,v::l,q,hq=>by
  simp only[List.map_cons,cf,M.ae,Option.bind_eq_some_iff,M.aa,Option.some.injEq] at hq
  obtain⟨q1,aG,q2,cx,rfl⟩:=hq
  obtain⟨h1,h2⟩:=C7 aG
  obtain⟨h3,h4⟩:=lj cs l q2 cx
  simp [h1,h2,h3,h4]
theorem cE:∀(bB:List CT) (l:List SV) (q:List DC×eW×Bool),(cf bB l).val f h=some q→l.length=bB.length
 | [],[],q,hq=>rfl
 | [],_::_,q,hq=>by simp [cf] at hq
 | _::_,[],q,hq=>by simp [cf] at hq
 | c::cs,v::l,q,hq=>by
  simp only[cf,M.ae,Option.bind_eq_some_iff,M.aa,Option.some.injEq] at hq
  obtain⟨q1,aG,q2,cx,rfl⟩:=hq
  simp [cE cs l q2 cx]
theorem dK.replicate {ct:List CT} {r:List DC} {z:List Value} (h1:a8 w ct r (fun j=>z[j]?) []) (hl:z.length=ct.length):∀n,dK w ct (List.replicate n r) (List.replicate n z).flatten (List.replicate n [])
 | 0=>dK.nil
 | n+1=>by
  simp only[List.replicate_succ,List.flatten_cons]
  exact dK.cons h1 hl (dK.replicate h1 hl n)
theorem Dr (z:Array Value):∀n,(madeCells z (n*z.size)).toList=(List.replicate n z.toList).flatten:=by
 intro n
 apply List.ext_getElem?
 intro i
 simp only[madeCells]
 rcases Nat.eq_zero_or_pos z.size with h0 | hp
 ·have hz:z= #[]:=by simpa using h0
  subst hz
  simp
 ·rcases Nat.lt_or_ge i (n*z.size) with hi | hi
  ·have hr:(List.replicate n z.toList).flatten[i]? =z.toList[i % z.size]? :=by
    have key:∀n i,i<n*z.size→(List.replicate n z.toList).flatten[i]? =z.toList[i % z.size]? :=by
     intro n
     induction n with
     | zero=>intro i hi;simp at hi
     | succ n ih=>
      intro i hi
      simp only[List.replicate_succ,List.flatten_cons]
      rcases Nat.lt_or_ge i z.size with h1 | h1
      ·rw[List.getElem?_append_left (by simpa using h1),Nat.mod_eq_of_lt h1]
      ·rw[List.getElem?_append_right (by simpa using h1)]
       have h2:i - z.toList.length<n*z.size:=by simp;rw[Nat.succ_mul] at hi;omega
       rw[ih _ h2]
       congr 1
       simp only[Array.length_toList]
       rw[←Nat.mod_eq_sub_mod h1]
    exact key n i hi
   rw[hr]
   have hm:i % z.size<z.size:=Nat.mod_lt _ hp
   simp [hi,hm]
  ·rw[List.getElem?_eq_none (by simp;omega),List.getElem?_eq_none (by simp;omega)]
theorem C3 (hR:Rel w0 S st a w) {d:Nat} (aQ:o.dst=some d) (hd:bd st.n d) (bW:bJ st d) {t et:TypeId} {l c:Operand} (ho:o.op= .makeSlice t l c) {n m:Int} {ct:List CT} {i:TypeInfo} {z:List SV} {r:List DC×eW×Bool}
  (hl:(cb l).val st.get st.obj=some (.int .i64 n)) (hm:(cb c).val st.get st.obj=some (.int .i64 m)) (hu:P.underlying t=some (.slice et)) (hi:P.info? et=some i) (dx:i.size=ct.length)
  (hz:(dJ P et).val st.get st.obj=some z) (hr:(cf ct z).val st.get st.obj=some r)
  (he:e= {sv:= .own (ag d 0),ow:=[(ag d 0,some (.row et ct (List.replicate n.toNat r.1) false true))],ok:=decide (0≤n) && decide (n≤m) && decide (m.toNat*i.bytes≤140737488355328) && decide (m≤9223372036854775807)})
  (aJ:e.ok=true):Good P w0 S st o e a w:=by
 subst he
 simp only[Bool.and_eq_true,decide_eq_true_eq] at aJ
 obtain⟨⟨⟨h0,IZ⟩,Bl⟩,JO⟩:=aJ
 obtain⟨i',zv,dQ,mX,rfl,bg⟩:=dw hz
 rw[hi] at dQ
 injection dQ with dQ
 subst dQ
 obtain⟨kt,Kn⟩:=lj _ _ _ hr
 have jO:zv.cells.toList.length=ct.length:=by simpa using cE _ _ _ hr
 have ES:(madeCells zv.cells (m.toNat*i.size)).toList=(List.replicate m.toNat zv.cells.toList).flatten:=by
  have:=Dr zv.cells m.toNat
  rw[dx,←jO]
  simpa using this
 obtain⟨Jw,Jx,Cg⟩:=hR.core
 have hx:=Cg.ev hl
 have hy:=Cg.ev hm
 simp only[ak] at hx hy
 have hb:(i.bytes:Int)*m≤281474976710656:=by
  have h1:((m.toNat*i.bytes:Nat):Int)≤140737488355328:=by omega
  rw[Int.natCast_mul,Int.toNat_of_nonneg (by omega),Int.mul_comm] at h1
  omega
 have bp:=run_make (P:=P) w t et i zv hu hi mX .i64 .i64 n m h0 IZ hb JO
 refine fa hR aQ hd bW (m:=[]) (fz:=false) (u:=true) (vals:=(List.replicate n.toNat zv.cells.toList).flatten) (v:= .slice (some ⟨w.heap.size,0,none⟩) n.toNat m.toNat)
  (w':=w.alloc (.cells (madeCells zv.cells (m.toNat*i.size)) et)) ?_ (hR.kept.alloc _) (by rw[cm];omega) (fun b hb=>alloc_old _ b hb) (by simp [Value.ownBlock]) (by simp [bS]) rfl ?_ ?_ rfl rfl rfl
 ·simp [execOp,ho,hx.1,hy.1,bp]
 ·refine⟨by simp [jO],.inr ⟨w.heap.size,m.toNat,_,by simp,by simpa using d9 _,by simp;omega,by simp only[maxLen];omega,by rw[size_madeCells,dx], ?_⟩⟩
  rw[ES]
  have:List.replicate m.toNat zv.cells.toList=List.replicate n.toNat zv.cells.toList++List.replicate (m.toNat - n.toNat) zv.cells.toList:=by
   rw[List.replicate_append_replicate]
   congr 1
   omega
  rw[this,List.flatten_append,List.take_append_of_le_length (by simp [jO]),List.take_of_length_le (by simp [jO])]
 ·intro β φ hc
  obtain⟨fp,ka,_,_,Bo⟩:=dY hc ct _ _ r (eI zv.cells.toList) hr
  have KJ:fp=[]:=by
   have:=(Bo Kn).1
   cases fp with
   | nil=>rfl
   | cons b l=>
    obtain⟨x,hx,_⟩:=this b (List.mem_cons_self ..)
    rw[kt] at hx
    simp at hx
  subst KJ
  refine⟨List.replicate n.toNat [],dK.replicate ka jO n.toNat, ?_, ?_⟩
  ·intro b hb
   simp at hb
  ·intro _
   constructor
   ·intro b hb;simp at hb
   ·have:(List.replicate n.toNat ([]:List Nat)).flatten=[]:=by simp
    rw[this]
    simp
theorem fL (hc:Core w0 S st.get st.obj β φ a.tmps w) {ct:List CT} :∀(parts:List (Nat×Operand)) (k:Nat) (q:List (List DC)×eW×Bool),(ea ct k parts).val st.get st.obj=some q→
  ∃(vals:List Value) (az:List (List Nat)),vals.length=parts.length*ct.length∧q.1.length=parts.length∧(∀x∈vals,x.oneCell'=true)∧dK w ct q.1 vals az∧bS st.obj q.2.1∧
   (∀b∈az.flatten,(¬Av st.obj β b)∨∃x∈q.2.1,b∈eU st.obj β x.1)∧(q.2.2=true→(∀b∈az.flatten,∃x∈q.2.1,b∈φ x.1)∧(aM q.2.1=true→az.flatten.Nodup))∧
   ∀(pre suf:List Value),pre.length=k*ct.length→suf.length=parts.length*ct.length→
    Instr.fill (fun i=>some (i*ct.length,ct.length)) (pre++suf).toArray (parts.map fun x=>(x.1,a.eval x.2))=some (pre++vals).toArray
 | [],k,q,hq=>by
  simp only[ea,M.aa,Option.some.injEq] at hq
  subst hq
  refine⟨[],[],by simp,rfl,by simp,dK.nil,by simp [bS],by simp,by simp,fun pre suf h1 h2=> ?_⟩
  have:suf=[]:=by simpa using h2
  subst this
  simp [Instr.fill]
 | (i,x)::rest,k,q,hq=>by
  simp only[ea] at hq
  cases D2:Nat.beq i k
  ·simp [D2] at hq
  have D2:=Nat.eq_of_beq_eq_true D2
  subst D2
  simp only[Nat.beq_refl,cond_true,M.ae,Option.bind_eq_some_iff,M.aa,Option.some.injEq] at hq
  obtain⟨s,hs,cs,fA,r,hr,q2,cx,rfl⟩:=hq
  obtain⟨fT,bg⟩:=dM (hc.ev hs) fA
  have Bm:=cE _ _ _ hr
  have A3:=af.length _ _ fT
  have bt:(a.eval x).cells.size=ct.length:=by simpa [Bm] using A3
  obtain⟨fp,ka,F0,Gw,GO⟩:=dY hc ct cs _ r fT hr
  obtain⟨vals,az,j_,IJ,I1,jI,Di,DG,DM,Cv⟩:=fL hc rest (i+1) q2 cx
  refine⟨(a.eval x).cells.toList++vals,fp::az, ?_,by simp [IJ], ?_,dK.cons ka (by simpa using bt) jI,e_ F0 Di, ?_, ?_, ?_⟩
  ·simp only[List.length_append,j_,List.length_cons,Array.length_toList,bt,Nat.succ_mul]
   omega
  ·intro y hy
   rcases List.mem_append.1 hy with hy | hy
   ·exact bg y hy
   ·exact I1 y hy
  ·intro b hb
   simp only[List.flatten_cons,List.mem_append] at hb
   rcases hb with hb | hb
   ·rcases Gw b hb with h1 | ⟨y,hy,h1⟩
    ·exact .inl h1
    ·exact .inr ⟨y,List.mem_append_left _ hy,h1⟩
   ·rcases DG b hb with h1 | ⟨y,hy,h1⟩
    ·exact .inl h1
    ·exact .inr ⟨y,List.mem_append_right _ hy,h1⟩
  ·intro hu
   simp only[Bool.and_eq_true] at hu
   refine⟨fun b hb=> ?_,fun hn=> ?_⟩
   ·simp only[List.flatten_cons,List.mem_append] at hb
    rcases hb with hb | hb
    ·obtain⟨y,hy,h1⟩:=(GO hu.1).1 b hb
     exact⟨y,List.mem_append_left _ hy,h1⟩
    ·obtain⟨y,hy,h1⟩:=(DM hu.2).1 b hb
     exact⟨y,List.mem_append_right _ hy,h1⟩
   ·obtain⟨JP,Hv,cJ⟩:=gK hn
    simp only[List.flatten_cons]
    exact apart hc F0 Di cJ (GO hu.1).1 (DM hu.2).1 ((GO hu.1).2 JP) ((DM hu.2).2 Hv)
  ·intro pre suf h1 h2
   simp only[List.length_cons,Nat.succ_mul] at h2
   simp only[List.map_cons]
   rw[kl (off:=i*ct.length) (by rw[bt]) (by simp [h1,bt];omega)]
   have e1:((pre++suf).toArray.toList.take (i*ct.length)++((a.eval x).cells.toList++(pre++suf).toArray.toList.drop (i*ct.length+(a.eval x).cells.size)))=(pre++(a.eval x).cells.toList)++suf.drop ct.length:=by
    simp only[bt,←h1]
    simp [List.drop_append]
   rw[e1,Cv (pre++(a.eval x).cells.toList) (suf.drop ct.length) (by simp [h1,bt,Nat.succ_mul]) (by simp [h2])]
   simp
theorem kH (hR:Rel w0 S st a w) {d:Nat} (aQ:o.dst=some d) (hd:bd st.n d) (bW:bJ st d) {t et:TypeId} {len:Nat} {parts:Array (Nat×Operand)} (ho:o.op= .buildSlice t len parts) {ct:List CT} {q:List (List DC)×eW×Bool}
  (hu:P.underlying t=some (.slice et)) (dx:aY P et ct.length=true) (jL:0<ct.length) (hlen:len=parts.toList.length) (Jb:len*ct.length≤16777216)
  (hq:(ea ct 0 parts.toList).val st.get st.obj=some q) (hz:∃z,(dJ P et).val st.get st.obj=some z) (hn:aM q.2.1=true)
  (he:e= {sv:= .own (ag d 0),ow:=(ag d 0,some (.row et ct q.1 false q.2.2))::ai q.2.1}):Good P w0 S st o e a w:=by
 subst he
 obtain⟨i,hi,bt⟩:=aX dx
 obtain⟨Jw,Jx,Cg⟩:=hR.core
 obtain⟨vals,_,A3,F4,bg,_,hm,_,_,kU⟩:=fL Cg parts.toList 0 q hq
 obtain⟨z,hz⟩:=hz
 obtain⟨i',zv,dQ,mX,_,_⟩:=dw hz
 rw[hi] at dQ
 injection dQ with dQ
 subst dQ
 have hle:len≤maxLen:=by
  have:len≤len*ct.length:=Nat.le_mul_of_pos_right _ jL
  simp only[maxLen]
  omega
 have bp:(Instr.buildSlice t len (parts.map fun x=>(x.1,a.eval x.2))).run P w= .ok (.slice (some ⟨w.heap.size,0,none⟩) len len) (w.alloc (.cells vals.toArray et)):=by
  rcases Nat.eq_zero_or_pos len with h0 | h0
  ·have hp:parts= #[]:=by
    have:parts.toList.length=0:=by omega
    simpa using this
   have hv:vals=[]:=by
    have:vals.length=0:=by rw[A3,←hlen,h0,Nat.zero_mul]
    simpa using this
   subst hp hv h0
   simp [Instr.buildSlice,run_underlying hu,sizeOf,typeInfo,hi,Instr.fill,newRow,Array.range_zero']
  ·refine run_buildSlice (P:=P) w t et len _ vals.toArray i zv hu hi mX (by rw[bt];omega) (by rw[bt];exact Nat.ne_of_gt (Nat.mul_pos h0 jL)) ?_
   have:=kU [] ((Array.range (len*ct.length)).map (zv.cells[· % zv.cells.size]!)).toList (by simp) (by simp [hlen])
   rw[bt]
   generalize (Array.range (len*ct.length)).map (zv.cells[· % zv.cells.size]!)=A at this ⊢
   simpa using this
 refine fa hR aQ hd bW (m:=q.2.1) (fz:=false) (u:=q.2.2) (vals:=vals) (v:= .slice (some ⟨w.heap.size,0,none⟩) len len) (w':=w.alloc (.cells vals.toArray et)) ?_ (hR.kept.alloc _)
  (by rw[cm];omega) (fun b hb=>alloc_old _ b hb) (by simp [Value.ownBlock]) hm hn ?_ ?_ rfl rfl rfl
 ·simp [execOp,ho,bp]
 ·refine⟨by rw[A3,F4],.inr ⟨w.heap.size,len,vals.toArray,by rw[F4,←hlen],by simpa using d9 _,by rw[F4,←hlen];exact Nat.le_refl _,hle,by simp [A3,hlen], ?_⟩⟩
  rw[F4,←A3]
  simp
 ·intro β φ hc
  obtain⟨AB,az,MI,MC,mq,da,Kz,cP,gJ,Hk⟩:=fL hc parts.toList 0 q hq
  have ML:AB=vals:=by
   have h1:=kU [] (List.replicate (parts.toList.length*ct.length) undef) (by simp) (by simp)
   have h2:=Hk [] (List.replicate (parts.toList.length*ct.length) undef) (by simp) (by simp)
   rw[h1] at h2
   simpa using h2.symm
  subst ML
  exact⟨az,da,cP,fun h=>⟨(gJ h).1,(gJ h).2 hn⟩⟩
end
end Go.Proofs.YtngbcccnjiaddaaGreat.Vm
namespace Go.Proofs.YtngbcccnjiaddaaGreat.Vm
theorem bO (P:Program) (g o:Nat) (t:TypeId) (fz:Nat×Nat):∀(vs:List Value) (i:Nat) (cur:Array Value) (w:World),w.heap[g]? =some (.cells cur t fz)→(∀j,j<cur.size→¬(fz.1≤j∧j<fz.2))→
  o+i+vs.length≤cur.size→(∀v∈vs,v.oneCell'=true)→
  (storeCells ⟨g,o,none⟩ vs i).run P w= .ok () (w.setRow g (cur.toList.take (o+i)++(vs++cur.toList.drop (o+i+vs.length))).toArray)
 | [],i,cur,w,hg,_,_,_=>by
  simp only[storeCells,List.nil_append,List.length_nil,Nat.add_zero,List.take_append_drop,Array.toArray_toList]
  rw[setRow_self w g cur t fz hg]
  rfl
 | v::rest,i,cur,w,hg,hfz,hl,h1=>by
  have hi:o+i<cur.size:=by simp at hl;omega
  have hcell:w.cell? ⟨g,o+i,none⟩=some cur[o+i]:=by simp [World.cell?,hg,hi]
  have Km:w.frozen? ⟨g,o+i,none⟩=false:=by
   have:=hfz (o+i) hi
   obtain⟨lo,dQ⟩:=fz
   simp only[World.frozen?,hg,Bool.and_eq_false_iff,decide_eq_false_iff_not]
   simp only at this
   omega
  have ib:(store ((⟨g,o,none⟩:Addr).add i) v).run P w= .ok () (w.setRow g (cur.setIfInBounds (o+i) v)):=by
   rw[dm,run_store P w _ v _ (h1 v (by simp)),hcell]
   simp [Km,setCell_eq_setRow w g (o+i) cur t fz v hg]
  have ih:=bO P g o t fz rest (i+1) (cur.setIfInBounds (o+i) v) (w.setRow g (cur.setIfInBounds (o+i) v)) (setRow_heap w g cur _ t _ hg) (by simpa using hfz) (by simp at hl ⊢;omega) (fun x hx=>h1 x (by simp [hx]))
  simp only[storeCells,Sem.run_bind,ib,Result.andThen_ok,ih,setRow_setRow]
  congr 3
  have:=list_seg_step cur.toList (o+i) v rest (by simp at hl ⊢;omega)
  simp only[Array.toList_setIfInBounds,List.length_cons]
  rw[←Nat.add_assoc]
  simpa [List.append_assoc] using this
theorem a8.split {w:World} :∀(AJ lr:List CT) (r:List DC) (f:Nat→Option Value) (fp:List Nat),a8 w (AJ++lr) r f fp→
  ∃lI gv,a8 w AJ (r.take AJ.length) f lI∧a8 w lr (r.drop AJ.length) (fun j=>f (AJ.length+j)) gv∧fp=lI++gv
 | [],lr,r,f,fp,h=>⟨[],fp,by simp [a8],by simpa using h,rfl⟩
 | c::cs,lr,r,f,fp,h=>by
  simp only[List.cons_append,a8] at h
  obtain⟨d,r',v,f1,f2,rfl,h0,h1,h2,rfl⟩:=h
  obtain⟨p1,p2,e1,e2,rfl⟩:=a8.split cs lr r' _ f2 h2
  refine⟨f1++p1,p2, ?_, ?_,by simp⟩
  ·simp only[List.length_cons,List.take_succ_cons,a8]
   exact⟨d,_,v,f1,p1,rfl,h0,h1,e1,rfl⟩
  ·simp only[List.length_cons,List.drop_succ_cons]
   have:∀j,cs.length+1+j=cs.length+j+1:=by intro j;omega
   simpa only[this] using e2
theorem a8.join {w:World} :∀(AJ lr:List CT) (r1 r2:List DC) (f:Nat→Option Value) (lI gv:List Nat),a8 w AJ r1 f lI→a8 w lr r2 (fun j=>f (AJ.length+j)) gv→
  a8 w (AJ++lr) (r1++r2) f (lI++gv)
 | [],lr,r1,r2,f,lI,gv,h1,h2=>by
  simp only[a8] at h1
  obtain⟨rfl,rfl⟩:=h1
  simpa using h2
 | c::cs,lr,r1,r2,f,lI,gv,h1,h2=>by
  simp only[a8] at h1
  obtain⟨d,r',v,f1,f2,rfl,h0,h3,h4,rfl⟩:=h1
  simp only[List.cons_append,a8]
  refine⟨d,r'++r2,v,f1,f2++gv,rfl,h0,h3,a8.join cs lr r' r2 _ f2 gv h4 ?_,by simp⟩
  have:∀j,(c::cs).length+j=cs.length+j+1:=by intro j;simp only[List.length_cons];omega
  simpa only[this] using h2
section
variable {P:Program} {Γ:Ctx} {w0:World} {S:Own} {st:St} {o:Oper} {e:cL} {a:Act} {w:World}
variable {f:Nat→SV} {h:Nat→Option aj} {β:Env} {φ:Nat→List Nat} {tm:Array Value}
theorem Kept.setRow (hk:Kept S w0 w) {g:Nat} (hg:w0.heap.size≤g∨S g) (cs:Array Value):Kept S w0 (w.setRow g cs):=
 ⟨hk.os,hk.tape,hk.output,by simpa using hk.size,fun k h1 h2=>by
  rw[setRow_other w g k cs (fun e=>by subst e;rcases hg with h | h;omega;exact h2 h)]
  exact hk.block k h1 h2⟩
theorem Core.rewrite (hc:Core w0 S f h β φ tm w) {id:Nat} {ob Fq:aj} {g:Nat} {cs:Array Value} {Gp:List Nat} (dR:h id=some ob) (hg:g∈al β id ob) (ht:∀b∈al β id Fq,b∈al β id ob)
  (hE:fU (w.setRow g cs) (Av (aA h id (some Fq)) β) β id Fq Gp) (hnd:Gp.Nodup) (mK:∀b∈Gp,((w0.heap.size≤b∨S b)∧b<w.heap.size)∧∀j o,j≠id→h j=some o→b ∉ φ j):
  Core w0 S f (aA h id (some Fq)) β (aA φ id Gp) tm (w.setRow g cs):=by
 have Cx:=ah (hc.ay id ob dR) g hg
 refine hc.step (fun _=>False) (by simp) (fun b _ hb=>setRow_other w g b cs (fun e=>hb (e ▸ .inl ⟨id,ob,dR,hg⟩))) ?_ (fun _ _ _ h=>h) (fun _ _=>⟨rfl,rfl⟩) ?_ ?_
 ·rintro b (⟨j,oj,hj,bo⟩ | hb)
  case inr=>exact .inl (.inr hb)
  by_cases cd:j=id
  ·subst cd
   simp only[aA,if_true,Option.some.injEq] at hj
   subst hj
   exact .inl (.inl ⟨j,ob,dR,ht b bo⟩)
  ·simp only[aA,cd,if_false] at hj
   exact .inl (.inl ⟨j,oj,hj,bo⟩)
 ·intro j oj hj
  by_cases cd:j=id
  ·subst cd
   simp only[aA,if_true,Option.some.injEq] at hj
   subst hj
   exact .inr ⟨by simpa [aA] using hE,by simpa [aA] using hnd,fun b hb=>by simpa using (mK b (by simpa [aA] using hb)).1⟩
  ·simp only[aA,cd,if_false] at hj
   refine .inl ⟨fun h=>h,hj,by simp [aA,cd],fun _ _ h=>h,fun b hb=>setRow_other w g b cs (fun e=> ?_)⟩
   subst e
   exact hc.sep id j _ _ (Ne.symm cd) dR hj b Cx (ah (hc.ay j oj hj) b hb)
 ·intro i j oi oj cJ hi hj b hb
  by_cases ly:i=id
  ·subst ly
   have gx:j≠i:=Ne.symm cJ
   simp only[aA,gx,if_false] at hj
   simp only[aA,if_true] at hb
   simp only[aA,gx,if_false]
   exact (mK b hb).2 j oj gx hj
  ·simp only[aA,ly,if_false] at hi hb
   by_cases cd:j=id
   ·subst cd
    simp only[aA,if_true]
    exact fun ax=>(mK b ax).2 i oi ly hi hb
   ·simp only[aA,cd,if_false] at hj ⊢
    exact hc.sep i j oi oj cJ hi hj b hb
theorem lW {id:Nat} {ob Fq:aj} (dR:h id=some ob) (ht:∀b∈al β id Fq,b∈al β id ob) {b:Nat} (hb:Av (aA h id (some Fq)) β b):Av h β b:=by
 rcases hb with ⟨j,oj,hj,bo⟩ | hb
 case inr=>exact .inr hb
 by_cases cd:j=id
 ·subst cd
  simp only[aA,if_true,Option.some.injEq] at hj
  subst hj
  exact .inl ⟨j,ob,dR,ht b bo⟩
 ·simp only[aA,cd,if_false] at hj
  exact .inl ⟨j,oj,hj,bo⟩
theorem ix {t:TypeId} {b off:Nat} {x:Value} {i:TypeInfo} (hi:P.info? t=some i) (dx:i.size=x.cells.size) {w':World} (bp:(storeCells ⟨b,off,none⟩ x.cells.toList 0).run P w= .ok () w'):
  (Instr.storeAt t (.pointer (some ⟨b,off,none⟩)) x).run P w= .ok () w':=by
 simp [Instr.storeAt,Instr.sureAddr,storeVar,sizeOf,typeInfo,hi,dx,bp]
theorem m7 {av:Nat→Prop} {cells bM:List SV} {vs us:List Value} {off:Nat} (h1:af w av β cells vs) (h2:af w av β bM us) (hl:us.length=bM.length):
  af w av β (cG cells off bM) (vs.take off++(us++vs.drop (off+us.length))):=by
 unfold cG
 refine af.append _ _ _ _ (af.take _ _ _ h1) (af.append _ _ _ _ h2 ?_)
 rw[hl]
 exact af.drop _ _ _ h1
theorem lC (hR:Rel w0 S st a w) (hd:∀d,o.dst=some d→bd st.n d) {t t':TypeId} {x y:Operand} (ho:o.op= .store t x y) {id off:Nat} {sy:SV} {bM cells:List SV}
  (h1:(cb x).val st.get st.obj=some (.ptr id off)) (h2:(cb y).val st.get st.obj=some sy) (fA:(aC sy).val st.get st.obj=some bM) (dx:aY P t bM.length=true)
  (aL:st.obj id=some (.box t' cells)) (dP:off+bM.length≤cells.length) (he:e= {sv:= .undef,cw:=some (id,off,bM)}):Good P w0 S st o e a w:=by
 subst he
 obtain⟨i,hi,bt⟩:=aX dx
 obtain⟨β,φ,hc⟩:=hR.core
 have hx:=hc.ev h1
 simp only[ak] at hx
 obtain⟨fT,bg⟩:=dM (hc.ev h2) fA
 obtain⟨vs,hh,hr,mq,kA⟩:=hc.ay id _ aL
 have hl:=af.length _ _ hr
 have j_:=af.length _ _ fT
 have mS:(a.eval y).cells.size=bM.length:=by simpa using j_
 have bp:=bO P (β.cU id) off t' (0,0) (a.eval y).cells.toList 0 vs.toArray w hh (by simp) (by simp;omega) bg
 simp only[Nat.add_zero] at bp
 have Mi:fc (some (id,off,bM)) st.obj=aA st.obj id (some (.box t' (cG cells off bM))):=by simp only[fc,aL]
 have GN:=hc.fresh id _ aL
 have cP:∀b,Av (aA st.obj id (some (.box t' (cG cells off bM)))) β b→Av st.obj β b:=fun b hb=>lW aL (by simp [al]) hb
 have GJ:∀(ss:List SV) (us:List Value),af w (Av st.obj β) β ss us→∀cs,af (w.setRow (β.cU id) cs) (Av (aA st.obj id (some (.box t' (cG cells off bM)))) β) β ss us:=by
  intro ss us HG cs
  exact af.mono (by simp) (fun b _ hb=>setRow_other w _ b cs (fun e=>hb (e ▸ .inl ⟨id,_,aL,by simp [al]⟩))) (fun b hb=> .inl (cP b hb)) ss us HG (fun _ _=>⟨rfl,rfl⟩)
 refine iE hR hd (w':=w.setRow (β.cU id) (vs.take off++((a.eval y).cells.toList++vs.drop (off+(a.eval y).cells.toList.length))).toArray) ?_ (hR.kept.setRow (GN.2 (β.cU id) (by rw[kA];simp)).1 _) ⟨β,aA φ id [β.cU id], ?_,by simp [ak]⟩
 ·simp [execOp,ho,hx,ix hi (bt.trans mS.symm) bp]
 ·show Core w0 S st.get (fo [] (fc (some (id,off,bM)) st.obj)) _ _ _ _
  simp only[fo,Mi]
  refine hc.rewrite aL (by simp [al]) (by simp [al]) ?_ (by simp) ?_
  ·refine⟨_,setRow_heap w _ _ _ _ _ hh,m7 (GJ _ _ hr _) (GJ _ _ fT _) j_, ?_,rfl⟩
   intro z hz
   simp only[List.mem_append] at hz
   rcases hz with hz | hz | hz
   ·exact mq z (List.mem_of_mem_take hz)
   ·exact bg z hz
   ·exact mq z (List.mem_of_mem_drop hz)
  ·intro b hb
   have ax:b∈φ id:=by rw[kA];exact hb
   exact⟨GN.2 b ax,fun j oj hj jd=>hc.sep id j _ _ (Ne.symm hj) aL jd b ax⟩
theorem bT {az:List (List Nat)} {i:Nat} (hi:i<az.length) (x:List Nat):(az.set i x).flatten=(az.take i).flatten++(x++(az.drop (i+1)).flatten):=by
 rw[List.set_eq_take_append_cons_drop,if_pos hi]
 simp
theorem bu {az:List (List Nat)} {i:Nat} (hi:i<az.length):az.flatten=(az.take i).flatten++(az[i]++(az.drop (i+1)).flatten):=by
 have:=bT hi az[i]
 rwa [List.set_getElem_self] at this
theorem dK.set {ct:List CT} {rows:List (List DC)} {vals:List Value} {az:List (List Nat)} (da:dK w ct rows vals az) (hl:vals.length=rows.length*ct.length) {i:Nat} (hi:i<rows.length)
  {off:Nat} {ds:List DC} {us:List Value} {fp:List Nat} (AZ:off+us.length≤ct.length) (ka:a8 w ((ct.drop off).take us.length) ds (fun j=>us[j]?) fp):
  ∃p1 p2 p3,az[i]? =some (p1++(p2++p3))∧dK w ct (rows.set i (bQ (rows.getD i []) off ds)) (vals.take (i*ct.length+off)++(us++vals.drop (i*ct.length+off+us.length))) (az.set i (p1++(fp++p3))):=by
 have FW:i<az.length:=by rw[da.1];exact hi
 have eP:=da.2 i (rows.getD i []) az[i] (cB hi) (by simp)
 generalize rows.getD i []=r at eP ⊢
 have BF:ct=ct.take off++((ct.drop off).take us.length++ct.drop (off+us.length)):=by
  rw[←List.drop_drop,List.take_append_drop,List.take_append_drop]
 have GG:(ct.take off).length=off:=by simp;omega
 have j_:((ct.drop off).take us.length).length=us.length:=by simp;omega
 have Mf:ds.length=us.length:=by rw[a8.length _ _ _ _ ka,j_]
 have I9:a8 w (ct.take off++((ct.drop off).take us.length++ct.drop (off+us.length))) r (fun j=>vals[i*ct.length+j]?) az[i]:=by
  rw[←BF]
  exact eP
 obtain⟨p1,q,r1,r2,hq⟩:=a8.split _ _ _ _ _ I9
 obtain⟨p2,p3,r3,r4,rfl⟩:=a8.split _ _ _ _ _ r2
 rw[GG] at r1 r2 r3 r4
 rw[j_] at r3 r4
 have JK:i*ct.length+ct.length≤vals.length:=by
  rw[hl,←Nat.succ_mul]
  exact Nat.mul_le_mul_right _ hi
 refine⟨p1,p2,p3,by rw[List.getElem?_eq_getElem FW,hq],by simp [da.1],fun k r' f' hk hf=> ?_⟩
 have lJ:∀j,(vals.take (i*ct.length+off)++(us++vals.drop (i*ct.length+off+us.length)))[j]? =
   if j<i*ct.length+off then vals[j]? else if j<i*ct.length+off+us.length then us[j - (i*ct.length+off)]? else vals[j]? :=by
  intro j
  have ht:(vals.take (i*ct.length+off)).length=i*ct.length+off:=by simp;omega
  split
  ·rename_i hj
   rw[List.getElem?_append_left (by omega),List.getElem?_take,if_pos hj]
  ·rename_i hj
   rw[List.getElem?_append_right (by omega),ht]
   split
   ·rw[List.getElem?_append_left (by omega)]
   ·rw[List.getElem?_append_right (by omega),List.getElem?_drop]
    congr 1
    omega
 by_cases Aj:k=i
 ·subst Aj
  rw[List.getElem?_set_self hi] at hk
  rw[List.getElem?_set_self FW] at hf
  simp only[Option.some.injEq] at hk hf
  subst hk hf
  have:=a8.join (w:=w) (ct.take off) ((ct.drop off).take us.length++ct.drop (off+us.length)) (r.take off) (ds++r.drop (off+ds.length))
   (fun j=>(vals.take (k*ct.length+off)++(us++vals.drop (k*ct.length+off+us.length)))[k*ct.length+j]?) p1 (fp++p3) ?_ ?_
  ·rw[←BF] at this
   exact this
  ·refine bl.a8.jn ?_ r1
   intro j u hj Bp
   rw[GG] at hj
   simp only[lJ]
   rw[if_pos (by omega)]
   exact Bp
  ·refine a8.join _ _ _ _ _ _ _ ?_ ?_
   ·refine bl.a8.jn ?_ ka
    intro j u hj Bp
    rw[j_] at hj
    simp only[GG,lJ]
    rw[if_neg (by omega),if_pos (by omega),←Bp]
    congr 1
    omega
   ·rw[Mf]
    simp only[List.drop_drop] at r4
    refine bl.a8.jV ?_ r4
    intro j u Bp
    simp only[GG,j_,lJ]
    rw[if_neg (by omega),if_neg (by omega)]
    rw[←Bp]
 ·rw[List.getElem?_set_ne (Ne.symm Aj)] at hk hf
  refine bl.a8.jn ?_ (da.2 k r' f' hk hf)
  intro j u hj Bp
  have FF:k<rows.length:=(List.getElem?_eq_some_iff.1 hk).1
  rw[lJ]
  rcases Nat.lt_or_ge k i with cn | EI
  ·have:k*ct.length+ct.length≤i*ct.length:=by rw[←Nat.succ_mul];exact Nat.mul_le_mul_right _ cn
   rw[if_pos (by omega)]
   exact Bp
  ·have:i*ct.length+ct.length≤k*ct.length:=by rw[←Nat.succ_mul];exact Nat.mul_le_mul_right _ (by omega)
   rw[if_neg (by omega),if_neg (by omega)]
   exact Bp
end
end Go.Proofs.YtngbcccnjiaddaaGreat.Vm
namespace Go.Proofs.YtngbcccnjiaddaaGreat.Vm
theorem iz {α:Type} (l us:List α) (o m:Nat) (h1:o+us.length≤m) (h2:m≤l.length):
  (l.take o++(us++l.drop (o+us.length))).take m=(l.take m).take o++(us++(l.take m).drop (o+us.length)):=by
 rw[List.take_append,List.take_append]
 have e1:(l.take o).length=o:=by simp;omega
 rw[e1]
 have e2:(l.take o).take m=(l.take m).take o:=by rw[List.take_take,List.take_take,Nat.min_comm]
 have e3:us.take (m - o)=us:=List.take_of_length_le (by omega)
 rw[e2,e3]
 congr 2
 rw[List.drop_take]
 congr 1
 omega
section
variable {P:Program} {Γ:Ctx} {w0:World} {S:Own} {st:St} {o:Oper} {e:cL} {a:Act} {w:World}
variable {f:Nat→SV} {h:Nat→Option aj} {β:Env} {φ:Nat→List Nat} {tm:Array Value}
theorem gE {A p1 p2 p3 B n:List Nat} (h:(A++((p1++(p2++p3))++B)).Nodup) (hn:n.Nodup) (hd:∀b∈n,b ∉ A++((p1++(p2++p3))++B)):(A++((p1++(n++p3))++B)).Nodup:=by
 have h1:((A++p1)++(p3++B)).Nodup:=by
  refine List.Sublist.nodup ?_ h
  simp only[List.append_assoc]
  refine List.Sublist.append (List.Sublist.refl _) (List.Sublist.append (List.Sublist.refl _) ?_)
  exact List.sublist_append_right _ _
 have h2:(n++((A++p1)++(p3++B))).Nodup:=by
  rw[List.nodup_append]
  refine⟨hn,h1,fun b hb c gZ DH=> ?_⟩
  subst DH
  refine hd b hb ?_
  simp only[List.mem_append] at gZ ⊢
  rcases gZ with (gZ | gZ) | gZ | gZ<;>simp [gZ]
 refine (List.Perm.nodup_iff ?_).1 h2
 have:A++((p1++(n++p3))++B)=(A++p1)++(n++(p3++B)):=by simp
 rw[this]
 exact (List.perm_append_comm_assoc _ _ _)
theorem lD (hR:Rel w0 S st a w) (hd:∀d,o.dst=some d→bd st.n d) {t t':TypeId} {x y:Operand} (ho:o.op= .store t x y) {id i off:Nat} {sy:SV} {bM:List SV} {ct:List CT} {rows:List (List DC)} {fz u:Bool} {r:List DC×eW×Bool}
  (h1:(cb x).val st.get st.obj=some (.ec id i ct.length off)) (h2:(cb y).val st.get st.obj=some sy) (fA:(aC sy).val st.get st.obj=some bM) (dx:aY P t bM.length=true)
  (aL:st.obj id=some (.row t' ct rows fz u)) (dP:off+bM.length≤ct.length) (hr:(cf ((ct.drop off).take bM.length) bM).val st.get st.obj=some r) (Bq:bP id r.2.1=true) (hnd:aM r.2.1=true)
  (hi:i<rows.length) (kT:e.cw=none) (BN:e.sv= .undef)
  (how:e.ow=(id,some (.row t' ct (rows.set i (bQ (rows.getD i []) off r.1)) fz (u && r.2.2)))::ai r.2.1):Good P w0 S st o e a w:=by
 obtain⟨ti,F5,bt⟩:=aX dx
 obtain⟨β,φ,hc⟩:=hR.core
 have hx:=hc.ev h1
 simp only[ak] at hx
 obtain⟨g,hg,hx⟩:=hx
 obtain⟨fT,bg⟩:=dM (hc.ev h2) fA
 have j_:=af.length _ _ fT
 have mS:(a.eval y).cells.size=bM.length:=by simpa using j_
 obtain⟨fp,ka,kt,Iz,Hn⟩:=dY hc _ _ _ r fT hr
 have jH:=hc.gw r.2.1 kt hnd
 have BK:=gB Bq
 have g_:fo (ai r.2.1) st.obj id=some (.row t' ct rows fz u):=by rw[bK BK];exact aL
 have jE:∀b∈fp,¬Av (fo (ai r.2.1) st.obj) β b:=by
  intro b hb
  rcases Iz b hb with h1 | ⟨z,hz,H0⟩
  ·exact fun h2=>h1 (fX h2)
  ·exact dC hc kt hz H0
 obtain⟨vals,az,a7,da,lx,kA⟩:=jH.ay id _ g_
 have kV:g∈al β id (.row t' ct rows fz u):=by simp [al,hg]
 rcases a7.2 with ⟨hv,h0,_⟩ | ⟨g',cap,cur,hv,hh,AX,D1,mj,E4⟩
 ·omega
 have Ho:g'=g:=by simpa [hv,Value.ownBlock] using hg
 subst Ho
 have hlen:i*ct.length+ct.length≤rows.length*ct.length:=by rw[←Nat.succ_mul];exact Nat.mul_le_mul_right _ hi
 have BJ:rows.length*ct.length≤cap*ct.length:=Nat.mul_le_mul_right _ AX
 have EH:∀j,j<cur.size→¬((bif fz then (cur.size,cur.size+1) else ((0,0):Nat×Nat)).1≤j∧j<(bif fz then (cur.size,cur.size+1) else ((0,0):Nat×Nat)).2):=by
  intro j hj
  cases fz<;>simp<;>omega
 have Dk:(a.eval y).cells.toList.length=bM.length:=by simpa using mS
 have bp:=bO P g' (i*ct.length+off) t' _ (a.eval y).cells.toList 0 cur w hh EH (by rw[Dk,mj];omega) bg
 simp only[Nat.add_zero] at bp
 generalize gj:(a.eval y).cells.toList=us at*
 rw[←Dk] at dP ka
 obtain⟨p1,p2,p3,Kk,mn⟩:=da.set a7.1 hi dP ka
 have FW:i<az.length:=by rw[da.1];exact hi
 have EG:az[i]=p1++(p2++p3):=by simpa [FW] using Kk
 have Dj:∀b∈(az.set i (p1++(fp++p3))).flatten,b∈az.flatten∨b∈fp:=by
  intro b hb
  rw[bT FW] at hb
  rw[bu FW,EG]
  simp only[List.mem_append] at hb ⊢
  rcases hb with hb | (hb | hb | hb) | hb<;>simp [hb]
 have iR:∀b∈(az.set i (p1++(fp++p3))).flatten,¬Av (fo (ai r.2.1) st.obj) β b:=by
  intro b hb
  rcases Dj b hb with hb | hb
  ·exact lx b hb
  ·exact jE b hb
 have bz:=jH.fresh id _ g_
 have ml:(cur.toList.take (i*ct.length+off)++(us++cur.toList.drop (i*ct.length+off+us.length))).length=cur.size:=by
  simp only[List.length_append,List.length_take,List.length_drop,Array.length_toList]
  rw[mj]
  omega
 have Al:∀b∈al β id (.row t' ct (rows.set i (bQ (rows.getD i []) off r.1)) fz (u && r.2.2)),b∈al β id (.row t' ct rows fz u):=fun b hb=>hb
 refine iE hR hd (w':=w.setRow g' (cur.toList.take (i*ct.length+off)++(us++cur.toList.drop (i*ct.length+off+us.length))).toArray) ?_
  (hR.kept.setRow (bz.2 g' (ah (jH.ay id _ g_) g' kV)).1 _)
  ⟨β,aA (bm φ r.2.1) id ((β.val id).ownBlock.toList++(bif (u && r.2.2) then (az.set i (p1++(fp++p3))).flatten else [])), ?_,by rw[BN];simp [ak]⟩
 ·have:=ix (P:=P) (t:=t) (b:=g') (off:=i*ct.length+off) (x:=a.eval y) F5 (bt.trans mS.symm) (by rw[gj];exact bp)
  simp [execOp,ho,hx,this]
 ·rw[how,kT]
  show Core w0 S st.get (aA (fo (ai r.2.1) st.obj) id (some (.row t' ct (rows.set i (bQ (rows.getD i []) off r.1)) fz (u && r.2.2)))) _ _ _ _
  refine jH.rewrite g_ kV Al ?_ ?_ ?_
  ·refine⟨vals.take (i*ct.length+off)++(us++vals.drop (i*ct.length+off+us.length)),az.set i (p1++(fp++p3)),⟨?_,.inr ⟨g',cap,(cur.toList.take (i*ct.length+off)++(us++cur.toList.drop (i*ct.length+off+us.length))).toArray,by simpa using hv, ?_,by simpa using AX,D1,by simpa [ml] using mj, ?_⟩⟩, ?_, ?_,rfl⟩
   ·have:=a7.1
    simp only[List.length_append,List.length_take,List.length_drop,List.length_set]
    omega
   ·rw[setRow_heap w _ _ _ _ _ hh]
    simp only[List.size_toArray,ml]
   ·simp only[List.length_set]
    rw[iz _ _ _ _ (by omega) (by simp only[Array.length_toList];omega),E4]
   ·refine mn.mono (by simp) (fun b hb=>setRow_other w g' b _ (fun e=>iR b hb (e ▸ .inl ⟨id,_,g_,kV⟩)))
   ·exact fun b hb hx=>iR b hb (lW g_ Al hx)
  ·have AY:(β.val id).ownBlock.toList.Nodup:=by cases (β.val id).ownBlock<;>simp
   cases gJ:(u && r.2.2) with
   | false=>simpa using AY
   | true=>
    simp only[Bool.and_eq_true] at gJ
    have HI:bm φ r.2.1 id=(β.val id).ownBlock.toList++az.flatten:=by rw[kA,gJ.1];rfl
    have Hu:=bz.1
    rw[HI,bu FW,EG,List.nodup_append] at Hu
    obtain⟨JP,Hv,IQ⟩:=Hu
    have Kl:=(Hn gJ.2).2 hnd
    have Hm:∀b∈fp,b ∉ bm φ r.2.1 id:=by
     intro b hb mh
     obtain⟨z,hz,H0⟩:=(Hn gJ.2).1 b hb
     obtain⟨_,h3,_⟩:=kt z hz
     rw[cW BK] at mh
     exact hc.sep z.1 id _ _ (BK z hz) h3 aL b H0 mh
    rw[HI,bu FW,EG] at Hm
    simp only[cond_true]
    rw[bT FW,List.nodup_append]
    refine⟨JP,gE Hv Kl (fun b hb ax=>Hm b hb (List.mem_append_right _ ax)),fun b hb c gZ DH=> ?_⟩
    subst DH
    simp only[List.mem_append] at gZ
    rcases gZ with gZ | (gZ | gZ | gZ) | gZ
    ·exact IQ b hb b (by simp [gZ]) rfl
    ·exact IQ b hb b (by simp [gZ]) rfl
    ·exact Hm b gZ (List.mem_append_left _ hb)
    ·exact IQ b hb b (by simp [gZ]) rfl
    ·exact IQ b hb b (by simp [gZ]) rfl
  ·intro b hb
   have lN:b∈bm φ r.2.1 id→((w0.heap.size≤b∨S b)∧b<w.heap.size)∧∀j oj,j≠id→fo (ai r.2.1) st.obj j=some oj→b ∉ bm φ r.2.1 j:=fun ax=>
    ⟨bz.2 b ax,fun j oj hj jd=>jH.sep id j _ _ (Ne.symm hj) g_ jd b ax⟩
   rcases List.mem_append.1 hb with hb | hb
   ·exact lN (by rw[kA];exact List.mem_append_left _ hb)
   ·cases gJ:(u && r.2.2) with
    | false=>simp [gJ] at hb
    | true=>
     simp only[gJ,cond_true] at hb
     simp only[Bool.and_eq_true] at gJ
     rcases Dj b hb with hb | hb
     ·exact lN (by rw[kA,gJ.1];exact List.mem_append_right _ hb)
     ·obtain⟨z,hz,H0⟩:=(Hn gJ.2).1 b hb
      obtain⟨_,h3,_⟩:=kt z hz
      refine⟨(hc.fresh z.1 _ h3).2 b H0,fun j oj hj jd=> ?_⟩
      by_cases BI:∃k∈r.2.1,k.1=j
      ·rw[gY BI];simp
      ·have CC:∀k∈r.2.1,k.1≠j:=fun k hk e=>BI ⟨k,hk,e⟩
       rw[bK CC] at jd
       rw[cW CC]
       exact hc.sep z.1 j _ _ (CC z hz) h3 jd b H0
end
end Go.Proofs.YtngbcccnjiaddaaGreat.Vm
namespace Go.Proofs.YtngbcccnjiaddaaGreat.Vm
theorem De {w:World} :∀(ct:List CT) (r:List DC) (f:Nat→Option Value) (fp:List Nat),aq ct=true→a8 w ct r f fp→fp=[]
 | [],_,_,_,_,h=>by simp only[a8] at h;exact h.2
 | c::cs,_,_,_,hf,h=>by
  simp only[a8] at h
  obtain⟨d,r',v,f1,f2,rfl,_,h1,h2,rfl⟩:=h
  have h0:f1=[]∧aq cs=true:=by
   cases c with
   | int k=>simp only[bV] at h1;obtain⟨n,_,_,_,e⟩:=h1;exact⟨e,by simpa [aq] using hf⟩
   | bool=>simp only[bV] at h1;obtain⟨n,_,_,e⟩:=h1;exact⟨e,by simpa [aq] using hf⟩
   | str=>simp only[bV] at h1;obtain⟨n,_,_,_,e⟩:=h1;exact⟨e,by simpa [aq] using hf⟩
   | sl e=>simp [aq] at hf
  rw[h0.1,De cs _ _ _ h0.2 h2]
  rfl
theorem dK.flat {w:World} {ct:List CT} {rows:List (List DC)} {vals:List Value} {az:List (List Nat)} (h:dK w ct rows vals az) (hf:aq ct=true):az.flatten=[]:=by
 rw[List.flatten_eq_nil_iff]
 intro l hl
 obtain⟨i,hi,rfl⟩:=List.getElem_of_mem hl
 have dQ:i<rows.length:=by have:=h.1;omega
 exact De ct _ _ _ hf (h.2 i rows[i] az[i] (by simp) (by simp))
theorem kJ {w:World} {ct:List CT} {r:List (List DC)} {q:Option Addr} {m c:Nat} {fp:List Nat} (h:bV w (.sl ct) (.sl r) (.slice q m c) fp) (hp:0<ct.length):
  m=r.length∧∃(news:List Value) (az:List (List Nat)),news.length=m*ct.length∧(q=none→m=0)∧(∀ad,q=some ad→∀j u,news[j]? =some u→w.cell? (ad.add j)=some u)∧(∀x∈news,x.oneCell'=true)∧
   dK w ct r news az∧(∀b∈az.flatten,b∈fp)∧(fp.Nodup→az.flatten.Nodup):=by
 obtain⟨q',m',c',hv,hn,hc,hm,iX⟩:=dc h
 injection hv with e1 e2 e3
 subst e1 e2 e3
 refine⟨hn.symm, ?_⟩
 rcases iX with ⟨h0,rfl⟩ | ⟨jL,b,o,az,rfl,cn,ew,rfl,eP⟩
 ·have hr:r=[]:=by simpa [h0] using hn
  subst hr
  exact⟨[],[],by simp [h0],fun _=>h0,by simp,by simp,dK.nil,by simp,by simp⟩
 ·have cellAt:∀j,j<m*ct.length→∃u,w.cell? ⟨b,o+j,none⟩=some u∧u.oneCell'=true:=by
   intro j hj
   have h1:j / ct.length<r.length:=by rw[hn];exact Nat.div_lt_of_lt_mul (by rw[Nat.mul_comm];exact hj)
   have h2:j % ct.length<ct.length:=Nat.mod_lt _ hp
   have hf:j / ct.length<az.length:=by omega
   obtain⟨u,BC,e1,e2,_⟩:=a8.get _ _ _ _ (j % ct.length) ct[j % ct.length] (eP (j / ct.length) r[j / ct.length] az[j / ct.length] (by simp) (by simp)) (by simp)
   refine⟨u, ?_,e2.one⟩
   have:j / ct.length*ct.length+j % ct.length=j:=by rw[Nat.mul_comm];exact Nat.div_add_mod j ct.length
   rw[this] at e1
   exact e1
  refine⟨(List.range (m*ct.length)).map (fun j=>(w.cell? ⟨b,o+j,none⟩).getD undef),az,by simp,by simp, ?_, ?_,⟨by omega, ?_⟩,fun x hx=>List.mem_cons_of_mem _ hx,fun hn=>(List.nodup_cons.1 hn).2⟩
  ·intro ad HZ j u hj
   injection HZ with HZ
   subst HZ
   rw[dm]
   have Hr:j<m*ct.length:=by
    have:=(List.getElem?_eq_some_iff.1 hj).1
    simpa using this
   obtain⟨u',CE,_⟩:=cellAt j Hr
   simp [Hr,CE] at hj
   rw[CE,hj]
  ·intro x hx
   simp only[List.mem_map,List.mem_range] at hx
   obtain⟨j,hj,rfl⟩:=hx
   obtain⟨u',CE,ho⟩:=cellAt j hj
   rw[CE]
   exact ho
  ·intro i r' f' hi hf
   refine bl.a8.jn ?_ (eP i r' f' hi hf)
   intro j u hj Bp
   have EK:i<m:=by have:=(List.getElem?_eq_some_iff.1 hi).1;omega
   have:i*ct.length+j<m*ct.length:=by
    have:i*ct.length+ct.length≤m*ct.length:=by rw[←Nat.succ_mul];exact Nat.mul_le_mul_right _ EK
    omega
   simp [this,Bp]
section
variable {P:Program} {Γ:Ctx} {w0:World} {S:Own} {st:St} {o:Oper} {e:cL} {a:Act} {w:World}
variable {f:Nat→SV} {h:Nat→Option aj} {β:Env} {φ:Nat→List Nat} {tm:Array Value}
theorem run_append_nil (base:Nat) (t ty et:TypeId) (i:TypeInfo) (size:Nat) (ht:P.underlying t=some (.slice et)) (hi:P.info? et=some i)
  (v:Value) (n:Nat) (xs:List Value) (a7:w.ownsRow base et size v n xs) (c:Nat):(Builtin.append_ #[t,t] ty #[v,.slice none 0 c]).run P w= .ok v w:=by
 rcases a7.2 with ⟨rfl,rfl⟩ | ⟨g,cap,cur,rfl,_,_,AX,_⟩
 ·simp [Builtin.append_,run_underlying ht,sizeOf,typeInfo,hi,Builtin.lenOf,Builtin.firstCells]
 ·simp [Builtin.append_,run_underlying ht,sizeOf,typeInfo,hi,Builtin.lenOf,Builtin.firstCells,AX,storeCells]
theorem B0 {t:TypeId} {i:TypeInfo} {n:Nat} (hi:P.info? t=some i) (h:ft P t n=true):n*i.bytes≤140737488355328∧n≤maxLen:=by
 simp only[ft,hi,Bool.and_eq_true,decide_eq_true_eq] at h
 exact⟨h.1,by simp only[maxLen];omega⟩
theorem i_ {t ty et:TypeId} {i:TypeInfo} {zv:Value} {ct:List CT} (ht:P.underlying t=some (.slice et)) (hi:P.info? et=some i) (hz:i.zero=some zv) (dx:i.size=ct.length) (Lg:zv.cells.size=ct.length) (hp:0<ct.length)
  {v:Value} {n:Nat} {vals:List Value} (a7:cl w et ct.length false v n vals) {q:Option Addr} {m c:Nat} {news:List Value} (hl:news.length=m*ct.length) (hq:q=none→m=0)
  (IX:∀ad,q=some ad→∀j u,news[j]? =some u→w.cell? (ad.add j)=some u) (h1:∀x∈news,x.oneCell'=true) (eF:ft P et (n+m)=true):
  ∃v' w',(Builtin.append_ #[t,t] ty #[v,.slice q m c]).run P w= .ok v' w'∧cl w' et ct.length false v' (n+m) (vals++news)∧w.grownBy w' v.ownBlock∧(v'.ownBlock=v.ownBlock∨v'.ownBlock=some w.heap.size):=by
 obtain⟨hb,hm⟩:=B0 hi eF
 cases q with
 | none=>
  have Mu:=hq rfl
  subst Mu
  have hn:news=[]:=by simpa using hl
  subst hn
  exact⟨v,w,run_append_nil 0 t ty et i ct.length ht hi v n vals a7.owns c,by simpa using a7,⟨rfl,rfl,rfl,Nat.le_refl _,fun _ _ _=>rfl⟩,.inl rfl⟩
 | some ad=>
  obtain⟨v',w',hr,h2,h3,_,h5⟩:=run_append_own_at (P:=P) w 0 t ty et i zv ct.length i.bytes ht hi hz dx rfl Lg hp v n vals a7.owns ad m c news hl (IX ad rfl) h1 hm hb (Nat.zero_le _)
  exact⟨v',w',hr,cl.HS h2,h3,h5⟩
theorem Kept.grown (hk:Kept S w0 w) {w':World} {row:Option Nat} (hg:w.grownBy w' row) (hr:∀b,row=some b→w0.heap.size≤b∨S b):Kept S w0 w':=
 ⟨hg.os.trans hk.os,hg.tape.trans hk.tape,hg.output.trans hk.output,Nat.le_trans hk.size hg.size,fun k h1 h2=>by
  rw[hg.block k (by have:=hk.size;omega) (fun e=>by rcases hr k e.symm with h | h;omega;exact h2 h)]
  exact hk.block k h1 h2⟩
mutual
theorem Cq:∀(a:CT),kO a a=true
 | .int k=>by simp [kO]
 | .bool=>rfl
 | .str=>rfl
 | .sl e=>by simp only[kO];exact eB e
theorem eB:∀(a:List CT),aE a a=true
 | []=>rfl
 | a::l=>by simp only[aE,Bool.and_eq_true];exact⟨Cq a,eB l⟩
end
theorem CS {ct:List CT} {s:SV} {q:List (List DC)×eW×Bool} (hq:(lg ct s).val f h=some q):(eK (.sl ct) s).val f h=some (.sl q.1,q.2):=by
 unfold lg at hq
 split at hq
 ·simp only[M.aa,Option.some.injEq] at hq
  subst hq
  simp [eK]
 ·rename_i e' r
  cases hb:aE ct e'
  ·simp [hb] at hq
  ·simp only[hb,cond_true,M.aa,Option.some.injEq] at hq
   have:=aK _ _ hb
   subst this hq
   simp [eK,eB]
 ·rename_i id
  simp only[M.aU,Option.bind_eq_some_iff] at hq
  obtain⟨ob,aL,hq⟩:=hq
  split at hq
  ·rename_i t' e' r fz u
   cases hb:aE ct e'
   ·simp [hb] at hq
   ·simp only[hb,cond_true,M.aa,Option.some.injEq] at hq
    have:=aK _ _ hb
    subst this hq
    simp [eK,aL,eB]
  ·rename_i e' r
   cases hb:aE ct e'
   ·simp [hb] at hq
   ·simp only[hb,cond_true,M.aa,Option.some.injEq] at hq
    have:=aK _ _ hb
    subst this hq
    simp [eK,aL,eB]
  ·simp at hq
 ·simp at hq
theorem jZ (hc:Core w0 S f h β φ tm w) {ct:List CT} {s:SV} {v:Value} {q:List (List DC)×eW×Bool} (hs:ak w (Av h β) β s v) (hq:(lg ct s).val f h=some q):
  ∃fp,bV w (.sl ct) (.sl q.1) v fp∧bS h q.2.1∧aM q.2.1=true∧(∀b∈fp,(¬Av h β b)∨∃x∈q.2.1,b∈eU h β x.1)∧
   (q.2.2=true→(∀b∈fp,∃x∈q.2.1,b∈φ x.1)∧fp.Nodup):=dz hc hs (CS hq)
theorem Dx {ct:List CT} {m:eW} (hm:bS h m) (hn:aM m=true):bS h (bif aq ct then [] else m)∧aM (bif aq ct then [] else m)=true:=by
 cases aq ct
 ·exact⟨hm,hn⟩
 ·exact⟨by simp [bS],rfl⟩
theorem kS {ct:List CT} {m:eW} :(bif aq ct then [] else ai m)=ai (bif aq ct then [] else m):=by cases aq ct<;>rfl
theorem kF (hR:Rel w0 S st a w) {d:Nat} (aQ:o.dst=some d) (hd:bd st.n d) (bW:bJ st d) {t et:TypeId} {s x:Operand} {c:Call} (ho:o.op= .call c) (hb:c.callee= .builtin .append) (cv:c.args= #[s,x])
  (FU:c.argTypes= #[t,t]) {sx:SV} {ct:List CT} {q:List (List DC)×eW×Bool} {z:List SV} (h1:(cb s).val st.get st.obj=some .nil) (h2:(cb x).val st.get st.obj=some sx) (hu:P.underlying t=some (.slice et))
  (dx:aY P et ct.length=true) (hp:0<ct.length) (hz:(dJ P et).val st.get st.obj=some z) (jO:z.length=ct.length) (hq:(lg ct sx).val st.get st.obj=some q) (eF:ft P et q.1.length=true)
  (fT:e.sv= .own (ag d 0)) (kT:e.cw=none) (how:e.ow=(ag d 0,some (.row et ct q.1 false (aq ct || q.2.2)))::(bif aq ct then [] else ai q.2.1)):Good P w0 S st o e a w:=by
 obtain⟨i,hi,bt⟩:=aX dx
 obtain⟨i',zv,dQ,mX,rfl,_⟩:=dw hz
 rw[hi] at dQ
 injection dQ with dQ
 subst dQ
 obtain⟨Jw,Jx,Cg⟩:=hR.core
 obtain⟨MQ,HD,EU,Ht,_,_⟩:=jZ Cg (Cg.ev h2) hq
 obtain⟨Q,m,cc,GQ,Mx,_,_,_⟩:=dc HD
 rw[GQ] at HD
 obtain⟨IP,news,L1,Hy,H4,hcell,bg,Mq,_,_⟩:=kJ HD hp
 have EZ:=Cg.ev h1
 simp only[ak] at EZ
 have I4:cl w et ct.length false (.slice none 0 0) 0 []:=⟨by simp,.inl ⟨rfl,rfl,rfl⟩⟩
 obtain⟨v',w',bp,ga,df,jF⟩:=i_ (P:=P) (ty:=o.type) (c:=cc) hu hi mX bt (by simpa using jO) hp I4 Hy H4 hcell bg (by rw[IP,Nat.zero_add];exact eF)
 obtain⟨GI,F2⟩:=Dx (ct:=ct) EU Ht
 refine fa hR aQ hd bW (m:=bif aq ct then [] else q.2.1) (fz:=false) (u:=aq ct || q.2.2) (vals:=news) (v:=v') (w':=w') ?_ (hR.kept.grown df (by simp [Value.ownBlock])) df.size
  (fun b hb=>df.block b hb (by simp [Value.ownBlock])) ?_ GI F2 ?_ ?_ fT kT (by rw[how,kS])
 ·simp [execOp,ho,resolve,hb,cv,FU,invoke,builtin,EZ,GQ,bp]
 ·intro b ax
  rcases jF with h3 | h3
  ·rw[h3] at ax;simp [Value.ownBlock] at ax
  ·rw[h3] at ax;simpa using ax
 ·rw[←IP]
  simpa using ga
 ·intro β φ hc
  obtain⟨fp,ka,kt,Bq,lx,IA⟩:=jZ hc (hc.ev h2) hq
  rw[GQ] at ka
  obtain⟨_,Jq,az,IY,_,Hg,_,da,ic,Hz⟩:=kJ ka hp
  have Mz:dK w ct q.1 news az:=by
   refine⟨da.1,fun k r' f' hk hf=> ?_⟩
   refine bl.a8.jn ?_ (da.2 k r' f' hk hf)
   intro j u hj Bp
   have ID:k*ct.length+j<Jq.length:=(List.getElem?_eq_some_iff.1 Bp).1
   cases Q with
   | none=>
    have:m=0:=H4 rfl
    subst this
    simp at IY
    simp [IY] at Bp
   | some ad=>
    have e1:=Hg ad rfl _ _ Bp
    have cn:k*ct.length+j<news.length:=by omega
    have e2:=hcell ad rfl (k*ct.length+j) news[k*ct.length+j] (by simp)
    rw[e1] at e2
    injection e2 with e2
    rw[List.getElem?_eq_getElem cn,←e2]
  refine⟨az,Mz, ?_, ?_⟩
  ·intro b ax
   cases ew:aq ct with
   | true=>rw[da.flat ew] at ax;simp at ax
   | false=>simpa using lx b (ic b ax)
  ·intro CE
   cases ew:aq ct with
   | true=>rw[da.flat ew];simp
   | false=>
    rw[ew,Bool.false_or] at CE
    exact⟨fun b ax=>by simpa using (IA CE).1 b (ic b ax),Hz (IA CE).2⟩
theorem kG (hR:Rel w0 S st a w) {d:Nat} (aQ:o.dst=some d) (hd:bd st.n d) (bW:bJ st d) {t et:TypeId} {s x:Operand} {c:Call} (ho:o.op= .call c) (hb:c.callee= .builtin .append) (cv:c.args= #[s,x])
  (FU:c.argTypes= #[t,t]) {id:Nat} {u:Bool} {r:List (List DC)} {sx:SV} {ct:List CT} {q:List (List DC)×eW×Bool} {z:List SV} (h1:(cb s).val st.get st.obj=some (.own id)) (h2:(cb x).val st.get st.obj=some sx)
  (aL:st.obj id=some (.row et ct r false u)) (hu:P.underlying t=some (.slice et))
  (dx:aY P et ct.length=true) (hp:0<ct.length) (hz:(dJ P et).val st.get st.obj=some z) (jO:z.length=ct.length) (hq:(lg ct sx).val st.get st.obj=some q) (KN:bP id q.2.1=true)
  (eF:ft P et (r.length+q.1.length)=true) (fT:e.sv= .own (ag d 0)) (kT:e.cw=none)
  (how:e.ow=(ag d 0,some (.row et ct (r++q.1) false (u && (aq ct || q.2.2))))::(id,none)::(bif aq ct then [] else ai q.2.1)):Good P w0 S st o e a w:=by
 obtain⟨i,hi,bt⟩:=aX dx
 obtain⟨i',zv,dQ,mX,rfl,_⟩:=dw hz
 rw[hi] at dQ
 injection dQ with dQ
 subst dQ
 obtain⟨β,φ,hc⟩:=hR.core
 obtain⟨fp,ka,EU,Ht,lx,IA⟩:=jZ hc (hc.ev h2) hq
 obtain⟨Q,m,cc,GQ,Mx,_,_,_⟩:=dc ka
 rw[GQ] at ka
 obtain⟨IP,news,mP,Hy,H4,hcell,bg,jI,ic,Hz⟩:=kJ ka hp
 obtain⟨GI,F2⟩:=Dx (ct:=ct) EU Ht
 have KM:=gB KN
 have BK:∀y∈(bif aq ct then [] else q.2.1),y.1≠id:=by
  cases aq ct
  ·exact KM
  ·simp
 generalize hM:(bif aq ct then [] else q.2.1)=M' at GI F2 BK
 have jH:=hc.gw M' GI F2
 have g_:fo (ai M') st.obj id=some (.row et ct r false u):=by rw[bK BK];exact aL
 obtain⟨vals,az,a7,da,Hq,kA⟩:=jH.ay id _ g_
 have EZ:=hc.ev h1
 simp only[ak] at EZ
 obtain⟨v',w',bp,ga,df,jF⟩:=i_ (P:=P) (ty:=o.type) (c:=cc) hu hi mX bt (by simpa using jO) hp a7 Hy H4 hcell bg (by rw[IP];exact eF)
 have bE:ag d 0 / 64=d:=cM d 0 (by omega)
 have IC:id≠ag d 0:=fun e=>(bW.obj id _ aL).1 (e ▸ bE)
 have gk:∀j,j≠ag d 0→(β.fQ (ag d 0) v').val j=β.val j∧(β.fQ (ag d 0) v').cU j=β.cU j:=by
  intro j hj
  exact⟨by simp [Env.fQ,aA,hj],rfl⟩
 have hval:(β.fQ (ag d 0) v').val (ag d 0)=v':=by simp [Env.fQ,aA]
 have jM:=ah (jH.ay id _ g_)
 have bz:=jH.fresh id _ g_
 have FY:=da.lt
 have FZ:=jI.lt
 have iR:∀b∈mP.flatten,¬Av (fo (ai M') st.obj) β b:=by
  intro b ax
  cases ew:aq ct with
  | true=>rw[jI.flat ew] at ax;simp at ax
  | false=>
   rw[ew,cond_false] at hM
   subst hM
   rcases lx b (ic b ax) with h3 | ⟨y,hy,Bl⟩
   ·exact fun h4=>h3 (fX h4)
   ·exact dC hc GI hy Bl
 have CB:(u && (aq ct || q.2.2))=true→∀b∈mP.flatten,∃y∈M',b∈φ y.1:=by
  intro gJ b ax
  cases ew:aq ct with
  | true=>rw[jI.flat ew] at ax;simp at ax
  | false=>
   rw[ew,cond_false] at hM
   subst hM
   rw[ew,Bool.false_or,Bool.and_eq_true] at gJ
   exact (IA gJ.2).1 b (ic b ax)
 have I0:(u && (aq ct || q.2.2))=true→mP.flatten.Nodup:=by
  intro gJ
  cases ew:aq ct with
  | true=>rw[jI.flat ew];simp
  | false=>
   rw[ew,Bool.false_or,Bool.and_eq_true] at gJ
   exact Hz (IA gJ.2).2
 have jK:∀j oj,aA (aA (fo (ai M') st.obj) id none) (ag d 0) (some (.row et ct (r++q.1) false (u && (aq ct || q.2.2)))) j=some oj→j≠ag d 0→j≠id∧fo (ai M') st.obj j=some oj:=by
  intro j oj hj mo
  simp only[aA,mo,if_false] at hj
  split at hj
  ·cases hj
  ·exact⟨by assumption,hj⟩
 have hJ:∀b,(β.val id).ownBlock=some b→b∈bm φ M' id:=fun b ax=>jM b (by simp [al,ax])
 have Am:∀b∈v'.ownBlock.toList,b∈bm φ M' id∨b=w.heap.size:=by
  intro b ax
  rcases jF with h3 | h3
  ·rw[h3] at ax
   exact .inl (jM b (by simpa [al] using ax))
  ·rw[h3] at ax
   exact .inr (by simpa using ax)
 have HL:u=true→∀b∈az.flatten,b∈bm φ M' id:=by
  intro gJ b ax
  rw[kA,gJ]
  exact List.mem_append_right _ ax
 have BM:∀b,b∈v'.ownBlock.toList++(bif (u && (aq ct || q.2.2)) then (az++mP).flatten else [])→∀j oj,j≠id→fo (ai M') st.obj j=some oj→b ∉ bm φ M' j:=by
  intro b ax j oj hj jd bo
  have lN:b∈bm φ M' id→False:=fun h3=>jH.sep id j _ _ (Ne.symm hj) g_ jd b h3 bo
  rcases List.mem_append.1 ax with ax | ax
  ·rcases Am b ax with h3 | h3
   ·exact lN h3
   ·have:=((jH.fresh j oj jd).2 b bo).2
    omega
  ·cases gJ:(u && (aq ct || q.2.2)) with
   | false=>simp [gJ] at ax
   | true=>
    simp only[gJ,cond_true,List.flatten_append,List.mem_append] at ax
    rcases ax with ax | ax
    ·rw[Bool.and_eq_true] at gJ
     exact lN (HL gJ.1 b ax)
    ·obtain⟨y,hy,Bl⟩:=CB gJ b ax
     obtain⟨_,h3,_⟩:=GI y hy
     by_cases BI:∃k∈M',k.1=j
     ·rw[gY BI] at bo
      simp at bo
     ·have CC:∀k∈M',k.1≠j:=fun k hk e=>BI ⟨k,hk,e⟩
      rw[bK CC] at jd
      rw[cW CC] at bo
      exact hc.sep y.1 j _ _ (CC y hy) h3 jd b Bl bo
 have fM:∀b,b<w.heap.size→(β.val id).ownBlock≠some b→w'.heap[b]? =w.heap[b]? :=fun b ax cJ=>df.block b ax (fun e=>cJ e.symm)
 have kq:∀b∈(az++mP).flatten,¬Av (fo (ai M') st.obj) β b∧b<w.heap.size:=by
  intro b ax
  simp only[List.flatten_append,List.mem_append] at ax
  rcases ax with ax | ax
  ·exact⟨Hq b ax,FY b ax⟩
  ·exact⟨iR b ax,FZ b ax⟩
 have AU:∀b,Av (aA (aA (fo (ai M') st.obj) id none) (ag d 0) (some (.row et ct (r++q.1) false (u && (aq ct || q.2.2))))) (β.fQ (ag d 0) v') b→Av (fo (ai M') st.obj) β b∨w.heap.size≤b:=by
  rintro b (⟨j,oj,hj,bo⟩ | hb)
  case inr=>exact .inl (.inr hb)
  by_cases cd:j=ag d 0
  ·subst cd
   simp only[aA,if_true,Option.some.injEq] at hj
   subst hj
   simp only[al,hval] at bo
   rcases jF with h3 | h3
   ·rw[h3] at bo
    exact .inl (.inl ⟨id,_,g_,by simpa [al] using bo⟩)
   ·rw[h3] at bo
    right
    have:b=w.heap.size:=by simpa using bo
    omega
  ·obtain⟨_,f_⟩:=jK j oj hj cd
   refine .inl (.inl ⟨j,oj,f_, ?_⟩)
   cases oj<;>simp only[al,gk j cd] at bo ⊢ <;>exact bo
 refine bY hR (fun d' h'=>by rw[aQ] at h';injection h' with h';exact h' ▸ hd) (v:=v') (w':=w') ?_ (hR.kept.grown df (fun b ax=>(bz.2 b (hJ b ax)).1))
  ⟨β.fQ (ag d 0) v',aA (bm φ M') (ag d 0) (v'.ownBlock.toList++(bif (u && (aq ct || q.2.2)) then (az++mP).flatten else [])), ?_, ?_⟩
 ·simp [execOp,ho,resolve,hb,cv,FU,invoke,builtin,EZ.1,GQ,bp]
 ·rw[how,kT,kS,hM]
  show Core w0 S st.get (aA (aA (fo (ai M') st.obj) id none) (ag d 0) (some (.row et ct (r++q.1) false (u && (aq ct || q.2.2))))) _ _ _ _
  refine jH.step (fun j=>j=ag d 0) df.size (fun b ax hn=>fM b ax (fun e=>hn (.inl ⟨id,_,g_,by simp [al,e]⟩))) AU
   (fun k j hj e=>bW.slot k j hj (by rw[e];exact bE)) gk ?_ ?_
  ·intro j oj hj
   by_cases cd:j=ag d 0
   ·subst cd
    have f_:=hj
    simp only[aA,if_true,Option.some.injEq] at f_
    subst f_
    refine .inr ⟨?_, ?_, ?_⟩
    ·refine⟨vals++news,az++mP, ?_, ?_, ?_, ?_⟩
     ·rw[hval]
      have:(r++q.1).length=r.length+m:=by simp [IP]
      rw[this]
      exact ga
     ·exact (da.append a7.1 jI).mono df.size (fun b ax=>fM b (kq b ax).2 (fun e=>(kq b ax).1 (.inl ⟨id,_,g_,by simp [al,e]⟩)))
     ·intro b ax hx
      rcases AU b hx with h3 | h3
      ·exact (kq b ax).1 h3
      ·have:=(kq b ax).2
       omega
     ·rw[hval]
      simp [aA]
    ·simp only[aA,if_true]
     have AY:v'.ownBlock.toList.Nodup:=by cases v'.ownBlock<;>simp
     cases gJ:(u && (aq ct || q.2.2)) with
     | false=>simpa using AY
     | true=>
      have GO:u=true:=by rw[Bool.and_eq_true] at gJ;exact gJ.1
      have Hu:=bz.1
      rw[kA,GO,cond_true,List.nodup_append] at Hu
      obtain⟨_,Hv,IQ⟩:=Hu
      have JH:((az++mP).flatten).Nodup:=by
       rw[List.flatten_append,List.nodup_append]
       refine⟨Hv,I0 gJ,fun b ax c' gZ DH=> ?_⟩
       subst DH
       obtain⟨y,hy,Bl⟩:=CB gJ b gZ
       obtain⟨_,h3,_⟩:=GI y hy
       have h4:=HL GO b ax
       rw[cW BK] at h4
       exact hc.sep y.1 id _ _ (BK y hy) h3 aL b Bl h4
      rw[cond_true,List.nodup_append]
      refine⟨AY,JH,fun b ax c' gZ DH=> ?_⟩
      subst DH
      rcases jF with h3 | h3
      ·rw[h3] at ax
       exact (kq b gZ).1 (.inl ⟨id,_,g_,by simpa [al] using ax⟩)
      ·rw[h3] at ax
       have h4:b=w.heap.size:=by simpa using ax
       have:=(kq b gZ).2
       omega
    ·simp only[aA,if_true]
     intro b ax
     rcases List.mem_append.1 ax with ax | ax
     ·rcases Am b ax with h3 | h3
      ·have:=bz.2 b h3
       exact⟨this.1,by have:=df.size;omega⟩
      ·subst h3
       refine⟨.inl hR.kept.size,ga.lt _ ax⟩
     ·cases gJ:(u && (aq ct || q.2.2)) with
      | false=>simp [gJ] at ax
      | true=>
       simp only[gJ,cond_true,List.flatten_append,List.mem_append] at ax
       have MF:=df.size
       rcases ax with ax | ax
       ·have GO:u=true:=by rw[Bool.and_eq_true] at gJ;exact gJ.1
        have:=bz.2 b (HL GO b ax)
        exact⟨this.1,by omega⟩
       ·obtain⟨y,hy,Bl⟩:=CB gJ b ax
        obtain⟨_,h3,_⟩:=GI y hy
        have:=(hc.fresh y.1 _ h3).2 b Bl
        exact⟨this.1,by omega⟩
   ·obtain⟨gx,f_⟩:=jK j oj hj cd
    refine .inl ⟨cd,f_,by simp [aA,cd], ?_, ?_⟩
    ·intro k hk e
     rcases dA f_ with h3 | ⟨e',r',rfl,_⟩
     ·exact (bW.obj j oj h3).2 k hk (by rw[e];exact bE)
     ·simp [cD] at hk
    ·intro b ax
     have fC:=ah (jH.ay j oj f_) b ax
     refine fM b ((jH.fresh j oj f_).2 b fC).2 (fun e=> ?_)
     exact jH.sep id j _ _ (Ne.symm gx) g_ f_ b (hJ b e) fC
  ·intro k j ok oj cJ hk hj b ax
   by_cases Hs:k=ag d 0
   ·subst Hs
    have mo:j≠ag d 0:=Ne.symm cJ
    obtain⟨gx,f_⟩:=jK j oj hj mo
    simp only[aA,if_true] at ax
    simp only[aA,mo,if_false]
    exact BM b ax j oj gx f_
   ·obtain⟨Aj,Cz⟩:=jK k ok hk Hs
    simp only[aA,Hs,if_false] at ax
    by_cases cd:j=ag d 0
    ·subst cd
     simp only[aA,if_true]
     exact fun h3=>BM b h3 k ok Aj Cz ax
    ·obtain⟨gx,f_⟩:=jK j oj hj cd
     simp only[aA,cd,if_false]
     exact jH.sep k j ok oj cJ Cz f_ b ax
 ·rw[fT]
  unfold ak
  exact⟨hval.symm,ga.one⟩
end
end Go.Proofs.YtngbcccnjiaddaaGreat.Vm
namespace Go.Proofs.YtngbcccnjiaddaaGreat.Vm
theorem BX:∀(ns:List Int) (l:List UInt8),ns.foldl (fun (r:ByteArray) n=>r.push (UInt8.ofNat n.toNat)) ⟨l.toArray⟩=⟨(l++ns.map (fun n=>UInt8.ofNat n.toNat)).toArray⟩
 | [],l=>by simp
 | n::ns,l=>by
  simp only[List.foldl_cons,List.map_cons]
  have:(⟨l.toArray⟩:ByteArray).push (UInt8.ofNat n.toNat)=⟨(l++[UInt8.ofNat n.toNat]).toArray⟩:=by
   apply ByteArray.ext
   simp [ByteArray.push]
  rw[this,BX ns]
  simp
section
variable {P:Program} {Γ:Ctx} {w0:World} {S:Own} {st:St} {o:Oper} {e:cL} {a:Act} {w:World}
variable {f:Nat→SV} {h:Nat→Option aj} {β:Env} {φ:Nat→List Nat} {tm:Array Value}
theorem Bb {rows:List (List DC)} {v:Value} {fp:List Nat} (hr:bV w (.sl [.int .u8]) (.sl rows) v fp):
  (Conv.bytesToString v).run P w= .ok (.string ⟨(rows.map byteOf).toArray⟩) w:=by
 obtain⟨q,m,c,rfl,hn,_,_,iX⟩:=dc hr
 cases q with
 | none=>
  have hm:m=0:=by
   rcases iX with ⟨h0,_⟩ | ⟨_,b,o,az,h1,_⟩
   ·exact h0
   ·cases h1
  have:rows=[]:=by simpa [hm] using hn
  subst this
  simp [Conv.bytesToString]
  rfl
 | some ad=>
  have IK:(loadCells ad m).run P w= .ok ((rows.map fun r=>(r.headD default).asInt).map (Value.int .u8)).toArray w:=by
   have:=run_loadCells_list (P:=P) (w:=w) ad ((rows.map fun r=>(r.headD default).asInt).map (Value.int .u8)) ?_
   ·simpa [hn] using this
   ·intro j u hj
    rcases iX with ⟨h0,_⟩ | ⟨_,b,o,az,h1,cn,ew,_,eP⟩
    ·have:rows=[]:=by simpa [h0] using hn
     subst this
     simp at hj
    ·injection h1 with h1
     subst h1
     rw[dm]
     have Hr:j<rows.length:=by
      have:=(List.getElem?_eq_some_iff.1 hj).1
      simpa using this
     have MT:j<az.length:=by omega
     have:=eP j rows[j] az[j] (by simp) (by simp)
     simp only[a8,bV,List.length_singleton,Nat.mul_one,Nat.add_zero] at this
     obtain⟨d,r',v',f1,f2,e1,e2,⟨n,rfl,rfl,_,_⟩,⟨rfl,_⟩,_⟩:=this
     rw[e2]
     simp only[List.map_map,List.getElem?_map,List.getElem?_eq_getElem Hr,e1,Option.map_some,Option.some.injEq] at hj
     simpa [DC.asInt] using hj
  rw[run_bytesToString w ad m c _ IK]
  have:=BX (rows.map fun r=>(r.headD default).asInt) []
  have e0:ByteArray.empty=⟨([]:List UInt8).toArray⟩:=rfl
  rw[e0,this]
  simp [byteOf,Function.comp_def]
theorem C0 (hR:Rel w0 S st a w) (hd:∀d,o.dst=some d→bd st.n d) (bW:e.ow≠[]→∀d,o.dst=some d→bJ st d) {s t:TypeId} {x:Operand} (ho:o.op= .convert s t x) {sx:SV}
  (h1:(cb x).val st.get st.obj=some sx) (he:(Em P o.dst s t sx).val st.get st.obj=some e):Good P w0 S st o e a w:=by
 unfold Em at he
 split at he
 ·rename_i k src hk hs
  split at he
  ·rename_i k' n
   simp only[M.aa,Option.some.injEq] at he
   subst he
   refine ao hR hd rfl rfl fun β φ hc=> ?_
   have hx:=hc.ev h1
   simp only[ak] at hx
   refine⟨.int k (k.wrap n), ?_,by unfold ak;exact⟨rfl,fk _ _⟩⟩
   simp [execOp,ho,hx.1,convert,run_underlying hk,run_underlying hs,Conv.intToInt]
  ·simp at he
 ·rename_i hk hs
  split at he
  ·rename_i l
   simp only[M.aa,Option.some.injEq] at he
   subst he
   refine ao hR hd rfl rfl fun β φ hc=> ?_
   have hx:=hc.ev h1
   simp only[ak] at hx
   refine⟨.string ⟨l.toArray⟩, ?_,by unfold ak;exact⟨rfl,hx.2⟩⟩
   simp [execOp,ho,hx.1,convert,run_underlying hk,run_underlying hs]
  ·simp at he
 ·rename_i et hk hs
  split at he
  ·rename_i het
   simp only[M.ae,Option.bind_eq_some_iff,M.aa,Option.some.injEq] at he
   obtain⟨q,hq,rfl⟩:=he
   refine ao hR hd rfl rfl fun β φ hc=> ?_
   obtain⟨fp,ka,_⟩:=jZ hc (hc.ev h1) hq
   have bp:=Bb (P:=P) ka
   obtain⟨qa,m,c,hv,hn,AV,hm,_⟩:=dc ka
   refine⟨.string ⟨(q.1.map byteOf).toArray⟩, ?_,by unfold ak;exact⟨rfl,by simp;omega⟩⟩
   rw[hv] at bp
   have:=run_convert_bytes_string (P:=P) w s t et qa m c hs het hk
   simp [execOp,ho,hv,this,bp]
  ·simp at he
 ·rename_i et hk hs
  split at he
  ·rename_i l d het aQ
   cases hz:aY P et 1
   ·simp [hz] at he
   simp only[hz,cond_true,M.aa,Option.some.injEq] at he
   subst he
   obtain⟨Jw,Jx,Cg⟩:=hR.core
   have hx:=Cg.ev h1
   simp only[ak] at hx
   have hlen:l.length≤9223372036854775807:=by have:=hx.2;simp only[maxLen] at this;omega
   generalize lv:Question.cut (.appendCap l.length 0 et) (w.tape w.drawn (.appendCap l.length 0 et))=cap
   have It:l.length≤cap:=by rw[←lv];simp [Question.cut]
   have Iu:cap≤maxLen:=by
    rw[←lv]
    simp only[Question.cut,maxLen]
    have:=Nat.mod_lt (w.tape w.drawn (.appendCap l.length 0 et)) (show 0<2 ^ 63 - l.length by omega)
    omega
   let cells:Array Value:=(l.map fun b=>Value.int .u8 b.toNat).toArray++Array.replicate (cap - l.length) (.int .u8 0)
   have fA:cells.size=cap:=by simp [cells];omega
   have H5:∀b,b<w.heap.size→(World.freeze (w.drew.alloc (.cells cells et)) ⟨w.heap.size,cap,none⟩ 1).heap[b]? =w.heap[b]? :=by
    intro b hb
    simp only[World.freeze,Nat.one_ne_zero,if_false,Array.getElem?_modify]
    rw[if_neg (by omega)]
    exact alloc_old (w:=w.drew) _ b hb
   have bE:(World.freeze (w.drew.alloc (.cells cells et)) ⟨w.heap.size,cap,none⟩ 1).heap[w.heap.size]? =some (.cells cells et (cells.size,cells.size+1)):=by
    simp only[World.freeze,Nat.one_ne_zero,if_false,Array.getElem?_modify,if_true]
    have:=d9 (w:=w.drew) (.cells cells et)
    have e1:w.drew.heap.size=w.heap.size:=rfl
    rw[e1] at this
    rw[this]
    simp [fA]
   have BL:(World.freeze (w.drew.alloc (.cells cells et)) ⟨w.heap.size,cap,none⟩ 1).heap.size=w.heap.size+1:=by simp [World.freeze]
   refine fa hR aQ (hd d aQ) (bW (by simp) d aQ) (m:=[]) (fz:=true) (u:=true) (vals:=l.map fun b=>Value.int .u8 b.toNat) (v:= .slice (some ⟨w.heap.size,0,none⟩) l.length cap)
    (w':=World.freeze (w.drew.alloc (.cells cells et)) ⟨w.heap.size,cap,none⟩ 1) ?_ ?_ (by rw[BL];omega) H5 (by simp [Value.ownBlock]) (by simp [bS]) rfl ?_ ?_ rfl rfl rfl
   ·have A2:(w.drew.alloc (.cells cells et)).shape? w.heap.size=some (et,cap):=by
     have:=d9 (w:=w.drew) (.cells cells et)
     have e1:w.drew.heap.size=w.heap.size:=rfl
     rw[e1] at this
     unfold World.shape?
     rw[this]
     simp [fA]
    simp only[execOp,ho,hx.1,convert,Sem.run_bind,run_underlying hk,run_underlying hs,run_underlying het,Result.andThen_ok,Conv.stringToBytes,run_choose]
    simp only[Question.forced,Bool.false_eq_true,if_false,Result.andThen_ok,dv,lv,newRow,Sem.run_bind,run_newObj,World.drew_eq,World.alloc_eq]
    have AV:(Array.map (fun b:UInt8=>Value.int IntKind.u8 ↑b.toNat) l.toArray++Array.replicate (cap - l.length) (Value.int IntKind.u8 0))=cells:=by simp [cells]
    rw[AV]
    simp [markStringish,A2]
   ·refine⟨hR.kept.os,hR.kept.tape,hR.kept.output,by rw[BL];have:=hR.kept.size;omega,fun k h2 h3=> ?_⟩
    rw[H5 k (by have:=hR.kept.size;omega)]
    exact hR.kept.block k h2 h3
   ·refine⟨by simp,.inr ⟨w.heap.size,cap,cells,by simp,by simpa using bE,by simpa using It,Iu,by simp [fA], ?_⟩⟩
    simp [cells]
   ·intro β φ hc
    refine⟨List.replicate l.length [],⟨by simp,fun i r' f' hi hf=> ?_⟩,by simp,by simp⟩
    have EK:i<l.length:=by
     have:=(List.getElem?_eq_some_iff.1 hi).1
     simpa using this
    have EY:r'=cQ l[i]:=by simpa [EK] using hi.symm
    have Bn:f'=[]:=by
     have:=hf
     rw[List.getElem?_replicate,if_pos EK] at this
     injection this with this
     exact this.symm
    subst EY Bn
    unfold cQ
    simp only[a8,bV]
    refine⟨.int l[i].toNat,[],.int .u8 l[i].toNat,[],[],rfl, ?_,⟨_,rfl,rfl, ?_,rfl⟩,⟨rfl,rfl⟩,rfl⟩
    ·simp [EK]
    ·rw[ey]
     have h1:IntKind.u8.min=0:=by decide
     have h2:IntKind.u8.max=255:=by decide
     have:=l[i].toNat_lt
     omega
  ·simp at he
 ·simp at he
end
end Go.Proofs.YtngbcccnjiaddaaGreat.Vm
set_option linter.unusedVariables false
set_option linter.unusedSimpArgs false
namespace Go.Proofs.YtngbcccnjiaddaaGreat.Vm
def FO (w:World) (k:AK) (ds:List DC) (v:Value) (fp:List Nat):Prop:=
 ∃vs:List Value,(bif k.agg then v= .agg vs.toArray else (vs=[v]∧v.oneCell'=true))∧(∀x∈vs,x.oneCell'=true)∧a8 w k.bB ds (fun j=>vs[j]?) fp∧vs.length=k.bB.length
def dk (w:World):List AK→List DC→List Value→List Nat→Prop
 | [],ds,vs,fp=>ds=[]∧vs=[]∧fp=[]
 | k::ks,ds,vs,fp=>∃d1 d2 v cK f1 f2,ds=d1++d2∧vs=v::cK∧FO w k d1 v f1∧dk w ks d2 cK f2∧fp=f1++f2
def dh (w:World):List RC→List DC→List Value→List Nat→List Nat→List Nat→Prop
 | [],ds,vs,φ,im,tp=>ds=[]∧vs=[]∧φ=[]∧im=[]∧tp=[]
 | .d7 c::cs,ds,vs,φ,im,tp=>∃d aZ v cK f1 E8,ds=d::aZ∧vs=v::cK∧bV w c d v f1∧dh w cs aZ cK φ E8 tp∧im=f1++E8
 | .own t e::cs,ds,vs,φ,im,tp=>∃rows aZ v cK vals az φ' Bj,ds= .sl rows::aZ∧vs=v::cK∧cl w t e.length false v rows.length vals∧dK w e rows vals az∧
   dh w cs aZ cK φ' im Bj∧φ=(v.ownBlock.toList++az.flatten)++φ'∧tp=v.ownBlock.toList++Bj
 | .deep t e ts::cs,ds,vs,φ,im,tp=>∃rows aZ v cK vals aT φ' Bj,ds= .sl rows::aZ∧vs=v::cK∧cl w t e.length false v rows.length vals∧bI w e ts rows vals (fun _=>none) aT∧
   dh w cs aZ cK φ' im Bj∧φ=(v.ownBlock.toList++aT.flatten)++φ'∧tp=(v.ownBlock.toList++aT.flatten)++Bj
def fh (w:World):List RK→List DC→List Value→List Nat→List Nat→List Nat→Prop
 | [],ds,vs,φ,im,tp=>ds=[]∧vs=[]∧φ=[]∧im=[]∧tp=[]
 | k::ks,ds,vs,φ,im,tp=>∃d1 d2 v cK us DZ Bk i1 i2 t1 t2,ds=d1++d2∧vs=v::cK∧(bif k.agg then v= .agg us.toArray else us=[v])∧(∀x∈us,x.oneCell'=true)∧dh w k.cells d1 us DZ i1 t1∧
   fh w ks d2 cK Bk i2 t2∧φ=DZ++Bk∧im=i1++i2∧tp=t1++t2
def pack:List Value→Value
 | [x]=>x
 | l=> .tuple l.toArray
def D8 (P:Program) (g:Nat) (s:Sum):Prop:=
 (∃fn,P.funcs[g]? =some fn∧fn.body.isSome=true∧(fn.name== "runtime.NumGoroutine")=false)∧
 ∀(w:World) (ds:List DC) (vals:List Value) (fp:List Nat),dk w s.ps ds vals fp→(s.fn ds).1=true→
  Calls P g vals.toArray w fun e w'=>∃vs φ im tp,e= .returned (pack vs)∧Kept Own.none w w'∧fh w' s.rs (s.fn ds).2 vs φ im tp∧φ.Nodup∧
   (∀b∈φ,w.heap.size≤b∧b<w'.heap.size)∧∀b∈im,(b∈fp∨w.heap.size≤b)∧b ∉ tp
def de (w:World):List CT→List TypeId→List DC→List Value→List Nat→Prop
 | [],ts,ds,us,mb=>ts=[]∧ds=[]∧us=[]∧mb=[]
 | .sl e::cs,ts,ds,us,mb=>∃t d5 rows aZ v aO vals az gl,ts=t::d5∧ds= .sl rows::aZ∧us=v::aO∧aq e=true∧cl w t e.length false v rows.length vals∧dK w e rows vals az∧
   de w cs d5 aZ aO gl∧mb=v.ownBlock.toList++gl
 | c::cs,ts,ds,us,mb=>∃d aZ v aO,ds=d::aZ∧us=v::aO∧bV w c d v []∧de w cs ts aZ aO mb
def gN (w:World) (t:TT) (e:List CT) (rows:List (List DC)) (v:Value) (mb:List Nat):Prop:=
 match t with
 | .flat t=>aq e=true∧∃vals az,cl w t e.length false v rows.length vals∧dK w e rows vals az∧mb=v.ownBlock.toList
 | .deep t its=>∃vals aT,cl w t e.length false v rows.length vals∧bI w e its rows vals (fun _=>none) aT∧mb=v.ownBlock.toList++aT.flatten
def aS (w:World):List CT→List TT→List DC→List Value→List Nat→Prop
 | [],ts,ds,us,mb=>ts=[]∧ds=[]∧us=[]∧mb=[]
 | .sl e::cs,ts,ds,us,mb=>∃t d5 rows aZ v aO m1 gl,ts=t::d5∧ds= .sl rows::aZ∧us=v::aO∧gN w t e rows v m1∧aS w cs d5 aZ aO gl∧mb=m1++gl
 | c::cs,ts,ds,us,mb=>∃d aZ v aO,ds=d::aZ∧us=v::aO∧bV w c d v []∧aS w cs ts aZ aO mb
def i6 (w:World):List CT→List TT→List DC→List Value→List Nat→Prop
 | [],_,ds,us,mb=>ds=[]∧us=[]∧mb=[]
 | .sl e::cs,ts,ds,us,mb=>∃t d5 rows aZ v aO m1 gl,ts=t::d5∧ds= .sl rows::aZ∧us=v::aO∧gN w t e rows v m1∧i6 w cs d5 aZ aO gl∧mb=m1++gl
 | _::cs,ts,ds,us,mb=>∃v aO,us=v::aO∧i6 w cs ts ds aO mb
def gm (w:World) (k:AK):Option MK→List DC→Value→List Nat→List Nat→Prop
 | none,d,v,f,b=>FO w k d v f∧b=[]
 | some (.box t),d,v,f,b=>∃(g:Nat) (us:List Value),v= .pointer (some ⟨g,0,none⟩)∧w.heap[g]? =some (.cells us.toArray t (0,0))∧(∀x∈us,x.oneCell'=true)∧a8 w k.bB d (fun j=>us[j]?) f∧us.length=k.bB.length∧b=[g]
 | some (.rows ts),d,v,f,b=>∃us:List Value,(bif k.agg then v= .agg us.toArray else (us=[v]∧v.oneCell'=true))∧(∀x∈us,x.oneCell'=true)∧aS w k.bB ts d us b∧f=[]
 | some (.jC ts),d,v,f,b=>∃us:List Value,(bif k.agg then v= .agg us.toArray else (us=[v]∧v.oneCell'=true))∧(∀x∈us,x.oneCell'=true)∧aS w k.bB ts d us b∧f=[]
 | some (.cI t ts),d,v,f,b=>∃(g:Nat) (us:List Value) (m:List Nat),v= .pointer (some ⟨g,0,none⟩)∧w.heap[g]? =some (.cells us.toArray t (0,0))∧(∀x∈us,x.oneCell'=true)∧aS w k.bB ts d us m∧b=g::m∧f=[]
def cH (w:World):List AK→List (Option MK)→List DC→List Value→List Nat→List Nat→Prop
 | [],ms,ds,vs,fp,mb=>ms=[]∧ds=[]∧vs=[]∧fp=[]∧mb=[]
 | k::ks,ms,ds,vs,fp,mb=>∃m D5 d1 d2 v cK f1 f2 b1 b2,ms=m::D5∧ds=d1++d2∧vs=v::cK∧gm w k m d1 v f1 b1∧cH w ks D5 d2 cK f2 b2∧fp=f1++f2∧mb=b1++b2
def DA (w:World) (k:AK):Option MK→List DC→Value→List Nat→List Nat→Prop
 | none,d,_,im,b=>d=[]∧im=[]∧b=[]
 | some (.box t),d,v,im,b=>∃(g:Nat) (us:List Value),v= .pointer (some ⟨g,0,none⟩)∧w.heap[g]? =some (.cells us.toArray t (0,0))∧(∀x∈us,x.oneCell'=true)∧a8 w k.bB d (fun j=>us[j]?) im∧us.length=k.bB.length∧b=[g]
 | some (.rows ts),d,v,im,b=>∃us:List Value,(bif k.agg then v= .agg us.toArray else us=[v])∧i6 w k.bB ts d us b∧im=[]
 | some (.jC _),d,_,im,b=>d=[]∧im=[]∧b=[]
 | some (.cI t ts),d,v,im,b=>∃(g:Nat) (us:List Value) (m:List Nat),v= .pointer (some ⟨g,0,none⟩)∧w.heap[g]? =some (.cells us.toArray t (0,0))∧(∀x∈us,x.oneCell'=true)∧aS w k.bB ts d us m∧b=g::m∧im=[]
def lR (w:World):List AK→List (Option MK)→List DC→List Value→List Nat→List Nat→Prop
 | [],_,ds,vs,im,mb=>ds=[]∧vs=[]∧im=[]∧mb=[]
 | k::ks,ms,ds,vs,im,mb=>∃m D5 d1 d2 v cK i1 i2 b1 b2,ms=m::D5∧ds=d1++d2∧vs=v::cK∧DA w k m d1 v i1 b1∧lR w ks D5 d2 cK i2 b2∧im=i1++i2∧mb=b1++b2
def Cm (P:Program) (g:Nat) (s:Sum):Prop:=
 (∃fn,P.funcs[g]? =some fn∧fn.body.isSome=true∧(fn.name== "runtime.NumGoroutine")=false)∧
 ∀(w:World) (ds:List DC) (vals:List Value) (fp mb:List Nat),cH w s.ps s.ms ds vals fp mb→mb.Nodup→(∀b∈mb,b ∉ fp)→(s.fn ds).1=true→
  Calls P g vals.toArray w fun e w'=>∃vs φ im tp mL rd od ψ,e= .returned (pack vs)∧(s.fn ds).2=rd++od∧rd.length=cj s.rs∧Kept ⟨fun b=>b∈mb,fun _=>False,[]⟩ w w'∧fh w' s.rs rd vs φ im tp∧φ.Nodup∧
   (∀b∈φ,(b∈mb∨w.heap.size≤b)∧b<w'.heap.size)∧lR w' s.ps s.ms od vals mL ψ∧ψ.Nodup∧(∀b∈ψ,(b∈mb∨w.heap.size≤b)∧b<w'.heap.size∧b ∉ φ)∧∀b∈mL,(b∈fp∨w.heap.size≤b)∧b ∉ tp∧b ∉ ψ∧eV s.ms=false
def G0 (P:Program) (g:Nat) (s:Sum) (t:TypeId) (bB:List CT):Prop:=
 (∃fn,P.funcs[g]? =some fn∧fn.body.isSome=true∧(fn.name== "runtime.NumGoroutine")=false)∧
 ∀(w:World) (ds:List DC) (vals:List Value) (fp:List Nat),dk w s.ps ds vals fp→(s.fn ds).1=true→
  Calls P g vals.toArray w fun e w'=>∃(b:Nat) (us:List Value) (im:List Nat),e= .returned (.pointer (some ⟨b,0,none⟩))∧Kept Own.none w w'∧w.heap.size≤b∧b<w'.heap.size∧
   w'.heap[b]? =some (.cells us.toArray t (0,0))∧(∀x∈us,x.oneCell'=true)∧a8 w' bB (s.fn ds).2 (fun j=>us[j]?) im∧us.length=bB.length∧∀x∈im,(x∈fp∨w.heap.size≤x)∧x≠b
def gO (P:Program) (g:Nat) (s:Sum):Prop:=
 bif s.G2 then True else
 match s.pt with
 | some (t,bB)=>G0 P g s t bB
 | none=>
  match s.ms with
  | []=>D8 P g s
  | _::_=>Cm P g s
def bF (P:Program) (Γ:Ctx):Prop:=∀g s,Gb Γ g=some s→gO P g s
section
variable {P:Program} {Γ:Ctx} {w0:World} {S:Own} {st:St} {o:Oper} {e:cL} {a:Act} {w:World}
variable {f:Nat→SV} {h:Nat→Option aj} {β:Env} {φ:Nat→List Nat} {tm:Array Value}
theorem lV (hc:Core w0 S f h β φ tm w):∀(ks:List AK) (ss:List SV) (vs:List Value) (q:List DC×eW),af w (Av h β) β ss vs→(jv ks ss).val f h=some q→
  ∃fp,dk w ks q.1 vs fp∧bS h q.2∧∀b∈fp,(¬Av h β b)∨∃x∈q.2,b∈eU h β x.1
 | [],[],vs,q,hs,hq=>by
  simp only[jv,M.aa,Option.some.injEq] at hq
  subst hq
  simp only[af] at hs
  exact⟨[],⟨rfl,hs,rfl⟩,by simp [bS],by simp⟩
 | [],_::_,vs,q,hs,hq=>by simp [jv] at hq
 | _::_,[],vs,q,hs,hq=>by simp [jv] at hq
 | k::ks,s::ss,vs,q,hs,hq=>by
  simp only[af] at hs
  obtain⟨v,l,rfl,h1,h2⟩:=hs
  simp only[jv,M.ae,Option.bind_eq_some_iff,M.aa,Option.some.injEq] at hq
  obtain⟨q1,aG,q2,cx,rfl⟩:=hq
  obtain⟨gv,DG,Di,iR⟩:=lV hc ks ss l q2 h2 cx
  have one:∃lI,FO w k q1.1 v lI∧bS h q1.2.1∧∀b∈lI,(¬Av h β b)∨∃x∈q1.2.1,b∈eU h β x.1:=by
   cases hk:k.agg with
   | true=>
    cases s with
    | agg cs=>
     simp only[hk] at aG
     simp only[ak] at h1
     obtain⟨us,rfl,gj,bg⟩:=h1
     obtain⟨lI,hr,hm,cP,_⟩:=dY hc k.bB cs us q1 gj aG
     have hl:=af.length _ _ gj
     have j_:=cE _ _ _ aG
     exact⟨lI,⟨us,by rw[hk];rfl,bg,hr,by omega⟩,hm,cP⟩
    | _=>simp [hk] at aG
   | false=>
    have lz:(cf k.bB [s]).val f h=some q1:=by
     cases s<;>simp only[hk] at aG<;>first | exact aG | (simp at aG)
    have ia:af w (Av h β) β [s] [v]:=by simp only[af];exact⟨v,[],rfl,h1,rfl⟩
    obtain⟨lI,hr,hm,cP,_⟩:=dY hc k.bB [s] [v] q1 ia lz
    have j_:=cE _ _ _ lz
    have bg:v.oneCell'=true:=by
     cases EE:k.bB with
     | nil=>rw[EE] at j_;simp at j_
     | cons c cs=>
      rw[EE] at hr
      simp only[a8] at hr
      obtain⟨d,r',v',f1,f2,_,h0,h3,_⟩:=hr
      simp at h0
      subst h0
      exact h3.one
    exact⟨lI,⟨[v],by rw[hk];exact⟨rfl,bg⟩,by simpa using bg,hr,by simpa using j_⟩,hm,cP⟩
  obtain⟨lI,Gw,F0,jE⟩:=one
  refine⟨lI++gv,⟨q1.1,q2.1,v,l,lI,gv,rfl,rfl,Gw,DG,rfl⟩,e_ F0 Di, ?_⟩
  intro b hb
  rcases List.mem_append.1 hb with hb | hb
  ·rcases jE b hb with h3 | ⟨x,hx,h3⟩
   ·exact .inl h3
   ·exact .inr ⟨x,List.mem_append_left _ hx,h3⟩
  ·rcases iR b hb with h3 | ⟨x,hx,h3⟩
   ·exact .inl h3
   ·exact .inr ⟨x,List.mem_append_right _ hx,h3⟩
structure ar where
 id:Nat
 t:TypeId
 e:List CT
 rows:List (List DC)
 v:Value
 az:List (List Nat)
 ts:Option (List TypeId)
def ar.obj (x:ar):aj:=
 match x.ts with
 | none=> .row x.t x.e x.rows false true
 | some ts=> .deep x.t x.e ts x.rows none
def ar.bC (x:ar):List Nat:=x.v.ownBlock.toList++x.az.flatten
def ar.al (x:ar):List Nat:=
 match x.ts with
 | none=>x.v.ownBlock.toList
 | some _=>x.bC
def ar.ok (w:World) (x:ar):Prop:=
 match x.ts with
 | none=>∃vals,cl w x.t x.e.length false x.v x.rows.length vals∧dK w x.e x.rows vals x.az
 | some ts=>∃vals,cl w x.t x.e.length false x.v x.rows.length vals∧bI w x.e ts x.rows vals (fun _=>none) x.az
theorem ar.ah (x:ar):∀b∈x.al,b∈x.bC:=by
 intro b hb
 unfold ar.al at hb
 split at hb
 ·exact List.mem_append_left _ hb
 ·exact hb
theorem ar.iQ (x:ar) {β:Env} (hv:β.val x.id=x.v) (hn:β.nb x.id=x.az.flatten):Vm.al β x.id x.obj=x.al:=by
 unfold ar.obj ar.al
 cases x.ts with
 | none=>simp [Vm.al,hv]
 | some ts=>simp [Vm.al,hv,hn,ar.bC]
theorem ar.ids (x:ar):cD x.obj=[]:=by
 unfold ar.obj
 cases x.ts<;>rfl
theorem ar.Js {w:World} {x:ar} (h:x.ok w) {av:Nat→Prop} {β:Env} (hv:β.val x.id=x.v) (hn:β.nb x.id=x.az.flatten) (ha:∀b∈x.az.flatten,b ∉ x.al→¬av b) (hd:x.bC.Nodup):fU w av β x.id x.obj x.bC:=by
 unfold ar.ok at h
 unfold ar.obj
 cases FI:x.ts with
 | none=>
  rw[FI] at h
  obtain⟨vals,h1,h2⟩:=h
  refine⟨vals,x.az,by rw[hv];exact h1,h2,fun b hb=>ha b hb ?_,by rw[hv];rfl⟩
  unfold ar.al
  rw[FI]
  intro ax
  unfold ar.bC at hd
  rw[List.nodup_append] at hd
  exact hd.2.2 b ax b hb rfl
 | some ts=>
  rw[FI] at h
  obtain⟨vals,h1,h2⟩:=h
  exact⟨vals,x.az,by rw[hv];exact h1,h2,hn,by rw[hv];rfl⟩
def fB:List ar→Nat→Option ar
 | [],_=>none
 | x::l,i=>if i=x.id then some x else fB l i
theorem bc {N:List ar} {j:Nat} {x:ar} (h:fB N j=some x):x∈N∧x.id=j:=by
 induction N with
 | nil=>simp [fB] at h
 | cons y l ih=>
  simp only[fB] at h
  split at h
  ·rename_i hj
   injection h with h
   subst h
   exact⟨List.mem_cons_self ..,hj.symm⟩
  ·obtain⟨h1,h2⟩:=ih h
   exact⟨List.mem_cons_of_mem _ h1,h2⟩
theorem mu {N:List ar} {x:ar} (hx:x∈N) (hn:(N.map (·.id)).Nodup):fB N x.id=some x:=by
 induction N with
 | nil=>simp at hx
 | cons y l ih=>
  simp only[List.map_cons,List.nodup_cons] at hn
  simp only[fB]
  rcases List.mem_cons.1 hx with rfl | hx
  ·simp
  ·have:x.id≠y.id:=fun e=>hn.1 (e ▸ List.mem_map_of_mem hx)
   rw[if_neg this]
   exact ih hx hn.2
def cR (N:List ar):List (Nat×Option aj):=N.map fun x=>(x.id,some x.obj)
theorem AQ (N:List ar) (l:List (Nat×Option aj)) (j:Nat):fo (cR N++l) h j=match fB N j with | some x=>some x.obj | none=>fo l h j:=by
 induction N with
 | nil=>rfl
 | cons y N ih=>
  simp only[cR,List.map_cons,List.cons_append,fo,aA,fB]
  split
  ·rfl
  ·exact ih
def Env.fP (β:Env) (N:List ar):Env:=⟨β.cU,fun j=>match fB N j with | some x=>x.v | none=>β.val j,β.gH,fun j=>match fB N j with | some x=>x.az.flatten | none=>β.nb j⟩
theorem cV {N:List ar} (h:(N.flatMap ar.bC).Nodup):(∀x∈N,x.bC.Nodup)∧∀x∈N,∀y∈N,x≠y→∀b∈x.bC,b ∉ y.bC:=by
 induction N with
 | nil=>simp
 | cons z l ih=>
  rw[List.flatMap_cons,List.nodup_append] at h
  obtain⟨h1,h2,h3⟩:=h
  obtain⟨i1,i2⟩:=ih h2
  refine⟨fun x hx=> ?_,fun x hx y hy Ao b hb ax=> ?_⟩
  ·rcases List.mem_cons.1 hx with rfl | hx
   ·exact h1
   ·exact i1 x hx
  ·rcases List.mem_cons.1 hx with BQ | BQ<;>rcases List.mem_cons.1 hy with BR | BR
   ·exact Ao (BQ.trans BR.symm)
   ·subst BQ
    exact h3 b hb b (List.mem_flatMap.2 ⟨y,BR,ax⟩) rfl
   ·subst BR
    exact h3 b ax b (List.mem_flatMap.2 ⟨x,BQ,hb⟩) rfl
   ·exact i2 x BQ y BR Ao b hb ax
theorem Core.FQ (hc:Core w0 S f h β φ tm w) {w':World} {N:List ar} (hs:w.heap.size≤w'.heap.size) (hw:∀b,b<w.heap.size→w'.heap[b]? =w.heap[b]?) (hk:w0.heap.size≤w.heap.size)
  (bz:∀x∈N,h x.id=none∧(∀i,x.id ∉ bU (f i))∧∀k o,h k=some o→x.id ∉ cD o) (aJ:∀x∈N,ar.ok w' x) (dR:(N.map (·.id)).Nodup)
  (hnd:(N.flatMap ar.bC).Nodup) (mK:∀b∈N.flatMap ar.bC,w.heap.size≤b∧b<w'.heap.size):
  Core w0 S f (fun j=>match fB N j with | some x=>some x.obj | none=>h j) (β.fP N) (fun j=>match fB N j with | some x=>x.bC | none=>φ j) tm w':=by
 have ef:∀x∈N,∀b∈x.bC,b∈N.flatMap ar.bC:=fun x hx b hb=>List.mem_flatMap.2 ⟨x,hx,hb⟩
 have lL:∀j oj,fB N j=none→al (β.fP N) j oj=al β j oj:=by
  intro j oj hj
  cases oj<;>simp [al,Env.fP,hj]
 have jN:∀j x,fB N j=some x→al (β.fP N) j x.obj=x.al:=by
  intro j x hj
  obtain⟨_,rfl⟩:=bc hj
  exact x.iQ (by simp [Env.fP,hj]) (by simp [Env.fP,hj])
 have JJ:∀b,Av (fun j=>match fB N j with | some x=>some x.obj | none=>h j) (β.fP N) b→Av h β b∨(w.heap.size≤b∧∃x∈N,b∈x.al):=by
  rintro b (⟨j,oj,hj,bo⟩ | hb)
  case inr=>exact .inl (.inr hb)
  cases hl:fB N j with
  | none=>
   simp only[hl] at hj
   rw[lL j oj hl] at bo
   exact .inl (.inl ⟨j,oj,hj,bo⟩)
  | some x=>
   simp only[hl,Option.some.injEq] at hj
   subst hj
   rw[jN j x hl] at bo
   have hx:=(bc hl).1
   exact .inr ⟨(mK b (ef x hx b (x.ah b bo))).1,x,hx,bo⟩
 refine hc.mH (fun j=>(fB N j).isSome=true) hs (fun b hb _=>hw b hb) (fun b hb=>(JJ b hb).imp id (·.1)) ?_ ?_ ?_ ?_
 ·intro i j hj hx
  obtain⟨x,hx⟩:=Option.isSome_iff_exists.1 hx
  obtain⟨hm,rfl⟩:=bc hx
  exact (bz x hm).2.1 i hj
 ·intro j hj
  have:fB N j=none:=by simpa using hj
  simp [Env.fP,this]
 ·intro j oj hj
  cases hl:fB N j with
  | none=>
   simp only[hl] at hj
   refine .inl ⟨by simp [hl],hj,by simp [Env.fP,hl],by simp, ?_,fun b hb=>hw b ?_⟩
   ·intro i hi hx
    obtain⟨x,hx⟩:=Option.isSome_iff_exists.1 hx
    obtain⟨hm,rfl⟩:=bc hx
    exact (bz x hm).2.2 j oj hj hi
   ·exact ((hc.fresh j oj hj).2 b (ah (hc.ay j oj hj) b hb)).2
  | some x=>
   simp only[hl,Option.some.injEq] at hj
   subst hj
   obtain⟨hm,rfl⟩:=bc hl
   refine .inr ⟨ar.Js (aJ x hm) (by simp [Env.fP,hl]) (by simp [Env.fP,hl]) ?_ ((cV hnd).1 x hm), ?_, ?_⟩
   ·intro b hb GK hx
    have fC:b∈x.bC:=List.mem_append_right _ hb
    have mQ:=(mK b (ef x hm b fC)).1
    rcases JJ b hx with Ck | ⟨_,y,hy,Bl⟩
    ·have:=hc.H_ hk Ck
     omega
    ·by_cases Ao:y=x
     ·subst Ao
      exact GK Bl
     ·exact (cV hnd).2 y hy x hm Ao b (y.ah b Bl) fC
   ·exact (cV hnd).1 x hm
   ·intro b hb
    have:=mK b (ef x hm b hb)
    exact⟨.inl (by omega),this.2⟩
 ·intro i j oi oj cJ hi hj b hb
  cases JL:fB N i with
  | none=>
   simp only[JL] at hi hb
   cases DK:fB N j with
   | none=>
    simp only[DK] at hj ⊢
    exact hc.sep i j oi oj cJ hi hj b hb
   | some y=>
    simp only
    intro Bl
    have:=(mK b (ef y (bc DK).1 b Bl)).1
    have:=((hc.fresh i oi hi).2 b hb).2
    omega
  | some x=>
   simp only[JL] at hi hb
   have Jg:=(bc JL).1
   cases DK:fB N j with
   | none=>
    simp only[DK] at hj ⊢
    intro bo
    have:=(mK b (ef x Jg b hb)).1
    have:=((hc.fresh j oj hj).2 b bo).2
    omega
   | some y=>
    simp only
    intro Bl
    have JU:=(bc DK).1
    have Ao:x≠y:=by
     rintro rfl
     exact cJ ((bc JL).2.symm.trans (bc DK).2)
    exact (cV hnd).2 x Jg y JU Ao b hb Bl
structure fK where
 id:Nat
 obj:aj
 nb:List Nat
 bC:List Nat
def mv:List fK→Nat→Option fK
 | [],_=>none
 | x::l,i=>if i=x.id then some x else mv l i
theorem db {U:List fK} {j:Nat} {x:fK} (h:mv U j=some x):x∈U∧x.id=j:=by
 induction U with
 | nil=>simp [mv] at h
 | cons y l ih=>
  simp only[mv] at h
  split at h
  ·rename_i hj
   injection h with h
   subst h
   exact⟨List.mem_cons_self ..,hj.symm⟩
  ·obtain⟨h1,h2⟩:=ih h
   exact⟨List.mem_cons_of_mem _ h1,h2⟩
theorem Fj {U:List fK} {x:fK} (hx:x∈U):∃y,mv U x.id=some y:=by
 induction U with
 | nil=>simp at hx
 | cons y l ih=>
  simp only[mv]
  split
  ·exact⟨_,rfl⟩
  ·rename_i cJ
   rcases List.mem_cons.1 hx with rfl | hx
   ·exact absurd rfl cJ
   ·exact ih hx
theorem lk {U:List fK} (h:(U.flatMap fK.bC).Nodup):(∀x∈U,x.bC.Nodup)∧∀x∈U,∀y∈U,x.id≠y.id→∀b∈x.bC,b ∉ y.bC:=by
 induction U with
 | nil=>simp
 | cons z l ih=>
  rw[List.flatMap_cons,List.nodup_append] at h
  obtain⟨h1,h2,h3⟩:=h
  obtain⟨i1,i2⟩:=ih h2
  refine⟨fun x hx=> ?_,fun x hx y hy Ao b hb ax=> ?_⟩
  ·rcases List.mem_cons.1 hx with rfl | hx
   ·exact h1
   ·exact i1 x hx
  ·rcases List.mem_cons.1 hx with BQ | BQ<;>rcases List.mem_cons.1 hy with BR | BR
   ·exact Ao (by rw[BQ,BR])
   ·subst BQ
    exact h3 b hb b (List.mem_flatMap.2 ⟨y,BR,ax⟩) rfl
   ·subst BR
    exact h3 b ax b (List.mem_flatMap.2 ⟨x,BQ,hb⟩) rfl
   ·exact i2 x BQ y BR Ao b hb ax
def Env.b_ (β:Env) (N:List ar) (U:List fK):Env:=
 ⟨β.cU,fun j=>match fB N j with | some x=>x.v | none=>β.val j,β.gH,fun j=>match fB N j with | some x=>x.az.flatten | none=>match mv U j with | some x=>x.nb | none=>β.nb j⟩
def ln (N:List ar) (U:List fK) (D:List Nat) (h:Nat→Option aj) (j:Nat):Option aj:=
 match fB N j with | some x=>some x.obj | none=>match mv U j with | some x=>some x.obj | none=>if j∈D then none else h j
def gQ (N:List ar) (U:List fK) (φ:Nat→List Nat) (j:Nat):List Nat:=
 match fB N j with | some x=>x.bC | none=>match mv U j with | some x=>x.bC | none=>φ j
theorem Core.J2 (hc:Core w0 S f h β φ tm w) {w':World} {N:List ar} {U:List fK} {D im mb:List Nat} (hs:w.heap.size≤w'.heap.size) (hk:w0.heap.size≤w.heap.size)
  (GH:∀b∈mb,∃i,((∃x∈U,x.id=i)∨i∈D)∧∃o,h i=some o∧b∈al β i o)
  (hw:∀b,b<w.heap.size→b ∉ mb→w'.heap[b]? =w.heap[b]?)
  (hU:∀x∈U,∃o,h x.id=some o)
  (L8:∀x∈U,∀(av:Nat→Prop) (β':Env),β'.val x.id=β.val x.id→β'.cU x.id=β.cU x.id→β'.nb x.id=x.nb→(∀y∈N,β'.val y.id=y.v)→(∀b∈im,¬av b)→fU w' av β' x.id x.obj x.bC)
  (Lu:(U.flatMap fK.bC).Nodup) (Hc:∀b∈U.flatMap fK.bC,(b∈mb∨w.heap.size≤b)∧b<w'.heap.size∧b ∉ N.flatMap ar.bC)
  (kp:∀b∈im,¬Av (ln N U D h) (β.b_ N U) b) (mV:(N.map (·.id)).Nodup)
  (bz:∀x∈N,h x.id=none∧(∀i,x.id ∉ bU (f i))∧∀k o,h k=some o→x.id ∉ cD o) (aJ:∀x∈N,ar.ok w' x)
  (hnd:(N.flatMap ar.bC).Nodup) (mK:∀b∈N.flatMap ar.bC,(b∈mb∨w.heap.size≤b)∧b<w'.heap.size):
  Core w0 S f (ln N U D h) (β.b_ N U) (gQ N U φ) tm w':=by
 have ef:∀x∈N,∀b∈x.bC,b∈N.flatMap ar.bC:=fun x hx b hb=>List.mem_flatMap.2 ⟨x,hx,hb⟩
 have CF:∀x∈U,∀b∈x.bC,b∈U.flatMap fK.bC:=fun x hx b hb=>List.mem_flatMap.2 ⟨x,hx,hb⟩
 have MS:∀x∈U,fB N x.id=none:=by
  intro x hx
  cases hl:fB N x.id with
  | none=>rfl
  | some y=>
   obtain⟨hm,he⟩:=bc hl
   obtain⟨o,ho⟩:=hU x hx
   have:=(bz y hm).1
   rw[he,ho] at this
   cases this
 have lL:∀j oj,fB N j=none→mv U j=none→al (β.b_ N U) j oj=al β j oj:=by
  intro j oj hj hu
  cases oj<;>simp [al,Env.b_,hj,hu]
 have jN:∀j x,fB N j=some x→al (β.b_ N U) j x.obj=x.al:=by
  intro j x hj
  obtain⟨_,rfl⟩:=bc hj
  exact x.iQ (by simp [Env.b_,hj]) (by simp [Env.b_,hj])
 have EX:∀j x,fB N j=none→mv U j=some x→fU w' (Av (ln N U D h) (β.b_ N U)) (β.b_ N U) j x.obj x.bC:=by
  intro j x hl hu
  obtain⟨hm,rfl⟩:=db hu
  exact L8 x hm _ _ (by simp [Env.b_,hl]) rfl (by simp [Env.b_,hl,hu]) (fun y hy=>by simp [Env.b_,mu hy mV]) kp
 have ET:∀b∈mb,Av h β b:=by
  intro b hb
  obtain⟨i,_,o,ho,Is⟩:=GH b hb
  exact .inl ⟨i,o,ho,Is⟩
 have CA:∀b∈mb,∃i o,h i=some o∧b∈φ i:=by
  intro b hb
  obtain⟨i,_,o,ho,Is⟩:=GH b hb
  exact⟨i,o,ho,Vm.ah (hc.ay _ _ ho) b Is⟩
 have JJ:∀b,Av (ln N U D h) (β.b_ N U) b→Av h β b∨w.heap.size≤b:=by
  rintro b (⟨j,oj,hj,bo⟩ | hb)
  case inr=>exact .inl (.inr hb)
  unfold ln at hj
  cases hl:fB N j with
  | none=>
   simp only[hl] at hj
   cases hu:mv U j with
   | none=>
    simp only[hu] at hj
    split at hj
    ·cases hj
    rw[lL j oj hl hu] at bo
    exact .inl (.inl ⟨j,oj,hj,bo⟩)
   | some x=>
    simp only[hu,Option.some.injEq] at hj
    subst hj
    have h1:=Vm.ah (EX j x hl hu) b bo
    rcases (Hc b (CF x (db hu).1 b h1)).1 with h2 | h2
    ·exact .inl (ET b h2)
    ·exact .inr h2
  | some x=>
   simp only[hl,Option.some.injEq] at hj
   subst hj
   rw[jN j x hl] at bo
   have hx:=(bc hl).1
   rcases (mK b (ef x hx b (x.ah b bo))).1 with h2 | h2
   ·exact .inl (ET b h2)
   ·exact .inr h2
 have Fw:∀j oj,h j=some oj→(∀x∈U,x.id≠j)→j ∉ D→∀b∈φ j,b ∉ mb:=by
  intro j oj hj cJ hnd b hb Ir
  obtain⟨i,hi,o,ho,Is⟩:=GH b Ir
  refine hc.sep i j o oj (fun e=> ?_) ho hj b (Vm.ah (hc.ay _ _ ho) b Is) hb
  rcases hi with ⟨x,hx,MM⟩ | hi
  ·exact cJ x hx (MM.trans e)
  ·exact hnd (e ▸ hi)
 have I8:∀b,(b∈mb∨w.heap.size≤b)→¬β.gH b:=by
  intro b hb eY
  rcases hb with hb | hb
  ·obtain⟨i,o,ho,mh⟩:=CA b hb
   exact hc.A_ ho mh eY
  ·have:=(hc.gH b eY).1
   omega
 have EP:∀j oj,mv U j=none→(if j∈D then none else h j)=some oj→h j=some oj∧j ∉ D:=by
  intro j oj _ hj
  split at hj
  ·cases hj
  ·exact⟨hj,by assumption⟩
 have Jr:∀j,mv U j=none→∀x∈U,x.id≠j:=by
  intro j hu x hx he
  obtain⟨y,hy⟩:=Fj hx
  rw[he,hu] at hy
  cases hy
 refine hc.mH (fun j=>(fB N j).isSome=true) hs ?_ JJ ?_ ?_ ?_ ?_
 ·intro b hb hn
  exact hw b hb (fun Ir=>hn (ET b Ir))
 ·intro i j hj hx
  obtain⟨x,hx⟩:=Option.isSome_iff_exists.1 hx
  obtain⟨hm,rfl⟩:=bc hx
  exact (bz x hm).2.1 i hj
 ·intro j hj
  have:fB N j=none:=by simpa using hj
  simp [Env.b_,this]
 ·intro j oj hj
  unfold ln at hj
  cases hl:fB N j with
  | none=>
   simp only[hl] at hj
   cases hu:mv U j with
   | none=>
    simp only[hu] at hj
    obtain⟨hj,IG⟩:=EP j oj hu hj
    refine .inl ⟨by simp [hl],hj,by simp [Env.b_,hl,hu],by simp [gQ,hl,hu], ?_,fun b hb=> ?_⟩
    ·intro i hi hx
     obtain⟨x,hx⟩:=Option.isSome_iff_exists.1 hx
     obtain⟨hm,rfl⟩:=bc hx
     exact (bz x hm).2.2 j oj hj hi
    ·have fC:=Vm.ah (hc.ay j oj hj) b hb
     exact hw b ((hc.fresh j oj hj).2 b fC).2 (Fw j oj hj (Jr j hu) IG b fC)
   | some x=>
    simp only[hu,Option.some.injEq] at hj
    subst hj
    have hm:=(db hu).1
    refine .inr ⟨by simpa only[gQ,hl,hu] using EX j x hl hu,by simpa only[gQ,hl,hu] using (lk Lu).1 x hm, ?_⟩
    simp only[gQ,hl,hu]
    intro b hb
    obtain⟨h1,h2,_⟩:=Hc b (CF x hm b hb)
    refine⟨?_,h2⟩
    rcases h1 with h1 | h1
    ·obtain⟨i,o,ho,mh⟩:=CA b h1
     exact ((hc.fresh _ _ ho).2 b mh).1
    ·exact .inl (by omega)
  | some x=>
   simp only[hl,Option.some.injEq] at hj
   subst hj
   obtain⟨hm,rfl⟩:=bc hl
   refine .inr ⟨?_, ?_, ?_⟩
   ·simp only[gQ,hl]
    refine ar.Js (aJ x hm) (by simp [Env.b_,hl]) (by simp [Env.b_,hl]) ?_ ((cV hnd).1 x hm)
    rintro b hb GK hx
    have fC:b∈x.bC:=List.mem_append_right _ hb
    have Hd:=ef x hm b fC
    have mQ:=(mK b Hd).1
    rcases hx with ⟨j,oj,hj,bo⟩ | eY
    case inr=>exact I8 b mQ eY
    unfold ln at hj
    cases DK:fB N j with
    | some y=>
     simp only[DK,Option.some.injEq] at hj
     subst hj
     rw[jN j y DK] at bo
     have hy:=(bc DK).1
     by_cases Ao:y=x
     ·subst Ao
      exact GK bo
     ·exact (cV hnd).2 y hy x hm Ao b (y.ah b bo) fC
    | none=>
     simp only[DK] at hj
     cases hu:mv U j with
     | some y=>
      simp only[hu,Option.some.injEq] at hj
      subst hj
      have h1:=Vm.ah (EX j y DK hu) b bo
      exact (Hc b (CF y (db hu).1 b h1)).2.2 Hd
     | none=>
      simp only[hu] at hj
      obtain⟨hj,IG⟩:=EP j oj hu hj
      rw[lL j oj DK hu] at bo
      have mR:=Vm.ah (hc.ay j oj hj) b bo
      rcases mQ with mQ | mQ
      ·exact Fw j oj hj (Jr j hu) IG b mR mQ
      ·have:=((hc.fresh j oj hj).2 b mR).2
       omega
   ·simp only[gQ,hl]
    exact (cV hnd).1 x hm
   ·simp only[gQ,hl]
    intro b hb
    have:=mK b (ef x hm b hb)
    refine⟨?_,this.2⟩
    rcases this.1 with h1 | h1
    ·obtain⟨i,o,ho,mh⟩:=CA b h1
     exact ((hc.fresh _ _ ho).2 b mh).1
    ·exact .inl (by omega)
 ·
  have kinds:∀j oj,ln N U D h j=some oj→∀b∈gQ N U φ j,
    (∃x,fB N j=some x∧b∈x.bC)∨(∃x,fB N j=none∧mv U j=some x∧b∈x.bC)∨(fB N j=none∧mv U j=none∧(h j=some oj∧j ∉ D)∧b∈φ j):=by
   intro j oj hj b hb
   unfold ln at hj
   unfold gQ at hb
   cases hl:fB N j with
   | some x=>simp only[hl] at hb;exact .inl ⟨x,rfl,hb⟩
   | none=>
    simp only[hl] at hj hb
    cases hu:mv U j with
    | some x=>simp only[hu] at hb;exact .inr (.inl ⟨x,rfl,rfl,hb⟩)
    | none=>simp only[hu] at hj hb;exact .inr (.inr ⟨rfl,rfl,EP j oj hu hj,hb⟩)
  have Fo:∀b,b∈N.flatMap ar.bC→∀j oj,mv U j=none→h j=some oj→j ∉ D→b∈φ j→False:=by
   intro b Hd j oj Bp hj IG bo
   rcases (mK b Hd).1 with h1 | h1
   ·exact Fw j oj hj (Jr j Bp) IG b bo h1
   ·have:=((hc.fresh j oj hj).2 b bo).2
    omega
  intro i j oi oj cJ hi hj b hb ax
  rcases kinds i oi hi b hb with ⟨x,hx,bx⟩ | ⟨x,_,hx,bx⟩ | ⟨_,LM,⟨hx,LK⟩,bx⟩<;>rcases kinds j oj hj b ax with ⟨y,hy,D0⟩ | ⟨y,_,hy,D0⟩ | ⟨_,LO,⟨hy,LN⟩,D0⟩
  ·refine (cV hnd).2 x (bc hx).1 y (bc hy).1 ?_ b bx D0
   rintro rfl
   exact cJ ((bc hx).2.symm.trans (bc hy).2)
  ·exact (Hc b (CF y (db hy).1 b D0)).2.2 (ef x (bc hx).1 b bx)
  ·exact Fo b (ef x (bc hx).1 b bx) j oj LO hy LN D0
  ·exact (Hc b (CF x (db hx).1 b bx)).2.2 (ef y (bc hy).1 b D0)
  ·refine (lk Lu).2 x (db hx).1 y (db hy).1 ?_ b bx D0
   rw[(db hx).2,(db hy).2]
   exact cJ
  ·rcases (Hc b (CF x (db hx).1 b bx)).1 with h1 | h1
   ·exact Fw j oj hy (Jr j LO) LN b D0 h1
   ·have:=((hc.fresh j oj hy).2 b D0).2
    omega
  ·exact Fo b (ef y (bc hy).1 b D0) i oi LM hx LK bx
  ·rcases (Hc b (CF y (db hy).1 b D0)).1 with h1 | h1
   ·exact Fw i oi hx (Jr i LM) LK b bx h1
   ·have:=((hc.fresh i oi hx).2 b bx).2
    omega
  ·exact hc.sep i j oi oj cJ hx hy b bx D0
end
end Go.Proofs.YtngbcccnjiaddaaGreat.Vm
namespace Go.Proofs.YtngbcccnjiaddaaGreat.Vm
section
variable {P:Program} {Γ:Ctx} {w0:World} {S:Own} {st:St} {o:Oper} {e:cL} {a:Act} {w:World}
variable {f:Nat→SV} {h:Nat→Option aj} {β:Env} {φ:Nat→List Nat} {tm:Array Value}
theorem dh.length {w:World} :∀(CP:List RC) (ds:List DC) (vs:List Value) (φ im tp:List Nat),dh w CP ds vs φ im tp→ds.length=CP.length
 | [],ds,vs,φ,im,tp,h=>by simp only[dh] at h;simp [h.1]
 | .d7 c::cs,ds,vs,φ,im,tp,h=>by
  simp only[dh] at h
  obtain⟨d,aZ,v,cK,f1,E8,rfl,_,_,h1,_⟩:=h
  simp [dh.length cs aZ cK _ _ _ h1]
 | .own t e::cs,ds,vs,φ,im,tp,h=>by
  simp only[dh] at h
  obtain⟨rows,aZ,v,cK,vals,az,φ',Bj,rfl,_,_,_,h1,_⟩:=h
  simp [dh.length cs aZ cK _ _ _ h1]
 | .deep t e ts::cs,ds,vs,φ,im,tp,h=>by
  simp only[dh] at h
  obtain⟨rows,aZ,v,cK,vals,aT,φ',Bj,rfl,_,_,_,h1,_⟩:=h
  simp [dh.length cs aZ cK _ _ _ h1]
theorem fI {w':World} {d:Nat} :∀(CP:List RC) (k:Nat) (ds:List DC) (vs:List Value) (φ im tp:List Nat),dh w' CP ds vs φ im tp→
  ∃N:List ar,(ch d k CP ds).2=cR N∧N.map (·.id)=(List.range' k (du CP)).map (ag d)∧(∀x∈N,x.ok w')∧N.flatMap ar.bC=φ∧N.flatMap ar.al=tp∧
   ∀(av:Nat→Prop) (β':Env),(∀x∈N,β'.val x.id=x.v)→(∀b∈im,¬av b)→af w' av β' (ch d k CP ds).1 vs
 | [],k,ds,vs,φ,im,tp,h=>by
  simp only[dh] at h
  obtain⟨rfl,rfl,rfl,rfl,rfl⟩:=h
  exact⟨[],rfl,rfl,by simp,rfl,rfl,by simp [ch,af]⟩
 | .d7 c::cs,k,ds,vs,φ,im,tp,h=>by
  simp only[dh] at h
  obtain⟨x,aZ,v,cK,f1,E8,rfl,rfl,h1,h2,rfl⟩:=h
  obtain⟨N,e1,e2,e3,e4,e5,e6⟩:=fI cs k aZ cK φ E8 tp h2
  refine⟨N,by simpa [ch] using e1,by simpa [du] using e2,e3,e4,e5,fun av β' gk cP=> ?_⟩
  simp only[ch,List.headD_cons,List.tail_cons,af]
  exact⟨v,cK,rfl,dy h1 (fun b hb=>cP b (List.mem_append_left _ hb)),e6 av β' gk (fun b hb=>cP b (List.mem_append_right _ hb))⟩
 | .own t e::cs,k,ds,vs,φ,im,tp,h=>by
  simp only[dh] at h
  obtain⟨rows,aZ,v,cK,vals,az,φ',Bj,rfl,rfl,h1,h2,h3,rfl,rfl⟩:=h
  obtain⟨N,e1,e2,e3,e4,e5,e6⟩:=fI cs (k+1) aZ cK φ' im Bj h3
  refine⟨⟨ag d k,t,e,rows,v,az,none⟩::N, ?_, ?_, ?_, ?_, ?_,fun av β' gk cP=> ?_⟩
  ·simp [ch,cR,ar.obj,DC.cT] at e1 ⊢
   exact e1
  ·simp only[List.map_cons,du,List.range'_succ,e2]
  ·intro x hx
   rcases List.mem_cons.1 hx with rfl | hx
   ·exact⟨vals,h1,h2⟩
   ·exact e3 x hx
  ·simp [List.flatMap_cons,e4,ar.bC]
  ·simp [List.flatMap_cons,e5,ar.al]
  ·simp only[ch,List.headD_cons,List.tail_cons,af]
   refine⟨v,cK,rfl, ?_,e6 av β' (fun x hx=>gk x (List.mem_cons_of_mem _ hx)) cP⟩
   simp only[ak]
   exact⟨(gk _ (List.mem_cons_self ..)).symm,h1.one⟩
 | .deep t e ts::cs,k,ds,vs,φ,im,tp,h=>by
  simp only[dh] at h
  obtain⟨rows,aZ,v,cK,vals,aT,φ',Bj,rfl,rfl,h1,h2,h3,rfl,rfl⟩:=h
  obtain⟨N,e1,e2,e3,e4,e5,e6⟩:=fI cs (k+1) aZ cK φ' im Bj h3
  refine⟨⟨ag d k,t,e,rows,v,aT,some ts⟩::N, ?_, ?_, ?_, ?_, ?_,fun av β' gk cP=> ?_⟩
  ·simp [ch,cR,ar.obj,DC.cT] at e1 ⊢
   exact e1
  ·simp only[List.map_cons,du,List.range'_succ,e2]
  ·intro x hx
   rcases List.mem_cons.1 hx with rfl | hx
   ·exact⟨vals,h1,h2⟩
   ·exact e3 x hx
  ·simp [List.flatMap_cons,e4,ar.bC]
  ·simp [List.flatMap_cons,e5,ar.al,ar.bC]
  ·simp only[ch,List.headD_cons,List.tail_cons,af]
   refine⟨v,cK,rfl, ?_,e6 av β' (fun x hx=>gk x (List.mem_cons_of_mem _ hx)) cP⟩
   simp only[ak]
   exact⟨(gk _ (List.mem_cons_self ..)).symm,h1.one⟩
theorem jo {w':World} {d:Nat} :∀(BZ:List RK) (k:Nat) (ds:List DC) (vs:List Value) (φ im tp:List Nat),fh w' BZ ds vs φ im tp→
  ∃N:List ar,(bj d k BZ ds).2=cR N∧N.map (·.id)=(List.range' k (ba BZ)).map (ag d)∧(∀x∈N,x.ok w')∧N.flatMap ar.bC=φ∧N.flatMap ar.al=tp∧
   ∀(av:Nat→Prop) (β':Env),(∀x∈N,β'.val x.id=x.v)→(∀b∈im,¬av b)→af w' av β' (bj d k BZ ds).1 vs
 | [],k,ds,vs,φ,im,tp,h=>by
  simp only[fh] at h
  obtain⟨rfl,rfl,rfl,rfl,rfl⟩:=h
  exact⟨[],rfl,rfl,by simp,rfl,rfl,by simp [bj,af]⟩
 | r::rs,k,ds,vs,φ,im,tp,h=>by
  simp only[fh] at h
  obtain⟨d1,d2,v,cK,us,DZ,Bk,i1,i2,t1,t2,rfl,rfl,hv,bg,h1,h2,rfl,rfl,rfl⟩:=h
  have hl:=dh.length _ _ _ _ _ _ h1
  obtain⟨N1,a1,a2,a3,a4,a5,a6⟩:=fI (d:=d) r.cells k d1 us DZ i1 t1 h1
  obtain⟨N2,b1,b2,b3,b4,b5,b6⟩:=jo (d:=d) rs (k+du r.cells) d2 cK Bk i2 t2 h2
  have ht:(d1++d2).take r.cells.length=d1:=by rw[←hl];simp
  have mT:(d1++d2).drop r.cells.length=d2:=by rw[←hl];simp
  refine⟨N1++N2, ?_, ?_, ?_,by simp [a4,b4],by simp [a5,b5],fun av β' gk cP=> ?_⟩
  ·simp only[bj,ht,mT,a1,b1,cR,List.map_append]
  ·rw[List.map_append,a2,b2,←List.map_append,List.range'_append_1]
   rfl
  ·intro x hx
   rcases List.mem_append.1 hx with hx | hx
   ·exact a3 x hx
   ·exact b3 x hx
  ·have s1:=a6 av β' (fun x hx=>gk x (List.mem_append_left _ hx)) (fun b hb=>cP b (List.mem_append_left _ hb))
   have s2:=b6 av β' (fun x hx=>gk x (List.mem_append_right _ hx)) (fun b hb=>cP b (List.mem_append_right _ hb))
   simp only[bj,ht,mT,af]
   refine⟨v,cK,rfl, ?_,s2⟩
   cases Im:r.agg with
   | true=>
    rw[Im,cond_true] at hv
    subst hv
    simp only[cond_true,ak]
    exact⟨us,rfl,s1,bg⟩
   | false=>
    rw[Im,cond_false] at hv
    subst hv
    simp only[cond_false]
    generalize (ch d k r.cells d1).1=q at s1
    cases q with
    | nil=>simp [af] at s1
    | cons y l=>
     simp only[af] at s1
     obtain⟨v',l',e1,e2,_⟩:=s1
     injection e1 with e1
     subst e1
     simpa using e2
theorem dk.lt {w:World} :∀(ks:List AK) (ds:List DC) (vs:List Value) (fp:List Nat),dk w ks ds vs fp→∀b∈fp,b<w.heap.size
 | [],ds,vs,fp,h=>by simp only[dk] at h;simp [h.2.2]
 | k::ks,ds,vs,fp,h=>by
  simp only[dk] at h
  obtain⟨d1,d2,v,cK,f1,f2,rfl,rfl,⟨us,_,_,hr,_⟩,h2,rfl⟩:=h
  intro b hb
  rcases List.mem_append.1 hb with hb | hb
  ·exact a8.lt _ _ _ _ hr b hb
  ·exact dk.lt ks d2 cK f2 h2 b hb
theorem dh.jS {w:World} :∀(CP:List RC) (ds:List DC) (vs:List Value) (φ im tp:List Nat),ie CP=false→dh w CP ds vs φ im tp→im=[]
 | [],ds,vs,φ,im,tp,_,h=>by simp only[dh] at h;exact h.2.2.2.1
 | .d7 c::cs,ds,vs,φ,im,tp,hn,h=>by
  simp only[dh] at h
  obtain⟨d,aZ,v,cK,f1,E8,rfl,_,h1,h2,rfl⟩:=h
  have:f1=[]∧ie cs=false:=by
   cases c with
   | int k=>simp only[bV] at h1;obtain⟨n,_,_,_,e⟩:=h1;exact⟨e,by simpa [ie] using hn⟩
   | bool=>simp only[bV] at h1;obtain⟨n,_,_,e⟩:=h1;exact⟨e,by simpa [ie] using hn⟩
   | str=>simp only[bV] at h1;obtain⟨n,_,_,_,e⟩:=h1;exact⟨e,by simpa [ie] using hn⟩
   | sl e=>simp [ie] at hn
  rw[this.1,dh.jS cs aZ cK _ _ _ this.2 h2]
  rfl
 | .own t e::cs,ds,vs,φ,im,tp,hn,h=>by
  simp only[dh] at h
  obtain⟨rows,aZ,v,cK,vals,az,φ',Bj,rfl,_,_,_,h1,_⟩:=h
  exact dh.jS cs aZ cK _ _ _ (by simpa [ie] using hn) h1
 | .deep t e ts::cs,ds,vs,φ,im,tp,hn,h=>by
  simp only[dh] at h
  obtain⟨rows,aZ,v,cK,vals,aT,φ',Bj,rfl,_,_,_,h1,_⟩:=h
  exact dh.jS cs aZ cK _ _ _ (by simpa [ie] using hn) h1
theorem fh.jS {w:World} :∀(BZ:List RK) (ds:List DC) (vs:List Value) (φ im tp:List Nat),(BZ.any fun r=>ie r.cells)=false→fh w BZ ds vs φ im tp→im=[]
 | [],ds,vs,φ,im,tp,_,h=>by simp only[fh] at h;exact h.2.2.2.1
 | r::rs,ds,vs,φ,im,tp,hn,h=>by
  simp only[fh] at h
  obtain⟨d1,d2,v,cK,us,DZ,Bk,i1,i2,t1,t2,rfl,rfl,_,_,h1,h2,_,rfl,_⟩:=h
  simp only[List.any_cons,Bool.or_eq_false_iff] at hn
  rw[dh.jS _ _ _ _ _ _ hn.1 h1,fh.jS rs d2 cK _ _ _ hn.2 h2]
  rfl
theorem AL (hc:Core w0 S st.get st.obj β φ a.tmps w):∀(xs:List Operand) (ss:List SV),(DF xs).val st.get st.obj=some ss→af w (Av st.obj β) β ss (xs.map a.eval)
 | [],ss,h=>by simp [DF] at h;subst h;simp [af]
 | x::xs,ss,h=>by
  simp only[DF,M.ae,Option.bind_eq_some_iff,M.aa,Option.some.injEq] at h
  obtain⟨s,h1,r,h2,rfl⟩:=h
  simp only[List.map_cons,af]
  exact⟨_,_,rfl,hc.ev h1,AL hc xs r h2⟩
theorem B1 {c:Call} {g:Nat} {fn:Func} (ho:o.op= .call c) (hg:c.callee= .value (.func g)) (hf:P.funcs[g]? =some fn) (hb:fn.body.isSome=true) (hn:(fn.name== "runtime.NumGoroutine")=false):
  (execOp a.eval o).run P w= .ok (.enter g (c.args.map a.eval)) w:=by
 have ax:fn.body.isNone=false:=by cases h:fn.body<;>simp_all
 simp only[execOp,ho,resolve,hg,Act.eval,Deferred.ofValue,Sem.run_bind,Sem.run_pure,Result.andThen_ok,invoke,callFunc,run_program,hf,hn,ax,Bool.false_eq_true,if_false]
 simp
theorem CZ (eR:bF P Γ) {s:Sum} {g:Nat} (hs:Gb Γ g=some s) (eE:s.G2=false) (GM:s.pt=none) (JM:s.ms=[]) (hR:Rel w0 S st a w) {d:Nat} (aQ:o.dst=some d) (hd:bd st.n d) (bW:e.ow≠[]→bJ st d) {c:Call} (ho:o.op= .call c) (hg:c.callee= .value (.func g)) {l:List SV}
  (hl:(DF c.args.toList).val st.get st.obj=some l) (he:(kN Γ (some d) g l).val st.get st.obj=some e) (aJ:e.ok=true):Good P w0 S st o e a w:=by
 unfold kN at he
 rw[hs] at he
 simp only[eE,cond_false,GM,JM] at he
 cases Ha:Nat.blt (ba s.rs) 64
 ·simp [Ha] at he
 simp only[Ha,cond_true,M.ae,Option.bind_eq_some_iff] at he
 obtain⟨r,hr,he⟩:=he
 cases Jb:(!(shares s) || aM r.2)
 ·simp [Jb] at he
 simp only[Jb,cond_true,M.aa,Option.some.injEq] at he
 subst he
 have Ha:ba s.rs<64:=Nat.le_of_ble_eq_true Ha
 have hH:D8 P g s:=by have h0:=eR g s hs;unfold gO at h0;rw[eE,cond_false,GM] at h0;simp only[JM] at h0;exact h0
 obtain⟨⟨fn,hf,hb,hn⟩,Cu⟩:=hH
 obtain⟨β,φ,hc⟩:=hR.core
 obtain⟨fp,cv,kt,lx⟩:=lV hc s.ps l _ r (AL hc _ l hl) hr
 have Lw:=dk.lt _ _ _ _ cv
 intro Q
 unfold Oper.wp
 rw[B1 ho hg hf hb hn,Oper.upon_enter]
 have E6:c.args.map a.eval=(c.args.toList.map a.eval).toArray:=by rw[←Array.toList_map,Array.toArray_toList]
 rw[E6]
 refine (Cu w r.1 _ fp cv aJ).mono ?_
 rintro _ w' ⟨vs,JY,im,tp,rfl,hk,A0,hnd,mK,kp⟩
 obtain⟨N,n1,n2,n3,n4,n5,n6⟩:=jo (d:=d) s.rs 0 _ vs JY im tp A0
 let M':eW:=bif shares s then r.2 else []
 have hM:bS st.obj M'∧aM M'=true:=by
  cases A2:shares s with
  | true=>
   have:M'=r.2:=by simp [M',A2]
   rw[this]
   exact⟨kt,by simpa [A2] using Jb⟩
  | false=>
   have:M'=[]:=by simp [M',A2]
   rw[this]
   exact⟨by simp [bS],rfl⟩
 have hfz:(bif shares s then ai r.2 else [])=ai M':=by cases A2:shares s<;>simp [M',A2,ai]
 have jH:=hc.gw M' hM.1 hM.2
 have Cy:∀x∈N,x.id / 64=d∧x.id∈N.map (·.id):=by
  intro x hx
  have hm:x.id∈N.map (·.id):=List.mem_map_of_mem hx
  refine⟨?_,hm⟩
  rw[n2] at hm
  obtain⟨j,hj,f_⟩:=List.mem_map.1 hm
  rw[←f_]
  have:=List.mem_range'_1.1 hj
  exact cM d j (by omega)
 have mV:(N.map (·.id)).Nodup:=by
  rw[n2]
  refine List.Pairwise.map _ ?_ (List.nodup_range' ..)
  intro x y Ao e
  unfold ag at e
  omega
 have hle:=hR.kept.size
 have hw:∀b,b<w.heap.size→w'.heap[b]? =w.heap[b]? :=fun b hb=>hk.block b hb (fun h=>h)
 have Kc:=jH.FQ (N:=N) hk.size hw hle ?_ n3 mV (by rw[n4];exact hnd) (by rw[n4];exact mK)
 ·have hval:∀x∈N,(β.fP N).val x.id=x.v:=by
   intro x hx
   simp [Env.fP,mu hx mV]
  have EL:∀b∈im,¬Av (fun j=>match fB N j with | some x=>some x.obj | none=>fo (ai M') st.obj j) (β.fP N) b:=by
   rintro b hb (⟨j,oj,hj,bo⟩ | eY)
   case inr=>
    have EJ:=kp b hb
    have Md:=(jH.gH b eY).1
    rcases EJ.1 with Cw | mQ
    ·cases A2:shares s with
     | false=>
      have:im=[]:=fh.jS _ _ _ _ _ _ (by simpa [shares] using A2) A0
      rw[this] at hb
      simp at hb
     | true=>
      have Gv:M'=r.2:=by simp [M',A2]
      rcases lx b Cw with h3 | ⟨x,hx,ko⟩
      ·exact h3 (.inr eY)
      ·exact dC hc hM.1 (by rw[Gv];exact hx) ko (.inr eY)
    ·omega
   have EJ:=kp b hb
   cases jJ:fB N j with
   | some x=>
    simp only[jJ,Option.some.injEq] at hj
    subst hj
    have hx:=(bc jJ).1
    refine EJ.2 ?_
    rw[←n5]
    refine List.mem_flatMap.2 ⟨x,hx, ?_⟩
    obtain⟨_,rfl⟩:=bc jJ
    rwa [x.iQ (by simp [Env.fP,jJ]) (by simp [Env.fP,jJ])] at bo
   | none=>
    simp only[jJ] at hj
    have mR:b∈al β j oj:=by
     cases oj<;>simp only[al,Env.fP,jJ] at bo ⊢ <;>exact bo
    have Ka:=((jH.fresh j oj hj).2 b (ah (jH.ay j oj hj) b mR)).2
    rcases EJ.1 with Cw | mQ
    ·cases A2:shares s with
     | false=>
      have:im=[]:=fh.jS _ _ _ _ _ _ (by simpa [shares] using A2) A0
      rw[this] at hb
      simp at hb
     | true=>
      have Gv:M'=r.2:=by simp [M',A2]
      rcases lx b Cw with h3 | ⟨x,hx,ko⟩
      ·exact h3 (fX (.inl ⟨j,oj,hj,mR⟩))
      ·exact dC hc hM.1 (by rw[Gv];exact hx) ko (.inl ⟨j,oj,hj,mR⟩)
    ·omega
  have eQ:=n6 _ (β.fP N) hval EL
  have Cz:Kept S w0 w':=⟨hk.os.trans hR.kept.os,hk.tape.trans hR.kept.tape,hk.output.trans hR.kept.output,by have:=hk.size;omega,fun k h1 h2=>(hw k (by omega)).trans (hR.kept.block k h1 h2)⟩
  refine⟨pack vs,rfl,iL hR (fun d' h'=>by rw[aQ] at h';injection h' with h';exact h' ▸ hd) Cz ⟨β.fP N,fun j=>match fB N j with | some x=>x.bC | none=>bm φ M' j, ?_, ?_⟩⟩
  ·have:fo ((bj d 0 s.rs (s.fn r.1).2).2++(bif shares s then ai r.2 else [])) (fc none st.obj)=fun j=>match fB N j with | some x=>some x.obj | none=>fo (ai M') st.obj j:=by
    funext j
    rw[n1,hfz,AQ]
    rfl
   show Core w0 S st.get (fo ((bj d 0 s.rs (s.fn r.1).2).2++(bif shares s then ai r.2 else [])) (fc none st.obj)) _ _ _ _
   rw[this]
   exact Kc
  ·have:fo ((bj d 0 s.rs (s.fn r.1).2).2++(bif shares s then ai r.2 else [])) (fc none st.obj)=fun j=>match fB N j with | some x=>some x.obj | none=>fo (ai M') st.obj j:=by
    funext j
    rw[n1,hfz,AQ]
    rfl
   show ak w' (Av (fo ((bj d 0 s.rs (s.fn r.1).2).2++(bif shares s then ai r.2 else [])) (fc none st.obj)) (β.fP N)) (β.fP N) (iu (bj d 0 s.rs (s.fn r.1).2).1) (pack vs)
   rw[this]
   generalize (bj d 0 s.rs (s.fn r.1).2).1=q at eQ
   match q,vs,eQ with
   | [],vs,eQ=>
    simp only[af] at eQ
    subst eQ
    simp only[iu,pack,ak]
    exact⟨[],rfl,by simp [af]⟩
   | [x],vs,eQ=>
    simp only[af] at eQ
    obtain⟨v,l',rfl,h1,rfl⟩:=eQ
    exact h1
   | x::y::q,vs,eQ=>
    have E2:=eQ
    simp only[af] at eQ
    obtain⟨v,l',rfl,h1,v2,l2,rfl,h2,h3⟩:=eQ
    simp only[iu,pack]
    unfold ak
    exact⟨v::v2::l2,rfl,E2⟩
 ·intro x hx
  have h1:=(Cy x hx).1
  have bW:=bW (by
   show (bj d 0 s.rs (s.fn r.1).2).2++_≠[]
   rw[n1]
   intro h0
   rw[List.append_eq_nil_iff] at h0
   have:N=[]:=by simpa [cR] using h0.1
   rw[this] at hx
   simp at hx)
  refine⟨?_,fun i hi=>bW.slot i _ hi h1,fun k ok Cz hi=> ?_⟩
  ·cases hn:fo (ai M') st.obj x.id with
   | none=>rfl
   | some ob=>
    rcases dA hn with h2 | ⟨e',r',rfl,y,hy,h2⟩
    ·exact absurd h1 (bW.obj _ ob h2).1
    ·obtain⟨_,h3,_⟩:=hM.1 y hy
     rw[h2] at h3
     exact absurd h1 (bW.obj _ _ h3).1
  ·rcases dA Cz with h2 | ⟨e',r',rfl,_⟩
   ·exact (bW.obj k ok h2).2 _ hi h1
   ·simp [cD] at hi
end
end Go.Proofs.YtngbcccnjiaddaaGreat.Vm
set_option linter.unusedVariables false
set_option linter.unusedSimpArgs false
namespace Go.Proofs.YtngbcccnjiaddaaGreat.Vm
section
variable {P:Program} {Γ:Ctx} {w0:World} {S:Own} {st:St} {o:Oper} {e:cL} {a:Act} {w:World}
variable {f:Nat→SV} {h:Nat→Option aj} {β:Env} {φ:Nat→List Nat} {tm:Array Value}
def aB (β:Env):MU→List Nat
 | .box id _ _=>[β.cU id]
 | .row id _ _ _=>(β.val id).ownBlock.toList
 | .deep id _ _ _=>(β.val id).ownBlock.toList++β.nb id
 | .gone id dp=>(β.val id).ownBlock.toList++(bif dp then β.nb id else [])
 | .cI id _ _ _=>[β.cU id]
 | .lM=>[]
def Cl (dp:Bool) (o:aj):Prop:=(dp=false∧∃t e rows u,aq e=true∧o= .row t e rows false u)∨(dp=true∧∃t e ts rows,o= .deep t e ts rows none)
theorem Cl.al {dp:Bool} {o:aj} (h:Cl dp o) (β:Env) (id:Nat):al β id o=aB β (.gone id dp):=by
 rcases h with ⟨rfl,t,e,rows,u,_,rfl⟩ | ⟨rfl,t,e,ts,rows,rfl⟩<;>simp [Vm.al,aB]
def cS (h:Nat→Option aj):List MU→Prop
 | []=>True
 | .box id t cs::l=>(∃cells,h id=some (.box t cells))∧cS h l
 | .row id t e u::l=>(aq e=true∧∃rows,h id=some (.row t e rows false u))∧cS h l
 | .deep id t e ts::l=>(∃rows,h id=some (.deep t e ts rows none))∧cS h l
 | .gone id dp::l=>(∃o,h id=some o∧Cl dp o)∧cS h l
 | .cI id t cs ts::l=>(∃cells,h id=some (.box t cells))∧cS h l
 | .lM::l=>cS h l
theorem cS.append {U V:List MU} (hu:cS h U) (hv:cS h V):cS h (U++V):=by
 induction U with
 | nil=>exact hv
 | cons x l ih=>
  cases x<;>simp only[List.cons_append,cS] at hu ⊢
  ·exact⟨hu.1,ih hu.2⟩
  ·exact⟨hu.1,ih hu.2⟩
  ·exact⟨hu.1,ih hu.2⟩
  ·exact⟨hu.1,ih hu.2⟩
  ·exact⟨hu.1,ih hu.2⟩
  ·exact ih hu
theorem jD:∀ {U:List MU},bN U=true→cS h U→(cO U).flatMap (aB β)=U.flatMap (aB β)∧cS h (cO U)
 | [],_,_=>⟨rfl,trivial⟩
 | .row id t e u::l,hr,hm=>by
  simp only[bN] at hr
  simp only[cS] at hm
  obtain⟨⟨hf,rows,ho⟩,hm⟩:=hm
  obtain⟨h1,h2⟩:=jD hr hm
  refine⟨?_, ?_⟩
  ·simp only[cO,List.flatMap_cons,h1,aB,cond_false,List.append_nil]
  ·simp only[cO,cS]
   exact⟨⟨_,ho,.inl ⟨rfl,t,e,rows,u,hf,rfl⟩⟩,h2⟩
 | .deep id t e ts::l,hr,hm=>by
  simp only[bN] at hr
  simp only[cS] at hm
  obtain⟨⟨rows,ho⟩,hm⟩:=hm
  obtain⟨h1,h2⟩:=jD hr hm
  refine⟨?_, ?_⟩
  ·simp only[cO,List.flatMap_cons,h1,aB,cond_true]
  ·simp only[cO,cS]
   exact⟨⟨_,ho,.inr ⟨rfl,t,e,ts,rows,rfl⟩⟩,h2⟩
 | .box _ _ _::l,hr,_=>by simp [bN] at hr
 | .gone _ _::l,hr,_=>by simp [bN] at hr
 | .cI _ _ _ _::l,hr,_=>by simp [bN] at hr
 | .lM::l,hr,hm=>by
  simp only[bN] at hr
  simp only[cS] at hm
  obtain⟨h1,h2⟩:=jD hr hm
  exact⟨by simp only[cO,List.flatMap_cons,h1,aB,List.nil_append],h2⟩
theorem c_ (hc:Core w0 S f h β φ tm w):∀(cs:List CT) (ts:List TypeId) (ss:List SV) (us:List Value) (q:List DC×List MU),af w (Av h β) β ss us→(aV cs ts ss).val f h=some q→
  de w cs ts q.1 us (q.2.flatMap (aB β))∧cS h q.2
 | [],ts,ss,us,q,hs,hq=>by
  cases ts with
  | nil=>
   cases ss with
   | nil=>
    simp only[aV,M.aa,Option.some.injEq] at hq
    subst hq
    simp only[af] at hs
    exact⟨⟨rfl,rfl,hs,rfl⟩,trivial⟩
   | cons s ss=>simp [aV] at hq
  | cons t ts=>simp [aV] at hq
 | .int k::cs,ts,ss,us,q,hs,hq=>by
  cases ss with
  | nil=>simp [aV] at hq
  | cons s ss=>
   simp only[af] at hs
   obtain⟨v,aO,rfl,h1,h2⟩:=hs
   simp only[aV,M.ae,Option.bind_eq_some_iff,M.aa,Option.some.injEq] at hq
   obtain⟨q1,aG,q2,cx,rfl⟩:=hq
   obtain⟨fp,hr,_⟩:=dz hc h1 aG
   obtain⟨k1,k2⟩:=c_ hc cs ts ss aO q2 h2 cx
   refine⟨?_,k2⟩
   simp only[de]
   refine⟨q1.1,q2.1,v,aO,rfl,rfl, ?_,k1⟩
   simp only[bV] at hr ⊢
   obtain⟨n,a,b,c,_⟩:=hr
   exact⟨n,a,b,c,trivial⟩
 | .bool::cs,ts,ss,us,q,hs,hq=>by
  cases ss with
  | nil=>simp [aV] at hq
  | cons s ss=>
   simp only[af] at hs
   obtain⟨v,aO,rfl,h1,h2⟩:=hs
   simp only[aV,M.ae,Option.bind_eq_some_iff,M.aa,Option.some.injEq] at hq
   obtain⟨q1,aG,q2,cx,rfl⟩:=hq
   obtain⟨fp,hr,_⟩:=dz hc h1 aG
   obtain⟨k1,k2⟩:=c_ hc cs ts ss aO q2 h2 cx
   refine⟨?_,k2⟩
   simp only[de]
   refine⟨q1.1,q2.1,v,aO,rfl,rfl, ?_,k1⟩
   simp only[bV] at hr ⊢
   obtain⟨n,a,b,_⟩:=hr
   exact⟨n,a,b,trivial⟩
 | .str::cs,ts,ss,us,q,hs,hq=>by
  cases ss with
  | nil=>simp [aV] at hq
  | cons s ss=>
   simp only[af] at hs
   obtain⟨v,aO,rfl,h1,h2⟩:=hs
   simp only[aV,M.ae,Option.bind_eq_some_iff,M.aa,Option.some.injEq] at hq
   obtain⟨q1,aG,q2,cx,rfl⟩:=hq
   obtain⟨fp,hr,_⟩:=dz hc h1 aG
   obtain⟨k1,k2⟩:=c_ hc cs ts ss aO q2 h2 cx
   refine⟨?_,k2⟩
   simp only[de]
   refine⟨q1.1,q2.1,v,aO,rfl,rfl, ?_,k1⟩
   simp only[bV] at hr ⊢
   obtain⟨n,a,b,c,_⟩:=hr
   exact⟨n,a,b,c,trivial⟩
 | .sl el::cs,ts,ss,us,q,hs,hq=>by
  cases ts with
  | nil=>simp [aV] at hq
  | cons t ts=>
   cases ss with
   | nil=>simp [aV] at hq
   | cons s ss=>
    simp only[af] at hs
    obtain⟨v,aO,rfl,h1,h2⟩:=hs
    simp only[aV,M.ae,Option.bind_eq_some_iff,M.aa,Option.some.injEq] at hq
    obtain⟨q1,aG,q2,cx,rfl⟩:=hq
    obtain⟨k1,k2⟩:=c_ hc cs ts ss aO q2 h2 cx
    cases s with
    | nil=>
     simp only at aG
     cases ew:aq el
     ·simp [ew] at aG
     ·simp only[ew,cond_true,M.aa,Option.some.injEq] at aG
      subst aG
      simp only[ak] at h1
      subst h1
      refine⟨?_,k2⟩
      simp only[de]
      exact⟨t,ts,[],q2.1,_,aO,[],[],q2.2.flatMap (aB β),rfl,rfl,rfl,ew,⟨by simp,.inl ⟨rfl,rfl,rfl⟩⟩,⟨rfl,by simp⟩,k1,by simp [aB,Value.ownBlock]⟩
    | own id=>
     simp only[M.aU,Option.bind_eq_some_iff] at aG
     obtain⟨ob,aL,aG⟩:=aG
     cases ob with
     | row t' e' r fz u=>
      cases fz with
      | true=>simp at aG
      | false=>
       simp only at aG
       cases aI:Nat.beq t' t && aE e' el && aq el
       ·simp [aI] at aG
       ·simp only[aI,cond_true,M.aa,Option.some.injEq] at aG
        subst aG
        simp only[Bool.and_eq_true] at aI
        have ht:=Nat.eq_of_beq_eq_true aI.1.1
        have he:=aK _ _ aI.1.2
        subst ht
        subst he
        simp only[ak] at h1
        obtain⟨vals,az,g1,g2,_,_⟩:=hc.ay id _ aL
        refine⟨?_,⟨⟨aI.2,r,aL⟩,k2⟩⟩
        simp only[de]
        refine⟨t',ts,r,q2.1,v,aO,vals,az,q2.2.flatMap (aB β),rfl,rfl,rfl,aI.2,by rw[h1.1];exact g1,g2,k1, ?_⟩
        simp only[List.flatMap_cons,aB,h1.1]
     | box _ _=>simp at aG
     | d7 _ _=>simp at aG
     | deep _ _ _ _ _=>simp at aG
    | _=>simp at aG
theorem gN.one {t:TT} {e:List CT} {rows:List (List DC)} {v:Value} {mb:List Nat} (h:gN w t e rows v mb):v.oneCell'=true:=by
 cases t with
 | flat t=>
  obtain⟨_,_,_,h1,_⟩:=h
  exact h1.one
 | deep t its=>
  obtain⟨_,_,h1,_⟩:=h
  exact h1.one
theorem cy (hc:Core w0 S f h β φ tm w):∀(cs:List CT) (ts:List TT) (ss:List SV) (us:List Value) (q:List DC×List MU),af w (Av h β) β ss us→(aw cs ts ss).val f h=some q→
  aS w cs ts q.1 us (q.2.flatMap (aB β))∧cS h q.2
 | [],ts,ss,us,q,hs,hq=>by
  cases ts with
  | nil=>
   cases ss with
   | nil=>
    simp only[aw,M.aa,Option.some.injEq] at hq
    subst hq
    simp only[af] at hs
    exact⟨⟨rfl,rfl,hs,rfl⟩,trivial⟩
   | cons s ss=>simp [aw] at hq
  | cons t ts=>simp [aw] at hq
 | .int k::cs,ts,ss,us,q,hs,hq=>by
  cases ss with
  | nil=>simp [aw] at hq
  | cons s ss=>
   simp only[af] at hs
   obtain⟨v,aO,rfl,h1,h2⟩:=hs
   simp only[aw,M.ae,Option.bind_eq_some_iff,M.aa,Option.some.injEq] at hq
   obtain⟨q1,aG,q2,cx,rfl⟩:=hq
   obtain⟨fp,hr,_⟩:=dz hc h1 aG
   obtain⟨k1,k2⟩:=cy hc cs ts ss aO q2 h2 cx
   refine⟨?_,k2⟩
   simp only[aS]
   refine⟨q1.1,q2.1,v,aO,rfl,rfl, ?_,k1⟩
   simp only[bV] at hr ⊢
   obtain⟨n,a,b,c,_⟩:=hr
   exact⟨n,a,b,c,trivial⟩
 | .bool::cs,ts,ss,us,q,hs,hq=>by
  cases ss with
  | nil=>simp [aw] at hq
  | cons s ss=>
   simp only[af] at hs
   obtain⟨v,aO,rfl,h1,h2⟩:=hs
   simp only[aw,M.ae,Option.bind_eq_some_iff,M.aa,Option.some.injEq] at hq
   obtain⟨q1,aG,q2,cx,rfl⟩:=hq
   obtain⟨fp,hr,_⟩:=dz hc h1 aG
   obtain⟨k1,k2⟩:=cy hc cs ts ss aO q2 h2 cx
   refine⟨?_,k2⟩
   simp only[aS]
   refine⟨q1.1,q2.1,v,aO,rfl,rfl, ?_,k1⟩
   simp only[bV] at hr ⊢
   obtain⟨n,a,b,_⟩:=hr
   exact⟨n,a,b,trivial⟩
 | .str::cs,ts,ss,us,q,hs,hq=>by
  cases ss with
  | nil=>simp [aw] at hq
  | cons s ss=>
   simp only[af] at hs
   obtain⟨v,aO,rfl,h1,h2⟩:=hs
   simp only[aw,M.ae,Option.bind_eq_some_iff,M.aa,Option.some.injEq] at hq
   obtain⟨q1,aG,q2,cx,rfl⟩:=hq
   obtain⟨fp,hr,_⟩:=dz hc h1 aG
   obtain⟨k1,k2⟩:=cy hc cs ts ss aO q2 h2 cx
   refine⟨?_,k2⟩
   simp only[aS]
   refine⟨q1.1,q2.1,v,aO,rfl,rfl, ?_,k1⟩
   simp only[bV] at hr ⊢
   obtain⟨n,a,b,c,_⟩:=hr
   exact⟨n,a,b,c,trivial⟩
 | .sl el::cs,ts,ss,us,q,hs,hq=>by
  cases ts with
  | nil=>simp [aw] at hq
  | cons t ts=>
   cases ss with
   | nil=>cases t<;>simp [aw] at hq
   | cons s ss=>
    simp only[af] at hs
    obtain⟨v,aO,rfl,h1,h2⟩:=hs
    cases t with
    | flat t=>
     simp only[aw,M.ae,Option.bind_eq_some_iff,M.aa,Option.some.injEq] at hq
     obtain⟨q1,aG,q2,cx,rfl⟩:=hq
     obtain⟨k1,k2⟩:=cy hc cs ts ss aO q2 h2 cx
     cases s with
     | nil=>
      simp only at aG
      cases ew:aq el
      ·simp [ew] at aG
      ·simp only[ew,cond_true,M.aa,Option.some.injEq] at aG
       subst aG
       simp only[ak] at h1
       subst h1
       refine⟨?_,k2⟩
       simp only[aS]
       exact⟨.flat t,ts,[],q2.1,_,aO,[],q2.2.flatMap (aB β),rfl,rfl,rfl,⟨ew,[],[],⟨by simp,.inl ⟨rfl,rfl,rfl⟩⟩,⟨rfl,by simp⟩,by simp [Value.ownBlock]⟩,k1,by simp [aB]⟩
     | own id=>
      simp only[M.aU,Option.bind_eq_some_iff] at aG
      obtain⟨ob,aL,aG⟩:=aG
      cases ob with
      | row t' e' r fz u=>
       cases fz with
       | true=>simp at aG
       | false=>
        simp only at aG
        cases aI:Nat.beq t' t && aE e' el && aq el
        ·simp [aI] at aG
        ·simp only[aI,cond_true,M.aa,Option.some.injEq] at aG
         subst aG
         simp only[Bool.and_eq_true] at aI
         have ht:=Nat.eq_of_beq_eq_true aI.1.1
         have he:=aK _ _ aI.1.2
         subst ht
         subst he
         simp only[ak] at h1
         obtain⟨vals,az,g1,g2,_,_⟩:=hc.ay id _ aL
         refine⟨?_,⟨⟨aI.2,r,aL⟩,k2⟩⟩
         simp only[aS]
         refine⟨.flat t',ts,r,q2.1,v,aO,v.ownBlock.toList,q2.2.flatMap (aB β),rfl,rfl,rfl,⟨aI.2,vals,az,by rw[h1.1];exact g1,g2,rfl⟩,k1, ?_⟩
         simp only[List.flatMap_cons,aB,h1.1]
      | box _ _=>simp at aG
      | d7 _ _=>simp at aG
      | deep _ _ _ _ _=>simp at aG
     | _=>simp at aG
    | deep t its=>
     simp only[aw,M.ae,Option.bind_eq_some_iff,M.aa,Option.some.injEq] at hq
     obtain⟨q1,aG,q2,cx,rfl⟩:=hq
     obtain⟨k1,k2⟩:=cy hc cs ts ss aO q2 h2 cx
     cases s with
     | nil=>
      simp only[M.aa,Option.some.injEq] at aG
      subst aG
      simp only[ak] at h1
      subst h1
      refine⟨?_,k2⟩
      simp only[aS]
      exact⟨.deep t its,ts,[],q2.1,_,aO,[],q2.2.flatMap (aB β),rfl,rfl,rfl,⟨[],[],⟨by simp,.inl ⟨rfl,rfl,rfl⟩⟩,⟨rfl,by simp⟩,by simp [Value.ownBlock]⟩,k1,by simp [aB]⟩
     | own id=>
      simp only[M.aU,Option.bind_eq_some_iff] at aG
      obtain⟨ob,aL,aG⟩:=aG
      cases ob with
      | deep t' e' d5 r hl=>
       cases hl with
       | some _=>simp at aG
       | none=>
        simp only at aG
        cases aI:Nat.beq t' t && aE e' el && fJ d5 its
        ·simp [aI] at aG
        ·simp only[aI,cond_true,M.aa,Option.some.injEq] at aG
         subst aG
         simp only[Bool.and_eq_true] at aI
         have ht:=Nat.eq_of_beq_eq_true aI.1.1
         have he:=aK _ _ aI.1.2
         have FI:=gi _ _ aI.2
         subst ht
         subst he
         subst FI
         simp only[ak] at h1
         obtain⟨vals,aT,g1,g2,g3,_⟩:=hc.ay id _ aL
         refine⟨?_,⟨⟨r,aL⟩,k2⟩⟩
         simp only[aS]
         refine⟨.deep t' d5,ts,r,q2.1,v,aO,v.ownBlock.toList++aT.flatten,q2.2.flatMap (aB β),rfl,rfl,rfl,⟨vals,aT,by rw[h1.1];exact g1,g2,rfl⟩,k1, ?_⟩
         simp only[List.flatMap_cons,aB,h1.1,g3]
      | box _ _=>simp at aG
      | d7 _ _=>simp at aG
      | row _ _ _ _ _=>simp at aG
     | _=>simp at aG
theorem mD (hc:Core w0 S f h β φ tm w) {k:AK} {ts:List TT} {s:SV} {v:Value} {q1:List DC×List MU} (h1:ak w (Av h β) β s v) (aG:(iw k ts s).val f h=some q1):
  (∃us:List Value,(bif k.agg then v= .agg us.toArray else (us=[v]∧v.oneCell'=true))∧(∀x∈us,x.oneCell'=true)∧aS w k.bB ts q1.1 us (q1.2.flatMap (aB β)))∧cS h q1.2:=by
 unfold iw at aG
 cases hk:k.agg with
 | true=>
  cases s with
  | agg cs=>
   simp only[hk] at aG
   simp only[ak] at h1
   obtain⟨us,rfl,gj,bg⟩:=h1
   obtain⟨r1,r2⟩:=cy hc k.bB ts cs us q1 gj aG
   exact⟨⟨us,rfl,bg,r1⟩,r2⟩
  | _=>simp [hk] at aG
 | false=>
  have lz:(aw k.bB ts [s]).val f h=some q1:=by
   cases s<;>simp only[hk] at aG<;>first | exact aG | (simp at aG)
  have ia:af w (Av h β) β [s] [v]:=by simp only[af];exact⟨v,[],rfl,h1,rfl⟩
  obtain⟨r1,r2⟩:=cy hc k.bB ts [s] [v] q1 ia lz
  have bg:v.oneCell'=true:=by
   cases EE:k.bB with
   | nil=>rw[EE] at r1;simp only[aS] at r1;simp at r1
   | cons c cs=>
    rw[EE] at r1
    cases c with
    | sl el=>
     simp only[aS] at r1
     obtain⟨t,d5,rows,aZ,v',aO,m1,gl,_,_,e0,h3,_⟩:=r1
     injection e0 with e0
     subst e0
     exact h3.one
    | int _=>simp only[aS] at r1;obtain⟨d,aZ,v',aO,_,e0,h3,_⟩:=r1;injection e0 with e0;subst e0;exact h3.one
    | bool=>simp only[aS] at r1;obtain⟨d,aZ,v',aO,_,e0,h3,_⟩:=r1;injection e0 with e0;subst e0;exact h3.one
    | str=>simp only[aS] at r1;obtain⟨d,aZ,v',aO,_,e0,h3,_⟩:=r1;injection e0 with e0;subst e0;exact h3.one
  exact⟨⟨[v],⟨rfl,bg⟩,by simpa using bg,r1⟩,r2⟩
theorem fe (hc:Core w0 S f h β φ tm w):∀(ks:List AK) (ms:List (Option MK)) (ss:List SV) (vs:List Value) (q:List DC×eW×List MU),af w (Av h β) β ss vs→(a9 ks ms ss).val f h=some q→
  ∃fp,cH w ks ms q.1 vs fp (q.2.2.flatMap (aB β))∧bS h q.2.1∧cS h q.2.2∧∀b∈fp,(¬Av h β b)∨∃x∈q.2.1,b∈eU h β x.1
 | [],ms,ss,vs,q,hs,hq=>by
  cases ms with
  | nil=>
   cases ss with
   | nil=>
    simp only[a9,M.aa,Option.some.injEq] at hq
    subst hq
    simp only[af] at hs
    exact⟨[],⟨rfl,rfl,hs,rfl,rfl⟩,by simp [bS],trivial,by simp⟩
   | cons s ss=>simp [a9] at hq
  | cons m ms=>simp [a9] at hq
 | k::ks,ms,ss,vs,q,hs,hq=>by
  cases ms with
  | nil=>simp [a9] at hq
  | cons m ms=>
   cases ss with
   | nil=>cases m with
    | none=>simp [a9] at hq
    | some m=>cases m<;>simp [a9] at hq
   | cons s ss=>
    simp only[af] at hs
    obtain⟨v,l,rfl,h1,h2⟩:=hs
    cases m with
    | none=>
     simp only[a9,M.ae,Option.bind_eq_some_iff,M.aa,Option.some.injEq] at hq
     obtain⟨q1,aG,q2,cx,rfl⟩:=hq
     obtain⟨gv,DG,Di,DM,iR⟩:=fe hc ks ms ss l q2 h2 cx
     have lz:(jv [k] [s]).val f h=some (q1.1++[],q1.2.1++[]):=by
      simp only[jv,M.ae,Option.bind_eq_some_iff,M.aa,Option.some.injEq]
      exact⟨q1,aG,([],[]),rfl,rfl⟩
     have ia:af w (Av h β) β [s] [v]:=by simp only[af];exact⟨v,[],rfl,h1,rfl⟩
     obtain⟨lI,Gw,F0,jE⟩:=lV hc [k] [s] [v] _ ia lz
     simp only[List.append_nil] at Gw F0 jE
     obtain⟨d1,d2,v',cK,f1,f2,e1,e2,Gw,⟨rfl,rfl,rfl⟩,rfl⟩:=Gw
     simp only[List.append_nil] at e1 jE
     simp only[List.cons.injEq,and_true] at e2
     subst e2
     subst e1
     refine⟨f1++gv,⟨none,ms,q1.1,q2.1,v,l,f1,gv,[],q2.2.2.flatMap (aB β),rfl,rfl,rfl,⟨Gw,rfl⟩,DG,rfl,rfl⟩,e_ F0 Di,DM, ?_⟩
     intro b hb
     rcases List.mem_append.1 hb with hb | hb
     ·rcases jE b hb with h3 | ⟨x,hx,h3⟩
      ·exact .inl h3
      ·exact .inr ⟨x,List.mem_append_left _ hx,h3⟩
     ·rcases iR b hb with h3 | ⟨x,hx,h3⟩
      ·exact .inl h3
      ·exact .inr ⟨x,List.mem_append_right _ hx,h3⟩
    | some m=>
     cases m with
     | box t=>
      cases s with
      | ptr id off=>
       cases off with
       | succ off=>simp [a9] at hq
       | zero=>
        simp only[a9,M.aU,Option.bind_eq_some_iff] at hq
        obtain⟨ob,aL,hq⟩:=hq
        cases ob with
        | box t' cells=>
         simp only at hq
         cases kx:Nat.beq t' t
         ·simp [kx] at hq
         ·have ky:=Nat.eq_of_beq_eq_true kx
          subst ky
          simp only[kx,cond_true,M.ae,Option.bind_eq_some_iff] at hq
          obtain⟨q1,aG,hq⟩:=hq
          cases FE:q1.2.1.isEmpty
          ·simp [FE] at hq
          ·simp only[FE,cond_true,M.ae,Option.bind_eq_some_iff,M.aa,Option.some.injEq] at hq
           obtain⟨q2,cx,rfl⟩:=hq
           obtain⟨gv,DG,Di,DM,iR⟩:=fe hc ks ms ss l q2 h2 cx
           obtain⟨us,g1,g2,g3,_⟩:=hc.ay id _ aL
           obtain⟨lI,hr,F0,jE,_⟩:=dY hc k.bB cells us q1 g2 aG
           have hl:=af.length _ _ g2
           have j_:=cE _ _ _ aG
           simp only[ak] at h1
           have KD:q1.2.1=[]:=List.isEmpty_iff.1 FE
           refine⟨lI++gv,⟨some (.box t'),ms,q1.1,q2.1,v,l,lI,gv,[β.cU id],q2.2.2.flatMap (aB β),rfl,rfl,rfl,⟨β.cU id,us,h1,g1,g3,hr,by omega,rfl⟩,DG,rfl,by simp [aB]⟩,Di,⟨⟨cells,aL⟩,DM⟩, ?_⟩
           intro b hb
           rcases List.mem_append.1 hb with hb | hb
           ·rcases jE b hb with h3 | ⟨x,hx,h3⟩
            ·exact .inl h3
            ·rw[KD] at hx
             simp at hx
           ·exact iR b hb
        | row _ _ _ _ _=>simp at hq
        | d7 _ _=>simp at hq
        | deep _ _ _ _ _=>simp at hq
      | _=>simp [a9] at hq
     | rows ts=>
      simp only[a9,M.ae,Option.bind_eq_some_iff,M.aa,Option.some.injEq] at hq
      obtain⟨q1,aG,q2,cx,rfl⟩:=hq
      obtain⟨gv,DG,Di,DM,iR⟩:=fe hc ks ms ss l q2 h2 cx
      obtain⟨⟨us,a1,a2,a3⟩,a4⟩:=mD hc h1 aG
      refine⟨gv,⟨some (.rows ts),ms,q1.1,q2.1,v,l,[],gv,q1.2.flatMap (aB β),q2.2.2.flatMap (aB β),rfl,rfl,rfl,⟨us,a1,a2,a3,rfl⟩,DG,rfl,by simp⟩,Di,a4.append DM,iR⟩
     | jC ts=>
      simp only[a9,M.ae,Option.bind_eq_some_iff] at hq
      obtain⟨q1,aG,hq⟩:=hq
      cases A1:bN q1.2
      ·simp [A1] at hq
      simp only[A1,cond_true,M.ae,Option.bind_eq_some_iff,M.aa,Option.some.injEq] at hq
      obtain⟨q2,cx,rfl⟩:=hq
      obtain⟨gv,DG,Di,DM,iR⟩:=fe hc ks ms ss l q2 h2 cx
      obtain⟨⟨us,a1,a2,a3⟩,a4⟩:=mD hc h1 aG
      obtain⟨g1,g2⟩:=jD (β:=β) A1 a4
      refine⟨gv,⟨some (.jC ts),ms,q1.1,q2.1,v,l,[],gv,q1.2.flatMap (aB β),q2.2.2.flatMap (aB β),rfl,rfl,rfl,⟨us,a1,a2,a3,rfl⟩,DG,rfl,by rw[List.flatMap_append,g1]⟩,Di,g2.append DM,iR⟩
     | cI t ts=>
      cases s with
      | ptr id off=>
       cases off with
       | succ off=>simp [a9] at hq
       | zero=>
        simp only[a9,M.aU,Option.bind_eq_some_iff] at hq
        obtain⟨ob,aL,hq⟩:=hq
        cases ob with
        | box t' cells=>
         simp only at hq
         cases kx:Nat.beq t' t
         ·simp [kx] at hq
         ·have ky:=Nat.eq_of_beq_eq_true kx
          subst ky
          simp only[kx,cond_true,M.ae,Option.bind_eq_some_iff] at hq
          obtain⟨q1,aG,hq⟩:=hq
          cases A1:bN q1.2
          ·simp [A1] at hq
          simp only[A1,cond_true,M.ae,Option.bind_eq_some_iff,M.aa,Option.some.injEq] at hq
          obtain⟨q2,cx,rfl⟩:=hq
          obtain⟨gv,DG,Di,DM,iR⟩:=fe hc ks ms ss l q2 h2 cx
          obtain⟨us,g1,g2,g3,_⟩:=hc.ay id _ aL
          obtain⟨r1,r2⟩:=cy hc k.bB ts cells us q1 g2 aG
          obtain⟨e1,e2⟩:=jD (β:=β) A1 r2
          simp only[ak] at h1
          refine⟨gv,⟨some (.cI t' ts),ms,q1.1,q2.1,v,l,[],gv,β.cU id::q1.2.flatMap (aB β),q2.2.2.flatMap (aB β),rfl,rfl,rfl,⟨β.cU id,us,_,h1,g1,g3,r1,rfl,rfl⟩,DG,rfl, ?_⟩,Di,⟨⟨cells,aL⟩,e2.append DM⟩,iR⟩
          simp only[List.flatMap_cons,List.flatMap_append,e1,aB,List.cons_append,List.nil_append]
        | row _ _ _ _ _=>simp at hq
        | d7 _ _=>simp at hq
        | deep _ _ _ _ _=>simp at hq
      | _=>simp [a9] at hq
end
end Go.Proofs.YtngbcccnjiaddaaGreat.Vm
set_option linter.unusedVariables false
set_option linter.unusedSimpArgs false
namespace Go.Proofs.YtngbcccnjiaddaaGreat.Vm
section
variable {P:Program} {Γ:Ctx} {w0:World} {S:Own} {st:St} {o:Oper} {e:cL} {a:Act} {w w':World}
variable {f:Nat→SV} {h:Nat→Option aj} {β:Env} {φ:Nat→List Nat} {tm:Array Value}
def br (d:Nat):Nat→List MU→List DC→List (Nat×aj)
 | _,[],_=>[]
 | k,.box id t cs::l,ds=>(id,.box t (cg cs ds 0))::br d k l (ds.drop cs.length)
 | k,.row id t e u::l,ds=>(id,.row t e (ds.headD default).cT false u)::br d k l ds.tail
 | k,.deep id t e ts::l,ds=>(id,.deep t e ts (ds.headD default).cT none)::br d k l ds.tail
 | k,.gone _ _::l,ds=>br d k l ds
 | k,.cI id t cs ts::l,ds=>(id,.box t (bh d k cs ts ds).1)::br d (k+aF cs) l (ds.drop cs.length)
 | k,.lM::l,ds=>br d k l ds.tail
theorem gC {d:Nat} :∀(k:Nat) (U:List MU) (ds:List DC),jk d k U ds=(br d k U ds).map fun x=>(x.1,some x.2)
 | _,[],_=>rfl
 | k,.box id t cs::l,ds=>by simp only[jk,br,List.map_cons,gC k l]
 | k,.row id t e u::l,ds=>by simp only[jk,br,List.map_cons,gC k l]
 | k,.deep id t e ts::l,ds=>by simp only[jk,br,List.map_cons,gC k l]
 | k,.gone id dp::l,ds=>by simp only[jk,br,gC k l]
 | k,.cI id t cs ts::l,ds=>by simp only[jk,br,List.map_cons,gC (k+aF cs) l]
 | k,.lM::l,ds=>by simp only[jk,br,gC k l]
def bZ:List MU→List Nat
 | []=>[]
 | .box id _ _::l=>id::bZ l
 | .row id _ _ _::l=>id::bZ l
 | .deep id _ _ _::l=>id::bZ l
 | .gone _ _::l=>bZ l
 | .cI id _ _ _::l=>id::bZ l
 | .lM::l=>bZ l
theorem gD {i:Nat} :∀(U:List MU),(i∈bn U↔i∈bZ U∨i∈cq U)
 | []=>by simp [bn,bZ,cq]
 | .box id _ _::l=>by simp only[bn,bZ,cq,List.mem_cons,gD l,or_assoc]
 | .row id _ _ _::l=>by simp only[bn,bZ,cq,List.mem_cons,gD l,or_assoc]
 | .deep id _ _ _::l=>by simp only[bn,bZ,cq,List.mem_cons,gD l,or_assoc]
 | .gone id _::l=>by
  simp only[bn,bZ,cq,List.mem_cons,gD l]
  constructor
  ·rintro (h | h | h)
   ·exact .inr (.inl h)
   ·exact .inl h
   ·exact .inr (.inr h)
  ·rintro (h | h | h)
   ·exact .inr (.inl h)
   ·exact .inl h
   ·exact .inr (.inr h)
 | .cI id _ _ _::l=>by simp only[bn,bZ,cq,List.mem_cons,gD l,or_assoc]
 | .lM::l=>by simp only[bn,bZ,cq,gD l]
theorem dB {d:Nat} :∀(k:Nat) (U:List MU) (ds:List DC),(br d k U ds).map (·.1)=bZ U
 | _,[],_=>rfl
 | k,.box id t cs::l,ds=>by simp only[br,bZ,List.map_cons,dB k l]
 | k,.row id t e u::l,ds=>by simp only[br,bZ,List.map_cons,dB k l]
 | k,.deep id t e ts::l,ds=>by simp only[br,bZ,List.map_cons,dB k l]
 | k,.gone id dp::l,ds=>by simp only[br,bZ,dB k l]
 | k,.cI id t cs ts::l,ds=>by simp only[br,bZ,List.map_cons,dB (k+aF cs) l]
 | k,.lM::l,ds=>by simp only[br,bZ,dB k l]
def dt:List MU→Nat
 | []=>0
 | .box _ _ cs::l=>cs.length+dt l
 | .row _ _ _ _::l=>1+dt l
 | .deep _ _ _ _::l=>1+dt l
 | .gone _ _::l=>dt l
 | .cI _ _ cs _::l=>cs.length+dt l
 | .lM::l=>1+dt l
theorem iI:∀(cs:List CT) (d1 d2:List DC) (k:Nat),k+cs.length≤d1.length→cg cs (d1++d2) k=cg cs d1 k
 | [],_,_,_,_=>rfl
 | c::cs,d1,d2,k,h=>by
  simp only[cg]
  simp only[List.length_cons] at h
  rw[iI cs d1 d2 (k+1) (by omega)]
  congr 2
  simp only[List.getD_eq_getElem?_getD]
  rw[List.getElem?_append_left (by omega)]
theorem jR {d:Nat} :∀(k:Nat) (cs:List CT) (ts:List TT) (d1 d2:List DC),cs.length≤d1.length→bh d k cs ts (d1++d2)=bh d k cs ts d1
 | _,[],_,_,_,_=>rfl
 | k,c::cs,ts,d1,d2,hl=>by
  cases d1 with
  | nil=>simp at hl
  | cons x d1=>
   have D3:cs.length≤d1.length:=by simpa using hl
   cases c<;>simp only[List.cons_append,bh,List.headD_cons,List.tail_cons]<;>rw[jR _ cs _ d1 d2 D3]
theorem eo {d:Nat} :∀(k:Nat) (U V:List MU) (d1 d2:List DC),dt U=d1.length→br d k (U++V) (d1++d2)=br d k U d1++br d (k+aR U) V d2∧dG d k (U++V) (d1++d2)=dG d k U d1++dG d (k+aR U) V d2
 | k,[],V,d1,d2,hl=>by
  have:d1=[]:=List.length_eq_zero_iff.1 hl.symm
  subst this
  exact⟨rfl,rfl⟩
 | k,.box id t cs::l,V,d1,d2,hl=>by
  simp only[dt] at hl
  obtain⟨h1,h2⟩:=eo (d:=d) k l V (d1.drop cs.length) d2 (by simp;omega)
  simp only[List.cons_append,br,dG,aR]
  rw[iI _ _ _ _ (by omega),List.drop_append_of_le_length (by omega),h1,h2]
  exact⟨rfl,rfl⟩
 | k,.row id t e u::l,V,d1,d2,hl=>by
  simp only[dt] at hl
  cases d1 with
  | nil=>simp at hl
  | cons x d1=>
   obtain⟨h1,h2⟩:=eo (d:=d) k l V d1 d2 (by simp at hl;omega)
   simp only[List.cons_append,br,dG,aR,List.headD_cons,List.tail_cons,h1,h2,and_self]
 | k,.deep id t e ts::l,V,d1,d2,hl=>by
  simp only[dt] at hl
  cases d1 with
  | nil=>simp at hl
  | cons x d1=>
   obtain⟨h1,h2⟩:=eo (d:=d) k l V d1 d2 (by simp at hl;omega)
   simp only[List.cons_append,br,dG,aR,List.headD_cons,List.tail_cons,h1,h2,and_self]
 | k,.gone id dp::l,V,d1,d2,hl=>by
  simp only[dt] at hl
  obtain⟨h1,h2⟩:=eo (d:=d) k l V d1 d2 hl
  simp only[List.cons_append,br,dG,aR,h1,h2,and_self]
 | k,.cI id t cs ts::l,V,d1,d2,hl=>by
  simp only[dt] at hl
  obtain⟨h1,h2⟩:=eo (d:=d) (k+aF cs) l V (d1.drop cs.length) d2 (by simp;omega)
  simp only[List.cons_append,br,dG,aR]
  rw[jR _ _ _ _ _ (by omega),List.drop_append_of_le_length (by omega),h1,h2,←Nat.add_assoc,List.append_assoc]
  exact⟨rfl,rfl⟩
 | k,.lM::l,V,d1,d2,hl=>by
  simp only[dt] at hl
  cases d1 with
  | nil=>simp at hl
  | cons x d1=>
   obtain⟨h1,h2⟩:=eo (d:=d) k l V d1 d2 (by simp at hl;omega)
   simp only[List.cons_append,br,dG,aR,List.tail_cons,h1,h2,and_self]
theorem jt:∀(cs:List CT) (r:List DC) (g:Nat→Option Value) (fp:List Nat),aq cs=true→a8 w cs r g fp→fp=[]
 | [],r,g,fp,_,h=>by simp only[a8] at h;exact h.2
 | c::cs,r,g,fp,hf,h=>by
  simp only[a8] at h
  obtain⟨d,r',v,f1,f2,rfl,_,h1,h2,rfl⟩:=h
  cases c with
  | sl e=>simp [aq] at hf
  | int k=>
   simp only[bV] at h1
   obtain⟨_,_,_,_,rfl⟩:=h1
   rw[jt cs r' _ f2 (by simpa [aq] using hf) h2]
   rfl
  | bool=>
   simp only[bV] at h1
   obtain⟨_,_,_,rfl⟩:=h1
   rw[jt cs r' _ f2 (by simpa [aq] using hf) h2]
   rfl
  | str=>
   simp only[bV] at h1
   obtain⟨_,_,_,_,rfl⟩:=h1
   rw[jt cs r' _ f2 (by simpa [aq] using hf) h2]
   rfl
theorem gP {e:List CT} {rows:List (List DC)} {vals:List Value} {az:List (List Nat)} (hf:aq e=true) (h:dK w e rows vals az):az.flatten=[]:=by
 rw[List.flatten_eq_nil_iff]
 intro l hl
 obtain⟨i,hi,rfl⟩:=List.getElem_of_mem hl
 have dQ:i<rows.length:=by have:=h.1;omega
 exact jt e _ _ _ hf (h.2 i rows[i] az[i] (by simp) (by simp))
theorem eH {d:Nat} :∀(k:Nat) (cs:List CT) (ts:List TT) (ds:List DC) (us:List Value) (mb:List Nat),aS w' cs ts ds us mb→
  ∃N:List ar,(bh d k cs ts ds).2=cR N∧N.map (·.id)=(List.range' k (aF cs)).map (ag d)∧(∀x∈N,x.ok w')∧N.flatMap ar.bC=mb∧ds.length=cs.length∧
   ∀(av:Nat→Prop) (β':Env),(∀x∈N,β'.val x.id=x.v)→af w' av β' (bh d k cs ts ds).1 us
 | k,[],ts,ds,us,mb,hm=>by
  simp only[aS] at hm
  obtain⟨rfl,rfl,rfl,rfl⟩:=hm
  exact⟨[],rfl,rfl,by simp,rfl,rfl,fun av β' _=>by simp [bh,af]⟩
 | k,.int x::cs,ts,ds,us,mb,hm=>by
  simp only[aS] at hm
  obtain⟨dd,aZ,v,aO,rfl,rfl,h1,hm⟩:=hm
  obtain⟨N,e1,e2,e3,e4,e5,e6⟩:=eH (d:=d) k cs ts aZ aO mb hm
  refine⟨N,by simpa only[bh,List.tail_cons] using e1,by simpa only[aF] using e2,e3,e4,by simp [e5],fun av β' hb=> ?_⟩
  simp only[bh,List.headD_cons,List.tail_cons,af]
  exact⟨v,aO,rfl,dy h1 (by simp),e6 av β' hb⟩
 | k,.bool::cs,ts,ds,us,mb,hm=>by
  simp only[aS] at hm
  obtain⟨dd,aZ,v,aO,rfl,rfl,h1,hm⟩:=hm
  obtain⟨N,e1,e2,e3,e4,e5,e6⟩:=eH (d:=d) k cs ts aZ aO mb hm
  refine⟨N,by simpa only[bh,List.tail_cons] using e1,by simpa only[aF] using e2,e3,e4,by simp [e5],fun av β' hb=> ?_⟩
  simp only[bh,List.headD_cons,List.tail_cons,af]
  exact⟨v,aO,rfl,dy h1 (by simp),e6 av β' hb⟩
 | k,.str::cs,ts,ds,us,mb,hm=>by
  simp only[aS] at hm
  obtain⟨dd,aZ,v,aO,rfl,rfl,h1,hm⟩:=hm
  obtain⟨N,e1,e2,e3,e4,e5,e6⟩:=eH (d:=d) k cs ts aZ aO mb hm
  refine⟨N,by simpa only[bh,List.tail_cons] using e1,by simpa only[aF] using e2,e3,e4,by simp [e5],fun av β' hb=> ?_⟩
  simp only[bh,List.headD_cons,List.tail_cons,af]
  exact⟨v,aO,rfl,dy h1 (by simp),e6 av β' hb⟩
 | k,.sl e::cs,ts,ds,us,mb,hm=>by
  simp only[aS] at hm
  obtain⟨t,d5,rows,aZ,v,aO,m1,gl,rfl,rfl,rfl,ED,hm,rfl⟩:=hm
  obtain⟨N,e1,e2,e3,e4,e5,e6⟩:=eH (d:=d) (k+1) cs d5 aZ aO gl hm
  have one:∃x:ar,x.id=ag d k∧x.obj=eJ t e rows∧x.v=v∧x.ok w'∧x.bC=m1:=by
   cases t with
   | flat t=>
    obtain⟨ew,vals,az,h1,h2,rfl⟩:=ED
    exact⟨⟨ag d k,t,e,rows,v,az,none⟩,rfl,rfl,rfl,⟨vals,h1,h2⟩,by simp only[ar.bC,gP ew h2,List.append_nil]⟩
   | deep t its=>
    obtain⟨vals,aT,h1,h2,rfl⟩:=ED
    exact⟨⟨ag d k,t,e,rows,v,aT,some its⟩,rfl,rfl,rfl,⟨vals,h1,h2⟩,rfl⟩
  obtain⟨x,x1,x2,x3,x4,x5⟩:=one
  refine⟨x::N, ?_, ?_, ?_, ?_,by simp [e5],fun av β' hb=> ?_⟩
  ·simp only[bh,List.headD_cons,List.tail_cons,cR,List.map_cons,x1,x2,DC.cT] at e1 ⊢
   rw[e1]
  ·simp only[List.map_cons,aF,List.range'_succ,e2,x1]
  ·intro y hy
   rcases List.mem_cons.1 hy with rfl | hy
   ·exact x4
   ·exact e3 y hy
  ·simp only[List.flatMap_cons,e4,x5]
  ·simp only[bh,List.headD_cons,List.tail_cons,af]
   refine⟨v,aO,rfl, ?_,e6 av β' (fun y hy=>hb y (List.mem_cons_of_mem _ hy))⟩
   simp only[ak]
   have:=hb x (List.mem_cons_self ..)
   rw[x1,x3] at this
   exact⟨this.symm,ED.one⟩
def Ea (h:Nat→Option aj) (β:Env) (w':World) (im:List Nat) (N:List ar) (x:fK):Prop:=
 (∃o,h x.id=some o)∧∀(av:Nat→Prop) (β':Env),β'.val x.id=β.val x.id→β'.cU x.id=β.cU x.id→β'.nb x.id=x.nb→(∀y∈N,β'.val y.id=y.v)→(∀b∈im,¬av b)→fU w' av β' x.id x.obj x.bC
def js (d k:Nat) (h:Nat→Option aj) (β:Env) (w':World) (im:List Nat) (U:List MU) (od:List DC) (mb:List Nat):Prop:=
 dt U=od.length∧∃(T:List fK) (N:List ar),T.map (fun x=>(x.id,x.obj))=br d k U od∧dG d k U od=cR N∧N.map (·.id)=(List.range' k (aR U)).map (ag d)∧(∀x∈N,x.ok w')∧
  (T.flatMap fK.bC++N.flatMap ar.bC).Perm mb∧∀x∈T,Ea h β w' im N x
theorem js.append {d k:Nat} {im:List Nat} {U V:List MU} {d1 d2:List DC} {m1 m2:List Nat} (h1:js d k h β w' im U d1 m1) (h2:js d (k+aR U) h β w' im V d2 m2):js d k h β w' im (U++V) (d1++d2) (m1++m2):=by
 obtain⟨l1,T1,N1,e1,f1,i1,o1,b1,g1⟩:=h1
 obtain⟨l2,T2,N2,e2,f2,i2,o2,b2,g2⟩:=h2
 have hlen:∀(U V:List MU),dt (U++V)=dt U+dt V∧aR (U++V)=aR U+aR V:=by
  intro U V
  induction U with
  | nil=>simp [dt,aR]
  | cons x l ih=>cases x<;>simp only[List.cons_append,dt,aR,ih.1,ih.2,Nat.add_assoc,and_self]
 obtain⟨a1,a2⟩:=eo (d:=d) k U V d1 d2 l1
 refine⟨by simp only[hlen,List.length_append,l1,l2],T1++T2,N1++N2,by rw[List.map_append,e1,e2,a1],by rw[a2,f1,f2];simp [cR], ?_,fun x hx=> ?_, ?_,fun x hx=> ?_⟩
 ·rw[List.map_append,i1,i2,(hlen U V).2,←List.map_append,List.range'_append_1]
 ·rcases List.mem_append.1 hx with hx | hx
  ·exact o1 x hx
  ·exact o2 x hx
 ·refine List.Perm.trans ?_ (b1.append b2)
  simp only[List.flatMap_append,List.append_assoc]
  refine List.Perm.append_left _ ?_
  rw[←List.append_assoc,←List.append_assoc]
  exact List.Perm.append_right _ List.perm_append_comm
 ·rcases List.mem_append.1 hx with hx | hx
  ·exact⟨(g1 x hx).1,fun av β' a b c dd e=>(g1 x hx).2 av β' a b c (fun y hy=>dd y (List.mem_append_left _ hy)) e⟩
  ·exact⟨(g2 x hx).1,fun av β' a b c dd e=>(g2 x hx).2 av β' a b c (fun y hy=>dd y (List.mem_append_right _ hy)) e⟩
theorem kn {d:Nat} (k:Nat) {im:List Nat} :∀(U:List MU),js d k h β w' im (cO U) [] []
 | []=>⟨rfl,[],[],rfl,rfl,rfl,by simp,List.Perm.refl _,by simp⟩
 | x::l=>by
  have ih:js d k h β w' im (cO l) [] []:=kn k l
  cases x<;>simp only[cO]<;>first
   | exact ih
   | (obtain⟨a,T,N,b,c,dd,e,f,g⟩:=ih;exact⟨a,T,N,b,c,dd,e,f,g⟩)
theorem gN.Fp {t:TT} {e:List CT} {rows:List (List DC)} {mb:List Nat} (h:gN w t e rows (.slice none 0 0) mb):mb=[]:=by
 cases t with
 | flat t=>
  obtain⟨_,_,_,_,_,rfl⟩:=h
  rfl
 | deep t its=>
  obtain⟨vals,aT,h1,h2,rfl⟩:=h
  rcases h1.2 with ⟨_,h0,_⟩ | ⟨g,cap,cur,hv,_⟩
  ·have:aT=[]:=List.length_eq_zero_iff.1 (by rw[h2.1,h0])
   subst this
   rfl
  ·cases hv
theorem gg (hc:Core w0 S f h β φ tm w) {d:Nat} {im:List Nat} :∀(k:Nat) (cs:List CT) (ts:List TT) (ss:List SV) (us:List Value) (q:List DC×List MU) (od:List DC) (mb:List Nat),af w (Av h β) β ss us→(aw cs ts ss).val f h=some q→i6 w' cs ts od us mb→
  js d k h β w' im q.2 od mb
 | k,[],ts,ss,us,q,od,mb,hs,hq,ho=>by
  cases ts with
  | nil=>
   cases ss with
   | nil=>
    simp only[aw,M.aa,Option.some.injEq] at hq
    subst hq
    simp only[i6] at ho
    rw[ho.1,ho.2.2]
    exact⟨rfl,[],[],rfl,rfl,rfl,by simp,List.Perm.refl _,by simp⟩
   | cons s ss=>simp [aw] at hq
  | cons t ts=>simp [aw] at hq
 | k,.int kk::cs,ts,ss,us,q,od,mb,hs,hq,ho=>by
  cases ss with
  | nil=>simp [aw] at hq
  | cons s ss=>
   simp only[af] at hs
   obtain⟨v,aO,rfl,h1,h2⟩:=hs
   simp only[aw,M.ae,Option.bind_eq_some_iff,M.aa,Option.some.injEq] at hq
   obtain⟨q1,aG,q2,cx,rfl⟩:=hq
   simp only[i6] at ho
   obtain⟨v',FM,e0,ho⟩:=ho
   simp only[List.cons.injEq] at e0
   obtain⟨rfl,rfl⟩:=e0
   exact gg (d:=d) hc k cs ts ss aO q2 od mb h2 cx ho
 | k,.bool::cs,ts,ss,us,q,od,mb,hs,hq,ho=>by
  cases ss with
  | nil=>simp [aw] at hq
  | cons s ss=>
   simp only[af] at hs
   obtain⟨v,aO,rfl,h1,h2⟩:=hs
   simp only[aw,M.ae,Option.bind_eq_some_iff,M.aa,Option.some.injEq] at hq
   obtain⟨q1,aG,q2,cx,rfl⟩:=hq
   simp only[i6] at ho
   obtain⟨v',FM,e0,ho⟩:=ho
   simp only[List.cons.injEq] at e0
   obtain⟨rfl,rfl⟩:=e0
   exact gg (d:=d) hc k cs ts ss aO q2 od mb h2 cx ho
 | k,.str::cs,ts,ss,us,q,od,mb,hs,hq,ho=>by
  cases ss with
  | nil=>simp [aw] at hq
  | cons s ss=>
   simp only[af] at hs
   obtain⟨v,aO,rfl,h1,h2⟩:=hs
   simp only[aw,M.ae,Option.bind_eq_some_iff,M.aa,Option.some.injEq] at hq
   obtain⟨q1,aG,q2,cx,rfl⟩:=hq
   simp only[i6] at ho
   obtain⟨v',FM,e0,ho⟩:=ho
   simp only[List.cons.injEq] at e0
   obtain⟨rfl,rfl⟩:=e0
   exact gg (d:=d) hc k cs ts ss aO q2 od mb h2 cx ho
 | k,.sl el::cs,ts,ss,us,q,od,mb,hs,hq,ho=>by
  cases ts with
  | nil=>simp [aw] at hq
  | cons t ts=>
   cases ss with
   | nil=>cases t<;>simp [aw] at hq
   | cons s ss=>
    simp only[af] at hs
    obtain⟨v,aO,rfl,h1,h2⟩:=hs
    simp only[i6] at ho
    obtain⟨t1,Gm,rows,LU,v1,FM,m1,gl,e1,rfl,e2,o1,o3,rfl⟩:=ho
    simp only[List.cons.injEq] at e1 e2
    obtain⟨rfl,rfl⟩:=e1
    obtain⟨rfl,rfl⟩:=e2
    have pack:∀(q1:DC×MU) (q2:List DC×List MU),js d k h β w' im [q1.2] [.sl rows] m1→(aw cs ts ss).val f h=some q2→js d k h β w' im (q1.2::q2.2) (.sl rows::LU) (m1++gl):=by
     intro q1 q2 k1 cx
     exact k1.append (gg (d:=d) hc _ cs ts ss aO q2 LU gl h2 cx o3)
    have none_:v= .slice none 0 0→js d k h β w' im [.lM] [.sl rows] m1:=by
     rintro rfl
     exact⟨rfl,[],[],rfl,rfl,rfl,by simp,by rw[o1.Fp];exact List.Perm.refl _,by simp⟩
    cases t with
    | flat t=>
     simp only[aw,M.ae,Option.bind_eq_some_iff,M.aa,Option.some.injEq] at hq
     obtain⟨q1,aG,q2,cx,rfl⟩:=hq
     refine pack q1 q2 ?_ cx
     cases s with
     | nil=>
      simp only at aG
      cases ew:aq el
      ·simp [ew] at aG
      ·simp only[ew,cond_true,M.aa,Option.some.injEq] at aG
       subst aG
       simp only[ak] at h1
       exact none_ h1
     | own id=>
      simp only[M.aU,Option.bind_eq_some_iff] at aG
      obtain⟨ob,aL,aG⟩:=aG
      cases ob with
      | row t' e' r fz u=>
       cases fz with
       | true=>simp at aG
       | false=>
        simp only at aG
        cases aI:Nat.beq t' t && aE e' el && aq el
        ·simp [aI] at aG
        ·simp only[aI,cond_true,M.aa,Option.some.injEq] at aG
         subst aG
         simp only[Bool.and_eq_true] at aI
         have ht:=Nat.eq_of_beq_eq_true aI.1.1
         have he:=aK _ _ aI.1.2
         subst ht
         subst he
         simp only[ak] at h1
         obtain⟨ew,vals,az,p1,p2,rfl⟩:=o1
         refine⟨rfl,[⟨id,.row t' e' rows false u,[],v.ownBlock.toList⟩],[],rfl,rfl,rfl,by simp,by simp,fun x hx=> ?_⟩
         rw[List.mem_singleton] at hx
         subst hx
         refine⟨⟨_,aL⟩,fun av β' hv hb hn _ kp=> ?_⟩
         simp only at hv hb hn ⊢
         refine⟨vals,az,by rw[hv,←h1.1];exact p1,p2,by rw[gP ew p2];simp, ?_⟩
         rw[hv,←h1.1,gP ew p2]
         cases u<;>simp
      | box _ _=>simp at aG
      | d7 _ _=>simp at aG
      | deep _ _ _ _ _=>simp at aG
     | _=>simp at aG
    | deep t its=>
     simp only[aw,M.ae,Option.bind_eq_some_iff,M.aa,Option.some.injEq] at hq
     obtain⟨q1,aG,q2,cx,rfl⟩:=hq
     refine pack q1 q2 ?_ cx
     cases s with
     | nil=>
      simp only[M.aa,Option.some.injEq] at aG
      subst aG
      simp only[ak] at h1
      exact none_ h1
     | own id=>
      simp only[M.aU,Option.bind_eq_some_iff] at aG
      obtain⟨ob,aL,aG⟩:=aG
      cases ob with
      | deep t' e' d5 r hl=>
       cases hl with
       | some _=>simp at aG
       | none=>
        simp only at aG
        cases aI:Nat.beq t' t && aE e' el && fJ d5 its
        ·simp [aI] at aG
        ·simp only[aI,cond_true,M.aa,Option.some.injEq] at aG
         subst aG
         simp only[Bool.and_eq_true] at aI
         have ht:=Nat.eq_of_beq_eq_true aI.1.1
         have he:=aK _ _ aI.1.2
         have FI:=gi _ _ aI.2
         subst ht
         subst he
         subst FI
         simp only[ak] at h1
         obtain⟨vals,aT,p1,p2,rfl⟩:=o1
         refine⟨rfl,[⟨id,.deep t' e' d5 rows none,aT.flatten,v.ownBlock.toList++aT.flatten⟩],[],rfl,rfl,rfl,by simp,by simp,fun x hx=> ?_⟩
         rw[List.mem_singleton] at hx
         subst hx
         refine⟨⟨_,aL⟩,fun av β' hv hb hn _ kp=> ?_⟩
         simp only at hv hb hn ⊢
         exact⟨vals,aT,by rw[hv,←h1.1];exact p1,p2,hn,by rw[hv,←h1.1]⟩
      | box _ _=>simp at aG
      | d7 _ _=>simp at aG
      | row _ _ _ _ _=>simp at aG
     | _=>simp at aG
theorem iH (hc:Core w0 S f h β φ tm w) {d:Nat} {H6:List Nat} :∀(k0:Nat) (ks:List AK) (ms:List (Option MK)) (ss:List SV) (vs:List Value) (q:List DC×eW×List MU) (od:List DC) (im mb:List Nat),af w (Av h β) β ss vs→(a9 ks ms ss).val f h=some q→lR w' ks ms od vs im mb→(∀b∈im,b∈H6)→
  js d k0 h β w' H6 q.2.2 od mb
 | k0,[],ms,ss,vs,q,od,im,mb,hs,hq,ho,_=>by
  cases ms with
  | nil=>
   cases ss with
   | nil=>
    simp only[a9,M.aa,Option.some.injEq] at hq
    subst hq
    simp only[lR] at ho
    rw[ho.1,ho.2.2.2]
    exact⟨rfl,[],[],rfl,rfl,rfl,by simp,List.Perm.refl _,by simp⟩
   | cons s ss=>simp [a9] at hq
  | cons m ms=>simp [a9] at hq
 | k0,k::ks,ms,ss,vs,q,od,im,mb,hs,hq,ho,kp=>by
  simp only[lR] at ho
  obtain⟨m,ms,d1,d2,v,l,i1,i2,b1,b2,rfl,rfl,rfl,o1,o2,rfl,rfl⟩:=ho
  cases ss with
  | nil=>cases m with
   | none=>simp [a9] at hq
   | some m=>cases m<;>simp [a9] at hq
  | cons s ss=>
   simp only[af] at hs
   obtain⟨v0,l0,e0,h1,h2⟩:=hs
   simp only[List.cons.injEq] at e0
   obtain⟨rfl,rfl⟩:=e0
   have AW:∀b∈i2,b∈H6:=fun b hb=>kp b (List.mem_append_right _ hb)
   cases m with
   | none=>
    simp only[a9,M.ae,Option.bind_eq_some_iff,M.aa,Option.some.injEq] at hq
    obtain⟨q1,aG,q2,cx,rfl⟩:=hq
    simp only[DA] at o1
    obtain⟨rfl,rfl,rfl⟩:=o1
    exact iH (d:=d) hc k0 ks ms ss l q2 d2 i2 b2 h2 cx o2 AW
   | some m=>
    cases m with
    | box t=>
     cases s with
     | ptr id off=>
      cases off with
      | succ off=>simp [a9] at hq
      | zero=>
       simp only[a9,M.aU,Option.bind_eq_some_iff] at hq
       obtain⟨ob,aL,hq⟩:=hq
       cases ob with
       | box t' cells=>
        simp only at hq
        cases kx:Nat.beq t' t
        ·simp [kx] at hq
        ·have ky:=Nat.eq_of_beq_eq_true kx
         subst ky
         simp only[kx,cond_true,M.ae,Option.bind_eq_some_iff] at hq
         obtain⟨q1,aG,hq⟩:=hq
         cases FE:q1.2.1.isEmpty
         ·simp [FE] at hq
         ·simp only[FE,cond_true,M.ae,Option.bind_eq_some_iff,M.aa,Option.some.injEq] at hq
          obtain⟨q2,cx,rfl⟩:=hq
          have k2:=iH (d:=d) hc (k0+aR [.box id t' k.bB]) ks ms ss l q2 d2 i2 b2 h2 cx o2 AW
          obtain⟨M5,g1,g2,g3,g4⟩:=hc.ay id _ aL
          simp only[DA] at o1
          obtain⟨g,us,ev,Lk,Ll,JX,M1,rfl⟩:=o1
          simp only[ak] at h1
          have eg:g=β.cU id:=by
           rw[h1] at ev
           simp only[Value.pointer.injEq,Option.some.injEq,Addr.mk.injEq,and_true] at ev
           exact ev.symm
          subst eg
          have Kf:d1.length=k.bB.length:=a8.length _ _ _ _ JX
          refine js.append (U:=[.box id t' k.bB]) ⟨by simp only[dt,Kf];omega,[⟨id,.box t' (cg k.bB d1 0),[],[β.cU id]⟩],[],rfl,rfl,rfl,by simp,by simp,fun x hx=> ?_⟩ k2
          rw[List.mem_singleton] at hx
          subst hx
          refine⟨⟨_,aL⟩,fun av β' hv hb hn _ IE=> ?_⟩
          simp only at hv hb hn ⊢
          obtain⟨cK,l1,l2,l3,l4⟩:=a8.bM (β:=β') (av:=av) JX (fun b hb=>IE b (kp b (List.mem_append_left _ hb))) k.bB.length 0 (by omega)
          have ee:cK=us:=by
           apply List.ext_getElem?
           intro j
           by_cases hj:j<cK.length
           ·have:=l2 j cK[j] (by simp)
            simp only[Nat.zero_add] at this
            rw[this]
            simp
           ·rw[List.getElem?_eq_none (by omega),List.getElem?_eq_none (by omega)]
          subst ee
          simp only[List.drop_zero,List.take_length] at l3
          exact⟨cK,by rw[hb];exact Lk,l3,Ll,by rw[hb]⟩
       | row _ _ _ _ _=>simp at hq
       | d7 _ _=>simp at hq
       | deep _ _ _ _ _=>simp at hq
     | _=>simp [a9] at hq
    | rows ts=>
     simp only[a9,M.ae,Option.bind_eq_some_iff,M.aa,Option.some.injEq] at hq
     obtain⟨q1,aG,q2,cx,rfl⟩:=hq
     have k2:=iH (d:=d) hc (k0+aR q1.2) ks ms ss l q2 d2 i2 b2 h2 cx o2 AW
     simp only[DA] at o1
     obtain⟨us,ev,o1,rfl⟩:=o1
     have one:js d k0 h β w' H6 q1.2 d1 b1:=by
      unfold iw at aG
      cases hk:k.agg with
      | true=>
       cases s with
       | agg cs=>
        simp only[hk] at aG
        simp only[ak] at h1
        obtain⟨aO,rfl,gj,bg⟩:=h1
        rw[hk] at ev
        simp only[cond_true,Value.agg.injEq] at ev
        have:aO=us:=by simpa using congrArg Array.toList ev
        subst this
        exact gg (d:=d) hc k0 k.bB ts cs aO q1 d1 b1 gj aG o1
       | _=>simp [hk] at aG
      | false=>
       have lz:(aw k.bB ts [s]).val f h=some q1:=by
        cases s<;>simp only[hk] at aG<;>first | exact aG | (simp at aG)
       rw[hk] at ev
       simp only[cond_false] at ev
       subst ev
       have ia:af w (Av h β) β [s] [v]:=by simp only[af];exact⟨v,[],rfl,h1,rfl⟩
       exact gg (d:=d) hc k0 k.bB ts [s] [v] q1 d1 b1 ia lz o1
     exact one.append k2
    | jC ts=>
     simp only[a9,M.ae,Option.bind_eq_some_iff] at hq
     obtain⟨q1,aG,hq⟩:=hq
     cases A1:bN q1.2
     ·simp [A1] at hq
     simp only[A1,cond_true,M.ae,Option.bind_eq_some_iff,M.aa,Option.some.injEq] at hq
     obtain⟨q2,cx,rfl⟩:=hq
     simp only[DA] at o1
     obtain⟨rfl,rfl,rfl⟩:=o1
     exact (kn k0 q1.2).append (iH (d:=d) hc _ ks ms ss l q2 d2 i2 b2 h2 cx o2 AW)
    | cI t ts=>
     cases s with
     | ptr id off=>
      cases off with
      | succ off=>simp [a9] at hq
      | zero=>
       simp only[a9,M.aU,Option.bind_eq_some_iff] at hq
       obtain⟨ob,aL,hq⟩:=hq
       cases ob with
       | box t' cells=>
        simp only at hq
        cases kx:Nat.beq t' t
        ·simp [kx] at hq
        ·have ky:=Nat.eq_of_beq_eq_true kx
         subst ky
         simp only[kx,cond_true,M.ae,Option.bind_eq_some_iff] at hq
         obtain⟨q1,aG,hq⟩:=hq
         cases A1:bN q1.2
         ·simp [A1] at hq
         simp only[A1,cond_true,M.ae,Option.bind_eq_some_iff,M.aa,Option.some.injEq] at hq
         obtain⟨q2,cx,rfl⟩:=hq
         simp only[DA] at o1
         obtain⟨g,us,mm,ev,Lk,Ll,JX,rfl,rfl⟩:=o1
         simp only[ak] at h1
         have eg:g=β.cU id:=by
          rw[h1] at ev
          simp only[Value.pointer.injEq,Option.some.injEq,Addr.mk.injEq,and_true] at ev
          exact ev.symm
         subst eg
         obtain⟨N,n1,n2,n3,n4,n5,n6⟩:=eH (d:=d) k0 k.bB ts d1 us mm JX
         have first:js d k0 h β w' H6 [.cI id t' k.bB ts] d1 (β.cU id::mm):=by
          refine⟨by simp only[dt,n5];omega,[⟨id,.box t' (bh d k0 k.bB ts d1).1,[],[β.cU id]⟩],N,rfl,by simp only[dG,List.append_nil,n1],by simpa only[aR,Nat.add_zero] using n2,n3,by simp [n4],fun x hx=> ?_⟩
          rw[List.mem_singleton] at hx
          subst hx
          refine⟨⟨_,aL⟩,fun av β' hv hb hn hN IE=> ?_⟩
          simp only at hv hb hn ⊢
          exact⟨us,by rw[hb];exact Lk,n6 av β' hN,Ll,by rw[hb]⟩
         have two:=(kn (d:=d) (h:=h) (β:=β) (w':=w') (im:=H6) (k0+aR [.cI id t' k.bB ts]) q1.2).append (iH (d:=d) hc _ ks ms ss l q2 d2 i2 b2 h2 cx o2 AW)
         exact first.append two
       | row _ _ _ _ _=>simp at hq
       | d7 _ _=>simp at hq
       | deep _ _ _ _ _=>simp at hq
     | _=>simp [a9] at hq
end
end Go.Proofs.YtngbcccnjiaddaaGreat.Vm
set_option linter.unusedVariables false
set_option linter.unusedSimpArgs false
namespace Go.Proofs.YtngbcccnjiaddaaGreat.Vm
section
variable {P:Program} {Γ:Ctx} {w0:World} {S:Own} {st:St} {o:Oper} {e:cL} {a:Act} {w w':World}
variable {f:Nat→SV} {h:Nat→Option aj} {β:Env} {φ:Nat→List Nat} {tm:Array Value}
theorem EA (T:List fK) (l:List (Nat×Option aj)) (j:Nat):fo (T.map (fun x=>(x.id,some x.obj))++l) h j=match mv T j with | some x=>some x.obj | none=>fo l h j:=by
 induction T with
 | nil=>rfl
 | cons y N ih=>
  simp only[List.map_cons,List.cons_append,fo,aA,mv]
  split
  ·rfl
  ·exact ih
theorem Ex (D:List Nat) (l:List (Nat×Option aj)) (j:Nat):fo (ja D++l) h j=if j∈D then none else fo l h j:=by
 induction D with
 | nil=>simp [ja]
 | cons y D ih=>
  simp only[ja,List.map_cons,List.cons_append,fo,aA,List.mem_cons] at ih ⊢
  by_cases hj:j=y
  ·simp [hj]
  ·rw[if_neg hj,ih]
   simp [hj]
theorem As {i:Nat} :∀ {m:eW},bP i m=true→∀x∈m,x.1≠i
 | [],_,x,hx=>by simp at hx
 | (k,y)::l,hm,x,hx=>by
  simp only[bP,Bool.and_eq_true,Bool.not_eq_true'] at hm
  rcases List.mem_cons.1 hx with rfl | hx
  ·exact Nat.ne_of_beq_eq_false hm.1
  ·exact As hm.2 x hx
theorem me {i:Nat} :∀ {m:eW},bP i m=true→fo (ai m) h i=h i
 | [],_=>rfl
 | (k,e',r,u)::l,hm=>by
  simp only[bP,Bool.and_eq_true,Bool.not_eq_true'] at hm
  simp only[ai,fo,aA]
  rw[if_neg (fun he=>Nat.ne_of_beq_eq_false hm.1 he.symm)]
  exact me hm.2
theorem dj:∀ {U:List MU},cS h U→∀b∈U.flatMap (aB β),∃id∈bn U,∃ob,h id=some ob∧b∈al β id ob
 | [],_,b,hb=>by simp at hb
 | .box id t cs::l,hm,b,hb=>by
  simp only[cS] at hm
  obtain⟨⟨cells,hc⟩,hm⟩:=hm
  rw[List.flatMap_cons,List.mem_append] at hb
  rcases hb with hb | hb
  ·exact⟨id,List.mem_cons_self ..,_,hc,hb⟩
  ·obtain⟨i,hi,ob,h1,h2⟩:=dj hm b hb
   exact⟨i,List.mem_cons_of_mem _ hi,ob,h1,h2⟩
 | .row id t e u::l,hm,b,hb=>by
  simp only[cS] at hm
  obtain⟨⟨_,rows,hc⟩,hm⟩:=hm
  rw[List.flatMap_cons,List.mem_append] at hb
  rcases hb with hb | hb
  ·exact⟨id,List.mem_cons_self ..,_,hc,hb⟩
  ·obtain⟨i,hi,ob,h1,h2⟩:=dj hm b hb
   exact⟨i,List.mem_cons_of_mem _ hi,ob,h1,h2⟩
 | .deep id t e ts::l,hm,b,hb=>by
  simp only[cS] at hm
  obtain⟨⟨rows,hc⟩,hm⟩:=hm
  rw[List.flatMap_cons,List.mem_append] at hb
  rcases hb with hb | hb
  ·exact⟨id,List.mem_cons_self ..,_,hc,hb⟩
  ·obtain⟨i,hi,ob,h1,h2⟩:=dj hm b hb
   exact⟨i,List.mem_cons_of_mem _ hi,ob,h1,h2⟩
 | .gone id dp::l,hm,b,hb=>by
  simp only[cS] at hm
  obtain⟨⟨o,ho,hg⟩,hm⟩:=hm
  rw[List.flatMap_cons,List.mem_append] at hb
  rcases hb with hb | hb
  ·exact⟨id,List.mem_cons_self ..,_,ho,by rw[hg.al];exact hb⟩
  ·obtain⟨i,hi,ob,h1,h2⟩:=dj hm b hb
   exact⟨i,List.mem_cons_of_mem _ hi,ob,h1,h2⟩
 | .cI id t cs ts::l,hm,b,hb=>by
  simp only[cS] at hm
  obtain⟨⟨cells,hc⟩,hm⟩:=hm
  rw[List.flatMap_cons,List.mem_append] at hb
  rcases hb with hb | hb
  ·exact⟨id,List.mem_cons_self ..,_,hc,hb⟩
  ·obtain⟨i,hi,ob,h1,h2⟩:=dj hm b hb
   exact⟨i,List.mem_cons_of_mem _ hi,ob,h1,h2⟩
 | .lM::l,hm,b,hb=>by
  rw[List.flatMap_cons] at hb
  exact dj (U:=l) hm b (by simpa [aB] using hb)
theorem cZ {i:Nat} {l:List Nat} (hn:cY (i::l)=true):i ∉ l∧cY l=true:=by
 simp only[cY,Bool.and_eq_true,Bool.not_eq_true',List.any_eq_false] at hn
 refine⟨fun hi=> ?_,hn.2⟩
 exact hn.1 i hi (Nat.beq_refl i)
theorem dS (hc:Core w0 S f h β φ tm w):∀ {U:List MU},cS h U→cY (bn U)=true→(U.flatMap (aB β)).Nodup
 | [],_,_=>by simp
 | .box id t cs::l,hm,hn=>by
  simp only[cS] at hm
  obtain⟨⟨cells,ho⟩,hm⟩:=hm
  obtain⟨h1,h2⟩:=cZ hn
  rw[List.flatMap_cons,List.nodup_append]
  refine⟨by simp [aB],dS hc hm h2, ?_⟩
  intro b hb b' ax EB
  subst EB
  obtain⟨i,hi,ob,d6,iF⟩:=dj (β:=β) hm b ax
  exact hc.sep id i _ ob (fun he=>h1 (he ▸ hi)) ho d6 b (ah (hc.ay _ _ ho) b hb) (ah (hc.ay _ _ d6) b iF)
 | .row id t e u::l,hm,hn=>by
  simp only[cS] at hm
  obtain⟨⟨_,rows,ho⟩,hm⟩:=hm
  obtain⟨h1,h2⟩:=cZ hn
  rw[List.flatMap_cons,List.nodup_append]
  refine⟨?_,dS hc hm h2, ?_⟩
  ·simp only[aB]
   cases (β.val id).ownBlock<;>simp
  ·intro b hb b' ax EB
   subst EB
   obtain⟨i,hi,ob,d6,iF⟩:=dj (β:=β) hm b ax
   exact hc.sep id i _ ob (fun he=>h1 (he ▸ hi)) ho d6 b (ah (hc.ay _ _ ho) b hb) (ah (hc.ay _ _ d6) b iF)
 | .deep id t e ts::l,hm,hn=>by
  simp only[cS] at hm
  obtain⟨⟨rows,ho⟩,hm⟩:=hm
  obtain⟨h1,h2⟩:=cZ hn
  rw[List.flatMap_cons,List.nodup_append]
  refine⟨?_,dS hc hm h2, ?_⟩
  ·obtain⟨vals,aT,_,_,g3,g4⟩:=hc.ay _ _ ho
   have:=(hc.fresh _ _ ho).1
   rw[g4] at this
   simpa only[aB,g3] using this
  ·intro b hb b' ax EB
   subst EB
   obtain⟨i,hi,ob,d6,iF⟩:=dj (β:=β) hm b ax
   exact hc.sep id i _ ob (fun he=>h1 (he ▸ hi)) ho d6 b (ah (hc.ay _ _ ho) b hb) (ah (hc.ay _ _ d6) b iF)
 | .gone id dp::l,hm,hn=>by
  simp only[cS] at hm
  obtain⟨⟨o,ho,hg⟩,hm⟩:=hm
  obtain⟨h1,h2⟩:=cZ hn
  rw[List.flatMap_cons,List.nodup_append]
  refine⟨?_,dS hc hm h2, ?_⟩
  ·rw[←hg.al]
   rcases hg with ⟨_,t,e,rows,u,_,rfl⟩ | ⟨_,t,e,ts,rows,rfl⟩
   ·simp only[al]
    cases (β.val id).ownBlock<;>simp
   ·obtain⟨vals,aT,_,_,g3,g4⟩:=hc.ay _ _ ho
    have:=(hc.fresh _ _ ho).1
    rw[g4] at this
    simpa only[al,g3] using this
  ·intro b hb b' ax EB
   subst EB
   rw[←hg.al] at hb
   obtain⟨i,hi,ob,d6,iF⟩:=dj (β:=β) hm b ax
   exact hc.sep id i _ ob (fun he=>h1 (he ▸ hi)) ho d6 b (ah (hc.ay _ _ ho) b hb) (ah (hc.ay _ _ d6) b iF)
 | .cI id t cs ts::l,hm,hn=>by
  simp only[cS] at hm
  obtain⟨⟨cells,ho⟩,hm⟩:=hm
  obtain⟨h1,h2⟩:=cZ hn
  rw[List.flatMap_cons,List.nodup_append]
  refine⟨by simp [aB],dS hc hm h2, ?_⟩
  intro b hb b' ax EB
  subst EB
  obtain⟨i,hi,ob,d6,iF⟩:=dj (β:=β) hm b ax
  exact hc.sep id i _ ob (fun he=>h1 (he ▸ hi)) ho d6 b (ah (hc.ay _ _ ho) b hb) (ah (hc.ay _ _ d6) b iF)
 | .lM::l,hm,hn=>by
  rw[List.flatMap_cons]
  simpa [aB] using dS hc (U:=l) hm hn
theorem ld {d:Nat} :∀(BZ:List RK) (k:Nat) (r1 r2:List DC),r1.length=cj BZ→bj d k BZ (r1++r2)=bj d k BZ r1
 | [],_,_,_,_=>rfl
 | r::rs,k,r1,r2,hl=>by
  simp only[cj] at hl
  simp only[bj]
  rw[List.take_append_of_le_length (by omega),List.drop_append_of_le_length (by omega),ld rs _ _ r2 (by simp;omega)]
end
end Go.Proofs.YtngbcccnjiaddaaGreat.Vm
set_option linter.unusedVariables false
set_option linter.unusedSimpArgs false
namespace Go.Proofs.YtngbcccnjiaddaaGreat.Vm
section
variable {P:Program} {Γ:Ctx} {w0:World} {S:Own} {st:St} {o:Oper} {e:cL} {a:Act} {w w':World}
variable {f:Nat→SV} {h:Nat→Option aj} {β:Env} {φ:Nat→List Nat} {tm:Array Value}
theorem B4 (eR:bF P Γ) {s:Sum} {g:Nat} (hs:Gb Γ g=some s) (eE:s.G2=false) (GM:s.pt=none) (JM:s.ms≠[]) (hR:Rel w0 S st a w) (hd:∀d,o.dst=some d→bd st.n d) (bW:∀d,o.dst=some d→e.ow≠[]→bJ st d)
  {l:List SV} {us:List Value} (Kh:∀fn,P.funcs[g]? =some fn→fn.body.isSome=true→(fn.name== "runtime.NumGoroutine")=false→(execOp a.eval o).run P w= .ok (.enter g us.toArray) w)
  (hl:∀β φ,Core w0 S st.get st.obj β φ a.tmps w→af w (Av st.obj β) β l us) (he:(AG s o.dst l).val st.get st.obj=some e) (aJ:e.ok=true):Good P w0 S st o e a w:=by
 have hH:Cm P g s:=by
  have h0:=eR g s hs
  unfold gO at h0
  rw[eE,cond_false,GM] at h0
  simp only at h0
  split at h0
  ·rename_i hm
   exact absurd hm JM
  ·exact h0
 unfold AG at he
 cases aI:Nat.blt (ba s.rs) 64 && !(shares s) && (o.dst.isSome || s.rs.isEmpty)
 ·simp [aI] at he
 simp only[aI,cond_true,M.ae,Option.bind_eq_some_iff] at he
 obtain⟨r,hr,he⟩:=he
 cases JE:aM r.2.1 && cY (bn r.2.2) && (bn r.2.2).all (fun i=>bP i r.2.1) && (Nat.blt (ba s.rs+aR r.2.2) 64 && (o.dst.isSome || Nat.beq (aR r.2.2) 0))
 ·simp [JE] at he
 simp only[JE,cond_true,M.aa,Option.some.injEq] at he
 subst he
 simp only[Bool.and_eq_true,Bool.not_eq_true',List.all_eq_true] at aI JE
 obtain⟨⟨L3,A2⟩,mT⟩:=aI
 obtain⟨⟨⟨Bq,Jd⟩,LH⟩,Ha,Hj⟩:=JE
 have Ha:ba s.rs+aR r.2.2<64:=Nat.le_of_ble_eq_true Ha
 obtain⟨⟨fn,hf,hb,hn⟩,Cu⟩:=hH
 obtain⟨β,φ,hc⟩:=hR.core
 obtain⟨fp,cv,kt,Cj,lx⟩:=fe hc s.ps s.ms l _ r (hl β φ hc) hr
 have KB:=dS hc Cj Jd
 have KA:∀b∈r.2.2.flatMap (aB β),b ∉ fp:=by
  intro b hb Ma
  obtain⟨id,dR,ob,aL,jG⟩:=dj (β:=β) Cj b hb
  rcases lx b Ma with h3 | ⟨x,hx,ko⟩
  ·exact h3 (.inl ⟨id,ob,aL,jG⟩)
  ·obtain⟨_,Ck,_⟩:=kt x hx
   rw[fg Ck] at ko
   have cJ:x.1≠id:=As (LH id dR) x hx
   exact hc.sep x.1 id _ ob cJ Ck aL b (ah (hc.ay _ _ Ck) b ko) (ah (hc.ay _ _ aL) b jG)
 intro Q
 unfold Oper.wp
 rw[Kh fn hf hb hn,Oper.upon_enter]
 refine (Cu w r.1 _ fp _ cv KB KA aJ).mono ?_
 rintro _ w' ⟨vs,JY,im,tp,mL,rd,od,ψ,rfl,JH,ka,hk,A0,hnd,mK,I3,Lh,JV,AW⟩
 have Kr:im=[]:=fh.jS _ _ _ _ _ _ (by simpa [shares] using A2) A0
 have Gz:(s.fn r.1).2.drop (cj s.rs)=od:=by rw[JH,←ka,List.drop_left]
 have I_:bj (o.dst.getD 0) 0 s.rs (s.fn r.1).2=bj (o.dst.getD 0) 0 s.rs rd:=by rw[JH,ld _ _ _ _ ka]
 obtain⟨N1,n1,n2,n3,n4,n5,n6⟩:=jo (d:=o.dst.getD 0) s.rs 0 _ vs JY im tp A0
 obtain⟨_,T,N2,hT,Ls,q2,q3,J9,BH⟩:=iH (d:=o.dst.getD 0) (w':=w') hc (ba s.rs) s.ps s.ms l _ r od mL ψ (hl β φ hc) hr I3 (fun b hb=>hb)
 obtain⟨N,hN⟩:∃N,N=N1++N2:=⟨_,rfl⟩
 have J8:N.flatMap ar.bC=JY++N2.flatMap ar.bC:=by rw[hN,List.flatMap_append,n4]
 have Hb:N.map (·.id)=(List.range' 0 (ba s.rs+aR r.2.2)).map (ag (o.dst.getD 0)):=by
  have h0:List.range' 0 (ba s.rs)++List.range' (ba s.rs) (aR r.2.2)=List.range' 0 (ba s.rs+aR r.2.2):=by
   have:=List.range'_append_1 (s:=0) (m:=ba s.rs) (n:=aR r.2.2)
   rwa [Nat.zero_add] at this
  rw[hN,List.map_append,n2,q2,←List.map_append,h0]
 have Lt:T.map fK.id=bZ r.2.2:=by
  rw[←dB (d:=o.dst.getD 0) (ba s.rs) r.2.2 od,←hT,List.map_map]
  rfl
 have Jk:∀b∈T.flatMap fK.bC,b∈ψ:=fun b hb=>J9.subset (List.mem_append_left _ hb)
 have F_:∀b∈N2.flatMap ar.bC,b∈ψ:=fun b hb=>J9.subset (List.mem_append_right _ hb)
 have JC:=J9.symm.nodup Lh
 rw[List.nodup_append] at JC
 obtain⟨M',Gv⟩:∃M':eW,M'=bif eV s.ms then [] else r.2.1:=⟨_,rfl⟩
 have hM:bS st.obj M'∧aM M'=true∧∀id∈bn r.2.2,bP id M'=true:=by
  cases jr:eV s.ms with
  | true=>rw[Gv,jr];exact⟨by simp [bS],rfl,fun _ _=>rfl⟩
  | false=>rw[Gv,jr];exact⟨kt,Bq,LH⟩
 have hfz:(bif eV s.ms then [] else ai r.2.1)=ai M':=by rw[Gv];cases eV s.ms<;>rfl
 have jH:=hc.gw M' hM.1 hM.2.1
 have Jc:=hM.2.2
 have Kw:∀i∈bZ r.2.2,i∈bn r.2.2:=fun i hi=>(gD r.2.2).2 (.inl hi)
 have Me:∀i∈cq r.2.2,i∈bn r.2.2:=fun i hi=>(gD r.2.2).2 (.inr hi)
 have Ij:N≠[]→∃d,o.dst=some d:=by
  intro cJ
  cases aQ:o.dst with
  | some d=>exact⟨d,rfl⟩
  | none=>
   rw[aQ] at mT Hj
   simp only[Option.isSome_none,Bool.false_or] at mT Hj
   have KZ:s.rs=[]:=List.isEmpty_iff.1 mT
   have h0:=Nat.eq_of_beq_eq_true Hj
   have:=Hb
   rw[KZ,h0] at this
   simp only[ba,Nat.add_zero,List.range'_zero,List.map_nil,List.map_eq_nil_iff] at this
   exact absurd this cJ
 have Cy:∀x∈N,x.id / 64=o.dst.getD 0∧x.id∈N.map (·.id):=by
  intro x hx
  have hm:x.id∈N.map (·.id):=List.mem_map_of_mem hx
  refine⟨?_,hm⟩
  rw[Hb] at hm
  obtain⟨j,hj,f_⟩:=List.mem_map.1 hm
  rw[←f_]
  have:=List.mem_range'_1.1 hj
  exact cM _ j (by omega)
 have mV:(N.map (·.id)).Nodup:=by
  rw[Hb]
  refine List.Pairwise.map _ ?_ (List.nodup_range' ..)
  intro x y Ao e
  unfold ag at e
  omega
 have hle:=hR.kept.size
 have Ik:∀x∈T,x.id∈bn r.2.2:=by
  intro x hx
  refine Kw _ ?_
  rw[←Lt]
  exact List.mem_map_of_mem hx
 have hval:∀x∈N,(β.b_ N T).val x.id=x.v:=by
  intro x hx
  simp [Env.b_,mu hx mV]
 have GP:∀(β':Env),(∀x∈N,β'.val x.id=x.v)→∀x∈N2,β'.val x.id=x.v:=fun β' hb x hx=>hb x (by rw[hN];exact List.mem_append_right _ hx)
 let h':Nat→Option aj:=ln N T (cq r.2.2) (fo (ai M') st.obj)
 have EL:∀b∈mL,¬Av h' (β.b_ N T) b:=by
  intro b hb
  have EJ:=AW b hb
  have L6:M'=r.2.1:=by rw[Gv,EJ.2.2.2];rfl
  rintro (⟨j,oj,hj,bo⟩ | eY)
  case inr=>
   have Md:=(jH.gH b eY).1
   rcases EJ.1 with Cw | mQ
   ·rcases lx b Cw with h3 | ⟨x,hx,ko⟩
    ·exact h3 (.inr eY)
    ·exact dC hc kt hx ko (.inr eY)
   ·omega
  cases jJ:fB N j with
  | some x=>
   simp only[h',ln,jJ,Option.some.injEq] at hj
   subst hj
   obtain⟨hx,rfl⟩:=bc jJ
   rw[x.iQ (by simp [Env.b_,jJ]) (by simp [Env.b_,jJ])] at bo
   rw[hN] at hx
   rcases List.mem_append.1 hx with hx | hx
   ·refine EJ.2.1 ?_
    rw[←n5]
    exact List.mem_flatMap.2 ⟨x,hx,bo⟩
   ·exact EJ.2.2.1 (F_ b (List.mem_flatMap.2 ⟨x,hx,x.ah b bo⟩))
  | none=>
   simp only[h',ln,jJ] at hj
   cases hu:mv T j with
   | some x=>
    simp only[hu,Option.some.injEq] at hj
    subst hj
    obtain⟨LL,rfl⟩:=db hu
    have h1:b∈x.bC:=by
     have hE:=(BH x LL).2 (fun _=>False) (β.b_ N T) (by simp [Env.b_,jJ]) rfl (by simp [Env.b_,jJ,hu]) (GP _ hval) (fun _ _ h=>h)
     exact ah hE b bo
    exact EJ.2.2.1 (Jk b (List.mem_flatMap.2 ⟨x,LL,h1⟩))
   | none=>
    simp only[hu] at hj
    split at hj
    ·cases hj
    have mR:b∈al β j oj:=by
     cases oj<;>simp only[al,Env.b_,jJ,hu] at bo ⊢ <;>exact bo
    have Ka:=((jH.fresh j oj hj).2 b (ah (jH.ay j oj hj) b mR)).2
    rcases EJ.1 with Cw | mQ
    ·rcases lx b Cw with h3 | ⟨x,hx,ko⟩
     ·exact h3 (fX (.inl ⟨j,oj,hj,mR⟩))
     ·exact dC hc hM.1 (by rw[L6];exact hx) ko (.inl ⟨j,oj,hj,mR⟩)
    ·omega
 have Kc:=jH.J2 (N:=N) (U:=T) (D:=cq r.2.2) (im:=mL) (mb:=r.2.2.flatMap (aB β)) hk.size hle ?_ ?_ ?_ ?_ JC.1 ?_ EL mV ?_ ?_ ?_ ?_
 ·have eQ:=n6 (Av h' (β.b_ N T)) (β.b_ N T) (fun x hx=>hval x (by rw[hN];exact List.mem_append_left _ hx)) (by rw[Kr];simp)
  have Cz:Kept S w0 w':=by
   refine⟨hk.os.trans hR.kept.os,hk.tape.trans hR.kept.tape,hk.output.trans hR.kept.output,by have:=hk.size;omega,fun k h1 h2=> ?_⟩
   refine (hk.block k (by omega) (fun FX=> ?_)).trans (hR.kept.block k h1 h2)
   obtain⟨id,dR,ob,aL,jG⟩:=dj (β:=β) Cj k FX
   rcases ((hc.fresh id ob aL).2 k (ah (hc.ay _ _ aL) k jG)).1 with h3 | h3
   ·omega
   ·exact h2 h3
  have JI:fo ((bj (o.dst.getD 0) 0 s.rs (s.fn r.1).2).2++(dG (o.dst.getD 0) (ba s.rs) r.2.2 ((s.fn r.1).2.drop (cj s.rs))++
    (jk (o.dst.getD 0) (ba s.rs) r.2.2 ((s.fn r.1).2.drop (cj s.rs))++(ja (cq r.2.2)++(bif eV s.ms then [] else ai r.2.1))))) (fc none st.obj)=h':=by
   funext j
   have:((br (o.dst.getD 0) (ba s.rs) r.2.2 od).map fun x=>(x.1,some x.2))=T.map fun x=>(x.id,some x.obj):=by
    rw[←hT,List.map_map]
    rfl
   have A1:cR N1++(cR N2++(T.map (fun x=>(x.id,some x.obj))++(ja (cq r.2.2)++ai M')))=cR N++(T.map (fun x=>(x.id,some x.obj))++(ja (cq r.2.2)++ai M')):=by
    rw[hN]
    simp only[cR,List.map_append,List.append_assoc]
   rw[hfz,I_,Gz,n1,gC,this,Ls,A1,AQ,EA,Ex]
   rfl
  refine⟨pack vs,rfl,iL hR hd Cz ⟨β.b_ N T,gQ N T (bm φ M'), ?_, ?_⟩⟩
  ·show Core w0 S st.get (fo (_++(_++(_++(_++_)))) (fc none st.obj)) _ _ _ _
   rw[JI]
   exact Kc
  ·show ak w' (Av (fo (_++(_++(_++(_++_)))) (fc none st.obj)) (β.b_ N T)) (β.b_ N T) (iu (bj (o.dst.getD 0) 0 s.rs (s.fn r.1).2).1) (pack vs)
   rw[JI,I_]
   generalize (bj (o.dst.getD 0) 0 s.rs rd).1=q at eQ
   match q,vs,eQ with
   | [],vs,eQ=>
    simp only[af] at eQ
    subst eQ
    simp only[iu,pack,ak]
    exact⟨[],rfl,by simp [af]⟩
   | [x],vs,eQ=>
    simp only[af] at eQ
    obtain⟨v,l',rfl,h1,rfl⟩:=eQ
    exact h1
   | x::y::q,vs,eQ=>
    have E2:=eQ
    simp only[af] at eQ
    obtain⟨v,l',rfl,h1,v2,l2,rfl,h2,h3⟩:=eQ
    simp only[iu,pack]
    unfold ak
    exact⟨v::v2::l2,rfl,E2⟩
 ·intro b hb
  obtain⟨id,dR,ob,aL,jG⟩:=dj (β:=β) Cj b hb
  refine⟨id, ?_,ob,by rw[me (Jc _ dR)];exact aL,jG⟩
  rcases (gD r.2.2).1 dR with h3 | h3
  ·rw[←Lt] at h3
   obtain⟨x,hx,rfl⟩:=List.mem_map.1 h3
   exact .inl ⟨x,hx,rfl⟩
  ·exact .inr h3
 ·exact fun b hb jr=>hk.block b hb jr
 ·intro x hx
  obtain⟨⟨ob,h1⟩,_⟩:=BH x hx
  exact⟨ob,by rw[me (Jc _ (Ik x hx))];exact h1⟩
 ·exact fun x hx av β' a b c dd e=>(BH x hx).2 av β' a b c (GP β' dd) e
 ·intro b hb
  obtain⟨p1,p2,p3⟩:=JV b (Jk b hb)
  refine⟨p1,p2,fun Hd=> ?_⟩
  rw[J8] at Hd
  rcases List.mem_append.1 Hd with h3 | h3
  ·exact p3 h3
  ·exact JC.2.2 b hb b h3 rfl
 ·intro x hx
  have h1:=(Cy x hx).1
  obtain⟨d,aQ⟩:=Ij (fun h0=>by rw[h0] at hx;simp at hx)
  have bW:=bW d aQ (by
   show (bj (o.dst.getD 0) 0 s.rs (s.fn r.1).2).2++(dG (o.dst.getD 0) (ba s.rs) r.2.2 ((s.fn r.1).2.drop (cj s.rs))++_)≠[]
   rw[I_,n1,Gz,Ls]
   intro h0
   rw[List.append_eq_nil_iff] at h0
   have a1:N1=[]:=by simpa [cR] using h0.1
   have h1:=(List.append_eq_nil_iff.1 h0.2).1
   have a2:N2=[]:=by simpa [cR] using h1
   rw[hN,a1,a2] at hx
   simp at hx)
  rw[aQ] at h1
  simp only[Option.getD_some] at h1
  refine⟨?_,fun i hi=>bW.slot i _ hi h1,fun k ok Cz hi=> ?_⟩
  ·cases hn:fo (ai M') st.obj x.id with
   | none=>rfl
   | some ob=>
    rcases dA hn with h2 | ⟨e',r',rfl,y,hy,h2⟩
    ·exact absurd h1 (bW.obj _ ob h2).1
    ·obtain⟨_,h3,_⟩:=hM.1 y hy
     rw[h2] at h3
     exact absurd h1 (bW.obj _ _ h3).1
  ·rcases dA Cz with h2 | ⟨e',r',rfl,_⟩
   ·exact (bW.obj k ok h2).2 _ hi h1
   ·simp [cD] at hi
 ·intro x hx
  rw[hN] at hx
  rcases List.mem_append.1 hx with hx | hx
  ·exact n3 x hx
  ·exact q3 x hx
 ·rw[J8,List.nodup_append]
  exact⟨hnd,JC.2.1,fun b hb b' ax EB=>(JV b' (F_ b' ax)).2.2 (EB ▸ hb)⟩
 ·intro b hb
  rw[J8] at hb
  rcases List.mem_append.1 hb with hb | hb
  ·exact mK b hb
  ·exact⟨(JV b (F_ b hb)).1,(JV b (F_ b hb)).2.1⟩
end
end Go.Proofs.YtngbcccnjiaddaaGreat.Vm
set_option linter.unusedVariables false
set_option linter.unusedSimpArgs false
namespace Go.Proofs.YtngbcccnjiaddaaGreat.Vm
section
variable {P:Program} {Γ:Ctx} {w0:World} {S:Own} {st:St} {o:Oper} {e:cL} {a:Act} {w w':World}
variable {f:Nat→SV} {h:Nat→Option aj} {β:Env} {φ:Nat→List Nat} {tm:Array Value}
theorem a8.all {av:Nat→Prop} {cs:List CT} {r:List DC} {us:List Value} {fp:List Nat} (hr:a8 w cs r (fun j=>us[j]?) fp) (hl:us.length=cs.length) (ha:∀b∈fp,¬av b):af w av β (cg cs r 0) us:=by
 obtain⟨vs,l1,l2,l3,l4⟩:=a8.bM (β:=β) hr ha cs.length 0 (by omega)
 have e:vs=us:=by
  apply List.ext_getElem?
  intro j
  by_cases hj:j<vs.length
  ·have:=l2 j vs[j] (by simp)
   simp only[Nat.zero_add] at this
   rw[this]
   simp
  ·rw[List.getElem?_eq_none (by omega),List.getElem?_eq_none (by omega)]
 subst e
 simpa only[List.drop_zero,List.take_length] using l3
end
end Go.Proofs.YtngbcccnjiaddaaGreat.Vm
