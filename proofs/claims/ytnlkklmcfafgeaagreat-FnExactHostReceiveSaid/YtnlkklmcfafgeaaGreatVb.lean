/- The value machine: slices, structs, new objects, appending, contracts. Conditions: as each lemma says. -/
import Derived.Test.YtnlkklmcfafgeaaGreatVa
import Derived.Laws.Tables
import Derived.Great.BuildSlice
import Derived.Laws.CopyRow
namespace Go.Proofs.YtnlkklmcfafgeaaGreat.Vm
theorem CW {w:World} {e:List CT} {r:List (List DC)} {q:Option Addr} {n c:Nat} {fp:List Nat} (h:cd w (.sl e) (.sl r) (.slice q n c) fp) {l m:Nat} (hl:l≤m) (hm:m≤r.length):
  ∃BD,cd w (.sl e) (.sl ((r.take m).drop l)) (.slice (if c=l then q else q.map (·.add (l*e.length))) (m - l) (c - l)) BD∧∀b∈BD,b∈fp:=by
 obtain⟨q',n',c',hv,hn,hc,JR,iY⟩:=dk h
 injection hv with h1 h2 h3
 subst h1 h2 h3
 have hlen:((r.take m).drop l).length=m - l:=by simp;omega
 rcases Nat.eq_zero_or_pos (m - l) with h0 | h0
 ·exact⟨[],j6 hlen (by omega) (by omega) (.inl ⟨h0,rfl⟩),by simp⟩
 ·rcases iY with ⟨MX,_⟩ | ⟨_,b,o,aE,rfl,cz,eF,rfl,eP⟩
  ·omega
  ·rw[if_neg (by omega)]
   refine⟨b::((aE.take m).drop l).flatten,j6 hlen (by omega) (by omega) (.inr ⟨h0,b,o+l*e.length,(aE.take m).drop l, ?_,cz,by simp;omega,rfl,fun i r' f hi hf=> ?_⟩), ?_⟩
   ·simp [dw]
   ·have dY:r[l+i]? =some r':=by
     rw[List.getElem?_drop,List.getElem?_take] at hi
     split at hi
     ·exact hi
     ·cases hi
    have Bo:aE[l+i]? =some f:=by
     rw[List.getElem?_drop,List.getElem?_take] at hf
     split at hf
     ·exact hf
     ·cases hf
    have:=eP (l+i) r' f dY Bo
    have e1:∀j,o+((l+i)*e.length+j)=o+l*e.length+(i*e.length+j):=by intro j;rw[Nat.add_mul];omega
    simpa only[e1] using this
   ·intro x hx
    rcases List.mem_cons.1 hx with rfl | hx
    ·simp
    ·obtain⟨f,hf,hx⟩:=List.mem_flatten.1 hx
     exact List.mem_cons_of_mem _ (List.mem_flatten.2 ⟨f,List.mem_of_mem_take (List.mem_of_mem_drop hf),hx⟩)
section
variable {P:Program} {Γ:Ctx} {w0:World} {S:Own} {st:St} {o:Oper} {e:cS} {a:Act} {w:World}
theorem Core.freeze {f:Nat→SV} {h:Nat→Option ao} {β:Env} {φ:Nat→List Nat} {tm:Array Value} (hc:Core w0 S f h β φ tm w) {id:Nat} {LY:ao} {ct:List CT} {r:List (List DC)} {u:Bool}
  (dZ:h id=some LY) (KU:AG LY ct r u):Core w0 S f (aD h id (some (.ef ct r))) β (aD φ id []) tm w:=by
 have cX:∀b,Av (aD h id (some (.ef ct r))) β b→Av h β b:=by
  rintro b (⟨i,ob,hi,hb⟩ | hb)
  case inr=>exact .inr hb
  by_cases ly:i=id
  ·subst ly
   simp only[aD,if_true,aa] at hi
   subst hi
   simp [ar] at hb
  ·simp only[aD,ly,if_false] at hi
   exact .inl ⟨i,ob,hi,hb⟩
 have hY:=hc.aC id _ dZ
 refine hc.step (fun _=>False) (Nat.le_refl _) (fun _ _ _=>rfl) (fun b hb=> .inl (cX b hb)) (fun _ _ _ h=>h) (fun _ _=>⟨rfl,rfl⟩) ?_ ?_
 ·intro i ob hi
  by_cases ly:i=id
  ·subst ly
   simp only[aD,if_true,aa] at hi
   subst hi
   refine .inr ⟨⟨?_,by simp [aD]⟩,by simp [aD],by simp [aD]⟩
   obtain⟨fp,h1,h2,_⟩:=Ax hY KU
   simp only[aq]
   refine⟨fp,h1,fun b hb hx=> ?_⟩
   rcases h2 b hb with bd | hn
   ·rcases hx with ⟨j,Fu,hj,bz⟩ | hx
    case inr=>exact hc.Ba dZ (ak hY b bd) hx
    have cQ:j≠i:=by
     rintro rfl
     simp only[aD,if_true,aa] at hj
     subst hj
     simp [ar] at bz
    simp only[aD,cQ,if_false] at hj
    exact hc.sep i j _ _ (Ne.symm cQ) dZ hj b (ak hY b bd) (ak (hc.aC j _ hj) b bz)
   ·exact hn (cX b hx)
  ·simp only[aD,ly,if_false] at hi
   exact .inl ⟨fun h=>h,hi,by simp [aD,ly],fun _ _ h=>h,fun _ _=>rfl⟩
 ·intro i j oi oj cQ hi hj b hb
  by_cases ly:i=id
  ·subst ly;simp [aD] at hb
  ·by_cases cn:j=id
   ·subst cn;simp [aD]
   ·simp only[aD,ly,cn,if_false] at hi hj hb ⊢
    exact hc.sep i j oi oj cQ hi hj b hb
def bZ (h:Nat→Option ao) (m:fg):Prop:=∀x∈m,∃o,h x.1=some o∧AG o x.2.1 x.2.2.1 x.2.2.2
def fe (h:Nat→Option ao) (β:Env) (i:Nat):List Nat:=
 match h i with
 | some o=>ar β i o
 | none=>[]
theorem ft {h:Nat→Option ao} {β:Env} {i:Nat} {o:ao} (hi:h i=some o):fe h β i=ar β i o:=by simp only[fe,hi]
def bu (φ:Nat→List Nat):fg→Nat→List Nat
 | []=>φ
 | x::l=>aD (bu φ l) x.1 []
theorem gH {id:Nat} {m:fg} (h:bW id m=true):∀x∈m,x.1≠id:=by
 induction m with
 | nil=>simp
 | cons y l ih=>
  obtain⟨i,q⟩:=y
  simp only[bW,aw,Bool.not_eq_true'] at h
  intro x hx
  rcases List.mem_cons.1 hx with rfl | hx
  ·exact Nat.ne_of_beq_eq_false h.1
  ·exact ih h.2 x hx
theorem bR {h:Nat→Option ao} {m:fg} {id:Nat} (hn:∀x∈m,x.1≠id):fo (al m) h id=h id:=by
 induction m with
 | nil=>rfl
 | cons y l ih=>
  obtain⟨i,e',r,u⟩:=y
  simp only[al,fo,aD]
  rw[if_neg (fun e=>hn _ (List.mem_cons_self ..) e.symm)]
  exact ih (fun x hx=>hn x (List.mem_cons_of_mem _ hx))
theorem dc {φ:Nat→List Nat} {m:fg} {id:Nat} (hn:∀x∈m,x.1≠id):bu φ m id=φ id:=by
 induction m with
 | nil=>rfl
 | cons y l ih=>
  simp only[bu,aD]
  rw[if_neg (fun e=>hn _ (List.mem_cons_self ..) e.symm)]
  exact ih (fun x hx=>hn x (List.mem_cons_of_mem _ hx))
theorem Core.gC {f:Nat→SV} {h:Nat→Option ao} {β:Env} {φ:Nat→List Nat} {tm:Array Value} (hc:Core w0 S f h β φ tm w):∀(m:fg),bZ h m→aU m=true→
  Core w0 S f (fo (al m) h) β (bu φ m) tm w
 | [],_,_=>hc
 | (id,e',r,u)::l,hm,hn=>by
  simp only[aU,aw] at hn
  have ih:=Core.gC hc l (fun x hx=>hm x (List.mem_cons_of_mem _ hx)) hn.2
  obtain⟨o,dZ,aS⟩:=hm _ (List.mem_cons_self ..)
  have KW:=gH hn.1
  exact ih.freeze (id:=id) (ct:=e') (r:=r) (u:=u) (by rw[bR KW];exact dZ) aS
theorem iz (s:List UInt8) (l m:Nat):(⟨s.toArray⟩:ByteArray).extract l m=⟨((s.take m).drop l).toArray⟩:=by
 apply ByteArray.ext
 apply Array.toList_inj.1
 rw[Lib.extract_data]
 simp [List.drop_take]
theorem lH {n:Nat} {DX DW:Option SV} {l m:Nat} {c:Bool} (h:dQ n DX DW=some (l,m,c)) (hc:c=true):
  l≤m∧m≤n∧((DX=none∧l=0)∨∃k,DX=some (.int k l))∧((DW=none∧m=n)∨∃k,DW=some (.int k m)):=by
 unfold dQ at h
 split at h
 ·simp only[aa,Prod.mk.injEq] at h
  obtain⟨rfl,rfl,_⟩:=h
  exact⟨Nat.zero_le _,Nat.le_refl _,.inl ⟨rfl,rfl⟩,.inl ⟨rfl,rfl⟩⟩
 ·rename_i k z
  simp only[aa,Prod.mk.injEq] at h
  obtain⟨rfl,rfl,rfl⟩:=h
  simp only[aw,eX] at hc
  exact⟨by omega,Nat.le_refl _,.inr ⟨k,by rw[Int.toNat_of_nonneg hc.1]⟩,.inl ⟨rfl,rfl⟩⟩
 ·rename_i k z
  simp only[aa,Prod.mk.injEq] at h
  obtain⟨rfl,rfl,rfl⟩:=h
  simp only[aw,eX] at hc
  exact⟨Nat.zero_le _,by omega,.inl ⟨rfl,rfl⟩,.inr ⟨k,by rw[Int.toNat_of_nonneg hc.1]⟩⟩
 ·rename_i k z k' z'
  simp only[aa,Prod.mk.injEq] at h
  obtain⟨rfl,rfl,rfl⟩:=h
  simp only[aw,eX] at hc
  exact⟨by omega,by omega,.inr ⟨k,by rw[Int.toNat_of_nonneg hc.1.1]⟩,.inr ⟨k',by rw[Int.toNat_of_nonneg (by omega)]⟩⟩
 ·cases h
theorem iE {f:Nat→SV} {h:Nat→Option ao} {x:Option Operand} {s:SV} (e:(kl x).val f h=some (some s)):∃y,x=some y∧(cm y).val f h=some s:=by
 cases x with
 | none=>simp [kl] at e
 | some y=>
  simp only[kl,M.ag,af,M.ab,aa] at e
  obtain⟨s',h1,rfl⟩:=e
  exact⟨y,rfl,h1⟩
theorem iD {f:Nat→SV} {h:Nat→Option ao} {x:Option Operand} (e:(kl x).val f h=some none):x=none:=by
 cases x with
 | none=>rfl
 | some y=>simp [kl,af] at e
theorem iO {x:Nat} {k:IntKind} {y:Nat} {code:BoundsCode} (h:x≤y):(Instr.sliceBound (.int k x) y code).run P w= .ok x w:=by
 simp [Instr.sliceBound,asIntOf,h]
theorem jr {lo hi:Option Operand} {DX DW:Option SV} {n cap l m:Nat} {c isS:Bool} {β:Env} {φ:Nat→List Nat} (lv:n≤cap) (hC:Core w0 S st.get st.obj β φ a.tmps w)
  (h1:(kl lo).val st.get st.obj=some DX) (h2:(kl hi).val st.get st.obj=some DW) (h:dQ n DX DW=some (l,m,c)) (hc:c=true):
  (Instr.sliceBounds isS n cap (lo.map a.eval) (hi.map a.eval) none).run P w= .ok (l,m,cap) w:=by
 obtain⟨FJ,Bs,hl,hm⟩:=lH h hc
 rcases hl with ⟨rfl,rfl⟩ | ⟨k,rfl⟩<;>rcases hm with ⟨rfl,rfl⟩ | ⟨k',rfl⟩
 ·simp [iD h1,iD h2,Instr.sliceBounds]
 ·obtain⟨y,rfl,hy⟩:=iE h2
  have hy:=hC.ev hy
  simp only[aq] at hy
  simp [iD h1,Instr.sliceBounds,hy.1,iO (P:=P) (w:=w) (k:=k') (by omega:m≤cap)]
 ·obtain⟨y,rfl,hy⟩:=iE h1
  have hy:=hC.ev hy
  simp only[aq] at hy
  simp [iD h2,Instr.sliceBounds,hy.1,iO (P:=P) (w:=w) (k:=k) FJ]
 ·obtain⟨y,rfl,hy⟩:=iE h1
  have hy:=hC.ev hy
  obtain⟨z,rfl,hz⟩:=iE h2
  have hz:=hC.ev hz
  simp only[aq] at hy hz
  simp [Instr.sliceBounds,hy.1,hz.1,iO (P:=P) (w:=w) (k:=k) FJ,iO (P:=P) (w:=w) (k:=k') (by omega:m≤cap)]
theorem B8 (hR:Rel w0 S st a w) (hd:∀d,o.dst=some d→bn st.n d) {t:TypeId} {x:Operand} {lo hi:Option Operand} (ho:o.op= .slice t x lo hi none) {sx:SV} {DX DW:Option SV}
  (h1:(cm x).val st.get st.obj=some sx) (h2:(kl lo).val st.get st.obj=some DX) (h3:(kl hi).val st.get st.obj=some DW)
  (he:(CX P t sx DX DW).val st.get st.obj=some e) (aP:e.ok=true):Good P w0 S st o e a w:=by
 unfold CX at he
 split at he
 ·rename_i hu
  split at he
  ·rename_i s
   split at he
   ·rename_i l m c gO
    simp only[M.ab,aa] at he
    subst he
    have aP:c=true:=aP
    refine au hR hd rfl rfl fun β φ hc=> ?_
    have hx:=hc.ev h1
    simp only[aq] at hx
    have hb:=jr (P:=P) (isS:=false) (Nat.le_refl _) hc h2 h3 gO aP
    refine⟨.string ⟨((s.take m).drop l).toArray⟩, ?_, ?_⟩
    ·simp [execOp,ho,hx.1,Instr.sliceAt,Instr.slice,run_underlying hu,dD,hb,iz]
    ·unfold aq
     refine⟨rfl, ?_⟩
     simp only[List.length_drop,List.length_take]
     omega
   ·simp at he
  ·simp at he
 ·rename_i et hu
  have run:∀(q:Option Addr) (n cap l m:Nat) (c:Bool) (i:TypeInfo) (β:Env) (φ:Nat→List Nat),Core w0 S st.get st.obj β φ a.tmps w→n≤cap→P.info? et=some i→dQ n DX DW=some (l,m,c)→c=true→
    a.eval x= .slice q n cap→(execOp a.eval o).run P w= .ok (.value (.slice (if cap=l then q else q.map (·.add (l*i.size))) (m - l) (cap - l))) w:=by
   intro q n cap l m c i β φ hc lv hi gO AX hx
   have hb:=jr (P:=P) (isS:=true) lv hc h2 h3 gO AX
   simp [execOp,ho,hx,Instr.sliceAt,Instr.slice,run_underlying hu,hb,sizeOf,typeInfo,hi]
  split at he
  ·rename_i ct r
   cases hz:bb P et ct.length
   ·simp [hz] at he
   simp only[hz,aj] at he
   obtain⟨i,hi,dF⟩:=ba hz
   split at he
   ·rename_i l m c gO
    simp only[M.ab,aa] at he
    subst he
    have aP:c=true:=aP
    refine au hR hd rfl rfl fun β φ hc=> ?_
    have hx:=hc.ev h1
    simp only[aq] at hx
    obtain⟨fp,hr,cX⟩:=hx
    obtain⟨q,n,cap,hv,hn,lv,_,_⟩:=dk hr
    obtain⟨FJ,Bs,_⟩:=lH gO aP
    rw[hv] at hr
    obtain⟨BD,ie,HJ⟩:=CW hr FJ Bs
    refine⟨_,run q n cap l m c i β φ hc lv hi (by rw[←hn];exact gO) aP hv, ?_⟩
    simp only[aq]
    rw[dF]
    exact⟨BD,ie,fun b hb=>cX b (HJ b hb)⟩
   ·simp at he
  ·rename_i id
   simp only[M.a8,af] at he
   obtain⟨ob,aS,he⟩:=he
   split at he
   ·rename_i t' ct r u
    cases hz:Nat.beq t' et && bb P et ct.length
    ·simp [hz] at he
    simp only[hz,aj] at he
    simp only[aw] at hz
    obtain⟨i,hi,dF⟩:=ba hz.2
    split at he
    ·rename_i l m c gO
     simp only[M.ab,aa] at he
     subst he
     have aP:c=true:=aP
     obtain⟨β,φ,hc⟩:=hR.core
     have hx:=hc.ev h1
     simp only[aq] at hx
     have LA:=hc.freeze aS (.inl ⟨_,_,rfl⟩)
     have ES:=(LA.aC id (.ef ct r) (by simp [aD])).1
     simp only[aq] at ES
     obtain⟨fp,hr,cX⟩:=ES
     obtain⟨q,n,cap,hv,hn,lv,_,_⟩:=dk hr
     obtain⟨FJ,Bs,_⟩:=lH gO aP
     rw[hv] at hr
     obtain⟨BD,ie,HJ⟩:=CW hr FJ Bs
     refine cg hR hd (run q n cap l m c i β φ hc lv hi (by rw[←hn];exact gO) aP (hx.1.trans hv)) hR.kept ⟨β,_,LA, ?_⟩
     simp only[aq]
     rw[dF]
     exact⟨BD,ie,fun b hb=>cX b (HJ b hb)⟩
    ·simp at he
   ·rename_i ct r
    cases hz:bb P et ct.length
    ·simp [hz] at he
    simp only[hz,aj] at he
    obtain⟨i,hi,dF⟩:=ba hz
    split at he
    ·rename_i l m c gO
     simp only[M.ab,aa] at he
     subst he
     have aP:c=true:=aP
     refine au hR hd rfl rfl fun β φ hc=> ?_
     have hx:=hc.ev h1
     simp only[aq] at hx
     have ES:=(hc.aC id _ aS).1
     simp only[aq] at ES
     obtain⟨fp,hr,cX⟩:=ES
     obtain⟨q,n,cap,hv,hn,lv,_,_⟩:=dk hr
     obtain⟨FJ,Bs,_⟩:=lH gO aP
     rw[hv] at hr
     obtain⟨BD,ie,HJ⟩:=CW hr FJ Bs
     refine⟨_,run q n cap l m c i β φ hc lv hi (by rw[←hn];exact gO) aP (hx.1.trans hv), ?_⟩
     simp only[aq]
     rw[dF]
     exact⟨BD,ie,fun b hb=>cX b (HJ b hb)⟩
    ·simp at he
   ·simp at he
  ·simp at he
 ·simp at he
end
end Go.Proofs.YtnlkklmcfafgeaaGreat.Vm
namespace Go.Proofs.YtnlkklmcfafgeaaGreat.Vm
theorem Dx (off:Nat):∀(vs:List Value) (k:Nat) (cs:Array Value),off+k+vs.length≤cs.size→
  ((vs.zipIdx k).foldl (fun cs (x:Value×Nat)=>cs.setIfInBounds (off+x.2) x.1) cs).toList=cs.toList.take (off+k)++(vs++cs.toList.drop (off+k+vs.length))
 | [],k,cs,h=>by simp
 | v::vs,k,cs,h=>by
  simp only[List.zipIdx_cons,List.foldl_cons]
  simp only[dx] at h
  rw[Dx off vs (k+1) _ (by simp;omega)]
  have e1:(cs.setIfInBounds (off+k) v).toList=cs.toList.set (off+k) v:=by simp
  have hl:off+k<cs.toList.length:=by simp;omega
  rw[e1]
  have e2:(cs.toList.set (off+k) v).take (off+(k+1))=cs.toList.take (off+k)++[v]:=by
   rw[←Nat.add_assoc,List.take_succ_eq_append_getElem (by simpa using hl),List.take_set_of_le (Nat.le_refl _)]
   simp
  have e3:(cs.toList.set (off+k) v).drop (off+(k+1)+vs.length)=cs.toList.drop (off+k+(vs.length+1)):=by
   rw[List.drop_set_of_lt (by omega)]
   congr 1
   omega
  rw[e2,e3]
  simp
theorem km {place:Nat→Option (Nat×Nat)} {cells:Array Value} {i off:Nat} {v:Value} {rest:List (Nat×Value)} (hp:place i=some (off,v.cells.size)) (hl:off+v.cells.size≤cells.size):
  Instr.fill place cells ((i,v)::rest)=Instr.fill place (cells.toList.take off++(v.cells.toList++cells.toList.drop (off+v.cells.size))).toArray rest:=by
 have h1:(v.cells.zipIdx.foldl (fun cs (x:Value×Nat)=>cs.setIfInBounds (off+x.2) x.1) cells)=(cells.toList.take off++(v.cells.toList++cells.toList.drop (off+v.cells.size))).toArray:=by
  apply Array.toList_inj.1
  rw[←Array.foldl_toList,Array.toList_zipIdx]
  have:=Dx off v.cells.toList 0 cells (by simpa using hl)
  simpa using this
 simp only[Instr.fill,hp]
 rw[if_neg (by simp;omega)]
 exact congrArg (fun x=>Instr.fill place x rest) h1
section
variable {P:Program} {Γ:Ctx} {w0:World} {S:Own} {st:St} {o:Oper} {e:cS} {a:Act} {w:World}
theorem dU {av:Nat→Prop} {β:Env} {f:Nat→SV} {h:Nat→Option ao} {s:SV} {v:Value} {cs:List SV} (hs:aq w av β s v) (hc:(aG s).val f h=some cs):
  ah w av β cs v.cells.toList∧∀x∈v.cells.toList,x.oneCell'=true:=by
 have single:v.oneCell'=true→cs=[s]→ah w av β cs v.cells.toList∧∀x∈v.cells.toList,x.oneCell'=true:=by
  intro bk fI
  have mj:v.cells= #[v]:=by cases v<;>first | rfl | (simp [Value.oneCell'] at bk)
  rw[mj,fI]
  simp only[List.mem_singleton,forall_eq,ah]
  exact⟨⟨v,[],rfl,hs,rfl⟩,bk⟩
 cases s with
 | fG=>simp [aG] at hc
 | undef=>simp [aG] at hc
 | DA l=>simp [aG] at hc
 | FT g l=>simp [aG] at hc
 | FO id lo z=>simp [aG] at hc
 | agg l=>
  simp only[aG,M.ab,aa] at hc
  subst hc
  simp only[aq] at hs
  obtain⟨vs,rfl,h1,h2⟩:=hs
  simpa [Value.cells] using ⟨h1,h2⟩
 | kb b=>simp only[aG,M.ab,aa] at hc;exact single (by simp only[aq] at hs;subst hs;rfl) hc.symm
 | int k n=>simp only[aG,M.ab,aa] at hc;exact single (by simp only[aq] at hs;rw[hs.1];rfl) hc.symm
 | bool b=>simp only[aG,M.ab,aa] at hc;exact single (by simp only[aq] at hs;subst hs;rfl) hc.symm
 | str b=>simp only[aG,M.ab,aa] at hc;exact single (by simp only[aq] at hs;rw[hs.1];rfl) hc.symm
 | sl e r=>simp only[aG,M.ab,aa] at hc;exact single (by simp only[aq] at hs;obtain⟨fp,hr,_⟩:=hs;exact hr.one) hc.symm
 | nil=>simp only[aG,M.ab,aa] at hc;exact single (by simp only[aq] at hs;subst hs;rfl) hc.symm
 | own id=>simp only[aG,M.ab,aa] at hc;exact single (by simp only[aq] at hs;exact hs.2) hc.symm
 | ptr id off=>simp only[aG,M.ab,aa] at hc;exact single (by simp only[aq] at hs;subst hs;rfl) hc.symm
 | gS e r off=>simp only[aG,M.ab,aa] at hc;exact single (by simp only[aq] at hs;obtain⟨b,o,fp,hv,_⟩:=hs;subst hv;rfl) hc.symm
 | ey id i z off=>simp only[aG,M.ab,aa] at hc;exact single (by simp only[aq] at hs;obtain⟨g,_,hv⟩:=hs;subst hv;rfl) hc.symm
theorem eS {av:Nat→Prop} {β:Env} :∀(l:List Value),ah w av β (l.map ofConst) l
 | []=>by simp [ah]
 | v::l=>by
  simp only[List.map_cons,ah]
  exact⟨v,l,rfl,jn v,eS l⟩
theorem DQ {fs:Array Field} {places:List (Nat×Nat)} (h:fs.toList.mapM (fun f=>(P.info? f.type).map fun i=>(f.offset,i.size))=some places) {i:Nat} {f:Field} (hf:fs[i]? =some f):
  ∃ti,P.info? f.type=some ti∧places.toArray[i]? =some (f.offset,ti.size):=by
 have Bo:fs.toList[i]? =some f:=by simpa using hf
 clear hf
 generalize fs.toList=l at h Bo
 induction l generalizing places i with
 | nil=>simp at Bo
 | cons g l ih=>
  simp only[List.mapM_cons,Option.bind_eq_bind,Option.pure_def] at h
  cases hi:P.info? g.type with
  | none=>simp [hi] at h
  | some ti=>
   cases hr:l.mapM (fun f=>(P.info? f.type).map fun i=>(f.offset,i.size)) with
   | none=>simp [hi,hr] at h
   | some rest=>
    simp [hi,hr] at h
    subst h
    cases i with
    | zero=>
     simp at Bo
     subst Bo
     exact⟨ti,hi,by simp⟩
    | succ i=>
     obtain⟨tj,h1,h2⟩:=ih hr (by simpa using Bo)
     exact⟨tj,h1,by simpa using h2⟩
theorem Ab {β:Env} {φ:Nat→List Nat} (hc:Core w0 S st.get st.obj β φ a.tmps w) {fs:Array Field} {places:List (Nat×Nat)}
  (hp:fs.toList.mapM (fun f=>(P.info? f.type).map fun i=>(f.offset,i.size))=some places):
  ∀(parts:List (Nat×Operand)) (cells:List SV) (cs:List SV) (vs:List Value),(kg P fs parts cells).val st.get st.obj=some cs→ah w (Av st.obj β) β cells vs→(∀x∈vs,x.oneCell'=true)→
  ∃us:List Value,Instr.fill (places.toArray[·]?) vs.toArray (parts.map fun x=>(x.1,a.eval x.2))=some us.toArray∧ah w (Av st.obj β) β cs us∧∀x∈us,x.oneCell'=true
 | [],cells,cs,vs,hb,hr,h1=>by
  simp only[kg,M.ab,aa] at hb
  subst hb
  exact⟨vs,by simp [Instr.fill],hr,h1⟩
 | (i,x)::rest,cells,cs,vs,hb,hr,h1=>by
  simp only[kg] at hb
  split at hb
  ·rename_i f hf
   simp only[M.ag,af] at hb
   obtain⟨s,hs,Ig,AX,hb⟩:=hb
   cases hz:bb P f.type Ig.length && Nat.ble (f.offset+Ig.length) cells.length
   ·simp [hz] at hb
   simp only[hz,aj] at hb
   simp only[aw] at hz
   obtain⟨ti,F8,KY⟩:=DQ hp hf
   obtain⟨M9,F9,dF⟩:=ba hz.1
   rw[F8] at F9
   injection F9 with F9
   subst F9
   have hle:=Nat.le_of_ble_eq_true hz.2
   obtain⟨fI,bk⟩:=dU (hc.ev hs) AX
   have hlen:=ah.length _ _ hr
   have BK:=ah.length _ _ fI
   have bD:(a.eval x).cells.size=ti.size:=by simpa [dF] using BK
   have dX:f.offset+(a.eval x).cells.size≤vs.toArray.size:=by simp;omega
   have bM:ah w (Av st.obj β) β (cells.take f.offset++(Ig++cells.drop (f.offset+Ig.length))) (vs.take f.offset++((a.eval x).cells.toList++vs.drop (f.offset+(a.eval x).cells.size))):=by
    refine ah.append _ _ _ _ (ah.take _ _ _ hr) (ah.append _ _ _ _ fI ?_)
    have:Ig.length=(a.eval x).cells.size:=by simpa using BK.symm
    rw[this]
    exact ah.drop _ _ _ hr
   obtain⟨us,kU,gu,mu⟩:=Ab hc hp rest _ cs _ hb bM (by
    intro y hy
    simp only[List.mem_append] at hy
    rcases hy with hy | hy | hy
    ·exact h1 y (List.mem_of_mem_take hy)
    ·exact bk y hy
    ·exact h1 y (List.mem_of_mem_drop hy))
   refine⟨us, ?_,gu,mu⟩
   simp only[List.map_cons]
   rw[km (off:=f.offset) (by rw[bD];exact KY) dX]
   simpa using kU
  ·simp at hb
theorem dE {f:Nat→SV} {h:Nat→Option ao} {t:TypeId} {z:List SV} (hz:(dR P t).val f h=some z):
  ∃i zv,P.info? t=some i∧i.zero=some zv∧z=zv.cells.toList.map ofConst∧∀x∈zv.cells.toList,x.oneCell'=true:=by
 unfold dR at hz
 split at hz
 ·rename_i i hi
  split at hz
  ·rename_i zv mZ
   cases ha:zv.cells.toList.all (·.oneCell')
   ·simp [ha] at hz
   ·simp only[ha,aj,M.ab,aa] at hz
    exact⟨i,zv,hi,mZ,hz.symm,fun x hx=>List.all_eq_true.1 ha x hx⟩
  ·simp at hz
 ·simp at hz
theorem B3 (hR:Rel w0 S st a w) (hd:∀d,o.dst=some d→bn st.n d) {t:TypeId} {parts:Array (Nat×Operand)} (ho:o.op= .build t parts) {fs:Array Field} {places:List (Nat×Nat)} {z cs:List SV}
  (hu:P.underlying t=some (.struct fs)) (hp:fs.toList.mapM (fun f=>(P.info? f.type).map fun i=>(f.offset,i.size))=some places)
  (hz:(dR P t).val st.get st.obj=some z) (hb:(kg P fs parts.toList z).val st.get st.obj=some cs) (he:e= {sv:= .agg cs}):Good P w0 S st o e a w:=by
 subst he
 refine au hR hd rfl rfl fun β φ hc=> ?_
 obtain⟨i,zv,hi,mZ,rfl,bk⟩:=dE hz
 obtain⟨us,kU,gu,mu⟩:=Ab hc hp parts.toList _ cs _ hb (eS zv.cells.toList) bk
 refine⟨.agg us.toArray, ?_,by unfold aq;exact⟨us,rfl,gu,mu⟩⟩
 have Hj:P.built t (parts.map fun x=>(x.1,a.eval x.2)).toList=some us.toArray:=by
  simp only[Program.built,hi,hu,mZ,hp]
  simpa using kU
 have:=run_build (P:=P) w t (parts.map fun x=>(x.1,a.eval x.2)) us.toArray Hj
 simp [execOp,ho,this]
end
end Go.Proofs.YtnlkklmcfafgeaaGreat.Vm
namespace Go.Proofs.YtnlkklmcfafgeaaGreat.Vm
def Env.CU (β:Env) (id b:Nat):Env:=⟨aD β.da id b,β.val,β.gN,β.nb⟩
def Env.fY (β:Env) (id:Nat) (v:Value):Env:=⟨β.da,aD β.val id v,β.gN,β.nb⟩
theorem m0 {i:Nat} {m n:fg} :bW i (m++n)=(bW i m && bW i n):=by
 induction m with
 | nil=>simp [bW]
 | cons x l ih=>obtain⟨j,q⟩:=x;simp [bW,ih,Bool.and_assoc]
theorem gQ {m n:fg} (h:aU (m++n)=true):aU m=true∧aU n=true∧∀x∈m,∀y∈n,x.1≠y.1:=by
 induction m with
 | nil=>exact⟨rfl,by simpa using h,by simp⟩
 | cons x l ih=>
  obtain⟨j,q⟩:=x
  simp only[List.cons_append,aU,m0,aw] at h
  obtain⟨h1,h2,h3⟩:=ih h.2
  refine⟨by simp [aU,h.1.1,h1],h2,fun x hx y hy=> ?_⟩
  rcases List.mem_cons.1 hx with rfl | hx
  ·exact fun e=>gH h.1.2 y hy e.symm
  ·exact h3 x hx y hy
section
variable {P:Program} {Γ:Ctx} {w0:World} {S:Own} {st:St} {o:Oper} {e:cS} {a:Act} {w:World}
variable {f:Nat→SV} {h:Nat→Option ao} {β:Env} {φ:Nat→List Nat} {tm:Array Value}
theorem gb {m:fg} {b:Nat} (hb:Av (fo (al m) h) β b):Av h β b:=by
 induction m generalizing b with
 | nil=>exact hb
 | cons x l ih=>
  obtain⟨i,e',r,u⟩:=x
  rcases hb with ⟨j,ob,hj,bz⟩ | hb
  case inr=>exact .inr hb
  simp only[al,fo,aD] at hj
  split at hj
  ·injection hj with hj
   subst hj
   simp [ar] at bz
  ·exact ih (.inl ⟨j,ob,hj,bz⟩)
theorem dK (hc:Core w0 S f h β φ tm w) {m:fg} (hm:bZ h m) {x:Nat×List CT×List (List DC)×Bool} (hx:x∈m) {b:Nat} (hb:b∈fe h β x.1):¬Av (fo (al m) h) β b:=by
 rintro (⟨j,ob,hj,bz⟩ | fi)
 case inr=>
  obtain⟨o,dZ,_⟩:=hm x hx
  rw[ft dZ] at hb
  exact hc.Ba dZ (ak (hc.aC _ _ dZ) b hb) fi
 obtain⟨o,dZ,_⟩:=hm x hx
 rw[ft dZ] at hb
 have frozen:∀(l:fg) (j:Nat),(∃y∈l,y.1=j)→∃e' r,fo (al l) h j=some (.ef e' r):=by
  intro l
  induction l with
  | nil=>rintro j ⟨y,hy,_⟩;simp at hy
  | cons z l ih=>
   obtain⟨i,e',r,u⟩:=z
   rintro j ⟨y,hy,rfl⟩
   simp only[al,fo,aD]
   by_cases Lg:y.1=i
   ·rw[if_pos Lg];exact⟨e',r,rfl⟩
   ·rw[if_neg Lg]
    rcases List.mem_cons.1 hy with rfl | hy
    ·exact absurd rfl Lg
    ·exact ih y.1 ⟨y,hy,rfl⟩
 by_cases BJ:∃y∈m,y.1=j
 ·obtain⟨e',r,ca⟩:=frozen m j BJ
  rw[ca] at hj
  injection hj with hj
  subst hj
  simp [ar] at bz
 ·have gi:h j=some ob:=by rw[bR (fun y hy e=>BJ ⟨y,hy,e⟩)] at hj;exact hj
  have cQ:x.1≠j:=fun e=>BJ ⟨x,hx,e⟩
  exact hc.sep x.1 j _ _ cQ dZ gi b (ak (hc.aC x.1 _ dZ) b hb) (ak (hc.aC j _ gi) b bz)
theorem dH (hc:Core w0 S f h β φ tm w) {ct:CT} {s:SV} {v:Value} {q:DC×fg×Bool} (hs:aq w (Av h β) β s v) (hq:(eV ct s).val f h=some q):
  ∃fp,cd w ct q.1 v fp∧bZ h q.2.1∧aU q.2.1=true∧(∀b∈fp,(¬Av h β b)∨∃x∈q.2.1,b∈fe h β x.1)∧
   (q.2.2=true→(∀b∈fp,∃x∈q.2.1,b∈φ x.1)∧fp.Nodup):=by
 have plain:∀(d:DC) (fr:Bool) (fp:List Nat),q=(d,[],fr)→cd w ct d v fp→(∀b∈fp,¬Av h β b)→(fr=true→fp=[])→
   ∃fp,cd w ct q.1 v fp∧bZ h q.2.1∧aU q.2.1=true∧(∀b∈fp,(¬Av h β b)∨∃x∈q.2.1,b∈fe h β x.1)∧(q.2.2=true→(∀b∈fp,∃x∈q.2.1,b∈φ x.1)∧fp.Nodup):=by
  rintro d fr fp rfl hr cX ca
  refine⟨fp,hr,by simp [bZ],rfl,fun b hb=> .inl (cX b hb),fun hf=> ?_⟩
  rw[ca hf]
  simp
 unfold eV at hq
 split at hq
 ·rename_i k n
  split at hq
  ·rename_i k'
   by_cases hk:k=k'
   ·subst hk
    simp only[decide_true,aj,M.ab,aa] at hq
    simp only[aq] at hs
    exact plain _ _ [] hq.symm (by unfold cd;exact⟨n,rfl,hs.1,hs.2,rfl⟩) (by simp) (by simp)
   ·simp [hk] at hq
  ·simp at hq
 ·split at hq
  ·simp only[M.ab,aa] at hq
   simp only[aq] at hs
   exact plain _ _ [] hq.symm (by unfold cd;exact⟨_,rfl,hs,rfl⟩) (by simp) (by simp)
  ·simp at hq
 ·split at hq
  ·simp only[M.ab,aa] at hq
   simp only[aq] at hs
   exact plain _ _ [] hq.symm (by unfold cd;exact⟨_,rfl,hs,rfl⟩) (by simp) (by simp)
  ·simp at hq
 ·split at hq
  ·simp only[M.ab,aa] at hq
   simp only[aq] at hs
   exact plain _ _ [] hq.symm (by unfold cd;exact⟨_,rfl,hs.1,hs.2,rfl⟩) (by simp) (by simp)
  ·simp at hq
 ·rename_i e' r
  split at hq
  ·rename_i Eu
   cases hb:aL e' Eu
   ·simp [hb] at hq
   ·simp only[hb,aj,M.ab,aa] at hq
    have:=aR _ _ hb
    subst this
    simp only[aq] at hs
    obtain⟨fp,hr,cX⟩:=hs
    exact plain _ _ fp hq.symm hr cX (by simp)
  ·simp at hq
 ·split at hq
  ·simp only[M.ab,aa] at hq
   simp only[aq] at hs
   subst hs
   exact plain _ _ [] hq.symm (j6 rfl (Nat.le_refl _) (Nat.zero_le _) (.inl ⟨rfl,rfl⟩)) (by simp) (by simp)
  ·simp at hq
 ·rename_i id
  split at hq
  ·rename_i e'
   simp only[aq] at hs
   obtain⟨hs,_⟩:=hs
   subst hs
   simp only[M.a8,af] at hq
   obtain⟨ob,aS,hq⟩:=hq
   split at hq
   ·rename_i t' Eu r fz u
    cases hb:aL Eu e'
    ·simp [hb] at hq
    ·simp only[hb,aj,M.ab,aa] at hq
     have:=aR _ _ hb
     subst this hq
     obtain⟨fp,h1,h2,h3⟩:=bt (hc.aC id _ aS)
     refine⟨fp,h1, ?_,rfl,fun b hb=> ?_,fun hu=>⟨fun b hb=>⟨_,List.mem_singleton.2 rfl,(h3 hu).1 b hb⟩,(h3 hu).2 (hc.fresh id _ aS).1⟩⟩
     ·intro x hx
      rw[List.mem_singleton] at hx
      subst hx
      exact⟨_,aS,.inl ⟨t',fz,rfl⟩⟩
     ·rcases h2 b hb with hx | hx
      ·exact .inr ⟨_,List.mem_singleton.2 rfl,by rw[ft aS];exact hx⟩
      ·exact .inl hx
   ·rename_i Eu r
    cases hb:aL Eu e'
    ·simp [hb] at hq
    ·simp only[hb,aj,M.ab,aa] at hq
     have:=aR _ _ hb
     subst this
     obtain⟨h1,_⟩:=hc.aC id _ aS
     simp only[aq] at h1
     obtain⟨fp,hr,cX⟩:=h1
     exact plain _ _ fp hq.symm hr cX (by simp)
   ·rename_i t' Eu ts r
    cases hb:aL Eu e'
    ·simp [hb] at hq
    ·simp only[hb,aj,M.ab,aa] at hq
     have:=aR _ _ hb
     subst this hq
     have LI:AG (.deep t' Eu ts r none) Eu r true:= .inr ⟨t',ts,rfl,rfl⟩
     obtain⟨fp,h1,h2,h3⟩:=Ax (hc.aC id _ aS) LI
     refine⟨fp,h1, ?_,rfl,fun b hb=> ?_,fun hu=>⟨fun b hb=>⟨_,List.mem_singleton.2 rfl,(h3 hu).1 b hb⟩,(h3 hu).2 (hc.fresh id _ aS).1⟩⟩
     ·intro x hx
      rw[List.mem_singleton] at hx
      subst hx
      exact⟨_,aS,LI⟩
     ·rcases h2 b hb with hx | hx
      ·exact .inr ⟨_,List.mem_singleton.2 rfl,by rw[ft aS];exact hx⟩
      ·exact .inl hx
   ·simp at hq
  ·simp at hq
 ·simp at hq
theorem fj {m n:fg} (h1:bZ h m) (h2:bZ h n):bZ h (m++n):=fun x hx=>by
 rcases List.mem_append.1 hx with hx | hx
 ·exact h1 x hx
 ·exact h2 x hx
theorem apart (hc:Core w0 S f h β φ tm w) {m n:fg} (hm:bZ h m) (hn:bZ h n) (cQ:∀x∈m,∀y∈n,x.1≠y.1) {p q:List Nat}
  (hp:∀b∈p,∃x∈m,b∈φ x.1) (hq:∀b∈q,∃x∈n,b∈φ x.1) (np:p.Nodup) (nq:q.Nodup):(p++q).Nodup:=by
 rw[List.nodup_append]
 refine⟨np,nq,fun b hb c hP DI=> ?_⟩
 subst DI
 obtain⟨x,hx,kp⟩:=hp b hb
 obtain⟨y,hy,Bm⟩:=hq b hP
 obtain⟨_,h1,_⟩:=hm x hx
 obtain⟨_,h2,_⟩:=hn y hy
 exact hc.sep x.1 y.1 _ _ (cQ x hx y hy) h1 h2 b kp Bm
theorem d9 (hc:Core w0 S f h β φ tm w):∀(bI:List CT) (bT:List SV) (vs:List Value) (q:List DC×fg×Bool),ah w (Av h β) β bT vs→(cq bI bT).val f h=some q→
  ∃fp,bf w bI q.1 (fun j=>vs[j]?) fp∧bZ h q.2.1∧(∀b∈fp,(¬Av h β b)∨∃x∈q.2.1,b∈fe h β x.1)∧
   (q.2.2=true→(∀b∈fp,∃x∈q.2.1,b∈φ x.1)∧(aU q.2.1=true→fp.Nodup))
 | [],[],vs,q,hs,hq=>by
  simp only[cq,M.ab,aa] at hq
  subst hq
  exact⟨[],by simp [bf],by simp [bZ],by simp,by simp⟩
 | [],_::_,vs,q,hs,hq=>by simp [cq] at hq
 | _::_,[],vs,q,hs,hq=>by simp [cq] at hq
 | c::cs,s::ss,vs,q,hs,hq=>by
  simp only[ah] at hs
  obtain⟨v,l,rfl,h1,h2⟩:=hs
  simp only[cq,M.ag,af,M.ab,aa] at hq
  obtain⟨q1,aN,q2,cE,rfl⟩:=hq
  obtain⟨f1,r1,m1,n1,a1,u1⟩:=dH hc h1 aN
  obtain⟨f2,r2,m2,a2,u2⟩:=d9 hc cs ss l q2 h2 cE
  refine⟨f1++f2, ?_,fj m1 m2, ?_, ?_⟩
  ·simp only[bf]
   exact⟨q1.1,q2.1,v,f1,f2,rfl,by simp,r1,by simpa using r2,rfl⟩
  ·intro b hb
   rcases List.mem_append.1 hb with hb | hb
   ·rcases a1 b hb with hx | ⟨x,hx,kp⟩
    ·exact .inl hx
    ·exact .inr ⟨x,aT _ hx,kp⟩
   ·rcases a2 b hb with hx | ⟨x,hx,kp⟩
    ·exact .inl hx
    ·exact .inr ⟨x,aK _ hx,kp⟩
  ·intro hu
   simp only[aw] at hu
   refine⟨fun b hb=> ?_,fun hn=> ?_⟩
   ·rcases List.mem_append.1 hb with hb | hb
    ·obtain⟨x,hx,kp⟩:=(u1 hu.1).1 b hb
     exact⟨x,aT _ hx,kp⟩
    ·obtain⟨x,hx,kp⟩:=(u2 hu.2).1 b hb
     exact⟨x,aK _ hx,kp⟩
   ·obtain⟨_,Hy,cQ⟩:=gQ hn
    exact apart hc m1 m2 cQ (u1 hu.1).1 (u2 hu.2).1 (u1 hu.1).2 ((u2 hu.2).2 Hy)
theorem Core.create (hc:Core w0 S f h β φ tm w) {w':World} {β':Env} {id:Nat} {ob:ao} {Gs:List Nat} (hs:w.heap.size≤w'.heap.size) (hw:∀b,b<w.heap.size→w'.heap[b]? =w.heap[b]?)
  (hf:∀i,id ∉ cb (f i)) (ho:∀j o,h j=some o→id ∉ cK o) (hn:h id=none) (gv:∀j,j≠id→β'.val j=β.val j∧β'.da j=β.da j)
  (jf:∀b∈ar β' id ob,w.heap.size≤b) (hY:f9 w' (Av (aD h id (some ob)) β') β' id ob Gs) (hnd:Gs.Nodup)
  (mN:∀b∈Gs,((w0.heap.size≤b∨S b)∧b<w'.heap.size)∧∀j o,h j=some o→b ∉ φ j) (fi:β'.gN=β.gN:=by rfl) (js:∀j,j≠id→β'.nb j=β.nb j:=by intro _ _;rfl):Core w0 S f (aD h id (some ob)) β' (aD φ id Gs) tm w':=by
 have iR:∀j o,j≠id→ar β' j o=ar β j o:=by
  intro j o hj
  cases o<;>simp [ar,gv j hj,js j hj]
 refine hc.mK (fun i=>i=id) hs (fun b hb _=>hw b hb) ?_ (fun i j hj e=>hf i (e ▸ hj)) gv ?_ ?_ fi
 ·rintro b (⟨j,oj,hj,bz⟩ | hb)
  case inr=>exact .inl (.inr (fi ▸ hb))
  by_cases cn:j=id
  ·subst cn
   simp only[aD,if_true,aa] at hj
   subst hj
   exact .inr (jf b bz)
  ·simp only[aD,cn,if_false] at hj
   rw[iR j oj cn] at bz
   exact .inl (.inl ⟨j,oj,hj,bz⟩)
 ·intro j oj hj
  by_cases cn:j=id
  ·subst cn
   simp only[aD,if_true,aa] at hj
   subst hj
   exact .inr ⟨by simpa [aD] using hY,by simpa [aD] using hnd,fun b hb=>(mN b (by simpa [aD] using hb)).1⟩
  ·simp only[aD,cn,if_false] at hj
   refine .inl ⟨cn,hj,js j cn,by simp [aD,cn],fun i hi e=>ho j oj hj (e ▸ hi),fun b hb=>hw b ?_⟩
   exact ((hc.fresh j oj hj).2 b (ak (hc.aC j oj hj) b hb)).2
 ·intro i j oi oj cQ hi hj b hb
  by_cases ly:i=id
  ·subst ly
   have gD:j≠i:=Ne.symm cQ
   simp only[aD,gD,if_false] at hj
   simp only[aD,if_true] at hb
   simp only[aD,gD,if_false]
   exact (mN b hb).2 j oj hj
  ·simp only[aD,ly,if_false] at hi hb
   by_cases cn:j=id
   ·subst cn
    simp only[aD,if_true]
    exact fun aB=>(mN b aB).2 i oi hi hb
   ·simp only[aD,cn,if_false] at hj ⊢
    exact hc.sep i j oi oj cQ hi hj b hb
theorem ah.beside {w':World} {β':Env} {id:Nat} {ob:ao} (hs:w.heap.size≤w'.heap.size) (hw:∀b,b<w.heap.size→w'.heap[b]? =w.heap[b]?)
  (gv:∀j,j≠id→β'.val j=β.val j∧β'.da j=β.da j) (jf:∀b∈ar β' id ob,w.heap.size≤b) {ss:List SV} {vs:List Value} (hr:ah w (Av h β) β ss vs) (hi:id ∉ bY ss) (fi:β'.gN=β.gN:=by rfl) (js:∀j,j≠id→β'.nb j=β.nb j:=by intro _ _;rfl):
  ah w' (Av (aD h id (some ob)) β') β' ss vs:=by
 refine ah.mono hs (fun b hb _=>hw b hb) ?_ ss vs hr (fun j hj=>gv j (fun e=>hi (e ▸ hj)))
 rintro b (⟨j,oj,hj,bz⟩ | hb)
 case inr=>exact .inl (.inr (fi ▸ hb))
 by_cases cn:j=id
 ·subst cn
  simp only[aD,if_true,aa] at hj
  subst hj
  exact .inr (jf b bz)
 ·simp only[aD,cn,if_false] at hj
  refine .inl (.inl ⟨j,oj,hj, ?_⟩)
  cases oj<;>simp only[ar,gv j cn,js j cn] at bz ⊢ <;>exact bz
structure bL (st:St) (d:Nat):Prop where
 slot:∀i,∀j∈cb (st.get i),j / 64≠d
 obj:∀j ob,st.obj j=some ob→j / 64≠d∧∀k∈cK ob,k / 64≠d
theorem cT (d k:Nat) (hk:k<64):ai d k / 64=d:=by unfold ai;omega
theorem Kept.alloc (hk:Kept S w0 w) (ob:Obj):Kept S w0 (w.alloc ob):=
 ⟨hk.os,hk.tape,hk.output,by have:=hk.size;simp;omega,fun k h1 h2=>(by show (w.heap.push ob)[k]? =_;rw[Array.getElem?_push,if_neg (by have:=hk.size;omega)];exact hk.block k h1 h2)⟩
theorem Kept.drew (hk:Kept S w0 w):Kept S w0 w.drew:=⟨hk.os,hk.tape,hk.output,hk.size,hk.block⟩
theorem cy (ob:Obj):(w.alloc ob).heap.size=w.heap.size+1:=by simp
theorem ep (ob:Obj):(w.alloc ob).heap[w.heap.size]? =some ob:=heap_alloc_new w ob
theorem alloc_old (ob:Obj) (b:Nat) (hb:b<w.heap.size):(w.alloc ob).heap[b]? =w.heap[b]? :=by
 show (w.heap.push ob)[b]? =_
 rw[Array.getElem?_push,if_neg (by omega)]
theorem la (v:Value):cb (ofConst v)=[]:=by
 unfold ofConst
 split
 ·rfl
 ·cases BS _ _<;>rfl
 ·generalize Nat.ble _ _=c
  cases c<;>rfl
 ·rfl
 ·rfl
theorem jU:∀(l:List Value),bY (l.map ofConst)=[]
 | []=>rfl
 | v::l=>by simp [bY,la,jU l]
theorem FF {d:Nat} (hf:bL st d) {x:Operand} {s:SV} (hx:(cm x).val st.get st.obj=some s):∀j∈cb s,j / 64≠d:=by
 have:=Db hx
 subst this
 cases x with
 | tmp t=>exact hf.slot t
 | const v=>simp [G_,la]
 | global g=>intro j hj;simp [G_,cb] at hj
 | func g=>intro j hj;simp [G_,cb] at hj
theorem Ca {s:SV} {cs:List SV} (hc:(aG s).val f h=some cs):bY cs=cb s:=by
 cases s<;>simp [aG] at hc<;>subst hc<;>simp [cb,bY]
theorem j8 (hR:Rel w0 S st a w) {d:Nat} (aX:o.dst=some d) (hd:bn st.n d) (ca:bL st d) {t:TypeId} {cells:List SV} {vs:List Value}
  (bA:(execOp a.eval o).run P w= .ok (.value (.pointer (some ⟨w.heap.size,0,none⟩))) (w.alloc (.cells vs.toArray t)))
  (mj:∀β φ,Core w0 S st.get st.obj β φ a.tmps w→ah w (Av st.obj β) β cells vs) (bk:∀x∈vs,x.oneCell'=true) (Cy:∀j∈bY cells,j / 64≠d)
  (he:e= {sv:= .ptr (ai d 0) 0,ow:=[(ai d 0,some (.box t cells))]}):Good P w0 S st o e a w:=by
 subst he
 obtain⟨β,φ,hc⟩:=hR.core
 have bM:ai d 0 / 64=d:=cT d 0 (by omega)
 have gv:∀j,j≠ai d 0→(β.CU (ai d 0) w.heap.size).val j=β.val j∧(β.CU (ai d 0) w.heap.size).da j=β.da j:=by
  intro j hj
  exact⟨rfl,by simp [Env.CU,aD,hj]⟩
 have jG:(β.CU (ai d 0) w.heap.size).da (ai d 0)=w.heap.size:=by simp [Env.CU,aD]
 have jf:∀b∈ar (β.CU (ai d 0) w.heap.size) (ai d 0) (.box t cells),w.heap.size≤b:=by
  intro b hb
  simp only[ar,jG,List.mem_singleton] at hb
  omega
 have hle:=hR.kept.size
 refine cg hR (fun d' h'=>by rw[aX] at h';injection h' with h';exact h' ▸ hd) bA (hR.kept.alloc _) ⟨β.CU (ai d 0) w.heap.size,aD φ (ai d 0) [w.heap.size], ?_, ?_⟩
 ·refine hc.create (by rw[cy];omega) (fun b hb=>alloc_old _ b hb) (fun i hi=>ca.slot i _ hi bM) (fun j ob hj hi=>(ca.obj j ob hj).2 _ hi bM) ?_ gv jf ?_ (by simp) ?_
  ·cases hn:st.obj (ai d 0) with
   | none=>rfl
   | some ob=>exact absurd bM (ca.obj _ ob hn).1
  ·refine⟨vs,by rw[jG];exact ep _, ?_,bk,by rw[jG]⟩
   exact ah.beside (by rw[cy];omega) (fun b hb=>alloc_old _ b hb) gv jf (mj β φ hc) (fun hi=>Cy _ hi bM)
  ·intro b hb
   rw[List.mem_singleton] at hb
   subst hb
   refine⟨⟨.inl hle,by rw[cy];omega⟩,fun j ob hj hb=> ?_⟩
   have:=((hc.fresh j ob hj).2 _ hb).2
   omega
 ·simp only[aq,jG]
theorem B2 (hR:Rel w0 S st a w) {d:Nat} (aX:o.dst=some d) (hd:bn st.n d) (ca:bL st d) {t:TypeId} (ho:o.op= .alloc t) {z:List SV} (hz:(dR P t).val st.get st.obj=some z)
  (he:e= {sv:= .ptr (ai d 0) 0,ow:=[(ai d 0,some (.box t z))]}):Good P w0 S st o e a w:=by
 obtain⟨i,zv,hi,mZ,rfl,bk⟩:=dE hz
 refine j8 hR aX hd ca (vs:=zv.cells.toList) ?_ (fun β φ hc=>eS _) bk (by simp [jU]) he
 simp [execOp,ho,Instr.alloc,zeroValue,typeInfo,hi,mZ,newVar,newRow]
theorem DZ (hR:Rel w0 S st a w) {d:Nat} (aX:o.dst=some d) (hd:bn st.n d) (ca:bL st d) {t:TypeId} {x:Operand} (ho:o.op= .box t x) {s:SV} {cs:List SV}
  (hx:(cm x).val st.get st.obj=some s) (fI:(aG s).val st.get st.obj=some cs)
  (he:e= {sv:= .ptr (ai d 0) 0,ow:=[(ai d 0,some (.box t cs))]}):Good P w0 S st o e a w:=by
 obtain⟨Jz,JA,Cg⟩:=hR.core
 refine j8 hR aX hd ca (vs:=(a.eval x).cells.toList) ?_ (fun β φ hc=>(dU (hc.ev hx) fI).1) (dU (Cg.ev hx) fI).2 ?_ he
 ·simp [execOp,ho,Instr.box,newVar,newRow]
 ·rw[Ca fI]
  exact FF ca hx
end
end Go.Proofs.YtnlkklmcfafgeaaGreat.Vm
namespace Go.Proofs.YtnlkklmcfafgeaaGreat.Vm
section
variable {P:Program} {Γ:Ctx} {w0:World} {S:Own} {st:St} {o:Oper} {e:cS} {a:Act} {w:World}
variable {f:Nat→SV} {h:Nat→Option ao} {β:Env} {φ:Nat→List Nat} {tm:Array Value}
theorem dS.cons {ct:List CT} {r:List DC} {l:List Value} {g:List Nat} {rows:List (List DC)} {vals:List Value} {aE:List (List Nat)} (h1:bf w ct r (fun j=>l[j]?) g) (hl:l.length=ct.length)
  (h2:dS w ct rows vals aE):dS w ct (r::rows) (l++vals) (g::aE):=by
 refine⟨by simp [h2.1],fun i r' f' hi hf=> ?_⟩
 cases i with
 | zero=>
  simp at hi hf
  subst hi hf
  refine bt.bf.jW (fun j u hj=> ?_) h1
  simp only[Nat.zero_mul,Nat.zero_add]
  rw[List.getElem?_append_left (by have:=List.getElem?_eq_some_iff.1 hj;exact this.1)]
  exact hj
 | succ i=>
  have:=h2.2 i r' f' (by simpa using hi) (by simpa using hf)
  refine bt.bf.jW (fun j u hj=> ?_) this
  rw[List.getElem?_append_right (by rw[hl,Nat.succ_mul];omega)]
  rw[←hj]
  congr 1
  rw[hl,Nat.succ_mul]
  omega
theorem dS.nil {ct:List CT} {vals:List Value} :dS w ct [] vals []:=⟨rfl,by simp⟩
theorem dS.append {ct:List CT} {rows G0:List (List DC)} {vals AE:List Value} {aE FV:List (List Nat)} (h1:dS w ct rows vals aE) (hl:vals.length=rows.length*ct.length)
  (h2:dS w ct G0 AE FV):dS w ct (rows++G0) (vals++AE) (aE++FV):=by
 refine⟨by simp [h1.1,h2.1],fun i r f hi hf=> ?_⟩
 rcases Nat.lt_or_ge i rows.length with cz | EM
 ·rw[List.getElem?_append_left cz] at hi
  rw[List.getElem?_append_left (by rw[h1.1];exact cz)] at hf
  refine bt.bf.jW (fun j u hj=> ?_) (h1.2 i r f hi hf)
  rw[List.getElem?_append_left (by have:=List.getElem?_eq_some_iff.1 hj;exact this.1)]
  exact hj
 ·rw[List.getElem?_append_right EM] at hi
  rw[List.getElem?_append_right (by rw[h1.1];exact EM),h1.1] at hf
  refine bt.bf.jW (fun j u hj=> ?_) (h2.2 _ r f hi hf)
  have e1:i*ct.length+j=rows.length*ct.length+((i - rows.length)*ct.length+j):=by
   have:i*ct.length=rows.length*ct.length+(i - rows.length)*ct.length:=by rw[←Nat.add_mul];congr 1;omega
   omega
  rw[List.getElem?_append_right (by omega)]
  rw[←hj]
  congr 1
  omega
theorem dI {m:fg} {j:Nat} {ob:ao} (hj:fo (al m) h j=some ob):(h j=some ob)∨(∃e' r,ob= .ef e' r∧∃y∈m,y.1=j):=by
 induction m with
 | nil=>exact .inl hj
 | cons x l ih=>
  obtain⟨i,e',r,u⟩:=x
  simp only[al,fo,aD] at hj
  split at hj
  ·rename_i gD
   injection hj with hj
   exact .inr ⟨e',r,hj.symm,_,List.mem_cons_self ..,gD.symm⟩
  ·rcases ih hj with h1 | ⟨Eu,r',h1,y,hy,h2⟩
   ·exact .inl h1
   ·exact .inr ⟨Eu,r',h1,y,List.mem_cons_of_mem _ hy,h2⟩
theorem hO {m:fg} {j:Nat} (BJ:∃y∈m,y.1=j):bu φ m j=[]:=by
 induction m with
 | nil=>obtain⟨y,hy,_⟩:=BJ;simp at hy
 | cons z l ih=>
  obtain⟨y,hy,rfl⟩:=BJ
  simp only[bu,aD]
  by_cases Lh:y.1=z.1
  ·rw[if_pos Lh]
  ·rw[if_neg Lh]
   rcases List.mem_cons.1 hy with rfl | hy
   ·exact absurd rfl Lh
   ·exact ih ⟨y,hy,rfl⟩
theorem fk (hR:Rel w0 S st a w) {d:Nat} (aX:o.dst=some d) (hd:bn st.n d) (ca:bL st d) {t:TypeId} {ct:List CT} {rows:List (List DC)} {fz u:Bool} {m:fg} {w':World} {v:Value}
  (bA:(execOp a.eval o).run P w= .ok (.value v) w') (hk:Kept S w0 w') (hs:w.heap.size≤w'.heap.size) (hw:∀b,b<w.heap.size→w'.heap[b]? =w.heap[b]?)
  (hB:∀b∈v.ownBlock.toList,b=w.heap.size) (hm:bZ st.obj m) (Bs:aU m=true) {vals:List Value} (bd:cx w' t ct.length fz v rows.length vals)
  (di:∀β φ,Core w0 S st.get st.obj β φ a.tmps w→∃aE,dS w ct rows vals aE∧(∀b∈aE.flatten,(¬Av st.obj β b)∨∃x∈m,b∈fe st.obj β x.1)∧
   (u=true→(∀b∈aE.flatten,∃x∈m,b∈φ x.1)∧aE.flatten.Nodup))
  (f8:e.sv= .own (ai d 0)) (kT:e.cw=none) (how:e.ow=(ai d 0,some (.row t ct rows fz u))::al m):Good P w0 S st o e a w:=by
 obtain⟨β,φ,hc⟩:=hR.core
 obtain⟨aE,di,cX,hu⟩:=di β φ hc
 have jI:=hc.gC m hm Bs
 have bM:ai d 0 / 64=d:=cT d 0 (by omega)
 have gv:∀j,j≠ai d 0→(β.fY (ai d 0) v).val j=β.val j∧(β.fY (ai d 0) v).da j=β.da j:=by
  intro j hj
  exact⟨by simp [Env.fY,aD,hj],rfl⟩
 have hval:(β.fY (ai d 0) v).val (ai d 0)=v:=by simp [Env.fY,aD]
 have jf:∀b∈ar (β.fY (ai d 0) v) (ai d 0) (.row t ct rows fz u),w.heap.size≤b:=by
  intro b hb
  simp only[ar,hval] at hb
  rw[hB b hb]
  exact Nat.le_refl _
 have cz:=di.lt
 have hle:=hR.kept.size
 have jF:∀b∈aE.flatten,¬Av (fo (al m) st.obj) β b:=by
  intro b hb
  rcases cX b hb with h1 | ⟨x,hx,kp⟩
  ·exact fun h2=>h1 (gb h2)
  ·exact dK hc hm hx kp
 refine cg hR (fun d' h'=>by rw[aX] at h';injection h' with h';exact h' ▸ hd) bA hk
  ⟨β.fY (ai d 0) v,aD (bu φ m) (ai d 0) (v.ownBlock.toList++(bif u then aE.flatten else [])), ?_, ?_⟩
 ·rw[how,kT]
  refine jI.create hs hw (fun i hi=>ca.slot i _ hi bM) (fun j ob hj hi=> ?_) ?_ gv jf ?_ ?_ ?_
  ·rcases dI hj with h1 | ⟨e',r,rfl,_⟩
   ·exact (ca.obj j ob h1).2 _ hi bM
   ·simp [cK] at hi
  ·cases hn:fo (al m) st.obj (ai d 0) with
   | none=>rfl
   | some ob=>
    rcases dI hn with h1 | ⟨e',r,rfl,y,hy,h2⟩
    ·exact absurd bM (ca.obj _ ob h1).1
    ·obtain⟨_,h3,_⟩:=hm y hy
     rw[h2] at h3
     exact absurd bM (ca.obj _ _ h3).1
  ·refine⟨vals,aE,by rw[hval];exact bd,di.mono hs (fun b hb=>hw b (cz b hb)),fun b hb hx=> ?_,by rw[hval]⟩
   rcases hx with ⟨j,oj,hj,bz⟩ | hx
   case inr=>exact jF b hb (.inr hx)
   by_cases cn:j=ai d 0
   ·subst cn
    simp only[aD,if_true,aa] at hj
    subst hj
    have:=jf b bz
    have:=cz b hb
    omega
   ·simp only[aD,cn,if_false] at hj
    refine jF b hb (.inl ⟨j,oj,hj, ?_⟩)
    cases oj<;>simp only[ar,gv j cn] at bz ⊢ <;>exact bz
  ·have A0:v.ownBlock.toList.Nodup:=by cases v.ownBlock<;>simp
   cases u with
   | false=>simpa using A0
   | true=>
    rw[aj,List.nodup_append]
    refine⟨A0,(hu rfl).2,fun b hb c hP DI=> ?_⟩
    have h1:=hB b hb
    have h2:=cz c hP
    omega
  ·intro b hb
   rcases List.mem_append.1 hb with hb | hb
   ·have h1:=hB b hb
    subst h1
    refine⟨⟨.inl hle, ?_⟩,fun j ob hj bz=> ?_⟩
    ·have:=bd.lt _ hb
     exact this
    ·have:=((jI.fresh j ob hj).2 _ bz).2
     omega
   ·cases u with
    | false=>simp at hb
    | true=>
     simp only[aj] at hb
     obtain⟨x,hx,kp⟩:=(hu rfl).1 b hb
     obtain⟨_,h3,_⟩:=hm x hx
     have h4:=(hc.fresh x.1 _ h3).2 b kp
     refine⟨⟨h4.1,by omega⟩,fun j ob hj bz=> ?_⟩
     by_cases BJ:∃y∈m,y.1=j
     ·rw[hO BJ] at bz
      simp at bz
     ·have BL:∀y∈m,y.1≠j:=fun y hy e=>BJ ⟨y,hy,e⟩
      rw[bR BL] at hj
      rw[dc BL] at bz
      exact hc.sep x.1 j _ _ (BL x hx) h3 hj b kp bz
 ·rw[f8]
  unfold aq
  exact⟨hval.symm,bd.one⟩
theorem C7 {ct:CT} {v:Value} {q:DC×fg×Bool} (hq:(eV ct (ofConst v)).val f h=some q):q.2.1=[]∧q.2.2=true:=by
 unfold ofConst at hq
 split at hq
 ·simp only[eV] at hq
  split at hq<;>simp at hq
  subst hq;exact⟨rfl,rfl⟩
 ·rename_i k n
  cases hi:BS k n
  ·simp [hi,eV] at hq
  ·simp only[hi,aj,eV] at hq
   split at hq
   ·rename_i k'
    by_cases hk:k=k'
    ·simp [hk] at hq;subst hq;exact⟨rfl,rfl⟩
    ·simp [hk] at hq
   ·simp at hq
 ·generalize Nat.ble _ _=c at hq
  cases c
  ·simp [eV] at hq
  ·simp only[aj,eV] at hq
   split at hq<;>simp at hq
   subst hq;exact⟨rfl,rfl⟩
 ·simp only[eV] at hq
  split at hq<;>simp at hq
  subst hq;exact⟨rfl,rfl⟩
 ·simp [eV] at hq
theorem lj:∀(bI:List CT) (l:List Value) (q:List DC×fg×Bool),(cq bI (l.map ofConst)).val f h=some q→q.2.1=[]∧q.2.2=true
 | [],[],q,hq=>by simp [cq] at hq;subst hq;exact⟨rfl,rfl⟩
 | [],_::_,q,hq=>by simp [cq] at hq
 | _::_,[],q,hq=>by simp [cq] at hq
 | c::cs,v::l,q,hq=>by
  simp only[List.map_cons,cq,M.ag,af,M.ab,aa] at hq
  obtain⟨q1,aN,q2,cE,rfl⟩:=hq
  obtain⟨h1,h2⟩:=C7 aN
  obtain⟨h3,h4⟩:=lj cs l q2 cE
  simp [h1,h2,h3,h4]
theorem cL:∀(bI:List CT) (l:List SV) (q:List DC×fg×Bool),(cq bI l).val f h=some q→l.length=bI.length
 | [],[],q,hq=>rfl
 | [],_::_,q,hq=>by simp [cq] at hq
 | _::_,[],q,hq=>by simp [cq] at hq
 | c::cs,v::l,q,hq=>by
  simp only[cq,M.ag,af,M.ab,aa] at hq
  obtain⟨q1,aN,q2,cE,rfl⟩:=hq
  simp [cL cs l q2 cE]
theorem dS.replicate {ct:List CT} {r:List DC} {z:List Value} (h1:bf w ct r (fun j=>z[j]?) []) (hl:z.length=ct.length):∀n,dS w ct (List.replicate n r) (List.replicate n z).flatten (List.replicate n [])
 | 0=>dS.nil
 | n+1=>by
  simp only[List.replicate_succ,List.flatten_cons]
  exact dS.cons h1 hl (dS.replicate h1 hl n)
theorem Ds (z:Array Value):∀n,(madeCells z (n*z.size)).toList=(List.replicate n z.toList).flatten:=by
 intro n
 apply List.ext_getElem?
 intro i
 simp only[madeCells]
 rcases Nat.eq_zero_or_pos z.size with h0 | hp
 ·have hz:z= #[]:=by simpa using h0
  subst hz
  simp
 ·rcases Nat.lt_or_ge i (n*z.size) with hi | hi
  ·have hr:(List.replicate n z.toList).flatten[i]? =z.toList[i % z.size]? :=by
    have key:∀n i,i<n*z.size→(List.replicate n z.toList).flatten[i]? =z.toList[i % z.size]? :=by
     intro n
     induction n with
     | zero=>intro i hi;simp at hi
     | succ n ih=>
      intro i hi
      simp only[List.replicate_succ,List.flatten_cons]
      rcases Nat.lt_or_ge i z.size with h1 | h1
      ·rw[List.getElem?_append_left (by simpa using h1),Nat.mod_eq_of_lt h1]
      ·rw[List.getElem?_append_right (by simpa using h1)]
       have h2:i - z.toList.length<n*z.size:=by simp;rw[Nat.succ_mul] at hi;omega
       rw[ih _ h2]
       congr 1
       simp only[Array.length_toList]
       rw[←Nat.mod_eq_sub_mod h1]
    exact key n i hi
   rw[hr]
   have hm:i % z.size<z.size:=Nat.mod_lt _ hp
   simp [hi,hm]
  ·rw[List.getElem?_eq_none (by simp;omega),List.getElem?_eq_none (by simp;omega)]
theorem C3 (hR:Rel w0 S st a w) {d:Nat} (aX:o.dst=some d) (hd:bn st.n d) (ca:bL st d) {t et:TypeId} {l c:Operand} (ho:o.op= .makeSlice t l c) {n m:Int} {ct:List CT} {i:TypeInfo} {z:List SV} {r:List DC×fg×Bool}
  (hl:(cm l).val st.get st.obj=some (.int .i64 n)) (hm:(cm c).val st.get st.obj=some (.int .i64 m)) (hu:P.underlying t=some (.slice et)) (hi:P.info? et=some i) (dF:i.size=ct.length)
  (hz:(dR P et).val st.get st.obj=some z) (hr:(cq ct z).val st.get st.obj=some r)
  (he:e= {sv:= .own (ai d 0),ow:=[(ai d 0,some (.row et ct (List.replicate n.toNat r.1) false true))],ok:=decide (0≤n) && decide (n≤m) && decide (m.toNat*i.bytes≤140737488355328) && decide (m≤9223372036854775807)})
  (aP:e.ok=true):Good P w0 S st o e a w:=by
 subst he
 simp only[aw,eX] at aP
 obtain⟨⟨⟨h0,I1⟩,Bm⟩,JR⟩:=aP
 obtain⟨i',zv,dY,mZ,rfl,bk⟩:=dE hz
 rw[hi] at dY
 injection dY with dY
 subst dY
 obtain⟨ku,Kr⟩:=lj _ _ _ hr
 have jP:zv.cells.toList.length=ct.length:=by simpa using cL _ _ _ hr
 have EW:(madeCells zv.cells (m.toNat*i.size)).toList=(List.replicate m.toNat zv.cells.toList).flatten:=by
  have:=Ds zv.cells m.toNat
  rw[dF,←jP]
  simpa using this
 obtain⟨Jz,JA,Cg⟩:=hR.core
 have hx:=Cg.ev hl
 have hy:=Cg.ev hm
 simp only[aq] at hx hy
 have hb:(i.bytes:Int)*m≤281474976710656:=by
  have h1:((m.toNat*i.bytes:Nat):Int)≤140737488355328:=by omega
  rw[Int.natCast_mul,Int.toNat_of_nonneg (by omega),Int.mul_comm] at h1
  omega
 have bA:=run_make (P:=P) w t et i zv hu hi mZ .i64 .i64 n m h0 I1 hb JR
 refine fk hR aX hd ca (m:=[]) (fz:=false) (u:=true) (vals:=(List.replicate n.toNat zv.cells.toList).flatten) (v:= .slice (some ⟨w.heap.size,0,none⟩) n.toNat m.toNat)
  (w':=w.alloc (.cells (madeCells zv.cells (m.toNat*i.size)) et)) ?_ (hR.kept.alloc _) (by rw[cy];omega) (fun b hb=>alloc_old _ b hb) (by simp [Value.ownBlock]) (by simp [bZ]) rfl ?_ ?_ rfl rfl rfl
 ·simp [execOp,ho,hx.1,hy.1,bA]
 ·refine⟨by simp [jP],.inr ⟨w.heap.size,m.toNat,_,by simp,by simpa using ep _,by simp;omega,by simp only[maxLen];omega,by rw[size_madeCells,dF], ?_⟩⟩
  rw[EW]
  have:List.replicate m.toNat zv.cells.toList=List.replicate n.toNat zv.cells.toList++List.replicate (m.toNat - n.toNat) zv.cells.toList:=by
   rw[List.replicate_append_replicate]
   congr 1
   omega
  rw[this,List.flatten_append,List.take_append_of_le_length (by simp [jP]),List.take_of_length_le (by simp [jP])]
 ·intro β φ hc
  obtain⟨fp,kc,_,_,Bp⟩:=d9 hc ct _ _ r (eS zv.cells.toList) hr
  have KN:fp=[]:=by
   have:=(Bp Kr).1
   cases fp with
   | nil=>rfl
   | cons b l=>
    obtain⟨x,hx,_⟩:=this b (List.mem_cons_self ..)
    rw[ku] at hx
    simp at hx
  subst KN
  refine⟨List.replicate n.toNat [],dS.replicate kc jP n.toNat, ?_, ?_⟩
  ·intro b hb
   simp at hb
  ·intro _
   constructor
   ·intro b hb;simp at hb
   ·have:(List.replicate n.toNat ([]:List Nat)).flatten=[]:=by simp
    rw[this]
    simp
theorem fT (hc:Core w0 S st.get st.obj β φ a.tmps w) {ct:List CT} :∀(parts:List (Nat×Operand)) (k:Nat) (q:List (List DC)×fg×Bool),(ew ct k parts).val st.get st.obj=some q→
  ∃(vals:List Value) (aE:List (List Nat)),vals.length=parts.length*ct.length∧q.1.length=parts.length∧(∀x∈vals,x.oneCell'=true)∧dS w ct q.1 vals aE∧bZ st.obj q.2.1∧
   (∀b∈aE.flatten,(¬Av st.obj β b)∨∃x∈q.2.1,b∈fe st.obj β x.1)∧(q.2.2=true→(∀b∈aE.flatten,∃x∈q.2.1,b∈φ x.1)∧(aU q.2.1=true→aE.flatten.Nodup))∧
   ∀(pre suf:List Value),pre.length=k*ct.length→suf.length=parts.length*ct.length→
    Instr.fill (fun i=>some (i*ct.length,ct.length)) (pre++suf).toArray (parts.map fun x=>(x.1,a.eval x.2))=some (pre++vals).toArray
 | [],k,q,hq=>by
  simp only[ew,M.ab,aa] at hq
  subst hq
  refine⟨[],[],by simp,rfl,by simp,dS.nil,by simp [bZ],by simp,by simp,fun pre suf h1 h2=> ?_⟩
  have:suf=[]:=by simpa using h2
  subst this
  simp [Instr.fill]
 | (i,x)::rest,k,q,hq=>by
  simp only[ew] at hq
  cases D4:Nat.beq i k
  ·simp [D4] at hq
  have D4:=aM D4
  subst D4
  simp only[Nat.beq_refl,aj,M.ag,af,M.ab,aa] at hq
  obtain⟨s,hs,cs,fI,r,hr,q2,cE,rfl⟩:=hq
  obtain⟨f8,bk⟩:=dU (hc.ev hs) fI
  have Bn:=cL _ _ _ hr
  have A4:=ah.length _ _ f8
  have bD:(a.eval x).cells.size=ct.length:=by simpa [Bn] using A4
  obtain⟨fp,kc,F3,Gz,GR⟩:=d9 hc ct cs _ r f8 hr
  obtain⟨vals,aE,ka,IL,I3,jJ,Di,DH,DN,Cv⟩:=fT hc rest (i+1) q2 cE
  refine⟨(a.eval x).cells.toList++vals,fp::aE, ?_,by simp [IL], ?_,dS.cons kc (by simpa using bD) jJ,fj F3 Di, ?_, ?_, ?_⟩
  ·simp only[fv,ka,dx,Array.length_toList,bD,Nat.succ_mul]
   omega
  ·intro y hy
   rcases List.mem_append.1 hy with hy | hy
   ·exact bk y hy
   ·exact I3 y hy
  ·intro b hb
   simp only[List.flatten_cons,List.mem_append] at hb
   rcases hb with hb | hb
   ·rcases Gz b hb with h1 | ⟨y,hy,h1⟩
    ·exact .inl h1
    ·exact .inr ⟨y,aT _ hy,h1⟩
   ·rcases DH b hb with h1 | ⟨y,hy,h1⟩
    ·exact .inl h1
    ·exact .inr ⟨y,aK _ hy,h1⟩
  ·intro hu
   simp only[aw] at hu
   refine⟨fun b hb=> ?_,fun hn=> ?_⟩
   ·simp only[List.flatten_cons,List.mem_append] at hb
    rcases hb with hb | hb
    ·obtain⟨y,hy,h1⟩:=(GR hu.1).1 b hb
     exact⟨y,aT _ hy,h1⟩
    ·obtain⟨y,hy,h1⟩:=(DN hu.2).1 b hb
     exact⟨y,aK _ hy,h1⟩
   ·obtain⟨JS,Hy,cQ⟩:=gQ hn
    simp only[List.flatten_cons]
    exact apart hc F3 Di cQ (GR hu.1).1 (DN hu.2).1 ((GR hu.1).2 JS) ((DN hu.2).2 Hy)
  ·intro pre suf h1 h2
   simp only[dx,Nat.succ_mul] at h2
   simp only[List.map_cons]
   rw[km (off:=i*ct.length) (by rw[bD]) (by simp [h1,bD];omega)]
   have e1:((pre++suf).toArray.toList.take (i*ct.length)++((a.eval x).cells.toList++(pre++suf).toArray.toList.drop (i*ct.length+(a.eval x).cells.size)))=(pre++(a.eval x).cells.toList)++suf.drop ct.length:=by
    simp only[bD,←h1]
    simp [List.drop_append]
   rw[e1,Cv (pre++(a.eval x).cells.toList) (suf.drop ct.length) (by simp [h1,bD,Nat.succ_mul]) (by simp [h2])]
   simp
theorem kH (hR:Rel w0 S st a w) {d:Nat} (aX:o.dst=some d) (hd:bn st.n d) (ca:bL st d) {t et:TypeId} {len:Nat} {parts:Array (Nat×Operand)} (ho:o.op= .buildSlice t len parts) {ct:List CT} {q:List (List DC)×fg×Bool}
  (hu:P.underlying t=some (.slice et)) (dF:bb P et ct.length=true) (jM:0<ct.length) (hlen:len=parts.toList.length) (Je:len*ct.length≤16777216)
  (hq:(ew ct 0 parts.toList).val st.get st.obj=some q) (hz:∃z,(dR P et).val st.get st.obj=some z) (hn:aU q.2.1=true)
  (he:e= {sv:= .own (ai d 0),ow:=(ai d 0,some (.row et ct q.1 false q.2.2))::al q.2.1}):Good P w0 S st o e a w:=by
 subst he
 obtain⟨i,hi,bD⟩:=ba dF
 obtain⟨Jz,JA,Cg⟩:=hR.core
 obtain⟨vals,_,A4,F7,bk,_,hm,_,_,kU⟩:=fT Cg parts.toList 0 q hq
 obtain⟨z,hz⟩:=hz
 obtain⟨i',zv,dY,mZ,_,_⟩:=dE hz
 rw[hi] at dY
 injection dY with dY
 subst dY
 have hle:len≤maxLen:=by
  have:len≤len*ct.length:=Nat.le_mul_of_pos_right _ jM
  simp only[maxLen]
  omega
 have bA:(Instr.buildSlice t len (parts.map fun x=>(x.1,a.eval x.2))).run P w= .ok (.slice (some ⟨w.heap.size,0,none⟩) len len) (w.alloc (.cells vals.toArray et)):=by
  rcases Nat.eq_zero_or_pos len with h0 | h0
  ·have hp:parts= #[]:=by
    have:parts.toList.length=0:=by omega
    simpa using this
   have hv:vals=[]:=by
    have:vals.length=0:=by rw[A4,←hlen,h0,Nat.zero_mul]
    simpa using this
   subst hp hv h0
   simp [Instr.buildSlice,run_underlying hu,sizeOf,typeInfo,hi,Instr.fill,newRow,Array.range_zero']
  ·refine run_buildSlice (P:=P) w t et len _ vals.toArray i zv hu hi mZ (by rw[bD];omega) (by rw[bD];exact Nat.ne_of_gt (Nat.mul_pos h0 jM)) ?_
   have:=kU [] ((Array.range (len*ct.length)).map (zv.cells[· % zv.cells.size]!)).toList (by simp) (by simp [hlen])
   rw[bD]
   generalize (Array.range (len*ct.length)).map (zv.cells[· % zv.cells.size]!)=A at this ⊢
   simpa using this
 refine fk hR aX hd ca (m:=q.2.1) (fz:=false) (u:=q.2.2) (vals:=vals) (v:= .slice (some ⟨w.heap.size,0,none⟩) len len) (w':=w.alloc (.cells vals.toArray et)) ?_ (hR.kept.alloc _)
  (by rw[cy];omega) (fun b hb=>alloc_old _ b hb) (by simp [Value.ownBlock]) hm hn ?_ ?_ rfl rfl rfl
 ·simp [execOp,ho,bA]
 ·refine⟨by rw[A4,F7],.inr ⟨w.heap.size,len,vals.toArray,by rw[F7,←hlen],by simpa using ep _,by rw[F7,←hlen];exact Nat.le_refl _,hle,by simp [A4,hlen], ?_⟩⟩
  rw[F7,←A4]
  simp
 ·intro β φ hc
  obtain⟨AE,aE,MO,MH,mu,di,KD,cX,gP,Hn⟩:=fT hc parts.toList 0 q hq
  have MQ:AE=vals:=by
   have h1:=kU [] (List.replicate (parts.toList.length*ct.length) undef) (by simp) (by simp)
   have h2:=Hn [] (List.replicate (parts.toList.length*ct.length) undef) (by simp) (by simp)
   rw[h1] at h2
   simpa using h2.symm
  subst MQ
  exact⟨aE,di,cX,fun h=>⟨(gP h).1,(gP h).2 hn⟩⟩
end
end Go.Proofs.YtnlkklmcfafgeaaGreat.Vm
namespace Go.Proofs.YtnlkklmcfafgeaaGreat.Vm
theorem bV (P:Program) (g o:Nat) (t:TypeId) (fz:Nat×Nat):∀(vs:List Value) (i:Nat) (cur:Array Value) (w:World),w.heap[g]? =some (.cells cur t fz)→(∀j,j<cur.size→¬(fz.1≤j∧j<fz.2))→
  o+i+vs.length≤cur.size→(∀v∈vs,v.oneCell'=true)→
  (storeCells ⟨g,o,none⟩ vs i).run P w= .ok () (w.setRow g (cur.toList.take (o+i)++(vs++cur.toList.drop (o+i+vs.length))).toArray)
 | [],i,cur,w,hg,_,_,_=>by
  simp only[storeCells,List.nil_append,List.length_nil,Nat.add_zero,List.take_append_drop,Array.toArray_toList]
  rw[setRow_self w g cur t fz hg]
  rfl
 | v::rest,i,cur,w,hg,hfz,hl,h1=>by
  have hi:o+i<cur.size:=by simp at hl;omega
  have hcell:w.cell? ⟨g,o+i,none⟩=some cur[o+i]:=by simp [World.cell?,hg,hi]
  have Kq:w.frozen? ⟨g,o+i,none⟩=false:=by
   have:=hfz (o+i) hi
   obtain⟨lo,dY⟩:=fz
   simp only[World.frozen?,hg,Bool.and_eq_false_iff,decide_eq_false_iff_not]
   simp only at this
   omega
  have ic:(store ((⟨g,o,none⟩:Addr).add i) v).run P w= .ok () (w.setRow g (cur.setIfInBounds (o+i) v)):=by
   rw[dw,run_store P w _ v _ (h1 v (by simp)),hcell]
   simp [Kq,setCell_eq_setRow w g (o+i) cur t fz v hg]
  have ih:=bV P g o t fz rest (i+1) (cur.setIfInBounds (o+i) v) (w.setRow g (cur.setIfInBounds (o+i) v)) (setRow_heap w g cur _ t _ hg) (by simpa using hfz) (by simp at hl ⊢;omega) (fun x hx=>h1 x (by simp [hx]))
  simp only[storeCells,Sem.run_bind,ic,Result.andThen_ok,ih,setRow_setRow]
  congr 3
  have:=list_seg_step cur.toList (o+i) v rest (by simp at hl ⊢;omega)
  simp only[Array.toList_setIfInBounds,dx]
  rw[←Nat.add_assoc]
  simpa [List.append_assoc] using this
theorem bf.split {w:World} :∀(AM lr:List CT) (r:List DC) (f:Nat→Option Value) (fp:List Nat),bf w (AM++lr) r f fp→
  ∃lI gB,bf w AM (r.take AM.length) f lI∧bf w lr (r.drop AM.length) (fun j=>f (AM.length+j)) gB∧fp=lI++gB
 | [],lr,r,f,fp,h=>⟨[],fp,by simp [bf],by simpa using h,rfl⟩
 | c::cs,lr,r,f,fp,h=>by
  simp only[List.cons_append,bf] at h
  obtain⟨d,r',v,f1,f2,rfl,h0,h1,h2,rfl⟩:=h
  obtain⟨p1,p2,e1,e2,rfl⟩:=bf.split cs lr r' _ f2 h2
  refine⟨f1++p1,p2, ?_, ?_,by simp⟩
  ·simp only[dx,List.take_succ_cons,bf]
   exact⟨d,_,v,f1,p1,rfl,h0,h1,e1,rfl⟩
  ·simp only[dx,List.drop_succ_cons]
   have:∀j,cs.length+1+j=cs.length+j+1:=by intro j;omega
   simpa only[this] using e2
theorem bf.join {w:World} :∀(AM lr:List CT) (r1 r2:List DC) (f:Nat→Option Value) (lI gB:List Nat),bf w AM r1 f lI→bf w lr r2 (fun j=>f (AM.length+j)) gB→
  bf w (AM++lr) (r1++r2) f (lI++gB)
 | [],lr,r1,r2,f,lI,gB,h1,h2=>by
  simp only[bf] at h1
  obtain⟨rfl,rfl⟩:=h1
  simpa using h2
 | c::cs,lr,r1,r2,f,lI,gB,h1,h2=>by
  simp only[bf] at h1
  obtain⟨d,r',v,f1,f2,rfl,h0,h3,h4,rfl⟩:=h1
  simp only[List.cons_append,bf]
  refine⟨d,r'++r2,v,f1,f2++gB,rfl,h0,h3,bf.join cs lr r' r2 _ f2 gB h4 ?_,by simp⟩
  have:∀j,(c::cs).length+j=cs.length+j+1:=by intro j;simp only[dx];omega
  simpa only[this] using h2
section
variable {P:Program} {Γ:Ctx} {w0:World} {S:Own} {st:St} {o:Oper} {e:cS} {a:Act} {w:World}
variable {f:Nat→SV} {h:Nat→Option ao} {β:Env} {φ:Nat→List Nat} {tm:Array Value}
theorem Kept.setRow (hk:Kept S w0 w) {g:Nat} (hg:w0.heap.size≤g∨S g) (cs:Array Value):Kept S w0 (w.setRow g cs):=
 ⟨hk.os,hk.tape,hk.output,by simpa using hk.size,fun k h1 h2=>by
  rw[setRow_other w g k cs (fun e=>by subst e;rcases hg with h | h;omega;exact h2 h)]
  exact hk.block k h1 h2⟩
theorem Core.rewrite (hc:Core w0 S f h β φ tm w) {id:Nat} {ob Fu:ao} {g:Nat} {cs:Array Value} {Gs:List Nat} (dZ:h id=some ob) (hg:g∈ar β id ob) (ht:∀b∈ar β id Fu,b∈ar β id ob)
  (hY:f9 (w.setRow g cs) (Av (aD h id (some Fu)) β) β id Fu Gs) (hnd:Gs.Nodup) (mN:∀b∈Gs,((w0.heap.size≤b∨S b)∧b<w.heap.size)∧∀j o,j≠id→h j=some o→b ∉ φ j):
  Core w0 S f (aD h id (some Fu)) β (aD φ id Gs) tm (w.setRow g cs):=by
 have Cx:=ak (hc.aC id ob dZ) g hg
 refine hc.step (fun _=>False) (by simp) (fun b _ hb=>setRow_other w g b cs (fun e=>hb (e ▸ .inl ⟨id,ob,dZ,hg⟩))) ?_ (fun _ _ _ h=>h) (fun _ _=>⟨rfl,rfl⟩) ?_ ?_
 ·rintro b (⟨j,oj,hj,bz⟩ | hb)
  case inr=>exact .inl (.inr hb)
  by_cases cn:j=id
  ·subst cn
   simp only[aD,if_true,aa] at hj
   subst hj
   exact .inl (.inl ⟨j,ob,dZ,ht b bz⟩)
  ·simp only[aD,cn,if_false] at hj
   exact .inl (.inl ⟨j,oj,hj,bz⟩)
 ·intro j oj hj
  by_cases cn:j=id
  ·subst cn
   simp only[aD,if_true,aa] at hj
   subst hj
   exact .inr ⟨by simpa [aD] using hY,by simpa [aD] using hnd,fun b hb=>by simpa using (mN b (by simpa [aD] using hb)).1⟩
  ·simp only[aD,cn,if_false] at hj
   refine .inl ⟨fun h=>h,hj,by simp [aD,cn],fun _ _ h=>h,fun b hb=>setRow_other w g b cs (fun e=> ?_)⟩
   subst e
   exact hc.sep id j _ _ (Ne.symm cn) dZ hj b Cx (ak (hc.aC j oj hj) b hb)
 ·intro i j oi oj cQ hi hj b hb
  by_cases ly:i=id
  ·subst ly
   have gD:j≠i:=Ne.symm cQ
   simp only[aD,gD,if_false] at hj
   simp only[aD,if_true] at hb
   simp only[aD,gD,if_false]
   exact (mN b hb).2 j oj gD hj
  ·simp only[aD,ly,if_false] at hi hb
   by_cases cn:j=id
   ·subst cn
    simp only[aD,if_true]
    exact fun aB=>(mN b aB).2 i oi ly hi hb
   ·simp only[aD,cn,if_false] at hj ⊢
    exact hc.sep i j oi oj cQ hi hj b hb
theorem lX {id:Nat} {ob Fu:ao} (dZ:h id=some ob) (ht:∀b∈ar β id Fu,b∈ar β id ob) {b:Nat} (hb:Av (aD h id (some Fu)) β b):Av h β b:=by
 rcases hb with ⟨j,oj,hj,bz⟩ | hb
 case inr=>exact .inr hb
 by_cases cn:j=id
 ·subst cn
  simp only[aD,if_true,aa] at hj
  subst hj
  exact .inl ⟨j,ob,dZ,ht b bz⟩
 ·simp only[aD,cn,if_false] at hj
  exact .inl ⟨j,oj,hj,bz⟩
theorem iy {t:TypeId} {b off:Nat} {x:Value} {i:TypeInfo} (hi:P.info? t=some i) (dF:i.size=x.cells.size) {w':World} (bA:(storeCells ⟨b,off,none⟩ x.cells.toList 0).run P w= .ok () w'):
  (Instr.storeAt t (.pointer (some ⟨b,off,none⟩)) x).run P w= .ok () w':=by
 simp [Instr.storeAt,Instr.sureAddr,storeVar,sizeOf,typeInfo,hi,dF,bA]
theorem m9 {av:Nat→Prop} {cells bT:List SV} {vs us:List Value} {off:Nat} (h1:ah w av β cells vs) (h2:ah w av β bT us) (hl:us.length=bT.length):
  ah w av β (cN cells off bT) (vs.take off++(us++vs.drop (off+us.length))):=by
 unfold cN
 refine ah.append _ _ _ _ (ah.take _ _ _ h1) (ah.append _ _ _ _ h2 ?_)
 rw[hl]
 exact ah.drop _ _ _ h1
theorem lC (hR:Rel w0 S st a w) (hd:∀d,o.dst=some d→bn st.n d) {t t':TypeId} {x y:Operand} (ho:o.op= .store t x y) {id off:Nat} {sy:SV} {bT cells:List SV}
  (h1:(cm x).val st.get st.obj=some (.ptr id off)) (h2:(cm y).val st.get st.obj=some sy) (fI:(aG sy).val st.get st.obj=some bT) (dF:bb P t bT.length=true)
  (aS:st.obj id=some (.box t' cells)) (dX:off+bT.length≤cells.length) (he:e= {sv:= .undef,cw:=some (id,off,bT)}):Good P w0 S st o e a w:=by
 subst he
 obtain⟨i,hi,bD⟩:=ba dF
 obtain⟨β,φ,hc⟩:=hR.core
 have hx:=hc.ev h1
 simp only[aq] at hx
 obtain⟨f8,bk⟩:=dU (hc.ev h2) fI
 obtain⟨vs,hh,hr,mu,kA⟩:=hc.aC id _ aS
 have hl:=ah.length _ _ hr
 have ka:=ah.length _ _ f8
 have mU:(a.eval y).cells.size=bT.length:=by simpa using ka
 have bA:=bV P (β.da id) off t' (0,0) (a.eval y).cells.toList 0 vs.toArray w hh (by simp) (by simp;omega) bk
 simp only[Nat.add_zero] at bA
 have Mn:fc (some (id,off,bT)) st.obj=aD st.obj id (some (.box t' (cN cells off bT))):=by simp only[fc,aS]
 have GQ:=hc.fresh id _ aS
 have cX:∀b,Av (aD st.obj id (some (.box t' (cN cells off bT)))) β b→Av st.obj β b:=fun b hb=>lX aS (by simp [ar]) hb
 have GM:∀(ss:List SV) (us:List Value),ah w (Av st.obj β) β ss us→∀cs,ah (w.setRow (β.da id) cs) (Av (aD st.obj id (some (.box t' (cN cells off bT)))) β) β ss us:=by
  intro ss us HJ cs
  exact ah.mono (by simp) (fun b _ hb=>setRow_other w _ b cs (fun e=>hb (e ▸ .inl ⟨id,_,aS,by simp [ar]⟩))) (fun b hb=> .inl (cX b hb)) ss us HJ (fun _ _=>⟨rfl,rfl⟩)
 refine iF hR hd (w':=w.setRow (β.da id) (vs.take off++((a.eval y).cells.toList++vs.drop (off+(a.eval y).cells.toList.length))).toArray) ?_ (hR.kept.setRow (GQ.2 (β.da id) (by rw[kA];simp)).1 _) ⟨β,aD φ id [β.da id], ?_,by simp [aq]⟩
 ·simp [execOp,ho,hx,iy hi (bD.trans mU.symm) bA]
 ·show Core w0 S st.get (fo [] (fc (some (id,off,bT)) st.obj)) _ _ _ _
  simp only[fo,Mn]
  refine hc.rewrite aS (by simp [ar]) (by simp [ar]) ?_ (by simp) ?_
  ·refine⟨_,setRow_heap w _ _ _ _ _ hh,m9 (GM _ _ hr _) (GM _ _ f8 _) ka, ?_,rfl⟩
   intro z hz
   simp only[List.mem_append] at hz
   rcases hz with hz | hz | hz
   ·exact mu z (List.mem_of_mem_take hz)
   ·exact bk z hz
   ·exact mu z (List.mem_of_mem_drop hz)
  ·intro b hb
   have aB:b∈φ id:=by rw[kA];exact hb
   exact⟨GQ.2 b aB,fun j oj hj je=>hc.sep id j _ _ (Ne.symm hj) aS je b aB⟩
theorem b_ {aE:List (List Nat)} {i:Nat} (hi:i<aE.length) (x:List Nat):(aE.set i x).flatten=(aE.take i).flatten++(x++(aE.drop (i+1)).flatten):=by
 rw[List.set_eq_take_append_cons_drop,if_pos hi]
 simp
theorem bE {aE:List (List Nat)} {i:Nat} (hi:i<aE.length):aE.flatten=(aE.take i).flatten++(aE[i]++(aE.drop (i+1)).flatten):=by
 have:=b_ hi aE[i]
 rwa [List.set_getElem_self] at this
theorem dS.set {ct:List CT} {rows:List (List DC)} {vals:List Value} {aE:List (List Nat)} (di:dS w ct rows vals aE) (hl:vals.length=rows.length*ct.length) {i:Nat} (hi:i<rows.length)
  {off:Nat} {ds:List DC} {us:List Value} {fp:List Nat} (mr:off+us.length≤ct.length) (kc:bf w ((ct.drop off).take us.length) ds (fun j=>us[j]?) fp):
  ∃p1 p2 p3,aE[i]? =some (p1++(p2++p3))∧dS w ct (rows.set i (bX (rows.getD i []) off ds)) (vals.take (i*ct.length+off)++(us++vals.drop (i*ct.length+off+us.length))) (aE.set i (p1++(fp++p3))):=by
 have FZ:i<aE.length:=by rw[di.1];exact hi
 have eP:=di.2 i (rows.getD i []) aE[i] (cI hi) (by simp)
 generalize rows.getD i []=r at eP ⊢
 have BG:ct=ct.take off++((ct.drop off).take us.length++ct.drop (off+us.length)):=by
  rw[←List.drop_drop,List.take_append_drop,List.take_append_drop]
 have GJ:(ct.take off).length=off:=by simp;omega
 have ka:((ct.drop off).take us.length).length=us.length:=by simp;omega
 have Mk:ds.length=us.length:=by rw[bf.length _ _ _ _ kc,ka]
 have Jb:bf w (ct.take off++((ct.drop off).take us.length++ct.drop (off+us.length))) r (fun j=>vals[i*ct.length+j]?) aE[i]:=by
  rw[←BG]
  exact eP
 obtain⟨p1,q,r1,r2,hq⟩:=bf.split _ _ _ _ _ Jb
 obtain⟨p2,p3,r3,r4,rfl⟩:=bf.split _ _ _ _ _ r2
 rw[GJ] at r1 r2 r3 r4
 rw[ka] at r3 r4
 have JN:i*ct.length+ct.length≤vals.length:=by
  rw[hl,←Nat.succ_mul]
  exact Nat.mul_le_mul_right _ hi
 refine⟨p1,p2,p3,by rw[List.getElem?_eq_getElem FZ,hq],by simp [di.1],fun k r' f' hk hf=> ?_⟩
 have lJ:∀j,(vals.take (i*ct.length+off)++(us++vals.drop (i*ct.length+off+us.length)))[j]? =
   if j<i*ct.length+off then vals[j]? else if j<i*ct.length+off+us.length then us[j - (i*ct.length+off)]? else vals[j]? :=by
  intro j
  have ht:(vals.take (i*ct.length+off)).length=i*ct.length+off:=by simp;omega
  split
  ·rename_i hj
   rw[List.getElem?_append_left (by omega),List.getElem?_take,if_pos hj]
  ·rename_i hj
   rw[List.getElem?_append_right (by omega),ht]
   split
   ·rw[List.getElem?_append_left (by omega)]
   ·rw[List.getElem?_append_right (by omega),List.getElem?_drop]
    congr 1
    omega
 by_cases Al:k=i
 ·subst Al
  rw[List.getElem?_set_self hi] at hk
  rw[List.getElem?_set_self FZ] at hf
  simp only[aa] at hk hf
  subst hk hf
  have:=bf.join (w:=w) (ct.take off) ((ct.drop off).take us.length++ct.drop (off+us.length)) (r.take off) (ds++r.drop (off+ds.length))
   (fun j=>(vals.take (k*ct.length+off)++(us++vals.drop (k*ct.length+off+us.length)))[k*ct.length+j]?) p1 (fp++p3) ?_ ?_
  ·rw[←BG] at this
   exact this
  ·refine bt.bf.jo ?_ r1
   intro j u hj Bq
   rw[GJ] at hj
   simp only[lJ]
   rw[if_pos (by omega)]
   exact Bq
  ·refine bf.join _ _ _ _ _ _ _ ?_ ?_
   ·refine bt.bf.jo ?_ kc
    intro j u hj Bq
    rw[ka] at hj
    simp only[GJ,lJ]
    rw[if_neg (by omega),if_pos (by omega),←Bq]
    congr 1
    omega
   ·rw[Mk]
    simp only[List.drop_drop] at r4
    refine bt.bf.jW ?_ r4
    intro j u Bq
    simp only[GJ,ka,lJ]
    rw[if_neg (by omega),if_neg (by omega)]
    rw[←Bq]
 ·rw[List.getElem?_set_ne (Ne.symm Al)] at hk hf
  refine bt.bf.jo ?_ (di.2 k r' f' hk hf)
  intro j u hj Bq
  have FI:k<rows.length:=(List.getElem?_eq_some_iff.1 hk).1
  rw[lJ]
  rcases Nat.lt_or_ge k i with cz | EM
  ·have:k*ct.length+ct.length≤i*ct.length:=by rw[←Nat.succ_mul];exact Nat.mul_le_mul_right _ cz
   rw[if_pos (by omega)]
   exact Bq
  ·have:i*ct.length+ct.length≤k*ct.length:=by rw[←Nat.succ_mul];exact Nat.mul_le_mul_right _ (by omega)
   rw[if_neg (by omega),if_neg (by omega)]
   exact Bq
end
end Go.Proofs.YtnlkklmcfafgeaaGreat.Vm
namespace Go.Proofs.YtnlkklmcfafgeaaGreat.Vm
theorem iA {α:Type} (l us:List α) (o m:Nat) (h1:o+us.length≤m) (h2:m≤l.length):
  (l.take o++(us++l.drop (o+us.length))).take m=(l.take m).take o++(us++(l.take m).drop (o+us.length)):=by
 rw[List.take_append,List.take_append]
 have e1:(l.take o).length=o:=by simp;omega
 rw[e1]
 have e2:(l.take o).take m=(l.take m).take o:=by rw[List.take_take,List.take_take,Nat.min_comm]
 have e3:us.take (m - o)=us:=List.take_of_length_le (by omega)
 rw[e2,e3]
 congr 2
 rw[List.drop_take]
 congr 1
 omega
section
variable {P:Program} {Γ:Ctx} {w0:World} {S:Own} {st:St} {o:Oper} {e:cS} {a:Act} {w:World}
variable {f:Nat→SV} {h:Nat→Option ao} {β:Env} {φ:Nat→List Nat} {tm:Array Value}
theorem gK {A p1 p2 p3 B n:List Nat} (h:(A++((p1++(p2++p3))++B)).Nodup) (hn:n.Nodup) (hd:∀b∈n,b ∉ A++((p1++(p2++p3))++B)):(A++((p1++(n++p3))++B)).Nodup:=by
 have h1:((A++p1)++(p3++B)).Nodup:=by
  refine List.Sublist.nodup ?_ h
  simp only[List.append_assoc]
  refine List.Sublist.append (List.Sublist.refl _) (List.Sublist.append (List.Sublist.refl _) ?_)
  exact List.sublist_append_right _ _
 have h2:(n++((A++p1)++(p3++B))).Nodup:=by
  rw[List.nodup_append]
  refine⟨hn,h1,fun b hb c hP DI=> ?_⟩
  subst DI
  refine hd b hb ?_
  simp only[List.mem_append] at hP ⊢
  rcases hP with (hP | hP) | hP | hP<;>simp [hP]
 refine (List.Perm.nodup_iff ?_).1 h2
 have:A++((p1++(n++p3))++B)=(A++p1)++(n++(p3++B)):=by simp
 rw[this]
 exact (List.perm_append_comm_assoc _ _ _)
theorem lD (hR:Rel w0 S st a w) (hd:∀d,o.dst=some d→bn st.n d) {t t':TypeId} {x y:Operand} (ho:o.op= .store t x y) {id i off:Nat} {sy:SV} {bT:List SV} {ct:List CT} {rows:List (List DC)} {fz u:Bool} {r:List DC×fg×Bool}
  (h1:(cm x).val st.get st.obj=some (.ey id i ct.length off)) (h2:(cm y).val st.get st.obj=some sy) (fI:(aG sy).val st.get st.obj=some bT) (dF:bb P t bT.length=true)
  (aS:st.obj id=some (.row t' ct rows fz u)) (dX:off+bT.length≤ct.length) (hr:(cq ((ct.drop off).take bT.length) bT).val st.get st.obj=some r) (Bs:bW id r.2.1=true) (hnd:aU r.2.1=true)
  (hi:i<rows.length) (kT:e.cw=none) (BO:e.sv= .undef)
  (how:e.ow=(id,some (.row t' ct (rows.set i (bX (rows.getD i []) off r.1)) fz (u && r.2.2)))::al r.2.1):Good P w0 S st o e a w:=by
 obtain⟨ti,F8,bD⟩:=ba dF
 obtain⟨β,φ,hc⟩:=hR.core
 have hx:=hc.ev h1
 simp only[aq] at hx
 obtain⟨g,hg,hx⟩:=hx
 obtain⟨f8,bk⟩:=dU (hc.ev h2) fI
 have ka:=ah.length _ _ f8
 have mU:(a.eval y).cells.size=bT.length:=by simpa using ka
 obtain⟨fp,kc,ku,IB,Hq⟩:=d9 hc _ _ _ r f8 hr
 have jI:=hc.gC r.2.1 ku hnd
 have BL:=gH Bs
 have hX:fo (al r.2.1) st.obj id=some (.row t' ct rows fz u):=by rw[bR BL];exact aS
 have jF:∀b∈fp,¬Av (fo (al r.2.1) st.obj) β b:=by
  intro b hb
  rcases IB b hb with h1 | ⟨z,hz,H4⟩
  ·exact fun h2=>h1 (gb h2)
  ·exact dK hc ku hz H4
 obtain⟨vals,aE,bd,di,lx,kA⟩:=jI.aC id _ hX
 have kV:g∈ar β id (.row t' ct rows fz u):=by simp [ar,hg]
 rcases bd.2 with ⟨hv,h0,_⟩ | ⟨g',cap,cur,hv,hh,AZ,D3,ml,E8⟩
 ·omega
 have Hr:g'=g:=by simpa [hv,Value.ownBlock] using hg
 subst Hr
 have hlen:i*ct.length+ct.length≤rows.length*ct.length:=by rw[←Nat.succ_mul];exact Nat.mul_le_mul_right _ hi
 have BK:rows.length*ct.length≤cap*ct.length:=Nat.mul_le_mul_right _ AZ
 have EL:∀j,j<cur.size→¬((bif fz then (cur.size,cur.size+1) else ((0,0):Nat×Nat)).1≤j∧j<(bif fz then (cur.size,cur.size+1) else ((0,0):Nat×Nat)).2):=by
  intro j hj
  cases fz<;>simp<;>omega
 have Dk:(a.eval y).cells.toList.length=bT.length:=by simpa using mU
 have bA:=bV P g' (i*ct.length+off) t' _ (a.eval y).cells.toList 0 cur w hh EL (by rw[Dk,ml];omega) bk
 simp only[Nat.add_zero] at bA
 generalize gu:(a.eval y).cells.toList=us at*
 rw[←Dk] at dX kc
 obtain⟨p1,p2,p3,Ko,mo⟩:=di.set bd.1 hi dX kc
 have FZ:i<aE.length:=by rw[di.1];exact hi
 have EK:aE[i]=p1++(p2++p3):=by simpa [FZ] using Ko
 have Dj:∀b∈(aE.set i (p1++(fp++p3))).flatten,b∈aE.flatten∨b∈fp:=by
  intro b hb
  rw[b_ FZ] at hb
  rw[bE FZ,EK]
  simp only[List.mem_append] at hb ⊢
  rcases hb with hb | (hb | hb | hb) | hb<;>simp [hb]
 have iS:∀b∈(aE.set i (p1++(fp++p3))).flatten,¬Av (fo (al r.2.1) st.obj) β b:=by
  intro b hb
  rcases Dj b hb with hb | hb
  ·exact lx b hb
  ·exact jF b hb
 have bG:=jI.fresh id _ hX
 have mn:(cur.toList.take (i*ct.length+off)++(us++cur.toList.drop (i*ct.length+off+us.length))).length=cur.size:=by
  simp only[fv,List.length_take,List.length_drop,Array.length_toList]
  rw[ml]
  omega
 have An:∀b∈ar β id (.row t' ct (rows.set i (bX (rows.getD i []) off r.1)) fz (u && r.2.2)),b∈ar β id (.row t' ct rows fz u):=fun b hb=>hb
 refine iF hR hd (w':=w.setRow g' (cur.toList.take (i*ct.length+off)++(us++cur.toList.drop (i*ct.length+off+us.length))).toArray) ?_
  (hR.kept.setRow (bG.2 g' (ak (jI.aC id _ hX) g' kV)).1 _)
  ⟨β,aD (bu φ r.2.1) id ((β.val id).ownBlock.toList++(bif (u && r.2.2) then (aE.set i (p1++(fp++p3))).flatten else [])), ?_,by rw[BO];simp [aq]⟩
 ·have:=iy (P:=P) (t:=t) (b:=g') (off:=i*ct.length+off) (x:=a.eval y) F8 (bD.trans mU.symm) (by rw[gu];exact bA)
  simp [execOp,ho,hx,this]
 ·rw[how,kT]
  show Core w0 S st.get (aD (fo (al r.2.1) st.obj) id (some (.row t' ct (rows.set i (bX (rows.getD i []) off r.1)) fz (u && r.2.2)))) _ _ _ _
  refine jI.rewrite hX kV An ?_ ?_ ?_
  ·refine⟨vals.take (i*ct.length+off)++(us++vals.drop (i*ct.length+off+us.length)),aE.set i (p1++(fp++p3)),⟨?_,.inr ⟨g',cap,(cur.toList.take (i*ct.length+off)++(us++cur.toList.drop (i*ct.length+off+us.length))).toArray,by simpa using hv, ?_,by simpa using AZ,D3,by simpa [mn] using ml, ?_⟩⟩, ?_, ?_,rfl⟩
   ·have:=bd.1
    simp only[fv,List.length_take,List.length_drop,List.length_set]
    omega
   ·rw[setRow_heap w _ _ _ _ _ hh]
    simp only[List.size_toArray,mn]
   ·simp only[List.length_set]
    rw[iA _ _ _ _ (by omega) (by simp only[Array.length_toList];omega),E8]
   ·refine mo.mono (by simp) (fun b hb=>setRow_other w g' b _ (fun e=>iS b hb (e ▸ .inl ⟨id,_,hX,kV⟩)))
   ·exact fun b hb hx=>iS b hb (lX hX An hx)
  ·have A0:(β.val id).ownBlock.toList.Nodup:=by cases (β.val id).ownBlock<;>simp
   cases gP:(u && r.2.2) with
   | false=>simpa using A0
   | true=>
    simp only[aw] at gP
    have HL:bu φ r.2.1 id=(β.val id).ownBlock.toList++aE.flatten:=by rw[kA,gP.1];rfl
    have Hx:=bG.1
    rw[HL,bE FZ,EK,List.nodup_append] at Hx
    obtain⟨JS,Hy,IV⟩:=Hx
    have Kp:=(Hq gP.2).2 hnd
    have Hp:∀b∈fp,b ∉ bu φ r.2.1 id:=by
     intro b hb mi
     obtain⟨z,hz,H4⟩:=(Hq gP.2).1 b hb
     obtain⟨_,h3,_⟩:=ku z hz
     rw[dc BL] at mi
     exact hc.sep z.1 id _ _ (BL z hz) h3 aS b H4 mi
    rw[HL,bE FZ,EK] at Hp
    simp only[aj]
    rw[b_ FZ,List.nodup_append]
    refine⟨JS,gK Hy Kp (fun b hb aB=>Hp b hb (aK _ aB)),fun b hb c hP DI=> ?_⟩
    subst DI
    simp only[List.mem_append] at hP
    rcases hP with hP | (hP | hP | hP) | hP
    ·exact IV b hb b (by simp [hP]) rfl
    ·exact IV b hb b (by simp [hP]) rfl
    ·exact Hp b hP (aT _ hb)
    ·exact IV b hb b (by simp [hP]) rfl
    ·exact IV b hb b (by simp [hP]) rfl
  ·intro b hb
   have lN:b∈bu φ r.2.1 id→((w0.heap.size≤b∨S b)∧b<w.heap.size)∧∀j oj,j≠id→fo (al r.2.1) st.obj j=some oj→b ∉ bu φ r.2.1 j:=fun aB=>
    ⟨bG.2 b aB,fun j oj hj je=>jI.sep id j _ _ (Ne.symm hj) hX je b aB⟩
   rcases List.mem_append.1 hb with hb | hb
   ·exact lN (by rw[kA];exact aT _ hb)
   ·cases gP:(u && r.2.2) with
    | false=>simp [gP] at hb
    | true=>
     simp only[gP,aj] at hb
     simp only[aw] at gP
     rcases Dj b hb with hb | hb
     ·exact lN (by rw[kA,gP.1];exact aK _ hb)
     ·obtain⟨z,hz,H4⟩:=(Hq gP.2).1 b hb
      obtain⟨_,h3,_⟩:=ku z hz
      refine⟨(hc.fresh z.1 _ h3).2 b H4,fun j oj hj je=> ?_⟩
      by_cases BJ:∃k∈r.2.1,k.1=j
      ·rw[hO BJ];simp
      ·have CC:∀k∈r.2.1,k.1≠j:=fun k hk e=>BJ ⟨k,hk,e⟩
       rw[bR CC] at je
       rw[dc CC]
       exact hc.sep z.1 j _ _ (CC z hz) h3 je b H4
end
end Go.Proofs.YtnlkklmcfafgeaaGreat.Vm
namespace Go.Proofs.YtnlkklmcfafgeaaGreat.Vm
theorem De {w:World} :∀(ct:List CT) (r:List DC) (f:Nat→Option Value) (fp:List Nat),ax ct=true→bf w ct r f fp→fp=[]
 | [],_,_,_,_,h=>by simp only[bf] at h;exact h.2
 | c::cs,_,_,_,hf,h=>by
  simp only[bf] at h
  obtain⟨d,r',v,f1,f2,rfl,_,h1,h2,rfl⟩:=h
  have h0:f1=[]∧ax cs=true:=by
   cases c with
   | int k=>simp only[cd] at h1;obtain⟨n,_,_,_,e⟩:=h1;exact⟨e,by simpa [ax] using hf⟩
   | bool=>simp only[cd] at h1;obtain⟨n,_,_,e⟩:=h1;exact⟨e,by simpa [ax] using hf⟩
   | str=>simp only[cd] at h1;obtain⟨n,_,_,_,e⟩:=h1;exact⟨e,by simpa [ax] using hf⟩
   | sl e=>simp [ax] at hf
  rw[h0.1,De cs _ _ _ h0.2 h2]
  rfl
theorem dS.flat {w:World} {ct:List CT} {rows:List (List DC)} {vals:List Value} {aE:List (List Nat)} (h:dS w ct rows vals aE) (hf:ax ct=true):aE.flatten=[]:=by
 rw[List.flatten_eq_nil_iff]
 intro l hl
 obtain⟨i,hi,rfl⟩:=List.getElem_of_mem hl
 have dY:i<rows.length:=by have:=h.1;omega
 exact De ct _ _ _ hf (h.2 i rows[i] aE[i] (by simp) (by simp))
theorem kJ {w:World} {ct:List CT} {r:List (List DC)} {q:Option Addr} {m c:Nat} {fp:List Nat} (h:cd w (.sl ct) (.sl r) (.slice q m c) fp) (hp:0<ct.length):
  m=r.length∧∃(news:List Value) (aE:List (List Nat)),news.length=m*ct.length∧(q=none→m=0)∧(∀ad,q=some ad→∀j u,news[j]? =some u→w.cell? (ad.add j)=some u)∧(∀x∈news,x.oneCell'=true)∧
   dS w ct r news aE∧(∀b∈aE.flatten,b∈fp)∧(fp.Nodup→aE.flatten.Nodup):=by
 obtain⟨q',m',c',hv,hn,hc,hm,iY⟩:=dk h
 injection hv with e1 e2 e3
 subst e1 e2 e3
 refine⟨hn.symm, ?_⟩
 rcases iY with ⟨h0,rfl⟩ | ⟨jM,b,o,aE,rfl,cz,eF,rfl,eP⟩
 ·have hr:r=[]:=by simpa [h0] using hn
  subst hr
  exact⟨[],[],by simp [h0],fun _=>h0,by simp,by simp,dS.nil,by simp,by simp⟩
 ·have cellAt:∀j,j<m*ct.length→∃u,w.cell? ⟨b,o+j,none⟩=some u∧u.oneCell'=true:=by
   intro j hj
   have h1:j / ct.length<r.length:=by rw[hn];exact Nat.div_lt_of_lt_mul (by rw[Nat.mul_comm];exact hj)
   have h2:j % ct.length<ct.length:=Nat.mod_lt _ hp
   have hf:j / ct.length<aE.length:=by omega
   obtain⟨u,BD,e1,e2,_⟩:=bf.get _ _ _ _ (j % ct.length) ct[j % ct.length] (eP (j / ct.length) r[j / ct.length] aE[j / ct.length] (by simp) (by simp)) (by simp)
   refine⟨u, ?_,e2.one⟩
   have:j / ct.length*ct.length+j % ct.length=j:=by rw[Nat.mul_comm];exact Nat.div_add_mod j ct.length
   rw[this] at e1
   exact e1
  refine⟨(List.range (m*ct.length)).map (fun j=>(w.cell? ⟨b,o+j,none⟩).getD undef),aE,by simp,by simp, ?_, ?_,⟨by omega, ?_⟩,fun x hx=>List.mem_cons_of_mem _ hx,fun hn=>(List.nodup_cons.1 hn).2⟩
  ·intro ad H3 j u hj
   injection H3 with H3
   subst H3
   rw[dw]
   have Hu:j<m*ct.length:=by
    have:=(List.getElem?_eq_some_iff.1 hj).1
    simpa using this
   obtain⟨u',CE,_⟩:=cellAt j Hu
   simp [Hu,CE] at hj
   rw[CE,hj]
  ·intro x hx
   simp only[List.mem_map,List.mem_range] at hx
   obtain⟨j,hj,rfl⟩:=hx
   obtain⟨u',CE,ho⟩:=cellAt j hj
   rw[CE]
   exact ho
  ·intro i r' f' hi hf
   refine bt.bf.jo ?_ (eP i r' f' hi hf)
   intro j u hj Bq
   have EP:i<m:=by have:=(List.getElem?_eq_some_iff.1 hi).1;omega
   have:i*ct.length+j<m*ct.length:=by
    have:i*ct.length+ct.length≤m*ct.length:=by rw[←Nat.succ_mul];exact Nat.mul_le_mul_right _ EP
    omega
   simp [this,Bq]
section
variable {P:Program} {Γ:Ctx} {w0:World} {S:Own} {st:St} {o:Oper} {e:cS} {a:Act} {w:World}
variable {f:Nat→SV} {h:Nat→Option ao} {β:Env} {φ:Nat→List Nat} {tm:Array Value}
theorem run_append_nil (base:Nat) (t ty et:TypeId) (i:TypeInfo) (size:Nat) (ht:P.underlying t=some (.slice et)) (hi:P.info? et=some i)
  (v:Value) (n:Nat) (xs:List Value) (bd:w.ownsRow base et size v n xs) (c:Nat):(Builtin.append_ #[t,t] ty #[v,.slice none 0 c]).run P w= .ok v w:=by
 rcases bd.2 with ⟨rfl,rfl⟩ | ⟨g,cap,cur,rfl,_,_,AZ,_⟩
 ·simp [Builtin.append_,run_underlying ht,sizeOf,typeInfo,hi,Builtin.lenOf,Builtin.firstCells]
 ·simp [Builtin.append_,run_underlying ht,sizeOf,typeInfo,hi,Builtin.lenOf,Builtin.firstCells,AZ,storeCells]
theorem B0 {t:TypeId} {i:TypeInfo} {n:Nat} (hi:P.info? t=some i) (h:fD P t n=true):n*i.bytes≤140737488355328∧n≤maxLen:=by
 simp only[fD,hi,aw,eX] at h
 exact⟨h.1,by simp only[maxLen];omega⟩
theorem ja {t ty et:TypeId} {i:TypeInfo} {zv:Value} {ct:List CT} (ht:P.underlying t=some (.slice et)) (hi:P.info? et=some i) (hz:i.zero=some zv) (dF:i.size=ct.length) (Lj:zv.cells.size=ct.length) (hp:0<ct.length)
  {v:Value} {n:Nat} {vals:List Value} (bd:cx w et ct.length false v n vals) {q:Option Addr} {m c:Nat} {news:List Value} (hl:news.length=m*ct.length) (hq:q=none→m=0)
  (IZ:∀ad,q=some ad→∀j u,news[j]? =some u→w.cell? (ad.add j)=some u) (h1:∀x∈news,x.oneCell'=true) (eO:fD P et (n+m)=true):
  ∃v' w',(Builtin.append_ #[t,t] ty #[v,.slice q m c]).run P w= .ok v' w'∧cx w' et ct.length false v' (n+m) (vals++news)∧w.grownBy w' v.ownBlock∧(v'.ownBlock=v.ownBlock∨v'.ownBlock=some w.heap.size):=by
 obtain⟨hb,hm⟩:=B0 hi eO
 cases q with
 | none=>
  have Mz:=hq rfl
  subst Mz
  have hn:news=[]:=by simpa using hl
  subst hn
  exact⟨v,w,run_append_nil 0 t ty et i ct.length ht hi v n vals bd.owns c,by simpa using bd,⟨rfl,rfl,rfl,Nat.le_refl _,fun _ _ _=>rfl⟩,.inl rfl⟩
 | some ad=>
  obtain⟨v',w',hr,h2,h3,_,h5⟩:=run_append_own_at (P:=P) w 0 t ty et i zv ct.length i.bytes ht hi hz dF rfl Lj hp v n vals bd.owns ad m c news hl (IZ ad rfl) h1 hm hb (Nat.zero_le _)
  exact⟨v',w',hr,cx.HV h2,h3,h5⟩
theorem Kept.grown (hk:Kept S w0 w) {w':World} {row:Option Nat} (hg:w.grownBy w' row) (hr:∀b,row=some b→w0.heap.size≤b∨S b):Kept S w0 w':=
 ⟨hg.os.trans hk.os,hg.tape.trans hk.tape,hg.output.trans hk.output,Nat.le_trans hk.size hg.size,fun k h1 h2=>by
  rw[hg.block k (by have:=hk.size;omega) (fun e=>by rcases hr k e.symm with h | h;omega;exact h2 h)]
  exact hk.block k h1 h2⟩
mutual
theorem Cq:∀(a:CT),kO a a=true
 | .int k=>by simp [kO]
 | .bool=>rfl
 | .str=>rfl
 | .sl e=>by simp only[kO];exact eJ e
theorem eJ:∀(a:List CT),aL a a=true
 | []=>rfl
 | a::l=>by simp only[aL,aw];exact⟨Cq a,eJ l⟩
end
theorem CS {ct:List CT} {s:SV} {q:List (List DC)×fg×Bool} (hq:(lg ct s).val f h=some q):(eV (.sl ct) s).val f h=some (.sl q.1,q.2):=by
 unfold lg at hq
 split at hq
 ·simp only[M.ab,aa] at hq
  subst hq
  simp [eV]
 ·rename_i e' r
  cases hb:aL ct e'
  ·simp [hb] at hq
  ·simp only[hb,aj,M.ab,aa] at hq
   have:=aR _ _ hb
   subst this hq
   simp [eV,eJ]
 ·rename_i id
  simp only[M.a8,af] at hq
  obtain⟨ob,aS,hq⟩:=hq
  split at hq
  ·rename_i t' e' r fz u
   cases hb:aL ct e'
   ·simp [hb] at hq
   ·simp only[hb,aj,M.ab,aa] at hq
    have:=aR _ _ hb
    subst this hq
    simp [eV,aS,eJ]
  ·rename_i e' r
   cases hb:aL ct e'
   ·simp [hb] at hq
   ·simp only[hb,aj,M.ab,aa] at hq
    have:=aR _ _ hb
    subst this hq
    simp [eV,aS,eJ]
  ·simp at hq
 ·simp at hq
theorem j0 (hc:Core w0 S f h β φ tm w) {ct:List CT} {s:SV} {v:Value} {q:List (List DC)×fg×Bool} (hs:aq w (Av h β) β s v) (hq:(lg ct s).val f h=some q):
  ∃fp,cd w (.sl ct) (.sl q.1) v fp∧bZ h q.2.1∧aU q.2.1=true∧(∀b∈fp,(¬Av h β b)∨∃x∈q.2.1,b∈fe h β x.1)∧
   (q.2.2=true→(∀b∈fp,∃x∈q.2.1,b∈φ x.1)∧fp.Nodup):=dH hc hs (CS hq)
theorem Dy {ct:List CT} {m:fg} (hm:bZ h m) (hn:aU m=true):bZ h (bif ax ct then [] else m)∧aU (bif ax ct then [] else m)=true:=by
 cases ax ct
 ·exact⟨hm,hn⟩
 ·exact⟨by simp [bZ],rfl⟩
theorem kS {ct:List CT} {m:fg} :(bif ax ct then [] else al m)=al (bif ax ct then [] else m):=by cases ax ct<;>rfl
theorem kF (hR:Rel w0 S st a w) {d:Nat} (aX:o.dst=some d) (hd:bn st.n d) (ca:bL st d) {t et:TypeId} {s x:Operand} {c:Call} (ho:o.op= .call c) (hb:c.callee= .builtin .append) (cD:c.args= #[s,x])
  (FX:c.argTypes= #[t,t]) {sx:SV} {ct:List CT} {q:List (List DC)×fg×Bool} {z:List SV} (h1:(cm s).val st.get st.obj=some .nil) (h2:(cm x).val st.get st.obj=some sx) (hu:P.underlying t=some (.slice et))
  (dF:bb P et ct.length=true) (hp:0<ct.length) (hz:(dR P et).val st.get st.obj=some z) (jP:z.length=ct.length) (hq:(lg ct sx).val st.get st.obj=some q) (eO:fD P et q.1.length=true)
  (f8:e.sv= .own (ai d 0)) (kT:e.cw=none) (how:e.ow=(ai d 0,some (.row et ct q.1 false (ax ct || q.2.2)))::(bif ax ct then [] else al q.2.1)):Good P w0 S st o e a w:=by
 obtain⟨i,hi,bD⟩:=ba dF
 obtain⟨i',zv,dY,mZ,rfl,_⟩:=dE hz
 rw[hi] at dY
 injection dY with dY
 subst dY
 obtain⟨Jz,JA,Cg⟩:=hR.core
 obtain⟨MW,HG,EY,Hw,_,_⟩:=j0 Cg (Cg.ev h2) hq
 obtain⟨Q,m,cc,GU,MC,_,_,_⟩:=dk HG
 rw[GU] at HG
 obtain⟨IU,news,L6,HB,H7,hcell,bk,Mv,_,_⟩:=kJ HG hp
 have E4:=Cg.ev h1
 simp only[aq] at E4
 have I7:cx w et ct.length false (.slice none 0 0) 0 []:=⟨by simp,.inl ⟨rfl,rfl,rfl⟩⟩
 obtain⟨v',w',bA,gj,dn,jG⟩:=ja (P:=P) (ty:=o.type) (c:=cc) hu hi mZ bD (by simpa using jP) hp I7 HB H7 hcell bk (by rw[IU,Nat.zero_add];exact eO)
 obtain⟨GL,F5⟩:=Dy (ct:=ct) EY Hw
 refine fk hR aX hd ca (m:=bif ax ct then [] else q.2.1) (fz:=false) (u:=ax ct || q.2.2) (vals:=news) (v:=v') (w':=w') ?_ (hR.kept.grown dn (by simp [Value.ownBlock])) dn.size
  (fun b hb=>dn.block b hb (by simp [Value.ownBlock])) ?_ GL F5 ?_ ?_ f8 kT (by rw[how,kS])
 ·simp [execOp,ho,resolve,hb,cD,FX,invoke,builtin,E4,GU,bA]
 ·intro b aB
  rcases jG with h3 | h3
  ·rw[h3] at aB;simp [Value.ownBlock] at aB
  ·rw[h3] at aB;simpa using aB
 ·rw[←IU]
  simpa using gj
 ·intro β φ hc
  obtain⟨fp,kc,ku,Bs,lx,IC⟩:=j0 hc (hc.ev h2) hq
  rw[GU] at kc
  obtain⟨_,Jt,aE,I0,_,Hk,_,di,ie,HC⟩:=kJ kc hp
  have ME:dS w ct q.1 news aE:=by
   refine⟨di.1,fun k r' f' hk hf=> ?_⟩
   refine bt.bf.jo ?_ (di.2 k r' f' hk hf)
   intro j u hj Bq
   have IG:k*ct.length+j<Jt.length:=(List.getElem?_eq_some_iff.1 Bq).1
   cases Q with
   | none=>
    have:m=0:=H7 rfl
    subst this
    simp at I0
    simp [I0] at Bq
   | some ad=>
    have e1:=Hk ad rfl _ _ Bq
    have cz:k*ct.length+j<news.length:=by omega
    have e2:=hcell ad rfl (k*ct.length+j) news[k*ct.length+j] (by simp)
    rw[e1] at e2
    injection e2 with e2
    rw[List.getElem?_eq_getElem cz,←e2]
  refine⟨aE,ME, ?_, ?_⟩
  ·intro b aB
   cases eF:ax ct with
   | true=>rw[di.flat eF] at aB;simp at aB
   | false=>simpa using lx b (ie b aB)
  ·intro CE
   cases eF:ax ct with
   | true=>rw[di.flat eF];simp
   | false=>
    rw[eF,Bool.false_or] at CE
    exact⟨fun b aB=>by simpa using (IC CE).1 b (ie b aB),HC (IC CE).2⟩
theorem kG (hR:Rel w0 S st a w) {d:Nat} (aX:o.dst=some d) (hd:bn st.n d) (ca:bL st d) {t et:TypeId} {s x:Operand} {c:Call} (ho:o.op= .call c) (hb:c.callee= .builtin .append) (cD:c.args= #[s,x])
  (FX:c.argTypes= #[t,t]) {id:Nat} {u:Bool} {r:List (List DC)} {sx:SV} {ct:List CT} {q:List (List DC)×fg×Bool} {z:List SV} (h1:(cm s).val st.get st.obj=some (.own id)) (h2:(cm x).val st.get st.obj=some sx)
  (aS:st.obj id=some (.row et ct r false u)) (hu:P.underlying t=some (.slice et))
  (dF:bb P et ct.length=true) (hp:0<ct.length) (hz:(dR P et).val st.get st.obj=some z) (jP:z.length=ct.length) (hq:(lg ct sx).val st.get st.obj=some q) (KS:bW id q.2.1=true)
  (eO:fD P et (r.length+q.1.length)=true) (f8:e.sv= .own (ai d 0)) (kT:e.cw=none)
  (how:e.ow=(ai d 0,some (.row et ct (r++q.1) false (u && (ax ct || q.2.2))))::(id,none)::(bif ax ct then [] else al q.2.1)):Good P w0 S st o e a w:=by
 obtain⟨i,hi,bD⟩:=ba dF
 obtain⟨i',zv,dY,mZ,rfl,_⟩:=dE hz
 rw[hi] at dY
 injection dY with dY
 subst dY
 obtain⟨β,φ,hc⟩:=hR.core
 obtain⟨fp,kc,EY,Hw,lx,IC⟩:=j0 hc (hc.ev h2) hq
 obtain⟨Q,m,cc,GU,MC,_,_,_⟩:=dk kc
 rw[GU] at kc
 obtain⟨IU,news,mR,HB,H7,hcell,bk,jJ,ie,HC⟩:=kJ kc hp
 obtain⟨GL,F5⟩:=Dy (ct:=ct) EY Hw
 have KR:=gH KS
 have BL:∀y∈(bif ax ct then [] else q.2.1),y.1≠id:=by
  cases ax ct
  ·exact KR
  ·simp
 generalize hM:(bif ax ct then [] else q.2.1)=M' at GL F5 BL
 have jI:=hc.gC M' GL F5
 have hX:fo (al M') st.obj id=some (.row et ct r false u):=by rw[bR BL];exact aS
 obtain⟨vals,aE,bd,di,Ht,kA⟩:=jI.aC id _ hX
 have E4:=hc.ev h1
 simp only[aq] at E4
 obtain⟨v',w',bA,gj,dn,jG⟩:=ja (P:=P) (ty:=o.type) (c:=cc) hu hi mZ bD (by simpa using jP) hp bd HB H7 hcell bk (by rw[IU];exact eO)
 have bM:ai d 0 / 64=d:=cT d 0 (by omega)
 have IE:id≠ai d 0:=fun e=>(ca.obj id _ aS).1 (e ▸ bM)
 have gv:∀j,j≠ai d 0→(β.fY (ai d 0) v').val j=β.val j∧(β.fY (ai d 0) v').da j=β.da j:=by
  intro j hj
  exact⟨by simp [Env.fY,aD,hj],rfl⟩
 have hval:(β.fY (ai d 0) v').val (ai d 0)=v':=by simp [Env.fY,aD]
 have jN:=ak (jI.aC id _ hX)
 have bG:=jI.fresh id _ hX
 have F1:=di.lt
 have F2:=jJ.lt
 have iS:∀b∈mR.flatten,¬Av (fo (al M') st.obj) β b:=by
  intro b aB
  cases eF:ax ct with
  | true=>rw[jJ.flat eF] at aB;simp at aB
  | false=>
   rw[eF,aQ] at hM
   subst hM
   rcases lx b (ie b aB) with h3 | ⟨y,hy,Bm⟩
   ·exact fun h4=>h3 (gb h4)
   ·exact dK hc GL hy Bm
 have CB:(u && (ax ct || q.2.2))=true→∀b∈mR.flatten,∃y∈M',b∈φ y.1:=by
  intro gP b aB
  cases eF:ax ct with
  | true=>rw[jJ.flat eF] at aB;simp at aB
  | false=>
   rw[eF,aQ] at hM
   subst hM
   rw[eF,Bool.false_or,aw] at gP
   exact (IC gP.2).1 b (ie b aB)
 have I2:(u && (ax ct || q.2.2))=true→mR.flatten.Nodup:=by
  intro gP
  cases eF:ax ct with
  | true=>rw[jJ.flat eF];simp
  | false=>
   rw[eF,Bool.false_or,aw] at gP
   exact HC (IC gP.2).2
 have jL:∀j oj,aD (aD (fo (al M') st.obj) id none) (ai d 0) (some (.row et ct (r++q.1) false (u && (ax ct || q.2.2)))) j=some oj→j≠ai d 0→j≠id∧fo (al M') st.obj j=some oj:=by
  intro j oj hj mq
  simp only[aD,mq,if_false] at hj
  split at hj
  ·cases hj
  ·exact⟨by assumption,hj⟩
 have ia:∀b,(β.val id).ownBlock=some b→b∈bu φ M' id:=fun b aB=>jN b (by simp [ar,aB])
 have Ao:∀b∈v'.ownBlock.toList,b∈bu φ M' id∨b=w.heap.size:=by
  intro b aB
  rcases jG with h3 | h3
  ·rw[h3] at aB
   exact .inl (jN b (by simpa [ar] using aB))
  ·rw[h3] at aB
   exact .inr (by simpa using aB)
 have HO:u=true→∀b∈aE.flatten,b∈bu φ M' id:=by
  intro gP b aB
  rw[kA,gP]
  exact aK _ aB
 have BN:∀b,b∈v'.ownBlock.toList++(bif (u && (ax ct || q.2.2)) then (aE++mR).flatten else [])→∀j oj,j≠id→fo (al M') st.obj j=some oj→b ∉ bu φ M' j:=by
  intro b aB j oj hj je bz
  have lN:b∈bu φ M' id→False:=fun h3=>jI.sep id j _ _ (Ne.symm hj) hX je b h3 bz
  rcases List.mem_append.1 aB with aB | aB
  ·rcases Ao b aB with h3 | h3
   ·exact lN h3
   ·have:=((jI.fresh j oj je).2 b bz).2
    omega
  ·cases gP:(u && (ax ct || q.2.2)) with
   | false=>simp [gP] at aB
   | true=>
    simp only[gP,aj,List.flatten_append,List.mem_append] at aB
    rcases aB with aB | aB
    ·rw[aw] at gP
     exact lN (HO gP.1 b aB)
    ·obtain⟨y,hy,Bm⟩:=CB gP b aB
     obtain⟨_,h3,_⟩:=GL y hy
     by_cases BJ:∃k∈M',k.1=j
     ·rw[hO BJ] at bz
      simp at bz
     ·have CC:∀k∈M',k.1≠j:=fun k hk e=>BJ ⟨k,hk,e⟩
      rw[bR CC] at je
      rw[dc CC] at bz
      exact hc.sep y.1 j _ _ (CC y hy) h3 je b Bm bz
 have fU:∀b,b<w.heap.size→(β.val id).ownBlock≠some b→w'.heap[b]? =w.heap[b]? :=fun b aB cQ=>dn.block b aB (fun e=>cQ e.symm)
 have kr:∀b∈(aE++mR).flatten,¬Av (fo (al M') st.obj) β b∧b<w.heap.size:=by
  intro b aB
  simp only[List.flatten_append,List.mem_append] at aB
  rcases aB with aB | aB
  ·exact⟨Ht b aB,F1 b aB⟩
  ·exact⟨iS b aB,F2 b aB⟩
 have AW:∀b,Av (aD (aD (fo (al M') st.obj) id none) (ai d 0) (some (.row et ct (r++q.1) false (u && (ax ct || q.2.2))))) (β.fY (ai d 0) v') b→Av (fo (al M') st.obj) β b∨w.heap.size≤b:=by
  rintro b (⟨j,oj,hj,bz⟩ | hb)
  case inr=>exact .inl (.inr hb)
  by_cases cn:j=ai d 0
  ·subst cn
   simp only[aD,if_true,aa] at hj
   subst hj
   simp only[ar,hval] at bz
   rcases jG with h3 | h3
   ·rw[h3] at bz
    exact .inl (.inl ⟨id,_,hX,by simpa [ar] using bz⟩)
   ·rw[h3] at bz
    right
    have:b=w.heap.size:=by simpa using bz
    omega
  ·obtain⟨_,gi⟩:=jL j oj hj cn
   refine .inl (.inl ⟨j,oj,gi, ?_⟩)
   cases oj<;>simp only[ar,gv j cn] at bz ⊢ <;>exact bz
 refine cg hR (fun d' h'=>by rw[aX] at h';injection h' with h';exact h' ▸ hd) (v:=v') (w':=w') ?_ (hR.kept.grown dn (fun b aB=>(bG.2 b (ia b aB)).1))
  ⟨β.fY (ai d 0) v',aD (bu φ M') (ai d 0) (v'.ownBlock.toList++(bif (u && (ax ct || q.2.2)) then (aE++mR).flatten else [])), ?_, ?_⟩
 ·simp [execOp,ho,resolve,hb,cD,FX,invoke,builtin,E4.1,GU,bA]
 ·rw[how,kT,kS,hM]
  show Core w0 S st.get (aD (aD (fo (al M') st.obj) id none) (ai d 0) (some (.row et ct (r++q.1) false (u && (ax ct || q.2.2))))) _ _ _ _
  refine jI.step (fun j=>j=ai d 0) dn.size (fun b aB hn=>fU b aB (fun e=>hn (.inl ⟨id,_,hX,by simp [ar,e]⟩))) AW
   (fun k j hj e=>ca.slot k j hj (by rw[e];exact bM)) gv ?_ ?_
  ·intro j oj hj
   by_cases cn:j=ai d 0
   ·subst cn
    have gi:=hj
    simp only[aD,if_true,aa] at gi
    subst gi
    refine .inr ⟨?_, ?_, ?_⟩
    ·refine⟨vals++news,aE++mR, ?_, ?_, ?_, ?_⟩
     ·rw[hval]
      have:(r++q.1).length=r.length+m:=by simp [IU]
      rw[this]
      exact gj
     ·exact (di.append bd.1 jJ).mono dn.size (fun b aB=>fU b (kr b aB).2 (fun e=>(kr b aB).1 (.inl ⟨id,_,hX,by simp [ar,e]⟩)))
     ·intro b aB hx
      rcases AW b hx with h3 | h3
      ·exact (kr b aB).1 h3
      ·have:=(kr b aB).2
       omega
     ·rw[hval]
      simp [aD]
    ·simp only[aD,if_true]
     have A0:v'.ownBlock.toList.Nodup:=by cases v'.ownBlock<;>simp
     cases gP:(u && (ax ct || q.2.2)) with
     | false=>simpa using A0
     | true=>
      have GR:u=true:=by rw[aw] at gP;exact gP.1
      have Hx:=bG.1
      rw[kA,GR,aj,List.nodup_append] at Hx
      obtain⟨_,Hy,IV⟩:=Hx
      have JK:((aE++mR).flatten).Nodup:=by
       rw[List.flatten_append,List.nodup_append]
       refine⟨Hy,I2 gP,fun b aB c' hP DI=> ?_⟩
       subst DI
       obtain⟨y,hy,Bm⟩:=CB gP b hP
       obtain⟨_,h3,_⟩:=GL y hy
       have h4:=HO GR b aB
       rw[dc BL] at h4
       exact hc.sep y.1 id _ _ (BL y hy) h3 aS b Bm h4
      rw[aj,List.nodup_append]
      refine⟨A0,JK,fun b aB c' hP DI=> ?_⟩
      subst DI
      rcases jG with h3 | h3
      ·rw[h3] at aB
       exact (kr b hP).1 (.inl ⟨id,_,hX,by simpa [ar] using aB⟩)
      ·rw[h3] at aB
       have h4:b=w.heap.size:=by simpa using aB
       have:=(kr b hP).2
       omega
    ·simp only[aD,if_true]
     intro b aB
     rcases List.mem_append.1 aB with aB | aB
     ·rcases Ao b aB with h3 | h3
      ·have:=bG.2 b h3
       exact⟨this.1,by have:=dn.size;omega⟩
      ·subst h3
       refine⟨.inl hR.kept.size,gj.lt _ aB⟩
     ·cases gP:(u && (ax ct || q.2.2)) with
      | false=>simp [gP] at aB
      | true=>
       simp only[gP,aj,List.flatten_append,List.mem_append] at aB
       have ML:=dn.size
       rcases aB with aB | aB
       ·have GR:u=true:=by rw[aw] at gP;exact gP.1
        have:=bG.2 b (HO GR b aB)
        exact⟨this.1,by omega⟩
       ·obtain⟨y,hy,Bm⟩:=CB gP b aB
        obtain⟨_,h3,_⟩:=GL y hy
        have:=(hc.fresh y.1 _ h3).2 b Bm
        exact⟨this.1,by omega⟩
   ·obtain⟨gD,gi⟩:=jL j oj hj cn
    refine .inl ⟨cn,gi,by simp [aD,cn], ?_, ?_⟩
    ·intro k hk e
     rcases dI gi with h3 | ⟨e',r',rfl,_⟩
     ·exact (ca.obj j oj h3).2 k hk (by rw[e];exact bM)
     ·simp [cK] at hk
    ·intro b aB
     have fK:=ak (jI.aC j oj gi) b aB
     refine fU b ((jI.fresh j oj gi).2 b fK).2 (fun e=> ?_)
     exact jI.sep id j _ _ (Ne.symm gD) hX gi b (ia b e) fK
  ·intro k j ok oj cQ hk hj b aB
   by_cases Hv:k=ai d 0
   ·subst Hv
    have mq:j≠ai d 0:=Ne.symm cQ
    obtain⟨gD,gi⟩:=jL j oj hj mq
    simp only[aD,if_true] at aB
    simp only[aD,mq,if_false]
    exact BN b aB j oj gD gi
   ·obtain⟨Al,Cz⟩:=jL k ok hk Hv
    simp only[aD,Hv,if_false] at aB
    by_cases cn:j=ai d 0
    ·subst cn
     simp only[aD,if_true]
     exact fun h3=>BN b h3 k ok Al Cz aB
    ·obtain⟨gD,gi⟩:=jL j oj hj cn
     simp only[aD,cn,if_false]
     exact jI.sep k j ok oj cQ Cz gi b aB
 ·rw[f8]
  unfold aq
  exact⟨hval.symm,gj.one⟩
end
end Go.Proofs.YtnlkklmcfafgeaaGreat.Vm
namespace Go.Proofs.YtnlkklmcfafgeaaGreat.Vm
theorem BX:∀(ns:List Int) (l:List UInt8),ns.foldl (fun (r:ByteArray) n=>r.push (UInt8.ofNat n.toNat)) ⟨l.toArray⟩=⟨(l++ns.map (fun n=>UInt8.ofNat n.toNat)).toArray⟩
 | [],l=>by simp
 | n::ns,l=>by
  simp only[List.foldl_cons,List.map_cons]
  have:(⟨l.toArray⟩:ByteArray).push (UInt8.ofNat n.toNat)=⟨(l++[UInt8.ofNat n.toNat]).toArray⟩:=by
   apply ByteArray.ext
   simp [ByteArray.push]
  rw[this,BX ns]
  simp
section
variable {P:Program} {Γ:Ctx} {w0:World} {S:Own} {st:St} {o:Oper} {e:cS} {a:Act} {w:World}
variable {f:Nat→SV} {h:Nat→Option ao} {β:Env} {φ:Nat→List Nat} {tm:Array Value}
theorem Bc {rows:List (List DC)} {v:Value} {fp:List Nat} (hr:cd w (.sl [.int .u8]) (.sl rows) v fp):
  (Conv.bytesToString v).run P w= .ok (.string ⟨(rows.map byteOf).toArray⟩) w:=by
 obtain⟨q,m,c,rfl,hn,_,_,iY⟩:=dk hr
 cases q with
 | none=>
  have hm:m=0:=by
   rcases iY with ⟨h0,_⟩ | ⟨_,b,o,aE,h1,_⟩
   ·exact h0
   ·cases h1
  have:rows=[]:=by simpa [hm] using hn
  subst this
  simp [Conv.bytesToString]
  rfl
 | some ad=>
  have IM:(loadCells ad m).run P w= .ok ((rows.map fun r=>(r.headD default).asInt).map (Value.int .u8)).toArray w:=by
   have:=run_loadCells_list (P:=P) (w:=w) ad ((rows.map fun r=>(r.headD default).asInt).map (Value.int .u8)) ?_
   ·simpa [hn] using this
   ·intro j u hj
    rcases iY with ⟨h0,_⟩ | ⟨_,b,o,aE,h1,cz,eF,_,eP⟩
    ·have:rows=[]:=by simpa [h0] using hn
     subst this
     simp at hj
    ·injection h1 with h1
     subst h1
     rw[dw]
     have Hu:j<rows.length:=by
      have:=(List.getElem?_eq_some_iff.1 hj).1
      simpa using this
     have MZ:j<aE.length:=by omega
     have:=eP j rows[j] aE[j] (by simp) (by simp)
     simp only[bf,cd,List.length_singleton,Nat.mul_one,Nat.add_zero] at this
     obtain⟨d,r',v',f1,f2,e1,e2,⟨n,rfl,rfl,_,_⟩,⟨rfl,_⟩,_⟩:=this
     rw[e2]
     simp only[List.map_map,List.getElem?_map,List.getElem?_eq_getElem Hu,e1,Option.map_some,aa] at hj
     simpa [DC.asInt] using hj
  rw[run_bytesToString w ad m c _ IM]
  have:=BX (rows.map fun r=>(r.headD default).asInt) []
  have e0:ByteArray.empty=⟨([]:List UInt8).toArray⟩:=rfl
  rw[e0,this]
  simp [byteOf,Function.comp_def]
theorem C0 (hR:Rel w0 S st a w) (hd:∀d,o.dst=some d→bn st.n d) (ca:e.ow≠[]→∀d,o.dst=some d→bL st d) {s t:TypeId} {x:Operand} (ho:o.op= .convert s t x) {sx:SV}
  (h1:(cm x).val st.get st.obj=some sx) (he:(Eo P o.dst s t sx).val st.get st.obj=some e):Good P w0 S st o e a w:=by
 unfold Eo at he
 split at he
 ·rename_i k src hk hs
  split at he
  ·rename_i k' n
   simp only[M.ab,aa] at he
   subst he
   refine au hR hd rfl rfl fun β φ hc=> ?_
   have hx:=hc.ev h1
   simp only[aq] at hx
   refine⟨.int k (k.wrap n), ?_,by unfold aq;exact⟨rfl,fA _ _⟩⟩
   simp [execOp,ho,hx.1,convert,run_underlying hk,run_underlying hs,Conv.intToInt]
  ·simp at he
 ·rename_i hk hs
  split at he
  ·rename_i l
   simp only[M.ab,aa] at he
   subst he
   refine au hR hd rfl rfl fun β φ hc=> ?_
   have hx:=hc.ev h1
   simp only[aq] at hx
   refine⟨.string ⟨l.toArray⟩, ?_,by unfold aq;exact⟨rfl,hx.2⟩⟩
   simp [execOp,ho,hx.1,convert,run_underlying hk,run_underlying hs]
  ·simp at he
 ·rename_i et hk hs
  split at he
  ·rename_i het
   simp only[M.ag,af,M.ab,aa] at he
   obtain⟨q,hq,rfl⟩:=he
   refine au hR hd rfl rfl fun β φ hc=> ?_
   obtain⟨fp,kc,_⟩:=j0 hc (hc.ev h1) hq
   have bA:=Bc (P:=P) kc
   obtain⟨qa,m,c,hv,hn,AX,hm,_⟩:=dk kc
   refine⟨.string ⟨(q.1.map byteOf).toArray⟩, ?_,by unfold aq;exact⟨rfl,by simp;omega⟩⟩
   rw[hv] at bA
   have:=run_convert_bytes_string (P:=P) w s t et qa m c hs het hk
   simp [execOp,ho,hv,this,bA]
  ·simp at he
 ·rename_i et hk hs
  split at he
  ·rename_i l d het aX
   cases hz:bb P et 1
   ·simp [hz] at he
   simp only[hz,aj,M.ab,aa] at he
   subst he
   obtain⟨Jz,JA,Cg⟩:=hR.core
   have hx:=Cg.ev h1
   simp only[aq] at hx
   have hlen:l.length≤9223372036854775807:=by have:=hx.2;simp only[maxLen] at this;omega
   generalize lv:Question.cut (.appendCap l.length 0 et) (w.tape w.drawn (.appendCap l.length 0 et))=cap
   have Iw:l.length≤cap:=by rw[←lv];simp [Question.cut]
   have Ix:cap≤maxLen:=by
    rw[←lv]
    simp only[Question.cut,maxLen]
    have:=Nat.mod_lt (w.tape w.drawn (.appendCap l.length 0 et)) (show 0<2 ^ 63 - l.length by omega)
    omega
   let cells:Array Value:=(l.map fun b=>Value.int .u8 b.toNat).toArray++Array.replicate (cap - l.length) (.int .u8 0)
   have fI:cells.size=cap:=by simp [cells];omega
   have H8:∀b,b<w.heap.size→(World.freeze (w.drew.alloc (.cells cells et)) ⟨w.heap.size,cap,none⟩ 1).heap[b]? =w.heap[b]? :=by
    intro b hb
    simp only[World.freeze,Nat.one_ne_zero,if_false,Array.getElem?_modify]
    rw[if_neg (by omega)]
    exact alloc_old (w:=w.drew) _ b hb
   have bM:(World.freeze (w.drew.alloc (.cells cells et)) ⟨w.heap.size,cap,none⟩ 1).heap[w.heap.size]? =some (.cells cells et (cells.size,cells.size+1)):=by
    simp only[World.freeze,Nat.one_ne_zero,if_false,Array.getElem?_modify,if_true]
    have:=ep (w:=w.drew) (.cells cells et)
    have e1:w.drew.heap.size=w.heap.size:=rfl
    rw[e1] at this
    rw[this]
    simp [fI]
   have BM:(World.freeze (w.drew.alloc (.cells cells et)) ⟨w.heap.size,cap,none⟩ 1).heap.size=w.heap.size+1:=by simp [World.freeze]
   refine fk hR aX (hd d aX) (ca (by simp) d aX) (m:=[]) (fz:=true) (u:=true) (vals:=l.map fun b=>Value.int .u8 b.toNat) (v:= .slice (some ⟨w.heap.size,0,none⟩) l.length cap)
    (w':=World.freeze (w.drew.alloc (.cells cells et)) ⟨w.heap.size,cap,none⟩ 1) ?_ ?_ (by rw[BM];omega) H8 (by simp [Value.ownBlock]) (by simp [bZ]) rfl ?_ ?_ rfl rfl rfl
   ·have A3:(w.drew.alloc (.cells cells et)).shape? w.heap.size=some (et,cap):=by
     have:=ep (w:=w.drew) (.cells cells et)
     have e1:w.drew.heap.size=w.heap.size:=rfl
     rw[e1] at this
     unfold World.shape?
     rw[this]
     simp [fI]
    simp only[execOp,ho,hx.1,convert,Sem.run_bind,run_underlying hk,run_underlying hs,run_underlying het,Result.andThen_ok,Conv.stringToBytes,run_choose]
    simp only[Question.forced,Bool.false_eq_true,if_false,Result.andThen_ok,dD,lv,newRow,Sem.run_bind,run_newObj,World.drew_eq,World.alloc_eq]
    have AX:(Array.map (fun b:UInt8=>Value.int IntKind.u8 ↑b.toNat) l.toArray++Array.replicate (cap - l.length) (Value.int IntKind.u8 0))=cells:=by simp [cells]
    rw[AX]
    simp [markStringish,A3]
   ·refine⟨hR.kept.os,hR.kept.tape,hR.kept.output,by rw[BM];have:=hR.kept.size;omega,fun k h2 h3=> ?_⟩
    rw[H8 k (by have:=hR.kept.size;omega)]
    exact hR.kept.block k h2 h3
   ·refine⟨by simp,.inr ⟨w.heap.size,cap,cells,by simp,by simpa using bM,by simpa using Iw,Ix,by simp [fI], ?_⟩⟩
    simp [cells]
   ·intro β φ hc
    refine⟨List.replicate l.length [],⟨by simp,fun i r' f' hi hf=> ?_⟩,by simp,by simp⟩
    have EP:i<l.length:=by
     have:=(List.getElem?_eq_some_iff.1 hi).1
     simpa using this
    have E3:r'=cY l[i]:=by simpa [EP] using hi.symm
    have Bo:f'=[]:=by
     have:=hf
     rw[List.getElem?_replicate,if_pos EP] at this
     injection this with this
     exact this.symm
    subst E3 Bo
    unfold cY
    simp only[bf,cd]
    refine⟨.int l[i].toNat,[],.int .u8 l[i].toNat,[],[],rfl, ?_,⟨_,rfl,rfl, ?_,rfl⟩,⟨rfl,rfl⟩,rfl⟩
    ·simp [EP]
    ·rw[eG]
     have h1:IntKind.u8.min=0:=by decide
     have h2:IntKind.u8.max=255:=by decide
     have:=l[i].toNat_lt
     omega
  ·simp at he
 ·simp at he
end
end Go.Proofs.YtnlkklmcfafgeaaGreat.Vm
set_option linter.unusedVariables false
set_option linter.unusedSimpArgs false
namespace Go.Proofs.YtnlkklmcfafgeaaGreat.Vm
def FR (w:World) (k:AK) (ds:List DC) (v:Value) (fp:List Nat):Prop:=
 ∃vs:List Value,(bif k.agg then v= .agg vs.toArray else (vs=[v]∧v.oneCell'=true))∧(∀x∈vs,x.oneCell'=true)∧bf w k.bI ds (fun j=>vs[j]?) fp∧vs.length=k.bI.length
def dv (w:World):List AK→List DC→List Value→List Nat→Prop
 | [],ds,vs,fp=>ds=[]∧vs=[]∧fp=[]
 | k::ks,ds,vs,fp=>∃d1 d2 v cR f1 f2,ds=d1++d2∧vs=v::cR∧FR w k d1 v f1∧dv w ks d2 cR f2∧fp=f1++f2
def dr (w:World):List RC→List DC→List Value→List Nat→List Nat→List Nat→Prop
 | [],ds,vs,φ,im,tp=>ds=[]∧vs=[]∧φ=[]∧im=[]∧tp=[]
 | .ef c::cs,ds,vs,φ,im,tp=>∃d bc v cR f1 Fb,ds=d::bc∧vs=v::cR∧cd w c d v f1∧dr w cs bc cR φ Fb tp∧im=f1++Fb
 | .own t e::cs,ds,vs,φ,im,tp=>∃rows bc v cR vals aE φ' Bk,ds= .sl rows::bc∧vs=v::cR∧cx w t e.length false v rows.length vals∧dS w e rows vals aE∧
   dr w cs bc cR φ' im Bk∧φ=(v.ownBlock.toList++aE.flatten)++φ'∧tp=v.ownBlock.toList++Bk
 | .deep t e ts::cs,ds,vs,φ,im,tp=>∃rows bc v cR vals a7 φ' Bk,ds= .sl rows::bc∧vs=v::cR∧cx w t e.length false v rows.length vals∧bQ w e ts rows vals (fun _=>none) a7∧
   dr w cs bc cR φ' im Bk∧φ=(v.ownBlock.toList++a7.flatten)++φ'∧tp=(v.ownBlock.toList++a7.flatten)++Bk
def fu (w:World):List RK→List DC→List Value→List Nat→List Nat→List Nat→Prop
 | [],ds,vs,φ,im,tp=>ds=[]∧vs=[]∧φ=[]∧im=[]∧tp=[]
 | k::ks,ds,vs,φ,im,tp=>∃d1 d2 v cR us D1 Bl i1 i2 t1 t2,ds=d1++d2∧vs=v::cR∧(bif k.agg then v= .agg us.toArray else us=[v])∧(∀x∈us,x.oneCell'=true)∧dr w k.cells d1 us D1 i1 t1∧
   fu w ks d2 cR Bl i2 t2∧φ=D1++Bl∧im=i1++i2∧tp=t1++t2
def pack:List Value→Value
 | [x]=>x
 | l=> .tuple l.toArray
def D_ (P:Program) (g:Nat) (s:Sum):Prop:=
 (∃fn,P.funcs[g]? =some fn∧fn.body.isSome=true∧(fn.name== "runtime.NumGoroutine")=false)∧
 ∀(w:World) (ds:List DC) (vals:List Value) (fp:List Nat),dv w s.ps ds vals fp→(s.fn ds).1=true→
  Calls P g vals.toArray w fun e w'=>∃vs φ im tp,e= .returned (pack vs)∧Kept Own.none w w'∧fu w' s.rs (s.fn ds).2 vs φ im tp∧φ.Nodup∧
   (∀b∈φ,w.heap.size≤b∧b<w'.heap.size)∧∀b∈im,(b∈fp∨w.heap.size≤b)∧b ∉ tp
def dm (w:World):List CT→List TypeId→List DC→List Value→List Nat→Prop
 | [],ts,ds,us,mb=>ts=[]∧ds=[]∧us=[]∧mb=[]
 | .sl e::cs,ts,ds,us,mb=>∃t ea rows bc v aW vals aE gw,ts=t::ea∧ds= .sl rows::bc∧us=v::aW∧ax e=true∧cx w t e.length false v rows.length vals∧dS w e rows vals aE∧
   dm w cs ea bc aW gw∧mb=v.ownBlock.toList++gw
 | c::cs,ts,ds,us,mb=>∃d bc v aW,ds=d::bc∧us=v::aW∧cd w c d v []∧dm w cs ts bc aW mb
def gT (w:World) (t:TT) (e:List CT) (rows:List (List DC)) (v:Value) (mb:List Nat):Prop:=
 match t with
 | .flat t=>ax e=true∧∃vals aE,cx w t e.length false v rows.length vals∧dS w e rows vals aE∧mb=v.ownBlock.toList
 | .deep t its=>∃vals a7,cx w t e.length false v rows.length vals∧bQ w e its rows vals (fun _=>none) a7∧mb=v.ownBlock.toList++a7.flatten
def aZ (w:World):List CT→List TT→List DC→List Value→List Nat→Prop
 | [],ts,ds,us,mb=>ts=[]∧ds=[]∧us=[]∧mb=[]
 | .sl e::cs,ts,ds,us,mb=>∃t ea rows bc v aW m1 gw,ts=t::ea∧ds= .sl rows::bc∧us=v::aW∧gT w t e rows v m1∧aZ w cs ea bc aW gw∧mb=m1++gw
 | c::cs,ts,ds,us,mb=>∃d bc v aW,ds=d::bc∧us=v::aW∧cd w c d v []∧aZ w cs ts bc aW mb
def i7 (w:World):List CT→List TT→List DC→List Value→List Nat→Prop
 | [],_,ds,us,mb=>ds=[]∧us=[]∧mb=[]
 | .sl e::cs,ts,ds,us,mb=>∃t ea rows bc v aW m1 gw,ts=t::ea∧ds= .sl rows::bc∧us=v::aW∧gT w t e rows v m1∧i7 w cs ea bc aW gw∧mb=m1++gw
 | _::cs,ts,ds,us,mb=>∃v aW,us=v::aW∧i7 w cs ts ds aW mb
def gx (w:World) (k:AK):Option MK→List DC→Value→List Nat→List Nat→Prop
 | none,d,v,f,b=>FR w k d v f∧b=[]
 | some (.box t),d,v,f,b=>∃(g:Nat) (us:List Value),v= .pointer (some ⟨g,0,none⟩)∧w.heap[g]? =some (.cells us.toArray t (0,0))∧(∀x∈us,x.oneCell'=true)∧bf w k.bI d (fun j=>us[j]?) f∧us.length=k.bI.length∧b=[g]
 | some (.rows ts),d,v,f,b=>∃us:List Value,(bif k.agg then v= .agg us.toArray else (us=[v]∧v.oneCell'=true))∧(∀x∈us,x.oneCell'=true)∧aZ w k.bI ts d us b∧f=[]
 | some (.jD ts),d,v,f,b=>∃us:List Value,(bif k.agg then v= .agg us.toArray else (us=[v]∧v.oneCell'=true))∧(∀x∈us,x.oneCell'=true)∧aZ w k.bI ts d us b∧f=[]
 | some (.cP t ts),d,v,f,b=>∃(g:Nat) (us:List Value) (m:List Nat),v= .pointer (some ⟨g,0,none⟩)∧w.heap[g]? =some (.cells us.toArray t (0,0))∧(∀x∈us,x.oneCell'=true)∧aZ w k.bI ts d us m∧b=g::m∧f=[]
def cO (w:World):List AK→List (Option MK)→List DC→List Value→List Nat→List Nat→Prop
 | [],ms,ds,vs,fp,mb=>ms=[]∧ds=[]∧vs=[]∧fp=[]∧mb=[]
 | k::ks,ms,ds,vs,fp,mb=>∃m D7 d1 d2 v cR f1 f2 b1 b2,ms=m::D7∧ds=d1++d2∧vs=v::cR∧gx w k m d1 v f1 b1∧cO w ks D7 d2 cR f2 b2∧fp=f1++f2∧mb=b1++b2
def DB (w:World) (k:AK):Option MK→List DC→Value→List Nat→List Nat→Prop
 | none,d,_,im,b=>d=[]∧im=[]∧b=[]
 | some (.box t),d,v,im,b=>∃(g:Nat) (us:List Value),v= .pointer (some ⟨g,0,none⟩)∧w.heap[g]? =some (.cells us.toArray t (0,0))∧(∀x∈us,x.oneCell'=true)∧bf w k.bI d (fun j=>us[j]?) im∧us.length=k.bI.length∧b=[g]
 | some (.rows ts),d,v,im,b=>∃us:List Value,(bif k.agg then v= .agg us.toArray else us=[v])∧i7 w k.bI ts d us b∧im=[]
 | some (.jD _),d,_,im,b=>d=[]∧im=[]∧b=[]
 | some (.cP t ts),d,v,im,b=>∃(g:Nat) (us:List Value) (m:List Nat),v= .pointer (some ⟨g,0,none⟩)∧w.heap[g]? =some (.cells us.toArray t (0,0))∧(∀x∈us,x.oneCell'=true)∧aZ w k.bI ts d us m∧b=g::m∧im=[]
def lR (w:World):List AK→List (Option MK)→List DC→List Value→List Nat→List Nat→Prop
 | [],_,ds,vs,im,mb=>ds=[]∧vs=[]∧im=[]∧mb=[]
 | k::ks,ms,ds,vs,im,mb=>∃m D7 d1 d2 v cR i1 i2 b1 b2,ms=m::D7∧ds=d1++d2∧vs=v::cR∧DB w k m d1 v i1 b1∧lR w ks D7 d2 cR i2 b2∧im=i1++i2∧mb=b1++b2
def Cm (P:Program) (g:Nat) (s:Sum):Prop:=
 (∃fn,P.funcs[g]? =some fn∧fn.body.isSome=true∧(fn.name== "runtime.NumGoroutine")=false)∧
 ∀(w:World) (ds:List DC) (vals:List Value) (fp mb:List Nat),cO w s.ps s.ms ds vals fp mb→mb.Nodup→(∀b∈mb,b ∉ fp)→(s.fn ds).1=true→
  Calls P g vals.toArray w fun e w'=>∃vs φ im tp mO rd od ψ,e= .returned (pack vs)∧(s.fn ds).2=rd++od∧rd.length=cv s.rs∧Kept ⟨fun b=>b∈mb,fun _=>False,[]⟩ w w'∧fu w' s.rs rd vs φ im tp∧φ.Nodup∧
   (∀b∈φ,(b∈mb∨w.heap.size≤b)∧b<w'.heap.size)∧lR w' s.ps s.ms od vals mO ψ∧ψ.Nodup∧(∀b∈ψ,(b∈mb∨w.heap.size≤b)∧b<w'.heap.size∧b ∉ φ)∧∀b∈mO,(b∈fp∨w.heap.size≤b)∧b ∉ tp∧b ∉ ψ∧ff s.ms=false
def G4 (P:Program) (g:Nat) (s:Sum) (t:TypeId) (bI:List CT):Prop:=
 (∃fn,P.funcs[g]? =some fn∧fn.body.isSome=true∧(fn.name== "runtime.NumGoroutine")=false)∧
 ∀(w:World) (ds:List DC) (vals:List Value) (fp:List Nat),dv w s.ps ds vals fp→(s.fn ds).1=true→
  Calls P g vals.toArray w fun e w'=>∃(b:Nat) (us:List Value) (im:List Nat),e= .returned (.pointer (some ⟨b,0,none⟩))∧Kept Own.none w w'∧w.heap.size≤b∧b<w'.heap.size∧
   w'.heap[b]? =some (.cells us.toArray t (0,0))∧(∀x∈us,x.oneCell'=true)∧bf w' bI (s.fn ds).2 (fun j=>us[j]?) im∧us.length=bI.length∧∀x∈im,(x∈fp∨w.heap.size≤x)∧x≠b
def gU (P:Program) (g:Nat) (s:Sum):Prop:=
 bif s.G6 then True else
 match s.pt with
 | some (t,bI)=>G4 P g s t bI
 | none=>
  match s.ms with
  | []=>D_ P g s
  | _::_=>Cm P g s
def bN (P:Program) (Γ:Ctx):Prop:=∀g s,Ge Γ g=some s→gU P g s
section
variable {P:Program} {Γ:Ctx} {w0:World} {S:Own} {st:St} {o:Oper} {e:cS} {a:Act} {w:World}
variable {f:Nat→SV} {h:Nat→Option ao} {β:Env} {φ:Nat→List Nat} {tm:Array Value}
theorem lW (hc:Core w0 S f h β φ tm w):∀(ks:List AK) (ss:List SV) (vs:List Value) (q:List DC×fg),ah w (Av h β) β ss vs→(jw ks ss).val f h=some q→
  ∃fp,dv w ks q.1 vs fp∧bZ h q.2∧∀b∈fp,(¬Av h β b)∨∃x∈q.2,b∈fe h β x.1
 | [],[],vs,q,hs,hq=>by
  simp only[jw,M.ab,aa] at hq
  subst hq
  simp only[ah] at hs
  exact⟨[],⟨rfl,hs,rfl⟩,by simp [bZ],by simp⟩
 | [],_::_,vs,q,hs,hq=>by simp [jw] at hq
 | _::_,[],vs,q,hs,hq=>by simp [jw] at hq
 | k::ks,s::ss,vs,q,hs,hq=>by
  simp only[ah] at hs
  obtain⟨v,l,rfl,h1,h2⟩:=hs
  simp only[jw,M.ag,af,M.ab,aa] at hq
  obtain⟨q1,aN,q2,cE,rfl⟩:=hq
  obtain⟨gB,DH,Di,iS⟩:=lW hc ks ss l q2 h2 cE
  have one:∃lI,FR w k q1.1 v lI∧bZ h q1.2.1∧∀b∈lI,(¬Av h β b)∨∃x∈q1.2.1,b∈fe h β x.1:=by
   cases hk:k.agg with
   | true=>
    cases s with
    | agg cs=>
     simp only[hk] at aN
     simp only[aq] at h1
     obtain⟨us,rfl,gu,bk⟩:=h1
     obtain⟨lI,hr,hm,cX,_⟩:=d9 hc k.bI cs us q1 gu aN
     have hl:=ah.length _ _ gu
     have ka:=cL _ _ _ aN
     exact⟨lI,⟨us,by rw[hk];rfl,bk,hr,by omega⟩,hm,cX⟩
    | _=>simp [hk] at aN
   | false=>
    have lz:(cq k.bI [s]).val f h=some q1:=by
     cases s<;>simp only[hk] at aN<;>first | exact aN | (simp at aN)
    have ib:ah w (Av h β) β [s] [v]:=by simp only[ah];exact⟨v,[],rfl,h1,rfl⟩
    obtain⟨lI,hr,hm,cX,_⟩:=d9 hc k.bI [s] [v] q1 ib lz
    have ka:=cL _ _ _ lz
    have bk:v.oneCell'=true:=by
     cases EI:k.bI with
     | nil=>rw[EI] at ka;simp at ka
     | cons c cs=>
      rw[EI] at hr
      simp only[bf] at hr
      obtain⟨d,r',v',f1,f2,_,h0,h3,_⟩:=hr
      simp at h0
      subst h0
      exact h3.one
    exact⟨lI,⟨[v],by rw[hk];exact⟨rfl,bk⟩,by simpa using bk,hr,by simpa using ka⟩,hm,cX⟩
  obtain⟨lI,Gz,F3,jF⟩:=one
  refine⟨lI++gB,⟨q1.1,q2.1,v,l,lI,gB,rfl,rfl,Gz,DH,rfl⟩,fj F3 Di, ?_⟩
  intro b hb
  rcases List.mem_append.1 hb with hb | hb
  ·rcases jF b hb with h3 | ⟨x,hx,h3⟩
   ·exact .inl h3
   ·exact .inr ⟨x,aT _ hx,h3⟩
  ·rcases iS b hb with h3 | ⟨x,hx,h3⟩
   ·exact .inl h3
   ·exact .inr ⟨x,aK _ hx,h3⟩
structure ay where
 id:Nat
 t:TypeId
 e:List CT
 rows:List (List DC)
 v:Value
 aE:List (List Nat)
 ts:Option (List TypeId)
def ay.obj (x:ay):ao:=
 match x.ts with
 | none=> .row x.t x.e x.rows false true
 | some ts=> .deep x.t x.e ts x.rows none
def ay.bJ (x:ay):List Nat:=x.v.ownBlock.toList++x.aE.flatten
def ay.ar (x:ay):List Nat:=
 match x.ts with
 | none=>x.v.ownBlock.toList
 | some _=>x.bJ
def ay.ok (w:World) (x:ay):Prop:=
 match x.ts with
 | none=>∃vals,cx w x.t x.e.length false x.v x.rows.length vals∧dS w x.e x.rows vals x.aE
 | some ts=>∃vals,cx w x.t x.e.length false x.v x.rows.length vals∧bQ w x.e ts x.rows vals (fun _=>none) x.aE
theorem ay.ak (x:ay):∀b∈x.ar,b∈x.bJ:=by
 intro b hb
 unfold ay.ar at hb
 split at hb
 ·exact aT _ hb
 ·exact hb
theorem ay.iR (x:ay) {β:Env} (hv:β.val x.id=x.v) (hn:β.nb x.id=x.aE.flatten):Vm.ar β x.id x.obj=x.ar:=by
 unfold ay.obj ay.ar
 cases x.ts with
 | none=>simp [Vm.ar,hv]
 | some ts=>simp [Vm.ar,hv,hn,ay.bJ]
theorem ay.ids (x:ay):cK x.obj=[]:=by
 unfold ay.obj
 cases x.ts<;>rfl
theorem ay.Jv {w:World} {x:ay} (h:x.ok w) {av:Nat→Prop} {β:Env} (hv:β.val x.id=x.v) (hn:β.nb x.id=x.aE.flatten) (ha:∀b∈x.aE.flatten,b ∉ x.ar→¬av b) (hd:x.bJ.Nodup):f9 w av β x.id x.obj x.bJ:=by
 unfold ay.ok at h
 unfold ay.obj
 cases FM:x.ts with
 | none=>
  rw[FM] at h
  obtain⟨vals,h1,h2⟩:=h
  refine⟨vals,x.aE,by rw[hv];exact h1,h2,fun b hb=>ha b hb ?_,by rw[hv];rfl⟩
  unfold ay.ar
  rw[FM]
  intro aB
  unfold ay.bJ at hd
  rw[List.nodup_append] at hd
  exact hd.2.2 b aB b hb rfl
 | some ts=>
  rw[FM] at h
  obtain⟨vals,h1,h2⟩:=h
  exact⟨vals,x.aE,by rw[hv];exact h1,h2,hn,by rw[hv];rfl⟩
def fJ:List ay→Nat→Option ay
 | [],_=>none
 | x::l,i=>if i=x.id then some x else fJ l i
theorem bm {N:List ay} {j:Nat} {x:ay} (h:fJ N j=some x):x∈N∧x.id=j:=by
 induction N with
 | nil=>simp [fJ] at h
 | cons y l ih=>
  simp only[fJ] at h
  split at h
  ·rename_i hj
   injection h with h
   subst h
   exact⟨List.mem_cons_self ..,hj.symm⟩
  ·obtain⟨h1,h2⟩:=ih h
   exact⟨List.mem_cons_of_mem _ h1,h2⟩
theorem my {N:List ay} {x:ay} (hx:x∈N) (hn:(N.map (·.id)).Nodup):fJ N x.id=some x:=by
 induction N with
 | nil=>simp at hx
 | cons y l ih=>
  simp only[List.map_cons,List.nodup_cons] at hn
  simp only[fJ]
  rcases List.mem_cons.1 hx with rfl | hx
  ·simp
  ·have:x.id≠y.id:=fun e=>hn.1 (e ▸ List.mem_map_of_mem hx)
   rw[if_neg this]
   exact ih hx hn.2
def cZ (N:List ay):List (Nat×Option ao):=N.map fun x=>(x.id,some x.obj)
theorem AU (N:List ay) (l:List (Nat×Option ao)) (j:Nat):fo (cZ N++l) h j=match fJ N j with | some x=>some x.obj | none=>fo l h j:=by
 induction N with
 | nil=>rfl
 | cons y N ih=>
  simp only[cZ,List.map_cons,List.cons_append,fo,aD,fJ]
  split
  ·rfl
  ·exact ih
def Env.fX (β:Env) (N:List ay):Env:=⟨β.da,fun j=>match fJ N j with | some x=>x.v | none=>β.val j,β.gN,fun j=>match fJ N j with | some x=>x.aE.flatten | none=>β.nb j⟩
theorem db {N:List ay} (h:(N.flatMap ay.bJ).Nodup):(∀x∈N,x.bJ.Nodup)∧∀x∈N,∀y∈N,x≠y→∀b∈x.bJ,b ∉ y.bJ:=by
 induction N with
 | nil=>simp
 | cons z l ih=>
  rw[List.flatMap_cons,List.nodup_append] at h
  obtain⟨h1,h2,h3⟩:=h
  obtain⟨i1,i2⟩:=ih h2
  refine⟨fun x hx=> ?_,fun x hx y hy Aq b hb aB=> ?_⟩
  ·rcases List.mem_cons.1 hx with rfl | hx
   ·exact h1
   ·exact i1 x hx
  ·rcases List.mem_cons.1 hx with BQ | BQ<;>rcases List.mem_cons.1 hy with BR | BR
   ·exact Aq (BQ.trans BR.symm)
   ·subst BQ
    exact h3 b hb b (List.mem_flatMap.2 ⟨y,BR,aB⟩) rfl
   ·subst BR
    exact h3 b aB b (List.mem_flatMap.2 ⟨x,BQ,hb⟩) rfl
   ·exact i2 x BQ y BR Aq b hb aB
theorem Core.FU (hc:Core w0 S f h β φ tm w) {w':World} {N:List ay} (hs:w.heap.size≤w'.heap.size) (hw:∀b,b<w.heap.size→w'.heap[b]? =w.heap[b]?) (hk:w0.heap.size≤w.heap.size)
  (bG:∀x∈N,h x.id=none∧(∀i,x.id ∉ cb (f i))∧∀k o,h k=some o→x.id ∉ cK o) (aP:∀x∈N,ay.ok w' x) (dZ:(N.map (·.id)).Nodup)
  (hnd:(N.flatMap ay.bJ).Nodup) (mN:∀b∈N.flatMap ay.bJ,w.heap.size≤b∧b<w'.heap.size):
  Core w0 S f (fun j=>match fJ N j with | some x=>some x.obj | none=>h j) (β.fX N) (fun j=>match fJ N j with | some x=>x.bJ | none=>φ j) tm w':=by
 have eA:∀x∈N,∀b∈x.bJ,b∈N.flatMap ay.bJ:=fun x hx b hb=>List.mem_flatMap.2 ⟨x,hx,hb⟩
 have lL:∀j oj,fJ N j=none→ar (β.fX N) j oj=ar β j oj:=by
  intro j oj hj
  cases oj<;>simp [ar,Env.fX,hj]
 have jO:∀j x,fJ N j=some x→ar (β.fX N) j x.obj=x.ar:=by
  intro j x hj
  obtain⟨_,rfl⟩:=bm hj
  exact x.iR (by simp [Env.fX,hj]) (by simp [Env.fX,hj])
 have JM:∀b,Av (fun j=>match fJ N j with | some x=>some x.obj | none=>h j) (β.fX N) b→Av h β b∨(w.heap.size≤b∧∃x∈N,b∈x.ar):=by
  rintro b (⟨j,oj,hj,bz⟩ | hb)
  case inr=>exact .inl (.inr hb)
  cases hl:fJ N j with
  | none=>
   simp only[hl] at hj
   rw[lL j oj hl] at bz
   exact .inl (.inl ⟨j,oj,hj,bz⟩)
  | some x=>
   simp only[hl,aa] at hj
   subst hj
   rw[jO j x hl] at bz
   have hx:=(bm hl).1
   exact .inr ⟨(mN b (eA x hx b (x.ak b bz))).1,x,hx,bz⟩
 refine hc.mK (fun j=>(fJ N j).isSome=true) hs (fun b hb _=>hw b hb) (fun b hb=>(JM b hb).imp id (·.1)) ?_ ?_ ?_ ?_
 ·intro i j hj hx
  obtain⟨x,hx⟩:=Option.isSome_iff_exists.1 hx
  obtain⟨hm,rfl⟩:=bm hx
  exact (bG x hm).2.1 i hj
 ·intro j hj
  have:fJ N j=none:=by simpa using hj
  simp [Env.fX,this]
 ·intro j oj hj
  cases hl:fJ N j with
  | none=>
   simp only[hl] at hj
   refine .inl ⟨by simp [hl],hj,by simp [Env.fX,hl],by simp, ?_,fun b hb=>hw b ?_⟩
   ·intro i hi hx
    obtain⟨x,hx⟩:=Option.isSome_iff_exists.1 hx
    obtain⟨hm,rfl⟩:=bm hx
    exact (bG x hm).2.2 j oj hj hi
   ·exact ((hc.fresh j oj hj).2 b (ak (hc.aC j oj hj) b hb)).2
  | some x=>
   simp only[hl,aa] at hj
   subst hj
   obtain⟨hm,rfl⟩:=bm hl
   refine .inr ⟨ay.Jv (aP x hm) (by simp [Env.fX,hl]) (by simp [Env.fX,hl]) ?_ ((db hnd).1 x hm), ?_, ?_⟩
   ·intro b hb GN hx
    have fK:b∈x.bJ:=aK _ hb
    have mS:=(mN b (eA x hm b fK)).1
    rcases JM b hx with Ck | ⟨_,y,hy,Bm⟩
    ·have:=hc.Ic hk Ck
     omega
    ·by_cases Aq:y=x
     ·subst Aq
      exact GN Bm
     ·exact (db hnd).2 y hy x hm Aq b (y.ak b Bm) fK
   ·exact (db hnd).1 x hm
   ·intro b hb
    have:=mN b (eA x hm b hb)
    exact⟨.inl (by omega),this.2⟩
 ·intro i j oi oj cQ hi hj b hb
  cases JO:fJ N i with
  | none=>
   simp only[JO] at hi hb
   cases DL:fJ N j with
   | none=>
    simp only[DL] at hj ⊢
    exact hc.sep i j oi oj cQ hi hj b hb
   | some y=>
    simp only
    intro Bm
    have:=(mN b (eA y (bm DL).1 b Bm)).1
    have:=((hc.fresh i oi hi).2 b hb).2
    omega
  | some x=>
   simp only[JO] at hi hb
   have Jj:=(bm JO).1
   cases DL:fJ N j with
   | none=>
    simp only[DL] at hj ⊢
    intro bz
    have:=(mN b (eA x Jj b hb)).1
    have:=((hc.fresh j oj hj).2 b bz).2
    omega
   | some y=>
    simp only
    intro Bm
    have JX:=(bm DL).1
    have Aq:x≠y:=by
     rintro rfl
     exact cQ ((bm JO).2.symm.trans (bm DL).2)
    exact (db hnd).2 x Jj y JX Aq b hb Bm
structure fS where
 id:Nat
 obj:ao
 nb:List Nat
 bJ:List Nat
def mz:List fS→Nat→Option fS
 | [],_=>none
 | x::l,i=>if i=x.id then some x else mz l i
theorem dj {U:List fS} {j:Nat} {x:fS} (h:mz U j=some x):x∈U∧x.id=j:=by
 induction U with
 | nil=>simp [mz] at h
 | cons y l ih=>
  simp only[mz] at h
  split at h
  ·rename_i hj
   injection h with h
   subst h
   exact⟨List.mem_cons_self ..,hj.symm⟩
  ·obtain⟨h1,h2⟩:=ih h
   exact⟨List.mem_cons_of_mem _ h1,h2⟩
theorem Fm {U:List fS} {x:fS} (hx:x∈U):∃y,mz U x.id=some y:=by
 induction U with
 | nil=>simp at hx
 | cons y l ih=>
  simp only[mz]
  split
  ·exact⟨_,rfl⟩
  ·rename_i cQ
   rcases List.mem_cons.1 hx with rfl | hx
   ·exact absurd rfl cQ
   ·exact ih hx
theorem lk {U:List fS} (h:(U.flatMap fS.bJ).Nodup):(∀x∈U,x.bJ.Nodup)∧∀x∈U,∀y∈U,x.id≠y.id→∀b∈x.bJ,b ∉ y.bJ:=by
 induction U with
 | nil=>simp
 | cons z l ih=>
  rw[List.flatMap_cons,List.nodup_append] at h
  obtain⟨h1,h2,h3⟩:=h
  obtain⟨i1,i2⟩:=ih h2
  refine⟨fun x hx=> ?_,fun x hx y hy Aq b hb aB=> ?_⟩
  ·rcases List.mem_cons.1 hx with rfl | hx
   ·exact h1
   ·exact i1 x hx
  ·rcases List.mem_cons.1 hx with BQ | BQ<;>rcases List.mem_cons.1 hy with BR | BR
   ·exact Aq (by rw[BQ,BR])
   ·subst BQ
    exact h3 b hb b (List.mem_flatMap.2 ⟨y,BR,aB⟩) rfl
   ·subst BR
    exact h3 b aB b (List.mem_flatMap.2 ⟨x,BQ,hb⟩) rfl
   ·exact i2 x BQ y BR Aq b hb aB
def Env.cj (β:Env) (N:List ay) (U:List fS):Env:=
 ⟨β.da,fun j=>match fJ N j with | some x=>x.v | none=>β.val j,β.gN,fun j=>match fJ N j with | some x=>x.aE.flatten | none=>match mz U j with | some x=>x.nb | none=>β.nb j⟩
def ln (N:List ay) (U:List fS) (D:List Nat) (h:Nat→Option ao) (j:Nat):Option ao:=
 match fJ N j with | some x=>some x.obj | none=>match mz U j with | some x=>some x.obj | none=>if j∈D then none else h j
def gW (N:List ay) (U:List fS) (φ:Nat→List Nat) (j:Nat):List Nat:=
 match fJ N j with | some x=>x.bJ | none=>match mz U j with | some x=>x.bJ | none=>φ j
theorem Core.J5 (hc:Core w0 S f h β φ tm w) {w':World} {N:List ay} {U:List fS} {D im mb:List Nat} (hs:w.heap.size≤w'.heap.size) (hk:w0.heap.size≤w.heap.size)
  (GK:∀b∈mb,∃i,((∃x∈U,x.id=i)∨i∈D)∧∃o,h i=some o∧b∈ar β i o)
  (hw:∀b,b<w.heap.size→b ∉ mb→w'.heap[b]? =w.heap[b]?)
  (hU:∀x∈U,∃o,h x.id=some o)
  (Mc:∀x∈U,∀(av:Nat→Prop) (β':Env),β'.val x.id=β.val x.id→β'.da x.id=β.da x.id→β'.nb x.id=x.nb→(∀y∈N,β'.val y.id=y.v)→(∀b∈im,¬av b)→f9 w' av β' x.id x.obj x.bJ)
  (Lz:(U.flatMap fS.bJ).Nodup) (Hg:∀b∈U.flatMap fS.bJ,(b∈mb∨w.heap.size≤b)∧b<w'.heap.size∧b ∉ N.flatMap ay.bJ)
  (kq:∀b∈im,¬Av (ln N U D h) (β.cj N U) b) (mX:(N.map (·.id)).Nodup)
  (bG:∀x∈N,h x.id=none∧(∀i,x.id ∉ cb (f i))∧∀k o,h k=some o→x.id ∉ cK o) (aP:∀x∈N,ay.ok w' x)
  (hnd:(N.flatMap ay.bJ).Nodup) (mN:∀b∈N.flatMap ay.bJ,(b∈mb∨w.heap.size≤b)∧b<w'.heap.size):
  Core w0 S f (ln N U D h) (β.cj N U) (gW N U φ) tm w':=by
 have eA:∀x∈N,∀b∈x.bJ,b∈N.flatMap ay.bJ:=fun x hx b hb=>List.mem_flatMap.2 ⟨x,hx,hb⟩
 have CF:∀x∈U,∀b∈x.bJ,b∈U.flatMap fS.bJ:=fun x hx b hb=>List.mem_flatMap.2 ⟨x,hx,hb⟩
 have MY:∀x∈U,fJ N x.id=none:=by
  intro x hx
  cases hl:fJ N x.id with
  | none=>rfl
  | some y=>
   obtain⟨hm,he⟩:=bm hl
   obtain⟨o,ho⟩:=hU x hx
   have:=(bG y hm).1
   rw[he,ho] at this
   cases this
 have lL:∀j oj,fJ N j=none→mz U j=none→ar (β.cj N U) j oj=ar β j oj:=by
  intro j oj hj hu
  cases oj<;>simp [ar,Env.cj,hj,hu]
 have jO:∀j x,fJ N j=some x→ar (β.cj N U) j x.obj=x.ar:=by
  intro j x hj
  obtain⟨_,rfl⟩:=bm hj
  exact x.iR (by simp [Env.cj,hj]) (by simp [Env.cj,hj])
 have E2:∀j x,fJ N j=none→mz U j=some x→f9 w' (Av (ln N U D h) (β.cj N U)) (β.cj N U) j x.obj x.bJ:=by
  intro j x hl hu
  obtain⟨hm,rfl⟩:=dj hu
  exact Mc x hm _ _ (by simp [Env.cj,hl]) rfl (by simp [Env.cj,hl,hu]) (fun y hy=>by simp [Env.cj,my hy mX]) kq
 have EX:∀b∈mb,Av h β b:=by
  intro b hb
  obtain⟨i,_,o,ho,Iv⟩:=GK b hb
  exact .inl ⟨i,o,ho,Iv⟩
 have CA:∀b∈mb,∃i o,h i=some o∧b∈φ i:=by
  intro b hb
  obtain⟨i,_,o,ho,Iv⟩:=GK b hb
  exact⟨i,o,ho,Vm.ak (hc.aC _ _ ho) b Iv⟩
 have JM:∀b,Av (ln N U D h) (β.cj N U) b→Av h β b∨w.heap.size≤b:=by
  rintro b (⟨j,oj,hj,bz⟩ | hb)
  case inr=>exact .inl (.inr hb)
  unfold ln at hj
  cases hl:fJ N j with
  | none=>
   simp only[hl] at hj
   cases hu:mz U j with
   | none=>
    simp only[hu] at hj
    split at hj
    ·cases hj
    rw[lL j oj hl hu] at bz
    exact .inl (.inl ⟨j,oj,hj,bz⟩)
   | some x=>
    simp only[hu,aa] at hj
    subst hj
    have h1:=Vm.ak (E2 j x hl hu) b bz
    rcases (Hg b (CF x (dj hu).1 b h1)).1 with h2 | h2
    ·exact .inl (EX b h2)
    ·exact .inr h2
  | some x=>
   simp only[hl,aa] at hj
   subst hj
   rw[jO j x hl] at bz
   have hx:=(bm hl).1
   rcases (mN b (eA x hx b (x.ak b bz))).1 with h2 | h2
   ·exact .inl (EX b h2)
   ·exact .inr h2
 have Fz:∀j oj,h j=some oj→(∀x∈U,x.id≠j)→j ∉ D→∀b∈φ j,b ∉ mb:=by
  intro j oj hj cQ hnd b hb Iu
  obtain⟨i,hi,o,ho,Iv⟩:=GK b Iu
  refine hc.sep i j o oj (fun e=> ?_) ho hj b (Vm.ak (hc.aC _ _ ho) b Iv) hb
  rcases hi with ⟨x,hx,MR⟩ | hi
  ·exact cQ x hx (MR.trans e)
  ·exact hnd (e ▸ hi)
 have Ja:∀b,(b∈mb∨w.heap.size≤b)→¬β.gN b:=by
  intro b hb fi
  rcases hb with hb | hb
  ·obtain⟨i,o,ho,mi⟩:=CA b hb
   exact hc.Ba ho mi fi
  ·have:=(hc.gN b fi).1
   omega
 have EU:∀j oj,mz U j=none→(if j∈D then none else h j)=some oj→h j=some oj∧j ∉ D:=by
  intro j oj _ hj
  split at hj
  ·cases hj
  ·exact⟨hj,by assumption⟩
 have Ju:∀j,mz U j=none→∀x∈U,x.id≠j:=by
  intro j hu x hx he
  obtain⟨y,hy⟩:=Fm hx
  rw[he,hu] at hy
  cases hy
 refine hc.mK (fun j=>(fJ N j).isSome=true) hs ?_ JM ?_ ?_ ?_ ?_
 ·intro b hb hn
  exact hw b hb (fun Iu=>hn (EX b Iu))
 ·intro i j hj hx
  obtain⟨x,hx⟩:=Option.isSome_iff_exists.1 hx
  obtain⟨hm,rfl⟩:=bm hx
  exact (bG x hm).2.1 i hj
 ·intro j hj
  have:fJ N j=none:=by simpa using hj
  simp [Env.cj,this]
 ·intro j oj hj
  unfold ln at hj
  cases hl:fJ N j with
  | none=>
   simp only[hl] at hj
   cases hu:mz U j with
   | none=>
    simp only[hu] at hj
    obtain⟨hj,II⟩:=EU j oj hu hj
    refine .inl ⟨by simp [hl],hj,by simp [Env.cj,hl,hu],by simp [gW,hl,hu], ?_,fun b hb=> ?_⟩
    ·intro i hi hx
     obtain⟨x,hx⟩:=Option.isSome_iff_exists.1 hx
     obtain⟨hm,rfl⟩:=bm hx
     exact (bG x hm).2.2 j oj hj hi
    ·have fK:=Vm.ak (hc.aC j oj hj) b hb
     exact hw b ((hc.fresh j oj hj).2 b fK).2 (Fz j oj hj (Ju j hu) II b fK)
   | some x=>
    simp only[hu,aa] at hj
    subst hj
    have hm:=(dj hu).1
    refine .inr ⟨by simpa only[gW,hl,hu] using E2 j x hl hu,by simpa only[gW,hl,hu] using (lk Lz).1 x hm, ?_⟩
    simp only[gW,hl,hu]
    intro b hb
    obtain⟨h1,h2,_⟩:=Hg b (CF x hm b hb)
    refine⟨?_,h2⟩
    rcases h1 with h1 | h1
    ·obtain⟨i,o,ho,mi⟩:=CA b h1
     exact ((hc.fresh _ _ ho).2 b mi).1
    ·exact .inl (by omega)
  | some x=>
   simp only[hl,aa] at hj
   subst hj
   obtain⟨hm,rfl⟩:=bm hl
   refine .inr ⟨?_, ?_, ?_⟩
   ·simp only[gW,hl]
    refine ay.Jv (aP x hm) (by simp [Env.cj,hl]) (by simp [Env.cj,hl]) ?_ ((db hnd).1 x hm)
    rintro b hb GN hx
    have fK:b∈x.bJ:=aK _ hb
    have Hh:=eA x hm b fK
    have mS:=(mN b Hh).1
    rcases hx with ⟨j,oj,hj,bz⟩ | fi
    case inr=>exact Ja b mS fi
    unfold ln at hj
    cases DL:fJ N j with
    | some y=>
     simp only[DL,aa] at hj
     subst hj
     rw[jO j y DL] at bz
     have hy:=(bm DL).1
     by_cases Aq:y=x
     ·subst Aq
      exact GN bz
     ·exact (db hnd).2 y hy x hm Aq b (y.ak b bz) fK
    | none=>
     simp only[DL] at hj
     cases hu:mz U j with
     | some y=>
      simp only[hu,aa] at hj
      subst hj
      have h1:=Vm.ak (E2 j y DL hu) b bz
      exact (Hg b (CF y (dj hu).1 b h1)).2.2 Hh
     | none=>
      simp only[hu] at hj
      obtain⟨hj,II⟩:=EU j oj hu hj
      rw[lL j oj DL hu] at bz
      have mT:=Vm.ak (hc.aC j oj hj) b bz
      rcases mS with mS | mS
      ·exact Fz j oj hj (Ju j hu) II b mT mS
      ·have:=((hc.fresh j oj hj).2 b mT).2
       omega
   ·simp only[gW,hl]
    exact (db hnd).1 x hm
   ·simp only[gW,hl]
    intro b hb
    have:=mN b (eA x hm b hb)
    refine⟨?_,this.2⟩
    rcases this.1 with h1 | h1
    ·obtain⟨i,o,ho,mi⟩:=CA b h1
     exact ((hc.fresh _ _ ho).2 b mi).1
    ·exact .inl (by omega)
 ·
  have kinds:∀j oj,ln N U D h j=some oj→∀b∈gW N U φ j,
    (∃x,fJ N j=some x∧b∈x.bJ)∨(∃x,fJ N j=none∧mz U j=some x∧b∈x.bJ)∨(fJ N j=none∧mz U j=none∧(h j=some oj∧j ∉ D)∧b∈φ j):=by
   intro j oj hj b hb
   unfold ln at hj
   unfold gW at hb
   cases hl:fJ N j with
   | some x=>simp only[hl] at hb;exact .inl ⟨x,rfl,hb⟩
   | none=>
    simp only[hl] at hj hb
    cases hu:mz U j with
    | some x=>simp only[hu] at hb;exact .inr (.inl ⟨x,rfl,rfl,hb⟩)
    | none=>simp only[hu] at hj hb;exact .inr (.inr ⟨rfl,rfl,EU j oj hu hj,hb⟩)
  have Fs:∀b,b∈N.flatMap ay.bJ→∀j oj,mz U j=none→h j=some oj→j ∉ D→b∈φ j→False:=by
   intro b Hh j oj Bq hj II bz
   rcases (mN b Hh).1 with h1 | h1
   ·exact Fz j oj hj (Ju j Bq) II b bz h1
   ·have:=((hc.fresh j oj hj).2 b bz).2
    omega
  intro i j oi oj cQ hi hj b hb aB
  rcases kinds i oi hi b hb with ⟨x,hx,bx⟩ | ⟨x,_,hx,bx⟩ | ⟨_,LR,⟨hx,LP⟩,bx⟩<;>rcases kinds j oj hj b aB with ⟨y,hy,D2⟩ | ⟨y,_,hy,D2⟩ | ⟨_,LU,⟨hy,LS⟩,D2⟩
  ·refine (db hnd).2 x (bm hx).1 y (bm hy).1 ?_ b bx D2
   rintro rfl
   exact cQ ((bm hx).2.symm.trans (bm hy).2)
  ·exact (Hg b (CF y (dj hy).1 b D2)).2.2 (eA x (bm hx).1 b bx)
  ·exact Fs b (eA x (bm hx).1 b bx) j oj LU hy LS D2
  ·exact (Hg b (CF x (dj hx).1 b bx)).2.2 (eA y (bm hy).1 b D2)
  ·refine (lk Lz).2 x (dj hx).1 y (dj hy).1 ?_ b bx D2
   rw[(dj hx).2,(dj hy).2]
   exact cQ
  ·rcases (Hg b (CF x (dj hx).1 b bx)).1 with h1 | h1
   ·exact Fz j oj hy (Ju j LU) LS b D2 h1
   ·have:=((hc.fresh j oj hy).2 b D2).2
    omega
  ·exact Fs b (eA y (bm hy).1 b D2) i oi LR hx LP bx
  ·rcases (Hg b (CF y (dj hy).1 b D2)).1 with h1 | h1
   ·exact Fz i oi hx (Ju i LR) LP b bx h1
   ·have:=((hc.fresh i oi hx).2 b bx).2
    omega
  ·exact hc.sep i j oi oj cQ hx hy b bx D2
end
end Go.Proofs.YtnlkklmcfafgeaaGreat.Vm
namespace Go.Proofs.YtnlkklmcfafgeaaGreat.Vm
section
variable {P:Program} {Γ:Ctx} {w0:World} {S:Own} {st:St} {o:Oper} {e:cS} {a:Act} {w:World}
variable {f:Nat→SV} {h:Nat→Option ao} {β:Env} {φ:Nat→List Nat} {tm:Array Value}
theorem dr.length {w:World} :∀(CP:List RC) (ds:List DC) (vs:List Value) (φ im tp:List Nat),dr w CP ds vs φ im tp→ds.length=CP.length
 | [],ds,vs,φ,im,tp,h=>by simp only[dr] at h;simp [h.1]
 | .ef c::cs,ds,vs,φ,im,tp,h=>by
  simp only[dr] at h
  obtain⟨d,bc,v,cR,f1,Fb,rfl,_,_,h1,_⟩:=h
  simp [dr.length cs bc cR _ _ _ h1]
 | .own t e::cs,ds,vs,φ,im,tp,h=>by
  simp only[dr] at h
  obtain⟨rows,bc,v,cR,vals,aE,φ',Bk,rfl,_,_,_,h1,_⟩:=h
  simp [dr.length cs bc cR _ _ _ h1]
 | .deep t e ts::cs,ds,vs,φ,im,tp,h=>by
  simp only[dr] at h
  obtain⟨rows,bc,v,cR,vals,a7,φ',Bk,rfl,_,_,_,h1,_⟩:=h
  simp [dr.length cs bc cR _ _ _ h1]
theorem fQ {w':World} {d:Nat} :∀(CP:List RC) (k:Nat) (ds:List DC) (vs:List Value) (φ im tp:List Nat),dr w' CP ds vs φ im tp→
  ∃N:List ay,(cu d k CP ds).2=cZ N∧N.map (·.id)=(List.range' k (dC CP)).map (ai d)∧(∀x∈N,x.ok w')∧N.flatMap ay.bJ=φ∧N.flatMap ay.ar=tp∧
   ∀(av:Nat→Prop) (β':Env),(∀x∈N,β'.val x.id=x.v)→(∀b∈im,¬av b)→ah w' av β' (cu d k CP ds).1 vs
 | [],k,ds,vs,φ,im,tp,h=>by
  simp only[dr] at h
  obtain⟨rfl,rfl,rfl,rfl,rfl⟩:=h
  exact⟨[],rfl,rfl,by simp,rfl,rfl,by simp [cu,ah]⟩
 | .ef c::cs,k,ds,vs,φ,im,tp,h=>by
  simp only[dr] at h
  obtain⟨x,bc,v,cR,f1,Fb,rfl,rfl,h1,h2,rfl⟩:=h
  obtain⟨N,e1,e2,e3,e4,e5,e6⟩:=fQ cs k bc cR φ Fb tp h2
  refine⟨N,by simpa [cu] using e1,by simpa [dC] using e2,e3,e4,e5,fun av β' gv cX=> ?_⟩
  simp only[cu,List.headD_cons,List.tail_cons,ah]
  exact⟨v,cR,rfl,dG h1 (fun b hb=>cX b (aT _ hb)),e6 av β' gv (fun b hb=>cX b (aK _ hb))⟩
 | .own t e::cs,k,ds,vs,φ,im,tp,h=>by
  simp only[dr] at h
  obtain⟨rows,bc,v,cR,vals,aE,φ',Bk,rfl,rfl,h1,h2,h3,rfl,rfl⟩:=h
  obtain⟨N,e1,e2,e3,e4,e5,e6⟩:=fQ cs (k+1) bc cR φ' im Bk h3
  refine⟨⟨ai d k,t,e,rows,v,aE,none⟩::N, ?_, ?_, ?_, ?_, ?_,fun av β' gv cX=> ?_⟩
  ·simp [cu,cZ,ay.obj,DC.cV] at e1 ⊢
   exact e1
  ·simp only[List.map_cons,dC,List.range'_succ,e2]
  ·intro x hx
   rcases List.mem_cons.1 hx with rfl | hx
   ·exact⟨vals,h1,h2⟩
   ·exact e3 x hx
  ·simp [List.flatMap_cons,e4,ay.bJ]
  ·simp [List.flatMap_cons,e5,ay.ar]
  ·simp only[cu,List.headD_cons,List.tail_cons,ah]
   refine⟨v,cR,rfl, ?_,e6 av β' (fun x hx=>gv x (List.mem_cons_of_mem _ hx)) cX⟩
   simp only[aq]
   exact⟨(gv _ (List.mem_cons_self ..)).symm,h1.one⟩
 | .deep t e ts::cs,k,ds,vs,φ,im,tp,h=>by
  simp only[dr] at h
  obtain⟨rows,bc,v,cR,vals,a7,φ',Bk,rfl,rfl,h1,h2,h3,rfl,rfl⟩:=h
  obtain⟨N,e1,e2,e3,e4,e5,e6⟩:=fQ cs (k+1) bc cR φ' im Bk h3
  refine⟨⟨ai d k,t,e,rows,v,a7,some ts⟩::N, ?_, ?_, ?_, ?_, ?_,fun av β' gv cX=> ?_⟩
  ·simp [cu,cZ,ay.obj,DC.cV] at e1 ⊢
   exact e1
  ·simp only[List.map_cons,dC,List.range'_succ,e2]
  ·intro x hx
   rcases List.mem_cons.1 hx with rfl | hx
   ·exact⟨vals,h1,h2⟩
   ·exact e3 x hx
  ·simp [List.flatMap_cons,e4,ay.bJ]
  ·simp [List.flatMap_cons,e5,ay.ar,ay.bJ]
  ·simp only[cu,List.headD_cons,List.tail_cons,ah]
   refine⟨v,cR,rfl, ?_,e6 av β' (fun x hx=>gv x (List.mem_cons_of_mem _ hx)) cX⟩
   simp only[aq]
   exact⟨(gv _ (List.mem_cons_self ..)).symm,h1.one⟩
theorem jq {w':World} {d:Nat} :∀(BZ:List RK) (k:Nat) (ds:List DC) (vs:List Value) (φ im tp:List Nat),fu w' BZ ds vs φ im tp→
  ∃N:List ay,(bq d k BZ ds).2=cZ N∧N.map (·.id)=(List.range' k (bj BZ)).map (ai d)∧(∀x∈N,x.ok w')∧N.flatMap ay.bJ=φ∧N.flatMap ay.ar=tp∧
   ∀(av:Nat→Prop) (β':Env),(∀x∈N,β'.val x.id=x.v)→(∀b∈im,¬av b)→ah w' av β' (bq d k BZ ds).1 vs
 | [],k,ds,vs,φ,im,tp,h=>by
  simp only[fu] at h
  obtain⟨rfl,rfl,rfl,rfl,rfl⟩:=h
  exact⟨[],rfl,rfl,by simp,rfl,rfl,by simp [bq,ah]⟩
 | r::rs,k,ds,vs,φ,im,tp,h=>by
  simp only[fu] at h
  obtain⟨d1,d2,v,cR,us,D1,Bl,i1,i2,t1,t2,rfl,rfl,hv,bk,h1,h2,rfl,rfl,rfl⟩:=h
  have hl:=dr.length _ _ _ _ _ _ h1
  obtain⟨N1,a1,a2,a3,a4,a5,a6⟩:=fQ (d:=d) r.cells k d1 us D1 i1 t1 h1
  obtain⟨N2,b1,b2,b3,b4,b5,b6⟩:=jq (d:=d) rs (k+dC r.cells) d2 cR Bl i2 t2 h2
  have ht:(d1++d2).take r.cells.length=d1:=by rw[←hl];simp
  have mV:(d1++d2).drop r.cells.length=d2:=by rw[←hl];simp
  refine⟨N1++N2, ?_, ?_, ?_,by simp [a4,b4],by simp [a5,b5],fun av β' gv cX=> ?_⟩
  ·simp only[bq,ht,mV,a1,b1,cZ,List.map_append]
  ·rw[List.map_append,a2,b2,←List.map_append,List.range'_append_1]
   rfl
  ·intro x hx
   rcases List.mem_append.1 hx with hx | hx
   ·exact a3 x hx
   ·exact b3 x hx
  ·have s1:=a6 av β' (fun x hx=>gv x (aT _ hx)) (fun b hb=>cX b (aT _ hb))
   have s2:=b6 av β' (fun x hx=>gv x (aK _ hx)) (fun b hb=>cX b (aK _ hb))
   simp only[bq,ht,mV,ah]
   refine⟨v,cR,rfl, ?_,s2⟩
   cases Iq:r.agg with
   | true=>
    rw[Iq,aj] at hv
    subst hv
    simp only[aj,aq]
    exact⟨us,rfl,s1,bk⟩
   | false=>
    rw[Iq,aQ] at hv
    subst hv
    simp only[aQ]
    generalize (cu d k r.cells d1).1=q at s1
    cases q with
    | nil=>simp [ah] at s1
    | cons y l=>
     simp only[ah] at s1
     obtain⟨v',l',e1,e2,_⟩:=s1
     injection e1 with e1
     subst e1
     simpa using e2
theorem dv.lt {w:World} :∀(ks:List AK) (ds:List DC) (vs:List Value) (fp:List Nat),dv w ks ds vs fp→∀b∈fp,b<w.heap.size
 | [],ds,vs,fp,h=>by simp only[dv] at h;simp [h.2.2]
 | k::ks,ds,vs,fp,h=>by
  simp only[dv] at h
  obtain⟨d1,d2,v,cR,f1,f2,rfl,rfl,⟨us,_,_,hr,_⟩,h2,rfl⟩:=h
  intro b hb
  rcases List.mem_append.1 hb with hb | hb
  ·exact bf.lt _ _ _ _ hr b hb
  ·exact dv.lt ks d2 cR f2 h2 b hb
theorem dr.jT {w:World} :∀(CP:List RC) (ds:List DC) (vs:List Value) (φ im tp:List Nat),ig CP=false→dr w CP ds vs φ im tp→im=[]
 | [],ds,vs,φ,im,tp,_,h=>by simp only[dr] at h;exact h.2.2.2.1
 | .ef c::cs,ds,vs,φ,im,tp,hn,h=>by
  simp only[dr] at h
  obtain⟨d,bc,v,cR,f1,Fb,rfl,_,h1,h2,rfl⟩:=h
  have:f1=[]∧ig cs=false:=by
   cases c with
   | int k=>simp only[cd] at h1;obtain⟨n,_,_,_,e⟩:=h1;exact⟨e,by simpa [ig] using hn⟩
   | bool=>simp only[cd] at h1;obtain⟨n,_,_,e⟩:=h1;exact⟨e,by simpa [ig] using hn⟩
   | str=>simp only[cd] at h1;obtain⟨n,_,_,_,e⟩:=h1;exact⟨e,by simpa [ig] using hn⟩
   | sl e=>simp [ig] at hn
  rw[this.1,dr.jT cs bc cR _ _ _ this.2 h2]
  rfl
 | .own t e::cs,ds,vs,φ,im,tp,hn,h=>by
  simp only[dr] at h
  obtain⟨rows,bc,v,cR,vals,aE,φ',Bk,rfl,_,_,_,h1,_⟩:=h
  exact dr.jT cs bc cR _ _ _ (by simpa [ig] using hn) h1
 | .deep t e ts::cs,ds,vs,φ,im,tp,hn,h=>by
  simp only[dr] at h
  obtain⟨rows,bc,v,cR,vals,a7,φ',Bk,rfl,_,_,_,h1,_⟩:=h
  exact dr.jT cs bc cR _ _ _ (by simpa [ig] using hn) h1
theorem fu.jT {w:World} :∀(BZ:List RK) (ds:List DC) (vs:List Value) (φ im tp:List Nat),(BZ.any fun r=>ig r.cells)=false→fu w BZ ds vs φ im tp→im=[]
 | [],ds,vs,φ,im,tp,_,h=>by simp only[fu] at h;exact h.2.2.2.1
 | r::rs,ds,vs,φ,im,tp,hn,h=>by
  simp only[fu] at h
  obtain⟨d1,d2,v,cR,us,D1,Bl,i1,i2,t1,t2,rfl,rfl,_,_,h1,h2,_,rfl,_⟩:=h
  simp only[List.any_cons,Bool.or_eq_false_iff] at hn
  rw[dr.jT _ _ _ _ _ _ hn.1 h1,fu.jT rs d2 cR _ _ _ hn.2 h2]
  rfl
theorem AO (hc:Core w0 S st.get st.obj β φ a.tmps w):∀(xs:List Operand) (ss:List SV),(DG xs).val st.get st.obj=some ss→ah w (Av st.obj β) β ss (xs.map a.eval)
 | [],ss,h=>by simp [DG] at h;subst h;simp [ah]
 | x::xs,ss,h=>by
  simp only[DG,M.ag,af,M.ab,aa] at h
  obtain⟨s,h1,r,h2,rfl⟩:=h
  simp only[List.map_cons,ah]
  exact⟨_,_,rfl,hc.ev h1,AO hc xs r h2⟩
theorem B1 {c:Call} {g:Nat} {fn:Func} (ho:o.op= .call c) (hg:c.callee= .value (.func g)) (hf:P.funcs[g]? =some fn) (hb:fn.body.isSome=true) (hn:(fn.name== "runtime.NumGoroutine")=false):
  (execOp a.eval o).run P w= .ok (.enter g (c.args.map a.eval)) w:=by
 have aB:fn.body.isNone=false:=by cases h:fn.body<;>simp_all
 simp only[execOp,ho,resolve,hg,Act.eval,Deferred.ofValue,Sem.run_bind,Sem.run_pure,Result.andThen_ok,invoke,callFunc,run_program,hf,hn,aB,Bool.false_eq_true,if_false]
 simp
theorem CZ (fa:bN P Γ) {s:Sum} {g:Nat} (hs:Ge Γ g=some s) (eN:s.G6=false) (GP:s.pt=none) (JP:s.ms=[]) (hR:Rel w0 S st a w) {d:Nat} (aX:o.dst=some d) (hd:bn st.n d) (ca:e.ow≠[]→bL st d) {c:Call} (ho:o.op= .call c) (hg:c.callee= .value (.func g)) {l:List SV}
  (hl:(DG c.args.toList).val st.get st.obj=some l) (he:(kN Γ (some d) g l).val st.get st.obj=some e) (aP:e.ok=true):Good P w0 S st o e a w:=by
 unfold kN at he
 rw[hs] at he
 simp only[eN,aQ,GP,JP] at he
 cases He:Nat.blt (bj s.rs) 64
 ·simp [He] at he
 simp only[He,aj,M.ag,af] at he
 obtain⟨r,hr,he⟩:=he
 cases Je:(!(shares s) || aU r.2)
 ·simp [Je] at he
 simp only[Je,aj,M.ab,aa] at he
 subst he
 have He:bj s.rs<64:=Nat.le_of_ble_eq_true He
 have hH:D_ P g s:=by have h0:=fa g s hs;unfold gU at h0;rw[eN,aQ,GP] at h0;simp only[JP] at h0;exact h0
 obtain⟨⟨fn,hf,hb,hn⟩,Cu⟩:=hH
 obtain⟨β,φ,hc⟩:=hR.core
 obtain⟨fp,cD,ku,lx⟩:=lW hc s.ps l _ r (AO hc _ l hl) hr
 have LB:=dv.lt _ _ _ _ cD
 intro Q
 unfold Oper.wp
 rw[B1 ho hg hf hb hn,Oper.upon_enter]
 have E_:c.args.map a.eval=(c.args.toList.map a.eval).toArray:=by rw[←Array.toList_map,Array.toArray_toList]
 rw[E_]
 refine (Cu w r.1 _ fp cD aP).mono ?_
 rintro _ w' ⟨vs,J1,im,tp,rfl,hk,A1,hnd,mN,kq⟩
 obtain⟨N,n1,n2,n3,n4,n5,n6⟩:=jq (d:=d) s.rs 0 _ vs J1 im tp A1
 let M':fg:=bif shares s then r.2 else []
 have hM:bZ st.obj M'∧aU M'=true:=by
  cases A3:shares s with
  | true=>
   have:M'=r.2:=by simp [M',A3]
   rw[this]
   exact⟨ku,by simpa [A3] using Je⟩
  | false=>
   have:M'=[]:=by simp [M',A3]
   rw[this]
   exact⟨by simp [bZ],rfl⟩
 have hfz:(bif shares s then al r.2 else [])=al M':=by cases A3:shares s<;>simp [M',A3,al]
 have jI:=hc.gC M' hM.1 hM.2
 have Cy:∀x∈N,x.id / 64=d∧x.id∈N.map (·.id):=by
  intro x hx
  have hm:x.id∈N.map (·.id):=List.mem_map_of_mem hx
  refine⟨?_,hm⟩
  rw[n2] at hm
  obtain⟨j,hj,gi⟩:=List.mem_map.1 hm
  rw[←gi]
  have:=List.mem_range'_1.1 hj
  exact cT d j (by omega)
 have mX:(N.map (·.id)).Nodup:=by
  rw[n2]
  refine List.Pairwise.map _ ?_ (List.nodup_range' ..)
  intro x y Aq e
  unfold ai at e
  omega
 have hle:=hR.kept.size
 have hw:∀b,b<w.heap.size→w'.heap[b]? =w.heap[b]? :=fun b hb=>hk.block b hb (fun h=>h)
 have Kg:=jI.FU (N:=N) hk.size hw hle ?_ n3 mX (by rw[n4];exact hnd) (by rw[n4];exact mN)
 ·have hval:∀x∈N,(β.fX N).val x.id=x.v:=by
   intro x hx
   simp [Env.fX,my hx mX]
  have ER:∀b∈im,¬Av (fun j=>match fJ N j with | some x=>some x.obj | none=>fo (al M') st.obj j) (β.fX N) b:=by
   rintro b hb (⟨j,oj,hj,bz⟩ | fi)
   case inr=>
    have EO:=kq b hb
    have Mi:=(jI.gN b fi).1
    rcases EO.1 with Cw | mS
    ·cases A3:shares s with
     | false=>
      have:im=[]:=fu.jT _ _ _ _ _ _ (by simpa [shares] using A3) A1
      rw[this] at hb
      simp at hb
     | true=>
      have Gy:M'=r.2:=by simp [M',A3]
      rcases lx b Cw with h3 | ⟨x,hx,kp⟩
      ·exact h3 (.inr fi)
      ·exact dK hc hM.1 (by rw[Gy];exact hx) kp (.inr fi)
    ·omega
   have EO:=kq b hb
   cases jK:fJ N j with
   | some x=>
    simp only[jK,aa] at hj
    subst hj
    have hx:=(bm jK).1
    refine EO.2 ?_
    rw[←n5]
    refine List.mem_flatMap.2 ⟨x,hx, ?_⟩
    obtain⟨_,rfl⟩:=bm jK
    rwa [x.iR (by simp [Env.fX,jK]) (by simp [Env.fX,jK])] at bz
   | none=>
    simp only[jK] at hj
    have mT:b∈ar β j oj:=by
     cases oj<;>simp only[ar,Env.fX,jK] at bz ⊢ <;>exact bz
    have Ke:=((jI.fresh j oj hj).2 b (ak (jI.aC j oj hj) b mT)).2
    rcases EO.1 with Cw | mS
    ·cases A3:shares s with
     | false=>
      have:im=[]:=fu.jT _ _ _ _ _ _ (by simpa [shares] using A3) A1
      rw[this] at hb
      simp at hb
     | true=>
      have Gy:M'=r.2:=by simp [M',A3]
      rcases lx b Cw with h3 | ⟨x,hx,kp⟩
      ·exact h3 (gb (.inl ⟨j,oj,hj,mT⟩))
      ·exact dK hc hM.1 (by rw[Gy];exact hx) kp (.inl ⟨j,oj,hj,mT⟩)
    ·omega
  have e_:=n6 _ (β.fX N) hval ER
  have Cz:Kept S w0 w':=⟨hk.os.trans hR.kept.os,hk.tape.trans hR.kept.tape,hk.output.trans hR.kept.output,by have:=hk.size;omega,fun k h1 h2=>(hw k (by omega)).trans (hR.kept.block k h1 h2)⟩
  refine⟨pack vs,rfl,iM hR (fun d' h'=>by rw[aX] at h';injection h' with h';exact h' ▸ hd) Cz ⟨β.fX N,fun j=>match fJ N j with | some x=>x.bJ | none=>bu φ M' j, ?_, ?_⟩⟩
  ·have:fo ((bq d 0 s.rs (s.fn r.1).2).2++(bif shares s then al r.2 else [])) (fc none st.obj)=fun j=>match fJ N j with | some x=>some x.obj | none=>fo (al M') st.obj j:=by
    funext j
    rw[n1,hfz,AU]
    rfl
   show Core w0 S st.get (fo ((bq d 0 s.rs (s.fn r.1).2).2++(bif shares s then al r.2 else [])) (fc none st.obj)) _ _ _ _
   rw[this]
   exact Kg
  ·have:fo ((bq d 0 s.rs (s.fn r.1).2).2++(bif shares s then al r.2 else [])) (fc none st.obj)=fun j=>match fJ N j with | some x=>some x.obj | none=>fo (al M') st.obj j:=by
    funext j
    rw[n1,hfz,AU]
    rfl
   show aq w' (Av (fo ((bq d 0 s.rs (s.fn r.1).2).2++(bif shares s then al r.2 else [])) (fc none st.obj)) (β.fX N)) (β.fX N) (iv (bq d 0 s.rs (s.fn r.1).2).1) (pack vs)
   rw[this]
   generalize (bq d 0 s.rs (s.fn r.1).2).1=q at e_
   match q,vs,e_ with
   | [],vs,e_=>
    simp only[ah] at e_
    subst e_
    simp only[iv,pack,aq]
    exact⟨[],rfl,by simp [ah]⟩
   | [x],vs,e_=>
    simp only[ah] at e_
    obtain⟨v,l',rfl,h1,rfl⟩:=e_
    exact h1
   | x::y::q,vs,e_=>
    have E6:=e_
    simp only[ah] at e_
    obtain⟨v,l',rfl,h1,v2,l2,rfl,h2,h3⟩:=e_
    simp only[iv,pack]
    unfold aq
    exact⟨v::v2::l2,rfl,E6⟩
 ·intro x hx
  have h1:=(Cy x hx).1
  have ca:=ca (by
   show (bq d 0 s.rs (s.fn r.1).2).2++_≠[]
   rw[n1]
   intro h0
   rw[List.append_eq_nil_iff] at h0
   have:N=[]:=by simpa [cZ] using h0.1
   rw[this] at hx
   simp at hx)
  refine⟨?_,fun i hi=>ca.slot i _ hi h1,fun k ok Cz hi=> ?_⟩
  ·cases hn:fo (al M') st.obj x.id with
   | none=>rfl
   | some ob=>
    rcases dI hn with h2 | ⟨e',r',rfl,y,hy,h2⟩
    ·exact absurd h1 (ca.obj _ ob h2).1
    ·obtain⟨_,h3,_⟩:=hM.1 y hy
     rw[h2] at h3
     exact absurd h1 (ca.obj _ _ h3).1
  ·rcases dI Cz with h2 | ⟨e',r',rfl,_⟩
   ·exact (ca.obj k ok h2).2 _ hi h1
   ·simp [cK] at hi
end
end Go.Proofs.YtnlkklmcfafgeaaGreat.Vm
set_option linter.unusedVariables false
set_option linter.unusedSimpArgs false
namespace Go.Proofs.YtnlkklmcfafgeaaGreat.Vm
section
variable {P:Program} {Γ:Ctx} {w0:World} {S:Own} {st:St} {o:Oper} {e:cS} {a:Act} {w:World}
variable {f:Nat→SV} {h:Nat→Option ao} {β:Env} {φ:Nat→List Nat} {tm:Array Value}
def aF (β:Env):MU→List Nat
 | .box id _ _=>[β.da id]
 | .row id _ _ _=>(β.val id).ownBlock.toList
 | .deep id _ _ _=>(β.val id).ownBlock.toList++β.nb id
 | .gone id dp=>(β.val id).ownBlock.toList++(bif dp then β.nb id else [])
 | .cP id _ _ _=>[β.da id]
 | .lM=>[]
def Cl (dp:Bool) (o:ao):Prop:=(dp=false∧∃t e rows u,ax e=true∧o= .row t e rows false u)∨(dp=true∧∃t e ts rows,o= .deep t e ts rows none)
theorem Cl.ar {dp:Bool} {o:ao} (h:Cl dp o) (β:Env) (id:Nat):ar β id o=aF β (.gone id dp):=by
 rcases h with ⟨rfl,t,e,rows,u,_,rfl⟩ | ⟨rfl,t,e,ts,rows,rfl⟩<;>simp [Vm.ar,aF]
def c_ (h:Nat→Option ao):List MU→Prop
 | []=>True
 | .box id t cs::l=>(∃cells,h id=some (.box t cells))∧c_ h l
 | .row id t e u::l=>(ax e=true∧∃rows,h id=some (.row t e rows false u))∧c_ h l
 | .deep id t e ts::l=>(∃rows,h id=some (.deep t e ts rows none))∧c_ h l
 | .gone id dp::l=>(∃o,h id=some o∧Cl dp o)∧c_ h l
 | .cP id t cs ts::l=>(∃cells,h id=some (.box t cells))∧c_ h l
 | .lM::l=>c_ h l
theorem c_.append {U V:List MU} (hu:c_ h U) (hv:c_ h V):c_ h (U++V):=by
 induction U with
 | nil=>exact hv
 | cons x l ih=>
  cases x<;>simp only[List.cons_append,c_] at hu ⊢
  ·exact⟨hu.1,ih hu.2⟩
  ·exact⟨hu.1,ih hu.2⟩
  ·exact⟨hu.1,ih hu.2⟩
  ·exact⟨hu.1,ih hu.2⟩
  ·exact⟨hu.1,ih hu.2⟩
  ·exact ih hu
theorem jE:∀ {U:List MU},bU U=true→c_ h U→(cW U).flatMap (aF β)=U.flatMap (aF β)∧c_ h (cW U)
 | [],_,_=>⟨rfl,trivial⟩
 | .row id t e u::l,hr,hm=>by
  simp only[bU] at hr
  simp only[c_] at hm
  obtain⟨⟨hf,rows,ho⟩,hm⟩:=hm
  obtain⟨h1,h2⟩:=jE hr hm
  refine⟨?_, ?_⟩
  ·simp only[cW,List.flatMap_cons,h1,aF,aQ,List.append_nil]
  ·simp only[cW,c_]
   exact⟨⟨_,ho,.inl ⟨rfl,t,e,rows,u,hf,rfl⟩⟩,h2⟩
 | .deep id t e ts::l,hr,hm=>by
  simp only[bU] at hr
  simp only[c_] at hm
  obtain⟨⟨rows,ho⟩,hm⟩:=hm
  obtain⟨h1,h2⟩:=jE hr hm
  refine⟨?_, ?_⟩
  ·simp only[cW,List.flatMap_cons,h1,aF,aj]
  ·simp only[cW,c_]
   exact⟨⟨_,ho,.inr ⟨rfl,t,e,ts,rows,rfl⟩⟩,h2⟩
 | .box _ _ _::l,hr,_=>by simp [bU] at hr
 | .gone _ _::l,hr,_=>by simp [bU] at hr
 | .cP _ _ _ _::l,hr,_=>by simp [bU] at hr
 | .lM::l,hr,hm=>by
  simp only[bU] at hr
  simp only[c_] at hm
  obtain⟨h1,h2⟩:=jE hr hm
  exact⟨by simp only[cW,List.flatMap_cons,h1,aF,List.nil_append],h2⟩
theorem dh (hc:Core w0 S f h β φ tm w):∀(cs:List CT) (ts:List TypeId) (ss:List SV) (us:List Value) (q:List DC×List MU),ah w (Av h β) β ss us→(a9 cs ts ss).val f h=some q→
  dm w cs ts q.1 us (q.2.flatMap (aF β))∧c_ h q.2
 | [],ts,ss,us,q,hs,hq=>by
  cases ts with
  | nil=>
   cases ss with
   | nil=>
    simp only[a9,M.ab,aa] at hq
    subst hq
    simp only[ah] at hs
    exact⟨⟨rfl,rfl,hs,rfl⟩,trivial⟩
   | cons s ss=>simp [a9] at hq
  | cons t ts=>simp [a9] at hq
 | .int k::cs,ts,ss,us,q,hs,hq=>by
  cases ss with
  | nil=>simp [a9] at hq
  | cons s ss=>
   simp only[ah] at hs
   obtain⟨v,aW,rfl,h1,h2⟩:=hs
   simp only[a9,M.ag,af,M.ab,aa] at hq
   obtain⟨q1,aN,q2,cE,rfl⟩:=hq
   obtain⟨fp,hr,_⟩:=dH hc h1 aN
   obtain⟨k1,k2⟩:=dh hc cs ts ss aW q2 h2 cE
   refine⟨?_,k2⟩
   simp only[dm]
   refine⟨q1.1,q2.1,v,aW,rfl,rfl, ?_,k1⟩
   simp only[cd] at hr ⊢
   obtain⟨n,a,b,c,_⟩:=hr
   exact⟨n,a,b,c,trivial⟩
 | .bool::cs,ts,ss,us,q,hs,hq=>by
  cases ss with
  | nil=>simp [a9] at hq
  | cons s ss=>
   simp only[ah] at hs
   obtain⟨v,aW,rfl,h1,h2⟩:=hs
   simp only[a9,M.ag,af,M.ab,aa] at hq
   obtain⟨q1,aN,q2,cE,rfl⟩:=hq
   obtain⟨fp,hr,_⟩:=dH hc h1 aN
   obtain⟨k1,k2⟩:=dh hc cs ts ss aW q2 h2 cE
   refine⟨?_,k2⟩
   simp only[dm]
   refine⟨q1.1,q2.1,v,aW,rfl,rfl, ?_,k1⟩
   simp only[cd] at hr ⊢
   obtain⟨n,a,b,_⟩:=hr
   exact⟨n,a,b,trivial⟩
 | .str::cs,ts,ss,us,q,hs,hq=>by
  cases ss with
  | nil=>simp [a9] at hq
  | cons s ss=>
   simp only[ah] at hs
   obtain⟨v,aW,rfl,h1,h2⟩:=hs
   simp only[a9,M.ag,af,M.ab,aa] at hq
   obtain⟨q1,aN,q2,cE,rfl⟩:=hq
   obtain⟨fp,hr,_⟩:=dH hc h1 aN
   obtain⟨k1,k2⟩:=dh hc cs ts ss aW q2 h2 cE
   refine⟨?_,k2⟩
   simp only[dm]
   refine⟨q1.1,q2.1,v,aW,rfl,rfl, ?_,k1⟩
   simp only[cd] at hr ⊢
   obtain⟨n,a,b,c,_⟩:=hr
   exact⟨n,a,b,c,trivial⟩
 | .sl el::cs,ts,ss,us,q,hs,hq=>by
  cases ts with
  | nil=>simp [a9] at hq
  | cons t ts=>
   cases ss with
   | nil=>simp [a9] at hq
   | cons s ss=>
    simp only[ah] at hs
    obtain⟨v,aW,rfl,h1,h2⟩:=hs
    simp only[a9,M.ag,af,M.ab,aa] at hq
    obtain⟨q1,aN,q2,cE,rfl⟩:=hq
    obtain⟨k1,k2⟩:=dh hc cs ts ss aW q2 h2 cE
    cases s with
    | nil=>
     simp only at aN
     cases eF:ax el
     ·simp [eF] at aN
     ·simp only[eF,aj,M.ab,aa] at aN
      subst aN
      simp only[aq] at h1
      subst h1
      refine⟨?_,k2⟩
      simp only[dm]
      exact⟨t,ts,[],q2.1,_,aW,[],[],q2.2.flatMap (aF β),rfl,rfl,rfl,eF,⟨by simp,.inl ⟨rfl,rfl,rfl⟩⟩,⟨rfl,by simp⟩,k1,by simp [aF,Value.ownBlock]⟩
    | own id=>
     simp only[M.a8,af] at aN
     obtain⟨ob,aS,aN⟩:=aN
     cases ob with
     | row t' e' r fz u=>
      cases fz with
      | true=>simp at aN
      | false=>
       simp only at aN
       cases aO:Nat.beq t' t && aL e' el && ax el
       ·simp [aO] at aN
       ·simp only[aO,aj,M.ab,aa] at aN
        subst aN
        simp only[aw] at aO
        have ht:=aM aO.1.1
        have he:=aR _ _ aO.1.2
        subst ht
        subst he
        simp only[aq] at h1
        obtain⟨vals,aE,g1,g2,_,_⟩:=hc.aC id _ aS
        refine⟨?_,⟨⟨aO.2,r,aS⟩,k2⟩⟩
        simp only[dm]
        refine⟨t',ts,r,q2.1,v,aW,vals,aE,q2.2.flatMap (aF β),rfl,rfl,rfl,aO.2,by rw[h1.1];exact g1,g2,k1, ?_⟩
        simp only[List.flatMap_cons,aF,h1.1]
     | box _ _=>simp at aN
     | ef _ _=>simp at aN
     | deep _ _ _ _ _=>simp at aN
    | _=>simp at aN
theorem gT.one {t:TT} {e:List CT} {rows:List (List DC)} {v:Value} {mb:List Nat} (h:gT w t e rows v mb):v.oneCell'=true:=by
 cases t with
 | flat t=>
  obtain⟨_,_,_,h1,_⟩:=h
  exact h1.one
 | deep t its=>
  obtain⟨_,_,h1,_⟩:=h
  exact h1.one
theorem cF (hc:Core w0 S f h β φ tm w):∀(cs:List CT) (ts:List TT) (ss:List SV) (us:List Value) (q:List DC×List MU),ah w (Av h β) β ss us→(aA cs ts ss).val f h=some q→
  aZ w cs ts q.1 us (q.2.flatMap (aF β))∧c_ h q.2
 | [],ts,ss,us,q,hs,hq=>by
  cases ts with
  | nil=>
   cases ss with
   | nil=>
    simp only[aA,M.ab,aa] at hq
    subst hq
    simp only[ah] at hs
    exact⟨⟨rfl,rfl,hs,rfl⟩,trivial⟩
   | cons s ss=>simp [aA] at hq
  | cons t ts=>simp [aA] at hq
 | .int k::cs,ts,ss,us,q,hs,hq=>by
  cases ss with
  | nil=>simp [aA] at hq
  | cons s ss=>
   simp only[ah] at hs
   obtain⟨v,aW,rfl,h1,h2⟩:=hs
   simp only[aA,M.ag,af,M.ab,aa] at hq
   obtain⟨q1,aN,q2,cE,rfl⟩:=hq
   obtain⟨fp,hr,_⟩:=dH hc h1 aN
   obtain⟨k1,k2⟩:=cF hc cs ts ss aW q2 h2 cE
   refine⟨?_,k2⟩
   simp only[aZ]
   refine⟨q1.1,q2.1,v,aW,rfl,rfl, ?_,k1⟩
   simp only[cd] at hr ⊢
   obtain⟨n,a,b,c,_⟩:=hr
   exact⟨n,a,b,c,trivial⟩
 | .bool::cs,ts,ss,us,q,hs,hq=>by
  cases ss with
  | nil=>simp [aA] at hq
  | cons s ss=>
   simp only[ah] at hs
   obtain⟨v,aW,rfl,h1,h2⟩:=hs
   simp only[aA,M.ag,af,M.ab,aa] at hq
   obtain⟨q1,aN,q2,cE,rfl⟩:=hq
   obtain⟨fp,hr,_⟩:=dH hc h1 aN
   obtain⟨k1,k2⟩:=cF hc cs ts ss aW q2 h2 cE
   refine⟨?_,k2⟩
   simp only[aZ]
   refine⟨q1.1,q2.1,v,aW,rfl,rfl, ?_,k1⟩
   simp only[cd] at hr ⊢
   obtain⟨n,a,b,_⟩:=hr
   exact⟨n,a,b,trivial⟩
 | .str::cs,ts,ss,us,q,hs,hq=>by
  cases ss with
  | nil=>simp [aA] at hq
  | cons s ss=>
   simp only[ah] at hs
   obtain⟨v,aW,rfl,h1,h2⟩:=hs
   simp only[aA,M.ag,af,M.ab,aa] at hq
   obtain⟨q1,aN,q2,cE,rfl⟩:=hq
   obtain⟨fp,hr,_⟩:=dH hc h1 aN
   obtain⟨k1,k2⟩:=cF hc cs ts ss aW q2 h2 cE
   refine⟨?_,k2⟩
   simp only[aZ]
   refine⟨q1.1,q2.1,v,aW,rfl,rfl, ?_,k1⟩
   simp only[cd] at hr ⊢
   obtain⟨n,a,b,c,_⟩:=hr
   exact⟨n,a,b,c,trivial⟩
 | .sl el::cs,ts,ss,us,q,hs,hq=>by
  cases ts with
  | nil=>simp [aA] at hq
  | cons t ts=>
   cases ss with
   | nil=>cases t<;>simp [aA] at hq
   | cons s ss=>
    simp only[ah] at hs
    obtain⟨v,aW,rfl,h1,h2⟩:=hs
    cases t with
    | flat t=>
     simp only[aA,M.ag,af,M.ab,aa] at hq
     obtain⟨q1,aN,q2,cE,rfl⟩:=hq
     obtain⟨k1,k2⟩:=cF hc cs ts ss aW q2 h2 cE
     cases s with
     | nil=>
      simp only at aN
      cases eF:ax el
      ·simp [eF] at aN
      ·simp only[eF,aj,M.ab,aa] at aN
       subst aN
       simp only[aq] at h1
       subst h1
       refine⟨?_,k2⟩
       simp only[aZ]
       exact⟨.flat t,ts,[],q2.1,_,aW,[],q2.2.flatMap (aF β),rfl,rfl,rfl,⟨eF,[],[],⟨by simp,.inl ⟨rfl,rfl,rfl⟩⟩,⟨rfl,by simp⟩,by simp [Value.ownBlock]⟩,k1,by simp [aF]⟩
     | own id=>
      simp only[M.a8,af] at aN
      obtain⟨ob,aS,aN⟩:=aN
      cases ob with
      | row t' e' r fz u=>
       cases fz with
       | true=>simp at aN
       | false=>
        simp only at aN
        cases aO:Nat.beq t' t && aL e' el && ax el
        ·simp [aO] at aN
        ·simp only[aO,aj,M.ab,aa] at aN
         subst aN
         simp only[aw] at aO
         have ht:=aM aO.1.1
         have he:=aR _ _ aO.1.2
         subst ht
         subst he
         simp only[aq] at h1
         obtain⟨vals,aE,g1,g2,_,_⟩:=hc.aC id _ aS
         refine⟨?_,⟨⟨aO.2,r,aS⟩,k2⟩⟩
         simp only[aZ]
         refine⟨.flat t',ts,r,q2.1,v,aW,v.ownBlock.toList,q2.2.flatMap (aF β),rfl,rfl,rfl,⟨aO.2,vals,aE,by rw[h1.1];exact g1,g2,rfl⟩,k1, ?_⟩
         simp only[List.flatMap_cons,aF,h1.1]
      | box _ _=>simp at aN
      | ef _ _=>simp at aN
      | deep _ _ _ _ _=>simp at aN
     | _=>simp at aN
    | deep t its=>
     simp only[aA,M.ag,af,M.ab,aa] at hq
     obtain⟨q1,aN,q2,cE,rfl⟩:=hq
     obtain⟨k1,k2⟩:=cF hc cs ts ss aW q2 h2 cE
     cases s with
     | nil=>
      simp only[M.ab,aa] at aN
      subst aN
      simp only[aq] at h1
      subst h1
      refine⟨?_,k2⟩
      simp only[aZ]
      exact⟨.deep t its,ts,[],q2.1,_,aW,[],q2.2.flatMap (aF β),rfl,rfl,rfl,⟨[],[],⟨by simp,.inl ⟨rfl,rfl,rfl⟩⟩,⟨rfl,by simp⟩,by simp [Value.ownBlock]⟩,k1,by simp [aF]⟩
     | own id=>
      simp only[M.a8,af] at aN
      obtain⟨ob,aS,aN⟩:=aN
      cases ob with
      | deep t' e' ea r hl=>
       cases hl with
       | some _=>simp at aN
       | none=>
        simp only at aN
        cases aO:Nat.beq t' t && aL e' el && fR ea its
        ·simp [aO] at aN
        ·simp only[aO,aj,M.ab,aa] at aN
         subst aN
         simp only[aw] at aO
         have ht:=aM aO.1.1
         have he:=aR _ _ aO.1.2
         have FM:=gr _ _ aO.2
         subst ht
         subst he
         subst FM
         simp only[aq] at h1
         obtain⟨vals,a7,g1,g2,g3,_⟩:=hc.aC id _ aS
         refine⟨?_,⟨⟨r,aS⟩,k2⟩⟩
         simp only[aZ]
         refine⟨.deep t' ea,ts,r,q2.1,v,aW,v.ownBlock.toList++a7.flatten,q2.2.flatMap (aF β),rfl,rfl,rfl,⟨vals,a7,by rw[h1.1];exact g1,g2,rfl⟩,k1, ?_⟩
         simp only[List.flatMap_cons,aF,h1.1,g3]
      | box _ _=>simp at aN
      | ef _ _=>simp at aN
      | row _ _ _ _ _=>simp at aN
     | _=>simp at aN
theorem mG (hc:Core w0 S f h β φ tm w) {k:AK} {ts:List TT} {s:SV} {v:Value} {q1:List DC×List MU} (h1:aq w (Av h β) β s v) (aN:(ix k ts s).val f h=some q1):
  (∃us:List Value,(bif k.agg then v= .agg us.toArray else (us=[v]∧v.oneCell'=true))∧(∀x∈us,x.oneCell'=true)∧aZ w k.bI ts q1.1 us (q1.2.flatMap (aF β)))∧c_ h q1.2:=by
 unfold ix at aN
 cases hk:k.agg with
 | true=>
  cases s with
  | agg cs=>
   simp only[hk] at aN
   simp only[aq] at h1
   obtain⟨us,rfl,gu,bk⟩:=h1
   obtain⟨r1,r2⟩:=cF hc k.bI ts cs us q1 gu aN
   exact⟨⟨us,rfl,bk,r1⟩,r2⟩
  | _=>simp [hk] at aN
 | false=>
  have lz:(aA k.bI ts [s]).val f h=some q1:=by
   cases s<;>simp only[hk] at aN<;>first | exact aN | (simp at aN)
  have ib:ah w (Av h β) β [s] [v]:=by simp only[ah];exact⟨v,[],rfl,h1,rfl⟩
  obtain⟨r1,r2⟩:=cF hc k.bI ts [s] [v] q1 ib lz
  have bk:v.oneCell'=true:=by
   cases EI:k.bI with
   | nil=>rw[EI] at r1;simp only[aZ] at r1;simp at r1
   | cons c cs=>
    rw[EI] at r1
    cases c with
    | sl el=>
     simp only[aZ] at r1
     obtain⟨t,ea,rows,bc,v',aW,m1,gw,_,_,e0,h3,_⟩:=r1
     injection e0 with e0
     subst e0
     exact h3.one
    | int _=>simp only[aZ] at r1;obtain⟨d,bc,v',aW,_,e0,h3,_⟩:=r1;injection e0 with e0;subst e0;exact h3.one
    | bool=>simp only[aZ] at r1;obtain⟨d,bc,v',aW,_,e0,h3,_⟩:=r1;injection e0 with e0;subst e0;exact h3.one
    | str=>simp only[aZ] at r1;obtain⟨d,bc,v',aW,_,e0,h3,_⟩:=r1;injection e0 with e0;subst e0;exact h3.one
  exact⟨⟨[v],⟨rfl,bk⟩,by simpa using bk,r1⟩,r2⟩
theorem fm (hc:Core w0 S f h β φ tm w):∀(ks:List AK) (ms:List (Option MK)) (ss:List SV) (vs:List Value) (q:List DC×fg×List MU),ah w (Av h β) β ss vs→(bg ks ms ss).val f h=some q→
  ∃fp,cO w ks ms q.1 vs fp (q.2.2.flatMap (aF β))∧bZ h q.2.1∧c_ h q.2.2∧∀b∈fp,(¬Av h β b)∨∃x∈q.2.1,b∈fe h β x.1
 | [],ms,ss,vs,q,hs,hq=>by
  cases ms with
  | nil=>
   cases ss with
   | nil=>
    simp only[bg,M.ab,aa] at hq
    subst hq
    simp only[ah] at hs
    exact⟨[],⟨rfl,rfl,hs,rfl,rfl⟩,by simp [bZ],trivial,by simp⟩
   | cons s ss=>simp [bg] at hq
  | cons m ms=>simp [bg] at hq
 | k::ks,ms,ss,vs,q,hs,hq=>by
  cases ms with
  | nil=>simp [bg] at hq
  | cons m ms=>
   cases ss with
   | nil=>cases m with
    | none=>simp [bg] at hq
    | some m=>cases m<;>simp [bg] at hq
   | cons s ss=>
    simp only[ah] at hs
    obtain⟨v,l,rfl,h1,h2⟩:=hs
    cases m with
    | none=>
     simp only[bg,M.ag,af,M.ab,aa] at hq
     obtain⟨q1,aN,q2,cE,rfl⟩:=hq
     obtain⟨gB,DH,Di,DN,iS⟩:=fm hc ks ms ss l q2 h2 cE
     have lz:(jw [k] [s]).val f h=some (q1.1++[],q1.2.1++[]):=by
      simp only[jw,M.ag,af,M.ab,aa]
      exact⟨q1,aN,([],[]),rfl,rfl⟩
     have ib:ah w (Av h β) β [s] [v]:=by simp only[ah];exact⟨v,[],rfl,h1,rfl⟩
     obtain⟨lI,Gz,F3,jF⟩:=lW hc [k] [s] [v] _ ib lz
     simp only[List.append_nil] at Gz F3 jF
     obtain⟨d1,d2,v',cR,f1,f2,e1,e2,Gz,⟨rfl,rfl,rfl⟩,rfl⟩:=Gz
     simp only[List.append_nil] at e1 jF
     simp only[List.cons.injEq,and_true] at e2
     subst e2
     subst e1
     refine⟨f1++gB,⟨none,ms,q1.1,q2.1,v,l,f1,gB,[],q2.2.2.flatMap (aF β),rfl,rfl,rfl,⟨Gz,rfl⟩,DH,rfl,rfl⟩,fj F3 Di,DN, ?_⟩
     intro b hb
     rcases List.mem_append.1 hb with hb | hb
     ·rcases jF b hb with h3 | ⟨x,hx,h3⟩
      ·exact .inl h3
      ·exact .inr ⟨x,aT _ hx,h3⟩
     ·rcases iS b hb with h3 | ⟨x,hx,h3⟩
      ·exact .inl h3
      ·exact .inr ⟨x,aK _ hx,h3⟩
    | some m=>
     cases m with
     | box t=>
      cases s with
      | ptr id off=>
       cases off with
       | succ off=>simp [bg] at hq
       | zero=>
        simp only[bg,M.a8,af] at hq
        obtain⟨ob,aS,hq⟩:=hq
        cases ob with
        | box t' cells=>
         simp only at hq
         cases ky:Nat.beq t' t
         ·simp [ky] at hq
         ·have kz:=aM ky
          subst kz
          simp only[ky,aj,M.ag,af] at hq
          obtain⟨q1,aN,hq⟩:=hq
          cases FH:q1.2.1.isEmpty
          ·simp [FH] at hq
          ·simp only[FH,aj,M.ag,af,M.ab,aa] at hq
           obtain⟨q2,cE,rfl⟩:=hq
           obtain⟨gB,DH,Di,DN,iS⟩:=fm hc ks ms ss l q2 h2 cE
           obtain⟨us,g1,g2,g3,_⟩:=hc.aC id _ aS
           obtain⟨lI,hr,F3,jF,_⟩:=d9 hc k.bI cells us q1 g2 aN
           have hl:=ah.length _ _ g2
           have ka:=cL _ _ _ aN
           simp only[aq] at h1
           have KH:q1.2.1=[]:=List.isEmpty_iff.1 FH
           refine⟨lI++gB,⟨some (.box t'),ms,q1.1,q2.1,v,l,lI,gB,[β.da id],q2.2.2.flatMap (aF β),rfl,rfl,rfl,⟨β.da id,us,h1,g1,g3,hr,by omega,rfl⟩,DH,rfl,by simp [aF]⟩,Di,⟨⟨cells,aS⟩,DN⟩, ?_⟩
           intro b hb
           rcases List.mem_append.1 hb with hb | hb
           ·rcases jF b hb with h3 | ⟨x,hx,h3⟩
            ·exact .inl h3
            ·rw[KH] at hx
             simp at hx
           ·exact iS b hb
        | row _ _ _ _ _=>simp at hq
        | ef _ _=>simp at hq
        | deep _ _ _ _ _=>simp at hq
      | _=>simp [bg] at hq
     | rows ts=>
      simp only[bg,M.ag,af,M.ab,aa] at hq
      obtain⟨q1,aN,q2,cE,rfl⟩:=hq
      obtain⟨gB,DH,Di,DN,iS⟩:=fm hc ks ms ss l q2 h2 cE
      obtain⟨⟨us,a1,a2,a3⟩,a4⟩:=mG hc h1 aN
      refine⟨gB,⟨some (.rows ts),ms,q1.1,q2.1,v,l,[],gB,q1.2.flatMap (aF β),q2.2.2.flatMap (aF β),rfl,rfl,rfl,⟨us,a1,a2,a3,rfl⟩,DH,rfl,by simp⟩,Di,a4.append DN,iS⟩
     | jD ts=>
      simp only[bg,M.ag,af] at hq
      obtain⟨q1,aN,hq⟩:=hq
      cases A2:bU q1.2
      ·simp [A2] at hq
      simp only[A2,aj,M.ag,af,M.ab,aa] at hq
      obtain⟨q2,cE,rfl⟩:=hq
      obtain⟨gB,DH,Di,DN,iS⟩:=fm hc ks ms ss l q2 h2 cE
      obtain⟨⟨us,a1,a2,a3⟩,a4⟩:=mG hc h1 aN
      obtain⟨g1,g2⟩:=jE (β:=β) A2 a4
      refine⟨gB,⟨some (.jD ts),ms,q1.1,q2.1,v,l,[],gB,q1.2.flatMap (aF β),q2.2.2.flatMap (aF β),rfl,rfl,rfl,⟨us,a1,a2,a3,rfl⟩,DH,rfl,by rw[List.flatMap_append,g1]⟩,Di,g2.append DN,iS⟩
     | cP t ts=>
      cases s with
      | ptr id off=>
       cases off with
       | succ off=>simp [bg] at hq
       | zero=>
        simp only[bg,M.a8,af] at hq
        obtain⟨ob,aS,hq⟩:=hq
        cases ob with
        | box t' cells=>
         simp only at hq
         cases ky:Nat.beq t' t
         ·simp [ky] at hq
         ·have kz:=aM ky
          subst kz
          simp only[ky,aj,M.ag,af] at hq
          obtain⟨q1,aN,hq⟩:=hq
          cases A2:bU q1.2
          ·simp [A2] at hq
          simp only[A2,aj,M.ag,af,M.ab,aa] at hq
          obtain⟨q2,cE,rfl⟩:=hq
          obtain⟨gB,DH,Di,DN,iS⟩:=fm hc ks ms ss l q2 h2 cE
          obtain⟨us,g1,g2,g3,_⟩:=hc.aC id _ aS
          obtain⟨r1,r2⟩:=cF hc k.bI ts cells us q1 g2 aN
          obtain⟨e1,e2⟩:=jE (β:=β) A2 r2
          simp only[aq] at h1
          refine⟨gB,⟨some (.cP t' ts),ms,q1.1,q2.1,v,l,[],gB,β.da id::q1.2.flatMap (aF β),q2.2.2.flatMap (aF β),rfl,rfl,rfl,⟨β.da id,us,_,h1,g1,g3,r1,rfl,rfl⟩,DH,rfl, ?_⟩,Di,⟨⟨cells,aS⟩,e2.append DN⟩,iS⟩
          simp only[List.flatMap_cons,List.flatMap_append,e1,aF,List.cons_append,List.nil_append]
        | row _ _ _ _ _=>simp at hq
        | ef _ _=>simp at hq
        | deep _ _ _ _ _=>simp at hq
      | _=>simp [bg] at hq
end
end Go.Proofs.YtnlkklmcfafgeaaGreat.Vm
set_option linter.unusedVariables false
set_option linter.unusedSimpArgs false
namespace Go.Proofs.YtnlkklmcfafgeaaGreat.Vm
section
variable {P:Program} {Γ:Ctx} {w0:World} {S:Own} {st:St} {o:Oper} {e:cS} {a:Act} {w w':World}
variable {f:Nat→SV} {h:Nat→Option ao} {β:Env} {φ:Nat→List Nat} {tm:Array Value}
def bC (d:Nat):Nat→List MU→List DC→List (Nat×ao)
 | _,[],_=>[]
 | k,.box id t cs::l,ds=>(id,.box t (cr cs ds 0))::bC d k l (ds.drop cs.length)
 | k,.row id t e u::l,ds=>(id,.row t e (ds.headD default).cV false u)::bC d k l ds.tail
 | k,.deep id t e ts::l,ds=>(id,.deep t e ts (ds.headD default).cV none)::bC d k l ds.tail
 | k,.gone _ _::l,ds=>bC d k l ds
 | k,.cP id t cs ts::l,ds=>(id,.box t (bp d k cs ts ds).1)::bC d (k+aJ cs) l (ds.drop cs.length)
 | k,.lM::l,ds=>bC d k l ds.tail
theorem gI {d:Nat} :∀(k:Nat) (U:List MU) (ds:List DC),jl d k U ds=(bC d k U ds).map fun x=>(x.1,some x.2)
 | _,[],_=>rfl
 | k,.box id t cs::l,ds=>by simp only[jl,bC,List.map_cons,gI k l]
 | k,.row id t e u::l,ds=>by simp only[jl,bC,List.map_cons,gI k l]
 | k,.deep id t e ts::l,ds=>by simp only[jl,bC,List.map_cons,gI k l]
 | k,.gone id dp::l,ds=>by simp only[jl,bC,gI k l]
 | k,.cP id t cs ts::l,ds=>by simp only[jl,bC,List.map_cons,gI (k+aJ cs) l]
 | k,.lM::l,ds=>by simp only[jl,bC,gI k l]
def ch:List MU→List Nat
 | []=>[]
 | .box id _ _::l=>id::ch l
 | .row id _ _ _::l=>id::ch l
 | .deep id _ _ _::l=>id::ch l
 | .gone _ _::l=>ch l
 | .cP id _ _ _::l=>id::ch l
 | .lM::l=>ch l
theorem gJ {i:Nat} :∀(U:List MU),(i∈bw U↔i∈ch U∨i∈cA U)
 | []=>by simp [bw,ch,cA]
 | .box id _ _::l=>by simp only[bw,ch,cA,List.mem_cons,gJ l,or_assoc]
 | .row id _ _ _::l=>by simp only[bw,ch,cA,List.mem_cons,gJ l,or_assoc]
 | .deep id _ _ _::l=>by simp only[bw,ch,cA,List.mem_cons,gJ l,or_assoc]
 | .gone id _::l=>by
  simp only[bw,ch,cA,List.mem_cons,gJ l]
  constructor
  ·rintro (h | h | h)
   ·exact .inr (.inl h)
   ·exact .inl h
   ·exact .inr (.inr h)
  ·rintro (h | h | h)
   ·exact .inr (.inl h)
   ·exact .inl h
   ·exact .inr (.inr h)
 | .cP id _ _ _::l=>by simp only[bw,ch,cA,List.mem_cons,gJ l,or_assoc]
 | .lM::l=>by simp only[bw,ch,cA,gJ l]
theorem dJ {d:Nat} :∀(k:Nat) (U:List MU) (ds:List DC),(bC d k U ds).map (·.1)=ch U
 | _,[],_=>rfl
 | k,.box id t cs::l,ds=>by simp only[bC,ch,List.map_cons,dJ k l]
 | k,.row id t e u::l,ds=>by simp only[bC,ch,List.map_cons,dJ k l]
 | k,.deep id t e ts::l,ds=>by simp only[bC,ch,List.map_cons,dJ k l]
 | k,.gone id dp::l,ds=>by simp only[bC,ch,dJ k l]
 | k,.cP id t cs ts::l,ds=>by simp only[bC,ch,List.map_cons,dJ (k+aJ cs) l]
 | k,.lM::l,ds=>by simp only[bC,ch,dJ k l]
def dB:List MU→Nat
 | []=>0
 | .box _ _ cs::l=>cs.length+dB l
 | .row _ _ _ _::l=>1+dB l
 | .deep _ _ _ _::l=>1+dB l
 | .gone _ _::l=>dB l
 | .cP _ _ cs _::l=>cs.length+dB l
 | .lM::l=>1+dB l
theorem iJ:∀(cs:List CT) (d1 d2:List DC) (k:Nat),k+cs.length≤d1.length→cr cs (d1++d2) k=cr cs d1 k
 | [],_,_,_,_=>rfl
 | c::cs,d1,d2,k,h=>by
  simp only[cr]
  simp only[dx] at h
  rw[iJ cs d1 d2 (k+1) (by omega)]
  congr 2
  simp only[List.getD_eq_getElem?_getD]
  rw[List.getElem?_append_left (by omega)]
theorem jS {d:Nat} :∀(k:Nat) (cs:List CT) (ts:List TT) (d1 d2:List DC),cs.length≤d1.length→bp d k cs ts (d1++d2)=bp d k cs ts d1
 | _,[],_,_,_,_=>rfl
 | k,c::cs,ts,d1,d2,hl=>by
  cases d1 with
  | nil=>simp at hl
  | cons x d1=>
   have D5:cs.length≤d1.length:=by simpa using hl
   cases c<;>simp only[List.cons_append,bp,List.headD_cons,List.tail_cons]<;>rw[jS _ cs _ d1 d2 D5]
theorem eC {d:Nat} :∀(k:Nat) (U V:List MU) (d1 d2:List DC),dB U=d1.length→bC d k (U++V) (d1++d2)=bC d k U d1++bC d (k+aY U) V d2∧dO d k (U++V) (d1++d2)=dO d k U d1++dO d (k+aY U) V d2
 | k,[],V,d1,d2,hl=>by
  have:d1=[]:=List.length_eq_zero_iff.1 hl.symm
  subst this
  exact⟨rfl,rfl⟩
 | k,.box id t cs::l,V,d1,d2,hl=>by
  simp only[dB] at hl
  obtain⟨h1,h2⟩:=eC (d:=d) k l V (d1.drop cs.length) d2 (by simp;omega)
  simp only[List.cons_append,bC,dO,aY]
  rw[iJ _ _ _ _ (by omega),List.drop_append_of_le_length (by omega),h1,h2]
  exact⟨rfl,rfl⟩
 | k,.row id t e u::l,V,d1,d2,hl=>by
  simp only[dB] at hl
  cases d1 with
  | nil=>simp at hl
  | cons x d1=>
   obtain⟨h1,h2⟩:=eC (d:=d) k l V d1 d2 (by simp at hl;omega)
   simp only[List.cons_append,bC,dO,aY,List.headD_cons,List.tail_cons,h1,h2,and_self]
 | k,.deep id t e ts::l,V,d1,d2,hl=>by
  simp only[dB] at hl
  cases d1 with
  | nil=>simp at hl
  | cons x d1=>
   obtain⟨h1,h2⟩:=eC (d:=d) k l V d1 d2 (by simp at hl;omega)
   simp only[List.cons_append,bC,dO,aY,List.headD_cons,List.tail_cons,h1,h2,and_self]
 | k,.gone id dp::l,V,d1,d2,hl=>by
  simp only[dB] at hl
  obtain⟨h1,h2⟩:=eC (d:=d) k l V d1 d2 hl
  simp only[List.cons_append,bC,dO,aY,h1,h2,and_self]
 | k,.cP id t cs ts::l,V,d1,d2,hl=>by
  simp only[dB] at hl
  obtain⟨h1,h2⟩:=eC (d:=d) (k+aJ cs) l V (d1.drop cs.length) d2 (by simp;omega)
  simp only[List.cons_append,bC,dO,aY]
  rw[jS _ _ _ _ _ (by omega),List.drop_append_of_le_length (by omega),h1,h2,←Nat.add_assoc,List.append_assoc]
  exact⟨rfl,rfl⟩
 | k,.lM::l,V,d1,d2,hl=>by
  simp only[dB] at hl
  cases d1 with
  | nil=>simp at hl
  | cons x d1=>
   obtain⟨h1,h2⟩:=eC (d:=d) k l V d1 d2 (by simp at hl;omega)
   simp only[List.cons_append,bC,dO,aY,List.tail_cons,h1,h2,and_self]
theorem ju:∀(cs:List CT) (r:List DC) (g:Nat→Option Value) (fp:List Nat),ax cs=true→bf w cs r g fp→fp=[]
 | [],r,g,fp,_,h=>by simp only[bf] at h;exact h.2
 | c::cs,r,g,fp,hf,h=>by
  simp only[bf] at h
  obtain⟨d,r',v,f1,f2,rfl,_,h1,h2,rfl⟩:=h
  cases c with
  | sl e=>simp [ax] at hf
  | int k=>
   simp only[cd] at h1
   obtain⟨_,_,_,_,rfl⟩:=h1
   rw[ju cs r' _ f2 (by simpa [ax] using hf) h2]
   rfl
  | bool=>
   simp only[cd] at h1
   obtain⟨_,_,_,rfl⟩:=h1
   rw[ju cs r' _ f2 (by simpa [ax] using hf) h2]
   rfl
  | str=>
   simp only[cd] at h1
   obtain⟨_,_,_,_,rfl⟩:=h1
   rw[ju cs r' _ f2 (by simpa [ax] using hf) h2]
   rfl
theorem gV {e:List CT} {rows:List (List DC)} {vals:List Value} {aE:List (List Nat)} (hf:ax e=true) (h:dS w e rows vals aE):aE.flatten=[]:=by
 rw[List.flatten_eq_nil_iff]
 intro l hl
 obtain⟨i,hi,rfl⟩:=List.getElem_of_mem hl
 have dY:i<rows.length:=by have:=h.1;omega
 exact ju e _ _ _ hf (h.2 i rows[i] aE[i] (by simp) (by simp))
theorem eR {d:Nat} :∀(k:Nat) (cs:List CT) (ts:List TT) (ds:List DC) (us:List Value) (mb:List Nat),aZ w' cs ts ds us mb→
  ∃N:List ay,(bp d k cs ts ds).2=cZ N∧N.map (·.id)=(List.range' k (aJ cs)).map (ai d)∧(∀x∈N,x.ok w')∧N.flatMap ay.bJ=mb∧ds.length=cs.length∧
   ∀(av:Nat→Prop) (β':Env),(∀x∈N,β'.val x.id=x.v)→ah w' av β' (bp d k cs ts ds).1 us
 | k,[],ts,ds,us,mb,hm=>by
  simp only[aZ] at hm
  obtain⟨rfl,rfl,rfl,rfl⟩:=hm
  exact⟨[],rfl,rfl,by simp,rfl,rfl,fun av β' _=>by simp [bp,ah]⟩
 | k,.int x::cs,ts,ds,us,mb,hm=>by
  simp only[aZ] at hm
  obtain⟨dd,bc,v,aW,rfl,rfl,h1,hm⟩:=hm
  obtain⟨N,e1,e2,e3,e4,e5,e6⟩:=eR (d:=d) k cs ts bc aW mb hm
  refine⟨N,by simpa only[bp,List.tail_cons] using e1,by simpa only[aJ] using e2,e3,e4,by simp [e5],fun av β' hb=> ?_⟩
  simp only[bp,List.headD_cons,List.tail_cons,ah]
  exact⟨v,aW,rfl,dG h1 (by simp),e6 av β' hb⟩
 | k,.bool::cs,ts,ds,us,mb,hm=>by
  simp only[aZ] at hm
  obtain⟨dd,bc,v,aW,rfl,rfl,h1,hm⟩:=hm
  obtain⟨N,e1,e2,e3,e4,e5,e6⟩:=eR (d:=d) k cs ts bc aW mb hm
  refine⟨N,by simpa only[bp,List.tail_cons] using e1,by simpa only[aJ] using e2,e3,e4,by simp [e5],fun av β' hb=> ?_⟩
  simp only[bp,List.headD_cons,List.tail_cons,ah]
  exact⟨v,aW,rfl,dG h1 (by simp),e6 av β' hb⟩
 | k,.str::cs,ts,ds,us,mb,hm=>by
  simp only[aZ] at hm
  obtain⟨dd,bc,v,aW,rfl,rfl,h1,hm⟩:=hm
  obtain⟨N,e1,e2,e3,e4,e5,e6⟩:=eR (d:=d) k cs ts bc aW mb hm
  refine⟨N,by simpa only[bp,List.tail_cons] using e1,by simpa only[aJ] using e2,e3,e4,by simp [e5],fun av β' hb=> ?_⟩
  simp only[bp,List.headD_cons,List.tail_cons,ah]
  exact⟨v,aW,rfl,dG h1 (by simp),e6 av β' hb⟩
 | k,.sl e::cs,ts,ds,us,mb,hm=>by
  simp only[aZ] at hm
  obtain⟨t,ea,rows,bc,v,aW,m1,gw,rfl,rfl,rfl,EF,hm,rfl⟩:=hm
  obtain⟨N,e1,e2,e3,e4,e5,e6⟩:=eR (d:=d) (k+1) cs ea bc aW gw hm
  have one:∃x:ay,x.id=ai d k∧x.obj=eU t e rows∧x.v=v∧x.ok w'∧x.bJ=m1:=by
   cases t with
   | flat t=>
    obtain⟨eF,vals,aE,h1,h2,rfl⟩:=EF
    exact⟨⟨ai d k,t,e,rows,v,aE,none⟩,rfl,rfl,rfl,⟨vals,h1,h2⟩,by simp only[ay.bJ,gV eF h2,List.append_nil]⟩
   | deep t its=>
    obtain⟨vals,a7,h1,h2,rfl⟩:=EF
    exact⟨⟨ai d k,t,e,rows,v,a7,some its⟩,rfl,rfl,rfl,⟨vals,h1,h2⟩,rfl⟩
  obtain⟨x,x1,x2,x3,x4,x5⟩:=one
  refine⟨x::N, ?_, ?_, ?_, ?_,by simp [e5],fun av β' hb=> ?_⟩
  ·simp only[bp,List.headD_cons,List.tail_cons,cZ,List.map_cons,x1,x2,DC.cV] at e1 ⊢
   rw[e1]
  ·simp only[List.map_cons,aJ,List.range'_succ,e2,x1]
  ·intro y hy
   rcases List.mem_cons.1 hy with rfl | hy
   ·exact x4
   ·exact e3 y hy
  ·simp only[List.flatMap_cons,e4,x5]
  ·simp only[bp,List.headD_cons,List.tail_cons,ah]
   refine⟨v,aW,rfl, ?_,e6 av β' (fun y hy=>hb y (List.mem_cons_of_mem _ hy))⟩
   simp only[aq]
   have:=hb x (List.mem_cons_self ..)
   rw[x1,x3] at this
   exact⟨this.symm,EF.one⟩
def Ec (h:Nat→Option ao) (β:Env) (w':World) (im:List Nat) (N:List ay) (x:fS):Prop:=
 (∃o,h x.id=some o)∧∀(av:Nat→Prop) (β':Env),β'.val x.id=β.val x.id→β'.da x.id=β.da x.id→β'.nb x.id=x.nb→(∀y∈N,β'.val y.id=y.v)→(∀b∈im,¬av b)→f9 w' av β' x.id x.obj x.bJ
def jt (d k:Nat) (h:Nat→Option ao) (β:Env) (w':World) (im:List Nat) (U:List MU) (od:List DC) (mb:List Nat):Prop:=
 dB U=od.length∧∃(T:List fS) (N:List ay),T.map (fun x=>(x.id,x.obj))=bC d k U od∧dO d k U od=cZ N∧N.map (·.id)=(List.range' k (aY U)).map (ai d)∧(∀x∈N,x.ok w')∧
  (T.flatMap fS.bJ++N.flatMap ay.bJ).Perm mb∧∀x∈T,Ec h β w' im N x
theorem jt.append {d k:Nat} {im:List Nat} {U V:List MU} {d1 d2:List DC} {m1 m2:List Nat} (h1:jt d k h β w' im U d1 m1) (h2:jt d (k+aY U) h β w' im V d2 m2):jt d k h β w' im (U++V) (d1++d2) (m1++m2):=by
 obtain⟨l1,T1,N1,e1,f1,i1,o1,b1,g1⟩:=h1
 obtain⟨l2,T2,N2,e2,f2,i2,o2,b2,g2⟩:=h2
 have hlen:∀(U V:List MU),dB (U++V)=dB U+dB V∧aY (U++V)=aY U+aY V:=by
  intro U V
  induction U with
  | nil=>simp [dB,aY]
  | cons x l ih=>cases x<;>simp only[List.cons_append,dB,aY,ih.1,ih.2,Nat.add_assoc,and_self]
 obtain⟨a1,a2⟩:=eC (d:=d) k U V d1 d2 l1
 refine⟨by simp only[hlen,fv,l1,l2],T1++T2,N1++N2,by rw[List.map_append,e1,e2,a1],by rw[a2,f1,f2];simp [cZ], ?_,fun x hx=> ?_, ?_,fun x hx=> ?_⟩
 ·rw[List.map_append,i1,i2,(hlen U V).2,←List.map_append,List.range'_append_1]
 ·rcases List.mem_append.1 hx with hx | hx
  ·exact o1 x hx
  ·exact o2 x hx
 ·refine List.Perm.trans ?_ (b1.append b2)
  simp only[List.flatMap_append,List.append_assoc]
  refine List.Perm.append_left _ ?_
  rw[←List.append_assoc,←List.append_assoc]
  exact List.Perm.append_right _ List.perm_append_comm
 ·rcases List.mem_append.1 hx with hx | hx
  ·exact⟨(g1 x hx).1,fun av β' a b c dd e=>(g1 x hx).2 av β' a b c (fun y hy=>dd y (aT _ hy)) e⟩
  ·exact⟨(g2 x hx).1,fun av β' a b c dd e=>(g2 x hx).2 av β' a b c (fun y hy=>dd y (aK _ hy)) e⟩
theorem ko {d:Nat} (k:Nat) {im:List Nat} :∀(U:List MU),jt d k h β w' im (cW U) [] []
 | []=>⟨rfl,[],[],rfl,rfl,rfl,by simp,List.Perm.refl _,by simp⟩
 | x::l=>by
  have ih:jt d k h β w' im (cW l) [] []:=ko k l
  cases x<;>simp only[cW]<;>first
   | exact ih
   | (obtain⟨a,T,N,b,c,dd,e,f,g⟩:=ih;exact⟨a,T,N,b,c,dd,e,f,g⟩)
theorem gT.Ft {t:TT} {e:List CT} {rows:List (List DC)} {mb:List Nat} (h:gT w t e rows (.slice none 0 0) mb):mb=[]:=by
 cases t with
 | flat t=>
  obtain⟨_,_,_,_,_,rfl⟩:=h
  rfl
 | deep t its=>
  obtain⟨vals,a7,h1,h2,rfl⟩:=h
  rcases h1.2 with ⟨_,h0,_⟩ | ⟨g,cap,cur,hv,_⟩
  ·have:a7=[]:=List.length_eq_zero_iff.1 (by rw[h2.1,h0])
   subst this
   rfl
  ·cases hv
theorem gm (hc:Core w0 S f h β φ tm w) {d:Nat} {im:List Nat} :∀(k:Nat) (cs:List CT) (ts:List TT) (ss:List SV) (us:List Value) (q:List DC×List MU) (od:List DC) (mb:List Nat),ah w (Av h β) β ss us→(aA cs ts ss).val f h=some q→i7 w' cs ts od us mb→
  jt d k h β w' im q.2 od mb
 | k,[],ts,ss,us,q,od,mb,hs,hq,ho=>by
  cases ts with
  | nil=>
   cases ss with
   | nil=>
    simp only[aA,M.ab,aa] at hq
    subst hq
    simp only[i7] at ho
    rw[ho.1,ho.2.2]
    exact⟨rfl,[],[],rfl,rfl,rfl,by simp,List.Perm.refl _,by simp⟩
   | cons s ss=>simp [aA] at hq
  | cons t ts=>simp [aA] at hq
 | k,.int kk::cs,ts,ss,us,q,od,mb,hs,hq,ho=>by
  cases ss with
  | nil=>simp [aA] at hq
  | cons s ss=>
   simp only[ah] at hs
   obtain⟨v,aW,rfl,h1,h2⟩:=hs
   simp only[aA,M.ag,af,M.ab,aa] at hq
   obtain⟨q1,aN,q2,cE,rfl⟩:=hq
   simp only[i7] at ho
   obtain⟨v',FP,e0,ho⟩:=ho
   simp only[List.cons.injEq] at e0
   obtain⟨rfl,rfl⟩:=e0
   exact gm (d:=d) hc k cs ts ss aW q2 od mb h2 cE ho
 | k,.bool::cs,ts,ss,us,q,od,mb,hs,hq,ho=>by
  cases ss with
  | nil=>simp [aA] at hq
  | cons s ss=>
   simp only[ah] at hs
   obtain⟨v,aW,rfl,h1,h2⟩:=hs
   simp only[aA,M.ag,af,M.ab,aa] at hq
   obtain⟨q1,aN,q2,cE,rfl⟩:=hq
   simp only[i7] at ho
   obtain⟨v',FP,e0,ho⟩:=ho
   simp only[List.cons.injEq] at e0
   obtain⟨rfl,rfl⟩:=e0
   exact gm (d:=d) hc k cs ts ss aW q2 od mb h2 cE ho
 | k,.str::cs,ts,ss,us,q,od,mb,hs,hq,ho=>by
  cases ss with
  | nil=>simp [aA] at hq
  | cons s ss=>
   simp only[ah] at hs
   obtain⟨v,aW,rfl,h1,h2⟩:=hs
   simp only[aA,M.ag,af,M.ab,aa] at hq
   obtain⟨q1,aN,q2,cE,rfl⟩:=hq
   simp only[i7] at ho
   obtain⟨v',FP,e0,ho⟩:=ho
   simp only[List.cons.injEq] at e0
   obtain⟨rfl,rfl⟩:=e0
   exact gm (d:=d) hc k cs ts ss aW q2 od mb h2 cE ho
 | k,.sl el::cs,ts,ss,us,q,od,mb,hs,hq,ho=>by
  cases ts with
  | nil=>simp [aA] at hq
  | cons t ts=>
   cases ss with
   | nil=>cases t<;>simp [aA] at hq
   | cons s ss=>
    simp only[ah] at hs
    obtain⟨v,aW,rfl,h1,h2⟩:=hs
    simp only[i7] at ho
    obtain⟨t1,Gq,rows,LZ,v1,FP,m1,gw,e1,rfl,e2,o1,o3,rfl⟩:=ho
    simp only[List.cons.injEq] at e1 e2
    obtain⟨rfl,rfl⟩:=e1
    obtain⟨rfl,rfl⟩:=e2
    have pack:∀(q1:DC×MU) (q2:List DC×List MU),jt d k h β w' im [q1.2] [.sl rows] m1→(aA cs ts ss).val f h=some q2→jt d k h β w' im (q1.2::q2.2) (.sl rows::LZ) (m1++gw):=by
     intro q1 q2 k1 cE
     exact k1.append (gm (d:=d) hc _ cs ts ss aW q2 LZ gw h2 cE o3)
    have none_:v= .slice none 0 0→jt d k h β w' im [.lM] [.sl rows] m1:=by
     rintro rfl
     exact⟨rfl,[],[],rfl,rfl,rfl,by simp,by rw[o1.Ft];exact List.Perm.refl _,by simp⟩
    cases t with
    | flat t=>
     simp only[aA,M.ag,af,M.ab,aa] at hq
     obtain⟨q1,aN,q2,cE,rfl⟩:=hq
     refine pack q1 q2 ?_ cE
     cases s with
     | nil=>
      simp only at aN
      cases eF:ax el
      ·simp [eF] at aN
      ·simp only[eF,aj,M.ab,aa] at aN
       subst aN
       simp only[aq] at h1
       exact none_ h1
     | own id=>
      simp only[M.a8,af] at aN
      obtain⟨ob,aS,aN⟩:=aN
      cases ob with
      | row t' e' r fz u=>
       cases fz with
       | true=>simp at aN
       | false=>
        simp only at aN
        cases aO:Nat.beq t' t && aL e' el && ax el
        ·simp [aO] at aN
        ·simp only[aO,aj,M.ab,aa] at aN
         subst aN
         simp only[aw] at aO
         have ht:=aM aO.1.1
         have he:=aR _ _ aO.1.2
         subst ht
         subst he
         simp only[aq] at h1
         obtain⟨eF,vals,aE,p1,p2,rfl⟩:=o1
         refine⟨rfl,[⟨id,.row t' e' rows false u,[],v.ownBlock.toList⟩],[],rfl,rfl,rfl,by simp,by simp,fun x hx=> ?_⟩
         rw[List.mem_singleton] at hx
         subst hx
         refine⟨⟨_,aS⟩,fun av β' hv hb hn _ kq=> ?_⟩
         simp only at hv hb hn ⊢
         refine⟨vals,aE,by rw[hv,←h1.1];exact p1,p2,by rw[gV eF p2];simp, ?_⟩
         rw[hv,←h1.1,gV eF p2]
         cases u<;>simp
      | box _ _=>simp at aN
      | ef _ _=>simp at aN
      | deep _ _ _ _ _=>simp at aN
     | _=>simp at aN
    | deep t its=>
     simp only[aA,M.ag,af,M.ab,aa] at hq
     obtain⟨q1,aN,q2,cE,rfl⟩:=hq
     refine pack q1 q2 ?_ cE
     cases s with
     | nil=>
      simp only[M.ab,aa] at aN
      subst aN
      simp only[aq] at h1
      exact none_ h1
     | own id=>
      simp only[M.a8,af] at aN
      obtain⟨ob,aS,aN⟩:=aN
      cases ob with
      | deep t' e' ea r hl=>
       cases hl with
       | some _=>simp at aN
       | none=>
        simp only at aN
        cases aO:Nat.beq t' t && aL e' el && fR ea its
        ·simp [aO] at aN
        ·simp only[aO,aj,M.ab,aa] at aN
         subst aN
         simp only[aw] at aO
         have ht:=aM aO.1.1
         have he:=aR _ _ aO.1.2
         have FM:=gr _ _ aO.2
         subst ht
         subst he
         subst FM
         simp only[aq] at h1
         obtain⟨vals,a7,p1,p2,rfl⟩:=o1
         refine⟨rfl,[⟨id,.deep t' e' ea rows none,a7.flatten,v.ownBlock.toList++a7.flatten⟩],[],rfl,rfl,rfl,by simp,by simp,fun x hx=> ?_⟩
         rw[List.mem_singleton] at hx
         subst hx
         refine⟨⟨_,aS⟩,fun av β' hv hb hn _ kq=> ?_⟩
         simp only at hv hb hn ⊢
         exact⟨vals,a7,by rw[hv,←h1.1];exact p1,p2,hn,by rw[hv,←h1.1]⟩
      | box _ _=>simp at aN
      | ef _ _=>simp at aN
      | row _ _ _ _ _=>simp at aN
     | _=>simp at aN
theorem iI (hc:Core w0 S f h β φ tm w) {d:Nat} {H9:List Nat} :∀(k0:Nat) (ks:List AK) (ms:List (Option MK)) (ss:List SV) (vs:List Value) (q:List DC×fg×List MU) (od:List DC) (im mb:List Nat),ah w (Av h β) β ss vs→(bg ks ms ss).val f h=some q→lR w' ks ms od vs im mb→(∀b∈im,b∈H9)→
  jt d k0 h β w' H9 q.2.2 od mb
 | k0,[],ms,ss,vs,q,od,im,mb,hs,hq,ho,_=>by
  cases ms with
  | nil=>
   cases ss with
   | nil=>
    simp only[bg,M.ab,aa] at hq
    subst hq
    simp only[lR] at ho
    rw[ho.1,ho.2.2.2]
    exact⟨rfl,[],[],rfl,rfl,rfl,by simp,List.Perm.refl _,by simp⟩
   | cons s ss=>simp [bg] at hq
  | cons m ms=>simp [bg] at hq
 | k0,k::ks,ms,ss,vs,q,od,im,mb,hs,hq,ho,kq=>by
  simp only[lR] at ho
  obtain⟨m,ms,d1,d2,v,l,i1,i2,b1,b2,rfl,rfl,rfl,o1,o2,rfl,rfl⟩:=ho
  cases ss with
  | nil=>cases m with
   | none=>simp [bg] at hq
   | some m=>cases m<;>simp [bg] at hq
  | cons s ss=>
   simp only[ah] at hs
   obtain⟨v0,l0,e0,h1,h2⟩:=hs
   simp only[List.cons.injEq] at e0
   obtain⟨rfl,rfl⟩:=e0
   have AY:∀b∈i2,b∈H9:=fun b hb=>kq b (aK _ hb)
   cases m with
   | none=>
    simp only[bg,M.ag,af,M.ab,aa] at hq
    obtain⟨q1,aN,q2,cE,rfl⟩:=hq
    simp only[DB] at o1
    obtain⟨rfl,rfl,rfl⟩:=o1
    exact iI (d:=d) hc k0 ks ms ss l q2 d2 i2 b2 h2 cE o2 AY
   | some m=>
    cases m with
    | box t=>
     cases s with
     | ptr id off=>
      cases off with
      | succ off=>simp [bg] at hq
      | zero=>
       simp only[bg,M.a8,af] at hq
       obtain⟨ob,aS,hq⟩:=hq
       cases ob with
       | box t' cells=>
        simp only at hq
        cases ky:Nat.beq t' t
        ·simp [ky] at hq
        ·have kz:=aM ky
         subst kz
         simp only[ky,aj,M.ag,af] at hq
         obtain⟨q1,aN,hq⟩:=hq
         cases FH:q1.2.1.isEmpty
         ·simp [FH] at hq
         ·simp only[FH,aj,M.ag,af,M.ab,aa] at hq
          obtain⟨q2,cE,rfl⟩:=hq
          have k2:=iI (d:=d) hc (k0+aY [.box id t' k.bI]) ks ms ss l q2 d2 i2 b2 h2 cE o2 AY
          obtain⟨M_,g1,g2,g3,g4⟩:=hc.aC id _ aS
          simp only[DB] at o1
          obtain⟨g,us,ev,Ln,Lo,J0,M7,rfl⟩:=o1
          simp only[aq] at h1
          have eg:g=β.da id:=by
           rw[h1] at ev
           simp only[Value.pointer.injEq,aa,Addr.mk.injEq,and_true] at ev
           exact ev.symm
          subst eg
          have Kj:d1.length=k.bI.length:=bf.length _ _ _ _ J0
          refine jt.append (U:=[.box id t' k.bI]) ⟨by simp only[dB,Kj];omega,[⟨id,.box t' (cr k.bI d1 0),[],[β.da id]⟩],[],rfl,rfl,rfl,by simp,by simp,fun x hx=> ?_⟩ k2
          rw[List.mem_singleton] at hx
          subst hx
          refine⟨⟨_,aS⟩,fun av β' hv hb hn _ IH=> ?_⟩
          simp only at hv hb hn ⊢
          obtain⟨cR,l1,l2,l3,l4⟩:=bf.bT (β:=β') (av:=av) J0 (fun b hb=>IH b (kq b (aT _ hb))) k.bI.length 0 (by omega)
          have ee:cR=us:=by
           apply List.ext_getElem?
           intro j
           by_cases hj:j<cR.length
           ·have:=l2 j cR[j] (by simp)
            simp only[Nat.zero_add] at this
            rw[this]
            simp
           ·rw[List.getElem?_eq_none (by omega),List.getElem?_eq_none (by omega)]
          subst ee
          simp only[List.drop_zero,List.take_length] at l3
          exact⟨cR,by rw[hb];exact Ln,l3,Lo,by rw[hb]⟩
       | row _ _ _ _ _=>simp at hq
       | ef _ _=>simp at hq
       | deep _ _ _ _ _=>simp at hq
     | _=>simp [bg] at hq
    | rows ts=>
     simp only[bg,M.ag,af,M.ab,aa] at hq
     obtain⟨q1,aN,q2,cE,rfl⟩:=hq
     have k2:=iI (d:=d) hc (k0+aY q1.2) ks ms ss l q2 d2 i2 b2 h2 cE o2 AY
     simp only[DB] at o1
     obtain⟨us,ev,o1,rfl⟩:=o1
     have one:jt d k0 h β w' H9 q1.2 d1 b1:=by
      unfold ix at aN
      cases hk:k.agg with
      | true=>
       cases s with
       | agg cs=>
        simp only[hk] at aN
        simp only[aq] at h1
        obtain⟨aW,rfl,gu,bk⟩:=h1
        rw[hk] at ev
        simp only[aj,Value.agg.injEq] at ev
        have:aW=us:=by simpa using congrArg Array.toList ev
        subst this
        exact gm (d:=d) hc k0 k.bI ts cs aW q1 d1 b1 gu aN o1
       | _=>simp [hk] at aN
      | false=>
       have lz:(aA k.bI ts [s]).val f h=some q1:=by
        cases s<;>simp only[hk] at aN<;>first | exact aN | (simp at aN)
       rw[hk] at ev
       simp only[aQ] at ev
       subst ev
       have ib:ah w (Av h β) β [s] [v]:=by simp only[ah];exact⟨v,[],rfl,h1,rfl⟩
       exact gm (d:=d) hc k0 k.bI ts [s] [v] q1 d1 b1 ib lz o1
     exact one.append k2
    | jD ts=>
     simp only[bg,M.ag,af] at hq
     obtain⟨q1,aN,hq⟩:=hq
     cases A2:bU q1.2
     ·simp [A2] at hq
     simp only[A2,aj,M.ag,af,M.ab,aa] at hq
     obtain⟨q2,cE,rfl⟩:=hq
     simp only[DB] at o1
     obtain⟨rfl,rfl,rfl⟩:=o1
     exact (ko k0 q1.2).append (iI (d:=d) hc _ ks ms ss l q2 d2 i2 b2 h2 cE o2 AY)
    | cP t ts=>
     cases s with
     | ptr id off=>
      cases off with
      | succ off=>simp [bg] at hq
      | zero=>
       simp only[bg,M.a8,af] at hq
       obtain⟨ob,aS,hq⟩:=hq
       cases ob with
       | box t' cells=>
        simp only at hq
        cases ky:Nat.beq t' t
        ·simp [ky] at hq
        ·have kz:=aM ky
         subst kz
         simp only[ky,aj,M.ag,af] at hq
         obtain⟨q1,aN,hq⟩:=hq
         cases A2:bU q1.2
         ·simp [A2] at hq
         simp only[A2,aj,M.ag,af,M.ab,aa] at hq
         obtain⟨q2,cE,rfl⟩:=hq
         simp only[DB] at o1
         obtain⟨g,us,mm,ev,Ln,Lo,J0,rfl,rfl⟩:=o1
         simp only[aq] at h1
         have eg:g=β.da id:=by
          rw[h1] at ev
          simp only[Value.pointer.injEq,aa,Addr.mk.injEq,and_true] at ev
          exact ev.symm
         subst eg
         obtain⟨N,n1,n2,n3,n4,n5,n6⟩:=eR (d:=d) k0 k.bI ts d1 us mm J0
         have first:jt d k0 h β w' H9 [.cP id t' k.bI ts] d1 (β.da id::mm):=by
          refine⟨by simp only[dB,n5];omega,[⟨id,.box t' (bp d k0 k.bI ts d1).1,[],[β.da id]⟩],N,rfl,by simp only[dO,List.append_nil,n1],by simpa only[aY,Nat.add_zero] using n2,n3,by simp [n4],fun x hx=> ?_⟩
          rw[List.mem_singleton] at hx
          subst hx
          refine⟨⟨_,aS⟩,fun av β' hv hb hn hN IH=> ?_⟩
          simp only at hv hb hn ⊢
          exact⟨us,by rw[hb];exact Ln,n6 av β' hN,Lo,by rw[hb]⟩
         have two:=(ko (d:=d) (h:=h) (β:=β) (w':=w') (im:=H9) (k0+aY [.cP id t' k.bI ts]) q1.2).append (iI (d:=d) hc _ ks ms ss l q2 d2 i2 b2 h2 cE o2 AY)
         exact first.append two
       | row _ _ _ _ _=>simp at hq
       | ef _ _=>simp at hq
       | deep _ _ _ _ _=>simp at hq
     | _=>simp [bg] at hq
end
end Go.Proofs.YtnlkklmcfafgeaaGreat.Vm
set_option linter.unusedVariables false
set_option linter.unusedSimpArgs false
namespace Go.Proofs.YtnlkklmcfafgeaaGreat.Vm
section
variable {P:Program} {Γ:Ctx} {w0:World} {S:Own} {st:St} {o:Oper} {e:cS} {a:Act} {w w':World}
variable {f:Nat→SV} {h:Nat→Option ao} {β:Env} {φ:Nat→List Nat} {tm:Array Value}
theorem EC (T:List fS) (l:List (Nat×Option ao)) (j:Nat):fo (T.map (fun x=>(x.id,some x.obj))++l) h j=match mz T j with | some x=>some x.obj | none=>fo l h j:=by
 induction T with
 | nil=>rfl
 | cons y N ih=>
  simp only[List.map_cons,List.cons_append,fo,aD,mz]
  split
  ·rfl
  ·exact ih
theorem Ez (D:List Nat) (l:List (Nat×Option ao)) (j:Nat):fo (jb D++l) h j=if j∈D then none else fo l h j:=by
 induction D with
 | nil=>simp [jb]
 | cons y D ih=>
  simp only[jb,List.map_cons,List.cons_append,fo,aD,List.mem_cons] at ih ⊢
  by_cases hj:j=y
  ·simp [hj]
  ·rw[if_neg hj,ih]
   simp [hj]
theorem Aw {i:Nat} :∀ {m:fg},bW i m=true→∀x∈m,x.1≠i
 | [],_,x,hx=>by simp at hx
 | (k,y)::l,hm,x,hx=>by
  simp only[bW,aw,Bool.not_eq_true'] at hm
  rcases List.mem_cons.1 hx with rfl | hx
  ·exact Nat.ne_of_beq_eq_false hm.1
  ·exact Aw hm.2 x hx
theorem mf {i:Nat} :∀ {m:fg},bW i m=true→fo (al m) h i=h i
 | [],_=>rfl
 | (k,e',r,u)::l,hm=>by
  simp only[bW,aw,Bool.not_eq_true'] at hm
  simp only[al,fo,aD]
  rw[if_neg (fun he=>Nat.ne_of_beq_eq_false hm.1 he.symm)]
  exact mf hm.2
theorem du:∀ {U:List MU},c_ h U→∀b∈U.flatMap (aF β),∃id∈bw U,∃ob,h id=some ob∧b∈ar β id ob
 | [],_,b,hb=>by simp at hb
 | .box id t cs::l,hm,b,hb=>by
  simp only[c_] at hm
  obtain⟨⟨cells,hc⟩,hm⟩:=hm
  rw[List.flatMap_cons,List.mem_append] at hb
  rcases hb with hb | hb
  ·exact⟨id,List.mem_cons_self ..,_,hc,hb⟩
  ·obtain⟨i,hi,ob,h1,h2⟩:=du hm b hb
   exact⟨i,List.mem_cons_of_mem _ hi,ob,h1,h2⟩
 | .row id t e u::l,hm,b,hb=>by
  simp only[c_] at hm
  obtain⟨⟨_,rows,hc⟩,hm⟩:=hm
  rw[List.flatMap_cons,List.mem_append] at hb
  rcases hb with hb | hb
  ·exact⟨id,List.mem_cons_self ..,_,hc,hb⟩
  ·obtain⟨i,hi,ob,h1,h2⟩:=du hm b hb
   exact⟨i,List.mem_cons_of_mem _ hi,ob,h1,h2⟩
 | .deep id t e ts::l,hm,b,hb=>by
  simp only[c_] at hm
  obtain⟨⟨rows,hc⟩,hm⟩:=hm
  rw[List.flatMap_cons,List.mem_append] at hb
  rcases hb with hb | hb
  ·exact⟨id,List.mem_cons_self ..,_,hc,hb⟩
  ·obtain⟨i,hi,ob,h1,h2⟩:=du hm b hb
   exact⟨i,List.mem_cons_of_mem _ hi,ob,h1,h2⟩
 | .gone id dp::l,hm,b,hb=>by
  simp only[c_] at hm
  obtain⟨⟨o,ho,hg⟩,hm⟩:=hm
  rw[List.flatMap_cons,List.mem_append] at hb
  rcases hb with hb | hb
  ·exact⟨id,List.mem_cons_self ..,_,ho,by rw[hg.ar];exact hb⟩
  ·obtain⟨i,hi,ob,h1,h2⟩:=du hm b hb
   exact⟨i,List.mem_cons_of_mem _ hi,ob,h1,h2⟩
 | .cP id t cs ts::l,hm,b,hb=>by
  simp only[c_] at hm
  obtain⟨⟨cells,hc⟩,hm⟩:=hm
  rw[List.flatMap_cons,List.mem_append] at hb
  rcases hb with hb | hb
  ·exact⟨id,List.mem_cons_self ..,_,hc,hb⟩
  ·obtain⟨i,hi,ob,h1,h2⟩:=du hm b hb
   exact⟨i,List.mem_cons_of_mem _ hi,ob,h1,h2⟩
 | .lM::l,hm,b,hb=>by
  rw[List.flatMap_cons] at hb
  exact du (U:=l) hm b (by simpa [aF] using hb)
theorem dg {i:Nat} {l:List Nat} (hn:df (i::l)=true):i ∉ l∧df l=true:=by
 simp only[df,aw,Bool.not_eq_true',List.any_eq_false] at hn
 refine⟨fun hi=> ?_,hn.2⟩
 exact hn.1 i hi (Nat.beq_refl i)
theorem d3 (hc:Core w0 S f h β φ tm w):∀ {U:List MU},c_ h U→df (bw U)=true→(U.flatMap (aF β)).Nodup
 | [],_,_=>by simp
 | .box id t cs::l,hm,hn=>by
  simp only[c_] at hm
  obtain⟨⟨cells,ho⟩,hm⟩:=hm
  obtain⟨h1,h2⟩:=dg hn
  rw[List.flatMap_cons,List.nodup_append]
  refine⟨by simp [aF],d3 hc hm h2, ?_⟩
  intro b hb b' aB ED
  subst ED
  obtain⟨i,hi,ob,ec,iG⟩:=du (β:=β) hm b aB
  exact hc.sep id i _ ob (fun he=>h1 (he ▸ hi)) ho ec b (ak (hc.aC _ _ ho) b hb) (ak (hc.aC _ _ ec) b iG)
 | .row id t e u::l,hm,hn=>by
  simp only[c_] at hm
  obtain⟨⟨_,rows,ho⟩,hm⟩:=hm
  obtain⟨h1,h2⟩:=dg hn
  rw[List.flatMap_cons,List.nodup_append]
  refine⟨?_,d3 hc hm h2, ?_⟩
  ·simp only[aF]
   cases (β.val id).ownBlock<;>simp
  ·intro b hb b' aB ED
   subst ED
   obtain⟨i,hi,ob,ec,iG⟩:=du (β:=β) hm b aB
   exact hc.sep id i _ ob (fun he=>h1 (he ▸ hi)) ho ec b (ak (hc.aC _ _ ho) b hb) (ak (hc.aC _ _ ec) b iG)
 | .deep id t e ts::l,hm,hn=>by
  simp only[c_] at hm
  obtain⟨⟨rows,ho⟩,hm⟩:=hm
  obtain⟨h1,h2⟩:=dg hn
  rw[List.flatMap_cons,List.nodup_append]
  refine⟨?_,d3 hc hm h2, ?_⟩
  ·obtain⟨vals,a7,_,_,g3,g4⟩:=hc.aC _ _ ho
   have:=(hc.fresh _ _ ho).1
   rw[g4] at this
   simpa only[aF,g3] using this
  ·intro b hb b' aB ED
   subst ED
   obtain⟨i,hi,ob,ec,iG⟩:=du (β:=β) hm b aB
   exact hc.sep id i _ ob (fun he=>h1 (he ▸ hi)) ho ec b (ak (hc.aC _ _ ho) b hb) (ak (hc.aC _ _ ec) b iG)
 | .gone id dp::l,hm,hn=>by
  simp only[c_] at hm
  obtain⟨⟨o,ho,hg⟩,hm⟩:=hm
  obtain⟨h1,h2⟩:=dg hn
  rw[List.flatMap_cons,List.nodup_append]
  refine⟨?_,d3 hc hm h2, ?_⟩
  ·rw[←hg.ar]
   rcases hg with ⟨_,t,e,rows,u,_,rfl⟩ | ⟨_,t,e,ts,rows,rfl⟩
   ·simp only[ar]
    cases (β.val id).ownBlock<;>simp
   ·obtain⟨vals,a7,_,_,g3,g4⟩:=hc.aC _ _ ho
    have:=(hc.fresh _ _ ho).1
    rw[g4] at this
    simpa only[ar,g3] using this
  ·intro b hb b' aB ED
   subst ED
   rw[←hg.ar] at hb
   obtain⟨i,hi,ob,ec,iG⟩:=du (β:=β) hm b aB
   exact hc.sep id i _ ob (fun he=>h1 (he ▸ hi)) ho ec b (ak (hc.aC _ _ ho) b hb) (ak (hc.aC _ _ ec) b iG)
 | .cP id t cs ts::l,hm,hn=>by
  simp only[c_] at hm
  obtain⟨⟨cells,ho⟩,hm⟩:=hm
  obtain⟨h1,h2⟩:=dg hn
  rw[List.flatMap_cons,List.nodup_append]
  refine⟨by simp [aF],d3 hc hm h2, ?_⟩
  intro b hb b' aB ED
  subst ED
  obtain⟨i,hi,ob,ec,iG⟩:=du (β:=β) hm b aB
  exact hc.sep id i _ ob (fun he=>h1 (he ▸ hi)) ho ec b (ak (hc.aC _ _ ho) b hb) (ak (hc.aC _ _ ec) b iG)
 | .lM::l,hm,hn=>by
  rw[List.flatMap_cons]
  simpa [aF] using d3 hc (U:=l) hm hn
theorem ld {d:Nat} :∀(BZ:List RK) (k:Nat) (r1 r2:List DC),r1.length=cv BZ→bq d k BZ (r1++r2)=bq d k BZ r1
 | [],_,_,_,_=>rfl
 | r::rs,k,r1,r2,hl=>by
  simp only[cv] at hl
  simp only[bq]
  rw[List.take_append_of_le_length (by omega),List.drop_append_of_le_length (by omega),ld rs _ _ r2 (by simp;omega)]
end
end Go.Proofs.YtnlkklmcfafgeaaGreat.Vm
set_option linter.unusedVariables false
set_option linter.unusedSimpArgs false
namespace Go.Proofs.YtnlkklmcfafgeaaGreat.Vm
section
variable {P:Program} {Γ:Ctx} {w0:World} {S:Own} {st:St} {o:Oper} {e:cS} {a:Act} {w w':World}
variable {f:Nat→SV} {h:Nat→Option ao} {β:Env} {φ:Nat→List Nat} {tm:Array Value}
theorem B4 (fa:bN P Γ) {s:Sum} {g:Nat} (hs:Ge Γ g=some s) (eN:s.G6=false) (GP:s.pt=none) (JP:s.ms≠[]) (hR:Rel w0 S st a w) (hd:∀d,o.dst=some d→bn st.n d) (ca:∀d,o.dst=some d→e.ow≠[]→bL st d)
  {l:List SV} {us:List Value} (Kl:∀fn,P.funcs[g]? =some fn→fn.body.isSome=true→(fn.name== "runtime.NumGoroutine")=false→(execOp a.eval o).run P w= .ok (.enter g us.toArray) w)
  (hl:∀β φ,Core w0 S st.get st.obj β φ a.tmps w→ah w (Av st.obj β) β l us) (he:(AJ s o.dst l).val st.get st.obj=some e) (aP:e.ok=true):Good P w0 S st o e a w:=by
 have hH:Cm P g s:=by
  have h0:=fa g s hs
  unfold gU at h0
  rw[eN,aQ,GP] at h0
  simp only at h0
  split at h0
  ·rename_i hm
   exact absurd hm JP
  ·exact h0
 unfold AJ at he
 cases aO:Nat.blt (bj s.rs) 64 && !(shares s) && (o.dst.isSome || s.rs.isEmpty)
 ·simp [aO] at he
 simp only[aO,aj,M.ag,af] at he
 obtain⟨r,hr,he⟩:=he
 cases JH:aU r.2.1 && df (bw r.2.2) && (bw r.2.2).all (fun i=>bW i r.2.1) && (Nat.blt (bj s.rs+aY r.2.2) 64 && (o.dst.isSome || Nat.beq (aY r.2.2) 0))
 ·simp [JH] at he
 simp only[JH,aj,M.ab,aa] at he
 subst he
 simp only[aw,Bool.not_eq_true',List.all_eq_true] at aO JH
 obtain⟨⟨L8,A3⟩,mV⟩:=aO
 obtain⟨⟨⟨Bs,Jg⟩,LM⟩,He,Hm⟩:=JH
 have He:bj s.rs+aY r.2.2<64:=Nat.le_of_ble_eq_true He
 obtain⟨⟨fn,hf,hb,hn⟩,Cu⟩:=hH
 obtain⟨β,φ,hc⟩:=hR.core
 obtain⟨fp,cD,ku,Cj,lx⟩:=fm hc s.ps s.ms l _ r (hl β φ hc) hr
 have KF:=d3 hc Cj Jg
 have KE:∀b∈r.2.2.flatMap (aF β),b ∉ fp:=by
  intro b hb Mf
  obtain⟨id,dZ,ob,aS,jH⟩:=du (β:=β) Cj b hb
  rcases lx b Mf with h3 | ⟨x,hx,kp⟩
  ·exact h3 (.inl ⟨id,ob,aS,jH⟩)
  ·obtain⟨_,Ck,_⟩:=ku x hx
   rw[ft Ck] at kp
   have cQ:x.1≠id:=Aw (LM id dZ) x hx
   exact hc.sep x.1 id _ ob cQ Ck aS b (ak (hc.aC _ _ Ck) b kp) (ak (hc.aC _ _ aS) b jH)
 intro Q
 unfold Oper.wp
 rw[Kl fn hf hb hn,Oper.upon_enter]
 refine (Cu w r.1 _ fp _ cD KF KE aP).mono ?_
 rintro _ w' ⟨vs,J1,im,tp,mO,rd,od,ψ,rfl,JK,kc,hk,A1,hnd,mN,I6,Lk,JY,AY⟩
 have Kv:im=[]:=fu.jT _ _ _ _ _ _ (by simpa [shares] using A3) A1
 have GD:(s.fn r.1).2.drop (cv s.rs)=od:=by rw[JK,←kc,List.drop_left]
 have Jc:bq (o.dst.getD 0) 0 s.rs (s.fn r.1).2=bq (o.dst.getD 0) 0 s.rs rd:=by rw[JK,ld _ _ _ _ kc]
 obtain⟨N1,n1,n2,n3,n4,n5,n6⟩:=jq (d:=o.dst.getD 0) s.rs 0 _ vs J1 im tp A1
 obtain⟨_,T,N2,hT,Lx,q2,q3,Kc,BI⟩:=iI (d:=o.dst.getD 0) (w':=w') hc (bj s.rs) s.ps s.ms l _ r od mO ψ (hl β φ hc) hr I6 (fun b hb=>hb)
 obtain⟨N,hN⟩:∃N,N=N1++N2:=⟨_,rfl⟩
 have Kb:N.flatMap ay.bJ=J1++N2.flatMap ay.bJ:=by rw[hN,List.flatMap_append,n4]
 have Hf:N.map (·.id)=(List.range' 0 (bj s.rs+aY r.2.2)).map (ai (o.dst.getD 0)):=by
  have h0:List.range' 0 (bj s.rs)++List.range' (bj s.rs) (aY r.2.2)=List.range' 0 (bj s.rs+aY r.2.2):=by
   have:=List.range'_append_1 (s:=0) (m:=bj s.rs) (n:=aY r.2.2)
   rwa [Nat.zero_add] at this
  rw[hN,List.map_append,n2,q2,←List.map_append,h0]
 have Ly:T.map fS.id=ch r.2.2:=by
  rw[←dJ (d:=o.dst.getD 0) (bj s.rs) r.2.2 od,←hT,List.map_map]
  rfl
 have Jn:∀b∈T.flatMap fS.bJ,b∈ψ:=fun b hb=>Kc.subset (aT _ hb)
 have Gc:∀b∈N2.flatMap ay.bJ,b∈ψ:=fun b hb=>Kc.subset (aK _ hb)
 have JF:=Kc.symm.nodup Lk
 rw[List.nodup_append] at JF
 obtain⟨M',Gy⟩:∃M':fg,M'=bif ff s.ms then [] else r.2.1:=⟨_,rfl⟩
 have hM:bZ st.obj M'∧aU M'=true∧∀id∈bw r.2.2,bW id M'=true:=by
  cases js:ff s.ms with
  | true=>rw[Gy,js];exact⟨by simp [bZ],rfl,fun _ _=>rfl⟩
  | false=>rw[Gy,js];exact⟨ku,Bs,LM⟩
 have hfz:(bif ff s.ms then [] else al r.2.1)=al M':=by rw[Gy];cases ff s.ms<;>rfl
 have jI:=hc.gC M' hM.1 hM.2.1
 have Jf:=hM.2.2
 have KA:∀i∈ch r.2.2,i∈bw r.2.2:=fun i hi=>(gJ r.2.2).2 (.inl hi)
 have Mj:∀i∈cA r.2.2,i∈bw r.2.2:=fun i hi=>(gJ r.2.2).2 (.inr hi)
 have Im:N≠[]→∃d,o.dst=some d:=by
  intro cQ
  cases aX:o.dst with
  | some d=>exact⟨d,rfl⟩
  | none=>
   rw[aX] at mV Hm
   simp only[Option.isSome_none,Bool.false_or] at mV Hm
   have Lb:s.rs=[]:=List.isEmpty_iff.1 mV
   have h0:=aM Hm
   have:=Hf
   rw[Lb,h0] at this
   simp only[bj,Nat.add_zero,List.range'_zero,List.map_nil,List.map_eq_nil_iff] at this
   exact absurd this cQ
 have Cy:∀x∈N,x.id / 64=o.dst.getD 0∧x.id∈N.map (·.id):=by
  intro x hx
  have hm:x.id∈N.map (·.id):=List.mem_map_of_mem hx
  refine⟨?_,hm⟩
  rw[Hf] at hm
  obtain⟨j,hj,gi⟩:=List.mem_map.1 hm
  rw[←gi]
  have:=List.mem_range'_1.1 hj
  exact cT _ j (by omega)
 have mX:(N.map (·.id)).Nodup:=by
  rw[Hf]
  refine List.Pairwise.map _ ?_ (List.nodup_range' ..)
  intro x y Aq e
  unfold ai at e
  omega
 have hle:=hR.kept.size
 have Io:∀x∈T,x.id∈bw r.2.2:=by
  intro x hx
  refine KA _ ?_
  rw[←Ly]
  exact List.mem_map_of_mem hx
 have hval:∀x∈N,(β.cj N T).val x.id=x.v:=by
  intro x hx
  simp [Env.cj,my hx mX]
 have GS:∀(β':Env),(∀x∈N,β'.val x.id=x.v)→∀x∈N2,β'.val x.id=x.v:=fun β' hb x hx=>hb x (by rw[hN];exact aK _ hx)
 let h':Nat→Option ao:=ln N T (cA r.2.2) (fo (al M') st.obj)
 have ER:∀b∈mO,¬Av h' (β.cj N T) b:=by
  intro b hb
  have EO:=AY b hb
  have Ma:M'=r.2.1:=by rw[Gy,EO.2.2.2];rfl
  rintro (⟨j,oj,hj,bz⟩ | fi)
  case inr=>
   have Mi:=(jI.gN b fi).1
   rcases EO.1 with Cw | mS
   ·rcases lx b Cw with h3 | ⟨x,hx,kp⟩
    ·exact h3 (.inr fi)
    ·exact dK hc ku hx kp (.inr fi)
   ·omega
  cases jK:fJ N j with
  | some x=>
   simp only[h',ln,jK,aa] at hj
   subst hj
   obtain⟨hx,rfl⟩:=bm jK
   rw[x.iR (by simp [Env.cj,jK]) (by simp [Env.cj,jK])] at bz
   rw[hN] at hx
   rcases List.mem_append.1 hx with hx | hx
   ·refine EO.2.1 ?_
    rw[←n5]
    exact List.mem_flatMap.2 ⟨x,hx,bz⟩
   ·exact EO.2.2.1 (Gc b (List.mem_flatMap.2 ⟨x,hx,x.ak b bz⟩))
  | none=>
   simp only[h',ln,jK] at hj
   cases hu:mz T j with
   | some x=>
    simp only[hu,aa] at hj
    subst hj
    obtain⟨LQ,rfl⟩:=dj hu
    have h1:b∈x.bJ:=by
     have hY:=(BI x LQ).2 (fun _=>False) (β.cj N T) (by simp [Env.cj,jK]) rfl (by simp [Env.cj,jK,hu]) (GS _ hval) (fun _ _ h=>h)
     exact ak hY b bz
    exact EO.2.2.1 (Jn b (List.mem_flatMap.2 ⟨x,LQ,h1⟩))
   | none=>
    simp only[hu] at hj
    split at hj
    ·cases hj
    have mT:b∈ar β j oj:=by
     cases oj<;>simp only[ar,Env.cj,jK,hu] at bz ⊢ <;>exact bz
    have Ke:=((jI.fresh j oj hj).2 b (ak (jI.aC j oj hj) b mT)).2
    rcases EO.1 with Cw | mS
    ·rcases lx b Cw with h3 | ⟨x,hx,kp⟩
     ·exact h3 (gb (.inl ⟨j,oj,hj,mT⟩))
     ·exact dK hc hM.1 (by rw[Ma];exact hx) kp (.inl ⟨j,oj,hj,mT⟩)
    ·omega
 have Kg:=jI.J5 (N:=N) (U:=T) (D:=cA r.2.2) (im:=mO) (mb:=r.2.2.flatMap (aF β)) hk.size hle ?_ ?_ ?_ ?_ JF.1 ?_ ER mX ?_ ?_ ?_ ?_
 ·have e_:=n6 (Av h' (β.cj N T)) (β.cj N T) (fun x hx=>hval x (by rw[hN];exact aT _ hx)) (by rw[Kv];simp)
  have Cz:Kept S w0 w':=by
   refine⟨hk.os.trans hR.kept.os,hk.tape.trans hR.kept.tape,hk.output.trans hR.kept.output,by have:=hk.size;omega,fun k h1 h2=> ?_⟩
   refine (hk.block k (by omega) (fun F0=> ?_)).trans (hR.kept.block k h1 h2)
   obtain⟨id,dZ,ob,aS,jH⟩:=du (β:=β) Cj k F0
   rcases ((hc.fresh id ob aS).2 k (ak (hc.aC _ _ aS) k jH)).1 with h3 | h3
   ·omega
   ·exact h2 h3
  have JL:fo ((bq (o.dst.getD 0) 0 s.rs (s.fn r.1).2).2++(dO (o.dst.getD 0) (bj s.rs) r.2.2 ((s.fn r.1).2.drop (cv s.rs))++
    (jl (o.dst.getD 0) (bj s.rs) r.2.2 ((s.fn r.1).2.drop (cv s.rs))++(jb (cA r.2.2)++(bif ff s.ms then [] else al r.2.1))))) (fc none st.obj)=h':=by
   funext j
   have:((bC (o.dst.getD 0) (bj s.rs) r.2.2 od).map fun x=>(x.1,some x.2))=T.map fun x=>(x.id,some x.obj):=by
    rw[←hT,List.map_map]
    rfl
   have A2:cZ N1++(cZ N2++(T.map (fun x=>(x.id,some x.obj))++(jb (cA r.2.2)++al M')))=cZ N++(T.map (fun x=>(x.id,some x.obj))++(jb (cA r.2.2)++al M')):=by
    rw[hN]
    simp only[cZ,List.map_append,List.append_assoc]
   rw[hfz,Jc,GD,n1,gI,this,Lx,A2,AU,EC,Ez]
   rfl
  refine⟨pack vs,rfl,iM hR hd Cz ⟨β.cj N T,gW N T (bu φ M'), ?_, ?_⟩⟩
  ·show Core w0 S st.get (fo (_++(_++(_++(_++_)))) (fc none st.obj)) _ _ _ _
   rw[JL]
   exact Kg
  ·show aq w' (Av (fo (_++(_++(_++(_++_)))) (fc none st.obj)) (β.cj N T)) (β.cj N T) (iv (bq (o.dst.getD 0) 0 s.rs (s.fn r.1).2).1) (pack vs)
   rw[JL,Jc]
   generalize (bq (o.dst.getD 0) 0 s.rs rd).1=q at e_
   match q,vs,e_ with
   | [],vs,e_=>
    simp only[ah] at e_
    subst e_
    simp only[iv,pack,aq]
    exact⟨[],rfl,by simp [ah]⟩
   | [x],vs,e_=>
    simp only[ah] at e_
    obtain⟨v,l',rfl,h1,rfl⟩:=e_
    exact h1
   | x::y::q,vs,e_=>
    have E6:=e_
    simp only[ah] at e_
    obtain⟨v,l',rfl,h1,v2,l2,rfl,h2,h3⟩:=e_
    simp only[iv,pack]
    unfold aq
    exact⟨v::v2::l2,rfl,E6⟩
 ·intro b hb
  obtain⟨id,dZ,ob,aS,jH⟩:=du (β:=β) Cj b hb
  refine⟨id, ?_,ob,by rw[mf (Jf _ dZ)];exact aS,jH⟩
  rcases (gJ r.2.2).1 dZ with h3 | h3
  ·rw[←Ly] at h3
   obtain⟨x,hx,rfl⟩:=List.mem_map.1 h3
   exact .inl ⟨x,hx,rfl⟩
  ·exact .inr h3
 ·exact fun b hb js=>hk.block b hb js
 ·intro x hx
  obtain⟨⟨ob,h1⟩,_⟩:=BI x hx
  exact⟨ob,by rw[mf (Jf _ (Io x hx))];exact h1⟩
 ·exact fun x hx av β' a b c dd e=>(BI x hx).2 av β' a b c (GS β' dd) e
 ·intro b hb
  obtain⟨p1,p2,p3⟩:=JY b (Jn b hb)
  refine⟨p1,p2,fun Hh=> ?_⟩
  rw[Kb] at Hh
  rcases List.mem_append.1 Hh with h3 | h3
  ·exact p3 h3
  ·exact JF.2.2 b hb b h3 rfl
 ·intro x hx
  have h1:=(Cy x hx).1
  obtain⟨d,aX⟩:=Im (fun h0=>by rw[h0] at hx;simp at hx)
  have ca:=ca d aX (by
   show (bq (o.dst.getD 0) 0 s.rs (s.fn r.1).2).2++(dO (o.dst.getD 0) (bj s.rs) r.2.2 ((s.fn r.1).2.drop (cv s.rs))++_)≠[]
   rw[Jc,n1,GD,Lx]
   intro h0
   rw[List.append_eq_nil_iff] at h0
   have a1:N1=[]:=by simpa [cZ] using h0.1
   have h1:=(List.append_eq_nil_iff.1 h0.2).1
   have a2:N2=[]:=by simpa [cZ] using h1
   rw[hN,a1,a2] at hx
   simp at hx)
  rw[aX] at h1
  simp only[Option.getD_some] at h1
  refine⟨?_,fun i hi=>ca.slot i _ hi h1,fun k ok Cz hi=> ?_⟩
  ·cases hn:fo (al M') st.obj x.id with
   | none=>rfl
   | some ob=>
    rcases dI hn with h2 | ⟨e',r',rfl,y,hy,h2⟩
    ·exact absurd h1 (ca.obj _ ob h2).1
    ·obtain⟨_,h3,_⟩:=hM.1 y hy
     rw[h2] at h3
     exact absurd h1 (ca.obj _ _ h3).1
  ·rcases dI Cz with h2 | ⟨e',r',rfl,_⟩
   ·exact (ca.obj k ok h2).2 _ hi h1
   ·simp [cK] at hi
 ·intro x hx
  rw[hN] at hx
  rcases List.mem_append.1 hx with hx | hx
  ·exact n3 x hx
  ·exact q3 x hx
 ·rw[Kb,List.nodup_append]
  exact⟨hnd,JF.2.1,fun b hb b' aB ED=>(JY b' (Gc b' aB)).2.2 (ED ▸ hb)⟩
 ·intro b hb
  rw[Kb] at hb
  rcases List.mem_append.1 hb with hb | hb
  ·exact mN b hb
  ·exact⟨(JY b (Gc b hb)).1,(JY b (Gc b hb)).2.1⟩
end
end Go.Proofs.YtnlkklmcfafgeaaGreat.Vm
set_option linter.unusedVariables false
set_option linter.unusedSimpArgs false
namespace Go.Proofs.YtnlkklmcfafgeaaGreat.Vm
section
variable {P:Program} {Γ:Ctx} {w0:World} {S:Own} {st:St} {o:Oper} {e:cS} {a:Act} {w w':World}
variable {f:Nat→SV} {h:Nat→Option ao} {β:Env} {φ:Nat→List Nat} {tm:Array Value}
theorem bf.all {av:Nat→Prop} {cs:List CT} {r:List DC} {us:List Value} {fp:List Nat} (hr:bf w cs r (fun j=>us[j]?) fp) (hl:us.length=cs.length) (ha:∀b∈fp,¬av b):ah w av β (cr cs r 0) us:=by
 obtain⟨vs,l1,l2,l3,l4⟩:=bf.bT (β:=β) hr ha cs.length 0 (by omega)
 have e:vs=us:=by
  apply List.ext_getElem?
  intro j
  by_cases hj:j<vs.length
  ·have:=l2 j vs[j] (by simp)
   simp only[Nat.zero_add] at this
   rw[this]
   simp
  ·rw[List.getElem?_eq_none (by omega),List.getElem?_eq_none (by omega)]
 subst e
 simpa only[List.drop_zero,List.take_length] using l3
end
end Go.Proofs.YtnlkklmcfafgeaaGreat.Vm
