/- The value machine: slices, structs, new objects, appending, contracts. Conditions: as each lemma says. -/
import Derived.Test.YtoaflbnkiobhdaaGreatVa
import Derived.Laws.Tables
import Derived.Great.BuildSlice
import Derived.Laws.CopyRow
namespace Go.Proofs.YtoaflbnkiobhdaaGreat.Vm
theorem CH {w:World} {e:List CT} {r:List (List DC)} {q:Option Addr} {n c:Nat} {fp:List Nat} (h:bU w (.sl e) (.sl r) (.slice q n c) fp) {l m:Nat} (hl:l≤m) (hm:m≤r.length):
  ∃Bk,bU w (.sl e) (.sl ((r.take m).drop l)) (.slice (if c=l then q else q.map (·.add (l*e.length))) (m - l) (c - l)) Bk∧∀b∈Bk,b∈fp:=by
 obtain⟨q',n',c',hv,hn,hc,JB,iG⟩:=c6 h
 injection hv with h1 h2 h3
 subst h1 h2 h3
 have hlen:((r.take m).drop l).length=m - l:=by simp;omega
 rcases Nat.eq_zero_or_pos (m - l) with h0 | h0
 ·exact⟨[],jO hlen (by omega) (by omega) (.inl ⟨h0,rfl⟩),by simp⟩
 ·rcases iG with ⟨MC,_⟩ | ⟨_,b,o,aA,rfl,cl,eb,rfl,er⟩
  ·omega
  ·rw[if_neg (by omega)]
   refine⟨b::((aA.take m).drop l).flatten,jO hlen (by omega) (by omega) (.inr ⟨h0,b,o+l*e.length,(aA.take m).drop l, ?_,cl,by simp;omega,rfl,fun i r' f hi hf=> ?_⟩), ?_⟩
   ·simp [de]
   ·have dI:r[l+i]? =some r':=by
     rw[List.getElem?_drop,List.getElem?_take] at hi
     split at hi
     ·exact hi
     ·cases hi
    have A8:aA[l+i]? =some f:=by
     rw[List.getElem?_drop,List.getElem?_take] at hf
     split at hf
     ·exact hf
     ·cases hf
    have:=er (l+i) r' f dI A8
    have e1:∀j,o+((l+i)*e.length+j)=o+l*e.length+(i*e.length+j):=by intro j;rw[Nat.add_mul];omega
    simpa only[e1] using this
   ·intro x hx
    rcases List.mem_cons.1 hx with rfl | hx
    ·simp
    ·obtain⟨f,hf,hx⟩:=List.mem_flatten.1 hx
     exact List.mem_cons_of_mem _ (List.mem_flatten.2 ⟨f,List.mem_of_mem_take (List.mem_of_mem_drop hf),hx⟩)
section
variable {P:Program} {Γ:Ctx} {w0:World} {S:Own} {st:St} {o:Oper} {e:cF} {a:Act} {w:World}
theorem Core.freeze {f:Nat→SV} {h:Nat→Option aj} {β:Env} {φ:Nat→List Nat} {tm:Array Value} (hc:Core w0 S f h β φ tm w) {id:Nat} {LD:aj} {ct:List CT} {r:List (List DC)} {u:Bool}
  (dJ:h id=some LD) (KC:Am LD ct r u):Core w0 S f (az h id (some (.dV ct r))) β (az φ id []) tm w:=by
 have cN:∀b,Av (az h id (some (.dV ct r))) β b→Av h β b:=by
  rintro b (⟨i,ob,hi,hb⟩ | hb)
  case inr=>exact .inr hb
  by_cases kY:i=id
  ·subst kY
   simp only[az,if_true,Option.some.injEq] at hi
   subst hi
   simp [al] at hb
  ·simp only[az,kY,if_false] at hi
   exact .inl ⟨i,ob,hi,hb⟩
 have gP:=hc.ay id _ dJ
 refine hc.step (fun _=>False) (Nat.le_refl _) (fun _ _ _=>rfl) (fun b hb=> .inl (cN b hb)) (fun _ _ _ h=>h) (fun _ _=>⟨rfl,rfl⟩) ?_ ?_
 ·intro i ob hi
  by_cases kY:i=id
  ·subst kY
   simp only[az,if_true,Option.some.injEq] at hi
   subst hi
   refine .inr ⟨⟨?_,by simp [az]⟩,by simp [az],by simp [az]⟩
   obtain⟨fp,h1,h2,_⟩:=Ad gP KC
   simp only[ak]
   refine⟨fp,h1,fun b hb hx=> ?_⟩
   rcases h2 b hb with aY | hn
   ·rcases hx with ⟨j,Fb,hj,bn⟩ | hx
    case inr=>exact hc.AU dJ (ah gP b aY) hx
    have cI:j≠i:=by
     rintro rfl
     simp only[az,if_true,Option.some.injEq] at hj
     subst hj
     simp [al] at bn
    simp only[az,cI,if_false] at hj
    exact hc.sep i j _ _ (Ne.symm cI) dJ hj b (ah gP b aY) (ah (hc.ay j _ hj) b bn)
   ·exact hn (cN b hx)
  ·simp only[az,kY,if_false] at hi
   exact .inl ⟨fun h=>h,hi,by simp [az,kY],fun _ _ h=>h,fun _ _=>rfl⟩
 ·intro i j oi oj cI hi hj b hb
  by_cases kY:i=id
  ·subst kY;simp [az] at hb
  ·by_cases b_:j=id
   ·subst b_;simp [az]
   ·simp only[az,kY,b_,if_false] at hi hj hb ⊢
    exact hc.sep i j oi oj cI hi hj b hb
def bR (h:Nat→Option aj) (m:eJ):Prop:=∀x∈m,∃o,h x.1=some o∧Am o x.2.1 x.2.2.1 x.2.2.2
def eH (h:Nat→Option aj) (β:Env) (i:Nat):List Nat:=
 match h i with
 | some o=>al β i o
 | none=>[]
theorem eV {h:Nat→Option aj} {β:Env} {i:Nat} {o:aj} (hi:h i=some o):eH h β i=al β i o:=by simp only[eH,hi]
def bl (φ:Nat→List Nat):eJ→Nat→List Nat
 | []=>φ
 | x::l=>az (bl φ l) x.1 []
theorem gk {id:Nat} {m:eJ} (h:bO id m=true):∀x∈m,x.1≠id:=by
 induction m with
 | nil=>simp
 | cons y l ih=>
  obtain⟨i,q⟩:=y
  simp only[bO,Bool.and_eq_true,Bool.not_eq_true'] at h
  intro x hx
  rcases List.mem_cons.1 hx with rfl | hx
  ·exact Nat.ne_of_beq_eq_false h.1
  ·exact ih h.2 x hx
theorem bH {h:Nat→Option aj} {m:eJ} {id:Nat} (hn:∀x∈m,x.1≠id):fo (ai m) h id=h id:=by
 induction m with
 | nil=>rfl
 | cons y l ih=>
  obtain⟨i,e',r,u⟩:=y
  simp only[ai,fo,az]
  rw[if_neg (fun e=>hn _ (List.mem_cons_self ..) e.symm)]
  exact ih (fun x hx=>hn x (List.mem_cons_of_mem _ hx))
theorem cV {φ:Nat→List Nat} {m:eJ} {id:Nat} (hn:∀x∈m,x.1≠id):bl φ m id=φ id:=by
 induction m with
 | nil=>rfl
 | cons y l ih=>
  simp only[bl,az]
  rw[if_neg (fun e=>hn _ (List.mem_cons_self ..) e.symm)]
  exact ih (fun x hx=>hn x (List.mem_cons_of_mem _ hx))
theorem Core.gf {f:Nat→SV} {h:Nat→Option aj} {β:Env} {φ:Nat→List Nat} {tm:Array Value} (hc:Core w0 S f h β φ tm w):∀(m:eJ),bR h m→aN m=true→
  Core w0 S f (fo (ai m) h) β (bl φ m) tm w
 | [],_,_=>hc
 | (id,e',r,u)::l,hm,hn=>by
  simp only[aN,Bool.and_eq_true] at hn
  have ih:=Core.gf hc l (fun x hx=>hm x (List.mem_cons_of_mem _ hx)) hn.2
  obtain⟨o,dJ,aJ⟩:=hm _ (List.mem_cons_self ..)
  have KE:=gk hn.1
  exact ih.freeze (id:=id) (ct:=e') (r:=r) (u:=u) (by rw[bH KE];exact dJ) aJ
theorem hX (s:List UInt8) (l m:Nat):(⟨s.toArray⟩:ByteArray).extract l m=⟨((s.take m).drop l).toArray⟩:=by
 apply ByteArray.ext
 apply Array.toList_inj.1
 rw[Lib.extract_data]
 simp [List.drop_take]
theorem lg {n:Nat} {DH DG:Option SV} {l m:Nat} {c:Bool} (h:dz n DH DG=some (l,m,c)) (hc:c=true):
  l≤m∧m≤n∧((DH=none∧l=0)∨∃k,DH=some (.int k l))∧((DG=none∧m=n)∨∃k,DG=some (.int k m)):=by
 unfold dz at h
 split at h
 ·simp only[Option.some.injEq,Prod.mk.injEq] at h
  obtain⟨rfl,rfl,_⟩:=h
  exact⟨Nat.zero_le _,Nat.le_refl _,.inl ⟨rfl,rfl⟩,.inl ⟨rfl,rfl⟩⟩
 ·rename_i k z
  simp only[Option.some.injEq,Prod.mk.injEq] at h
  obtain⟨rfl,rfl,rfl⟩:=h
  simp only[Bool.and_eq_true,decide_eq_true_eq] at hc
  exact⟨by omega,Nat.le_refl _,.inr ⟨k,by rw[Int.toNat_of_nonneg hc.1]⟩,.inl ⟨rfl,rfl⟩⟩
 ·rename_i k z
  simp only[Option.some.injEq,Prod.mk.injEq] at h
  obtain⟨rfl,rfl,rfl⟩:=h
  simp only[Bool.and_eq_true,decide_eq_true_eq] at hc
  exact⟨Nat.zero_le _,by omega,.inl ⟨rfl,rfl⟩,.inr ⟨k,by rw[Int.toNat_of_nonneg hc.1]⟩⟩
 ·rename_i k z k' z'
  simp only[Option.some.injEq,Prod.mk.injEq] at h
  obtain⟨rfl,rfl,rfl⟩:=h
  simp only[Bool.and_eq_true,decide_eq_true_eq] at hc
  exact⟨by omega,by omega,.inr ⟨k,by rw[Int.toNat_of_nonneg hc.1.1]⟩,.inr ⟨k',by rw[Int.toNat_of_nonneg (by omega)]⟩⟩
 ·cases h
theorem ic {f:Nat→SV} {h:Nat→Option aj} {x:Option Operand} {s:SV} (e:(j5 x).val f h=some (some s)):∃y,x=some y∧(bZ y).val f h=some s:=by
 cases x with
 | none=>simp [j5] at e
 | some y=>
  simp only[j5,M.ae,Option.bind_eq_some_iff,M.aa,Option.some.injEq] at e
  obtain⟨s',h1,rfl⟩:=e
  exact⟨y,rfl,h1⟩
theorem ib {f:Nat→SV} {h:Nat→Option aj} {x:Option Operand} (e:(j5 x).val f h=some none):x=none:=by
 cases x with
 | none=>rfl
 | some y=>simp [j5,Option.bind_eq_some_iff] at e
theorem iw {x:Nat} {k:IntKind} {y:Nat} {code:BoundsCode} (h:x≤y):(Instr.sliceBound (.int k x) y code).run P w= .ok x w:=by
 simp [Instr.sliceBound,asIntOf,h]
theorem i_ {lo hi:Option Operand} {DH DG:Option SV} {n cap l m:Nat} {c isS:Bool} {β:Env} {φ:Nat→List Nat} (kW:n≤cap) (hC:Core w0 S st.get st.obj β φ a.tmps w)
  (h1:(j5 lo).val st.get st.obj=some DH) (h2:(j5 hi).val st.get st.obj=some DG) (h:dz n DH DG=some (l,m,c)) (hc:c=true):
  (Instr.sliceBounds isS n cap (lo.map a.eval) (hi.map a.eval) none).run P w= .ok (l,m,cap) w:=by
 obtain⟨Ft,Ba,hl,hm⟩:=lg h hc
 rcases hl with ⟨rfl,rfl⟩ | ⟨k,rfl⟩<;>rcases hm with ⟨rfl,rfl⟩ | ⟨k',rfl⟩
 ·simp [ib h1,ib h2,Instr.sliceBounds]
 ·obtain⟨y,rfl,hy⟩:=ic h2
  have hy:=hC.ev hy
  simp only[ak] at hy
  simp [ib h1,Instr.sliceBounds,hy.1,iw (P:=P) (w:=w) (k:=k') (by omega:m≤cap)]
 ·obtain⟨y,rfl,hy⟩:=ic h1
  have hy:=hC.ev hy
  simp only[ak] at hy
  simp [ib h2,Instr.sliceBounds,hy.1,iw (P:=P) (w:=w) (k:=k) Ft]
 ·obtain⟨y,rfl,hy⟩:=ic h1
  have hy:=hC.ev hy
  obtain⟨z,rfl,hz⟩:=ic h2
  have hz:=hC.ev hz
  simp only[ak] at hy hz
  simp [Instr.sliceBounds,hy.1,hz.1,iw (P:=P) (w:=w) (k:=k) Ft,iw (P:=P) (w:=w) (k:=k') (by omega:m≤cap)]
theorem BR (hR:Rel w0 S st a w) (hd:∀d,o.dst=some d→a_ st.n d) {t:TypeId} {x:Operand} {lo hi:Option Operand} (ho:o.op= .slice t x lo hi none) {sx:SV} {DH DG:Option SV}
  (h1:(bZ x).val st.get st.obj=some sx) (h2:(j5 lo).val st.get st.obj=some DH) (h3:(j5 hi).val st.get st.obj=some DG)
  (he:(CI P t sx DH DG).val st.get st.obj=some e) (aI:e.ok=true):Good P w0 S st o e a w:=by
 unfold CI at he
 split at he
 ·rename_i hu
  split at he
  ·rename_i s
   split at he
   ·rename_i l m c gw
    simp only[M.aa,Option.some.injEq] at he
    subst he
    have aI:c=true:=aI
    refine ao hR hd rfl rfl fun β φ hc=> ?_
    have hx:=hc.ev h1
    simp only[ak] at hx
    have hb:=i_ (P:=P) (isS:=false) (Nat.le_refl _) hc h2 h3 gw aI
    refine⟨.string ⟨((s.take m).drop l).toArray⟩, ?_, ?_⟩
    ·simp [execOp,ho,hx.1,Instr.sliceAt,Instr.slice,run_underlying hu,dj,hb,hX]
    ·unfold ak
     refine⟨rfl, ?_⟩
     simp only[List.length_drop,List.length_take]
     omega
   ·simp at he
  ·simp at he
 ·rename_i et hu
  have run:∀(q:Option Addr) (n cap l m:Nat) (c:Bool) (i:TypeInfo) (β:Env) (φ:Nat→List Nat),Core w0 S st.get st.obj β φ a.tmps w→n≤cap→P.info? et=some i→dz n DH DG=some (l,m,c)→c=true→
    a.eval x= .slice q n cap→(execOp a.eval o).run P w= .ok (.value (.slice (if cap=l then q else q.map (·.add (l*i.size))) (m - l) (cap - l))) w:=by
   intro q n cap l m c i β φ hc kW hi gw AA hx
   have hb:=i_ (P:=P) (isS:=true) kW hc h2 h3 gw AA
   simp [execOp,ho,hx,Instr.sliceAt,Instr.slice,run_underlying hu,hb,sizeOf,typeInfo,hi]
  split at he
  ·rename_i ct r
   cases hz:aX P et ct.length
   ·simp [hz] at he
   simp only[hz,cond_true] at he
   obtain⟨i,hi,dm⟩:=aV hz
   split at he
   ·rename_i l m c gw
    simp only[M.aa,Option.some.injEq] at he
    subst he
    have aI:c=true:=aI
    refine ao hR hd rfl rfl fun β φ hc=> ?_
    have hx:=hc.ev h1
    simp only[ak] at hx
    obtain⟨fp,hr,cN⟩:=hx
    obtain⟨q,n,cap,hv,hn,kW,_,_⟩:=c6 hr
    obtain⟨Ft,Ba,_⟩:=lg gw aI
    rw[hv] at hr
    obtain⟨Bk,gU,Ht⟩:=CH hr Ft Ba
    refine⟨_,run q n cap l m c i β φ hc kW hi (by rw[←hn];exact gw) aI hv, ?_⟩
    simp only[ak]
    rw[dm]
    exact⟨Bk,gU,fun b hb=>cN b (Ht b hb)⟩
   ·simp at he
  ·rename_i id
   simp only[M.aS,Option.bind_eq_some_iff] at he
   obtain⟨ob,aJ,he⟩:=he
   split at he
   ·rename_i t' ct r u
    cases hz:Nat.beq t' et && aX P et ct.length
    ·simp [hz] at he
    simp only[hz,cond_true] at he
    simp only[Bool.and_eq_true] at hz
    obtain⟨i,hi,dm⟩:=aV hz.2
    split at he
    ·rename_i l m c gw
     simp only[M.aa,Option.some.injEq] at he
     subst he
     have aI:c=true:=aI
     obtain⟨β,φ,hc⟩:=hR.core
     have hx:=hc.ev h1
     simp only[ak] at hx
     have Lh:=hc.freeze aJ (.inl ⟨_,_,rfl⟩)
     have Ez:=(Lh.ay id (.dV ct r) (by simp [az])).1
     simp only[ak] at Ez
     obtain⟨fp,hr,cN⟩:=Ez
     obtain⟨q,n,cap,hv,hn,kW,_,_⟩:=c6 hr
     obtain⟨Ft,Ba,_⟩:=lg gw aI
     rw[hv] at hr
     obtain⟨Bk,gU,Ht⟩:=CH hr Ft Ba
     refine bI hR hd (run q n cap l m c i β φ hc kW hi (by rw[←hn];exact gw) aI (hx.1.trans hv)) hR.kept ⟨β,_,Lh, ?_⟩
     simp only[ak]
     rw[dm]
     exact⟨Bk,gU,fun b hb=>cN b (Ht b hb)⟩
    ·simp at he
   ·rename_i ct r
    cases hz:aX P et ct.length
    ·simp [hz] at he
    simp only[hz,cond_true] at he
    obtain⟨i,hi,dm⟩:=aV hz
    split at he
    ·rename_i l m c gw
     simp only[M.aa,Option.some.injEq] at he
     subst he
     have aI:c=true:=aI
     refine ao hR hd rfl rfl fun β φ hc=> ?_
     have hx:=hc.ev h1
     simp only[ak] at hx
     have Ez:=(hc.ay id _ aJ).1
     simp only[ak] at Ez
     obtain⟨fp,hr,cN⟩:=Ez
     obtain⟨q,n,cap,hv,hn,kW,_,_⟩:=c6 hr
     obtain⟨Ft,Ba,_⟩:=lg gw aI
     rw[hv] at hr
     obtain⟨Bk,gU,Ht⟩:=CH hr Ft Ba
     refine⟨_,run q n cap l m c i β φ hc kW hi (by rw[←hn];exact gw) aI (hx.1.trans hv), ?_⟩
     simp only[ak]
     rw[dm]
     exact⟨Bk,gU,fun b hb=>cN b (Ht b hb)⟩
    ·simp at he
   ·simp at he
  ·simp at he
 ·simp at he
end
end Go.Proofs.YtoaflbnkiobhdaaGreat.Vm
namespace Go.Proofs.YtoaflbnkiobhdaaGreat.Vm
theorem Dh (off:Nat):∀(vs:List Value) (k:Nat) (cs:Array Value),off+k+vs.length≤cs.size→
  ((vs.zipIdx k).foldl (fun cs (x:Value×Nat)=>cs.setIfInBounds (off+x.2) x.1) cs).toList=cs.toList.take (off+k)++(vs++cs.toList.drop (off+k+vs.length))
 | [],k,cs,h=>by simp
 | v::vs,k,cs,h=>by
  simp only[List.zipIdx_cons,List.foldl_cons]
  simp only[List.length_cons] at h
  rw[Dh off vs (k+1) _ (by simp;omega)]
  have e1:(cs.setIfInBounds (off+k) v).toList=cs.toList.set (off+k) v:=by simp
  have hl:off+k<cs.toList.length:=by simp;omega
  rw[e1]
  have e2:(cs.toList.set (off+k) v).take (off+(k+1))=cs.toList.take (off+k)++[v]:=by
   rw[←Nat.add_assoc,List.take_succ_eq_append_getElem (by simpa using hl),List.take_set_of_le (Nat.le_refl _)]
   simp
  have e3:(cs.toList.set (off+k) v).drop (off+(k+1)+vs.length)=cs.toList.drop (off+k+(vs.length+1)):=by
   rw[List.drop_set_of_lt (by omega)]
   congr 1
   omega
  rw[e2,e3]
  simp
theorem j6 {place:Nat→Option (Nat×Nat)} {cells:Array Value} {i off:Nat} {v:Value} {rest:List (Nat×Value)} (hp:place i=some (off,v.cells.size)) (hl:off+v.cells.size≤cells.size):
  Instr.fill place cells ((i,v)::rest)=Instr.fill place (cells.toList.take off++(v.cells.toList++cells.toList.drop (off+v.cells.size))).toArray rest:=by
 have h1:(v.cells.zipIdx.foldl (fun cs (x:Value×Nat)=>cs.setIfInBounds (off+x.2) x.1) cells)=(cells.toList.take off++(v.cells.toList++cells.toList.drop (off+v.cells.size))).toArray:=by
  apply Array.toList_inj.1
  rw[←Array.foldl_toList,Array.toList_zipIdx]
  have:=Dh off v.cells.toList 0 cells (by simpa using hl)
  simpa using this
 simp only[Instr.fill,hp]
 rw[if_neg (by simp;omega)]
 exact congrArg (fun x=>Instr.fill place x rest) h1
section
variable {P:Program} {Γ:Ctx} {w0:World} {S:Own} {st:St} {o:Oper} {e:cF} {a:Act} {w:World}
theorem dE {av:Nat→Prop} {β:Env} {f:Nat→SV} {h:Nat→Option aj} {s:SV} {v:Value} {cs:List SV} (hs:ak w av β s v) (hc:(aD s).val f h=some cs):
  af w av β cs v.cells.toList∧∀x∈v.cells.toList,x.oneCell'=true:=by
 have single:v.oneCell'=true→cs=[s]→af w av β cs v.cells.toList∧∀x∈v.cells.toList,x.oneCell'=true:=by
  intro ba fh
  have lO:v.cells= #[v]:=by cases v<;>first | rfl | (simp [Value.oneCell'] at ba)
  rw[lO,fh]
  simp only[List.mem_singleton,forall_eq,af]
  exact⟨⟨v,[],rfl,hs,rfl⟩,ba⟩
 cases s with
 | ff=>simp [aD] at hc
 | undef=>simp [aD] at hc
 | Dk l=>simp [aD] at hc
 | FB g l=>simp [aD] at hc
 | Fx id lo z=>simp [aD] at hc
 | agg l=>
  simp only[aD,M.aa,Option.some.injEq] at hc
  subst hc
  simp only[ak] at hs
  obtain⟨vs,rfl,h1,h2⟩:=hs
  simpa [Value.cells] using ⟨h1,h2⟩
 | kb b=>simp only[aD,M.aa,Option.some.injEq] at hc;exact single (by simp only[ak] at hs;subst hs;rfl) hc.symm
 | int k n=>simp only[aD,M.aa,Option.some.injEq] at hc;exact single (by simp only[ak] at hs;rw[hs.1];rfl) hc.symm
 | bool b=>simp only[aD,M.aa,Option.some.injEq] at hc;exact single (by simp only[ak] at hs;subst hs;rfl) hc.symm
 | str b=>simp only[aD,M.aa,Option.some.injEq] at hc;exact single (by simp only[ak] at hs;rw[hs.1];rfl) hc.symm
 | sl e r=>simp only[aD,M.aa,Option.some.injEq] at hc;exact single (by simp only[ak] at hs;obtain⟨fp,hr,_⟩:=hs;exact hr.one) hc.symm
 | nil=>simp only[aD,M.aa,Option.some.injEq] at hc;exact single (by simp only[ak] at hs;subst hs;rfl) hc.symm
 | own id=>simp only[aD,M.aa,Option.some.injEq] at hc;exact single (by simp only[ak] at hs;exact hs.2) hc.symm
 | ptr id off=>simp only[aD,M.aa,Option.some.injEq] at hc;exact single (by simp only[ak] at hs;subst hs;rfl) hc.symm
 | gA e r off=>simp only[aD,M.aa,Option.some.injEq] at hc;exact single (by simp only[ak] at hs;obtain⟨b,o,fp,hv,_⟩:=hs;subst hv;rfl) hc.symm
 | dU id i z off=>simp only[aD,M.aa,Option.some.injEq] at hc;exact single (by simp only[ak] at hs;obtain⟨g,_,hv⟩:=hs;subst hv;rfl) hc.symm
theorem ey {av:Nat→Prop} {β:Env} :∀(l:List Value),af w av β (l.map ofConst) l
 | []=>by simp [af]
 | v::l=>by
  simp only[List.map_cons,af]
  exact⟨v,l,rfl,i6 v,ey l⟩
theorem Dz {fs:Array Field} {places:List (Nat×Nat)} (h:fs.toList.mapM (fun f=>(P.info? f.type).map fun i=>(f.offset,i.size))=some places) {i:Nat} {f:Field} (hf:fs[i]? =some f):
  ∃ti,P.info? f.type=some ti∧places.toArray[i]? =some (f.offset,ti.size):=by
 have A8:fs.toList[i]? =some f:=by simpa using hf
 clear hf
 generalize fs.toList=l at h A8
 induction l generalizing places i with
 | nil=>simp at A8
 | cons g l ih=>
  simp only[List.mapM_cons,Option.bind_eq_bind,Option.pure_def] at h
  cases hi:P.info? g.type with
  | none=>simp [hi] at h
  | some ti=>
   cases hr:l.mapM (fun f=>(P.info? f.type).map fun i=>(f.offset,i.size)) with
   | none=>simp [hi,hr] at h
   | some rest=>
    simp [hi,hr] at h
    subst h
    cases i with
    | zero=>
     simp at A8
     subst A8
     exact⟨ti,hi,by simp⟩
    | succ i=>
     obtain⟨tj,h1,h2⟩:=ih hr (by simpa using A8)
     exact⟨tj,h1,by simpa using h2⟩
theorem mM {β:Env} {φ:Nat→List Nat} (hc:Core w0 S st.get st.obj β φ a.tmps w) {fs:Array Field} {places:List (Nat×Nat)}
  (hp:fs.toList.mapM (fun f=>(P.info? f.type).map fun i=>(f.offset,i.size))=some places):
  ∀(parts:List (Nat×Operand)) (cells:List SV) (cs:List SV) (vs:List Value),(jY P fs parts cells).val st.get st.obj=some cs→af w (Av st.obj β) β cells vs→(∀x∈vs,x.oneCell'=true)→
  ∃us:List Value,Instr.fill (places.toArray[·]?) vs.toArray (parts.map fun x=>(x.1,a.eval x.2))=some us.toArray∧af w (Av st.obj β) β cs us∧∀x∈us,x.oneCell'=true
 | [],cells,cs,vs,hb,hr,h1=>by
  simp only[jY,M.aa,Option.some.injEq] at hb
  subst hb
  exact⟨vs,by simp [Instr.fill],hr,h1⟩
 | (i,x)::rest,cells,cs,vs,hb,hr,h1=>by
  simp only[jY] at hb
  split at hb
  ·rename_i f hf
   simp only[M.ae,Option.bind_eq_some_iff] at hb
   obtain⟨s,hs,HY,AA,hb⟩:=hb
   cases hz:aX P f.type HY.length && Nat.ble (f.offset+HY.length) cells.length
   ·simp [hz] at hb
   simp only[hz,cond_true] at hb
   simp only[Bool.and_eq_true] at hz
   obtain⟨ti,FR,KG⟩:=Dz hp hf
   obtain⟨MO,FT,dm⟩:=aV hz.1
   rw[FR] at FT
   injection FT with FT
   subst FT
   have hle:=Nat.le_of_ble_eq_true hz.2
   obtain⟨fh,ba⟩:=dE (hc.ev hs) AA
   have hlen:=af.length _ _ hr
   have Bs:=af.length _ _ fh
   have bq:(a.eval x).cells.size=ti.size:=by simpa [dm] using Bs
   have dH:f.offset+(a.eval x).cells.size≤vs.toArray.size:=by simp;omega
   have bC:af w (Av st.obj β) β (cells.take f.offset++(HY++cells.drop (f.offset+HY.length))) (vs.take f.offset++((a.eval x).cells.toList++vs.drop (f.offset+(a.eval x).cells.size))):=by
    refine af.append _ _ _ _ (af.take _ _ _ hr) (af.append _ _ _ _ fh ?_)
    have:HY.length=(a.eval x).cells.size:=by simpa using Bs.symm
    rw[this]
    exact af.drop _ _ _ hr
   obtain⟨us,kE,fX,lT⟩:=mM hc hp rest _ cs _ hb bC (by
    intro y hy
    simp only[List.mem_append] at hy
    rcases hy with hy | hy | hy
    ·exact h1 y (List.mem_of_mem_take hy)
    ·exact ba y hy
    ·exact h1 y (List.mem_of_mem_drop hy))
   refine⟨us, ?_,fX,lT⟩
   simp only[List.map_cons]
   rw[j6 (off:=f.offset) (by rw[bq];exact KG) dH]
   simpa using kE
  ·simp at hb
theorem dk {f:Nat→SV} {h:Nat→Option aj} {t:TypeId} {z:List SV} (hz:(dA P t).val f h=some z):
  ∃i zv,P.info? t=some i∧i.zero=some zv∧z=zv.cells.toList.map ofConst∧∀x∈zv.cells.toList,x.oneCell'=true:=by
 unfold dA at hz
 split at hz
 ·rename_i i hi
  split at hz
  ·rename_i zv mE
   cases ha:zv.cells.toList.all (·.oneCell')
   ·simp [ha] at hz
   ·simp only[ha,cond_true,M.aa,Option.some.injEq] at hz
    exact⟨i,zv,hi,mE,hz.symm,fun x hx=>List.all_eq_true.1 ha x hx⟩
  ·simp at hz
 ·simp at hz
theorem BM (hR:Rel w0 S st a w) (hd:∀d,o.dst=some d→a_ st.n d) {t:TypeId} {parts:Array (Nat×Operand)} (ho:o.op= .build t parts) {fs:Array Field} {places:List (Nat×Nat)} {z cs:List SV}
  (hu:P.underlying t=some (.struct fs)) (hp:fs.toList.mapM (fun f=>(P.info? f.type).map fun i=>(f.offset,i.size))=some places)
  (hz:(dA P t).val st.get st.obj=some z) (hb:(jY P fs parts.toList z).val st.get st.obj=some cs) (he:e= {sv:= .agg cs}):Good P w0 S st o e a w:=by
 subst he
 refine ao hR hd rfl rfl fun β φ hc=> ?_
 obtain⟨i,zv,hi,mE,rfl,ba⟩:=dk hz
 obtain⟨us,kE,fX,lT⟩:=mM hc hp parts.toList _ cs _ hb (ey zv.cells.toList) ba
 refine⟨.agg us.toArray, ?_,by unfold ak;exact⟨us,rfl,fX,lT⟩⟩
 have G4:P.built t (parts.map fun x=>(x.1,a.eval x.2)).toList=some us.toArray:=by
  simp only[Program.built,hi,hu,mE,hp]
  simpa using kE
 have:=run_build (P:=P) w t (parts.map fun x=>(x.1,a.eval x.2)) us.toArray G4
 simp [execOp,ho,this]
end
end Go.Proofs.YtoaflbnkiobhdaaGreat.Vm
namespace Go.Proofs.YtoaflbnkiobhdaaGreat.Vm
def Env.CF (β:Env) (id b:Nat):Env:=⟨az β.cS id b,β.val,β.gv,β.nb⟩
def Env.fE (β:Env) (id:Nat) (v:Value):Env:=⟨β.cS,az β.val id v,β.gv,β.nb⟩
theorem mF {i:Nat} {m n:eJ} :bO i (m++n)=(bO i m && bO i n):=by
 induction m with
 | nil=>simp [bO]
 | cons x l ih=>obtain⟨j,q⟩:=x;simp [bO,ih,Bool.and_assoc]
theorem gy {m n:eJ} (h:aN (m++n)=true):aN m=true∧aN n=true∧∀x∈m,∀y∈n,x.1≠y.1:=by
 induction m with
 | nil=>exact⟨rfl,by simpa using h,by simp⟩
 | cons x l ih=>
  obtain⟨j,q⟩:=x
  simp only[List.cons_append,aN,mF,Bool.and_eq_true] at h
  obtain⟨h1,h2,h3⟩:=ih h.2
  refine⟨by simp [aN,h.1.1,h1],h2,fun x hx y hy=> ?_⟩
  rcases List.mem_cons.1 hx with rfl | hx
  ·exact fun e=>gk h.1.2 y hy e.symm
  ·exact h3 x hx y hy
section
variable {P:Program} {Γ:Ctx} {w0:World} {S:Own} {st:St} {o:Oper} {e:cF} {a:Act} {w:World}
variable {f:Nat→SV} {h:Nat→Option aj} {β:Env} {φ:Nat→List Nat} {tm:Array Value}
theorem fK {m:eJ} {b:Nat} (hb:Av (fo (ai m) h) β b):Av h β b:=by
 induction m generalizing b with
 | nil=>exact hb
 | cons x l ih=>
  obtain⟨i,e',r,u⟩:=x
  rcases hb with ⟨j,ob,hj,bn⟩ | hb
  case inr=>exact .inr hb
  simp only[ai,fo,az] at hj
  split at hj
  ·injection hj with hj
   subst hj
   simp [al] at bn
  ·exact ih (.inl ⟨j,ob,hj,bn⟩)
theorem dt (hc:Core w0 S f h β φ tm w) {m:eJ} (hm:bR h m) {x:Nat×List CT×List (List DC)×Bool} (hx:x∈m) {b:Nat} (hb:b∈eH h β x.1):¬Av (fo (ai m) h) β b:=by
 rintro (⟨j,ob,hj,bn⟩ | eM)
 case inr=>
  obtain⟨o,dJ,_⟩:=hm x hx
  rw[eV dJ] at hb
  exact hc.AU dJ (ah (hc.ay _ _ dJ) b hb) eM
 obtain⟨o,dJ,_⟩:=hm x hx
 rw[eV dJ] at hb
 have frozen:∀(l:eJ) (j:Nat),(∃y∈l,y.1=j)→∃e' r,fo (ai l) h j=some (.dV e' r):=by
  intro l
  induction l with
  | nil=>rintro j ⟨y,hy,_⟩;simp at hy
  | cons z l ih=>
   obtain⟨i,e',r,u⟩:=z
   rintro j ⟨y,hy,rfl⟩
   simp only[ai,fo,az]
   by_cases KP:y.1=i
   ·rw[if_pos KP];exact⟨e',r,rfl⟩
   ·rw[if_neg KP]
    rcases List.mem_cons.1 hy with rfl | hy
    ·exact absurd rfl KP
    ·exact ih y.1 ⟨y,hy,rfl⟩
 by_cases Bq:∃y∈m,y.1=j
 ·obtain⟨e',r,bL⟩:=frozen m j Bq
  rw[bL] at hj
  injection hj with hj
  subst hj
  simp [al] at bn
 ·have fO:h j=some ob:=by rw[bH (fun y hy e=>Bq ⟨y,hy,e⟩)] at hj;exact hj
  have cI:x.1≠j:=fun e=>Bq ⟨x,hx,e⟩
  exact hc.sep x.1 j _ _ cI dJ fO b (ah (hc.ay x.1 _ dJ) b hb) (ah (hc.ay j _ fO) b bn)
theorem dn (hc:Core w0 S f h β φ tm w) {ct:CT} {s:SV} {v:Value} {q:DC×eJ×Bool} (hs:ak w (Av h β) β s v) (hq:(eA ct s).val f h=some q):
  ∃fp,bU w ct q.1 v fp∧bR h q.2.1∧aN q.2.1=true∧(∀b∈fp,(¬Av h β b)∨∃x∈q.2.1,b∈eH h β x.1)∧
   (q.2.2=true→(∀b∈fp,∃x∈q.2.1,b∈φ x.1)∧fp.Nodup):=by
 have plain:∀(d:DC) (fr:Bool) (fp:List Nat),q=(d,[],fr)→bU w ct d v fp→(∀b∈fp,¬Av h β b)→(fr=true→fp=[])→
   ∃fp,bU w ct q.1 v fp∧bR h q.2.1∧aN q.2.1=true∧(∀b∈fp,(¬Av h β b)∨∃x∈q.2.1,b∈eH h β x.1)∧(q.2.2=true→(∀b∈fp,∃x∈q.2.1,b∈φ x.1)∧fp.Nodup):=by
  rintro d fr fp rfl hr cN bL
  refine⟨fp,hr,by simp [bR],rfl,fun b hb=> .inl (cN b hb),fun hf=> ?_⟩
  rw[bL hf]
  simp
 unfold eA at hq
 split at hq
 ·rename_i k n
  split at hq
  ·rename_i k'
   by_cases hk:k=k'
   ·subst hk
    simp only[decide_true,cond_true,M.aa,Option.some.injEq] at hq
    simp only[ak] at hs
    exact plain _ _ [] hq.symm (by unfold bU;exact⟨n,rfl,hs.1,hs.2,rfl⟩) (by simp) (by simp)
   ·simp [hk] at hq
  ·simp at hq
 ·split at hq
  ·simp only[M.aa,Option.some.injEq] at hq
   simp only[ak] at hs
   exact plain _ _ [] hq.symm (by unfold bU;exact⟨_,rfl,hs,rfl⟩) (by simp) (by simp)
  ·simp at hq
 ·split at hq
  ·simp only[M.aa,Option.some.injEq] at hq
   simp only[ak] at hs
   exact plain _ _ [] hq.symm (by unfold bU;exact⟨_,rfl,hs,rfl⟩) (by simp) (by simp)
  ·simp at hq
 ·split at hq
  ·simp only[M.aa,Option.some.injEq] at hq
   simp only[ak] at hs
   exact plain _ _ [] hq.symm (by unfold bU;exact⟨_,rfl,hs.1,hs.2,rfl⟩) (by simp) (by simp)
  ·simp at hq
 ·rename_i e' r
  split at hq
  ·rename_i Ee
   cases hb:aF e' Ee
   ·simp [hb] at hq
   ·simp only[hb,cond_true,M.aa,Option.some.injEq] at hq
    have:=aM _ _ hb
    subst this
    simp only[ak] at hs
    obtain⟨fp,hr,cN⟩:=hs
    exact plain _ _ fp hq.symm hr cN (by simp)
  ·simp at hq
 ·split at hq
  ·simp only[M.aa,Option.some.injEq] at hq
   simp only[ak] at hs
   subst hs
   exact plain _ _ [] hq.symm (jO rfl (Nat.le_refl _) (Nat.zero_le _) (.inl ⟨rfl,rfl⟩)) (by simp) (by simp)
  ·simp at hq
 ·rename_i id
  split at hq
  ·rename_i e'
   simp only[ak] at hs
   obtain⟨hs,_⟩:=hs
   subst hs
   simp only[M.aS,Option.bind_eq_some_iff] at hq
   obtain⟨ob,aJ,hq⟩:=hq
   split at hq
   ·rename_i t' Ee r fz u
    cases hb:aF Ee e'
    ·simp [hb] at hq
    ·simp only[hb,cond_true,M.aa,Option.some.injEq] at hq
     have:=aM _ _ hb
     subst this hq
     obtain⟨fp,h1,h2,h3⟩:=bk (hc.ay id _ aJ)
     refine⟨fp,h1, ?_,rfl,fun b hb=> ?_,fun hu=>⟨fun b hb=>⟨_,List.mem_singleton.2 rfl,(h3 hu).1 b hb⟩,(h3 hu).2 (hc.fresh id _ aJ).1⟩⟩
     ·intro x hx
      rw[List.mem_singleton] at hx
      subst hx
      exact⟨_,aJ,.inl ⟨t',fz,rfl⟩⟩
     ·rcases h2 b hb with hx | hx
      ·exact .inr ⟨_,List.mem_singleton.2 rfl,by rw[eV aJ];exact hx⟩
      ·exact .inl hx
   ·rename_i Ee r
    cases hb:aF Ee e'
    ·simp [hb] at hq
    ·simp only[hb,cond_true,M.aa,Option.some.injEq] at hq
     have:=aM _ _ hb
     subst this
     obtain⟨h1,_⟩:=hc.ay id _ aJ
     simp only[ak] at h1
     obtain⟨fp,hr,cN⟩:=h1
     exact plain _ _ fp hq.symm hr cN (by simp)
   ·rename_i t' Ee ts r
    cases hb:aF Ee e'
    ·simp [hb] at hq
    ·simp only[hb,cond_true,M.aa,Option.some.injEq] at hq
     have:=aM _ _ hb
     subst this hq
     have Lo:Am (.deep t' Ee ts r none) Ee r true:= .inr ⟨t',ts,rfl,rfl⟩
     obtain⟨fp,h1,h2,h3⟩:=Ad (hc.ay id _ aJ) Lo
     refine⟨fp,h1, ?_,rfl,fun b hb=> ?_,fun hu=>⟨fun b hb=>⟨_,List.mem_singleton.2 rfl,(h3 hu).1 b hb⟩,(h3 hu).2 (hc.fresh id _ aJ).1⟩⟩
     ·intro x hx
      rw[List.mem_singleton] at hx
      subst hx
      exact⟨_,aJ,Lo⟩
     ·rcases h2 b hb with hx | hx
      ·exact .inr ⟨_,List.mem_singleton.2 rfl,by rw[eV aJ];exact hx⟩
      ·exact .inl hx
   ·simp at hq
  ·simp at hq
 ·simp at hq
theorem eO {m n:eJ} (h1:bR h m) (h2:bR h n):bR h (m++n):=fun x hx=>by
 rcases List.mem_append.1 hx with hx | hx
 ·exact h1 x hx
 ·exact h2 x hx
theorem apart (hc:Core w0 S f h β φ tm w) {m n:eJ} (hm:bR h m) (hn:bR h n) (cI:∀x∈m,∀y∈n,x.1≠y.1) {p q:List Nat}
  (hp:∀b∈p,∃x∈m,b∈φ x.1) (hq:∀b∈q,∃x∈n,b∈φ x.1) (np:p.Nodup) (nq:q.Nodup):(p++q).Nodup:=by
 rw[List.nodup_append]
 refine⟨np,nq,fun b hb c gN Ds=> ?_⟩
 subst Ds
 obtain⟨x,hx,j9⟩:=hp b hb
 obtain⟨y,hy,A6⟩:=hq b gN
 obtain⟨_,h1,_⟩:=hm x hx
 obtain⟨_,h2,_⟩:=hn y hy
 exact hc.sep x.1 y.1 _ _ (cI x hx y hy) h1 h2 b j9 A6
theorem dR (hc:Core w0 S f h β φ tm w):∀(bz:List CT) (bK:List SV) (vs:List Value) (q:List DC×eJ×Bool),af w (Av h β) β bK vs→(ca bz bK).val f h=some q→
  ∃fp,aZ w bz q.1 (fun j=>vs[j]?) fp∧bR h q.2.1∧(∀b∈fp,(¬Av h β b)∨∃x∈q.2.1,b∈eH h β x.1)∧
   (q.2.2=true→(∀b∈fp,∃x∈q.2.1,b∈φ x.1)∧(aN q.2.1=true→fp.Nodup))
 | [],[],vs,q,hs,hq=>by
  simp only[ca,M.aa,Option.some.injEq] at hq
  subst hq
  exact⟨[],by simp [aZ],by simp [bR],by simp,by simp⟩
 | [],_::_,vs,q,hs,hq=>by simp [ca] at hq
 | _::_,[],vs,q,hs,hq=>by simp [ca] at hq
 | c::cs,s::ss,vs,q,hs,hq=>by
  simp only[af] at hs
  obtain⟨v,l,rfl,h1,h2⟩:=hs
  simp only[ca,M.ae,Option.bind_eq_some_iff,M.aa,Option.some.injEq] at hq
  obtain⟨q1,aG,q2,cu,rfl⟩:=hq
  obtain⟨f1,r1,m1,n1,a1,u1⟩:=dn hc h1 aG
  obtain⟨f2,r2,m2,a2,u2⟩:=dR hc cs ss l q2 h2 cu
  refine⟨f1++f2, ?_,eO m1 m2, ?_, ?_⟩
  ·simp only[aZ]
   exact⟨q1.1,q2.1,v,f1,f2,rfl,by simp,r1,by simpa using r2,rfl⟩
  ·intro b hb
   rcases List.mem_append.1 hb with hb | hb
   ·rcases a1 b hb with hx | ⟨x,hx,j9⟩
    ·exact .inl hx
    ·exact .inr ⟨x,List.mem_append_left _ hx,j9⟩
   ·rcases a2 b hb with hx | ⟨x,hx,j9⟩
    ·exact .inl hx
    ·exact .inr ⟨x,List.mem_append_right _ hx,j9⟩
  ·intro hu
   simp only[Bool.and_eq_true] at hu
   refine⟨fun b hb=> ?_,fun hn=> ?_⟩
   ·rcases List.mem_append.1 hb with hb | hb
    ·obtain⟨x,hx,j9⟩:=(u1 hu.1).1 b hb
     exact⟨x,List.mem_append_left _ hx,j9⟩
    ·obtain⟨x,hx,j9⟩:=(u2 hu.2).1 b hb
     exact⟨x,List.mem_append_right _ hx,j9⟩
   ·obtain⟨_,Hi,cI⟩:=gy hn
    exact apart hc m1 m2 cI (u1 hu.1).1 (u2 hu.2).1 (u1 hu.1).2 ((u2 hu.2).2 Hi)
theorem Core.create (hc:Core w0 S f h β φ tm w) {w':World} {β':Env} {id:Nat} {ob:aj} {Gb:List Nat} (hs:w.heap.size≤w'.heap.size) (hw:∀b,b<w.heap.size→w'.heap[b]? =w.heap[b]?)
  (hf:∀i,id ∉ bT (f i)) (ho:∀j o,h j=some o→id ∉ cB o) (hn:h id=none) (fY:∀j,j≠id→β'.val j=β.val j∧β'.cS j=β.cS j)
  (iS:∀b∈al β' id ob,w.heap.size≤b) (gP:fH w' (Av (az h id (some ob)) β') β' id ob Gb) (hnd:Gb.Nodup)
  (mn:∀b∈Gb,((w0.heap.size≤b∨S b)∧b<w'.heap.size)∧∀j o,h j=some o→b ∉ φ j) (eM:β'.gv=β.gv:=by rfl) (ja:∀j,j≠id→β'.nb j=β.nb j:=by intro _ _;rfl):Core w0 S f (az h id (some ob)) β' (az φ id Gb) tm w':=by
 have iA:∀j o,j≠id→al β' j o=al β j o:=by
  intro j o hj
  cases o<;>simp [al,fY j hj,ja j hj]
 refine hc.mi (fun i=>i=id) hs (fun b hb _=>hw b hb) ?_ (fun i j hj e=>hf i (e ▸ hj)) fY ?_ ?_ eM
 ·rintro b (⟨j,oj,hj,bn⟩ | hb)
  case inr=>exact .inl (.inr (eM ▸ hb))
  by_cases b_:j=id
  ·subst b_
   simp only[az,if_true,Option.some.injEq] at hj
   subst hj
   exact .inr (iS b bn)
  ·simp only[az,b_,if_false] at hj
   rw[iA j oj b_] at bn
   exact .inl (.inl ⟨j,oj,hj,bn⟩)
 ·intro j oj hj
  by_cases b_:j=id
  ·subst b_
   simp only[az,if_true,Option.some.injEq] at hj
   subst hj
   exact .inr ⟨by simpa [az] using gP,by simpa [az] using hnd,fun b hb=>(mn b (by simpa [az] using hb)).1⟩
  ·simp only[az,b_,if_false] at hj
   refine .inl ⟨b_,hj,ja j b_,by simp [az,b_],fun i hi e=>ho j oj hj (e ▸ hi),fun b hb=>hw b ?_⟩
   exact ((hc.fresh j oj hj).2 b (ah (hc.ay j oj hj) b hb)).2
 ·intro i j oi oj cI hi hj b hb
  by_cases kY:i=id
  ·subst kY
   have gg:j≠i:=Ne.symm cI
   simp only[az,gg,if_false] at hj
   simp only[az,if_true] at hb
   simp only[az,gg,if_false]
   exact (mn b hb).2 j oj hj
  ·simp only[az,kY,if_false] at hi hb
   by_cases b_:j=id
   ·subst b_
    simp only[az,if_true]
    exact fun ax=>(mn b ax).2 i oi hi hb
   ·simp only[az,b_,if_false] at hj ⊢
    exact hc.sep i j oi oj cI hi hj b hb
theorem af.beside {w':World} {β':Env} {id:Nat} {ob:aj} (hs:w.heap.size≤w'.heap.size) (hw:∀b,b<w.heap.size→w'.heap[b]? =w.heap[b]?)
  (fY:∀j,j≠id→β'.val j=β.val j∧β'.cS j=β.cS j) (iS:∀b∈al β' id ob,w.heap.size≤b) {ss:List SV} {vs:List Value} (hr:af w (Av h β) β ss vs) (hi:id ∉ bQ ss) (eM:β'.gv=β.gv:=by rfl) (ja:∀j,j≠id→β'.nb j=β.nb j:=by intro _ _;rfl):
  af w' (Av (az h id (some ob)) β') β' ss vs:=by
 refine af.mono hs (fun b hb _=>hw b hb) ?_ ss vs hr (fun j hj=>fY j (fun e=>hi (e ▸ hj)))
 rintro b (⟨j,oj,hj,bn⟩ | hb)
 case inr=>exact .inl (.inr (eM ▸ hb))
 by_cases b_:j=id
 ·subst b_
  simp only[az,if_true,Option.some.injEq] at hj
  subst hj
  exact .inr (iS b bn)
 ·simp only[az,b_,if_false] at hj
  refine .inl (.inl ⟨j,oj,hj, ?_⟩)
  cases oj<;>simp only[al,fY j b_,ja j b_] at bn ⊢ <;>exact bn
structure bu (st:St) (d:Nat):Prop where
 slot:∀i,∀j∈bT (st.get i),j / 64≠d
 obj:∀j ob,st.obj j=some ob→j / 64≠d∧∀k∈cB ob,k / 64≠d
theorem cK (d k:Nat) (hk:k<64):ag d k / 64=d:=by unfold ag;omega
theorem Kept.alloc (hk:Kept S w0 w) (ob:Obj):Kept S w0 (w.alloc ob):=
 ⟨hk.os,hk.tape,hk.output,by have:=hk.size;simp;omega,fun k h1 h2=>(by show (w.heap.push ob)[k]? =_;rw[Array.getElem?_push,if_neg (by have:=hk.size;omega)];exact hk.block k h1 h2)⟩
theorem Kept.drew (hk:Kept S w0 w):Kept S w0 w.drew:=⟨hk.os,hk.tape,hk.output,hk.size,hk.block⟩
theorem ch (ob:Obj):(w.alloc ob).heap.size=w.heap.size+1:=by simp
theorem dX (ob:Obj):(w.alloc ob).heap[w.heap.size]? =some ob:=heap_alloc_new w ob
theorem alloc_old (ob:Obj) (b:Nat) (hb:b<w.heap.size):(w.alloc ob).heap[b]? =w.heap[b]? :=by
 show (w.heap.push ob)[b]? =_
 rw[Array.getElem?_push,if_neg (by omega)]
theorem kK (v:Value):bT (ofConst v)=[]:=by
 unfold ofConst
 split
 ·rfl
 ·cases BB _ _<;>rfl
 ·generalize Nat.ble _ _=c
  cases c<;>rfl
 ·rfl
 ·rfl
theorem jF:∀(l:List Value),bQ (l.map ofConst)=[]
 | []=>rfl
 | v::l=>by simp [bQ,kK,jF l]
theorem Fo {d:Nat} (hf:bu st d) {x:Operand} {s:SV} (hx:(bZ x).val st.get st.obj=some s):∀j∈bT s,j / 64≠d:=by
 have:=CZ hx
 subst this
 cases x with
 | tmp t=>exact hf.slot t
 | const v=>simp [GU,kK]
 | global g=>intro j hj;simp [GU,bT] at hj
 | func g=>intro j hj;simp [GU,bT] at hj
theorem BV {s:SV} {cs:List SV} (hc:(aD s).val f h=some cs):bQ cs=bT s:=by
 cases s<;>simp [aD] at hc<;>subst hc<;>simp [bT,bQ]
theorem jQ (hR:Rel w0 S st a w) {d:Nat} (aK:o.dst=some d) (hd:a_ st.n d) (bL:bu st d) {t:TypeId} {cells:List SV} {vs:List Value}
  (bo:(execOp a.eval o).run P w= .ok (.value (.pointer (some ⟨w.heap.size,0,none⟩))) (w.alloc (.cells vs.toArray t)))
  (lO:∀β φ,Core w0 S st.get st.obj β φ a.tmps w→af w (Av st.obj β) β cells vs) (ba:∀x∈vs,x.oneCell'=true) (Ck:∀j∈bQ cells,j / 64≠d)
  (he:e= {sv:= .ptr (ag d 0) 0,ow:=[(ag d 0,some (.box t cells))]}):Good P w0 S st o e a w:=by
 subst he
 obtain⟨β,φ,hc⟩:=hR.core
 have bC:ag d 0 / 64=d:=cK d 0 (by omega)
 have fY:∀j,j≠ag d 0→(β.CF (ag d 0) w.heap.size).val j=β.val j∧(β.CF (ag d 0) w.heap.size).cS j=β.cS j:=by
  intro j hj
  exact⟨rfl,by simp [Env.CF,az,hj]⟩
 have jo:(β.CF (ag d 0) w.heap.size).cS (ag d 0)=w.heap.size:=by simp [Env.CF,az]
 have iS:∀b∈al (β.CF (ag d 0) w.heap.size) (ag d 0) (.box t cells),w.heap.size≤b:=by
  intro b hb
  simp only[al,jo,List.mem_singleton] at hb
  omega
 have hle:=hR.kept.size
 refine bI hR (fun d' h'=>by rw[aK] at h';injection h' with h';exact h' ▸ hd) bo (hR.kept.alloc _) ⟨β.CF (ag d 0) w.heap.size,az φ (ag d 0) [w.heap.size], ?_, ?_⟩
 ·refine hc.create (by rw[ch];omega) (fun b hb=>alloc_old _ b hb) (fun i hi=>bL.slot i _ hi bC) (fun j ob hj hi=>(bL.obj j ob hj).2 _ hi bC) ?_ fY iS ?_ (by simp) ?_
  ·cases hn:st.obj (ag d 0) with
   | none=>rfl
   | some ob=>exact absurd bC (bL.obj _ ob hn).1
  ·refine⟨vs,by rw[jo];exact dX _, ?_,ba,by rw[jo]⟩
   exact af.beside (by rw[ch];omega) (fun b hb=>alloc_old _ b hb) fY iS (lO β φ hc) (fun hi=>Ck _ hi bC)
  ·intro b hb
   rw[List.mem_singleton] at hb
   subst hb
   refine⟨⟨.inl hle,by rw[ch];omega⟩,fun j ob hj hb=> ?_⟩
   have:=((hc.fresh j ob hj).2 _ hb).2
   omega
 ·simp only[ak,jo]
theorem BL (hR:Rel w0 S st a w) {d:Nat} (aK:o.dst=some d) (hd:a_ st.n d) (bL:bu st d) {t:TypeId} (ho:o.op= .alloc t) {z:List SV} (hz:(dA P t).val st.get st.obj=some z)
  (he:e= {sv:= .ptr (ag d 0) 0,ow:=[(ag d 0,some (.box t z))]}):Good P w0 S st o e a w:=by
 obtain⟨i,zv,hi,mE,rfl,ba⟩:=dk hz
 refine jQ hR aK hd bL (vs:=zv.cells.toList) ?_ (fun β φ hc=>ey _) ba (by simp [jF]) he
 simp [execOp,ho,Instr.alloc,zeroValue,typeInfo,hi,mE,newVar,newRow]
theorem DJ (hR:Rel w0 S st a w) {d:Nat} (aK:o.dst=some d) (hd:a_ st.n d) (bL:bu st d) {t:TypeId} {x:Operand} (ho:o.op= .box t x) {s:SV} {cs:List SV}
  (hx:(bZ x).val st.get st.obj=some s) (fh:(aD s).val st.get st.obj=some cs)
  (he:e= {sv:= .ptr (ag d 0) 0,ow:=[(ag d 0,some (.box t cs))]}):Good P w0 S st o e a w:=by
 obtain⟨Jj,Jk,B2⟩:=hR.core
 refine jQ hR aK hd bL (vs:=(a.eval x).cells.toList) ?_ (fun β φ hc=>(dE (hc.ev hx) fh).1) (dE (B2.ev hx) fh).2 ?_ he
 ·simp [execOp,ho,Instr.box,newVar,newRow]
 ·rw[BV fh]
  exact Fo bL hx
end
end Go.Proofs.YtoaflbnkiobhdaaGreat.Vm
namespace Go.Proofs.YtoaflbnkiobhdaaGreat.Vm
section
variable {P:Program} {Γ:Ctx} {w0:World} {S:Own} {st:St} {o:Oper} {e:cF} {a:Act} {w:World}
variable {f:Nat→SV} {h:Nat→Option aj} {β:Env} {φ:Nat→List Nat} {tm:Array Value}
theorem dC.cons {ct:List CT} {r:List DC} {l:List Value} {g:List Nat} {rows:List (List DC)} {vals:List Value} {aA:List (List Nat)} (h1:aZ w ct r (fun j=>l[j]?) g) (hl:l.length=ct.length)
  (h2:dC w ct rows vals aA):dC w ct (r::rows) (l++vals) (g::aA):=by
 refine⟨by simp [h2.1],fun i r' f' hi hf=> ?_⟩
 cases i with
 | zero=>
  simp at hi hf
  subst hi hf
  refine bk.aZ.jH (fun j u hj=> ?_) h1
  simp only[Nat.zero_mul,Nat.zero_add]
  rw[List.getElem?_append_left (by have:=List.getElem?_eq_some_iff.1 hj;exact this.1)]
  exact hj
 | succ i=>
  have:=h2.2 i r' f' (by simpa using hi) (by simpa using hf)
  refine bk.aZ.jH (fun j u hj=> ?_) this
  rw[List.getElem?_append_right (by rw[hl,Nat.succ_mul];omega)]
  rw[←hj]
  congr 1
  rw[hl,Nat.succ_mul]
  omega
theorem dC.nil {ct:List CT} {vals:List Value} :dC w ct [] vals []:=⟨rfl,by simp⟩
theorem dC.append {ct:List CT} {rows GI:List (List DC)} {vals Ak:List Value} {aA FD:List (List Nat)} (h1:dC w ct rows vals aA) (hl:vals.length=rows.length*ct.length)
  (h2:dC w ct GI Ak FD):dC w ct (rows++GI) (vals++Ak) (aA++FD):=by
 refine⟨by simp [h1.1,h2.1],fun i r f hi hf=> ?_⟩
 rcases Nat.lt_or_ge i rows.length with cl | Ev
 ·rw[List.getElem?_append_left cl] at hi
  rw[List.getElem?_append_left (by rw[h1.1];exact cl)] at hf
  refine bk.aZ.jH (fun j u hj=> ?_) (h1.2 i r f hi hf)
  rw[List.getElem?_append_left (by have:=List.getElem?_eq_some_iff.1 hj;exact this.1)]
  exact hj
 ·rw[List.getElem?_append_right Ev] at hi
  rw[List.getElem?_append_right (by rw[h1.1];exact Ev),h1.1] at hf
  refine bk.aZ.jH (fun j u hj=> ?_) (h2.2 _ r f hi hf)
  have e1:i*ct.length+j=rows.length*ct.length+((i - rows.length)*ct.length+j):=by
   have:i*ct.length=rows.length*ct.length+(i - rows.length)*ct.length:=by rw[←Nat.add_mul];congr 1;omega
   omega
  rw[List.getElem?_append_right (by omega)]
  rw[←hj]
  congr 1
  omega
theorem dq {m:eJ} {j:Nat} {ob:aj} (hj:fo (ai m) h j=some ob):(h j=some ob)∨(∃e' r,ob= .dV e' r∧∃y∈m,y.1=j):=by
 induction m with
 | nil=>exact .inl hj
 | cons x l ih=>
  obtain⟨i,e',r,u⟩:=x
  simp only[ai,fo,az] at hj
  split at hj
  ·rename_i gg
   injection hj with hj
   exact .inr ⟨e',r,hj.symm,_,List.mem_cons_self ..,gg.symm⟩
  ·rcases ih hj with h1 | ⟨Ee,r',h1,y,hy,h2⟩
   ·exact .inl h1
   ·exact .inr ⟨Ee,r',h1,y,List.mem_cons_of_mem _ hy,h2⟩
theorem gM {m:eJ} {j:Nat} (Bq:∃y∈m,y.1=j):bl φ m j=[]:=by
 induction m with
 | nil=>obtain⟨y,hy,_⟩:=Bq;simp at hy
 | cons z l ih=>
  obtain⟨y,hy,rfl⟩:=Bq
  simp only[bl,az]
  by_cases KR:y.1=z.1
  ·rw[if_pos KR]
  ·rw[if_neg KR]
   rcases List.mem_cons.1 hy with rfl | hy
   ·exact absurd rfl KR
   ·exact ih ⟨y,hy,rfl⟩
theorem eP (hR:Rel w0 S st a w) {d:Nat} (aK:o.dst=some d) (hd:a_ st.n d) (bL:bu st d) {t:TypeId} {ct:List CT} {rows:List (List DC)} {fz u:Bool} {m:eJ} {w':World} {v:Value}
  (bo:(execOp a.eval o).run P w= .ok (.value v) w') (hk:Kept S w0 w') (hs:w.heap.size≤w'.heap.size) (hw:∀b,b<w.heap.size→w'.heap[b]? =w.heap[b]?)
  (hB:∀b∈v.ownBlock.toList,b=w.heap.size) (hm:bR st.obj m) (Ba:aN m=true) {vals:List Value} (aY:cg w' t ct.length fz v rows.length vals)
  (c3:∀β φ,Core w0 S st.get st.obj β φ a.tmps w→∃aA,dC w ct rows vals aA∧(∀b∈aA.flatten,(¬Av st.obj β b)∨∃x∈m,b∈eH st.obj β x.1)∧
   (u=true→(∀b∈aA.flatten,∃x∈m,b∈φ x.1)∧aA.flatten.Nodup))
  (eU:e.sv= .own (ag d 0)) (js:e.cw=none) (how:e.ow=(ag d 0,some (.row t ct rows fz u))::ai m):Good P w0 S st o e a w:=by
 obtain⟨β,φ,hc⟩:=hR.core
 obtain⟨aA,c3,cN,hu⟩:=c3 β φ hc
 have jr:=hc.gf m hm Ba
 have bC:ag d 0 / 64=d:=cK d 0 (by omega)
 have fY:∀j,j≠ag d 0→(β.fE (ag d 0) v).val j=β.val j∧(β.fE (ag d 0) v).cS j=β.cS j:=by
  intro j hj
  exact⟨by simp [Env.fE,az,hj],rfl⟩
 have hval:(β.fE (ag d 0) v).val (ag d 0)=v:=by simp [Env.fE,az]
 have iS:∀b∈al (β.fE (ag d 0) v) (ag d 0) (.row t ct rows fz u),w.heap.size≤b:=by
  intro b hb
  simp only[al,hval] at hb
  rw[hB b hb]
  exact Nat.le_refl _
 have cl:=c3.lt
 have hle:=hR.kept.size
 have jn:∀b∈aA.flatten,¬Av (fo (ai m) st.obj) β b:=by
  intro b hb
  rcases cN b hb with h1 | ⟨x,hx,j9⟩
  ·exact fun h2=>h1 (fK h2)
  ·exact dt hc hm hx j9
 refine bI hR (fun d' h'=>by rw[aK] at h';injection h' with h';exact h' ▸ hd) bo hk
  ⟨β.fE (ag d 0) v,az (bl φ m) (ag d 0) (v.ownBlock.toList++(bif u then aA.flatten else [])), ?_, ?_⟩
 ·rw[how,js]
  refine jr.create hs hw (fun i hi=>bL.slot i _ hi bC) (fun j ob hj hi=> ?_) ?_ fY iS ?_ ?_ ?_
  ·rcases dq hj with h1 | ⟨e',r,rfl,_⟩
   ·exact (bL.obj j ob h1).2 _ hi bC
   ·simp [cB] at hi
  ·cases hn:fo (ai m) st.obj (ag d 0) with
   | none=>rfl
   | some ob=>
    rcases dq hn with h1 | ⟨e',r,rfl,y,hy,h2⟩
    ·exact absurd bC (bL.obj _ ob h1).1
    ·obtain⟨_,h3,_⟩:=hm y hy
     rw[h2] at h3
     exact absurd bC (bL.obj _ _ h3).1
  ·refine⟨vals,aA,by rw[hval];exact aY,c3.mono hs (fun b hb=>hw b (cl b hb)),fun b hb hx=> ?_,by rw[hval]⟩
   rcases hx with ⟨j,oj,hj,bn⟩ | hx
   case inr=>exact jn b hb (.inr hx)
   by_cases b_:j=ag d 0
   ·subst b_
    simp only[az,if_true,Option.some.injEq] at hj
    subst hj
    have:=iS b bn
    have:=cl b hb
    omega
   ·simp only[az,b_,if_false] at hj
    refine jn b hb (.inl ⟨j,oj,hj, ?_⟩)
    cases oj<;>simp only[al,fY j b_] at bn ⊢ <;>exact bn
  ·have AE:v.ownBlock.toList.Nodup:=by cases v.ownBlock<;>simp
   cases u with
   | false=>simpa using AE
   | true=>
    rw[cond_true,List.nodup_append]
    refine⟨AE,(hu rfl).2,fun b hb c gN Ds=> ?_⟩
    have h1:=hB b hb
    have h2:=cl c gN
    omega
  ·intro b hb
   rcases List.mem_append.1 hb with hb | hb
   ·have h1:=hB b hb
    subst h1
    refine⟨⟨.inl hle, ?_⟩,fun j ob hj bn=> ?_⟩
    ·have:=aY.lt _ hb
     exact this
    ·have:=((jr.fresh j ob hj).2 _ bn).2
     omega
   ·cases u with
    | false=>simp at hb
    | true=>
     simp only[cond_true] at hb
     obtain⟨x,hx,j9⟩:=(hu rfl).1 b hb
     obtain⟨_,h3,_⟩:=hm x hx
     have h4:=(hc.fresh x.1 _ h3).2 b j9
     refine⟨⟨h4.1,by omega⟩,fun j ob hj bn=> ?_⟩
     by_cases Bq:∃y∈m,y.1=j
     ·rw[gM Bq] at bn
      simp at bn
     ·have Bt:∀y∈m,y.1≠j:=fun y hy e=>Bq ⟨y,hy,e⟩
      rw[bH Bt] at hj
      rw[cV Bt] at bn
      exact hc.sep x.1 j _ _ (Bt x hx) h3 hj b j9 bn
 ·rw[eU]
  unfold ak
  exact⟨hval.symm,aY.one⟩
theorem CU {ct:CT} {v:Value} {q:DC×eJ×Bool} (hq:(eA ct (ofConst v)).val f h=some q):q.2.1=[]∧q.2.2=true:=by
 unfold ofConst at hq
 split at hq
 ·simp only[eA] at hq
  split at hq<;>simp at hq
  subst hq;exact⟨rfl,rfl⟩
 ·rename_i k n
  cases hi:BB k n
  ·simp [hi,eA] at hq
  ·simp only[hi,cond_true,eA] at hq
   split at hq
   ·rename_i k'
    by_cases hk:k=k'
    ·simp [hk] at hq;subst hq;exact⟨rfl,rfl⟩
    ·simp [hk] at hq
   ·simp at hq
 ·generalize Nat.ble _ _=c at hq
  cases c
  ·simp [eA] at hq
  ·simp only[cond_true,eA] at hq
   split at hq<;>simp at hq
   subst hq;exact⟨rfl,rfl⟩
 ·simp only[eA] at hq
  split at hq<;>simp at hq
  subst hq;exact⟨rfl,rfl⟩
 ·simp [eA] at hq
theorem kQ:∀(bz:List CT) (l:List Value) (q:List DC×eJ×Bool),(ca bz (l.map ofConst)).val f h=some q→q.2.1=[]∧q.2.2=true
 | [],[],q,hq=>by simp [ca] at hq;subst hq;exact⟨rfl,rfl⟩
 | [],_::_,q,hq=>by simp [ca] at hq
 | _::_,[],q,hq=>by simp [ca] at hq
 | c::cs,v::l,q,hq=>by
  simp only[List.map_cons,ca,M.ae,Option.bind_eq_some_iff,M.aa,Option.some.injEq] at hq
  obtain⟨q1,aG,q2,cu,rfl⟩:=hq
  obtain⟨h1,h2⟩:=CU aG
  obtain⟨h3,h4⟩:=kQ cs l q2 cu
  simp [h1,h2,h3,h4]
theorem cC:∀(bz:List CT) (l:List SV) (q:List DC×eJ×Bool),(ca bz l).val f h=some q→l.length=bz.length
 | [],[],q,hq=>rfl
 | [],_::_,q,hq=>by simp [ca] at hq
 | _::_,[],q,hq=>by simp [ca] at hq
 | c::cs,v::l,q,hq=>by
  simp only[ca,M.ae,Option.bind_eq_some_iff,M.aa,Option.some.injEq] at hq
  obtain⟨q1,aG,q2,cu,rfl⟩:=hq
  simp [cC cs l q2 cu]
theorem dC.replicate {ct:List CT} {r:List DC} {z:List Value} (h1:aZ w ct r (fun j=>z[j]?) []) (hl:z.length=ct.length):∀n,dC w ct (List.replicate n r) (List.replicate n z).flatten (List.replicate n [])
 | 0=>dC.nil
 | n+1=>by
  simp only[List.replicate_succ,List.flatten_cons]
  exact dC.cons h1 hl (dC.replicate h1 hl n)
theorem Dc (z:Array Value):∀n,(madeCells z (n*z.size)).toList=(List.replicate n z.toList).flatten:=by
 intro n
 apply List.ext_getElem?
 intro i
 simp only[madeCells]
 rcases Nat.eq_zero_or_pos z.size with h0 | hp
 ·have hz:z= #[]:=by simpa using h0
  subst hz
  simp
 ·rcases Nat.lt_or_ge i (n*z.size) with hi | hi
  ·have hr:(List.replicate n z.toList).flatten[i]? =z.toList[i % z.size]? :=by
    have key:∀n i,i<n*z.size→(List.replicate n z.toList).flatten[i]? =z.toList[i % z.size]? :=by
     intro n
     induction n with
     | zero=>intro i hi;simp at hi
     | succ n ih=>
      intro i hi
      simp only[List.replicate_succ,List.flatten_cons]
      rcases Nat.lt_or_ge i z.size with h1 | h1
      ·rw[List.getElem?_append_left (by simpa using h1),Nat.mod_eq_of_lt h1]
      ·rw[List.getElem?_append_right (by simpa using h1)]
       have h2:i - z.toList.length<n*z.size:=by simp;rw[Nat.succ_mul] at hi;omega
       rw[ih _ h2]
       congr 1
       simp only[Array.length_toList]
       rw[←Nat.mod_eq_sub_mod h1]
    exact key n i hi
   rw[hr]
   have hm:i % z.size<z.size:=Nat.mod_lt _ hp
   simp [hi,hm]
  ·rw[List.getElem?_eq_none (by simp;omega),List.getElem?_eq_none (by simp;omega)]
theorem CP (hR:Rel w0 S st a w) {d:Nat} (aK:o.dst=some d) (hd:a_ st.n d) (bL:bu st d) {t et:TypeId} {l c:Operand} (ho:o.op= .makeSlice t l c) {n m:Int} {ct:List CT} {i:TypeInfo} {z:List SV} {r:List DC×eJ×Bool}
  (hl:(bZ l).val st.get st.obj=some (.int .i64 n)) (hm:(bZ c).val st.get st.obj=some (.int .i64 m)) (hu:P.underlying t=some (.slice et)) (hi:P.info? et=some i) (dm:i.size=ct.length)
  (hz:(dA P et).val st.get st.obj=some z) (hr:(ca ct z).val st.get st.obj=some r)
  (he:e= {sv:= .own (ag d 0),ow:=[(ag d 0,some (.row et ct (List.replicate n.toNat r.1) false true))],ok:=decide (0≤n) && decide (n≤m) && decide (m.toNat*i.bytes≤140737488355328) && decide (m≤9223372036854775807)})
  (aI:e.ok=true):Good P w0 S st o e a w:=by
 subst he
 simp only[Bool.and_eq_true,decide_eq_true_eq] at aI
 obtain⟨⟨⟨h0,IG⟩,A6⟩,JB⟩:=aI
 obtain⟨i',zv,dI,mE,rfl,ba⟩:=dk hz
 rw[hi] at dI
 injection dI with dI
 subst dI
 obtain⟨kd,J_⟩:=kQ _ _ _ hr
 have jA:zv.cells.toList.length=ct.length:=by simpa using cC _ _ _ hr
 have ED:(madeCells zv.cells (m.toNat*i.size)).toList=(List.replicate m.toNat zv.cells.toList).flatten:=by
  have:=Dc zv.cells m.toNat
  rw[dm,←jA]
  simpa using this
 obtain⟨Jj,Jk,B2⟩:=hR.core
 have hx:=B2.ev hl
 have hy:=B2.ev hm
 simp only[ak] at hx hy
 have hb:(i.bytes:Int)*m≤281474976710656:=by
  have h1:((m.toNat*i.bytes:Nat):Int)≤140737488355328:=by omega
  rw[Int.natCast_mul,Int.toNat_of_nonneg (by omega),Int.mul_comm] at h1
  omega
 have bo:=run_make (P:=P) w t et i zv hu hi mE .i64 .i64 n m h0 IG hb JB
 refine eP hR aK hd bL (m:=[]) (fz:=false) (u:=true) (vals:=(List.replicate n.toNat zv.cells.toList).flatten) (v:= .slice (some ⟨w.heap.size,0,none⟩) n.toNat m.toNat)
  (w':=w.alloc (.cells (madeCells zv.cells (m.toNat*i.size)) et)) ?_ (hR.kept.alloc _) (by rw[ch];omega) (fun b hb=>alloc_old _ b hb) (by simp [Value.ownBlock]) (by simp [bR]) rfl ?_ ?_ rfl rfl rfl
 ·simp [execOp,ho,hx.1,hy.1,bo]
 ·refine⟨by simp [jA],.inr ⟨w.heap.size,m.toNat,_,by simp,by simpa using dX _,by simp;omega,by simp only[maxLen];omega,by rw[size_madeCells,dm], ?_⟩⟩
  rw[ED]
  have:List.replicate m.toNat zv.cells.toList=List.replicate n.toNat zv.cells.toList++List.replicate (m.toNat - n.toNat) zv.cells.toList:=by
   rw[List.replicate_append_replicate]
   congr 1
   omega
  rw[this,List.flatten_append,List.take_append_of_le_length (by simp [jA]),List.take_of_length_le (by simp [jA])]
 ·intro β φ hc
  obtain⟨fp,jU,_,_,A9⟩:=dR hc ct _ _ r (ey zv.cells.toList) hr
  have Kw:fp=[]:=by
   have:=(A9 J_).1
   cases fp with
   | nil=>rfl
   | cons b l=>
    obtain⟨x,hx,_⟩:=this b (List.mem_cons_self ..)
    rw[kd] at hx
    simp at hx
  subst Kw
  refine⟨List.replicate n.toNat [],dC.replicate jU jA n.toNat, ?_, ?_⟩
  ·intro b hb
   simp at hb
  ·intro _
   constructor
   ·intro b hb;simp at hb
   ·have:(List.replicate n.toNat ([]:List Nat)).flatten=[]:=by simp
    rw[this]
    simp
theorem fy (hc:Core w0 S st.get st.obj β φ a.tmps w) {ct:List CT} :∀(parts:List (Nat×Operand)) (k:Nat) (q:List (List DC)×eJ×Bool),(dZ ct k parts).val st.get st.obj=some q→
  ∃(vals:List Value) (aA:List (List Nat)),vals.length=parts.length*ct.length∧q.1.length=parts.length∧(∀x∈vals,x.oneCell'=true)∧dC w ct q.1 vals aA∧bR st.obj q.2.1∧
   (∀b∈aA.flatten,(¬Av st.obj β b)∨∃x∈q.2.1,b∈eH st.obj β x.1)∧(q.2.2=true→(∀b∈aA.flatten,∃x∈q.2.1,b∈φ x.1)∧(aN q.2.1=true→aA.flatten.Nodup))∧
   ∀(pre suf:List Value),pre.length=k*ct.length→suf.length=parts.length*ct.length→
    Instr.fill (fun i=>some (i*ct.length,ct.length)) (pre++suf).toArray (parts.map fun x=>(x.1,a.eval x.2))=some (pre++vals).toArray
 | [],k,q,hq=>by
  simp only[dZ,M.aa,Option.some.injEq] at hq
  subst hq
  refine⟨[],[],by simp,rfl,by simp,dC.nil,by simp [bR],by simp,by simp,fun pre suf h1 h2=> ?_⟩
  have:suf=[]:=by simpa using h2
  subst this
  simp [Instr.fill]
 | (i,x)::rest,k,q,hq=>by
  simp only[dZ] at hq
  cases DP:Nat.beq i k
  ·simp [DP] at hq
  have DP:=Nat.eq_of_beq_eq_true DP
  subst DP
  simp only[Nat.beq_refl,cond_true,M.ae,Option.bind_eq_some_iff,M.aa,Option.some.injEq] at hq
  obtain⟨s,hs,cs,fh,r,hr,q2,cu,rfl⟩:=hq
  obtain⟨eU,ba⟩:=dE (hc.ev hs) fh
  have A7:=cC _ _ _ hr
  have AJ:=af.length _ _ eU
  have bq:(a.eval x).cells.size=ct.length:=by simpa [A7] using AJ
  obtain⟨fp,jU,FM,Gi,Gy⟩:=dR hc ct cs _ r eU hr
  obtain⟨vals,aA,jT,Iu,II,jt,C6,Dr,Dx,Ch⟩:=fy hc rest (i+1) q2 cu
  refine⟨(a.eval x).cells.toList++vals,fp::aA, ?_,by simp [Iu], ?_,dC.cons jU (by simpa using bq) jt,eO FM C6, ?_, ?_, ?_⟩
  ·simp only[List.length_append,jT,List.length_cons,Array.length_toList,bq,Nat.succ_mul]
   omega
  ·intro y hy
   rcases List.mem_append.1 hy with hy | hy
   ·exact ba y hy
   ·exact II y hy
  ·intro b hb
   simp only[List.flatten_cons,List.mem_append] at hb
   rcases hb with hb | hb
   ·rcases Gi b hb with h1 | ⟨y,hy,h1⟩
    ·exact .inl h1
    ·exact .inr ⟨y,List.mem_append_left _ hy,h1⟩
   ·rcases Dr b hb with h1 | ⟨y,hy,h1⟩
    ·exact .inl h1
    ·exact .inr ⟨y,List.mem_append_right _ hy,h1⟩
  ·intro hu
   simp only[Bool.and_eq_true] at hu
   refine⟨fun b hb=> ?_,fun hn=> ?_⟩
   ·simp only[List.flatten_cons,List.mem_append] at hb
    rcases hb with hb | hb
    ·obtain⟨y,hy,h1⟩:=(Gy hu.1).1 b hb
     exact⟨y,List.mem_append_left _ hy,h1⟩
    ·obtain⟨y,hy,h1⟩:=(Dx hu.2).1 b hb
     exact⟨y,List.mem_append_right _ hy,h1⟩
   ·obtain⟨JC,Hi,cI⟩:=gy hn
    simp only[List.flatten_cons]
    exact apart hc FM C6 cI (Gy hu.1).1 (Dx hu.2).1 ((Gy hu.1).2 JC) ((Dx hu.2).2 Hi)
  ·intro pre suf h1 h2
   simp only[List.length_cons,Nat.succ_mul] at h2
   simp only[List.map_cons]
   rw[j6 (off:=i*ct.length) (by rw[bq]) (by simp [h1,bq];omega)]
   have e1:((pre++suf).toArray.toList.take (i*ct.length)++((a.eval x).cells.toList++(pre++suf).toArray.toList.drop (i*ct.length+(a.eval x).cells.size)))=(pre++(a.eval x).cells.toList)++suf.drop ct.length:=by
    simp only[bq,←h1]
    simp [List.drop_append]
   rw[e1,Ch (pre++(a.eval x).cells.toList) (suf.drop ct.length) (by simp [h1,bq,Nat.succ_mul]) (by simp [h2])]
   simp
theorem kq (hR:Rel w0 S st a w) {d:Nat} (aK:o.dst=some d) (hd:a_ st.n d) (bL:bu st d) {t et:TypeId} {len:Nat} {parts:Array (Nat×Operand)} (ho:o.op= .buildSlice t len parts) {ct:List CT} {q:List (List DC)×eJ×Bool}
  (hu:P.underlying t=some (.slice et)) (dm:aX P et ct.length=true) (jw:0<ct.length) (hlen:len=parts.toList.length) (IZ:len*ct.length≤16777216)
  (hq:(dZ ct 0 parts.toList).val st.get st.obj=some q) (hz:∃z,(dA P et).val st.get st.obj=some z) (hn:aN q.2.1=true)
  (he:e= {sv:= .own (ag d 0),ow:=(ag d 0,some (.row et ct q.1 false q.2.2))::ai q.2.1}):Good P w0 S st o e a w:=by
 subst he
 obtain⟨i,hi,bq⟩:=aV dm
 obtain⟨Jj,Jk,B2⟩:=hR.core
 obtain⟨vals,_,AJ,FQ,ba,_,hm,_,_,kE⟩:=fy B2 parts.toList 0 q hq
 obtain⟨z,hz⟩:=hz
 obtain⟨i',zv,dI,mE,_,_⟩:=dk hz
 rw[hi] at dI
 injection dI with dI
 subst dI
 have hle:len≤maxLen:=by
  have:len≤len*ct.length:=Nat.le_mul_of_pos_right _ jw
  simp only[maxLen]
  omega
 have bo:(Instr.buildSlice t len (parts.map fun x=>(x.1,a.eval x.2))).run P w= .ok (.slice (some ⟨w.heap.size,0,none⟩) len len) (w.alloc (.cells vals.toArray et)):=by
  rcases Nat.eq_zero_or_pos len with h0 | h0
  ·have hp:parts= #[]:=by
    have:parts.toList.length=0:=by omega
    simpa using this
   have hv:vals=[]:=by
    have:vals.length=0:=by rw[AJ,←hlen,h0,Nat.zero_mul]
    simpa using this
   subst hp hv h0
   simp [Instr.buildSlice,run_underlying hu,sizeOf,typeInfo,hi,Instr.fill,newRow,Array.range_zero']
  ·refine run_buildSlice (P:=P) w t et len _ vals.toArray i zv hu hi mE (by rw[bq];omega) (by rw[bq];exact Nat.ne_of_gt (Nat.mul_pos h0 jw)) ?_
   have:=kE [] ((Array.range (len*ct.length)).map (zv.cells[· % zv.cells.size]!)).toList (by simp) (by simp [hlen])
   rw[bq]
   generalize (Array.range (len*ct.length)).map (zv.cells[· % zv.cells.size]!)=A at this ⊢
   simpa using this
 refine eP hR aK hd bL (m:=q.2.1) (fz:=false) (u:=q.2.2) (vals:=vals) (v:= .slice (some ⟨w.heap.size,0,none⟩) len len) (w':=w.alloc (.cells vals.toArray et)) ?_ (hR.kept.alloc _)
  (by rw[ch];omega) (fun b hb=>alloc_old _ b hb) (by simp [Value.ownBlock]) hm hn ?_ ?_ rfl rfl rfl
 ·simp [execOp,ho,bo]
 ·refine⟨by rw[AJ,FQ],.inr ⟨w.heap.size,len,vals.toArray,by rw[FQ,←hlen],by simpa using dX _,by rw[FQ,←hlen];exact Nat.le_refl _,hle,by simp [AJ,hlen], ?_⟩⟩
  rw[FQ,←AJ]
  simp
 ·intro β φ hc
  obtain⟨Ak,aA,Mu,Mo,lT,c3,Km,cN,gx,G8⟩:=fy hc parts.toList 0 q hq
  have Mw:Ak=vals:=by
   have h1:=kE [] (List.replicate (parts.toList.length*ct.length) undef) (by simp) (by simp)
   have h2:=G8 [] (List.replicate (parts.toList.length*ct.length) undef) (by simp) (by simp)
   rw[h1] at h2
   simpa using h2.symm
  subst Mw
  exact⟨aA,c3,cN,fun h=>⟨(gx h).1,(gx h).2 hn⟩⟩
end
end Go.Proofs.YtoaflbnkiobhdaaGreat.Vm
namespace Go.Proofs.YtoaflbnkiobhdaaGreat.Vm
theorem bN (P:Program) (g o:Nat) (t:TypeId) (fz:Nat×Nat):∀(vs:List Value) (i:Nat) (cur:Array Value) (w:World),w.heap[g]? =some (.cells cur t fz)→(∀j,j<cur.size→¬(fz.1≤j∧j<fz.2))→
  o+i+vs.length≤cur.size→(∀v∈vs,v.oneCell'=true)→
  (storeCells ⟨g,o,none⟩ vs i).run P w= .ok () (w.setRow g (cur.toList.take (o+i)++(vs++cur.toList.drop (o+i+vs.length))).toArray)
 | [],i,cur,w,hg,_,_,_=>by
  simp only[storeCells,List.nil_append,List.length_nil,Nat.add_zero,List.take_append_drop,Array.toArray_toList]
  rw[setRow_self w g cur t fz hg]
  rfl
 | v::rest,i,cur,w,hg,hfz,hl,h1=>by
  have hi:o+i<cur.size:=by simp at hl;omega
  have hcell:w.cell? ⟨g,o+i,none⟩=some cur[o+i]:=by simp [World.cell?,hg,hi]
  have J9:w.frozen? ⟨g,o+i,none⟩=false:=by
   have:=hfz (o+i) hi
   obtain⟨lo,dI⟩:=fz
   simp only[World.frozen?,hg,Bool.and_eq_false_iff,decide_eq_false_iff_not]
   simp only at this
   omega
  have gT:(store ((⟨g,o,none⟩:Addr).add i) v).run P w= .ok () (w.setRow g (cur.setIfInBounds (o+i) v)):=by
   rw[de,run_store P w _ v _ (h1 v (by simp)),hcell]
   simp [J9,setCell_eq_setRow w g (o+i) cur t fz v hg]
  have ih:=bN P g o t fz rest (i+1) (cur.setIfInBounds (o+i) v) (w.setRow g (cur.setIfInBounds (o+i) v)) (setRow_heap w g cur _ t _ hg) (by simpa using hfz) (by simp at hl ⊢;omega) (fun x hx=>h1 x (by simp [hx]))
  simp only[storeCells,Sem.run_bind,gT,Result.andThen_ok,ih,setRow_setRow]
  congr 3
  have:=list_seg_step cur.toList (o+i) v rest (by simp at hl ⊢;omega)
  simp only[Array.toList_setIfInBounds,List.length_cons]
  rw[←Nat.add_assoc]
  simpa [List.append_assoc] using this
theorem aZ.split {w:World} :∀(Aq kU:List CT) (r:List DC) (f:Nat→Option Value) (fp:List Nat),aZ w (Aq++kU) r f fp→
  ∃lh gb,aZ w Aq (r.take Aq.length) f lh∧aZ w kU (r.drop Aq.length) (fun j=>f (Aq.length+j)) gb∧fp=lh++gb
 | [],kU,r,f,fp,h=>⟨[],fp,by simp [aZ],by simpa using h,rfl⟩
 | c::cs,kU,r,f,fp,h=>by
  simp only[List.cons_append,aZ] at h
  obtain⟨d,r',v,f1,f2,rfl,h0,h1,h2,rfl⟩:=h
  obtain⟨p1,p2,e1,e2,rfl⟩:=aZ.split cs kU r' _ f2 h2
  refine⟨f1++p1,p2, ?_, ?_,by simp⟩
  ·simp only[List.length_cons,List.take_succ_cons,aZ]
   exact⟨d,_,v,f1,p1,rfl,h0,h1,e1,rfl⟩
  ·simp only[List.length_cons,List.drop_succ_cons]
   have:∀j,cs.length+1+j=cs.length+j+1:=by intro j;omega
   simpa only[this] using e2
theorem aZ.join {w:World} :∀(Aq kU:List CT) (r1 r2:List DC) (f:Nat→Option Value) (lh gb:List Nat),aZ w Aq r1 f lh→aZ w kU r2 (fun j=>f (Aq.length+j)) gb→
  aZ w (Aq++kU) (r1++r2) f (lh++gb)
 | [],kU,r1,r2,f,lh,gb,h1,h2=>by
  simp only[aZ] at h1
  obtain⟨rfl,rfl⟩:=h1
  simpa using h2
 | c::cs,kU,r1,r2,f,lh,gb,h1,h2=>by
  simp only[aZ] at h1
  obtain⟨d,r',v,f1,f2,rfl,h0,h3,h4,rfl⟩:=h1
  simp only[List.cons_append,aZ]
  refine⟨d,r'++r2,v,f1,f2++gb,rfl,h0,h3,aZ.join cs kU r' r2 _ f2 gb h4 ?_,by simp⟩
  have:∀j,(c::cs).length+j=cs.length+j+1:=by intro j;simp only[List.length_cons];omega
  simpa only[this] using h2
section
variable {P:Program} {Γ:Ctx} {w0:World} {S:Own} {st:St} {o:Oper} {e:cF} {a:Act} {w:World}
variable {f:Nat→SV} {h:Nat→Option aj} {β:Env} {φ:Nat→List Nat} {tm:Array Value}
theorem Kept.setRow (hk:Kept S w0 w) {g:Nat} (hg:w0.heap.size≤g∨S g) (cs:Array Value):Kept S w0 (w.setRow g cs):=
 ⟨hk.os,hk.tape,hk.output,by simpa using hk.size,fun k h1 h2=>by
  rw[setRow_other w g k cs (fun e=>by subst e;rcases hg with h | h;omega;exact h2 h)]
  exact hk.block k h1 h2⟩
theorem Core.rewrite (hc:Core w0 S f h β φ tm w) {id:Nat} {ob Fb:aj} {g:Nat} {cs:Array Value} {Gb:List Nat} (dJ:h id=some ob) (hg:g∈al β id ob) (ht:∀b∈al β id Fb,b∈al β id ob)
  (gP:fH (w.setRow g cs) (Av (az h id (some Fb)) β) β id Fb Gb) (hnd:Gb.Nodup) (mn:∀b∈Gb,((w0.heap.size≤b∨S b)∧b<w.heap.size)∧∀j o,j≠id→h j=some o→b ∉ φ j):
  Core w0 S f (az h id (some Fb)) β (az φ id Gb) tm (w.setRow g cs):=by
 have Cj:=ah (hc.ay id ob dJ) g hg
 refine hc.step (fun _=>False) (by simp) (fun b _ hb=>setRow_other w g b cs (fun e=>hb (e ▸ .inl ⟨id,ob,dJ,hg⟩))) ?_ (fun _ _ _ h=>h) (fun _ _=>⟨rfl,rfl⟩) ?_ ?_
 ·rintro b (⟨j,oj,hj,bn⟩ | hb)
  case inr=>exact .inl (.inr hb)
  by_cases b_:j=id
  ·subst b_
   simp only[az,if_true,Option.some.injEq] at hj
   subst hj
   exact .inl (.inl ⟨j,ob,dJ,ht b bn⟩)
  ·simp only[az,b_,if_false] at hj
   exact .inl (.inl ⟨j,oj,hj,bn⟩)
 ·intro j oj hj
  by_cases b_:j=id
  ·subst b_
   simp only[az,if_true,Option.some.injEq] at hj
   subst hj
   exact .inr ⟨by simpa [az] using gP,by simpa [az] using hnd,fun b hb=>by simpa using (mn b (by simpa [az] using hb)).1⟩
  ·simp only[az,b_,if_false] at hj
   refine .inl ⟨fun h=>h,hj,by simp [az,b_],fun _ _ h=>h,fun b hb=>setRow_other w g b cs (fun e=> ?_)⟩
   subst e
   exact hc.sep id j _ _ (Ne.symm b_) dJ hj b Cj (ah (hc.ay j oj hj) b hb)
 ·intro i j oi oj cI hi hj b hb
  by_cases kY:i=id
  ·subst kY
   have gg:j≠i:=Ne.symm cI
   simp only[az,gg,if_false] at hj
   simp only[az,if_true] at hb
   simp only[az,gg,if_false]
   exact (mn b hb).2 j oj gg hj
  ·simp only[az,kY,if_false] at hi hb
   by_cases b_:j=id
   ·subst b_
    simp only[az,if_true]
    exact fun ax=>(mn b ax).2 i oi kY hi hb
   ·simp only[az,b_,if_false] at hj ⊢
    exact hc.sep i j oi oj cI hi hj b hb
theorem lD {id:Nat} {ob Fb:aj} (dJ:h id=some ob) (ht:∀b∈al β id Fb,b∈al β id ob) {b:Nat} (hb:Av (az h id (some Fb)) β b):Av h β b:=by
 rcases hb with ⟨j,oj,hj,bn⟩ | hb
 case inr=>exact .inr hb
 by_cases b_:j=id
 ·subst b_
  simp only[az,if_true,Option.some.injEq] at hj
  subst hj
  exact .inl ⟨j,ob,dJ,ht b bn⟩
 ·simp only[az,b_,if_false] at hj
  exact .inl ⟨j,oj,hj,bn⟩
theorem hP {t:TypeId} {b off:Nat} {x:Value} {i:TypeInfo} (hi:P.info? t=some i) (dm:i.size=x.cells.size) {w':World} (bo:(storeCells ⟨b,off,none⟩ x.cells.toList 0).run P w= .ok () w'):
  (Instr.storeAt t (.pointer (some ⟨b,off,none⟩)) x).run P w= .ok () w':=by
 simp [Instr.storeAt,Instr.sureAddr,storeVar,sizeOf,typeInfo,hi,dm,bo]
theorem mK {av:Nat→Prop} {cells bK:List SV} {vs us:List Value} {off:Nat} (h1:af w av β cells vs) (h2:af w av β bK us) (hl:us.length=bK.length):
  af w av β (cE cells off bK) (vs.take off++(us++vs.drop (off+us.length))):=by
 unfold cE
 refine af.append _ _ _ _ (af.take _ _ _ h1) (af.append _ _ _ _ h2 ?_)
 rw[hl]
 exact af.drop _ _ _ h1
theorem k9 (hR:Rel w0 S st a w) (hd:∀d,o.dst=some d→a_ st.n d) {t t':TypeId} {x y:Operand} (ho:o.op= .store t x y) {id off:Nat} {sy:SV} {bK cells:List SV}
  (h1:(bZ x).val st.get st.obj=some (.ptr id off)) (h2:(bZ y).val st.get st.obj=some sy) (fh:(aD sy).val st.get st.obj=some bK) (dm:aX P t bK.length=true)
  (aJ:st.obj id=some (.box t' cells)) (dH:off+bK.length≤cells.length) (he:e= {sv:= .undef,cw:=some (id,off,bK)}):Good P w0 S st o e a w:=by
 subst he
 obtain⟨i,hi,bq⟩:=aV dm
 obtain⟨β,φ,hc⟩:=hR.core
 have hx:=hc.ev h1
 simp only[ak] at hx
 obtain⟨eU,ba⟩:=dE (hc.ev h2) fh
 obtain⟨vs,hh,hr,lT,ki⟩:=hc.ay id _ aJ
 have hl:=af.length _ _ hr
 have jT:=af.length _ _ eU
 have mz:(a.eval y).cells.size=bK.length:=by simpa using jT
 have bo:=bN P (β.cS id) off t' (0,0) (a.eval y).cells.toList 0 vs.toArray w hh (by simp) (by simp;omega) ba
 simp only[Nat.add_zero] at bo
 have L5:fc (some (id,off,bK)) st.obj=az st.obj id (some (.box t' (cE cells off bK))):=by simp only[fc,aJ]
 have Gx:=hc.fresh id _ aJ
 have cN:∀b,Av (az st.obj id (some (.box t' (cE cells off bK)))) β b→Av st.obj β b:=fun b hb=>lD aJ (by simp [al]) hb
 have Gt:∀(ss:List SV) (us:List Value),af w (Av st.obj β) β ss us→∀cs,af (w.setRow (β.cS id) cs) (Av (az st.obj id (some (.box t' (cE cells off bK)))) β) β ss us:=by
  intro ss us Ht cs
  exact af.mono (by simp) (fun b _ hb=>setRow_other w _ b cs (fun e=>hb (e ▸ .inl ⟨id,_,aJ,by simp [al]⟩))) (fun b hb=> .inl (cN b hb)) ss us Ht (fun _ _=>⟨rfl,rfl⟩)
 refine ie hR hd (w':=w.setRow (β.cS id) (vs.take off++((a.eval y).cells.toList++vs.drop (off+(a.eval y).cells.toList.length))).toArray) ?_ (hR.kept.setRow (Gx.2 (β.cS id) (by rw[ki];simp)).1 _) ⟨β,az φ id [β.cS id], ?_,by simp [ak]⟩
 ·simp [execOp,ho,hx,hP hi (bq.trans mz.symm) bo]
 ·show Core w0 S st.get (fo [] (fc (some (id,off,bK)) st.obj)) _ _ _ _
  simp only[fo,L5]
  refine hc.rewrite aJ (by simp [al]) (by simp [al]) ?_ (by simp) ?_
  ·refine⟨_,setRow_heap w _ _ _ _ _ hh,mK (Gt _ _ hr _) (Gt _ _ eU _) jT, ?_,rfl⟩
   intro z hz
   simp only[List.mem_append] at hz
   rcases hz with hz | hz | hz
   ·exact lT z (List.mem_of_mem_take hz)
   ·exact ba z hz
   ·exact lT z (List.mem_of_mem_drop hz)
  ·intro b hb
   have ax:b∈φ id:=by rw[ki];exact hb
   exact⟨Gx.2 b ax,fun j oj hj iQ=>hc.sep id j _ _ (Ne.symm hj) aJ iQ b ax⟩
theorem bS {aA:List (List Nat)} {i:Nat} (hi:i<aA.length) (x:List Nat):(aA.set i x).flatten=(aA.take i).flatten++(x++(aA.drop (i+1)).flatten):=by
 rw[List.set_eq_take_append_cons_drop,if_pos hi]
 simp
theorem br {aA:List (List Nat)} {i:Nat} (hi:i<aA.length):aA.flatten=(aA.take i).flatten++(aA[i]++(aA.drop (i+1)).flatten):=by
 have:=bS hi aA[i]
 rwa [List.set_getElem_self] at this
theorem dC.set {ct:List CT} {rows:List (List DC)} {vals:List Value} {aA:List (List Nat)} (c3:dC w ct rows vals aA) (hl:vals.length=rows.length*ct.length) {i:Nat} (hi:i<rows.length)
  {off:Nat} {ds:List DC} {us:List Value} {fp:List Nat} (iR:off+us.length≤ct.length) (jU:aZ w ((ct.drop off).take us.length) ds (fun j=>us[j]?) fp):
  ∃p1 p2 p3,aA[i]? =some (p1++(p2++p3))∧dC w ct (rows.set i (bP (rows.getD i []) off ds)) (vals.take (i*ct.length+off)++(us++vals.drop (i*ct.length+off+us.length))) (aA.set i (p1++(fp++p3))):=by
 have FH:i<aA.length:=by rw[c3.1];exact hi
 have er:=c3.2 i (rows.getD i []) aA[i] (cz hi) (by simp)
 generalize rows.getD i []=r at er ⊢
 have Bn:ct=ct.take off++((ct.drop off).take us.length++ct.drop (off+us.length)):=by
  rw[←List.drop_drop,List.take_append_drop,List.take_append_drop]
 have Gq:(ct.take off).length=off:=by simp;omega
 have jT:((ct.drop off).take us.length).length=us.length:=by simp;omega
 have L2:ds.length=us.length:=by rw[aZ.length _ _ _ _ jU,jT]
 have IW:aZ w (ct.take off++((ct.drop off).take us.length++ct.drop (off+us.length))) r (fun j=>vals[i*ct.length+j]?) aA[i]:=by
  rw[←Bn]
  exact er
 obtain⟨p1,q,r1,r2,hq⟩:=aZ.split _ _ _ _ _ IW
 obtain⟨p2,p3,r3,r4,rfl⟩:=aZ.split _ _ _ _ _ r2
 rw[Gq] at r1 r2 r3 r4
 rw[jT] at r3 r4
 have Jx:i*ct.length+ct.length≤vals.length:=by
  rw[hl,←Nat.succ_mul]
  exact Nat.mul_le_mul_right _ hi
 refine⟨p1,p2,p3,by rw[List.getElem?_eq_getElem FH,hq],by simp [c3.1],fun k r' f' hk hf=> ?_⟩
 have lj:∀j,(vals.take (i*ct.length+off)++(us++vals.drop (i*ct.length+off+us.length)))[j]? =
   if j<i*ct.length+off then vals[j]? else if j<i*ct.length+off+us.length then us[j - (i*ct.length+off)]? else vals[j]? :=by
  intro j
  have ht:(vals.take (i*ct.length+off)).length=i*ct.length+off:=by simp;omega
  split
  ·rename_i hj
   rw[List.getElem?_append_left (by omega),List.getElem?_take,if_pos hj]
  ·rename_i hj
   rw[List.getElem?_append_right (by omega),ht]
   split
   ·rw[List.getElem?_append_left (by omega)]
   ·rw[List.getElem?_append_right (by omega),List.getElem?_drop]
    congr 1
    omega
 by_cases mW:k=i
 ·subst mW
  rw[List.getElem?_set_self hi] at hk
  rw[List.getElem?_set_self FH] at hf
  simp only[Option.some.injEq] at hk hf
  subst hk hf
  have:=aZ.join (w:=w) (ct.take off) ((ct.drop off).take us.length++ct.drop (off+us.length)) (r.take off) (ds++r.drop (off+ds.length))
   (fun j=>(vals.take (k*ct.length+off)++(us++vals.drop (k*ct.length+off+us.length)))[k*ct.length+j]?) p1 (fp++p3) ?_ ?_
  ·rw[←Bn] at this
   exact this
  ·refine bk.aZ.i7 ?_ r1
   intro j u hj A_
   rw[Gq] at hj
   simp only[lj]
   rw[if_pos (by omega)]
   exact A_
  ·refine aZ.join _ _ _ _ _ _ _ ?_ ?_
   ·refine bk.aZ.i7 ?_ jU
    intro j u hj A_
    rw[jT] at hj
    simp only[Gq,lj]
    rw[if_neg (by omega),if_pos (by omega),←A_]
    congr 1
    omega
   ·rw[L2]
    simp only[List.drop_drop] at r4
    refine bk.aZ.jH ?_ r4
    intro j u A_
    simp only[Gq,jT,lj]
    rw[if_neg (by omega),if_neg (by omega)]
    rw[←A_]
 ·rw[List.getElem?_set_ne (Ne.symm mW)] at hk hf
  refine bk.aZ.i7 ?_ (c3.2 k r' f' hk hf)
  intro j u hj A_
  have Fs:k<rows.length:=(List.getElem?_eq_some_iff.1 hk).1
  rw[lj]
  rcases Nat.lt_or_ge k i with cl | Ev
  ·have:k*ct.length+ct.length≤i*ct.length:=by rw[←Nat.succ_mul];exact Nat.mul_le_mul_right _ cl
   rw[if_pos (by omega)]
   exact A_
  ·have:i*ct.length+ct.length≤k*ct.length:=by rw[←Nat.succ_mul];exact Nat.mul_le_mul_right _ (by omega)
   rw[if_neg (by omega),if_neg (by omega)]
   exact A_
end
end Go.Proofs.YtoaflbnkiobhdaaGreat.Vm
namespace Go.Proofs.YtoaflbnkiobhdaaGreat.Vm
theorem hY {α:Type} (l us:List α) (o m:Nat) (h1:o+us.length≤m) (h2:m≤l.length):
  (l.take o++(us++l.drop (o+us.length))).take m=(l.take m).take o++(us++(l.take m).drop (o+us.length)):=by
 rw[List.take_append,List.take_append]
 have e1:(l.take o).length=o:=by simp;omega
 rw[e1]
 have e2:(l.take o).take m=(l.take m).take o:=by rw[List.take_take,List.take_take,Nat.min_comm]
 have e3:us.take (m - o)=us:=List.take_of_length_le (by omega)
 rw[e2,e3]
 congr 2
 rw[List.drop_take]
 congr 1
 omega
section
variable {P:Program} {Γ:Ctx} {w0:World} {S:Own} {st:St} {o:Oper} {e:cF} {a:Act} {w:World}
variable {f:Nat→SV} {h:Nat→Option aj} {β:Env} {φ:Nat→List Nat} {tm:Array Value}
theorem gn {A p1 p2 p3 B n:List Nat} (h:(A++((p1++(p2++p3))++B)).Nodup) (hn:n.Nodup) (hd:∀b∈n,b ∉ A++((p1++(p2++p3))++B)):(A++((p1++(n++p3))++B)).Nodup:=by
 have h1:((A++p1)++(p3++B)).Nodup:=by
  refine List.Sublist.nodup ?_ h
  simp only[List.append_assoc]
  refine List.Sublist.append (List.Sublist.refl _) (List.Sublist.append (List.Sublist.refl _) ?_)
  exact List.sublist_append_right _ _
 have h2:(n++((A++p1)++(p3++B))).Nodup:=by
  rw[List.nodup_append]
  refine⟨hn,h1,fun b hb c gN Ds=> ?_⟩
  subst Ds
  refine hd b hb ?_
  simp only[List.mem_append] at gN ⊢
  rcases gN with (gN | gN) | gN | gN<;>simp [gN]
 refine (List.Perm.nodup_iff ?_).1 h2
 have:A++((p1++(n++p3))++B)=(A++p1)++(n++(p3++B)):=by simp
 rw[this]
 exact (List.perm_append_comm_assoc _ _ _)
theorem la (hR:Rel w0 S st a w) (hd:∀d,o.dst=some d→a_ st.n d) {t t':TypeId} {x y:Operand} (ho:o.op= .store t x y) {id i off:Nat} {sy:SV} {bK:List SV} {ct:List CT} {rows:List (List DC)} {fz u:Bool} {r:List DC×eJ×Bool}
  (h1:(bZ x).val st.get st.obj=some (.dU id i ct.length off)) (h2:(bZ y).val st.get st.obj=some sy) (fh:(aD sy).val st.get st.obj=some bK) (dm:aX P t bK.length=true)
  (aJ:st.obj id=some (.row t' ct rows fz u)) (dH:off+bK.length≤ct.length) (hr:(ca ((ct.drop off).take bK.length) bK).val st.get st.obj=some r) (Ba:bO id r.2.1=true) (hnd:aN r.2.1=true)
  (hi:i<rows.length) (js:e.cw=none) (Bw:e.sv= .undef)
  (how:e.ow=(id,some (.row t' ct (rows.set i (bP (rows.getD i []) off r.1)) fz (u && r.2.2)))::ai r.2.1):Good P w0 S st o e a w:=by
 obtain⟨ti,FR,bq⟩:=aV dm
 obtain⟨β,φ,hc⟩:=hR.core
 have hx:=hc.ev h1
 simp only[ak] at hx
 obtain⟨g,hg,hx⟩:=hx
 obtain⟨eU,ba⟩:=dE (hc.ev h2) fh
 have jT:=af.length _ _ eU
 have mz:(a.eval y).cells.size=bK.length:=by simpa using jT
 obtain⟨fp,jU,kd,Ik,Ha⟩:=dR hc _ _ _ r eU hr
 have jr:=hc.gf r.2.1 kd hnd
 have Bt:=gk Ba
 have gO:fo (ai r.2.1) st.obj id=some (.row t' ct rows fz u):=by rw[bH Bt];exact aJ
 have jn:∀b∈fp,¬Av (fo (ai r.2.1) st.obj) β b:=by
  intro b hb
  rcases Ik b hb with h1 | ⟨z,hz,HN⟩
  ·exact fun h2=>h1 (fK h2)
  ·exact dt hc kd hz HN
 obtain⟨vals,aA,aY,c3,kX,ki⟩:=jr.ay id _ gO
 have kF:g∈al β id (.row t' ct rows fz u):=by simp [al,hg]
 rcases aY.2 with ⟨hv,h0,_⟩ | ⟨g',cap,cur,hv,hh,AD,DN,lP,EP⟩
 ·omega
 have Hb:g'=g:=by simpa [hv,Value.ownBlock] using hg
 subst Hb
 have hlen:i*ct.length+ct.length≤rows.length*ct.length:=by rw[←Nat.succ_mul];exact Nat.mul_le_mul_right _ hi
 have Bs:rows.length*ct.length≤cap*ct.length:=Nat.mul_le_mul_right _ AD
 have Eu:∀j,j<cur.size→¬((bif fz then (cur.size,cur.size+1) else ((0,0):Nat×Nat)).1≤j∧j<(bif fz then (cur.size,cur.size+1) else ((0,0):Nat×Nat)).2):=by
  intro j hj
  cases fz<;>simp<;>omega
 have Cr:(a.eval y).cells.toList.length=bK.length:=by simpa using mz
 have bo:=bN P g' (i*ct.length+off) t' _ (a.eval y).cells.toList 0 cur w hh Eu (by rw[Cr,lP];omega) ba
 simp only[Nat.add_zero] at bo
 generalize fX:(a.eval y).cells.toList=us at*
 rw[←Cr] at dH jU
 obtain⟨p1,p2,p3,J7,lR⟩:=c3.set aY.1 hi dH jU
 have FH:i<aA.length:=by rw[c3.1];exact hi
 have Et:aA[i]=p1++(p2++p3):=by simpa [FH] using J7
 have C7:∀b∈(aA.set i (p1++(fp++p3))).flatten,b∈aA.flatten∨b∈fp:=by
  intro b hb
  rw[bS FH] at hb
  rw[br FH,Et]
  simp only[List.mem_append] at hb ⊢
  rcases hb with hb | (hb | hb | hb) | hb<;>simp [hb]
 have iB:∀b∈(aA.set i (p1++(fp++p3))).flatten,¬Av (fo (ai r.2.1) st.obj) β b:=by
  intro b hb
  rcases C7 b hb with hb | hb
  ·exact kX b hb
  ·exact jn b hb
 have bt:=jr.fresh id _ gO
 have lQ:(cur.toList.take (i*ct.length+off)++(us++cur.toList.drop (i*ct.length+off+us.length))).length=cur.size:=by
  simp only[List.length_append,List.length_take,List.length_drop,Array.length_toList]
  rw[lP]
  omega
 have mY:∀b∈al β id (.row t' ct (rows.set i (bP (rows.getD i []) off r.1)) fz (u && r.2.2)),b∈al β id (.row t' ct rows fz u):=fun b hb=>hb
 refine ie hR hd (w':=w.setRow g' (cur.toList.take (i*ct.length+off)++(us++cur.toList.drop (i*ct.length+off+us.length))).toArray) ?_
  (hR.kept.setRow (bt.2 g' (ah (jr.ay id _ gO) g' kF)).1 _)
  ⟨β,az (bl φ r.2.1) id ((β.val id).ownBlock.toList++(bif (u && r.2.2) then (aA.set i (p1++(fp++p3))).flatten else [])), ?_,by rw[Bw];simp [ak]⟩
 ·have:=hP (P:=P) (t:=t) (b:=g') (off:=i*ct.length+off) (x:=a.eval y) FR (bq.trans mz.symm) (by rw[fX];exact bo)
  simp [execOp,ho,hx,this]
 ·rw[how,js]
  show Core w0 S st.get (az (fo (ai r.2.1) st.obj) id (some (.row t' ct (rows.set i (bP (rows.getD i []) off r.1)) fz (u && r.2.2)))) _ _ _ _
  refine jr.rewrite gO kF mY ?_ ?_ ?_
  ·refine⟨vals.take (i*ct.length+off)++(us++vals.drop (i*ct.length+off+us.length)),aA.set i (p1++(fp++p3)),⟨?_,.inr ⟨g',cap,(cur.toList.take (i*ct.length+off)++(us++cur.toList.drop (i*ct.length+off+us.length))).toArray,by simpa using hv, ?_,by simpa using AD,DN,by simpa [lQ] using lP, ?_⟩⟩, ?_, ?_,rfl⟩
   ·have:=aY.1
    simp only[List.length_append,List.length_take,List.length_drop,List.length_set]
    omega
   ·rw[setRow_heap w _ _ _ _ _ hh]
    simp only[List.size_toArray,lQ]
   ·simp only[List.length_set]
    rw[hY _ _ _ _ (by omega) (by simp only[Array.length_toList];omega),EP]
   ·refine lR.mono (by simp) (fun b hb=>setRow_other w g' b _ (fun e=>iB b hb (e ▸ .inl ⟨id,_,gO,kF⟩)))
   ·exact fun b hb hx=>iB b hb (lD gO mY hx)
  ·have AE:(β.val id).ownBlock.toList.Nodup:=by cases (β.val id).ownBlock<;>simp
   cases gx:(u && r.2.2) with
   | false=>simpa using AE
   | true=>
    simp only[Bool.and_eq_true] at gx
    have Hv:bl φ r.2.1 id=(β.val id).ownBlock.toList++aA.flatten:=by rw[ki,gx.1];rfl
    have Hh:=bt.1
    rw[Hv,br FH,Et,List.nodup_append] at Hh
    obtain⟨JC,Hi,Iz⟩:=Hh
    have J8:=(Ha gx.2).2 hnd
    have G_:∀b∈fp,b ∉ bl φ r.2.1 id:=by
     intro b hb lN
     obtain⟨z,hz,HN⟩:=(Ha gx.2).1 b hb
     obtain⟨_,h3,_⟩:=kd z hz
     rw[cV Bt] at lN
     exact hc.sep z.1 id _ _ (Bt z hz) h3 aJ b HN lN
    rw[Hv,br FH,Et] at G_
    simp only[cond_true]
    rw[bS FH,List.nodup_append]
    refine⟨JC,gn Hi J8 (fun b hb ax=>G_ b hb (List.mem_append_right _ ax)),fun b hb c gN Ds=> ?_⟩
    subst Ds
    simp only[List.mem_append] at gN
    rcases gN with gN | (gN | gN | gN) | gN
    ·exact Iz b hb b (by simp [gN]) rfl
    ·exact Iz b hb b (by simp [gN]) rfl
    ·exact G_ b gN (List.mem_append_left _ hb)
    ·exact Iz b hb b (by simp [gN]) rfl
    ·exact Iz b hb b (by simp [gN]) rfl
  ·intro b hb
   have lr:b∈bl φ r.2.1 id→((w0.heap.size≤b∨S b)∧b<w.heap.size)∧∀j oj,j≠id→fo (ai r.2.1) st.obj j=some oj→b ∉ bl φ r.2.1 j:=fun ax=>
    ⟨bt.2 b ax,fun j oj hj iQ=>jr.sep id j _ _ (Ne.symm hj) gO iQ b ax⟩
   rcases List.mem_append.1 hb with hb | hb
   ·exact lr (by rw[ki];exact List.mem_append_left _ hb)
   ·cases gx:(u && r.2.2) with
    | false=>simp [gx] at hb
    | true=>
     simp only[gx,cond_true] at hb
     simp only[Bool.and_eq_true] at gx
     rcases C7 b hb with hb | hb
     ·exact lr (by rw[ki,gx.1];exact List.mem_append_right _ hb)
     ·obtain⟨z,hz,HN⟩:=(Ha gx.2).1 b hb
      obtain⟨_,h3,_⟩:=kd z hz
      refine⟨(hc.fresh z.1 _ h3).2 b HN,fun j oj hj iQ=> ?_⟩
      by_cases Bq:∃k∈r.2.1,k.1=j
      ·rw[gM Bq];simp
      ·have Co:∀k∈r.2.1,k.1≠j:=fun k hk e=>Bq ⟨k,hk,e⟩
       rw[bH Co] at iQ
       rw[cV Co]
       exact hc.sep z.1 j _ _ (Co z hz) h3 iQ b HN
end
end Go.Proofs.YtoaflbnkiobhdaaGreat.Vm
namespace Go.Proofs.YtoaflbnkiobhdaaGreat.Vm
theorem C2 {w:World} :∀(ct:List CT) (r:List DC) (f:Nat→Option Value) (fp:List Nat),aq ct=true→aZ w ct r f fp→fp=[]
 | [],_,_,_,_,h=>by simp only[aZ] at h;exact h.2
 | c::cs,_,_,_,hf,h=>by
  simp only[aZ] at h
  obtain⟨d,r',v,f1,f2,rfl,_,h1,h2,rfl⟩:=h
  have h0:f1=[]∧aq cs=true:=by
   cases c with
   | int k=>simp only[bU] at h1;obtain⟨n,_,_,_,e⟩:=h1;exact⟨e,by simpa [aq] using hf⟩
   | bool=>simp only[bU] at h1;obtain⟨n,_,_,e⟩:=h1;exact⟨e,by simpa [aq] using hf⟩
   | str=>simp only[bU] at h1;obtain⟨n,_,_,_,e⟩:=h1;exact⟨e,by simpa [aq] using hf⟩
   | sl e=>simp [aq] at hf
  rw[h0.1,C2 cs _ _ _ h0.2 h2]
  rfl
theorem dC.flat {w:World} {ct:List CT} {rows:List (List DC)} {vals:List Value} {aA:List (List Nat)} (h:dC w ct rows vals aA) (hf:aq ct=true):aA.flatten=[]:=by
 rw[List.flatten_eq_nil_iff]
 intro l hl
 obtain⟨i,hi,rfl⟩:=List.getElem_of_mem hl
 have dI:i<rows.length:=by have:=h.1;omega
 exact C2 ct _ _ _ hf (h.2 i rows[i] aA[i] (by simp) (by simp))
theorem kt {w:World} {ct:List CT} {r:List (List DC)} {q:Option Addr} {m c:Nat} {fp:List Nat} (h:bU w (.sl ct) (.sl r) (.slice q m c) fp) (hp:0<ct.length):
  m=r.length∧∃(news:List Value) (aA:List (List Nat)),news.length=m*ct.length∧(q=none→m=0)∧(∀ad,q=some ad→∀j u,news[j]? =some u→w.cell? (ad.add j)=some u)∧(∀x∈news,x.oneCell'=true)∧
   dC w ct r news aA∧(∀b∈aA.flatten,b∈fp)∧(fp.Nodup→aA.flatten.Nodup):=by
 obtain⟨q',m',c',hv,hn,hc,hm,iG⟩:=c6 h
 injection hv with e1 e2 e3
 subst e1 e2 e3
 refine⟨hn.symm, ?_⟩
 rcases iG with ⟨h0,rfl⟩ | ⟨jw,b,o,aA,rfl,cl,eb,rfl,er⟩
 ·have hr:r=[]:=by simpa [h0] using hn
  subst hr
  exact⟨[],[],by simp [h0],fun _=>h0,by simp,by simp,dC.nil,by simp,by simp⟩
 ·have cellAt:∀j,j<m*ct.length→∃u,w.cell? ⟨b,o+j,none⟩=some u∧u.oneCell'=true:=by
   intro j hj
   have h1:j / ct.length<r.length:=by rw[hn];exact Nat.div_lt_of_lt_mul (by rw[Nat.mul_comm];exact hj)
   have h2:j % ct.length<ct.length:=Nat.mod_lt _ hp
   have hf:j / ct.length<aA.length:=by omega
   obtain⟨u,Bk,e1,e2,_⟩:=aZ.get _ _ _ _ (j % ct.length) ct[j % ct.length] (er (j / ct.length) r[j / ct.length] aA[j / ct.length] (by simp) (by simp)) (by simp)
   refine⟨u, ?_,e2.one⟩
   have:j / ct.length*ct.length+j % ct.length=j:=by rw[Nat.mul_comm];exact Nat.div_add_mod j ct.length
   rw[this] at e1
   exact e1
  refine⟨(List.range (m*ct.length)).map (fun j=>(w.cell? ⟨b,o+j,none⟩).getD undef),aA,by simp,by simp, ?_, ?_,⟨by omega, ?_⟩,fun x hx=>List.mem_cons_of_mem _ hx,fun hn=>(List.nodup_cons.1 hn).2⟩
  ·intro ad HM j u hj
   injection HM with HM
   subst HM
   rw[de]
   have He:j<m*ct.length:=by
    have:=(List.getElem?_eq_some_iff.1 hj).1
    simpa using this
   obtain⟨u',Cq,_⟩:=cellAt j He
   simp [He,Cq] at hj
   rw[Cq,hj]
  ·intro x hx
   simp only[List.mem_map,List.mem_range] at hx
   obtain⟨j,hj,rfl⟩:=hx
   obtain⟨u',Cq,ho⟩:=cellAt j hj
   rw[Cq]
   exact ho
  ·intro i r' f' hi hf
   refine bk.aZ.i7 ?_ (er i r' f' hi hf)
   intro j u hj A_
   have Ex:i<m:=by have:=(List.getElem?_eq_some_iff.1 hi).1;omega
   have:i*ct.length+j<m*ct.length:=by
    have:i*ct.length+ct.length≤m*ct.length:=by rw[←Nat.succ_mul];exact Nat.mul_le_mul_right _ Ex
    omega
   simp [this,A_]
section
variable {P:Program} {Γ:Ctx} {w0:World} {S:Own} {st:St} {o:Oper} {e:cF} {a:Act} {w:World}
variable {f:Nat→SV} {h:Nat→Option aj} {β:Env} {φ:Nat→List Nat} {tm:Array Value}
theorem run_append_nil (base:Nat) (t ty et:TypeId) (i:TypeInfo) (size:Nat) (ht:P.underlying t=some (.slice et)) (hi:P.info? et=some i)
  (v:Value) (n:Nat) (xs:List Value) (aY:w.ownsRow base et size v n xs) (c:Nat):(Builtin.append_ #[t,t] ty #[v,.slice none 0 c]).run P w= .ok v w:=by
 rcases aY.2 with ⟨rfl,rfl⟩ | ⟨g,cap,cur,rfl,_,_,AD,_⟩
 ·simp [Builtin.append_,run_underlying ht,sizeOf,typeInfo,hi,Builtin.lenOf,Builtin.firstCells]
 ·simp [Builtin.append_,run_underlying ht,sizeOf,typeInfo,hi,Builtin.lenOf,Builtin.firstCells,AD,storeCells]
theorem BJ {t:TypeId} {i:TypeInfo} {n:Nat} (hi:P.info? t=some i) (h:fb P t n=true):n*i.bytes≤140737488355328∧n≤maxLen:=by
 simp only[fb,hi,Bool.and_eq_true,decide_eq_true_eq] at h
 exact⟨h.1,by simp only[maxLen];omega⟩
theorem iM {t ty et:TypeId} {i:TypeInfo} {zv:Value} {ct:List CT} (ht:P.underlying t=some (.slice et)) (hi:P.info? et=some i) (hz:i.zero=some zv) (dm:i.size=ct.length) (KT:zv.cells.size=ct.length) (hp:0<ct.length)
  {v:Value} {n:Nat} {vals:List Value} (aY:cg w et ct.length false v n vals) {q:Option Addr} {m c:Nat} {news:List Value} (hl:news.length=m*ct.length) (hq:q=none→m=0)
  (ID:∀ad,q=some ad→∀j u,news[j]? =some u→w.cell? (ad.add j)=some u) (h1:∀x∈news,x.oneCell'=true) (ep:fb P et (n+m)=true):
  ∃v' w',(Builtin.append_ #[t,t] ty #[v,.slice q m c]).run P w= .ok v' w'∧cg w' et ct.length false v' (n+m) (vals++news)∧w.grownBy w' v.ownBlock∧(v'.ownBlock=v.ownBlock∨v'.ownBlock=some w.heap.size):=by
 obtain⟨hb,hm⟩:=BJ hi ep
 cases q with
 | none=>
  have Mg:=hq rfl
  subst Mg
  have hn:news=[]:=by simpa using hl
  subst hn
  exact⟨v,w,run_append_nil 0 t ty et i ct.length ht hi v n vals aY.owns c,by simpa using aY,⟨rfl,rfl,rfl,Nat.le_refl _,fun _ _ _=>rfl⟩,.inl rfl⟩
 | some ad=>
  obtain⟨v',w',hr,h2,h3,_,h5⟩:=run_append_own_at (P:=P) w 0 t ty et i zv ct.length i.bytes ht hi hz dm rfl KT hp v n vals aY.owns ad m c news hl (ID ad rfl) h1 hm hb (Nat.zero_le _)
  exact⟨v',w',hr,cg.HF h2,h3,h5⟩
theorem Kept.grown (hk:Kept S w0 w) {w':World} {row:Option Nat} (hg:w.grownBy w' row) (hr:∀b,row=some b→w0.heap.size≤b∨S b):Kept S w0 w':=
 ⟨hg.os.trans hk.os,hg.tape.trans hk.tape,hg.output.trans hk.output,Nat.le_trans hk.size hg.size,fun k h1 h2=>by
  rw[hg.block k (by have:=hk.size;omega) (fun e=>by rcases hr k e.symm with h | h;omega;exact h2 h)]
  exact hk.block k h1 h2⟩
mutual
theorem Cb:∀(a:CT),kz a a=true
 | .int k=>by simp [kz]
 | .bool=>rfl
 | .str=>rfl
 | .sl e=>by simp only[kz];exact ef e
theorem ef:∀(a:List CT),aF a a=true
 | []=>rfl
 | a::l=>by simp only[aF,Bool.and_eq_true];exact⟨Cb a,ef l⟩
end
theorem CE {ct:List CT} {s:SV} {q:List (List DC)×eJ×Bool} (hq:(kO ct s).val f h=some q):(eA (.sl ct) s).val f h=some (.sl q.1,q.2):=by
 unfold kO at hq
 split at hq
 ·simp only[M.aa,Option.some.injEq] at hq
  subst hq
  simp [eA]
 ·rename_i e' r
  cases hb:aF ct e'
  ·simp [hb] at hq
  ·simp only[hb,cond_true,M.aa,Option.some.injEq] at hq
   have:=aM _ _ hb
   subst this hq
   simp [eA,ef]
 ·rename_i id
  simp only[M.aS,Option.bind_eq_some_iff] at hq
  obtain⟨ob,aJ,hq⟩:=hq
  split at hq
  ·rename_i t' e' r fz u
   cases hb:aF ct e'
   ·simp [hb] at hq
   ·simp only[hb,cond_true,M.aa,Option.some.injEq] at hq
    have:=aM _ _ hb
    subst this hq
    simp [eA,aJ,ef]
  ·rename_i e' r
   cases hb:aF ct e'
   ·simp [hb] at hq
   ·simp only[hb,cond_true,M.aa,Option.some.injEq] at hq
    have:=aM _ _ hb
    subst this hq
    simp [eA,aJ,ef]
  ·simp at hq
 ·simp at hq
theorem jL (hc:Core w0 S f h β φ tm w) {ct:List CT} {s:SV} {v:Value} {q:List (List DC)×eJ×Bool} (hs:ak w (Av h β) β s v) (hq:(kO ct s).val f h=some q):
  ∃fp,bU w (.sl ct) (.sl q.1) v fp∧bR h q.2.1∧aN q.2.1=true∧(∀b∈fp,(¬Av h β b)∨∃x∈q.2.1,b∈eH h β x.1)∧
   (q.2.2=true→(∀b∈fp,∃x∈q.2.1,b∈φ x.1)∧fp.Nodup):=dn hc hs (CE hq)
theorem Di {ct:List CT} {m:eJ} (hm:bR h m) (hn:aN m=true):bR h (bif aq ct then [] else m)∧aN (bif aq ct then [] else m)=true:=by
 cases aq ct
 ·exact⟨hm,hn⟩
 ·exact⟨by simp [bR],rfl⟩
theorem kD {ct:List CT} {m:eJ} :(bif aq ct then [] else ai m)=ai (bif aq ct then [] else m):=by cases aq ct<;>rfl
theorem ko (hR:Rel w0 S st a w) {d:Nat} (aK:o.dst=some d) (hd:a_ st.n d) (bL:bu st d) {t et:TypeId} {s x:Operand} {c:Call} (ho:o.op= .call c) (hb:c.callee= .builtin .append) (cr:c.args= #[s,x])
  (FF:c.argTypes= #[t,t]) {sx:SV} {ct:List CT} {q:List (List DC)×eJ×Bool} {z:List SV} (h1:(bZ s).val st.get st.obj=some .nil) (h2:(bZ x).val st.get st.obj=some sx) (hu:P.underlying t=some (.slice et))
  (dm:aX P et ct.length=true) (hp:0<ct.length) (hz:(dA P et).val st.get st.obj=some z) (jA:z.length=ct.length) (hq:(kO ct sx).val st.get st.obj=some q) (ep:fb P et q.1.length=true)
  (eU:e.sv= .own (ag d 0)) (js:e.cw=none) (how:e.ow=(ag d 0,some (.row et ct q.1 false (aq ct || q.2.2)))::(bif aq ct then [] else ai q.2.1)):Good P w0 S st o e a w:=by
 obtain⟨i,hi,bq⟩:=aV dm
 obtain⟨i',zv,dI,mE,rfl,_⟩:=dk hz
 rw[hi] at dI
 injection dI with dI
 subst dI
 obtain⟨Jj,Jk,B2⟩:=hR.core
 obtain⟨MB,Hq,EF,Hg,_,_⟩:=jL B2 (B2.ev h2) hq
 obtain⟨Q,m,cc,GC,Mj,_,_,_⟩:=c6 Hq
 rw[GC] at Hq
 obtain⟨Iy,news,LM,Hl,HQ,hcell,ba,Mc,_,_⟩:=kt Hq hp
 have EK:=B2.ev h1
 simp only[ak] at EK
 have IM:cg w et ct.length false (.slice none 0 0) 0 []:=⟨by simp,.inl ⟨rfl,rfl,rfl⟩⟩
 obtain⟨v',w',bo,fP,c8,jo⟩:=iM (P:=P) (ty:=o.type) (c:=cc) hu hi mE bq (by simpa using jA) hp IM Hl HQ hcell ba (by rw[Iy,Nat.zero_add];exact ep)
 obtain⟨Gs,FO⟩:=Di (ct:=ct) EF Hg
 refine eP hR aK hd bL (m:=bif aq ct then [] else q.2.1) (fz:=false) (u:=aq ct || q.2.2) (vals:=news) (v:=v') (w':=w') ?_ (hR.kept.grown c8 (by simp [Value.ownBlock])) c8.size
  (fun b hb=>c8.block b hb (by simp [Value.ownBlock])) ?_ Gs FO ?_ ?_ eU js (by rw[how,kD])
 ·simp [execOp,ho,resolve,hb,cr,FF,invoke,builtin,EK,GC,bo]
 ·intro b ax
  rcases jo with h3 | h3
  ·rw[h3] at ax;simp [Value.ownBlock] at ax
  ·rw[h3] at ax;simpa using ax
 ·rw[←Iy]
  simpa using fP
 ·intro β φ hc
  obtain⟨fp,jU,kd,Ba,kX,Il⟩:=jL hc (hc.ev h2) hq
  rw[GC] at jU
  obtain⟨_,Jd,aA,IE,_,G5,_,c3,gU,Hm⟩:=kt jU hp
  have Ml:dC w ct q.1 news aA:=by
   refine⟨c3.1,fun k r' f' hk hf=> ?_⟩
   refine bk.aZ.i7 ?_ (c3.2 k r' f' hk hf)
   intro j u hj A_
   have Ip:k*ct.length+j<Jd.length:=(List.getElem?_eq_some_iff.1 A_).1
   cases Q with
   | none=>
    have:m=0:=HQ rfl
    subst this
    simp at IE
    simp [IE] at A_
   | some ad=>
    have e1:=G5 ad rfl _ _ A_
    have cl:k*ct.length+j<news.length:=by omega
    have e2:=hcell ad rfl (k*ct.length+j) news[k*ct.length+j] (by simp)
    rw[e1] at e2
    injection e2 with e2
    rw[List.getElem?_eq_getElem cl,←e2]
  refine⟨aA,Ml, ?_, ?_⟩
  ·intro b ax
   cases eb:aq ct with
   | true=>rw[c3.flat eb] at ax;simp at ax
   | false=>simpa using kX b (gU b ax)
  ·intro Cq
   cases eb:aq ct with
   | true=>rw[c3.flat eb];simp
   | false=>
    rw[eb,Bool.false_or] at Cq
    exact⟨fun b ax=>by simpa using (Il Cq).1 b (gU b ax),Hm (Il Cq).2⟩
theorem kp (hR:Rel w0 S st a w) {d:Nat} (aK:o.dst=some d) (hd:a_ st.n d) (bL:bu st d) {t et:TypeId} {s x:Operand} {c:Call} (ho:o.op= .call c) (hb:c.callee= .builtin .append) (cr:c.args= #[s,x])
  (FF:c.argTypes= #[t,t]) {id:Nat} {u:Bool} {r:List (List DC)} {sx:SV} {ct:List CT} {q:List (List DC)×eJ×Bool} {z:List SV} (h1:(bZ s).val st.get st.obj=some (.own id)) (h2:(bZ x).val st.get st.obj=some sx)
  (aJ:st.obj id=some (.row et ct r false u)) (hu:P.underlying t=some (.slice et))
  (dm:aX P et ct.length=true) (hp:0<ct.length) (hz:(dA P et).val st.get st.obj=some z) (jA:z.length=ct.length) (hq:(kO ct sx).val st.get st.obj=some q) (KA:bO id q.2.1=true)
  (ep:fb P et (r.length+q.1.length)=true) (eU:e.sv= .own (ag d 0)) (js:e.cw=none)
  (how:e.ow=(ag d 0,some (.row et ct (r++q.1) false (u && (aq ct || q.2.2))))::(id,none)::(bif aq ct then [] else ai q.2.1)):Good P w0 S st o e a w:=by
 obtain⟨i,hi,bq⟩:=aV dm
 obtain⟨i',zv,dI,mE,rfl,_⟩:=dk hz
 rw[hi] at dI
 injection dI with dI
 subst dI
 obtain⟨β,φ,hc⟩:=hR.core
 obtain⟨fp,jU,EF,Hg,kX,Il⟩:=jL hc (hc.ev h2) hq
 obtain⟨Q,m,cc,GC,Mj,_,_,_⟩:=c6 jU
 rw[GC] at jU
 obtain⟨Iy,news,mv,Hl,HQ,hcell,ba,jt,gU,Hm⟩:=kt jU hp
 obtain⟨Gs,FO⟩:=Di (ct:=ct) EF Hg
 have Kz:=gk KA
 have Bt:∀y∈(bif aq ct then [] else q.2.1),y.1≠id:=by
  cases aq ct
  ·exact Kz
  ·simp
 generalize hM:(bif aq ct then [] else q.2.1)=M' at Gs FO Bt
 have jr:=hc.gf M' Gs FO
 have gO:fo (ai M') st.obj id=some (.row et ct r false u):=by rw[bH Bt];exact aJ
 obtain⟨vals,aA,aY,c3,Hd,ki⟩:=jr.ay id _ gO
 have EK:=hc.ev h1
 simp only[ak] at EK
 obtain⟨v',w',bo,fP,c8,jo⟩:=iM (P:=P) (ty:=o.type) (c:=cc) hu hi mE bq (by simpa using jA) hp aY Hl HQ hcell ba (by rw[Iy];exact ep)
 have bC:ag d 0 / 64=d:=cK d 0 (by omega)
 have Io:id≠ag d 0:=fun e=>(bL.obj id _ aJ).1 (e ▸ bC)
 have fY:∀j,j≠ag d 0→(β.fE (ag d 0) v').val j=β.val j∧(β.fE (ag d 0) v').cS j=β.cS j:=by
  intro j hj
  exact⟨by simp [Env.fE,az,hj],rfl⟩
 have hval:(β.fE (ag d 0) v').val (ag d 0)=v':=by simp [Env.fE,az]
 have jx:=ah (jr.ay id _ gO)
 have bt:=jr.fresh id _ gO
 have FJ:=c3.lt
 have FL:=jt.lt
 have iB:∀b∈mv.flatten,¬Av (fo (ai M') st.obj) β b:=by
  intro b ax
  cases eb:aq ct with
  | true=>rw[jt.flat eb] at ax;simp at ax
  | false=>
   rw[eb,cond_false] at hM
   subst hM
   rcases kX b (gU b ax) with h3 | ⟨y,hy,A6⟩
   ·exact fun h4=>h3 (fK h4)
   ·exact dt hc Gs hy A6
 have Cn:(u && (aq ct || q.2.2))=true→∀b∈mv.flatten,∃y∈M',b∈φ y.1:=by
  intro gx b ax
  cases eb:aq ct with
  | true=>rw[jt.flat eb] at ax;simp at ax
  | false=>
   rw[eb,cond_false] at hM
   subst hM
   rw[eb,Bool.false_or,Bool.and_eq_true] at gx
   exact (Il gx.2).1 b (gU b ax)
 have IH:(u && (aq ct || q.2.2))=true→mv.flatten.Nodup:=by
  intro gx
  cases eb:aq ct with
  | true=>rw[jt.flat eb];simp
  | false=>
   rw[eb,Bool.false_or,Bool.and_eq_true] at gx
   exact Hm (Il gx.2).2
 have jv:∀j oj,az (az (fo (ai M') st.obj) id none) (ag d 0) (some (.row et ct (r++q.1) false (u && (aq ct || q.2.2)))) j=some oj→j≠ag d 0→j≠id∧fo (ai M') st.obj j=some oj:=by
  intro j oj hj lS
  simp only[az,lS,if_false] at hj
  split at hj
  ·cases hj
  ·exact⟨by assumption,hj⟩
 have gR:∀b,(β.val id).ownBlock=some b→b∈bl φ M' id:=fun b ax=>jx b (by simp [al,ax])
 have mZ:∀b∈v'.ownBlock.toList,b∈bl φ M' id∨b=w.heap.size:=by
  intro b ax
  rcases jo with h3 | h3
  ·rw[h3] at ax
   exact .inl (jx b (by simpa [al] using ax))
  ·rw[h3] at ax
   exact .inr (by simpa using ax)
 have Hy:u=true→∀b∈aA.flatten,b∈bl φ M' id:=by
  intro gx b ax
  rw[ki,gx]
  exact List.mem_append_right _ ax
 have Bv:∀b,b∈v'.ownBlock.toList++(bif (u && (aq ct || q.2.2)) then (aA++mv).flatten else [])→∀j oj,j≠id→fo (ai M') st.obj j=some oj→b ∉ bl φ M' j:=by
  intro b ax j oj hj iQ bn
  have lr:b∈bl φ M' id→False:=fun h3=>jr.sep id j _ _ (Ne.symm hj) gO iQ b h3 bn
  rcases List.mem_append.1 ax with ax | ax
  ·rcases mZ b ax with h3 | h3
   ·exact lr h3
   ·have:=((jr.fresh j oj iQ).2 b bn).2
    omega
  ·cases gx:(u && (aq ct || q.2.2)) with
   | false=>simp [gx] at ax
   | true=>
    simp only[gx,cond_true,List.flatten_append,List.mem_append] at ax
    rcases ax with ax | ax
    ·rw[Bool.and_eq_true] at gx
     exact lr (Hy gx.1 b ax)
    ·obtain⟨y,hy,A6⟩:=Cn gx b ax
     obtain⟨_,h3,_⟩:=Gs y hy
     by_cases Bq:∃k∈M',k.1=j
     ·rw[gM Bq] at bn
      simp at bn
     ·have Co:∀k∈M',k.1≠j:=fun k hk e=>Bq ⟨k,hk,e⟩
      rw[bH Co] at iQ
      rw[cV Co] at bn
      exact hc.sep y.1 j _ _ (Co y hy) h3 iQ b A6 bn
 have fA:∀b,b<w.heap.size→(β.val id).ownBlock≠some b→w'.heap[b]? =w.heap[b]? :=fun b ax cI=>c8.block b ax (fun e=>cI e.symm)
 have ka:∀b∈(aA++mv).flatten,¬Av (fo (ai M') st.obj) β b∧b<w.heap.size:=by
  intro b ax
  simp only[List.flatten_append,List.mem_append] at ax
  rcases ax with ax | ax
  ·exact⟨Hd b ax,FJ b ax⟩
  ·exact⟨iB b ax,FL b ax⟩
 have Az:∀b,Av (az (az (fo (ai M') st.obj) id none) (ag d 0) (some (.row et ct (r++q.1) false (u && (aq ct || q.2.2))))) (β.fE (ag d 0) v') b→Av (fo (ai M') st.obj) β b∨w.heap.size≤b:=by
  rintro b (⟨j,oj,hj,bn⟩ | hb)
  case inr=>exact .inl (.inr hb)
  by_cases b_:j=ag d 0
  ·subst b_
   simp only[az,if_true,Option.some.injEq] at hj
   subst hj
   simp only[al,hval] at bn
   rcases jo with h3 | h3
   ·rw[h3] at bn
    exact .inl (.inl ⟨id,_,gO,by simpa [al] using bn⟩)
   ·rw[h3] at bn
    right
    have:b=w.heap.size:=by simpa using bn
    omega
  ·obtain⟨_,fO⟩:=jv j oj hj b_
   refine .inl (.inl ⟨j,oj,fO, ?_⟩)
   cases oj<;>simp only[al,fY j b_] at bn ⊢ <;>exact bn
 refine bI hR (fun d' h'=>by rw[aK] at h';injection h' with h';exact h' ▸ hd) (v:=v') (w':=w') ?_ (hR.kept.grown c8 (fun b ax=>(bt.2 b (gR b ax)).1))
  ⟨β.fE (ag d 0) v',az (bl φ M') (ag d 0) (v'.ownBlock.toList++(bif (u && (aq ct || q.2.2)) then (aA++mv).flatten else [])), ?_, ?_⟩
 ·simp [execOp,ho,resolve,hb,cr,FF,invoke,builtin,EK.1,GC,bo]
 ·rw[how,js,kD,hM]
  show Core w0 S st.get (az (az (fo (ai M') st.obj) id none) (ag d 0) (some (.row et ct (r++q.1) false (u && (aq ct || q.2.2))))) _ _ _ _
  refine jr.step (fun j=>j=ag d 0) c8.size (fun b ax hn=>fA b ax (fun e=>hn (.inl ⟨id,_,gO,by simp [al,e]⟩))) Az
   (fun k j hj e=>bL.slot k j hj (by rw[e];exact bC)) fY ?_ ?_
  ·intro j oj hj
   by_cases b_:j=ag d 0
   ·subst b_
    have fO:=hj
    simp only[az,if_true,Option.some.injEq] at fO
    subst fO
    refine .inr ⟨?_, ?_, ?_⟩
    ·refine⟨vals++news,aA++mv, ?_, ?_, ?_, ?_⟩
     ·rw[hval]
      have:(r++q.1).length=r.length+m:=by simp [Iy]
      rw[this]
      exact fP
     ·exact (c3.append aY.1 jt).mono c8.size (fun b ax=>fA b (ka b ax).2 (fun e=>(ka b ax).1 (.inl ⟨id,_,gO,by simp [al,e]⟩)))
     ·intro b ax hx
      rcases Az b hx with h3 | h3
      ·exact (ka b ax).1 h3
      ·have:=(ka b ax).2
       omega
     ·rw[hval]
      simp [az]
    ·simp only[az,if_true]
     have AE:v'.ownBlock.toList.Nodup:=by cases v'.ownBlock<;>simp
     cases gx:(u && (aq ct || q.2.2)) with
     | false=>simpa using AE
     | true=>
      have Gy:u=true:=by rw[Bool.and_eq_true] at gx;exact gx.1
      have Hh:=bt.1
      rw[ki,Gy,cond_true,List.nodup_append] at Hh
      obtain⟨_,Hi,Iz⟩:=Hh
      have Ju:((aA++mv).flatten).Nodup:=by
       rw[List.flatten_append,List.nodup_append]
       refine⟨Hi,IH gx,fun b ax c' gN Ds=> ?_⟩
       subst Ds
       obtain⟨y,hy,A6⟩:=Cn gx b gN
       obtain⟨_,h3,_⟩:=Gs y hy
       have h4:=Hy Gy b ax
       rw[cV Bt] at h4
       exact hc.sep y.1 id _ _ (Bt y hy) h3 aJ b A6 h4
      rw[cond_true,List.nodup_append]
      refine⟨AE,Ju,fun b ax c' gN Ds=> ?_⟩
      subst Ds
      rcases jo with h3 | h3
      ·rw[h3] at ax
       exact (ka b gN).1 (.inl ⟨id,_,gO,by simpa [al] using ax⟩)
      ·rw[h3] at ax
       have h4:b=w.heap.size:=by simpa using ax
       have:=(ka b gN).2
       omega
    ·simp only[az,if_true]
     intro b ax
     rcases List.mem_append.1 ax with ax | ax
     ·rcases mZ b ax with h3 | h3
      ·have:=bt.2 b h3
       exact⟨this.1,by have:=c8.size;omega⟩
      ·subst h3
       refine⟨.inl hR.kept.size,fP.lt _ ax⟩
     ·cases gx:(u && (aq ct || q.2.2)) with
      | false=>simp [gx] at ax
      | true=>
       simp only[gx,cond_true,List.flatten_append,List.mem_append] at ax
       have Mr:=c8.size
       rcases ax with ax | ax
       ·have Gy:u=true:=by rw[Bool.and_eq_true] at gx;exact gx.1
        have:=bt.2 b (Hy Gy b ax)
        exact⟨this.1,by omega⟩
       ·obtain⟨y,hy,A6⟩:=Cn gx b ax
        obtain⟨_,h3,_⟩:=Gs y hy
        have:=(hc.fresh y.1 _ h3).2 b A6
        exact⟨this.1,by omega⟩
   ·obtain⟨gg,fO⟩:=jv j oj hj b_
    refine .inl ⟨b_,fO,by simp [az,b_], ?_, ?_⟩
    ·intro k hk e
     rcases dq fO with h3 | ⟨e',r',rfl,_⟩
     ·exact (bL.obj j oj h3).2 k hk (by rw[e];exact bC)
     ·simp [cB] at hk
    ·intro b ax
     have fj:=ah (jr.ay j oj fO) b ax
     refine fA b ((jr.fresh j oj fO).2 b fj).2 (fun e=> ?_)
     exact jr.sep id j _ _ (Ne.symm gg) gO fO b (gR b e) fj
  ·intro k j ok oj cI hk hj b ax
   by_cases Hf:k=ag d 0
   ·subst Hf
    have lS:j≠ag d 0:=Ne.symm cI
    obtain⟨gg,fO⟩:=jv j oj hj lS
    simp only[az,if_true] at ax
    simp only[az,lS,if_false]
    exact Bv b ax j oj gg fO
   ·obtain⟨mW,Cl⟩:=jv k ok hk Hf
    simp only[az,Hf,if_false] at ax
    by_cases b_:j=ag d 0
    ·subst b_
     simp only[az,if_true]
     exact fun h3=>Bv b h3 k ok mW Cl ax
    ·obtain⟨gg,fO⟩:=jv j oj hj b_
     simp only[az,b_,if_false]
     exact jr.sep k j ok oj cI Cl fO b ax
 ·rw[eU]
  unfold ak
  exact⟨hval.symm,fP.one⟩
end
end Go.Proofs.YtoaflbnkiobhdaaGreat.Vm
namespace Go.Proofs.YtoaflbnkiobhdaaGreat.Vm
theorem BH:∀(ns:List Int) (l:List UInt8),ns.foldl (fun (r:ByteArray) n=>r.push (UInt8.ofNat n.toNat)) ⟨l.toArray⟩=⟨(l++ns.map (fun n=>UInt8.ofNat n.toNat)).toArray⟩
 | [],l=>by simp
 | n::ns,l=>by
  simp only[List.foldl_cons,List.map_cons]
  have:(⟨l.toArray⟩:ByteArray).push (UInt8.ofNat n.toNat)=⟨(l++[UInt8.ofNat n.toNat]).toArray⟩:=by
   apply ByteArray.ext
   simp [ByteArray.push]
  rw[this,BH ns]
  simp
section
variable {P:Program} {Γ:Ctx} {w0:World} {S:Own} {st:St} {o:Oper} {e:cF} {a:Act} {w:World}
variable {f:Nat→SV} {h:Nat→Option aj} {β:Env} {φ:Nat→List Nat} {tm:Array Value}
theorem AW {rows:List (List DC)} {v:Value} {fp:List Nat} (hr:bU w (.sl [.int .u8]) (.sl rows) v fp):
  (Conv.bytesToString v).run P w= .ok (.string ⟨(rows.map byteOf).toArray⟩) w:=by
 obtain⟨q,m,c,rfl,hn,_,_,iG⟩:=c6 hr
 cases q with
 | none=>
  have hm:m=0:=by
   rcases iG with ⟨h0,_⟩ | ⟨_,b,o,aA,h1,_⟩
   ·exact h0
   ·cases h1
  have:rows=[]:=by simpa [hm] using hn
  subst this
  simp [Conv.bytesToString]
  rfl
 | some ad=>
  have Iv:(loadCells ad m).run P w= .ok ((rows.map fun r=>(r.headD default).asInt).map (Value.int .u8)).toArray w:=by
   have:=run_loadCells_list (P:=P) (w:=w) ad ((rows.map fun r=>(r.headD default).asInt).map (Value.int .u8)) ?_
   ·simpa [hn] using this
   ·intro j u hj
    rcases iG with ⟨h0,_⟩ | ⟨_,b,o,aA,h1,cl,eb,_,er⟩
    ·have:rows=[]:=by simpa [h0] using hn
     subst this
     simp at hj
    ·injection h1 with h1
     subst h1
     rw[de]
     have He:j<rows.length:=by
      have:=(List.getElem?_eq_some_iff.1 hj).1
      simpa using this
     have ME:j<aA.length:=by omega
     have:=er j rows[j] aA[j] (by simp) (by simp)
     simp only[aZ,bU,List.length_singleton,Nat.mul_one,Nat.add_zero] at this
     obtain⟨d,r',v',f1,f2,e1,e2,⟨n,rfl,rfl,_,_⟩,⟨rfl,_⟩,_⟩:=this
     rw[e2]
     simp only[List.map_map,List.getElem?_map,List.getElem?_eq_getElem He,e1,Option.map_some,Option.some.injEq] at hj
     simpa [DC.asInt] using hj
  rw[run_bytesToString w ad m c _ Iv]
  have:=BH (rows.map fun r=>(r.headD default).asInt) []
  have e0:ByteArray.empty=⟨([]:List UInt8).toArray⟩:=rfl
  rw[e0,this]
  simp [byteOf,Function.comp_def]
theorem CM (hR:Rel w0 S st a w) (hd:∀d,o.dst=some d→a_ st.n d) (bL:e.ow≠[]→∀d,o.dst=some d→bu st d) {s t:TypeId} {x:Operand} (ho:o.op= .convert s t x) {sx:SV}
  (h1:(bZ x).val st.get st.obj=some sx) (he:(D_ P o.dst s t sx).val st.get st.obj=some e):Good P w0 S st o e a w:=by
 unfold D_ at he
 split at he
 ·rename_i k src hk hs
  split at he
  ·rename_i k' n
   simp only[M.aa,Option.some.injEq] at he
   subst he
   refine ao hR hd rfl rfl fun β φ hc=> ?_
   have hx:=hc.ev h1
   simp only[ak] at hx
   refine⟨.int k (k.wrap n), ?_,by unfold ak;exact⟨rfl,eZ _ _⟩⟩
   simp [execOp,ho,hx.1,convert,run_underlying hk,run_underlying hs,Conv.intToInt]
  ·simp at he
 ·rename_i hk hs
  split at he
  ·rename_i l
   simp only[M.aa,Option.some.injEq] at he
   subst he
   refine ao hR hd rfl rfl fun β φ hc=> ?_
   have hx:=hc.ev h1
   simp only[ak] at hx
   refine⟨.string ⟨l.toArray⟩, ?_,by unfold ak;exact⟨rfl,hx.2⟩⟩
   simp [execOp,ho,hx.1,convert,run_underlying hk,run_underlying hs]
  ·simp at he
 ·rename_i et hk hs
  split at he
  ·rename_i het
   simp only[M.ae,Option.bind_eq_some_iff,M.aa,Option.some.injEq] at he
   obtain⟨q,hq,rfl⟩:=he
   refine ao hR hd rfl rfl fun β φ hc=> ?_
   obtain⟨fp,jU,_⟩:=jL hc (hc.ev h1) hq
   have bo:=AW (P:=P) jU
   obtain⟨qa,m,c,hv,hn,AA,hm,_⟩:=c6 jU
   refine⟨.string ⟨(q.1.map byteOf).toArray⟩, ?_,by unfold ak;exact⟨rfl,by simp;omega⟩⟩
   rw[hv] at bo
   have:=run_convert_bytes_string (P:=P) w s t et qa m c hs het hk
   simp [execOp,ho,hv,this,bo]
  ·simp at he
 ·rename_i et hk hs
  split at he
  ·rename_i l d het aK
   cases hz:aX P et 1
   ·simp [hz] at he
   simp only[hz,cond_true,M.aa,Option.some.injEq] at he
   subst he
   obtain⟨Jj,Jk,B2⟩:=hR.core
   have hx:=B2.ev h1
   simp only[ak] at hx
   have hlen:l.length≤9223372036854775807:=by have:=hx.2;simp only[maxLen] at this;omega
   generalize kW:Question.cut (.appendCap l.length 0 et) (w.tape w.drawn (.appendCap l.length 0 et))=cap
   have Ie:l.length≤cap:=by rw[←kW];simp [Question.cut]
   have Ig:cap≤maxLen:=by
    rw[←kW]
    simp only[Question.cut,maxLen]
    have:=Nat.mod_lt (w.tape w.drawn (.appendCap l.length 0 et)) (show 0<2 ^ 63 - l.length by omega)
    omega
   let cells:Array Value:=(l.map fun b=>Value.int .u8 b.toNat).toArray++Array.replicate (cap - l.length) (.int .u8 0)
   have fh:cells.size=cap:=by simp [cells];omega
   have HR:∀b,b<w.heap.size→(World.freeze (w.drew.alloc (.cells cells et)) ⟨w.heap.size,cap,none⟩ 1).heap[b]? =w.heap[b]? :=by
    intro b hb
    simp only[World.freeze,Nat.one_ne_zero,if_false,Array.getElem?_modify]
    rw[if_neg (by omega)]
    exact alloc_old (w:=w.drew) _ b hb
   have bC:(World.freeze (w.drew.alloc (.cells cells et)) ⟨w.heap.size,cap,none⟩ 1).heap[w.heap.size]? =some (.cells cells et (cells.size,cells.size+1)):=by
    simp only[World.freeze,Nat.one_ne_zero,if_false,Array.getElem?_modify,if_true]
    have:=dX (w:=w.drew) (.cells cells et)
    have e1:w.drew.heap.size=w.heap.size:=rfl
    rw[e1] at this
    rw[this]
    simp [fh]
   have Bu:(World.freeze (w.drew.alloc (.cells cells et)) ⟨w.heap.size,cap,none⟩ 1).heap.size=w.heap.size+1:=by simp [World.freeze]
   refine eP hR aK (hd d aK) (bL (by simp) d aK) (m:=[]) (fz:=true) (u:=true) (vals:=l.map fun b=>Value.int .u8 b.toNat) (v:= .slice (some ⟨w.heap.size,0,none⟩) l.length cap)
    (w':=World.freeze (w.drew.alloc (.cells cells et)) ⟨w.heap.size,cap,none⟩ 1) ?_ ?_ (by rw[Bu];omega) HR (by simp [Value.ownBlock]) (by simp [bR]) rfl ?_ ?_ rfl rfl rfl
   ·have AH:(w.drew.alloc (.cells cells et)).shape? w.heap.size=some (et,cap):=by
     have:=dX (w:=w.drew) (.cells cells et)
     have e1:w.drew.heap.size=w.heap.size:=rfl
     rw[e1] at this
     unfold World.shape?
     rw[this]
     simp [fh]
    simp only[execOp,ho,hx.1,convert,Sem.run_bind,run_underlying hk,run_underlying hs,run_underlying het,Result.andThen_ok,Conv.stringToBytes,run_choose]
    simp only[Question.forced,Bool.false_eq_true,if_false,Result.andThen_ok,dj,kW,newRow,Sem.run_bind,run_newObj,World.drew_eq,World.alloc_eq]
    have AA:(Array.map (fun b:UInt8=>Value.int IntKind.u8 ↑b.toNat) l.toArray++Array.replicate (cap - l.length) (Value.int IntKind.u8 0))=cells:=by simp [cells]
    rw[AA]
    simp [markStringish,AH]
   ·refine⟨hR.kept.os,hR.kept.tape,hR.kept.output,by rw[Bu];have:=hR.kept.size;omega,fun k h2 h3=> ?_⟩
    rw[HR k (by have:=hR.kept.size;omega)]
    exact hR.kept.block k h2 h3
   ·refine⟨by simp,.inr ⟨w.heap.size,cap,cells,by simp,by simpa using bC,by simpa using Ie,Ig,by simp [fh], ?_⟩⟩
    simp [cells]
   ·intro β φ hc
    refine⟨List.replicate l.length [],⟨by simp,fun i r' f' hi hf=> ?_⟩,by simp,by simp⟩
    have Ex:i<l.length:=by
     have:=(List.getElem?_eq_some_iff.1 hi).1
     simpa using this
    have EJ:r'=cO l[i]:=by simpa [Ex] using hi.symm
    have A8:f'=[]:=by
     have:=hf
     rw[List.getElem?_replicate,if_pos Ex] at this
     injection this with this
     exact this.symm
    subst EJ A8
    unfold cO
    simp only[aZ,bU]
    refine⟨.int l[i].toNat,[],.int .u8 l[i].toNat,[],[],rfl, ?_,⟨_,rfl,rfl, ?_,rfl⟩,⟨rfl,rfl⟩,rfl⟩
    ·simp [Ex]
    ·rw[ec]
     have h1:IntKind.u8.min=0:=by decide
     have h2:IntKind.u8.max=255:=by decide
     have:=l[i].toNat_lt
     omega
  ·simp at he
 ·simp at he
end
end Go.Proofs.YtoaflbnkiobhdaaGreat.Vm
set_option linter.unusedVariables false
set_option linter.unusedSimpArgs false
namespace Go.Proofs.YtoaflbnkiobhdaaGreat.Vm
def FA (w:World) (k:AK) (ds:List DC) (v:Value) (fp:List Nat):Prop:=
 ∃vs:List Value,(bif k.agg then v= .agg vs.toArray else (vs=[v]∧v.oneCell'=true))∧(∀x∈vs,x.oneCell'=true)∧aZ w k.bz ds (fun j=>vs[j]?) fp∧vs.length=k.bz.length
def dc (w:World):List AK→List DC→List Value→List Nat→Prop
 | [],ds,vs,fp=>ds=[]∧vs=[]∧fp=[]
 | k::ks,ds,vs,fp=>∃d1 d2 v cJ f1 f2,ds=d1++d2∧vs=v::cJ∧FA w k d1 v f1∧dc w ks d2 cJ f2∧fp=f1++f2
def c_ (w:World):List RC→List DC→List Value→List Nat→List Nat→List Nat→Prop
 | [],ds,vs,φ,im,tp=>ds=[]∧vs=[]∧φ=[]∧im=[]∧tp=[]
 | .dV c::cs,ds,vs,φ,im,tp=>∃d aW v cJ f1 EU,ds=d::aW∧vs=v::cJ∧bU w c d v f1∧c_ w cs aW cJ φ EU tp∧im=f1++EU
 | .own t e::cs,ds,vs,φ,im,tp=>∃rows aW v cJ vals aA φ' A4,ds= .sl rows::aW∧vs=v::cJ∧cg w t e.length false v rows.length vals∧dC w e rows vals aA∧
   c_ w cs aW cJ φ' im A4∧φ=(v.ownBlock.toList++aA.flatten)++φ'∧tp=v.ownBlock.toList++A4
 | .deep t e ts::cs,ds,vs,φ,im,tp=>∃rows aW v cJ vals aR φ' A4,ds= .sl rows::aW∧vs=v::cJ∧cg w t e.length false v rows.length vals∧bG w e ts rows vals (fun _=>none) aR∧
   c_ w cs aW cJ φ' im A4∧φ=(v.ownBlock.toList++aR.flatten)++φ'∧tp=(v.ownBlock.toList++aR.flatten)++A4
def eW (w:World):List RK→List DC→List Value→List Nat→List Nat→List Nat→Prop
 | [],ds,vs,φ,im,tp=>ds=[]∧vs=[]∧φ=[]∧im=[]∧tp=[]
 | k::ks,ds,vs,φ,im,tp=>∃d1 d2 v cJ us DK A5 i1 i2 t1 t2,ds=d1++d2∧vs=v::cJ∧(bif k.agg then v= .agg us.toArray else us=[v])∧(∀x∈us,x.oneCell'=true)∧c_ w k.cells d1 us DK i1 t1∧
   eW w ks d2 cJ A5 i2 t2∧φ=DK++A5∧im=i1++i2∧tp=t1++t2
def pack:List Value→Value
 | [x]=>x
 | l=> .tuple l.toArray
def DV (P:Program) (g:Nat) (s:Sum):Prop:=
 (∃fn,P.funcs[g]? =some fn∧fn.body.isSome=true∧(fn.name== "runtime.NumGoroutine")=false)∧
 ∀(w:World) (ds:List DC) (vals:List Value) (fp:List Nat),dc w s.ps ds vals fp→(s.fn ds).1=true→
  Calls P g vals.toArray w fun e w'=>∃vs φ im tp,e= .returned (pack vs)∧Kept Own.none w w'∧eW w' s.rs (s.fn ds).2 vs φ im tp∧φ.Nodup∧
   (∀b∈φ,w.heap.size≤b∧b<w'.heap.size)∧∀b∈im,(b∈fp∨w.heap.size≤b)∧b ∉ tp
def c7 (w:World):List CT→List TypeId→List DC→List Value→List Nat→Prop
 | [],ts,ds,us,mb=>ts=[]∧ds=[]∧us=[]∧mb=[]
 | .sl e::cs,ts,ds,us,mb=>∃t dB rows aW v aL vals aA fQ,ts=t::dB∧ds= .sl rows::aW∧us=v::aL∧aq e=true∧cg w t e.length false v rows.length vals∧dC w e rows vals aA∧
   c7 w cs dB aW aL fQ∧mb=v.ownBlock.toList++fQ
 | c::cs,ts,ds,us,mb=>∃d aW v aL,ds=d::aW∧us=v::aL∧bU w c d v []∧c7 w cs ts aW aL mb
def gB (w:World) (t:TT) (e:List CT) (rows:List (List DC)) (v:Value) (mb:List Nat):Prop:=
 match t with
 | .flat t=>aq e=true∧∃vals aA,cg w t e.length false v rows.length vals∧dC w e rows vals aA∧mb=v.ownBlock.toList
 | .deep t its=>∃vals aR,cg w t e.length false v rows.length vals∧bG w e its rows vals (fun _=>none) aR∧mb=v.ownBlock.toList++aR.flatten
def aQ (w:World):List CT→List TT→List DC→List Value→List Nat→Prop
 | [],ts,ds,us,mb=>ts=[]∧ds=[]∧us=[]∧mb=[]
 | .sl e::cs,ts,ds,us,mb=>∃t dB rows aW v aL m1 fQ,ts=t::dB∧ds= .sl rows::aW∧us=v::aL∧gB w t e rows v m1∧aQ w cs dB aW aL fQ∧mb=m1++fQ
 | c::cs,ts,ds,us,mb=>∃d aW v aL,ds=d::aW∧us=v::aL∧bU w c d v []∧aQ w cs ts aW aL mb
def iJ (w:World):List CT→List TT→List DC→List Value→List Nat→Prop
 | [],_,ds,us,mb=>ds=[]∧us=[]∧mb=[]
 | .sl e::cs,ts,ds,us,mb=>∃t dB rows aW v aL m1 fQ,ts=t::dB∧ds= .sl rows::aW∧us=v::aL∧gB w t e rows v m1∧iJ w cs dB aW aL fQ∧mb=m1++fQ
 | _::cs,ts,ds,us,mb=>∃v aL,us=v::aL∧iJ w cs ts ds aL mb
def fZ (w:World) (k:AK):Option MK→List DC→Value→List Nat→List Nat→Prop
 | none,d,v,f,b=>FA w k d v f∧b=[]
 | some (.box t),d,v,f,b=>∃(g:Nat) (us:List Value),v= .pointer (some ⟨g,0,none⟩)∧w.heap[g]? =some (.cells us.toArray t (0,0))∧(∀x∈us,x.oneCell'=true)∧aZ w k.bz d (fun j=>us[j]?) f∧us.length=k.bz.length∧b=[g]
 | some (.rows ts),d,v,f,b=>∃us:List Value,(bif k.agg then v= .agg us.toArray else (us=[v]∧v.oneCell'=true))∧(∀x∈us,x.oneCell'=true)∧aQ w k.bz ts d us b∧f=[]
 | some (.jl ts),d,v,f,b=>∃us:List Value,(bif k.agg then v= .agg us.toArray else (us=[v]∧v.oneCell'=true))∧(∀x∈us,x.oneCell'=true)∧aQ w k.bz ts d us b∧f=[]
 | some (.cH t ts),d,v,f,b=>∃(g:Nat) (us:List Value) (m:List Nat),v= .pointer (some ⟨g,0,none⟩)∧w.heap[g]? =some (.cells us.toArray t (0,0))∧(∀x∈us,x.oneCell'=true)∧aQ w k.bz ts d us m∧b=g::m∧f=[]
def cG (w:World):List AK→List (Option MK)→List DC→List Value→List Nat→List Nat→Prop
 | [],ms,ds,vs,fp,mb=>ms=[]∧ds=[]∧vs=[]∧fp=[]∧mb=[]
 | k::ks,ms,ds,vs,fp,mb=>∃m DS d1 d2 v cJ f1 f2 b1 b2,ms=m::DS∧ds=d1++d2∧vs=v::cJ∧fZ w k m d1 v f1 b1∧cG w ks DS d2 cJ f2 b2∧fp=f1++f2∧mb=b1++b2
def Dl (w:World) (k:AK):Option MK→List DC→Value→List Nat→List Nat→Prop
 | none,d,_,im,b=>d=[]∧im=[]∧b=[]
 | some (.box t),d,v,im,b=>∃(g:Nat) (us:List Value),v= .pointer (some ⟨g,0,none⟩)∧w.heap[g]? =some (.cells us.toArray t (0,0))∧(∀x∈us,x.oneCell'=true)∧aZ w k.bz d (fun j=>us[j]?) im∧us.length=k.bz.length∧b=[g]
 | some (.rows ts),d,v,im,b=>∃us:List Value,(bif k.agg then v= .agg us.toArray else us=[v])∧iJ w k.bz ts d us b∧im=[]
 | some (.jl _),d,_,im,b=>d=[]∧im=[]∧b=[]
 | some (.cH t ts),d,v,im,b=>∃(g:Nat) (us:List Value) (m:List Nat),v= .pointer (some ⟨g,0,none⟩)∧w.heap[g]? =some (.cells us.toArray t (0,0))∧(∀x∈us,x.oneCell'=true)∧aQ w k.bz ts d us m∧b=g::m∧im=[]
def ly (w:World):List AK→List (Option MK)→List DC→List Value→List Nat→List Nat→Prop
 | [],_,ds,vs,im,mb=>ds=[]∧vs=[]∧im=[]∧mb=[]
 | k::ks,ms,ds,vs,im,mb=>∃m DS d1 d2 v cJ i1 i2 b1 b2,ms=m::DS∧ds=d1++d2∧vs=v::cJ∧Dl w k m d1 v i1 b1∧ly w ks DS d2 cJ i2 b2∧im=i1++i2∧mb=b1++b2
def B8 (P:Program) (g:Nat) (s:Sum):Prop:=
 (∃fn,P.funcs[g]? =some fn∧fn.body.isSome=true∧(fn.name== "runtime.NumGoroutine")=false)∧
 ∀(w:World) (ds:List DC) (vals:List Value) (fp mb:List Nat),cG w s.ps s.ms ds vals fp mb→mb.Nodup→(∀b∈mb,b ∉ fp)→(s.fn ds).1=true→
  Calls P g vals.toArray w fun e w'=>∃vs φ im tp mo rd od ψ,e= .returned (pack vs)∧(s.fn ds).2=rd++od∧rd.length=cf s.rs∧Kept ⟨fun b=>b∈mb,fun _=>False,[]⟩ w w'∧eW w' s.rs rd vs φ im tp∧φ.Nodup∧
   (∀b∈φ,(b∈mb∨w.heap.size≤b)∧b<w'.heap.size)∧ly w' s.ps s.ms od vals mo ψ∧ψ.Nodup∧(∀b∈ψ,(b∈mb∨w.heap.size≤b)∧b<w'.heap.size∧b ∉ φ)∧∀b∈mo,(b∈fp∨w.heap.size≤b)∧b ∉ tp∧b ∉ ψ∧eI s.ms=false
def GN (P:Program) (g:Nat) (s:Sum) (t:TypeId) (bz:List CT):Prop:=
 (∃fn,P.funcs[g]? =some fn∧fn.body.isSome=true∧(fn.name== "runtime.NumGoroutine")=false)∧
 ∀(w:World) (ds:List DC) (vals:List Value) (fp:List Nat),dc w s.ps ds vals fp→(s.fn ds).1=true→
  Calls P g vals.toArray w fun e w'=>∃(b:Nat) (us:List Value) (im:List Nat),e= .returned (.pointer (some ⟨b,0,none⟩))∧Kept Own.none w w'∧w.heap.size≤b∧b<w'.heap.size∧
   w'.heap[b]? =some (.cells us.toArray t (0,0))∧(∀x∈us,x.oneCell'=true)∧aZ w' bz (s.fn ds).2 (fun j=>us[j]?) im∧us.length=bz.length∧∀x∈im,(x∈fp∨w.heap.size≤x)∧x≠b
def gC (P:Program) (g:Nat) (s:Sum):Prop:=
 bif s.GP then True else
 match s.pt with
 | some (t,bz)=>GN P g s t bz
 | none=>
  match s.ms with
  | []=>DV P g s
  | _::_=>B8 P g s
def bD (P:Program) (Γ:Ctx):Prop:=∀g s,FZ Γ g=some s→gC P g s
section
variable {P:Program} {Γ:Ctx} {w0:World} {S:Own} {st:St} {o:Oper} {e:cF} {a:Act} {w:World}
variable {f:Nat→SV} {h:Nat→Option aj} {β:Env} {φ:Nat→List Nat} {tm:Array Value}
theorem lC (hc:Core w0 S f h β φ tm w):∀(ks:List AK) (ss:List SV) (vs:List Value) (q:List DC×eJ),af w (Av h β) β ss vs→(je ks ss).val f h=some q→
  ∃fp,dc w ks q.1 vs fp∧bR h q.2∧∀b∈fp,(¬Av h β b)∨∃x∈q.2,b∈eH h β x.1
 | [],[],vs,q,hs,hq=>by
  simp only[je,M.aa,Option.some.injEq] at hq
  subst hq
  simp only[af] at hs
  exact⟨[],⟨rfl,hs,rfl⟩,by simp [bR],by simp⟩
 | [],_::_,vs,q,hs,hq=>by simp [je] at hq
 | _::_,[],vs,q,hs,hq=>by simp [je] at hq
 | k::ks,s::ss,vs,q,hs,hq=>by
  simp only[af] at hs
  obtain⟨v,l,rfl,h1,h2⟩:=hs
  simp only[je,M.ae,Option.bind_eq_some_iff,M.aa,Option.some.injEq] at hq
  obtain⟨q1,aG,q2,cu,rfl⟩:=hq
  obtain⟨gb,Dr,C6,iB⟩:=lC hc ks ss l q2 h2 cu
  have one:∃lh,FA w k q1.1 v lh∧bR h q1.2.1∧∀b∈lh,(¬Av h β b)∨∃x∈q1.2.1,b∈eH h β x.1:=by
   cases hk:k.agg with
   | true=>
    cases s with
    | agg cs=>
     simp only[hk] at aG
     simp only[ak] at h1
     obtain⟨us,rfl,fX,ba⟩:=h1
     obtain⟨lh,hr,hm,cN,_⟩:=dR hc k.bz cs us q1 fX aG
     have hl:=af.length _ _ fX
     have jT:=cC _ _ _ aG
     exact⟨lh,⟨us,by rw[hk];rfl,ba,hr,by omega⟩,hm,cN⟩
    | _=>simp [hk] at aG
   | false=>
    have kZ:(ca k.bz [s]).val f h=some q1:=by
     cases s<;>simp only[hk] at aG<;>first | exact aG | (simp at aG)
    have gS:af w (Av h β) β [s] [v]:=by simp only[af];exact⟨v,[],rfl,h1,rfl⟩
    obtain⟨lh,hr,hm,cN,_⟩:=dR hc k.bz [s] [v] q1 gS kZ
    have jT:=cC _ _ _ kZ
    have ba:v.oneCell'=true:=by
     cases Er:k.bz with
     | nil=>rw[Er] at jT;simp at jT
     | cons c cs=>
      rw[Er] at hr
      simp only[aZ] at hr
      obtain⟨d,r',v',f1,f2,_,h0,h3,_⟩:=hr
      simp at h0
      subst h0
      exact h3.one
    exact⟨lh,⟨[v],by rw[hk];exact⟨rfl,ba⟩,by simpa using ba,hr,by simpa using jT⟩,hm,cN⟩
  obtain⟨lh,Gi,FM,jn⟩:=one
  refine⟨lh++gb,⟨q1.1,q2.1,v,l,lh,gb,rfl,rfl,Gi,Dr,rfl⟩,eO FM C6, ?_⟩
  intro b hb
  rcases List.mem_append.1 hb with hb | hb
  ·rcases jn b hb with h3 | ⟨x,hx,h3⟩
   ·exact .inl h3
   ·exact .inr ⟨x,List.mem_append_left _ hx,h3⟩
  ·rcases iB b hb with h3 | ⟨x,hx,h3⟩
   ·exact .inl h3
   ·exact .inr ⟨x,List.mem_append_right _ hx,h3⟩
structure ar where
 id:Nat
 t:TypeId
 e:List CT
 rows:List (List DC)
 v:Value
 aA:List (List Nat)
 ts:Option (List TypeId)
def ar.obj (x:ar):aj:=
 match x.ts with
 | none=> .row x.t x.e x.rows false true
 | some ts=> .deep x.t x.e ts x.rows none
def ar.bA (x:ar):List Nat:=x.v.ownBlock.toList++x.aA.flatten
def ar.al (x:ar):List Nat:=
 match x.ts with
 | none=>x.v.ownBlock.toList
 | some _=>x.bA
def ar.ok (w:World) (x:ar):Prop:=
 match x.ts with
 | none=>∃vals,cg w x.t x.e.length false x.v x.rows.length vals∧dC w x.e x.rows vals x.aA
 | some ts=>∃vals,cg w x.t x.e.length false x.v x.rows.length vals∧bG w x.e ts x.rows vals (fun _=>none) x.aA
theorem ar.ah (x:ar):∀b∈x.al,b∈x.bA:=by
 intro b hb
 unfold ar.al at hb
 split at hb
 ·exact List.mem_append_left _ hb
 ·exact hb
theorem ar.iA (x:ar) {β:Env} (hv:β.val x.id=x.v) (hn:β.nb x.id=x.aA.flatten):Vm.al β x.id x.obj=x.al:=by
 unfold ar.obj ar.al
 cases x.ts with
 | none=>simp [Vm.al,hv]
 | some ts=>simp [Vm.al,hv,hn,ar.bA]
theorem ar.ids (x:ar):cB x.obj=[]:=by
 unfold ar.obj
 cases x.ts<;>rfl
theorem ar.Jf {w:World} {x:ar} (h:x.ok w) {av:Nat→Prop} {β:Env} (hv:β.val x.id=x.v) (hn:β.nb x.id=x.aA.flatten) (ha:∀b∈x.aA.flatten,b ∉ x.al→¬av b) (hd:x.bA.Nodup):fH w av β x.id x.obj x.bA:=by
 unfold ar.ok at h
 unfold ar.obj
 cases Fv:x.ts with
 | none=>
  rw[Fv] at h
  obtain⟨vals,h1,h2⟩:=h
  refine⟨vals,x.aA,by rw[hv];exact h1,h2,fun b hb=>ha b hb ?_,by rw[hv];rfl⟩
  unfold ar.al
  rw[Fv]
  intro ax
  unfold ar.bA at hd
  rw[List.nodup_append] at hd
  exact hd.2.2 b ax b hb rfl
 | some ts=>
  rw[Fv] at h
  obtain⟨vals,h1,h2⟩:=h
  exact⟨vals,x.aA,by rw[hv];exact h1,h2,hn,by rw[hv];rfl⟩
def fi:List ar→Nat→Option ar
 | [],_=>none
 | x::l,i=>if i=x.id then some x else fi l i
theorem bc {N:List ar} {j:Nat} {x:ar} (h:fi N j=some x):x∈N∧x.id=j:=by
 induction N with
 | nil=>simp [fi] at h
 | cons y l ih=>
  simp only[fi] at h
  split at h
  ·rename_i hj
   injection h with h
   subst h
   exact⟨List.mem_cons_self ..,hj.symm⟩
  ·obtain⟨h1,h2⟩:=ih h
   exact⟨List.mem_cons_of_mem _ h1,h2⟩
theorem lV {N:List ar} {x:ar} (hx:x∈N) (hn:(N.map (·.id)).Nodup):fi N x.id=some x:=by
 induction N with
 | nil=>simp at hx
 | cons y l ih=>
  simp only[List.map_cons,List.nodup_cons] at hn
  simp only[fi]
  rcases List.mem_cons.1 hx with rfl | hx
  ·simp
  ·have:x.id≠y.id:=fun e=>hn.1 (e ▸ List.mem_map_of_mem hx)
   rw[if_neg this]
   exact ih hx hn.2
def cQ (N:List ar):List (Nat×Option aj):=N.map fun x=>(x.id,some x.obj)
theorem Ax (N:List ar) (l:List (Nat×Option aj)) (j:Nat):fo (cQ N++l) h j=match fi N j with | some x=>some x.obj | none=>fo l h j:=by
 induction N with
 | nil=>rfl
 | cons y N ih=>
  simp only[cQ,List.map_cons,List.cons_append,fo,az,fi]
  split
  ·rfl
  ·exact ih
def Env.fD (β:Env) (N:List ar):Env:=⟨β.cS,fun j=>match fi N j with | some x=>x.v | none=>β.val j,β.gv,fun j=>match fi N j with | some x=>x.aA.flatten | none=>β.nb j⟩
theorem cT {N:List ar} (h:(N.flatMap ar.bA).Nodup):(∀x∈N,x.bA.Nodup)∧∀x∈N,∀y∈N,x≠y→∀b∈x.bA,b ∉ y.bA:=by
 induction N with
 | nil=>simp
 | cons z l ih=>
  rw[List.flatMap_cons,List.nodup_append] at h
  obtain⟨h1,h2,h3⟩:=h
  obtain⟨i1,i2⟩:=ih h2
  refine⟨fun x hx=> ?_,fun x hx y hy m8 b hb ax=> ?_⟩
  ·rcases List.mem_cons.1 hx with rfl | hx
   ·exact h1
   ·exact i1 x hx
  ·rcases List.mem_cons.1 hx with Bz | Bz<;>rcases List.mem_cons.1 hy with BA | BA
   ·exact m8 (Bz.trans BA.symm)
   ·subst Bz
    exact h3 b hb b (List.mem_flatMap.2 ⟨y,BA,ax⟩) rfl
   ·subst BA
    exact h3 b ax b (List.mem_flatMap.2 ⟨x,Bz,hb⟩) rfl
   ·exact i2 x Bz y BA m8 b hb ax
theorem Core.FC (hc:Core w0 S f h β φ tm w) {w':World} {N:List ar} (hs:w.heap.size≤w'.heap.size) (hw:∀b,b<w.heap.size→w'.heap[b]? =w.heap[b]?) (hk:w0.heap.size≤w.heap.size)
  (bt:∀x∈N,h x.id=none∧(∀i,x.id ∉ bT (f i))∧∀k o,h k=some o→x.id ∉ cB o) (aI:∀x∈N,ar.ok w' x) (dJ:(N.map (·.id)).Nodup)
  (hnd:(N.flatMap ar.bA).Nodup) (mn:∀b∈N.flatMap ar.bA,w.heap.size≤b∧b<w'.heap.size):
  Core w0 S f (fun j=>match fi N j with | some x=>some x.obj | none=>h j) (β.fD N) (fun j=>match fi N j with | some x=>x.bA | none=>φ j) tm w':=by
 have d7:∀x∈N,∀b∈x.bA,b∈N.flatMap ar.bA:=fun x hx b hb=>List.mem_flatMap.2 ⟨x,hx,hb⟩
 have ll:∀j oj,fi N j=none→al (β.fD N) j oj=al β j oj:=by
  intro j oj hj
  cases oj<;>simp [al,Env.fD,hj]
 have jy:∀j x,fi N j=some x→al (β.fD N) j x.obj=x.al:=by
  intro j x hj
  obtain⟨_,rfl⟩:=bc hj
  exact x.iA (by simp [Env.fD,hj]) (by simp [Env.fD,hj])
 have Jw:∀b,Av (fun j=>match fi N j with | some x=>some x.obj | none=>h j) (β.fD N) b→Av h β b∨(w.heap.size≤b∧∃x∈N,b∈x.al):=by
  rintro b (⟨j,oj,hj,bn⟩ | hb)
  case inr=>exact .inl (.inr hb)
  cases hl:fi N j with
  | none=>
   simp only[hl] at hj
   rw[ll j oj hl] at bn
   exact .inl (.inl ⟨j,oj,hj,bn⟩)
  | some x=>
   simp only[hl,Option.some.injEq] at hj
   subst hj
   rw[jy j x hl] at bn
   have hx:=(bc hl).1
   exact .inr ⟨(mn b (d7 x hx b (x.ah b bn))).1,x,hx,bn⟩
 refine hc.mi (fun j=>(fi N j).isSome=true) hs (fun b hb _=>hw b hb) (fun b hb=>(Jw b hb).imp id (·.1)) ?_ ?_ ?_ ?_
 ·intro i j hj hx
  obtain⟨x,hx⟩:=Option.isSome_iff_exists.1 hx
  obtain⟨hm,rfl⟩:=bc hx
  exact (bt x hm).2.1 i hj
 ·intro j hj
  have:fi N j=none:=by simpa using hj
  simp [Env.fD,this]
 ·intro j oj hj
  cases hl:fi N j with
  | none=>
   simp only[hl] at hj
   refine .inl ⟨by simp [hl],hj,by simp [Env.fD,hl],by simp, ?_,fun b hb=>hw b ?_⟩
   ·intro i hi hx
    obtain⟨x,hx⟩:=Option.isSome_iff_exists.1 hx
    obtain⟨hm,rfl⟩:=bc hx
    exact (bt x hm).2.2 j oj hj hi
   ·exact ((hc.fresh j oj hj).2 b (ah (hc.ay j oj hj) b hb)).2
  | some x=>
   simp only[hl,Option.some.injEq] at hj
   subst hj
   obtain⟨hm,rfl⟩:=bc hl
   refine .inr ⟨ar.Jf (aI x hm) (by simp [Env.fD,hl]) (by simp [Env.fD,hl]) ?_ ((cT hnd).1 x hm), ?_, ?_⟩
   ·intro b hb Gu hx
    have fj:b∈x.bA:=List.mem_append_right _ hb
    have mw:=(mn b (d7 x hm b fj)).1
    rcases Jw b hx with B6 | ⟨_,y,hy,A6⟩
    ·have:=hc.HW hk B6
     omega
    ·by_cases m8:y=x
     ·subst m8
      exact Gu A6
     ·exact (cT hnd).2 y hy x hm m8 b (y.ah b A6) fj
   ·exact (cT hnd).1 x hm
   ·intro b hb
    have:=mn b (d7 x hm b hb)
    exact⟨.inl (by omega),this.2⟩
 ·intro i j oi oj cI hi hj b hb
  cases Jy:fi N i with
  | none=>
   simp only[Jy] at hi hb
   cases Dv:fi N j with
   | none=>
    simp only[Dv] at hj ⊢
    exact hc.sep i j oi oj cI hi hj b hb
   | some y=>
    simp only
    intro A6
    have:=(mn b (d7 y (bc Dv).1 b A6)).1
    have:=((hc.fresh i oi hi).2 b hb).2
    omega
  | some x=>
   simp only[Jy] at hi hb
   have I4:=(bc Jy).1
   cases Dv:fi N j with
   | none=>
    simp only[Dv] at hj ⊢
    intro bn
    have:=(mn b (d7 x I4 b hb)).1
    have:=((hc.fresh j oj hj).2 b bn).2
    omega
   | some y=>
    simp only
    intro A6
    have JG:=(bc Dv).1
    have m8:x≠y:=by
     rintro rfl
     exact cI ((bc Jy).2.symm.trans (bc Dv).2)
    exact (cT hnd).2 x I4 y JG m8 b hb A6
structure fw where
 id:Nat
 obj:aj
 nb:List Nat
 bA:List Nat
def lW:List fw→Nat→Option fw
 | [],_=>none
 | x::l,i=>if i=x.id then some x else lW l i
theorem c4 {U:List fw} {j:Nat} {x:fw} (h:lW U j=some x):x∈U∧x.id=j:=by
 induction U with
 | nil=>simp [lW] at h
 | cons y l ih=>
  simp only[lW] at h
  split at h
  ·rename_i hj
   injection h with h
   subst h
   exact⟨List.mem_cons_self ..,hj.symm⟩
  ·obtain⟨h1,h2⟩:=ih h
   exact⟨List.mem_cons_of_mem _ h1,h2⟩
theorem E6 {U:List fw} {x:fw} (hx:x∈U):∃y,lW U x.id=some y:=by
 induction U with
 | nil=>simp at hx
 | cons y l ih=>
  simp only[lW]
  split
  ·exact⟨_,rfl⟩
  ·rename_i cI
   rcases List.mem_cons.1 hx with rfl | hx
   ·exact absurd rfl cI
   ·exact ih hx
theorem kR {U:List fw} (h:(U.flatMap fw.bA).Nodup):(∀x∈U,x.bA.Nodup)∧∀x∈U,∀y∈U,x.id≠y.id→∀b∈x.bA,b ∉ y.bA:=by
 induction U with
 | nil=>simp
 | cons z l ih=>
  rw[List.flatMap_cons,List.nodup_append] at h
  obtain⟨h1,h2,h3⟩:=h
  obtain⟨i1,i2⟩:=ih h2
  refine⟨fun x hx=> ?_,fun x hx y hy m8 b hb ax=> ?_⟩
  ·rcases List.mem_cons.1 hx with rfl | hx
   ·exact h1
   ·exact i1 x hx
  ·rcases List.mem_cons.1 hx with Bz | Bz<;>rcases List.mem_cons.1 hy with BA | BA
   ·exact m8 (by rw[Bz,BA])
   ·subst Bz
    exact h3 b hb b (List.mem_flatMap.2 ⟨y,BA,ax⟩) rfl
   ·subst BA
    exact h3 b ax b (List.mem_flatMap.2 ⟨x,Bz,hb⟩) rfl
   ·exact i2 x Bz y BA m8 b hb ax
def Env.bX (β:Env) (N:List ar) (U:List fw):Env:=
 ⟨β.cS,fun j=>match fi N j with | some x=>x.v | none=>β.val j,β.gv,fun j=>match fi N j with | some x=>x.aA.flatten | none=>match lW U j with | some x=>x.nb | none=>β.nb j⟩
def kT (N:List ar) (U:List fw) (D:List Nat) (h:Nat→Option aj) (j:Nat):Option aj:=
 match fi N j with | some x=>some x.obj | none=>match lW U j with | some x=>some x.obj | none=>if j∈D then none else h j
def gE (N:List ar) (U:List fw) (φ:Nat→List Nat) (j:Nat):List Nat:=
 match fi N j with | some x=>x.bA | none=>match lW U j with | some x=>x.bA | none=>φ j
theorem Core.JO (hc:Core w0 S f h β φ tm w) {w':World} {N:List ar} {U:List fw} {D im mb:List Nat} (hs:w.heap.size≤w'.heap.size) (hk:w0.heap.size≤w.heap.size)
  (Gr:∀b∈mb,∃i,((∃x∈U,x.id=i)∨i∈D)∧∃o,h i=some o∧b∈al β i o)
  (hw:∀b,b<w.heap.size→b ∉ mb→w'.heap[b]? =w.heap[b]?)
  (hU:∀x∈U,∃o,h x.id=some o)
  (LU:∀x∈U,∀(av:Nat→Prop) (β':Env),β'.val x.id=β.val x.id→β'.cS x.id=β.cS x.id→β'.nb x.id=x.nb→(∀y∈N,β'.val y.id=y.v)→(∀b∈im,¬av b)→fH w' av β' x.id x.obj x.bA)
  (Lg:(U.flatMap fw.bA).Nodup) (G1:∀b∈U.flatMap fw.bA,(b∈mb∨w.heap.size≤b)∧b<w'.heap.size∧b ∉ N.flatMap ar.bA)
  (j_:∀b∈im,¬Av (kT N U D h) (β.bX N U) b) (mC:(N.map (·.id)).Nodup)
  (bt:∀x∈N,h x.id=none∧(∀i,x.id ∉ bT (f i))∧∀k o,h k=some o→x.id ∉ cB o) (aI:∀x∈N,ar.ok w' x)
  (hnd:(N.flatMap ar.bA).Nodup) (mn:∀b∈N.flatMap ar.bA,(b∈mb∨w.heap.size≤b)∧b<w'.heap.size):
  Core w0 S f (kT N U D h) (β.bX N U) (gE N U φ) tm w':=by
 have d7:∀x∈N,∀b∈x.bA,b∈N.flatMap ar.bA:=fun x hx b hb=>List.mem_flatMap.2 ⟨x,hx,hb⟩
 have Cs:∀x∈U,∀b∈x.bA,b∈U.flatMap fw.bA:=fun x hx b hb=>List.mem_flatMap.2 ⟨x,hx,hb⟩
 have MD:∀x∈U,fi N x.id=none:=by
  intro x hx
  cases hl:fi N x.id with
  | none=>rfl
  | some y=>
   obtain⟨hm,he⟩:=bc hl
   obtain⟨o,ho⟩:=hU x hx
   have:=(bt y hm).1
   rw[he,ho] at this
   cases this
 have ll:∀j oj,fi N j=none→lW U j=none→al (β.bX N U) j oj=al β j oj:=by
  intro j oj hj hu
  cases oj<;>simp [al,Env.bX,hj,hu]
 have jy:∀j x,fi N j=some x→al (β.bX N U) j x.obj=x.al:=by
  intro j x hj
  obtain⟨_,rfl⟩:=bc hj
  exact x.iA (by simp [Env.bX,hj]) (by simp [Env.bX,hj])
 have EI:∀j x,fi N j=none→lW U j=some x→fH w' (Av (kT N U D h) (β.bX N U)) (β.bX N U) j x.obj x.bA:=by
  intro j x hl hu
  obtain⟨hm,rfl⟩:=c4 hu
  exact LU x hm _ _ (by simp [Env.bX,hl]) rfl (by simp [Env.bX,hl,hu]) (fun y hy=>by simp [Env.bX,lV hy mC]) j_
 have EE:∀b∈mb,Av h β b:=by
  intro b hb
  obtain⟨i,_,o,ho,Ic⟩:=Gr b hb
  exact .inl ⟨i,o,ho,Ic⟩
 have Cm:∀b∈mb,∃i o,h i=some o∧b∈φ i:=by
  intro b hb
  obtain⟨i,_,o,ho,Ic⟩:=Gr b hb
  exact⟨i,o,ho,Vm.ah (hc.ay _ _ ho) b Ic⟩
 have Jw:∀b,Av (kT N U D h) (β.bX N U) b→Av h β b∨w.heap.size≤b:=by
  rintro b (⟨j,oj,hj,bn⟩ | hb)
  case inr=>exact .inl (.inr hb)
  unfold kT at hj
  cases hl:fi N j with
  | none=>
   simp only[hl] at hj
   cases hu:lW U j with
   | none=>
    simp only[hu] at hj
    split at hj
    ·cases hj
    rw[ll j oj hl hu] at bn
    exact .inl (.inl ⟨j,oj,hj,bn⟩)
   | some x=>
    simp only[hu,Option.some.injEq] at hj
    subst hj
    have h1:=Vm.ah (EI j x hl hu) b bn
    rcases (G1 b (Cs x (c4 hu).1 b h1)).1 with h2 | h2
    ·exact .inl (EE b h2)
    ·exact .inr h2
  | some x=>
   simp only[hl,Option.some.injEq] at hj
   subst hj
   rw[jy j x hl] at bn
   have hx:=(bc hl).1
   rcases (mn b (d7 x hx b (x.ah b bn))).1 with h2 | h2
   ·exact .inl (EE b h2)
   ·exact .inr h2
 have Fh:∀j oj,h j=some oj→(∀x∈U,x.id≠j)→j ∉ D→∀b∈φ j,b ∉ mb:=by
  intro j oj hj cI hnd b hb Ib
  obtain⟨i,hi,o,ho,Ic⟩:=Gr b Ib
  refine hc.sep i j o oj (fun e=> ?_) ho hj b (Vm.ah (hc.ay _ _ ho) b Ic) hb
  rcases hi with ⟨x,hx,Mx⟩ | hi
  ·exact cI x hx (Mx.trans e)
  ·exact hnd (e ▸ hi)
 have IV:∀b,(b∈mb∨w.heap.size≤b)→¬β.gv b:=by
  intro b hb eM
  rcases hb with hb | hb
  ·obtain⟨i,o,ho,lN⟩:=Cm b hb
   exact hc.AU ho lN eM
  ·have:=(hc.gv b eM).1
   omega
 have EB:∀j oj,lW U j=none→(if j∈D then none else h j)=some oj→h j=some oj∧j ∉ D:=by
  intro j oj _ hj
  split at hj
  ·cases hj
  ·exact⟨hj,by assumption⟩
 have Je:∀j,lW U j=none→∀x∈U,x.id≠j:=by
  intro j hu x hx he
  obtain⟨y,hy⟩:=E6 hx
  rw[he,hu] at hy
  cases hy
 refine hc.mi (fun j=>(fi N j).isSome=true) hs ?_ Jw ?_ ?_ ?_ ?_
 ·intro b hb hn
  exact hw b hb (fun Ib=>hn (EE b Ib))
 ·intro i j hj hx
  obtain⟨x,hx⟩:=Option.isSome_iff_exists.1 hx
  obtain⟨hm,rfl⟩:=bc hx
  exact (bt x hm).2.1 i hj
 ·intro j hj
  have:fi N j=none:=by simpa using hj
  simp [Env.bX,this]
 ·intro j oj hj
  unfold kT at hj
  cases hl:fi N j with
  | none=>
   simp only[hl] at hj
   cases hu:lW U j with
   | none=>
    simp only[hu] at hj
    obtain⟨hj,Ir⟩:=EB j oj hu hj
    refine .inl ⟨by simp [hl],hj,by simp [Env.bX,hl,hu],by simp [gE,hl,hu], ?_,fun b hb=> ?_⟩
    ·intro i hi hx
     obtain⟨x,hx⟩:=Option.isSome_iff_exists.1 hx
     obtain⟨hm,rfl⟩:=bc hx
     exact (bt x hm).2.2 j oj hj hi
    ·have fj:=Vm.ah (hc.ay j oj hj) b hb
     exact hw b ((hc.fresh j oj hj).2 b fj).2 (Fh j oj hj (Je j hu) Ir b fj)
   | some x=>
    simp only[hu,Option.some.injEq] at hj
    subst hj
    have hm:=(c4 hu).1
    refine .inr ⟨by simpa only[gE,hl,hu] using EI j x hl hu,by simpa only[gE,hl,hu] using (kR Lg).1 x hm, ?_⟩
    simp only[gE,hl,hu]
    intro b hb
    obtain⟨h1,h2,_⟩:=G1 b (Cs x hm b hb)
    refine⟨?_,h2⟩
    rcases h1 with h1 | h1
    ·obtain⟨i,o,ho,lN⟩:=Cm b h1
     exact ((hc.fresh _ _ ho).2 b lN).1
    ·exact .inl (by omega)
  | some x=>
   simp only[hl,Option.some.injEq] at hj
   subst hj
   obtain⟨hm,rfl⟩:=bc hl
   refine .inr ⟨?_, ?_, ?_⟩
   ·simp only[gE,hl]
    refine ar.Jf (aI x hm) (by simp [Env.bX,hl]) (by simp [Env.bX,hl]) ?_ ((cT hnd).1 x hm)
    rintro b hb Gu hx
    have fj:b∈x.bA:=List.mem_append_right _ hb
    have G2:=d7 x hm b fj
    have mw:=(mn b G2).1
    rcases hx with ⟨j,oj,hj,bn⟩ | eM
    case inr=>exact IV b mw eM
    unfold kT at hj
    cases Dv:fi N j with
    | some y=>
     simp only[Dv,Option.some.injEq] at hj
     subst hj
     rw[jy j y Dv] at bn
     have hy:=(bc Dv).1
     by_cases m8:y=x
     ·subst m8
      exact Gu bn
     ·exact (cT hnd).2 y hy x hm m8 b (y.ah b bn) fj
    | none=>
     simp only[Dv] at hj
     cases hu:lW U j with
     | some y=>
      simp only[hu,Option.some.injEq] at hj
      subst hj
      have h1:=Vm.ah (EI j y Dv hu) b bn
      exact (G1 b (Cs y (c4 hu).1 b h1)).2.2 G2
     | none=>
      simp only[hu] at hj
      obtain⟨hj,Ir⟩:=EB j oj hu hj
      rw[ll j oj Dv hu] at bn
      have my:=Vm.ah (hc.ay j oj hj) b bn
      rcases mw with mw | mw
      ·exact Fh j oj hj (Je j hu) Ir b my mw
      ·have:=((hc.fresh j oj hj).2 b my).2
       omega
   ·simp only[gE,hl]
    exact (cT hnd).1 x hm
   ·simp only[gE,hl]
    intro b hb
    have:=mn b (d7 x hm b hb)
    refine⟨?_,this.2⟩
    rcases this.1 with h1 | h1
    ·obtain⟨i,o,ho,lN⟩:=Cm b h1
     exact ((hc.fresh _ _ ho).2 b lN).1
    ·exact .inl (by omega)
 ·
  have kinds:∀j oj,kT N U D h j=some oj→∀b∈gE N U φ j,
    (∃x,fi N j=some x∧b∈x.bA)∨(∃x,fi N j=none∧lW U j=some x∧b∈x.bA)∨(fi N j=none∧lW U j=none∧(h j=some oj∧j ∉ D)∧b∈φ j):=by
   intro j oj hj b hb
   unfold kT at hj
   unfold gE at hb
   cases hl:fi N j with
   | some x=>simp only[hl] at hb;exact .inl ⟨x,rfl,hb⟩
   | none=>
    simp only[hl] at hj hb
    cases hu:lW U j with
    | some x=>simp only[hu] at hb;exact .inr (.inl ⟨x,rfl,rfl,hb⟩)
    | none=>simp only[hu] at hj hb;exact .inr (.inr ⟨rfl,rfl,EB j oj hu hj,hb⟩)
  have E_:∀b,b∈N.flatMap ar.bA→∀j oj,lW U j=none→h j=some oj→j ∉ D→b∈φ j→False:=by
   intro b G2 j oj A_ hj Ir bn
   rcases (mn b G2).1 with h1 | h1
   ·exact Fh j oj hj (Je j A_) Ir b bn h1
   ·have:=((hc.fresh j oj hj).2 b bn).2
    omega
  intro i j oi oj cI hi hj b hb ax
  rcases kinds i oi hi b hb with ⟨x,hx,bx⟩ | ⟨x,_,hx,bx⟩ | ⟨_,Lx,⟨hx,Lv⟩,bx⟩<;>rcases kinds j oj hj b ax with ⟨y,hy,DL⟩ | ⟨y,_,hy,DL⟩ | ⟨_,Lz,⟨hy,Ly⟩,DL⟩
  ·refine (cT hnd).2 x (bc hx).1 y (bc hy).1 ?_ b bx DL
   rintro rfl
   exact cI ((bc hx).2.symm.trans (bc hy).2)
  ·exact (G1 b (Cs y (c4 hy).1 b DL)).2.2 (d7 x (bc hx).1 b bx)
  ·exact E_ b (d7 x (bc hx).1 b bx) j oj Lz hy Ly DL
  ·exact (G1 b (Cs x (c4 hx).1 b bx)).2.2 (d7 y (bc hy).1 b DL)
  ·refine (kR Lg).2 x (c4 hx).1 y (c4 hy).1 ?_ b bx DL
   rw[(c4 hx).2,(c4 hy).2]
   exact cI
  ·rcases (G1 b (Cs x (c4 hx).1 b bx)).1 with h1 | h1
   ·exact Fh j oj hy (Je j Lz) Ly b DL h1
   ·have:=((hc.fresh j oj hy).2 b DL).2
    omega
  ·exact E_ b (d7 y (bc hy).1 b DL) i oi Lx hx Lv bx
  ·rcases (G1 b (Cs y (c4 hy).1 b DL)).1 with h1 | h1
   ·exact Fh i oi hx (Je i Lx) Lv b bx h1
   ·have:=((hc.fresh i oi hx).2 b bx).2
    omega
  ·exact hc.sep i j oi oj cI hx hy b bx DL
end
end Go.Proofs.YtoaflbnkiobhdaaGreat.Vm
namespace Go.Proofs.YtoaflbnkiobhdaaGreat.Vm
section
variable {P:Program} {Γ:Ctx} {w0:World} {S:Own} {st:St} {o:Oper} {e:cF} {a:Act} {w:World}
variable {f:Nat→SV} {h:Nat→Option aj} {β:Env} {φ:Nat→List Nat} {tm:Array Value}
theorem c_.length {w:World} :∀(CB:List RC) (ds:List DC) (vs:List Value) (φ im tp:List Nat),c_ w CB ds vs φ im tp→ds.length=CB.length
 | [],ds,vs,φ,im,tp,h=>by simp only[c_] at h;simp [h.1]
 | .dV c::cs,ds,vs,φ,im,tp,h=>by
  simp only[c_] at h
  obtain⟨d,aW,v,cJ,f1,EU,rfl,_,_,h1,_⟩:=h
  simp [c_.length cs aW cJ _ _ _ h1]
 | .own t e::cs,ds,vs,φ,im,tp,h=>by
  simp only[c_] at h
  obtain⟨rows,aW,v,cJ,vals,aA,φ',A4,rfl,_,_,_,h1,_⟩:=h
  simp [c_.length cs aW cJ _ _ _ h1]
 | .deep t e ts::cs,ds,vs,φ,im,tp,h=>by
  simp only[c_] at h
  obtain⟨rows,aW,v,cJ,vals,aR,φ',A4,rfl,_,_,_,h1,_⟩:=h
  simp [c_.length cs aW cJ _ _ _ h1]
theorem fu {w':World} {d:Nat} :∀(CB:List RC) (k:Nat) (ds:List DC) (vs:List Value) (φ im tp:List Nat),c_ w' CB ds vs φ im tp→
  ∃N:List ar,(cd d k CB ds).2=cQ N∧N.map (·.id)=(List.range' k (di CB)).map (ag d)∧(∀x∈N,x.ok w')∧N.flatMap ar.bA=φ∧N.flatMap ar.al=tp∧
   ∀(av:Nat→Prop) (β':Env),(∀x∈N,β'.val x.id=x.v)→(∀b∈im,¬av b)→af w' av β' (cd d k CB ds).1 vs
 | [],k,ds,vs,φ,im,tp,h=>by
  simp only[c_] at h
  obtain⟨rfl,rfl,rfl,rfl,rfl⟩:=h
  exact⟨[],rfl,rfl,by simp,rfl,rfl,by simp [cd,af]⟩
 | .dV c::cs,k,ds,vs,φ,im,tp,h=>by
  simp only[c_] at h
  obtain⟨x,aW,v,cJ,f1,EU,rfl,rfl,h1,h2,rfl⟩:=h
  obtain⟨N,e1,e2,e3,e4,e5,e6⟩:=fu cs k aW cJ φ EU tp h2
  refine⟨N,by simpa [cd] using e1,by simpa [di] using e2,e3,e4,e5,fun av β' fY cN=> ?_⟩
  simp only[cd,List.headD_cons,List.tail_cons,af]
  exact⟨v,cJ,rfl,c5 h1 (fun b hb=>cN b (List.mem_append_left _ hb)),e6 av β' fY (fun b hb=>cN b (List.mem_append_right _ hb))⟩
 | .own t e::cs,k,ds,vs,φ,im,tp,h=>by
  simp only[c_] at h
  obtain⟨rows,aW,v,cJ,vals,aA,φ',A4,rfl,rfl,h1,h2,h3,rfl,rfl⟩:=h
  obtain⟨N,e1,e2,e3,e4,e5,e6⟩:=fu cs (k+1) aW cJ φ' im A4 h3
  refine⟨⟨ag d k,t,e,rows,v,aA,none⟩::N, ?_, ?_, ?_, ?_, ?_,fun av β' fY cN=> ?_⟩
  ·simp [cd,cQ,ar.obj,DC.cj] at e1 ⊢
   exact e1
  ·simp only[List.map_cons,di,List.range'_succ,e2]
  ·intro x hx
   rcases List.mem_cons.1 hx with rfl | hx
   ·exact⟨vals,h1,h2⟩
   ·exact e3 x hx
  ·simp [List.flatMap_cons,e4,ar.bA]
  ·simp [List.flatMap_cons,e5,ar.al]
  ·simp only[cd,List.headD_cons,List.tail_cons,af]
   refine⟨v,cJ,rfl, ?_,e6 av β' (fun x hx=>fY x (List.mem_cons_of_mem _ hx)) cN⟩
   simp only[ak]
   exact⟨(fY _ (List.mem_cons_self ..)).symm,h1.one⟩
 | .deep t e ts::cs,k,ds,vs,φ,im,tp,h=>by
  simp only[c_] at h
  obtain⟨rows,aW,v,cJ,vals,aR,φ',A4,rfl,rfl,h1,h2,h3,rfl,rfl⟩:=h
  obtain⟨N,e1,e2,e3,e4,e5,e6⟩:=fu cs (k+1) aW cJ φ' im A4 h3
  refine⟨⟨ag d k,t,e,rows,v,aR,some ts⟩::N, ?_, ?_, ?_, ?_, ?_,fun av β' fY cN=> ?_⟩
  ·simp [cd,cQ,ar.obj,DC.cj] at e1 ⊢
   exact e1
  ·simp only[List.map_cons,di,List.range'_succ,e2]
  ·intro x hx
   rcases List.mem_cons.1 hx with rfl | hx
   ·exact⟨vals,h1,h2⟩
   ·exact e3 x hx
  ·simp [List.flatMap_cons,e4,ar.bA]
  ·simp [List.flatMap_cons,e5,ar.al,ar.bA]
  ·simp only[cd,List.headD_cons,List.tail_cons,af]
   refine⟨v,cJ,rfl, ?_,e6 av β' (fun x hx=>fY x (List.mem_cons_of_mem _ hx)) cN⟩
   simp only[ak]
   exact⟨(fY _ (List.mem_cons_self ..)).symm,h1.one⟩
theorem i9 {w':World} {d:Nat} :∀(BI:List RK) (k:Nat) (ds:List DC) (vs:List Value) (φ im tp:List Nat),eW w' BI ds vs φ im tp→
  ∃N:List ar,(bh d k BI ds).2=cQ N∧N.map (·.id)=(List.range' k (a9 BI)).map (ag d)∧(∀x∈N,x.ok w')∧N.flatMap ar.bA=φ∧N.flatMap ar.al=tp∧
   ∀(av:Nat→Prop) (β':Env),(∀x∈N,β'.val x.id=x.v)→(∀b∈im,¬av b)→af w' av β' (bh d k BI ds).1 vs
 | [],k,ds,vs,φ,im,tp,h=>by
  simp only[eW] at h
  obtain⟨rfl,rfl,rfl,rfl,rfl⟩:=h
  exact⟨[],rfl,rfl,by simp,rfl,rfl,by simp [bh,af]⟩
 | r::rs,k,ds,vs,φ,im,tp,h=>by
  simp only[eW] at h
  obtain⟨d1,d2,v,cJ,us,DK,A5,i1,i2,t1,t2,rfl,rfl,hv,ba,h1,h2,rfl,rfl,rfl⟩:=h
  have hl:=c_.length _ _ _ _ _ _ h1
  obtain⟨N1,a1,a2,a3,a4,a5,a6⟩:=fu (d:=d) r.cells k d1 us DK i1 t1 h1
  obtain⟨N2,b1,b2,b3,b4,b5,b6⟩:=i9 (d:=d) rs (k+di r.cells) d2 cJ A5 i2 t2 h2
  have ht:(d1++d2).take r.cells.length=d1:=by rw[←hl];simp
  have mA:(d1++d2).drop r.cells.length=d2:=by rw[←hl];simp
  refine⟨N1++N2, ?_, ?_, ?_,by simp [a4,b4],by simp [a5,b5],fun av β' fY cN=> ?_⟩
  ·simp only[bh,ht,mA,a1,b1,cQ,List.map_append]
  ·rw[List.map_append,a2,b2,←List.map_append,List.range'_append_1]
   rfl
  ·intro x hx
   rcases List.mem_append.1 hx with hx | hx
   ·exact a3 x hx
   ·exact b3 x hx
  ·have s1:=a6 av β' (fun x hx=>fY x (List.mem_append_left _ hx)) (fun b hb=>cN b (List.mem_append_left _ hb))
   have s2:=b6 av β' (fun x hx=>fY x (List.mem_append_right _ hx)) (fun b hb=>cN b (List.mem_append_right _ hb))
   simp only[bh,ht,mA,af]
   refine⟨v,cJ,rfl, ?_,s2⟩
   cases H8:r.agg with
   | true=>
    rw[H8,cond_true] at hv
    subst hv
    simp only[cond_true,ak]
    exact⟨us,rfl,s1,ba⟩
   | false=>
    rw[H8,cond_false] at hv
    subst hv
    simp only[cond_false]
    generalize (cd d k r.cells d1).1=q at s1
    cases q with
    | nil=>simp [af] at s1
    | cons y l=>
     simp only[af] at s1
     obtain⟨v',l',e1,e2,_⟩:=s1
     injection e1 with e1
     subst e1
     simpa using e2
theorem dc.lt {w:World} :∀(ks:List AK) (ds:List DC) (vs:List Value) (fp:List Nat),dc w ks ds vs fp→∀b∈fp,b<w.heap.size
 | [],ds,vs,fp,h=>by simp only[dc] at h;simp [h.2.2]
 | k::ks,ds,vs,fp,h=>by
  simp only[dc] at h
  obtain⟨d1,d2,v,cJ,f1,f2,rfl,rfl,⟨us,_,_,hr,_⟩,h2,rfl⟩:=h
  intro b hb
  rcases List.mem_append.1 hb with hb | hb
  ·exact aZ.lt _ _ _ _ hr b hb
  ·exact dc.lt ks d2 cJ f2 h2 b hb
theorem c_.jE {w:World} :∀(CB:List RC) (ds:List DC) (vs:List Value) (φ im tp:List Nat),gV CB=false→c_ w CB ds vs φ im tp→im=[]
 | [],ds,vs,φ,im,tp,_,h=>by simp only[c_] at h;exact h.2.2.2.1
 | .dV c::cs,ds,vs,φ,im,tp,hn,h=>by
  simp only[c_] at h
  obtain⟨d,aW,v,cJ,f1,EU,rfl,_,h1,h2,rfl⟩:=h
  have:f1=[]∧gV cs=false:=by
   cases c with
   | int k=>simp only[bU] at h1;obtain⟨n,_,_,_,e⟩:=h1;exact⟨e,by simpa [gV] using hn⟩
   | bool=>simp only[bU] at h1;obtain⟨n,_,_,e⟩:=h1;exact⟨e,by simpa [gV] using hn⟩
   | str=>simp only[bU] at h1;obtain⟨n,_,_,_,e⟩:=h1;exact⟨e,by simpa [gV] using hn⟩
   | sl e=>simp [gV] at hn
  rw[this.1,c_.jE cs aW cJ _ _ _ this.2 h2]
  rfl
 | .own t e::cs,ds,vs,φ,im,tp,hn,h=>by
  simp only[c_] at h
  obtain⟨rows,aW,v,cJ,vals,aA,φ',A4,rfl,_,_,_,h1,_⟩:=h
  exact c_.jE cs aW cJ _ _ _ (by simpa [gV] using hn) h1
 | .deep t e ts::cs,ds,vs,φ,im,tp,hn,h=>by
  simp only[c_] at h
  obtain⟨rows,aW,v,cJ,vals,aR,φ',A4,rfl,_,_,_,h1,_⟩:=h
  exact c_.jE cs aW cJ _ _ _ (by simpa [gV] using hn) h1
theorem eW.jE {w:World} :∀(BI:List RK) (ds:List DC) (vs:List Value) (φ im tp:List Nat),(BI.any fun r=>gV r.cells)=false→eW w BI ds vs φ im tp→im=[]
 | [],ds,vs,φ,im,tp,_,h=>by simp only[eW] at h;exact h.2.2.2.1
 | r::rs,ds,vs,φ,im,tp,hn,h=>by
  simp only[eW] at h
  obtain⟨d1,d2,v,cJ,us,DK,A5,i1,i2,t1,t2,rfl,rfl,_,_,h1,h2,_,rfl,_⟩:=h
  simp only[List.any_cons,Bool.or_eq_false_iff] at hn
  rw[c_.jE _ _ _ _ _ _ hn.1 h1,eW.jE rs d2 cJ _ _ _ hn.2 h2]
  rfl
theorem Ar (hc:Core w0 S st.get st.obj β φ a.tmps w):∀(xs:List Operand) (ss:List SV),(Dq xs).val st.get st.obj=some ss→af w (Av st.obj β) β ss (xs.map a.eval)
 | [],ss,h=>by simp [Dq] at h;subst h;simp [af]
 | x::xs,ss,h=>by
  simp only[Dq,M.ae,Option.bind_eq_some_iff,M.aa,Option.some.injEq] at h
  obtain⟨s,h1,r,h2,rfl⟩:=h
  simp only[List.map_cons,af]
  exact⟨_,_,rfl,hc.ev h1,Ar hc xs r h2⟩
theorem BK {c:Call} {g:Nat} {fn:Func} (ho:o.op= .call c) (hg:c.callee= .value (.func g)) (hf:P.funcs[g]? =some fn) (hb:fn.body.isSome=true) (hn:(fn.name== "runtime.NumGoroutine")=false):
  (execOp a.eval o).run P w= .ok (.enter g (c.args.map a.eval)) w:=by
 have ax:fn.body.isNone=false:=by cases h:fn.body<;>simp_all
 simp only[execOp,ho,resolve,hg,Act.eval,Deferred.ofValue,Sem.run_bind,Sem.run_pure,Result.andThen_ok,invoke,callFunc,run_program,hf,hn,ax,Bool.false_eq_true,if_false]
 simp
theorem CL (eF:bD P Γ) {s:Sum} {g:Nat} (hs:FZ Γ g=some s) (eo:s.GP=false) (Gw:s.pt=none) (Jz:s.ms=[]) (hR:Rel w0 S st a w) {d:Nat} (aK:o.dst=some d) (hd:a_ st.n d) (bL:e.ow≠[]→bu st d) {c:Call} (ho:o.op= .call c) (hg:c.callee= .value (.func g)) {l:List SV}
  (hl:(Dq c.args.toList).val st.get st.obj=some l) (he:(ky Γ (some d) g l).val st.get st.obj=some e) (aI:e.ok=true):Good P w0 S st o e a w:=by
 unfold ky at he
 rw[hs] at he
 simp only[eo,cond_false,Gw,Jz] at he
 cases GZ:Nat.blt (a9 s.rs) 64
 ·simp [GZ] at he
 simp only[GZ,cond_true,M.ae,Option.bind_eq_some_iff] at he
 obtain⟨r,hr,he⟩:=he
 cases IZ:(!(shares s) || aN r.2)
 ·simp [IZ] at he
 simp only[IZ,cond_true,M.aa,Option.some.injEq] at he
 subst he
 have GZ:a9 s.rs<64:=Nat.le_of_ble_eq_true GZ
 have hH:DV P g s:=by have h0:=eF g s hs;unfold gC at h0;rw[eo,cond_false,Gw] at h0;simp only[Jz] at h0;exact h0
 obtain⟨⟨fn,hf,hb,hn⟩,Cf⟩:=hH
 obtain⟨β,φ,hc⟩:=hR.core
 obtain⟨fp,cr,kd,kX⟩:=lC hc s.ps l _ r (Ar hc _ l hl) hr
 have Li:=dc.lt _ _ _ _ cr
 intro Q
 unfold Oper.wp
 rw[BK ho hg hf hb hn,Oper.upon_enter]
 have ES:c.args.map a.eval=(c.args.toList.map a.eval).toArray:=by rw[←Array.toList_map,Array.toArray_toList]
 rw[ES]
 refine (Cf w r.1 _ fp cr aI).mono ?_
 rintro _ w' ⟨vs,JK,im,tp,rfl,hk,AF,hnd,mn,j_⟩
 obtain⟨N,n1,n2,n3,n4,n5,n6⟩:=i9 (d:=d) s.rs 0 _ vs JK im tp AF
 let M':eJ:=bif shares s then r.2 else []
 have hM:bR st.obj M'∧aN M'=true:=by
  cases AH:shares s with
  | true=>
   have:M'=r.2:=by simp [M',AH]
   rw[this]
   exact⟨kd,by simpa [AH] using IZ⟩
  | false=>
   have:M'=[]:=by simp [M',AH]
   rw[this]
   exact⟨by simp [bR],rfl⟩
 have hfz:(bif shares s then ai r.2 else [])=ai M':=by cases AH:shares s<;>simp [M',AH,ai]
 have jr:=hc.gf M' hM.1 hM.2
 have Ck:∀x∈N,x.id / 64=d∧x.id∈N.map (·.id):=by
  intro x hx
  have hm:x.id∈N.map (·.id):=List.mem_map_of_mem hx
  refine⟨?_,hm⟩
  rw[n2] at hm
  obtain⟨j,hj,fO⟩:=List.mem_map.1 hm
  rw[←fO]
  have:=List.mem_range'_1.1 hj
  exact cK d j (by omega)
 have mC:(N.map (·.id)).Nodup:=by
  rw[n2]
  refine List.Pairwise.map _ ?_ (List.nodup_range' ..)
  intro x y m8 e
  unfold ag at e
  omega
 have hle:=hR.kept.size
 have hw:∀b,b<w.heap.size→w'.heap[b]? =w.heap[b]? :=fun b hb=>hk.block b hb (fun h=>h)
 have JZ:=jr.FC (N:=N) hk.size hw hle ?_ n3 mC (by rw[n4];exact hnd) (by rw[n4];exact mn)
 ·have hval:∀x∈N,(β.fD N).val x.id=x.v:=by
   intro x hx
   simp [Env.fD,lV hx mC]
  have Ey:∀b∈im,¬Av (fun j=>match fi N j with | some x=>some x.obj | none=>fo (ai M') st.obj j) (β.fD N) b:=by
   rintro b hb (⟨j,oj,hj,bn⟩ | eM)
   case inr=>
    have Ew:=j_ b hb
    have L0:=(jr.gv b eM).1
    rcases Ew.1 with Ci | mw
    ·cases AH:shares s with
     | false=>
      have:im=[]:=eW.jE _ _ _ _ _ _ (by simpa [shares] using AH) AF
      rw[this] at hb
      simp at hb
     | true=>
      have Gh:M'=r.2:=by simp [M',AH]
      rcases kX b Ci with h3 | ⟨x,hx,j9⟩
      ·exact h3 (.inr eM)
      ·exact dt hc hM.1 (by rw[Gh];exact hx) j9 (.inr eM)
    ·omega
   have Ew:=j_ b hb
   cases ju:fi N j with
   | some x=>
    simp only[ju,Option.some.injEq] at hj
    subst hj
    have hx:=(bc ju).1
    refine Ew.2 ?_
    rw[←n5]
    refine List.mem_flatMap.2 ⟨x,hx, ?_⟩
    obtain⟨_,rfl⟩:=bc ju
    rwa [x.iA (by simp [Env.fD,ju]) (by simp [Env.fD,ju])] at bn
   | none=>
    simp only[ju] at hj
    have my:b∈al β j oj:=by
     cases oj<;>simp only[al,Env.fD,ju] at bn ⊢ <;>exact bn
    have JX:=((jr.fresh j oj hj).2 b (ah (jr.ay j oj hj) b my)).2
    rcases Ew.1 with Ci | mw
    ·cases AH:shares s with
     | false=>
      have:im=[]:=eW.jE _ _ _ _ _ _ (by simpa [shares] using AH) AF
      rw[this] at hb
      simp at hb
     | true=>
      have Gh:M'=r.2:=by simp [M',AH]
      rcases kX b Ci with h3 | ⟨x,hx,j9⟩
      ·exact h3 (fK (.inl ⟨j,oj,hj,my⟩))
      ·exact dt hc hM.1 (by rw[Gh];exact hx) j9 (.inl ⟨j,oj,hj,my⟩)
    ·omega
  have eE:=n6 _ (β.fD N) hval Ey
  have Cl:Kept S w0 w':=⟨hk.os.trans hR.kept.os,hk.tape.trans hR.kept.tape,hk.output.trans hR.kept.output,by have:=hk.size;omega,fun k h1 h2=>(hw k (by omega)).trans (hR.kept.block k h1 h2)⟩
  refine⟨pack vs,rfl,iu hR (fun d' h'=>by rw[aK] at h';injection h' with h';exact h' ▸ hd) Cl ⟨β.fD N,fun j=>match fi N j with | some x=>x.bA | none=>bl φ M' j, ?_, ?_⟩⟩
  ·have:fo ((bh d 0 s.rs (s.fn r.1).2).2++(bif shares s then ai r.2 else [])) (fc none st.obj)=fun j=>match fi N j with | some x=>some x.obj | none=>fo (ai M') st.obj j:=by
    funext j
    rw[n1,hfz,Ax]
    rfl
   show Core w0 S st.get (fo ((bh d 0 s.rs (s.fn r.1).2).2++(bif shares s then ai r.2 else [])) (fc none st.obj)) _ _ _ _
   rw[this]
   exact JZ
  ·have:fo ((bh d 0 s.rs (s.fn r.1).2).2++(bif shares s then ai r.2 else [])) (fc none st.obj)=fun j=>match fi N j with | some x=>some x.obj | none=>fo (ai M') st.obj j:=by
    funext j
    rw[n1,hfz,Ax]
    rfl
   show ak w' (Av (fo ((bh d 0 s.rs (s.fn r.1).2).2++(bif shares s then ai r.2 else [])) (fc none st.obj)) (β.fD N)) (β.fD N) (hF (bh d 0 s.rs (s.fn r.1).2).1) (pack vs)
   rw[this]
   generalize (bh d 0 s.rs (s.fn r.1).2).1=q at eE
   match q,vs,eE with
   | [],vs,eE=>
    simp only[af] at eE
    subst eE
    simp only[hF,pack,ak]
    exact⟨[],rfl,by simp [af]⟩
   | [x],vs,eE=>
    simp only[af] at eE
    obtain⟨v,l',rfl,h1,rfl⟩:=eE
    exact h1
   | x::y::q,vs,eE=>
    have EM:=eE
    simp only[af] at eE
    obtain⟨v,l',rfl,h1,v2,l2,rfl,h2,h3⟩:=eE
    simp only[hF,pack]
    unfold ak
    exact⟨v::v2::l2,rfl,EM⟩
 ·intro x hx
  have h1:=(Ck x hx).1
  have bL:=bL (by
   show (bh d 0 s.rs (s.fn r.1).2).2++_≠[]
   rw[n1]
   intro h0
   rw[List.append_eq_nil_iff] at h0
   have:N=[]:=by simpa [cQ] using h0.1
   rw[this] at hx
   simp at hx)
  refine⟨?_,fun i hi=>bL.slot i _ hi h1,fun k ok Cl hi=> ?_⟩
  ·cases hn:fo (ai M') st.obj x.id with
   | none=>rfl
   | some ob=>
    rcases dq hn with h2 | ⟨e',r',rfl,y,hy,h2⟩
    ·exact absurd h1 (bL.obj _ ob h2).1
    ·obtain⟨_,h3,_⟩:=hM.1 y hy
     rw[h2] at h3
     exact absurd h1 (bL.obj _ _ h3).1
  ·rcases dq Cl with h2 | ⟨e',r',rfl,_⟩
   ·exact (bL.obj k ok h2).2 _ hi h1
   ·simp [cB] at hi
end
end Go.Proofs.YtoaflbnkiobhdaaGreat.Vm
set_option linter.unusedVariables false
set_option linter.unusedSimpArgs false
namespace Go.Proofs.YtoaflbnkiobhdaaGreat.Vm
section
variable {P:Program} {Γ:Ctx} {w0:World} {S:Own} {st:St} {o:Oper} {e:cF} {a:Act} {w:World}
variable {f:Nat→SV} {h:Nat→Option aj} {β:Env} {φ:Nat→List Nat} {tm:Array Value}
def aC (β:Env):MU→List Nat
 | .box id _ _=>[β.cS id]
 | .row id _ _ _=>(β.val id).ownBlock.toList
 | .deep id _ _ _=>(β.val id).ownBlock.toList++β.nb id
 | .gone id dp=>(β.val id).ownBlock.toList++(bif dp then β.nb id else [])
 | .cH id _ _ _=>[β.cS id]
 | .ln=>[]
def B7 (dp:Bool) (o:aj):Prop:=(dp=false∧∃t e rows u,aq e=true∧o= .row t e rows false u)∨(dp=true∧∃t e ts rows,o= .deep t e ts rows none)
theorem B7.al {dp:Bool} {o:aj} (h:B7 dp o) (β:Env) (id:Nat):al β id o=aC β (.gone id dp):=by
 rcases h with ⟨rfl,t,e,rows,u,_,rfl⟩ | ⟨rfl,t,e,ts,rows,rfl⟩<;>simp [Vm.al,aC]
def cR (h:Nat→Option aj):List MU→Prop
 | []=>True
 | .box id t cs::l=>(∃cells,h id=some (.box t cells))∧cR h l
 | .row id t e u::l=>(aq e=true∧∃rows,h id=some (.row t e rows false u))∧cR h l
 | .deep id t e ts::l=>(∃rows,h id=some (.deep t e ts rows none))∧cR h l
 | .gone id dp::l=>(∃o,h id=some o∧B7 dp o)∧cR h l
 | .cH id t cs ts::l=>(∃cells,h id=some (.box t cells))∧cR h l
 | .ln::l=>cR h l
theorem cR.append {U V:List MU} (hu:cR h U) (hv:cR h V):cR h (U++V):=by
 induction U with
 | nil=>exact hv
 | cons x l ih=>
  cases x<;>simp only[List.cons_append,cR] at hu ⊢
  ·exact⟨hu.1,ih hu.2⟩
  ·exact⟨hu.1,ih hu.2⟩
  ·exact⟨hu.1,ih hu.2⟩
  ·exact⟨hu.1,ih hu.2⟩
  ·exact⟨hu.1,ih hu.2⟩
  ·exact ih hu
theorem jm:∀ {U:List MU},bM U=true→cR h U→(cM U).flatMap (aC β)=U.flatMap (aC β)∧cR h (cM U)
 | [],_,_=>⟨rfl,trivial⟩
 | .row id t e u::l,hr,hm=>by
  simp only[bM] at hr
  simp only[cR] at hm
  obtain⟨⟨hf,rows,ho⟩,hm⟩:=hm
  obtain⟨h1,h2⟩:=jm hr hm
  refine⟨?_, ?_⟩
  ·simp only[cM,List.flatMap_cons,h1,aC,cond_false,List.append_nil]
  ·simp only[cM,cR]
   exact⟨⟨_,ho,.inl ⟨rfl,t,e,rows,u,hf,rfl⟩⟩,h2⟩
 | .deep id t e ts::l,hr,hm=>by
  simp only[bM] at hr
  simp only[cR] at hm
  obtain⟨⟨rows,ho⟩,hm⟩:=hm
  obtain⟨h1,h2⟩:=jm hr hm
  refine⟨?_, ?_⟩
  ·simp only[cM,List.flatMap_cons,h1,aC,cond_true]
  ·simp only[cM,cR]
   exact⟨⟨_,ho,.inr ⟨rfl,t,e,ts,rows,rfl⟩⟩,h2⟩
 | .box _ _ _::l,hr,_=>by simp [bM] at hr
 | .gone _ _::l,hr,_=>by simp [bM] at hr
 | .cH _ _ _ _::l,hr,_=>by simp [bM] at hr
 | .ln::l,hr,hm=>by
  simp only[bM] at hr
  simp only[cR] at hm
  obtain⟨h1,h2⟩:=jm hr hm
  exact⟨by simp only[cM,List.flatMap_cons,h1,aC,List.nil_append],h2⟩
theorem cZ (hc:Core w0 S f h β φ tm w):∀(cs:List CT) (ts:List TypeId) (ss:List SV) (us:List Value) (q:List DC×List MU),af w (Av h β) β ss us→(aT cs ts ss).val f h=some q→
  c7 w cs ts q.1 us (q.2.flatMap (aC β))∧cR h q.2
 | [],ts,ss,us,q,hs,hq=>by
  cases ts with
  | nil=>
   cases ss with
   | nil=>
    simp only[aT,M.aa,Option.some.injEq] at hq
    subst hq
    simp only[af] at hs
    exact⟨⟨rfl,rfl,hs,rfl⟩,trivial⟩
   | cons s ss=>simp [aT] at hq
  | cons t ts=>simp [aT] at hq
 | .int k::cs,ts,ss,us,q,hs,hq=>by
  cases ss with
  | nil=>simp [aT] at hq
  | cons s ss=>
   simp only[af] at hs
   obtain⟨v,aL,rfl,h1,h2⟩:=hs
   simp only[aT,M.ae,Option.bind_eq_some_iff,M.aa,Option.some.injEq] at hq
   obtain⟨q1,aG,q2,cu,rfl⟩:=hq
   obtain⟨fp,hr,_⟩:=dn hc h1 aG
   obtain⟨k1,k2⟩:=cZ hc cs ts ss aL q2 h2 cu
   refine⟨?_,k2⟩
   simp only[c7]
   refine⟨q1.1,q2.1,v,aL,rfl,rfl, ?_,k1⟩
   simp only[bU] at hr ⊢
   obtain⟨n,a,b,c,_⟩:=hr
   exact⟨n,a,b,c,trivial⟩
 | .bool::cs,ts,ss,us,q,hs,hq=>by
  cases ss with
  | nil=>simp [aT] at hq
  | cons s ss=>
   simp only[af] at hs
   obtain⟨v,aL,rfl,h1,h2⟩:=hs
   simp only[aT,M.ae,Option.bind_eq_some_iff,M.aa,Option.some.injEq] at hq
   obtain⟨q1,aG,q2,cu,rfl⟩:=hq
   obtain⟨fp,hr,_⟩:=dn hc h1 aG
   obtain⟨k1,k2⟩:=cZ hc cs ts ss aL q2 h2 cu
   refine⟨?_,k2⟩
   simp only[c7]
   refine⟨q1.1,q2.1,v,aL,rfl,rfl, ?_,k1⟩
   simp only[bU] at hr ⊢
   obtain⟨n,a,b,_⟩:=hr
   exact⟨n,a,b,trivial⟩
 | .str::cs,ts,ss,us,q,hs,hq=>by
  cases ss with
  | nil=>simp [aT] at hq
  | cons s ss=>
   simp only[af] at hs
   obtain⟨v,aL,rfl,h1,h2⟩:=hs
   simp only[aT,M.ae,Option.bind_eq_some_iff,M.aa,Option.some.injEq] at hq
   obtain⟨q1,aG,q2,cu,rfl⟩:=hq
   obtain⟨fp,hr,_⟩:=dn hc h1 aG
   obtain⟨k1,k2⟩:=cZ hc cs ts ss aL q2 h2 cu
   refine⟨?_,k2⟩
   simp only[c7]
   refine⟨q1.1,q2.1,v,aL,rfl,rfl, ?_,k1⟩
   simp only[bU] at hr ⊢
   obtain⟨n,a,b,c,_⟩:=hr
   exact⟨n,a,b,c,trivial⟩
 | .sl el::cs,ts,ss,us,q,hs,hq=>by
  cases ts with
  | nil=>simp [aT] at hq
  | cons t ts=>
   cases ss with
   | nil=>simp [aT] at hq
   | cons s ss=>
    simp only[af] at hs
    obtain⟨v,aL,rfl,h1,h2⟩:=hs
    simp only[aT,M.ae,Option.bind_eq_some_iff,M.aa,Option.some.injEq] at hq
    obtain⟨q1,aG,q2,cu,rfl⟩:=hq
    obtain⟨k1,k2⟩:=cZ hc cs ts ss aL q2 h2 cu
    cases s with
    | nil=>
     simp only at aG
     cases eb:aq el
     ·simp [eb] at aG
     ·simp only[eb,cond_true,M.aa,Option.some.injEq] at aG
      subst aG
      simp only[ak] at h1
      subst h1
      refine⟨?_,k2⟩
      simp only[c7]
      exact⟨t,ts,[],q2.1,_,aL,[],[],q2.2.flatMap (aC β),rfl,rfl,rfl,eb,⟨by simp,.inl ⟨rfl,rfl,rfl⟩⟩,⟨rfl,by simp⟩,k1,by simp [aC,Value.ownBlock]⟩
    | own id=>
     simp only[M.aS,Option.bind_eq_some_iff] at aG
     obtain⟨ob,aJ,aG⟩:=aG
     cases ob with
     | row t' e' r fz u=>
      cases fz with
      | true=>simp at aG
      | false=>
       simp only at aG
       cases aH:Nat.beq t' t && aF e' el && aq el
       ·simp [aH] at aG
       ·simp only[aH,cond_true,M.aa,Option.some.injEq] at aG
        subst aG
        simp only[Bool.and_eq_true] at aH
        have ht:=Nat.eq_of_beq_eq_true aH.1.1
        have he:=aM _ _ aH.1.2
        subst ht
        subst he
        simp only[ak] at h1
        obtain⟨vals,aA,g1,g2,_,_⟩:=hc.ay id _ aJ
        refine⟨?_,⟨⟨aH.2,r,aJ⟩,k2⟩⟩
        simp only[c7]
        refine⟨t',ts,r,q2.1,v,aL,vals,aA,q2.2.flatMap (aC β),rfl,rfl,rfl,aH.2,by rw[h1.1];exact g1,g2,k1, ?_⟩
        simp only[List.flatMap_cons,aC,h1.1]
     | box _ _=>simp at aG
     | dV _ _=>simp at aG
     | deep _ _ _ _ _=>simp at aG
    | _=>simp at aG
theorem gB.one {t:TT} {e:List CT} {rows:List (List DC)} {v:Value} {mb:List Nat} (h:gB w t e rows v mb):v.oneCell'=true:=by
 cases t with
 | flat t=>
  obtain⟨_,_,_,h1,_⟩:=h
  exact h1.one
 | deep t its=>
  obtain⟨_,_,h1,_⟩:=h
  exact h1.one
theorem cv (hc:Core w0 S f h β φ tm w):∀(cs:List CT) (ts:List TT) (ss:List SV) (us:List Value) (q:List DC×List MU),af w (Av h β) β ss us→(aw cs ts ss).val f h=some q→
  aQ w cs ts q.1 us (q.2.flatMap (aC β))∧cR h q.2
 | [],ts,ss,us,q,hs,hq=>by
  cases ts with
  | nil=>
   cases ss with
   | nil=>
    simp only[aw,M.aa,Option.some.injEq] at hq
    subst hq
    simp only[af] at hs
    exact⟨⟨rfl,rfl,hs,rfl⟩,trivial⟩
   | cons s ss=>simp [aw] at hq
  | cons t ts=>simp [aw] at hq
 | .int k::cs,ts,ss,us,q,hs,hq=>by
  cases ss with
  | nil=>simp [aw] at hq
  | cons s ss=>
   simp only[af] at hs
   obtain⟨v,aL,rfl,h1,h2⟩:=hs
   simp only[aw,M.ae,Option.bind_eq_some_iff,M.aa,Option.some.injEq] at hq
   obtain⟨q1,aG,q2,cu,rfl⟩:=hq
   obtain⟨fp,hr,_⟩:=dn hc h1 aG
   obtain⟨k1,k2⟩:=cv hc cs ts ss aL q2 h2 cu
   refine⟨?_,k2⟩
   simp only[aQ]
   refine⟨q1.1,q2.1,v,aL,rfl,rfl, ?_,k1⟩
   simp only[bU] at hr ⊢
   obtain⟨n,a,b,c,_⟩:=hr
   exact⟨n,a,b,c,trivial⟩
 | .bool::cs,ts,ss,us,q,hs,hq=>by
  cases ss with
  | nil=>simp [aw] at hq
  | cons s ss=>
   simp only[af] at hs
   obtain⟨v,aL,rfl,h1,h2⟩:=hs
   simp only[aw,M.ae,Option.bind_eq_some_iff,M.aa,Option.some.injEq] at hq
   obtain⟨q1,aG,q2,cu,rfl⟩:=hq
   obtain⟨fp,hr,_⟩:=dn hc h1 aG
   obtain⟨k1,k2⟩:=cv hc cs ts ss aL q2 h2 cu
   refine⟨?_,k2⟩
   simp only[aQ]
   refine⟨q1.1,q2.1,v,aL,rfl,rfl, ?_,k1⟩
   simp only[bU] at hr ⊢
   obtain⟨n,a,b,_⟩:=hr
   exact⟨n,a,b,trivial⟩
 | .str::cs,ts,ss,us,q,hs,hq=>by
  cases ss with
  | nil=>simp [aw] at hq
  | cons s ss=>
   simp only[af] at hs
   obtain⟨v,aL,rfl,h1,h2⟩:=hs
   simp only[aw,M.ae,Option.bind_eq_some_iff,M.aa,Option.some.injEq] at hq
   obtain⟨q1,aG,q2,cu,rfl⟩:=hq
   obtain⟨fp,hr,_⟩:=dn hc h1 aG
   obtain⟨k1,k2⟩:=cv hc cs ts ss aL q2 h2 cu
   refine⟨?_,k2⟩
   simp only[aQ]
   refine⟨q1.1,q2.1,v,aL,rfl,rfl, ?_,k1⟩
   simp only[bU] at hr ⊢
   obtain⟨n,a,b,c,_⟩:=hr
   exact⟨n,a,b,c,trivial⟩
 | .sl el::cs,ts,ss,us,q,hs,hq=>by
  cases ts with
  | nil=>simp [aw] at hq
  | cons t ts=>
   cases ss with
   | nil=>cases t<;>simp [aw] at hq
   | cons s ss=>
    simp only[af] at hs
    obtain⟨v,aL,rfl,h1,h2⟩:=hs
    cases t with
    | flat t=>
     simp only[aw,M.ae,Option.bind_eq_some_iff,M.aa,Option.some.injEq] at hq
     obtain⟨q1,aG,q2,cu,rfl⟩:=hq
     obtain⟨k1,k2⟩:=cv hc cs ts ss aL q2 h2 cu
     cases s with
     | nil=>
      simp only at aG
      cases eb:aq el
      ·simp [eb] at aG
      ·simp only[eb,cond_true,M.aa,Option.some.injEq] at aG
       subst aG
       simp only[ak] at h1
       subst h1
       refine⟨?_,k2⟩
       simp only[aQ]
       exact⟨.flat t,ts,[],q2.1,_,aL,[],q2.2.flatMap (aC β),rfl,rfl,rfl,⟨eb,[],[],⟨by simp,.inl ⟨rfl,rfl,rfl⟩⟩,⟨rfl,by simp⟩,by simp [Value.ownBlock]⟩,k1,by simp [aC]⟩
     | own id=>
      simp only[M.aS,Option.bind_eq_some_iff] at aG
      obtain⟨ob,aJ,aG⟩:=aG
      cases ob with
      | row t' e' r fz u=>
       cases fz with
       | true=>simp at aG
       | false=>
        simp only at aG
        cases aH:Nat.beq t' t && aF e' el && aq el
        ·simp [aH] at aG
        ·simp only[aH,cond_true,M.aa,Option.some.injEq] at aG
         subst aG
         simp only[Bool.and_eq_true] at aH
         have ht:=Nat.eq_of_beq_eq_true aH.1.1
         have he:=aM _ _ aH.1.2
         subst ht
         subst he
         simp only[ak] at h1
         obtain⟨vals,aA,g1,g2,_,_⟩:=hc.ay id _ aJ
         refine⟨?_,⟨⟨aH.2,r,aJ⟩,k2⟩⟩
         simp only[aQ]
         refine⟨.flat t',ts,r,q2.1,v,aL,v.ownBlock.toList,q2.2.flatMap (aC β),rfl,rfl,rfl,⟨aH.2,vals,aA,by rw[h1.1];exact g1,g2,rfl⟩,k1, ?_⟩
         simp only[List.flatMap_cons,aC,h1.1]
      | box _ _=>simp at aG
      | dV _ _=>simp at aG
      | deep _ _ _ _ _=>simp at aG
     | _=>simp at aG
    | deep t its=>
     simp only[aw,M.ae,Option.bind_eq_some_iff,M.aa,Option.some.injEq] at hq
     obtain⟨q1,aG,q2,cu,rfl⟩:=hq
     obtain⟨k1,k2⟩:=cv hc cs ts ss aL q2 h2 cu
     cases s with
     | nil=>
      simp only[M.aa,Option.some.injEq] at aG
      subst aG
      simp only[ak] at h1
      subst h1
      refine⟨?_,k2⟩
      simp only[aQ]
      exact⟨.deep t its,ts,[],q2.1,_,aL,[],q2.2.flatMap (aC β),rfl,rfl,rfl,⟨[],[],⟨by simp,.inl ⟨rfl,rfl,rfl⟩⟩,⟨rfl,by simp⟩,by simp [Value.ownBlock]⟩,k1,by simp [aC]⟩
     | own id=>
      simp only[M.aS,Option.bind_eq_some_iff] at aG
      obtain⟨ob,aJ,aG⟩:=aG
      cases ob with
      | deep t' e' dB r hl=>
       cases hl with
       | some _=>simp at aG
       | none=>
        simp only at aG
        cases aH:Nat.beq t' t && aF e' el && fv dB its
        ·simp [aH] at aG
        ·simp only[aH,cond_true,M.aa,Option.some.injEq] at aG
         subst aG
         simp only[Bool.and_eq_true] at aH
         have ht:=Nat.eq_of_beq_eq_true aH.1.1
         have he:=aM _ _ aH.1.2
         have Fv:=fW _ _ aH.2
         subst ht
         subst he
         subst Fv
         simp only[ak] at h1
         obtain⟨vals,aR,g1,g2,g3,_⟩:=hc.ay id _ aJ
         refine⟨?_,⟨⟨r,aJ⟩,k2⟩⟩
         simp only[aQ]
         refine⟨.deep t' dB,ts,r,q2.1,v,aL,v.ownBlock.toList++aR.flatten,q2.2.flatMap (aC β),rfl,rfl,rfl,⟨vals,aR,by rw[h1.1];exact g1,g2,rfl⟩,k1, ?_⟩
         simp only[List.flatMap_cons,aC,h1.1,g3]
      | box _ _=>simp at aG
      | dV _ _=>simp at aG
      | row _ _ _ _ _=>simp at aG
     | _=>simp at aG
theorem me (hc:Core w0 S f h β φ tm w) {k:AK} {ts:List TT} {s:SV} {v:Value} {q1:List DC×List MU} (h1:ak w (Av h β) β s v) (aG:(hO k ts s).val f h=some q1):
  (∃us:List Value,(bif k.agg then v= .agg us.toArray else (us=[v]∧v.oneCell'=true))∧(∀x∈us,x.oneCell'=true)∧aQ w k.bz ts q1.1 us (q1.2.flatMap (aC β)))∧cR h q1.2:=by
 unfold hO at aG
 cases hk:k.agg with
 | true=>
  cases s with
  | agg cs=>
   simp only[hk] at aG
   simp only[ak] at h1
   obtain⟨us,rfl,fX,ba⟩:=h1
   obtain⟨r1,r2⟩:=cv hc k.bz ts cs us q1 fX aG
   exact⟨⟨us,rfl,ba,r1⟩,r2⟩
  | _=>simp [hk] at aG
 | false=>
  have kZ:(aw k.bz ts [s]).val f h=some q1:=by
   cases s<;>simp only[hk] at aG<;>first | exact aG | (simp at aG)
  have gS:af w (Av h β) β [s] [v]:=by simp only[af];exact⟨v,[],rfl,h1,rfl⟩
  obtain⟨r1,r2⟩:=cv hc k.bz ts [s] [v] q1 gS kZ
  have ba:v.oneCell'=true:=by
   cases Er:k.bz with
   | nil=>rw[Er] at r1;simp only[aQ] at r1;simp at r1
   | cons c cs=>
    rw[Er] at r1
    cases c with
    | sl el=>
     simp only[aQ] at r1
     obtain⟨t,dB,rows,aW,v',aL,m1,fQ,_,_,e0,h3,_⟩:=r1
     injection e0 with e0
     subst e0
     exact h3.one
    | int _=>simp only[aQ] at r1;obtain⟨d,aW,v',aL,_,e0,h3,_⟩:=r1;injection e0 with e0;subst e0;exact h3.one
    | bool=>simp only[aQ] at r1;obtain⟨d,aW,v',aL,_,e0,h3,_⟩:=r1;injection e0 with e0;subst e0;exact h3.one
    | str=>simp only[aQ] at r1;obtain⟨d,aW,v',aL,_,e0,h3,_⟩:=r1;injection e0 with e0;subst e0;exact h3.one
  exact⟨⟨[v],⟨rfl,ba⟩,by simpa using ba,r1⟩,r2⟩
theorem eR (hc:Core w0 S f h β φ tm w):∀(ks:List AK) (ms:List (Option MK)) (ss:List SV) (vs:List Value) (q:List DC×eJ×List MU),af w (Av h β) β ss vs→(a7 ks ms ss).val f h=some q→
  ∃fp,cG w ks ms q.1 vs fp (q.2.2.flatMap (aC β))∧bR h q.2.1∧cR h q.2.2∧∀b∈fp,(¬Av h β b)∨∃x∈q.2.1,b∈eH h β x.1
 | [],ms,ss,vs,q,hs,hq=>by
  cases ms with
  | nil=>
   cases ss with
   | nil=>
    simp only[a7,M.aa,Option.some.injEq] at hq
    subst hq
    simp only[af] at hs
    exact⟨[],⟨rfl,rfl,hs,rfl,rfl⟩,by simp [bR],trivial,by simp⟩
   | cons s ss=>simp [a7] at hq
  | cons m ms=>simp [a7] at hq
 | k::ks,ms,ss,vs,q,hs,hq=>by
  cases ms with
  | nil=>simp [a7] at hq
  | cons m ms=>
   cases ss with
   | nil=>cases m with
    | none=>simp [a7] at hq
    | some m=>cases m<;>simp [a7] at hq
   | cons s ss=>
    simp only[af] at hs
    obtain⟨v,l,rfl,h1,h2⟩:=hs
    cases m with
    | none=>
     simp only[a7,M.ae,Option.bind_eq_some_iff,M.aa,Option.some.injEq] at hq
     obtain⟨q1,aG,q2,cu,rfl⟩:=hq
     obtain⟨gb,Dr,C6,Dx,iB⟩:=eR hc ks ms ss l q2 h2 cu
     have kZ:(je [k] [s]).val f h=some (q1.1++[],q1.2.1++[]):=by
      simp only[je,M.ae,Option.bind_eq_some_iff,M.aa,Option.some.injEq]
      exact⟨q1,aG,([],[]),rfl,rfl⟩
     have gS:af w (Av h β) β [s] [v]:=by simp only[af];exact⟨v,[],rfl,h1,rfl⟩
     obtain⟨lh,Gi,FM,jn⟩:=lC hc [k] [s] [v] _ gS kZ
     simp only[List.append_nil] at Gi FM jn
     obtain⟨d1,d2,v',cJ,f1,f2,e1,e2,Gi,⟨rfl,rfl,rfl⟩,rfl⟩:=Gi
     simp only[List.append_nil] at e1 jn
     simp only[List.cons.injEq,and_true] at e2
     subst e2
     subst e1
     refine⟨f1++gb,⟨none,ms,q1.1,q2.1,v,l,f1,gb,[],q2.2.2.flatMap (aC β),rfl,rfl,rfl,⟨Gi,rfl⟩,Dr,rfl,rfl⟩,eO FM C6,Dx, ?_⟩
     intro b hb
     rcases List.mem_append.1 hb with hb | hb
     ·rcases jn b hb with h3 | ⟨x,hx,h3⟩
      ·exact .inl h3
      ·exact .inr ⟨x,List.mem_append_left _ hx,h3⟩
     ·rcases iB b hb with h3 | ⟨x,hx,h3⟩
      ·exact .inl h3
      ·exact .inr ⟨x,List.mem_append_right _ hx,h3⟩
    | some m=>
     cases m with
     | box t=>
      cases s with
      | ptr id off=>
       cases off with
       | succ off=>simp [a7] at hq
       | zero=>
        simp only[a7,M.aS,Option.bind_eq_some_iff] at hq
        obtain⟨ob,aJ,hq⟩:=hq
        cases ob with
        | box t' cells=>
         simp only at hq
         cases kg:Nat.beq t' t
         ·simp [kg] at hq
         ·have kh:=Nat.eq_of_beq_eq_true kg
          subst kh
          simp only[kg,cond_true,M.ae,Option.bind_eq_some_iff] at hq
          obtain⟨q1,aG,hq⟩:=hq
          cases Fq:q1.2.1.isEmpty
          ·simp [Fq] at hq
          ·simp only[Fq,cond_true,M.ae,Option.bind_eq_some_iff,M.aa,Option.some.injEq] at hq
           obtain⟨q2,cu,rfl⟩:=hq
           obtain⟨gb,Dr,C6,Dx,iB⟩:=eR hc ks ms ss l q2 h2 cu
           obtain⟨us,g1,g2,g3,_⟩:=hc.ay id _ aJ
           obtain⟨lh,hr,FM,jn,_⟩:=dR hc k.bz cells us q1 g2 aG
           have hl:=af.length _ _ g2
           have jT:=cC _ _ _ aG
           simp only[ak] at h1
           have Kq:q1.2.1=[]:=List.isEmpty_iff.1 Fq
           refine⟨lh++gb,⟨some (.box t'),ms,q1.1,q2.1,v,l,lh,gb,[β.cS id],q2.2.2.flatMap (aC β),rfl,rfl,rfl,⟨β.cS id,us,h1,g1,g3,hr,by omega,rfl⟩,Dr,rfl,by simp [aC]⟩,C6,⟨⟨cells,aJ⟩,Dx⟩, ?_⟩
           intro b hb
           rcases List.mem_append.1 hb with hb | hb
           ·rcases jn b hb with h3 | ⟨x,hx,h3⟩
            ·exact .inl h3
            ·rw[Kq] at hx
             simp at hx
           ·exact iB b hb
        | row _ _ _ _ _=>simp at hq
        | dV _ _=>simp at hq
        | deep _ _ _ _ _=>simp at hq
      | _=>simp [a7] at hq
     | rows ts=>
      simp only[a7,M.ae,Option.bind_eq_some_iff,M.aa,Option.some.injEq] at hq
      obtain⟨q1,aG,q2,cu,rfl⟩:=hq
      obtain⟨gb,Dr,C6,Dx,iB⟩:=eR hc ks ms ss l q2 h2 cu
      obtain⟨⟨us,a1,a2,a3⟩,a4⟩:=me hc h1 aG
      refine⟨gb,⟨some (.rows ts),ms,q1.1,q2.1,v,l,[],gb,q1.2.flatMap (aC β),q2.2.2.flatMap (aC β),rfl,rfl,rfl,⟨us,a1,a2,a3,rfl⟩,Dr,rfl,by simp⟩,C6,a4.append Dx,iB⟩
     | jl ts=>
      simp only[a7,M.ae,Option.bind_eq_some_iff] at hq
      obtain⟨q1,aG,hq⟩:=hq
      cases AG:bM q1.2
      ·simp [AG] at hq
      simp only[AG,cond_true,M.ae,Option.bind_eq_some_iff,M.aa,Option.some.injEq] at hq
      obtain⟨q2,cu,rfl⟩:=hq
      obtain⟨gb,Dr,C6,Dx,iB⟩:=eR hc ks ms ss l q2 h2 cu
      obtain⟨⟨us,a1,a2,a3⟩,a4⟩:=me hc h1 aG
      obtain⟨g1,g2⟩:=jm (β:=β) AG a4
      refine⟨gb,⟨some (.jl ts),ms,q1.1,q2.1,v,l,[],gb,q1.2.flatMap (aC β),q2.2.2.flatMap (aC β),rfl,rfl,rfl,⟨us,a1,a2,a3,rfl⟩,Dr,rfl,by rw[List.flatMap_append,g1]⟩,C6,g2.append Dx,iB⟩
     | cH t ts=>
      cases s with
      | ptr id off=>
       cases off with
       | succ off=>simp [a7] at hq
       | zero=>
        simp only[a7,M.aS,Option.bind_eq_some_iff] at hq
        obtain⟨ob,aJ,hq⟩:=hq
        cases ob with
        | box t' cells=>
         simp only at hq
         cases kg:Nat.beq t' t
         ·simp [kg] at hq
         ·have kh:=Nat.eq_of_beq_eq_true kg
          subst kh
          simp only[kg,cond_true,M.ae,Option.bind_eq_some_iff] at hq
          obtain⟨q1,aG,hq⟩:=hq
          cases AG:bM q1.2
          ·simp [AG] at hq
          simp only[AG,cond_true,M.ae,Option.bind_eq_some_iff,M.aa,Option.some.injEq] at hq
          obtain⟨q2,cu,rfl⟩:=hq
          obtain⟨gb,Dr,C6,Dx,iB⟩:=eR hc ks ms ss l q2 h2 cu
          obtain⟨us,g1,g2,g3,_⟩:=hc.ay id _ aJ
          obtain⟨r1,r2⟩:=cv hc k.bz ts cells us q1 g2 aG
          obtain⟨e1,e2⟩:=jm (β:=β) AG r2
          simp only[ak] at h1
          refine⟨gb,⟨some (.cH t' ts),ms,q1.1,q2.1,v,l,[],gb,β.cS id::q1.2.flatMap (aC β),q2.2.2.flatMap (aC β),rfl,rfl,rfl,⟨β.cS id,us,_,h1,g1,g3,r1,rfl,rfl⟩,Dr,rfl, ?_⟩,C6,⟨⟨cells,aJ⟩,e2.append Dx⟩,iB⟩
          simp only[List.flatMap_cons,List.flatMap_append,e1,aC,List.cons_append,List.nil_append]
        | row _ _ _ _ _=>simp at hq
        | dV _ _=>simp at hq
        | deep _ _ _ _ _=>simp at hq
      | _=>simp [a7] at hq
end
end Go.Proofs.YtoaflbnkiobhdaaGreat.Vm
set_option linter.unusedVariables false
set_option linter.unusedSimpArgs false
namespace Go.Proofs.YtoaflbnkiobhdaaGreat.Vm
section
variable {P:Program} {Γ:Ctx} {w0:World} {S:Own} {st:St} {o:Oper} {e:cF} {a:Act} {w w':World}
variable {f:Nat→SV} {h:Nat→Option aj} {β:Env} {φ:Nat→List Nat} {tm:Array Value}
def bp (d:Nat):Nat→List MU→List DC→List (Nat×aj)
 | _,[],_=>[]
 | k,.box id t cs::l,ds=>(id,.box t (cb cs ds 0))::bp d k l (ds.drop cs.length)
 | k,.row id t e u::l,ds=>(id,.row t e (ds.headD default).cj false u)::bp d k l ds.tail
 | k,.deep id t e ts::l,ds=>(id,.deep t e ts (ds.headD default).cj none)::bp d k l ds.tail
 | k,.gone _ _::l,ds=>bp d k l ds
 | k,.cH id t cs ts::l,ds=>(id,.box t (bg d k cs ts ds).1)::bp d (k+aB cs) l (ds.drop cs.length)
 | k,.ln::l,ds=>bp d k l ds.tail
theorem gl {d:Nat} :∀(k:Nat) (U:List MU) (ds:List DC),iY d k U ds=(bp d k U ds).map fun x=>(x.1,some x.2)
 | _,[],_=>rfl
 | k,.box id t cs::l,ds=>by simp only[iY,bp,List.map_cons,gl k l]
 | k,.row id t e u::l,ds=>by simp only[iY,bp,List.map_cons,gl k l]
 | k,.deep id t e ts::l,ds=>by simp only[iY,bp,List.map_cons,gl k l]
 | k,.gone id dp::l,ds=>by simp only[iY,bp,gl k l]
 | k,.cH id t cs ts::l,ds=>by simp only[iY,bp,List.map_cons,gl (k+aB cs) l]
 | k,.ln::l,ds=>by simp only[iY,bp,gl k l]
def bW:List MU→List Nat
 | []=>[]
 | .box id _ _::l=>id::bW l
 | .row id _ _ _::l=>id::bW l
 | .deep id _ _ _::l=>id::bW l
 | .gone _ _::l=>bW l
 | .cH id _ _ _::l=>id::bW l
 | .ln::l=>bW l
theorem gm {i:Nat} :∀(U:List MU),(i∈bm U↔i∈bW U∨i∈cm U)
 | []=>by simp [bm,bW,cm]
 | .box id _ _::l=>by simp only[bm,bW,cm,List.mem_cons,gm l,or_assoc]
 | .row id _ _ _::l=>by simp only[bm,bW,cm,List.mem_cons,gm l,or_assoc]
 | .deep id _ _ _::l=>by simp only[bm,bW,cm,List.mem_cons,gm l,or_assoc]
 | .gone id _::l=>by
  simp only[bm,bW,cm,List.mem_cons,gm l]
  constructor
  ·rintro (h | h | h)
   ·exact .inr (.inl h)
   ·exact .inl h
   ·exact .inr (.inr h)
  ·rintro (h | h | h)
   ·exact .inr (.inl h)
   ·exact .inl h
   ·exact .inr (.inr h)
 | .cH id _ _ _::l=>by simp only[bm,bW,cm,List.mem_cons,gm l,or_assoc]
 | .ln::l=>by simp only[bm,bW,cm,gm l]
theorem dr {d:Nat} :∀(k:Nat) (U:List MU) (ds:List DC),(bp d k U ds).map (·.1)=bW U
 | _,[],_=>rfl
 | k,.box id t cs::l,ds=>by simp only[bp,bW,List.map_cons,dr k l]
 | k,.row id t e u::l,ds=>by simp only[bp,bW,List.map_cons,dr k l]
 | k,.deep id t e ts::l,ds=>by simp only[bp,bW,List.map_cons,dr k l]
 | k,.gone id dp::l,ds=>by simp only[bp,bW,dr k l]
 | k,.cH id t cs ts::l,ds=>by simp only[bp,bW,List.map_cons,dr (k+aB cs) l]
 | k,.ln::l,ds=>by simp only[bp,bW,dr k l]
def dh:List MU→Nat
 | []=>0
 | .box _ _ cs::l=>cs.length+dh l
 | .row _ _ _ _::l=>1+dh l
 | .deep _ _ _ _::l=>1+dh l
 | .gone _ _::l=>dh l
 | .cH _ _ cs _::l=>cs.length+dh l
 | .ln::l=>1+dh l
theorem il:∀(cs:List CT) (d1 d2:List DC) (k:Nat),k+cs.length≤d1.length→cb cs (d1++d2) k=cb cs d1 k
 | [],_,_,_,_=>rfl
 | c::cs,d1,d2,k,h=>by
  simp only[cb]
  simp only[List.length_cons] at h
  rw[il cs d1 d2 (k+1) (by omega)]
  congr 2
  simp only[List.getD_eq_getElem?_getD]
  rw[List.getElem?_append_left (by omega)]
theorem jD {d:Nat} :∀(k:Nat) (cs:List CT) (ts:List TT) (d1 d2:List DC),cs.length≤d1.length→bg d k cs ts (d1++d2)=bg d k cs ts d1
 | _,[],_,_,_,_=>rfl
 | k,c::cs,ts,d1,d2,hl=>by
  cases d1 with
  | nil=>simp at hl
  | cons x d1=>
   have DQ:cs.length≤d1.length:=by simpa using hl
   cases c<;>simp only[List.cons_append,bg,List.headD_cons,List.tail_cons]<;>rw[jD _ cs _ d1 d2 DQ]
theorem d9 {d:Nat} :∀(k:Nat) (U V:List MU) (d1 d2:List DC),dh U=d1.length→bp d k (U++V) (d1++d2)=bp d k U d1++bp d (k+aP U) V d2∧dx d k (U++V) (d1++d2)=dx d k U d1++dx d (k+aP U) V d2
 | k,[],V,d1,d2,hl=>by
  have:d1=[]:=List.length_eq_zero_iff.1 hl.symm
  subst this
  exact⟨rfl,rfl⟩
 | k,.box id t cs::l,V,d1,d2,hl=>by
  simp only[dh] at hl
  obtain⟨h1,h2⟩:=d9 (d:=d) k l V (d1.drop cs.length) d2 (by simp;omega)
  simp only[List.cons_append,bp,dx,aP]
  rw[il _ _ _ _ (by omega),List.drop_append_of_le_length (by omega),h1,h2]
  exact⟨rfl,rfl⟩
 | k,.row id t e u::l,V,d1,d2,hl=>by
  simp only[dh] at hl
  cases d1 with
  | nil=>simp at hl
  | cons x d1=>
   obtain⟨h1,h2⟩:=d9 (d:=d) k l V d1 d2 (by simp at hl;omega)
   simp only[List.cons_append,bp,dx,aP,List.headD_cons,List.tail_cons,h1,h2,and_self]
 | k,.deep id t e ts::l,V,d1,d2,hl=>by
  simp only[dh] at hl
  cases d1 with
  | nil=>simp at hl
  | cons x d1=>
   obtain⟨h1,h2⟩:=d9 (d:=d) k l V d1 d2 (by simp at hl;omega)
   simp only[List.cons_append,bp,dx,aP,List.headD_cons,List.tail_cons,h1,h2,and_self]
 | k,.gone id dp::l,V,d1,d2,hl=>by
  simp only[dh] at hl
  obtain⟨h1,h2⟩:=d9 (d:=d) k l V d1 d2 hl
  simp only[List.cons_append,bp,dx,aP,h1,h2,and_self]
 | k,.cH id t cs ts::l,V,d1,d2,hl=>by
  simp only[dh] at hl
  obtain⟨h1,h2⟩:=d9 (d:=d) (k+aB cs) l V (d1.drop cs.length) d2 (by simp;omega)
  simp only[List.cons_append,bp,dx,aP]
  rw[jD _ _ _ _ _ (by omega),List.drop_append_of_le_length (by omega),h1,h2,←Nat.add_assoc,List.append_assoc]
  exact⟨rfl,rfl⟩
 | k,.ln::l,V,d1,d2,hl=>by
  simp only[dh] at hl
  cases d1 with
  | nil=>simp at hl
  | cons x d1=>
   obtain⟨h1,h2⟩:=d9 (d:=d) k l V d1 d2 (by simp at hl;omega)
   simp only[List.cons_append,bp,dx,aP,List.tail_cons,h1,h2,and_self]
theorem jc:∀(cs:List CT) (r:List DC) (g:Nat→Option Value) (fp:List Nat),aq cs=true→aZ w cs r g fp→fp=[]
 | [],r,g,fp,_,h=>by simp only[aZ] at h;exact h.2
 | c::cs,r,g,fp,hf,h=>by
  simp only[aZ] at h
  obtain⟨d,r',v,f1,f2,rfl,_,h1,h2,rfl⟩:=h
  cases c with
  | sl e=>simp [aq] at hf
  | int k=>
   simp only[bU] at h1
   obtain⟨_,_,_,_,rfl⟩:=h1
   rw[jc cs r' _ f2 (by simpa [aq] using hf) h2]
   rfl
  | bool=>
   simp only[bU] at h1
   obtain⟨_,_,_,rfl⟩:=h1
   rw[jc cs r' _ f2 (by simpa [aq] using hf) h2]
   rfl
  | str=>
   simp only[bU] at h1
   obtain⟨_,_,_,_,rfl⟩:=h1
   rw[jc cs r' _ f2 (by simpa [aq] using hf) h2]
   rfl
theorem gD {e:List CT} {rows:List (List DC)} {vals:List Value} {aA:List (List Nat)} (hf:aq e=true) (h:dC w e rows vals aA):aA.flatten=[]:=by
 rw[List.flatten_eq_nil_iff]
 intro l hl
 obtain⟨i,hi,rfl⟩:=List.getElem_of_mem hl
 have dI:i<rows.length:=by have:=h.1;omega
 exact jc e _ _ _ hf (h.2 i rows[i] aA[i] (by simp) (by simp))
theorem ew {d:Nat} :∀(k:Nat) (cs:List CT) (ts:List TT) (ds:List DC) (us:List Value) (mb:List Nat),aQ w' cs ts ds us mb→
  ∃N:List ar,(bg d k cs ts ds).2=cQ N∧N.map (·.id)=(List.range' k (aB cs)).map (ag d)∧(∀x∈N,x.ok w')∧N.flatMap ar.bA=mb∧ds.length=cs.length∧
   ∀(av:Nat→Prop) (β':Env),(∀x∈N,β'.val x.id=x.v)→af w' av β' (bg d k cs ts ds).1 us
 | k,[],ts,ds,us,mb,hm=>by
  simp only[aQ] at hm
  obtain⟨rfl,rfl,rfl,rfl⟩:=hm
  exact⟨[],rfl,rfl,by simp,rfl,rfl,fun av β' _=>by simp [bg,af]⟩
 | k,.int x::cs,ts,ds,us,mb,hm=>by
  simp only[aQ] at hm
  obtain⟨dd,aW,v,aL,rfl,rfl,h1,hm⟩:=hm
  obtain⟨N,e1,e2,e3,e4,e5,e6⟩:=ew (d:=d) k cs ts aW aL mb hm
  refine⟨N,by simpa only[bg,List.tail_cons] using e1,by simpa only[aB] using e2,e3,e4,by simp [e5],fun av β' hb=> ?_⟩
  simp only[bg,List.headD_cons,List.tail_cons,af]
  exact⟨v,aL,rfl,c5 h1 (by simp),e6 av β' hb⟩
 | k,.bool::cs,ts,ds,us,mb,hm=>by
  simp only[aQ] at hm
  obtain⟨dd,aW,v,aL,rfl,rfl,h1,hm⟩:=hm
  obtain⟨N,e1,e2,e3,e4,e5,e6⟩:=ew (d:=d) k cs ts aW aL mb hm
  refine⟨N,by simpa only[bg,List.tail_cons] using e1,by simpa only[aB] using e2,e3,e4,by simp [e5],fun av β' hb=> ?_⟩
  simp only[bg,List.headD_cons,List.tail_cons,af]
  exact⟨v,aL,rfl,c5 h1 (by simp),e6 av β' hb⟩
 | k,.str::cs,ts,ds,us,mb,hm=>by
  simp only[aQ] at hm
  obtain⟨dd,aW,v,aL,rfl,rfl,h1,hm⟩:=hm
  obtain⟨N,e1,e2,e3,e4,e5,e6⟩:=ew (d:=d) k cs ts aW aL mb hm
  refine⟨N,by simpa only[bg,List.tail_cons] using e1,by simpa only[aB] using e2,e3,e4,by simp [e5],fun av β' hb=> ?_⟩
  simp only[bg,List.headD_cons,List.tail_cons,af]
  exact⟨v,aL,rfl,c5 h1 (by simp),e6 av β' hb⟩
 | k,.sl e::cs,ts,ds,us,mb,hm=>by
  simp only[aQ] at hm
  obtain⟨t,dB,rows,aW,v,aL,m1,fQ,rfl,rfl,rfl,Ep,hm,rfl⟩:=hm
  obtain⟨N,e1,e2,e3,e4,e5,e6⟩:=ew (d:=d) (k+1) cs dB aW aL fQ hm
  have one:∃x:ar,x.id=ag d k∧x.obj=ez t e rows∧x.v=v∧x.ok w'∧x.bA=m1:=by
   cases t with
   | flat t=>
    obtain⟨eb,vals,aA,h1,h2,rfl⟩:=Ep
    exact⟨⟨ag d k,t,e,rows,v,aA,none⟩,rfl,rfl,rfl,⟨vals,h1,h2⟩,by simp only[ar.bA,gD eb h2,List.append_nil]⟩
   | deep t its=>
    obtain⟨vals,aR,h1,h2,rfl⟩:=Ep
    exact⟨⟨ag d k,t,e,rows,v,aR,some its⟩,rfl,rfl,rfl,⟨vals,h1,h2⟩,rfl⟩
  obtain⟨x,x1,x2,x3,x4,x5⟩:=one
  refine⟨x::N, ?_, ?_, ?_, ?_,by simp [e5],fun av β' hb=> ?_⟩
  ·simp only[bg,List.headD_cons,List.tail_cons,cQ,List.map_cons,x1,x2,DC.cj] at e1 ⊢
   rw[e1]
  ·simp only[List.map_cons,aB,List.range'_succ,e2,x1]
  ·intro y hy
   rcases List.mem_cons.1 hy with rfl | hy
   ·exact x4
   ·exact e3 y hy
  ·simp only[List.flatMap_cons,e4,x5]
  ·simp only[bg,List.headD_cons,List.tail_cons,af]
   refine⟨v,aL,rfl, ?_,e6 av β' (fun y hy=>hb y (List.mem_cons_of_mem _ hy))⟩
   simp only[ak]
   have:=hb x (List.mem_cons_self ..)
   rw[x1,x3] at this
   exact⟨this.symm,Ep.one⟩
def DY (h:Nat→Option aj) (β:Env) (w':World) (im:List Nat) (N:List ar) (x:fw):Prop:=
 (∃o,h x.id=some o)∧∀(av:Nat→Prop) (β':Env),β'.val x.id=β.val x.id→β'.cS x.id=β.cS x.id→β'.nb x.id=x.nb→(∀y∈N,β'.val y.id=y.v)→(∀b∈im,¬av b)→fH w' av β' x.id x.obj x.bA
def jb (d k:Nat) (h:Nat→Option aj) (β:Env) (w':World) (im:List Nat) (U:List MU) (od:List DC) (mb:List Nat):Prop:=
 dh U=od.length∧∃(T:List fw) (N:List ar),T.map (fun x=>(x.id,x.obj))=bp d k U od∧dx d k U od=cQ N∧N.map (·.id)=(List.range' k (aP U)).map (ag d)∧(∀x∈N,x.ok w')∧
  (T.flatMap fw.bA++N.flatMap ar.bA).Perm mb∧∀x∈T,DY h β w' im N x
theorem jb.append {d k:Nat} {im:List Nat} {U V:List MU} {d1 d2:List DC} {m1 m2:List Nat} (h1:jb d k h β w' im U d1 m1) (h2:jb d (k+aP U) h β w' im V d2 m2):jb d k h β w' im (U++V) (d1++d2) (m1++m2):=by
 obtain⟨l1,T1,N1,e1,f1,i1,o1,b1,g1⟩:=h1
 obtain⟨l2,T2,N2,e2,f2,i2,o2,b2,g2⟩:=h2
 have hlen:∀(U V:List MU),dh (U++V)=dh U+dh V∧aP (U++V)=aP U+aP V:=by
  intro U V
  induction U with
  | nil=>simp [dh,aP]
  | cons x l ih=>cases x<;>simp only[List.cons_append,dh,aP,ih.1,ih.2,Nat.add_assoc,and_self]
 obtain⟨a1,a2⟩:=d9 (d:=d) k U V d1 d2 l1
 refine⟨by simp only[hlen,List.length_append,l1,l2],T1++T2,N1++N2,by rw[List.map_append,e1,e2,a1],by rw[a2,f1,f2];simp [cQ], ?_,fun x hx=> ?_, ?_,fun x hx=> ?_⟩
 ·rw[List.map_append,i1,i2,(hlen U V).2,←List.map_append,List.range'_append_1]
 ·rcases List.mem_append.1 hx with hx | hx
  ·exact o1 x hx
  ·exact o2 x hx
 ·refine List.Perm.trans ?_ (b1.append b2)
  simp only[List.flatMap_append,List.append_assoc]
  refine List.Perm.append_left _ ?_
  rw[←List.append_assoc,←List.append_assoc]
  exact List.Perm.append_right _ List.perm_append_comm
 ·rcases List.mem_append.1 hx with hx | hx
  ·exact⟨(g1 x hx).1,fun av β' a b c dd e=>(g1 x hx).2 av β' a b c (fun y hy=>dd y (List.mem_append_left _ hy)) e⟩
  ·exact⟨(g2 x hx).1,fun av β' a b c dd e=>(g2 x hx).2 av β' a b c (fun y hy=>dd y (List.mem_append_right _ hy)) e⟩
theorem j8 {d:Nat} (k:Nat) {im:List Nat} :∀(U:List MU),jb d k h β w' im (cM U) [] []
 | []=>⟨rfl,[],[],rfl,rfl,rfl,by simp,List.Perm.refl _,by simp⟩
 | x::l=>by
  have ih:jb d k h β w' im (cM l) [] []:=j8 k l
  cases x<;>simp only[cM]<;>first
   | exact ih
   | (obtain⟨a,T,N,b,c,dd,e,f,g⟩:=ih;exact⟨a,T,N,b,c,dd,e,f,g⟩)
theorem gB.Fa {t:TT} {e:List CT} {rows:List (List DC)} {mb:List Nat} (h:gB w t e rows (.slice none 0 0) mb):mb=[]:=by
 cases t with
 | flat t=>
  obtain⟨_,_,_,_,_,rfl⟩:=h
  rfl
 | deep t its=>
  obtain⟨vals,aR,h1,h2,rfl⟩:=h
  rcases h1.2 with ⟨_,h0,_⟩ | ⟨g,cap,cur,hv,_⟩
  ·have:aR=[]:=List.length_eq_zero_iff.1 (by rw[h2.1,h0])
   subst this
   rfl
  ·cases hv
theorem fU (hc:Core w0 S f h β φ tm w) {d:Nat} {im:List Nat} :∀(k:Nat) (cs:List CT) (ts:List TT) (ss:List SV) (us:List Value) (q:List DC×List MU) (od:List DC) (mb:List Nat),af w (Av h β) β ss us→(aw cs ts ss).val f h=some q→iJ w' cs ts od us mb→
  jb d k h β w' im q.2 od mb
 | k,[],ts,ss,us,q,od,mb,hs,hq,ho=>by
  cases ts with
  | nil=>
   cases ss with
   | nil=>
    simp only[aw,M.aa,Option.some.injEq] at hq
    subst hq
    simp only[iJ] at ho
    rw[ho.1,ho.2.2]
    exact⟨rfl,[],[],rfl,rfl,rfl,by simp,List.Perm.refl _,by simp⟩
   | cons s ss=>simp [aw] at hq
  | cons t ts=>simp [aw] at hq
 | k,.int kk::cs,ts,ss,us,q,od,mb,hs,hq,ho=>by
  cases ss with
  | nil=>simp [aw] at hq
  | cons s ss=>
   simp only[af] at hs
   obtain⟨v,aL,rfl,h1,h2⟩:=hs
   simp only[aw,M.ae,Option.bind_eq_some_iff,M.aa,Option.some.injEq] at hq
   obtain⟨q1,aG,q2,cu,rfl⟩:=hq
   simp only[iJ] at ho
   obtain⟨v',Fy,e0,ho⟩:=ho
   simp only[List.cons.injEq] at e0
   obtain⟨rfl,rfl⟩:=e0
   exact fU (d:=d) hc k cs ts ss aL q2 od mb h2 cu ho
 | k,.bool::cs,ts,ss,us,q,od,mb,hs,hq,ho=>by
  cases ss with
  | nil=>simp [aw] at hq
  | cons s ss=>
   simp only[af] at hs
   obtain⟨v,aL,rfl,h1,h2⟩:=hs
   simp only[aw,M.ae,Option.bind_eq_some_iff,M.aa,Option.some.injEq] at hq
   obtain⟨q1,aG,q2,cu,rfl⟩:=hq
   simp only[iJ] at ho
   obtain⟨v',Fy,e0,ho⟩:=ho
   simp only[List.cons.injEq] at e0
   obtain⟨rfl,rfl⟩:=e0
   exact fU (d:=d) hc k cs ts ss aL q2 od mb h2 cu ho
 | k,.str::cs,ts,ss,us,q,od,mb,hs,hq,ho=>by
  cases ss with
  | nil=>simp [aw] at hq
  | cons s ss=>
   simp only[af] at hs
   obtain⟨v,aL,rfl,h1,h2⟩:=hs
   simp only[aw,M.ae,Option.bind_eq_some_iff,M.aa,Option.some.injEq] at hq
   obtain⟨q1,aG,q2,cu,rfl⟩:=hq
   simp only[iJ] at ho
   obtain⟨v',Fy,e0,ho⟩:=ho
   simp only[List.cons.injEq] at e0
   obtain⟨rfl,rfl⟩:=e0
   exact fU (d:=d) hc k cs ts ss aL q2 od mb h2 cu ho
 | k,.sl el::cs,ts,ss,us,q,od,mb,hs,hq,ho=>by
  cases ts with
  | nil=>simp [aw] at hq
  | cons t ts=>
   cases ss with
   | nil=>cases t<;>simp [aw] at hq
   | cons s ss=>
    simp only[af] at hs
    obtain⟨v,aL,rfl,h1,h2⟩:=hs
    simp only[iJ] at ho
    obtain⟨t1,F_,rows,LF,v1,Fy,m1,fQ,e1,rfl,e2,o1,o3,rfl⟩:=ho
    simp only[List.cons.injEq] at e1 e2
    obtain⟨rfl,rfl⟩:=e1
    obtain⟨rfl,rfl⟩:=e2
    have pack:∀(q1:DC×MU) (q2:List DC×List MU),jb d k h β w' im [q1.2] [.sl rows] m1→(aw cs ts ss).val f h=some q2→jb d k h β w' im (q1.2::q2.2) (.sl rows::LF) (m1++fQ):=by
     intro q1 q2 k1 cu
     exact k1.append (fU (d:=d) hc _ cs ts ss aL q2 LF fQ h2 cu o3)
    have none_:v= .slice none 0 0→jb d k h β w' im [.ln] [.sl rows] m1:=by
     rintro rfl
     exact⟨rfl,[],[],rfl,rfl,rfl,by simp,by rw[o1.Fa];exact List.Perm.refl _,by simp⟩
    cases t with
    | flat t=>
     simp only[aw,M.ae,Option.bind_eq_some_iff,M.aa,Option.some.injEq] at hq
     obtain⟨q1,aG,q2,cu,rfl⟩:=hq
     refine pack q1 q2 ?_ cu
     cases s with
     | nil=>
      simp only at aG
      cases eb:aq el
      ·simp [eb] at aG
      ·simp only[eb,cond_true,M.aa,Option.some.injEq] at aG
       subst aG
       simp only[ak] at h1
       exact none_ h1
     | own id=>
      simp only[M.aS,Option.bind_eq_some_iff] at aG
      obtain⟨ob,aJ,aG⟩:=aG
      cases ob with
      | row t' e' r fz u=>
       cases fz with
       | true=>simp at aG
       | false=>
        simp only at aG
        cases aH:Nat.beq t' t && aF e' el && aq el
        ·simp [aH] at aG
        ·simp only[aH,cond_true,M.aa,Option.some.injEq] at aG
         subst aG
         simp only[Bool.and_eq_true] at aH
         have ht:=Nat.eq_of_beq_eq_true aH.1.1
         have he:=aM _ _ aH.1.2
         subst ht
         subst he
         simp only[ak] at h1
         obtain⟨eb,vals,aA,p1,p2,rfl⟩:=o1
         refine⟨rfl,[⟨id,.row t' e' rows false u,[],v.ownBlock.toList⟩],[],rfl,rfl,rfl,by simp,by simp,fun x hx=> ?_⟩
         rw[List.mem_singleton] at hx
         subst hx
         refine⟨⟨_,aJ⟩,fun av β' hv hb hn _ j_=> ?_⟩
         simp only at hv hb hn ⊢
         refine⟨vals,aA,by rw[hv,←h1.1];exact p1,p2,by rw[gD eb p2];simp, ?_⟩
         rw[hv,←h1.1,gD eb p2]
         cases u<;>simp
      | box _ _=>simp at aG
      | dV _ _=>simp at aG
      | deep _ _ _ _ _=>simp at aG
     | _=>simp at aG
    | deep t its=>
     simp only[aw,M.ae,Option.bind_eq_some_iff,M.aa,Option.some.injEq] at hq
     obtain⟨q1,aG,q2,cu,rfl⟩:=hq
     refine pack q1 q2 ?_ cu
     cases s with
     | nil=>
      simp only[M.aa,Option.some.injEq] at aG
      subst aG
      simp only[ak] at h1
      exact none_ h1
     | own id=>
      simp only[M.aS,Option.bind_eq_some_iff] at aG
      obtain⟨ob,aJ,aG⟩:=aG
      cases ob with
      | deep t' e' dB r hl=>
       cases hl with
       | some _=>simp at aG
       | none=>
        simp only at aG
        cases aH:Nat.beq t' t && aF e' el && fv dB its
        ·simp [aH] at aG
        ·simp only[aH,cond_true,M.aa,Option.some.injEq] at aG
         subst aG
         simp only[Bool.and_eq_true] at aH
         have ht:=Nat.eq_of_beq_eq_true aH.1.1
         have he:=aM _ _ aH.1.2
         have Fv:=fW _ _ aH.2
         subst ht
         subst he
         subst Fv
         simp only[ak] at h1
         obtain⟨vals,aR,p1,p2,rfl⟩:=o1
         refine⟨rfl,[⟨id,.deep t' e' dB rows none,aR.flatten,v.ownBlock.toList++aR.flatten⟩],[],rfl,rfl,rfl,by simp,by simp,fun x hx=> ?_⟩
         rw[List.mem_singleton] at hx
         subst hx
         refine⟨⟨_,aJ⟩,fun av β' hv hb hn _ j_=> ?_⟩
         simp only at hv hb hn ⊢
         exact⟨vals,aR,by rw[hv,←h1.1];exact p1,p2,hn,by rw[hv,←h1.1]⟩
      | box _ _=>simp at aG
      | dV _ _=>simp at aG
      | row _ _ _ _ _=>simp at aG
     | _=>simp at aG
theorem ik (hc:Core w0 S f h β φ tm w) {d:Nat} {HS:List Nat} :∀(k0:Nat) (ks:List AK) (ms:List (Option MK)) (ss:List SV) (vs:List Value) (q:List DC×eJ×List MU) (od:List DC) (im mb:List Nat),af w (Av h β) β ss vs→(a7 ks ms ss).val f h=some q→ly w' ks ms od vs im mb→(∀b∈im,b∈HS)→
  jb d k0 h β w' HS q.2.2 od mb
 | k0,[],ms,ss,vs,q,od,im,mb,hs,hq,ho,_=>by
  cases ms with
  | nil=>
   cases ss with
   | nil=>
    simp only[a7,M.aa,Option.some.injEq] at hq
    subst hq
    simp only[ly] at ho
    rw[ho.1,ho.2.2.2]
    exact⟨rfl,[],[],rfl,rfl,rfl,by simp,List.Perm.refl _,by simp⟩
   | cons s ss=>simp [a7] at hq
  | cons m ms=>simp [a7] at hq
 | k0,k::ks,ms,ss,vs,q,od,im,mb,hs,hq,ho,j_=>by
  simp only[ly] at ho
  obtain⟨m,ms,d1,d2,v,l,i1,i2,b1,b2,rfl,rfl,rfl,o1,o2,rfl,rfl⟩:=ho
  cases ss with
  | nil=>cases m with
   | none=>simp [a7] at hq
   | some m=>cases m<;>simp [a7] at hq
  | cons s ss=>
   simp only[af] at hs
   obtain⟨v0,l0,e0,h1,h2⟩:=hs
   simp only[List.cons.injEq] at e0
   obtain⟨rfl,rfl⟩:=e0
   have AB:∀b∈i2,b∈HS:=fun b hb=>j_ b (List.mem_append_right _ hb)
   cases m with
   | none=>
    simp only[a7,M.ae,Option.bind_eq_some_iff,M.aa,Option.some.injEq] at hq
    obtain⟨q1,aG,q2,cu,rfl⟩:=hq
    simp only[Dl] at o1
    obtain⟨rfl,rfl,rfl⟩:=o1
    exact ik (d:=d) hc k0 ks ms ss l q2 d2 i2 b2 h2 cu o2 AB
   | some m=>
    cases m with
    | box t=>
     cases s with
     | ptr id off=>
      cases off with
      | succ off=>simp [a7] at hq
      | zero=>
       simp only[a7,M.aS,Option.bind_eq_some_iff] at hq
       obtain⟨ob,aJ,hq⟩:=hq
       cases ob with
       | box t' cells=>
        simp only at hq
        cases kg:Nat.beq t' t
        ·simp [kg] at hq
        ·have kh:=Nat.eq_of_beq_eq_true kg
         subst kh
         simp only[kg,cond_true,M.ae,Option.bind_eq_some_iff] at hq
         obtain⟨q1,aG,hq⟩:=hq
         cases Fq:q1.2.1.isEmpty
         ·simp [Fq] at hq
         ·simp only[Fq,cond_true,M.ae,Option.bind_eq_some_iff,M.aa,Option.some.injEq] at hq
          obtain⟨q2,cu,rfl⟩:=hq
          have k2:=ik (d:=d) hc (k0+aP [.box id t' k.bz]) ks ms ss l q2 d2 i2 b2 h2 cu o2 AB
          obtain⟨MP,g1,g2,g3,g4⟩:=hc.ay id _ aJ
          simp only[Dl] at o1
          obtain⟨g,us,ev,KX,KY,JJ,MM,rfl⟩:=o1
          simp only[ak] at h1
          have eg:g=β.cS id:=by
           rw[h1] at ev
           simp only[Value.pointer.injEq,Option.some.injEq,Addr.mk.injEq,and_true] at ev
           exact ev.symm
          subst eg
          have J2:d1.length=k.bz.length:=aZ.length _ _ _ _ JJ
          refine jb.append (U:=[.box id t' k.bz]) ⟨by simp only[dh,J2];omega,[⟨id,.box t' (cb k.bz d1 0),[],[β.cS id]⟩],[],rfl,rfl,rfl,by simp,by simp,fun x hx=> ?_⟩ k2
          rw[List.mem_singleton] at hx
          subst hx
          refine⟨⟨_,aJ⟩,fun av β' hv hb hn _ Iq=> ?_⟩
          simp only at hv hb hn ⊢
          obtain⟨cJ,l1,l2,l3,l4⟩:=aZ.bK (β:=β') (av:=av) JJ (fun b hb=>Iq b (j_ b (List.mem_append_left _ hb))) k.bz.length 0 (by omega)
          have ee:cJ=us:=by
           apply List.ext_getElem?
           intro j
           by_cases hj:j<cJ.length
           ·have:=l2 j cJ[j] (by simp)
            simp only[Nat.zero_add] at this
            rw[this]
            simp
           ·rw[List.getElem?_eq_none (by omega),List.getElem?_eq_none (by omega)]
          subst ee
          simp only[List.drop_zero,List.take_length] at l3
          exact⟨cJ,by rw[hb];exact KX,l3,KY,by rw[hb]⟩
       | row _ _ _ _ _=>simp at hq
       | dV _ _=>simp at hq
       | deep _ _ _ _ _=>simp at hq
     | _=>simp [a7] at hq
    | rows ts=>
     simp only[a7,M.ae,Option.bind_eq_some_iff,M.aa,Option.some.injEq] at hq
     obtain⟨q1,aG,q2,cu,rfl⟩:=hq
     have k2:=ik (d:=d) hc (k0+aP q1.2) ks ms ss l q2 d2 i2 b2 h2 cu o2 AB
     simp only[Dl] at o1
     obtain⟨us,ev,o1,rfl⟩:=o1
     have one:jb d k0 h β w' HS q1.2 d1 b1:=by
      unfold hO at aG
      cases hk:k.agg with
      | true=>
       cases s with
       | agg cs=>
        simp only[hk] at aG
        simp only[ak] at h1
        obtain⟨aL,rfl,fX,ba⟩:=h1
        rw[hk] at ev
        simp only[cond_true,Value.agg.injEq] at ev
        have:aL=us:=by simpa using congrArg Array.toList ev
        subst this
        exact fU (d:=d) hc k0 k.bz ts cs aL q1 d1 b1 fX aG o1
       | _=>simp [hk] at aG
      | false=>
       have kZ:(aw k.bz ts [s]).val f h=some q1:=by
        cases s<;>simp only[hk] at aG<;>first | exact aG | (simp at aG)
       rw[hk] at ev
       simp only[cond_false] at ev
       subst ev
       have gS:af w (Av h β) β [s] [v]:=by simp only[af];exact⟨v,[],rfl,h1,rfl⟩
       exact fU (d:=d) hc k0 k.bz ts [s] [v] q1 d1 b1 gS kZ o1
     exact one.append k2
    | jl ts=>
     simp only[a7,M.ae,Option.bind_eq_some_iff] at hq
     obtain⟨q1,aG,hq⟩:=hq
     cases AG:bM q1.2
     ·simp [AG] at hq
     simp only[AG,cond_true,M.ae,Option.bind_eq_some_iff,M.aa,Option.some.injEq] at hq
     obtain⟨q2,cu,rfl⟩:=hq
     simp only[Dl] at o1
     obtain⟨rfl,rfl,rfl⟩:=o1
     exact (j8 k0 q1.2).append (ik (d:=d) hc _ ks ms ss l q2 d2 i2 b2 h2 cu o2 AB)
    | cH t ts=>
     cases s with
     | ptr id off=>
      cases off with
      | succ off=>simp [a7] at hq
      | zero=>
       simp only[a7,M.aS,Option.bind_eq_some_iff] at hq
       obtain⟨ob,aJ,hq⟩:=hq
       cases ob with
       | box t' cells=>
        simp only at hq
        cases kg:Nat.beq t' t
        ·simp [kg] at hq
        ·have kh:=Nat.eq_of_beq_eq_true kg
         subst kh
         simp only[kg,cond_true,M.ae,Option.bind_eq_some_iff] at hq
         obtain⟨q1,aG,hq⟩:=hq
         cases AG:bM q1.2
         ·simp [AG] at hq
         simp only[AG,cond_true,M.ae,Option.bind_eq_some_iff,M.aa,Option.some.injEq] at hq
         obtain⟨q2,cu,rfl⟩:=hq
         simp only[Dl] at o1
         obtain⟨g,us,mm,ev,KX,KY,JJ,rfl,rfl⟩:=o1
         simp only[ak] at h1
         have eg:g=β.cS id:=by
          rw[h1] at ev
          simp only[Value.pointer.injEq,Option.some.injEq,Addr.mk.injEq,and_true] at ev
          exact ev.symm
         subst eg
         obtain⟨N,n1,n2,n3,n4,n5,n6⟩:=ew (d:=d) k0 k.bz ts d1 us mm JJ
         have first:jb d k0 h β w' HS [.cH id t' k.bz ts] d1 (β.cS id::mm):=by
          refine⟨by simp only[dh,n5];omega,[⟨id,.box t' (bg d k0 k.bz ts d1).1,[],[β.cS id]⟩],N,rfl,by simp only[dx,List.append_nil,n1],by simpa only[aP,Nat.add_zero] using n2,n3,by simp [n4],fun x hx=> ?_⟩
          rw[List.mem_singleton] at hx
          subst hx
          refine⟨⟨_,aJ⟩,fun av β' hv hb hn hN Iq=> ?_⟩
          simp only at hv hb hn ⊢
          exact⟨us,by rw[hb];exact KX,n6 av β' hN,KY,by rw[hb]⟩
         have two:=(j8 (d:=d) (h:=h) (β:=β) (w':=w') (im:=HS) (k0+aP [.cH id t' k.bz ts]) q1.2).append (ik (d:=d) hc _ ks ms ss l q2 d2 i2 b2 h2 cu o2 AB)
         exact first.append two
       | row _ _ _ _ _=>simp at hq
       | dV _ _=>simp at hq
       | deep _ _ _ _ _=>simp at hq
     | _=>simp [a7] at hq
end
end Go.Proofs.YtoaflbnkiobhdaaGreat.Vm
set_option linter.unusedVariables false
set_option linter.unusedSimpArgs false
namespace Go.Proofs.YtoaflbnkiobhdaaGreat.Vm
section
variable {P:Program} {Γ:Ctx} {w0:World} {S:Own} {st:St} {o:Oper} {e:cF} {a:Act} {w w':World}
variable {f:Nat→SV} {h:Nat→Option aj} {β:Env} {φ:Nat→List Nat} {tm:Array Value}
theorem Em (T:List fw) (l:List (Nat×Option aj)) (j:Nat):fo (T.map (fun x=>(x.id,some x.obj))++l) h j=match lW T j with | some x=>some x.obj | none=>fo l h j:=by
 induction T with
 | nil=>rfl
 | cons y N ih=>
  simp only[List.map_cons,List.cons_append,fo,az,lW]
  split
  ·rfl
  ·exact ih
theorem Ej (D:List Nat) (l:List (Nat×Option aj)) (j:Nat):fo (iN D++l) h j=if j∈D then none else fo l h j:=by
 induction D with
 | nil=>simp [iN]
 | cons y D ih=>
  simp only[iN,List.map_cons,List.cons_append,fo,az,List.mem_cons] at ih ⊢
  by_cases hj:j=y
  ·simp [hj]
  ·rw[if_neg hj,ih]
   simp [hj]
theorem Ac {i:Nat} :∀ {m:eJ},bO i m=true→∀x∈m,x.1≠i
 | [],_,x,hx=>by simp at hx
 | (k,y)::l,hm,x,hx=>by
  simp only[bO,Bool.and_eq_true,Bool.not_eq_true'] at hm
  rcases List.mem_cons.1 hx with rfl | hx
  ·exact Nat.ne_of_beq_eq_false hm.1
  ·exact Ac hm.2 x hx
theorem lK {i:Nat} :∀ {m:eJ},bO i m=true→fo (ai m) h i=h i
 | [],_=>rfl
 | (k,e',r,u)::l,hm=>by
  simp only[bO,Bool.and_eq_true,Bool.not_eq_true'] at hm
  simp only[ai,fo,az]
  rw[if_neg (fun he=>Nat.ne_of_beq_eq_false hm.1 he.symm)]
  exact lK hm.2
theorem db:∀ {U:List MU},cR h U→∀b∈U.flatMap (aC β),∃id∈bm U,∃ob,h id=some ob∧b∈al β id ob
 | [],_,b,hb=>by simp at hb
 | .box id t cs::l,hm,b,hb=>by
  simp only[cR] at hm
  obtain⟨⟨cells,hc⟩,hm⟩:=hm
  rw[List.flatMap_cons,List.mem_append] at hb
  rcases hb with hb | hb
  ·exact⟨id,List.mem_cons_self ..,_,hc,hb⟩
  ·obtain⟨i,hi,ob,h1,h2⟩:=db hm b hb
   exact⟨i,List.mem_cons_of_mem _ hi,ob,h1,h2⟩
 | .row id t e u::l,hm,b,hb=>by
  simp only[cR] at hm
  obtain⟨⟨_,rows,hc⟩,hm⟩:=hm
  rw[List.flatMap_cons,List.mem_append] at hb
  rcases hb with hb | hb
  ·exact⟨id,List.mem_cons_self ..,_,hc,hb⟩
  ·obtain⟨i,hi,ob,h1,h2⟩:=db hm b hb
   exact⟨i,List.mem_cons_of_mem _ hi,ob,h1,h2⟩
 | .deep id t e ts::l,hm,b,hb=>by
  simp only[cR] at hm
  obtain⟨⟨rows,hc⟩,hm⟩:=hm
  rw[List.flatMap_cons,List.mem_append] at hb
  rcases hb with hb | hb
  ·exact⟨id,List.mem_cons_self ..,_,hc,hb⟩
  ·obtain⟨i,hi,ob,h1,h2⟩:=db hm b hb
   exact⟨i,List.mem_cons_of_mem _ hi,ob,h1,h2⟩
 | .gone id dp::l,hm,b,hb=>by
  simp only[cR] at hm
  obtain⟨⟨o,ho,hg⟩,hm⟩:=hm
  rw[List.flatMap_cons,List.mem_append] at hb
  rcases hb with hb | hb
  ·exact⟨id,List.mem_cons_self ..,_,ho,by rw[hg.al];exact hb⟩
  ·obtain⟨i,hi,ob,h1,h2⟩:=db hm b hb
   exact⟨i,List.mem_cons_of_mem _ hi,ob,h1,h2⟩
 | .cH id t cs ts::l,hm,b,hb=>by
  simp only[cR] at hm
  obtain⟨⟨cells,hc⟩,hm⟩:=hm
  rw[List.flatMap_cons,List.mem_append] at hb
  rcases hb with hb | hb
  ·exact⟨id,List.mem_cons_self ..,_,hc,hb⟩
  ·obtain⟨i,hi,ob,h1,h2⟩:=db hm b hb
   exact⟨i,List.mem_cons_of_mem _ hi,ob,h1,h2⟩
 | .ln::l,hm,b,hb=>by
  rw[List.flatMap_cons] at hb
  exact db (U:=l) hm b (by simpa [aC] using hb)
theorem cY {i:Nat} {l:List Nat} (hn:cX (i::l)=true):i ∉ l∧cX l=true:=by
 simp only[cX,Bool.and_eq_true,Bool.not_eq_true',List.any_eq_false] at hn
 refine⟨fun hi=> ?_,hn.2⟩
 exact hn.1 i hi (Nat.beq_refl i)
theorem dK (hc:Core w0 S f h β φ tm w):∀ {U:List MU},cR h U→cX (bm U)=true→(U.flatMap (aC β)).Nodup
 | [],_,_=>by simp
 | .box id t cs::l,hm,hn=>by
  simp only[cR] at hm
  obtain⟨⟨cells,ho⟩,hm⟩:=hm
  obtain⟨h1,h2⟩:=cY hn
  rw[List.flatMap_cons,List.nodup_append]
  refine⟨by simp [aC],dK hc hm h2, ?_⟩
  intro b hb b' ax En
  subst En
  obtain⟨i,hi,ob,dT,ig⟩:=db (β:=β) hm b ax
  exact hc.sep id i _ ob (fun he=>h1 (he ▸ hi)) ho dT b (ah (hc.ay _ _ ho) b hb) (ah (hc.ay _ _ dT) b ig)
 | .row id t e u::l,hm,hn=>by
  simp only[cR] at hm
  obtain⟨⟨_,rows,ho⟩,hm⟩:=hm
  obtain⟨h1,h2⟩:=cY hn
  rw[List.flatMap_cons,List.nodup_append]
  refine⟨?_,dK hc hm h2, ?_⟩
  ·simp only[aC]
   cases (β.val id).ownBlock<;>simp
  ·intro b hb b' ax En
   subst En
   obtain⟨i,hi,ob,dT,ig⟩:=db (β:=β) hm b ax
   exact hc.sep id i _ ob (fun he=>h1 (he ▸ hi)) ho dT b (ah (hc.ay _ _ ho) b hb) (ah (hc.ay _ _ dT) b ig)
 | .deep id t e ts::l,hm,hn=>by
  simp only[cR] at hm
  obtain⟨⟨rows,ho⟩,hm⟩:=hm
  obtain⟨h1,h2⟩:=cY hn
  rw[List.flatMap_cons,List.nodup_append]
  refine⟨?_,dK hc hm h2, ?_⟩
  ·obtain⟨vals,aR,_,_,g3,g4⟩:=hc.ay _ _ ho
   have:=(hc.fresh _ _ ho).1
   rw[g4] at this
   simpa only[aC,g3] using this
  ·intro b hb b' ax En
   subst En
   obtain⟨i,hi,ob,dT,ig⟩:=db (β:=β) hm b ax
   exact hc.sep id i _ ob (fun he=>h1 (he ▸ hi)) ho dT b (ah (hc.ay _ _ ho) b hb) (ah (hc.ay _ _ dT) b ig)
 | .gone id dp::l,hm,hn=>by
  simp only[cR] at hm
  obtain⟨⟨o,ho,hg⟩,hm⟩:=hm
  obtain⟨h1,h2⟩:=cY hn
  rw[List.flatMap_cons,List.nodup_append]
  refine⟨?_,dK hc hm h2, ?_⟩
  ·rw[←hg.al]
   rcases hg with ⟨_,t,e,rows,u,_,rfl⟩ | ⟨_,t,e,ts,rows,rfl⟩
   ·simp only[al]
    cases (β.val id).ownBlock<;>simp
   ·obtain⟨vals,aR,_,_,g3,g4⟩:=hc.ay _ _ ho
    have:=(hc.fresh _ _ ho).1
    rw[g4] at this
    simpa only[al,g3] using this
  ·intro b hb b' ax En
   subst En
   rw[←hg.al] at hb
   obtain⟨i,hi,ob,dT,ig⟩:=db (β:=β) hm b ax
   exact hc.sep id i _ ob (fun he=>h1 (he ▸ hi)) ho dT b (ah (hc.ay _ _ ho) b hb) (ah (hc.ay _ _ dT) b ig)
 | .cH id t cs ts::l,hm,hn=>by
  simp only[cR] at hm
  obtain⟨⟨cells,ho⟩,hm⟩:=hm
  obtain⟨h1,h2⟩:=cY hn
  rw[List.flatMap_cons,List.nodup_append]
  refine⟨by simp [aC],dK hc hm h2, ?_⟩
  intro b hb b' ax En
  subst En
  obtain⟨i,hi,ob,dT,ig⟩:=db (β:=β) hm b ax
  exact hc.sep id i _ ob (fun he=>h1 (he ▸ hi)) ho dT b (ah (hc.ay _ _ ho) b hb) (ah (hc.ay _ _ dT) b ig)
 | .ln::l,hm,hn=>by
  rw[List.flatMap_cons]
  simpa [aC] using dK hc (U:=l) hm hn
theorem kM {d:Nat} :∀(BI:List RK) (k:Nat) (r1 r2:List DC),r1.length=cf BI→bh d k BI (r1++r2)=bh d k BI r1
 | [],_,_,_,_=>rfl
 | r::rs,k,r1,r2,hl=>by
  simp only[cf] at hl
  simp only[bh]
  rw[List.take_append_of_le_length (by omega),List.drop_append_of_le_length (by omega),kM rs _ _ r2 (by simp;omega)]
end
end Go.Proofs.YtoaflbnkiobhdaaGreat.Vm
set_option linter.unusedVariables false
set_option linter.unusedSimpArgs false
namespace Go.Proofs.YtoaflbnkiobhdaaGreat.Vm
section
variable {P:Program} {Γ:Ctx} {w0:World} {S:Own} {st:St} {o:Oper} {e:cF} {a:Act} {w w':World}
variable {f:Nat→SV} {h:Nat→Option aj} {β:Env} {φ:Nat→List Nat} {tm:Array Value}
theorem BN (eF:bD P Γ) {s:Sum} {g:Nat} (hs:FZ Γ g=some s) (eo:s.GP=false) (Gw:s.pt=none) (Jz:s.ms≠[]) (hR:Rel w0 S st a w) (hd:∀d,o.dst=some d→a_ st.n d) (bL:∀d,o.dst=some d→e.ow≠[]→bu st d)
  {l:List SV} {us:List Value} (J4:∀fn,P.funcs[g]? =some fn→fn.body.isSome=true→(fn.name== "runtime.NumGoroutine")=false→(execOp a.eval o).run P w= .ok (.enter g us.toArray) w)
  (hl:∀β φ,Core w0 S st.get st.obj β φ a.tmps w→af w (Av st.obj β) β l us) (he:(Ao s o.dst l).val st.get st.obj=some e) (aI:e.ok=true):Good P w0 S st o e a w:=by
 have hH:B8 P g s:=by
  have h0:=eF g s hs
  unfold gC at h0
  rw[eo,cond_false,Gw] at h0
  simp only at h0
  split at h0
  ·rename_i hm
   exact absurd hm Jz
  ·exact h0
 unfold Ao at he
 cases aH:Nat.blt (a9 s.rs) 64 && !(shares s) && (o.dst.isSome || s.rs.isEmpty)
 ·simp [aH] at he
 simp only[aH,cond_true,M.ae,Option.bind_eq_some_iff] at he
 obtain⟨r,hr,he⟩:=he
 cases Jr:aN r.2.1 && cX (bm r.2.2) && (bm r.2.2).all (fun i=>bO i r.2.1) && (Nat.blt (a9 s.rs+aP r.2.2) 64 && (o.dst.isSome || Nat.beq (aP r.2.2) 0))
 ·simp [Jr] at he
 simp only[Jr,cond_true,M.aa,Option.some.injEq] at he
 subst he
 simp only[Bool.and_eq_true,Bool.not_eq_true',List.all_eq_true] at aH Jr
 obtain⟨⟨LO,AH⟩,mA⟩:=aH
 obtain⟨⟨⟨Ba,I1⟩,Ls⟩,GZ,G7⟩:=Jr
 have GZ:a9 s.rs+aP r.2.2<64:=Nat.le_of_ble_eq_true GZ
 obtain⟨⟨fn,hf,hb,hn⟩,Cf⟩:=hH
 obtain⟨β,φ,hc⟩:=hR.core
 obtain⟨fp,cr,kd,B5,kX⟩:=eR hc s.ps s.ms l _ r (hl β φ hc) hr
 have Ko:=dK hc B5 I1
 have Kn:∀b∈r.2.2.flatMap (aC β),b ∉ fp:=by
  intro b hb LX
  obtain⟨id,dJ,ob,aJ,jq⟩:=db (β:=β) B5 b hb
  rcases kX b LX with h3 | ⟨x,hx,j9⟩
  ·exact h3 (.inl ⟨id,ob,aJ,jq⟩)
  ·obtain⟨_,B6,_⟩:=kd x hx
   rw[eV B6] at j9
   have cI:x.1≠id:=Ac (Ls id dJ) x hx
   exact hc.sep x.1 id _ ob cI B6 aJ b (ah (hc.ay _ _ B6) b j9) (ah (hc.ay _ _ aJ) b jq)
 intro Q
 unfold Oper.wp
 rw[J4 fn hf hb hn,Oper.upon_enter]
 refine (Cf w r.1 _ fp _ cr Ko Kn aI).mono ?_
 rintro _ w' ⟨vs,JK,im,tp,mo,rd,od,ψ,rfl,Ju,jU,hk,AF,hnd,mn,IL,KU,JH,AB⟩
 have Kd:im=[]:=eW.jE _ _ _ _ _ _ (by simpa [shares] using AH) AF
 have Gk:(s.fn r.1).2.drop (cf s.rs)=od:=by rw[Ju,←jU,List.drop_left]
 have IX:bh (o.dst.getD 0) 0 s.rs (s.fn r.1).2=bh (o.dst.getD 0) 0 s.rs rd:=by rw[Ju,kM _ _ _ _ jU]
 obtain⟨N1,n1,n2,n3,n4,n5,n6⟩:=i9 (d:=o.dst.getD 0) s.rs 0 _ vs JK im tp AF
 obtain⟨_,T,N2,hT,Le,q2,q3,JV,Bp⟩:=ik (d:=o.dst.getD 0) (w':=w') hc (a9 s.rs) s.ps s.ms l _ r od mo ψ (hl β φ hc) hr IL (fun b hb=>hb)
 obtain⟨N,hN⟩:∃N,N=N1++N2:=⟨_,rfl⟩
 have JU:N.flatMap ar.bA=JK++N2.flatMap ar.bA:=by rw[hN,List.flatMap_append,n4]
 have G0:N.map (·.id)=(List.range' 0 (a9 s.rs+aP r.2.2)).map (ag (o.dst.getD 0)):=by
  have h0:List.range' 0 (a9 s.rs)++List.range' (a9 s.rs) (aP r.2.2)=List.range' 0 (a9 s.rs+aP r.2.2):=by
   have:=List.range'_append_1 (s:=0) (m:=a9 s.rs) (n:=aP r.2.2)
   rwa [Nat.zero_add] at this
  rw[hN,List.map_append,n2,q2,←List.map_append,h0]
 have Lf:T.map fw.id=bW r.2.2:=by
  rw[←dr (d:=o.dst.getD 0) (a9 s.rs) r.2.2 od,←hT,List.map_map]
  rfl
 have I8:∀b∈T.flatMap fw.bA,b∈ψ:=fun b hb=>JV.subset (List.mem_append_left _ hb)
 have FX:∀b∈N2.flatMap ar.bA,b∈ψ:=fun b hb=>JV.subset (List.mem_append_right _ hb)
 have Jp:=JV.symm.nodup KU
 rw[List.nodup_append] at Jp
 obtain⟨M',Gh⟩:∃M':eJ,M'=bif eI s.ms then [] else r.2.1:=⟨_,rfl⟩
 have hM:bR st.obj M'∧aN M'=true∧∀id∈bm r.2.2,bO id M'=true:=by
  cases ja:eI s.ms with
  | true=>rw[Gh,ja];exact⟨by simp [bR],rfl,fun _ _=>rfl⟩
  | false=>rw[Gh,ja];exact⟨kd,Ba,Ls⟩
 have hfz:(bif eI s.ms then [] else ai r.2.1)=ai M':=by rw[Gh];cases eI s.ms<;>rfl
 have jr:=hc.gf M' hM.1 hM.2.1
 have I0:=hM.2.2
 have Kj:∀i∈bW r.2.2,i∈bm r.2.2:=fun i hi=>(gm r.2.2).2 (.inl hi)
 have L1:∀i∈cm r.2.2,i∈bm r.2.2:=fun i hi=>(gm r.2.2).2 (.inr hi)
 have H5:N≠[]→∃d,o.dst=some d:=by
  intro cI
  cases aK:o.dst with
  | some d=>exact⟨d,rfl⟩
  | none=>
   rw[aK] at mA G7
   simp only[Option.isSome_none,Bool.false_or] at mA G7
   have KK:s.rs=[]:=List.isEmpty_iff.1 mA
   have h0:=Nat.eq_of_beq_eq_true G7
   have:=G0
   rw[KK,h0] at this
   simp only[a9,Nat.add_zero,List.range'_zero,List.map_nil,List.map_eq_nil_iff] at this
   exact absurd this cI
 have Ck:∀x∈N,x.id / 64=o.dst.getD 0∧x.id∈N.map (·.id):=by
  intro x hx
  have hm:x.id∈N.map (·.id):=List.mem_map_of_mem hx
  refine⟨?_,hm⟩
  rw[G0] at hm
  obtain⟨j,hj,fO⟩:=List.mem_map.1 hm
  rw[←fO]
  have:=List.mem_range'_1.1 hj
  exact cK _ j (by omega)
 have mC:(N.map (·.id)).Nodup:=by
  rw[G0]
  refine List.Pairwise.map _ ?_ (List.nodup_range' ..)
  intro x y m8 e
  unfold ag at e
  omega
 have hle:=hR.kept.size
 have H6:∀x∈T,x.id∈bm r.2.2:=by
  intro x hx
  refine Kj _ ?_
  rw[←Lf]
  exact List.mem_map_of_mem hx
 have hval:∀x∈N,(β.bX N T).val x.id=x.v:=by
  intro x hx
  simp [Env.bX,lV hx mC]
 have GA:∀(β':Env),(∀x∈N,β'.val x.id=x.v)→∀x∈N2,β'.val x.id=x.v:=fun β' hb x hx=>hb x (by rw[hN];exact List.mem_append_right _ hx)
 let h':Nat→Option aj:=kT N T (cm r.2.2) (fo (ai M') st.obj)
 have Ey:∀b∈mo,¬Av h' (β.bX N T) b:=by
  intro b hb
  have Ew:=AB b hb
  have LR:M'=r.2.1:=by rw[Gh,Ew.2.2.2];rfl
  rintro (⟨j,oj,hj,bn⟩ | eM)
  case inr=>
   have L0:=(jr.gv b eM).1
   rcases Ew.1 with Ci | mw
   ·rcases kX b Ci with h3 | ⟨x,hx,j9⟩
    ·exact h3 (.inr eM)
    ·exact dt hc kd hx j9 (.inr eM)
   ·omega
  cases ju:fi N j with
  | some x=>
   simp only[h',kT,ju,Option.some.injEq] at hj
   subst hj
   obtain⟨hx,rfl⟩:=bc ju
   rw[x.iA (by simp [Env.bX,ju]) (by simp [Env.bX,ju])] at bn
   rw[hN] at hx
   rcases List.mem_append.1 hx with hx | hx
   ·refine Ew.2.1 ?_
    rw[←n5]
    exact List.mem_flatMap.2 ⟨x,hx,bn⟩
   ·exact Ew.2.2.1 (FX b (List.mem_flatMap.2 ⟨x,hx,x.ah b bn⟩))
  | none=>
   simp only[h',kT,ju] at hj
   cases hu:lW T j with
   | some x=>
    simp only[hu,Option.some.injEq] at hj
    subst hj
    obtain⟨Lw,rfl⟩:=c4 hu
    have h1:b∈x.bA:=by
     have gP:=(Bp x Lw).2 (fun _=>False) (β.bX N T) (by simp [Env.bX,ju]) rfl (by simp [Env.bX,ju,hu]) (GA _ hval) (fun _ _ h=>h)
     exact ah gP b bn
    exact Ew.2.2.1 (I8 b (List.mem_flatMap.2 ⟨x,Lw,h1⟩))
   | none=>
    simp only[hu] at hj
    split at hj
    ·cases hj
    have my:b∈al β j oj:=by
     cases oj<;>simp only[al,Env.bX,ju,hu] at bn ⊢ <;>exact bn
    have JX:=((jr.fresh j oj hj).2 b (ah (jr.ay j oj hj) b my)).2
    rcases Ew.1 with Ci | mw
    ·rcases kX b Ci with h3 | ⟨x,hx,j9⟩
     ·exact h3 (fK (.inl ⟨j,oj,hj,my⟩))
     ·exact dt hc hM.1 (by rw[LR];exact hx) j9 (.inl ⟨j,oj,hj,my⟩)
    ·omega
 have JZ:=jr.JO (N:=N) (U:=T) (D:=cm r.2.2) (im:=mo) (mb:=r.2.2.flatMap (aC β)) hk.size hle ?_ ?_ ?_ ?_ Jp.1 ?_ Ey mC ?_ ?_ ?_ ?_
 ·have eE:=n6 (Av h' (β.bX N T)) (β.bX N T) (fun x hx=>hval x (by rw[hN];exact List.mem_append_left _ hx)) (by rw[Kd];simp)
  have Cl:Kept S w0 w':=by
   refine⟨hk.os.trans hR.kept.os,hk.tape.trans hR.kept.tape,hk.output.trans hR.kept.output,by have:=hk.size;omega,fun k h1 h2=> ?_⟩
   refine (hk.block k (by omega) (fun FI=> ?_)).trans (hR.kept.block k h1 h2)
   obtain⟨id,dJ,ob,aJ,jq⟩:=db (β:=β) B5 k FI
   rcases ((hc.fresh id ob aJ).2 k (ah (hc.ay _ _ aJ) k jq)).1 with h3 | h3
   ·omega
   ·exact h2 h3
  have Jv:fo ((bh (o.dst.getD 0) 0 s.rs (s.fn r.1).2).2++(dx (o.dst.getD 0) (a9 s.rs) r.2.2 ((s.fn r.1).2.drop (cf s.rs))++
    (iY (o.dst.getD 0) (a9 s.rs) r.2.2 ((s.fn r.1).2.drop (cf s.rs))++(iN (cm r.2.2)++(bif eI s.ms then [] else ai r.2.1))))) (fc none st.obj)=h':=by
   funext j
   have:((bp (o.dst.getD 0) (a9 s.rs) r.2.2 od).map fun x=>(x.1,some x.2))=T.map fun x=>(x.id,some x.obj):=by
    rw[←hT,List.map_map]
    rfl
   have AG:cQ N1++(cQ N2++(T.map (fun x=>(x.id,some x.obj))++(iN (cm r.2.2)++ai M')))=cQ N++(T.map (fun x=>(x.id,some x.obj))++(iN (cm r.2.2)++ai M')):=by
    rw[hN]
    simp only[cQ,List.map_append,List.append_assoc]
   rw[hfz,IX,Gk,n1,gl,this,Le,AG,Ax,Em,Ej]
   rfl
  refine⟨pack vs,rfl,iu hR hd Cl ⟨β.bX N T,gE N T (bl φ M'), ?_, ?_⟩⟩
  ·show Core w0 S st.get (fo (_++(_++(_++(_++_)))) (fc none st.obj)) _ _ _ _
   rw[Jv]
   exact JZ
  ·show ak w' (Av (fo (_++(_++(_++(_++_)))) (fc none st.obj)) (β.bX N T)) (β.bX N T) (hF (bh (o.dst.getD 0) 0 s.rs (s.fn r.1).2).1) (pack vs)
   rw[Jv,IX]
   generalize (bh (o.dst.getD 0) 0 s.rs rd).1=q at eE
   match q,vs,eE with
   | [],vs,eE=>
    simp only[af] at eE
    subst eE
    simp only[hF,pack,ak]
    exact⟨[],rfl,by simp [af]⟩
   | [x],vs,eE=>
    simp only[af] at eE
    obtain⟨v,l',rfl,h1,rfl⟩:=eE
    exact h1
   | x::y::q,vs,eE=>
    have EM:=eE
    simp only[af] at eE
    obtain⟨v,l',rfl,h1,v2,l2,rfl,h2,h3⟩:=eE
    simp only[hF,pack]
    unfold ak
    exact⟨v::v2::l2,rfl,EM⟩
 ·intro b hb
  obtain⟨id,dJ,ob,aJ,jq⟩:=db (β:=β) B5 b hb
  refine⟨id, ?_,ob,by rw[lK (I0 _ dJ)];exact aJ,jq⟩
  rcases (gm r.2.2).1 dJ with h3 | h3
  ·rw[←Lf] at h3
   obtain⟨x,hx,rfl⟩:=List.mem_map.1 h3
   exact .inl ⟨x,hx,rfl⟩
  ·exact .inr h3
 ·exact fun b hb ja=>hk.block b hb ja
 ·intro x hx
  obtain⟨⟨ob,h1⟩,_⟩:=Bp x hx
  exact⟨ob,by rw[lK (I0 _ (H6 x hx))];exact h1⟩
 ·exact fun x hx av β' a b c dd e=>(Bp x hx).2 av β' a b c (GA β' dd) e
 ·intro b hb
  obtain⟨p1,p2,p3⟩:=JH b (I8 b hb)
  refine⟨p1,p2,fun G2=> ?_⟩
  rw[JU] at G2
  rcases List.mem_append.1 G2 with h3 | h3
  ·exact p3 h3
  ·exact Jp.2.2 b hb b h3 rfl
 ·intro x hx
  have h1:=(Ck x hx).1
  obtain⟨d,aK⟩:=H5 (fun h0=>by rw[h0] at hx;simp at hx)
  have bL:=bL d aK (by
   show (bh (o.dst.getD 0) 0 s.rs (s.fn r.1).2).2++(dx (o.dst.getD 0) (a9 s.rs) r.2.2 ((s.fn r.1).2.drop (cf s.rs))++_)≠[]
   rw[IX,n1,Gk,Le]
   intro h0
   rw[List.append_eq_nil_iff] at h0
   have a1:N1=[]:=by simpa [cQ] using h0.1
   have h1:=(List.append_eq_nil_iff.1 h0.2).1
   have a2:N2=[]:=by simpa [cQ] using h1
   rw[hN,a1,a2] at hx
   simp at hx)
  rw[aK] at h1
  simp only[Option.getD_some] at h1
  refine⟨?_,fun i hi=>bL.slot i _ hi h1,fun k ok Cl hi=> ?_⟩
  ·cases hn:fo (ai M') st.obj x.id with
   | none=>rfl
   | some ob=>
    rcases dq hn with h2 | ⟨e',r',rfl,y,hy,h2⟩
    ·exact absurd h1 (bL.obj _ ob h2).1
    ·obtain⟨_,h3,_⟩:=hM.1 y hy
     rw[h2] at h3
     exact absurd h1 (bL.obj _ _ h3).1
  ·rcases dq Cl with h2 | ⟨e',r',rfl,_⟩
   ·exact (bL.obj k ok h2).2 _ hi h1
   ·simp [cB] at hi
 ·intro x hx
  rw[hN] at hx
  rcases List.mem_append.1 hx with hx | hx
  ·exact n3 x hx
  ·exact q3 x hx
 ·rw[JU,List.nodup_append]
  exact⟨hnd,Jp.2.1,fun b hb b' ax En=>(JH b' (FX b' ax)).2.2 (En ▸ hb)⟩
 ·intro b hb
  rw[JU] at hb
  rcases List.mem_append.1 hb with hb | hb
  ·exact mn b hb
  ·exact⟨(JH b (FX b hb)).1,(JH b (FX b hb)).2.1⟩
end
end Go.Proofs.YtoaflbnkiobhdaaGreat.Vm
set_option linter.unusedVariables false
set_option linter.unusedSimpArgs false
namespace Go.Proofs.YtoaflbnkiobhdaaGreat.Vm
section
variable {P:Program} {Γ:Ctx} {w0:World} {S:Own} {st:St} {o:Oper} {e:cF} {a:Act} {w w':World}
variable {f:Nat→SV} {h:Nat→Option aj} {β:Env} {φ:Nat→List Nat} {tm:Array Value}
theorem aZ.all {av:Nat→Prop} {cs:List CT} {r:List DC} {us:List Value} {fp:List Nat} (hr:aZ w cs r (fun j=>us[j]?) fp) (hl:us.length=cs.length) (ha:∀b∈fp,¬av b):af w av β (cb cs r 0) us:=by
 obtain⟨vs,l1,l2,l3,l4⟩:=aZ.bK (β:=β) hr ha cs.length 0 (by omega)
 have e:vs=us:=by
  apply List.ext_getElem?
  intro j
  by_cases hj:j<vs.length
  ·have:=l2 j vs[j] (by simp)
   simp only[Nat.zero_add] at this
   rw[this]
   simp
  ·rw[List.getElem?_eq_none (by omega),List.getElem?_eq_none (by omega)]
 subst e
 simpa only[List.drop_zero,List.take_length] using l3
end
end Go.Proofs.YtoaflbnkiobhdaaGreat.Vm
