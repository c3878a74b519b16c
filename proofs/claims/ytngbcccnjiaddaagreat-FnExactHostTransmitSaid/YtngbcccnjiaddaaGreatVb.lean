/- The value machine: slices, structs, new objects, appending, contracts. Conditions: as each lemma says. -/
import Derived.Test.YtngbcccnjiaddaaGreatVa
import Derived.Laws.Tables
import Derived.Great.BuildSlice
import Derived.Laws.CopyRow
namespace Go.Proofs.YtngbcccnjiaddaaGreat.Vm
theorem Cu {w:World} {e:List CT} {r:List (List DC)} {q:Option Addr} {n c:Nat} {fp:List Nat} (h:bQ w (.sl e) (.sl r) (.slice q n c) fp) {l m:Nat} (hl:l≤m) (hm:m≤r.length):
  ∃AY,bQ w (.sl e) (.sl ((r.take m).drop l)) (.slice (if c=l then q else q.map (·.add (l*e.length))) (m - l) (c - l)) AY∧∀b∈AY,b∈fp:=by
 obtain⟨q',n',c',hv,hn,hc,I6,km⟩:=cJ h
 injection hv with h1 h2 h3
 subst h1 h2 h3
 have hlen:((r.take m).drop l).length=m - l:=by simp;omega
 rcases Nat.eq_zero_or_pos (m - l) with h0 | h0
 ·exact⟨[],jB hlen (by omega) (by omega) (.inl ⟨h0,rfl⟩),by simp⟩
 ·rcases km with ⟨L5,_⟩ | ⟨_,b,o,az,rfl,cd,dZ,rfl,fL⟩
  ·omega
  ·rw[if_neg (by omega)]
   refine⟨b::((az.take m).drop l).flatten,jB hlen (by omega) (by omega) (.inr ⟨h0,b,o+l*e.length,(az.take m).drop l, ?_,cd,by simp;omega,rfl,fun i r' f hi hf=> ?_⟩), ?_⟩
   ·simp [dj]
   ·have dD:r[l+i]? =some r':=by
     rw[List.getElem?_drop,List.getElem?_take] at hi
     split at hi
     ·exact hi
     ·cases hi
    have BK:az[l+i]? =some f:=by
     rw[List.getElem?_drop,List.getElem?_take] at hf
     split at hf
     ·exact hf
     ·cases hf
    have:=fL (l+i) r' f dD BK
    have e1:∀j,o+((l+i)*e.length+j)=o+l*e.length+(i*e.length+j):=by intro j;rw[Nat.add_mul];omega
    simpa only[e1] using this
   ·intro x hx
    rcases List.mem_cons.1 hx with rfl | hx
    ·simp
    ·obtain⟨f,hf,hx⟩:=List.mem_flatten.1 hx
     exact List.mem_cons_of_mem _ (List.mem_flatten.2 ⟨f,List.mem_of_mem_take (List.mem_of_mem_drop hf),hx⟩)
section
variable {P:Program} {Γ:Ctx} {w0:World} {S:Own} {st:St} {o:Oper} {e:cB} {a:Act} {w:World}
theorem Core.freeze {f:Nat→SV} {h:Nat→Option ai} {β:Env} {φ:Nat→List Nat} {tm:Array Value} (hc:Core w0 S f h β φ tm w) {id:Nat} {KU:ai} {ct:List CT} {r:List (List DC)} {u:Bool}
  (db:h id=some KU) (J2:m5 KU ct r u):Core w0 S f (ay h id (some (.dQ ct r))) β (ay φ id []) tm w:=by
 have cA:∀b,Av (ay h id (some (.dQ ct r))) β b→Av h β b:=by
  rintro b (⟨i,ob,hi,hb⟩ | hb)
  case inr=>exact .inr hb
  by_cases kN:i=id
  ·subst kN
   simp only[ay,if_true,Option.some.injEq] at hi
   subst hi
   simp [ao] at hb
  ·simp only[ay,kN,if_false] at hi
   exact .inl ⟨i,ob,hi,hb⟩
 have gJ:=hc.aB id _ db
 refine hc.step (fun _=>False) (Nat.le_refl _) (fun _ _ _=>rfl) (fun b hb=> .inl (cA b hb)) (fun _ _ _ h=>h) (fun _ _=>⟨rfl,rfl⟩) ?_ ?_
 ·intro i ob hi
  by_cases kN:i=id
  ·subst kN
   simp only[ay,if_true,Option.some.injEq] at hi
   subst hi
   refine .inr ⟨⟨?_,by simp [ay]⟩,by simp [ay],by simp [ay]⟩
   obtain⟨fp,h1,h2,_⟩:=mT gJ J2
   simp only[ak]
   refine⟨fp,h1,fun b hb hx=> ?_⟩
   rcases h2 b hb with a8 | hn
   ·rcases hx with ⟨j,EG,hj,bn⟩ | hx
    case inr=>exact hc.C3 db (aj gJ b a8) hx
    have cm:j≠i:=by
     rintro rfl
     simp only[ay,if_true,Option.some.injEq] at hj
     subst hj
     simp [ao] at bn
    simp only[ay,cm,if_false] at hj
    exact hc.sep i j _ _ (Ne.symm cm) db hj b (aj gJ b a8) (aj (hc.aB j _ hj) b bn)
   ·exact hn (cA b hx)
  ·simp only[ay,kN,if_false] at hi
   exact .inl ⟨fun h=>h,hi,by simp [ay,kN],fun _ _ h=>h,fun _ _=>rfl⟩
 ·intro i j oi oj cm hi hj b hb
  by_cases kN:i=id
  ·subst kN;simp [ay] at hb
  ·by_cases bR:j=id
   ·subst bR;simp [ay]
   ·simp only[ay,kN,bR,if_false] at hi hj hb ⊢
    exact hc.sep i j oi oj cm hi hj b hb
def bP (h:Nat→Option ai) (m:eB):Prop:=∀x∈m,∃o,h x.1=some o∧m5 o x.2.1 x.2.2.1 x.2.2.2
def ec (h:Nat→Option ai) (β:Env) (i:Nat):List Nat:=
 match h i with
 | some o=>ao β i o
 | none=>[]
theorem eE {h:Nat→Option ai} {β:Env} {i:Nat} {o:ai} (hi:h i=some o):ec h β i=ao β i o:=by simp only[ec,hi]
def bf (φ:Nat→List Nat):eB→Nat→List Nat
 | []=>φ
 | x::l=>ay (bf φ l) x.1 []
theorem gb {id:Nat} {m:eB} (h:bK id m=true):∀x∈m,x.1≠id:=by
 induction m with
 | nil=>simp
 | cons y l ih=>
  obtain⟨i,q⟩:=y
  simp only[bK,Bool.and_eq_true,Bool.not_eq_true'] at h
  intro x hx
  rcases List.mem_cons.1 hx with rfl | hx
  ·exact Nat.ne_of_beq_eq_false h.1
  ·exact ih h.2 x hx
theorem bD {h:Nat→Option ai} {m:eB} {id:Nat} (hn:∀x∈m,x.1≠id):fo (ah m) h id=h id:=by
 induction m with
 | nil=>rfl
 | cons y l ih=>
  obtain⟨i,e',r,u⟩:=y
  simp only[ah,fo,ay]
  rw[if_neg (fun e=>hn _ (List.mem_cons_self ..) e.symm)]
  exact ih (fun x hx=>hn x (List.mem_cons_of_mem _ hx))
theorem cE {φ:Nat→List Nat} {m:eB} {id:Nat} (hn:∀x∈m,x.1≠id):bf φ m id=φ id:=by
 induction m with
 | nil=>rfl
 | cons y l ih=>
  simp only[bf,ay]
  rw[if_neg (fun e=>hn _ (List.mem_cons_self ..) e.symm)]
  exact ih (fun x hx=>hn x (List.mem_cons_of_mem _ hx))
theorem Core.fW {f:Nat→SV} {h:Nat→Option ai} {β:Env} {φ:Nat→List Nat} {tm:Array Value} (hc:Core w0 S f h β φ tm w):∀(m:eB),bP h m→aI m=true→
  Core w0 S f (fo (ah m) h) β (bf φ m) tm w
 | [],_,_=>hc
 | (id,e',r,u)::l,hm,hn=>by
  simp only[aI,Bool.and_eq_true] at hn
  have ih:=Core.fW hc l (fun x hx=>hm x (List.mem_cons_of_mem _ hx)) hn.2
  obtain⟨o,db,aM⟩:=hm _ (List.mem_cons_self ..)
  have J4:=gb hn.1
  exact ih.freeze (id:=id) (ct:=e') (r:=r) (u:=u) (by rw[bD J4];exact db) aM
theorem kB (s:List UInt8) (l m:Nat):(⟨s.toArray⟩:ByteArray).extract l m=⟨((s.take m).drop l).toArray⟩:=by
 apply ByteArray.ext
 apply Array.toList_inj.1
 rw[Lib.extract_data]
 simp [List.drop_take]
theorem kZ {n:Nat} {E4 E3:Option SV} {l m:Nat} {c:Bool} (h:dg n E4 E3=some (l,m,c)) (hc:c=true):
  l≤m∧m≤n∧((E4=none∧l=0)∨∃k,E4=some (.int k l))∧((E3=none∧m=n)∨∃k,E3=some (.int k m)):=by
 unfold dg at h
 split at h
 ·simp only[Option.some.injEq,Prod.mk.injEq] at h
  obtain⟨rfl,rfl,_⟩:=h
  exact⟨Nat.zero_le _,Nat.le_refl _,.inl ⟨rfl,rfl⟩,.inl ⟨rfl,rfl⟩⟩
 ·rename_i k z
  simp only[Option.some.injEq,Prod.mk.injEq] at h
  obtain⟨rfl,rfl,rfl⟩:=h
  simp only[Bool.and_eq_true,decide_eq_true_eq] at hc
  exact⟨by omega,Nat.le_refl _,.inr ⟨k,by rw[Int.toNat_of_nonneg hc.1]⟩,.inl ⟨rfl,rfl⟩⟩
 ·rename_i k z
  simp only[Option.some.injEq,Prod.mk.injEq] at h
  obtain⟨rfl,rfl,rfl⟩:=h
  simp only[Bool.and_eq_true,decide_eq_true_eq] at hc
  exact⟨Nat.zero_le _,by omega,.inl ⟨rfl,rfl⟩,.inr ⟨k,by rw[Int.toNat_of_nonneg hc.1]⟩⟩
 ·rename_i k z k' z'
  simp only[Option.some.injEq,Prod.mk.injEq] at h
  obtain⟨rfl,rfl,rfl⟩:=h
  simp only[Bool.and_eq_true,decide_eq_true_eq] at hc
  exact⟨by omega,by omega,.inr ⟨k,by rw[Int.toNat_of_nonneg hc.1.1]⟩,.inr ⟨k',by rw[Int.toNat_of_nonneg (by omega)]⟩⟩
 ·cases h
theorem hJ {f:Nat→SV} {h:Nat→Option ai} {x:Option Operand} {s:SV} (e:(lF x).val f h=some (some s)):∃y,x=some y∧(bV y).val f h=some s:=by
 cases x with
 | none=>simp [lF] at e
 | some y=>
  simp only[lF,M.ae,Option.bind_eq_some_iff,M.aa,Option.some.injEq] at e
  obtain⟨s',h1,rfl⟩:=e
  exact⟨y,rfl,h1⟩
theorem hD {f:Nat→SV} {h:Nat→Option ai} {x:Option Operand} (e:(lF x).val f h=some none):x=none:=by
 cases x with
 | none=>rfl
 | some y=>simp [lF,Option.bind_eq_some_iff] at e
theorem ij {x:Nat} {k:IntKind} {y:Nat} {code:BoundsCode} (h:x≤y):(Instr.sliceBound (.int k x) y code).run P w= .ok x w:=by
 simp [Instr.sliceBound,asIntOf,h]
theorem lY {lo hi:Option Operand} {E4 E3:Option SV} {n cap l m:Nat} {c isS:Bool} {β:Env} {φ:Nat→List Nat} (kL:n≤cap) (hC:Core w0 S st.get st.obj β φ a.tmps w)
  (h1:(lF lo).val st.get st.obj=some E4) (h2:(lF hi).val st.get st.obj=some E3) (h:dg n E4 E3=some (l,m,c)) (hc:c=true):
  (Instr.sliceBounds isS n cap (lo.map a.eval) (hi.map a.eval) none).run P w= .ok (l,m,cap) w:=by
 obtain⟨EW,A6,hl,hm⟩:=kZ h hc
 rcases hl with ⟨rfl,rfl⟩ | ⟨k,rfl⟩<;>rcases hm with ⟨rfl,rfl⟩ | ⟨k',rfl⟩
 ·simp [hD h1,hD h2,Instr.sliceBounds]
 ·obtain⟨y,rfl,hy⟩:=hJ h2
  have hy:=hC.ev hy
  simp only[ak] at hy
  simp [hD h1,Instr.sliceBounds,hy.1,ij (P:=P) (w:=w) (k:=k') (by omega:m≤cap)]
 ·obtain⟨y,rfl,hy⟩:=hJ h1
  have hy:=hC.ev hy
  simp only[ak] at hy
  simp [hD h2,Instr.sliceBounds,hy.1,ij (P:=P) (w:=w) (k:=k) EW]
 ·obtain⟨y,rfl,hy⟩:=hJ h1
  have hy:=hC.ev hy
  obtain⟨z,rfl,hz⟩:=hJ h2
  have hz:=hC.ev hz
  simp only[ak] at hy hz
  simp [Instr.sliceBounds,hy.1,hz.1,ij (P:=P) (w:=w) (k:=k) EW,ij (P:=P) (w:=w) (k:=k') (by omega:m≤cap)]
theorem Bw (hR:Rel w0 S st a w) (hd:∀d,o.dst=some d→ba st.n d) {t:TypeId} {x:Operand} {lo hi:Option Operand} (ho:o.op= .slice t x lo hi none) {sx:SV} {E4 E3:Option SV}
  (h1:(bV x).val st.get st.obj=some sx) (h2:(lF lo).val st.get st.obj=some E4) (h3:(lF hi).val st.get st.obj=some E3)
  (he:(Cv P t sx E4 E3).val st.get st.obj=some e) (aF:e.ok=true):Good P w0 S st o e a w:=by
 unfold Cv at he
 split at he
 ·rename_i hu
  split at he
  ·rename_i s
   split at he
   ·rename_i l m c gj
    simp only[M.aa,Option.some.injEq] at he
    subst he
    have aF:c=true:=aF
    refine aq hR hd rfl rfl fun β φ hc=> ?_
    have hx:=hc.ev h1
    simp only[ak] at hx
    have hb:=lY (P:=P) (isS:=false) (Nat.le_refl _) hc h2 h3 gj aF
    refine⟨.string ⟨((s.take m).drop l).toArray⟩, ?_, ?_⟩
    ·simp [execOp,ho,hx.1,Instr.sliceAt,Instr.slice,run_underlying hu,dz,hb,kB]
    ·unfold ak
     refine⟨rfl, ?_⟩
     simp only[List.length_drop,List.length_take]
     omega
   ·simp at he
  ·simp at he
 ·rename_i et hu
  have run:∀(q:Option Addr) (n cap l m:Nat) (c:Bool) (i:TypeInfo) (β:Env) (φ:Nat→List Nat),Core w0 S st.get st.obj β φ a.tmps w→n≤cap→P.info? et=some i→dg n E4 E3=some (l,m,c)→c=true→
    a.eval x= .slice q n cap→(execOp a.eval o).run P w= .ok (.value (.slice (if cap=l then q else q.map (·.add (l*i.size))) (m - l) (cap - l))) w:=by
   intro q n cap l m c i β φ hc kL hi gj Ah hx
   have hb:=lY (P:=P) (isS:=true) kL hc h2 h3 gj Ah
   simp [execOp,ho,hx,Instr.sliceAt,Instr.slice,run_underlying hu,hb,sizeOf,typeInfo,hi]
  split at he
  ·rename_i ct r
   cases hz:aX P et ct.length
   ·simp [hz] at he
   simp only[hz,cond_true] at he
   obtain⟨i,hi,dd⟩:=a9 hz
   split at he
   ·rename_i l m c gj
    simp only[M.aa,Option.some.injEq] at he
    subst he
    have aF:c=true:=aF
    refine aq hR hd rfl rfl fun β φ hc=> ?_
    have hx:=hc.ev h1
    simp only[ak] at hx
    obtain⟨fp,hr,cA⟩:=hx
    obtain⟨q,n,cap,hv,hn,kL,_,_⟩:=cJ hr
    obtain⟨EW,A6,_⟩:=kZ gj aF
    rw[hv] at hr
    obtain⟨AY,gO,G1⟩:=Cu hr EW A6
    refine⟨_,run q n cap l m c i β φ hc kL hi (by rw[←hn];exact gj) aF hv, ?_⟩
    simp only[ak]
    rw[dd]
    exact⟨AY,gO,fun b hb=>cA b (G1 b hb)⟩
   ·simp at he
  ·rename_i id
   simp only[M.a7,Option.bind_eq_some_iff] at he
   obtain⟨ob,aM,he⟩:=he
   split at he
   ·rename_i t' ct r u
    cases hz:Nat.beq t' et && aX P et ct.length
    ·simp [hz] at he
    simp only[hz,cond_true] at he
    simp only[Bool.and_eq_true] at hz
    obtain⟨i,hi,dd⟩:=a9 hz.2
    split at he
    ·rename_i l m c gj
     simp only[M.aa,Option.some.injEq] at he
     subst he
     have aF:c=true:=aF
     obtain⟨β,φ,hc⟩:=hR.core
     have hx:=hc.ev h1
     simp only[ak] at hx
     have Kz:=hc.freeze aM (.inl ⟨_,_,rfl⟩)
     have Ea:=(Kz.aB id (.dQ ct r) (by simp [ay])).1
     simp only[ak] at Ea
     obtain⟨fp,hr,cA⟩:=Ea
     obtain⟨q,n,cap,hv,hn,kL,_,_⟩:=cJ hr
     obtain⟨EW,A6,_⟩:=kZ gj aF
     rw[hv] at hr
     obtain⟨AY,gO,G1⟩:=Cu hr EW A6
     refine bY hR hd (run q n cap l m c i β φ hc kL hi (by rw[←hn];exact gj) aF (hx.1.trans hv)) hR.kept ⟨β,_,Kz, ?_⟩
     simp only[ak]
     rw[dd]
     exact⟨AY,gO,fun b hb=>cA b (G1 b hb)⟩
    ·simp at he
   ·rename_i ct r
    cases hz:aX P et ct.length
    ·simp [hz] at he
    simp only[hz,cond_true] at he
    obtain⟨i,hi,dd⟩:=a9 hz
    split at he
    ·rename_i l m c gj
     simp only[M.aa,Option.some.injEq] at he
     subst he
     have aF:c=true:=aF
     refine aq hR hd rfl rfl fun β φ hc=> ?_
     have hx:=hc.ev h1
     simp only[ak] at hx
     have Ea:=(hc.aB id _ aM).1
     simp only[ak] at Ea
     obtain⟨fp,hr,cA⟩:=Ea
     obtain⟨q,n,cap,hv,hn,kL,_,_⟩:=cJ hr
     obtain⟨EW,A6,_⟩:=kZ gj aF
     rw[hv] at hr
     obtain⟨AY,gO,G1⟩:=Cu hr EW A6
     refine⟨_,run q n cap l m c i β φ hc kL hi (by rw[←hn];exact gj) aF (hx.1.trans hv), ?_⟩
     simp only[ak]
     rw[dd]
     exact⟨AY,gO,fun b hb=>cA b (G1 b hb)⟩
    ·simp at he
   ·simp at he
  ·simp at he
 ·simp at he
end
end Go.Proofs.YtngbcccnjiaddaaGreat.Vm
namespace Go.Proofs.YtngbcccnjiaddaaGreat.Vm
theorem C6 (off:Nat):∀(vs:List Value) (k:Nat) (cs:Array Value),off+k+vs.length≤cs.size→
  ((vs.zipIdx k).foldl (fun cs (x:Value×Nat)=>cs.setIfInBounds (off+x.2) x.1) cs).toList=cs.toList.take (off+k)++(vs++cs.toList.drop (off+k+vs.length))
 | [],k,cs,h=>by simp
 | v::vs,k,cs,h=>by
  simp only[List.zipIdx_cons,List.foldl_cons]
  simp only[List.length_cons] at h
  rw[C6 off vs (k+1) _ (by simp;omega)]
  have e1:(cs.setIfInBounds (off+k) v).toList=cs.toList.set (off+k) v:=by simp
  have hl:off+k<cs.toList.length:=by simp;omega
  rw[e1]
  have e2:(cs.toList.set (off+k) v).take (off+(k+1))=cs.toList.take (off+k)++[v]:=by
   rw[←Nat.add_assoc,List.take_succ_eq_append_getElem (by simpa using hl),List.take_set_of_le (Nat.le_refl _)]
   simp
  have e3:(cs.toList.set (off+k) v).drop (off+(k+1)+vs.length)=cs.toList.drop (off+k+(vs.length+1)):=by
   rw[List.drop_set_of_lt (by omega)]
   congr 1
   omega
  rw[e2,e3]
  simp
theorem jP {place:Nat→Option (Nat×Nat)} {cells:Array Value} {i off:Nat} {v:Value} {rest:List (Nat×Value)} (hp:place i=some (off,v.cells.size)) (hl:off+v.cells.size≤cells.size):
  Instr.fill place cells ((i,v)::rest)=Instr.fill place (cells.toList.take off++(v.cells.toList++cells.toList.drop (off+v.cells.size))).toArray rest:=by
 have h1:(v.cells.zipIdx.foldl (fun cs (x:Value×Nat)=>cs.setIfInBounds (off+x.2) x.1) cells)=(cells.toList.take off++(v.cells.toList++cells.toList.drop (off+v.cells.size))).toArray:=by
  apply Array.toList_inj.1
  rw[←Array.foldl_toList,Array.toList_zipIdx]
  have:=C6 off v.cells.toList 0 cells (by simpa using hl)
  simpa using this
 simp only[Instr.fill,hp]
 rw[if_neg (by simp;omega)]
 exact congrArg (fun x=>Instr.fill place x rest) h1
section
variable {P:Program} {Γ:Ctx} {w0:World} {S:Own} {st:St} {o:Oper} {e:cB} {a:Act} {w:World}
theorem dm {av:Nat→Prop} {β:Env} {f:Nat→SV} {h:Nat→Option ai} {s:SV} {v:Value} {cs:List SV} (hs:ak w av β s v) (hc:(aA s).val f h=some cs):
  af w av β cs v.cells.toList∧∀x∈v.cells.toList,x.oneCell'=true:=by
 have single:v.oneCell'=true→cs=[s]→af w av β cs v.cells.toList∧∀x∈v.cells.toList,x.oneCell'=true:=by
  intro bg fI
  have BZ:v.cells= #[v]:=by cases v<;>first | rfl | (simp [Value.oneCell'] at bg)
  rw[BZ,fI]
  simp only[List.mem_singleton,forall_eq,af]
  exact⟨⟨v,[],rfl,hs,rfl⟩,bg⟩
 cases s with
 | eY=>simp [aA] at hc
 | undef=>simp [aA] at hc
 | C9 l=>simp [aA] at hc
 | E8 g l=>simp [aA] at hc
 | Ge id lo z=>simp [aA] at hc
 | agg l=>
  simp only[aA,M.aa,Option.some.injEq] at hc
  subst hc
  simp only[ak] at hs
  obtain⟨vs,rfl,h1,h2⟩:=hs
  simpa [Value.cells] using ⟨h1,h2⟩
 | kb b=>simp only[aA,M.aa,Option.some.injEq] at hc;exact single (by simp only[ak] at hs;subst hs;rfl) hc.symm
 | int k n=>simp only[aA,M.aa,Option.some.injEq] at hc;exact single (by simp only[ak] at hs;rw[hs.1];rfl) hc.symm
 | bool b=>simp only[aA,M.aa,Option.some.injEq] at hc;exact single (by simp only[ak] at hs;subst hs;rfl) hc.symm
 | str b=>simp only[aA,M.aa,Option.some.injEq] at hc;exact single (by simp only[ak] at hs;rw[hs.1];rfl) hc.symm
 | sl e r=>simp only[aA,M.aa,Option.some.injEq] at hc;exact single (by simp only[ak] at hs;obtain⟨fp,hr,_⟩:=hs;exact hr.one) hc.symm
 | nil=>simp only[aA,M.aa,Option.some.injEq] at hc;exact single (by simp only[ak] at hs;subst hs;rfl) hc.symm
 | own id=>simp only[aA,M.aa,Option.some.injEq] at hc;exact single (by simp only[ak] at hs;exact hs.2) hc.symm
 | ptr id off=>simp only[aA,M.aa,Option.some.injEq] at hc;exact single (by simp only[ak] at hs;subst hs;rfl) hc.symm
 | gu e r off=>simp only[aA,M.aa,Option.some.injEq] at hc;exact single (by simp only[ak] at hs;obtain⟨b,o,fp,hv,_⟩:=hs;subst hv;rfl) hc.symm
 | dL id i z off=>simp only[aA,M.aa,Option.some.injEq] at hc;exact single (by simp only[ak] at hs;obtain⟨g,_,hv⟩:=hs;subst hv;rfl) hc.symm
theorem dY {av:Nat→Prop} {β:Env} :∀(l:List Value),af w av β (l.map ofConst) l
 | []=>by simp [af]
 | v::l=>by
  simp only[List.map_cons,af]
  exact⟨v,l,rfl,iS v,dY l⟩
theorem Dj {fs:Array Field} {places:List (Nat×Nat)} (h:fs.toList.mapM (fun f=>(P.info? f.type).map fun i=>(f.offset,i.size))=some places) {i:Nat} {f:Field} (hf:fs[i]? =some f):
  ∃ti,P.info? f.type=some ti∧places.toArray[i]? =some (f.offset,ti.size):=by
 have BK:fs.toList[i]? =some f:=by simpa using hf
 clear hf
 generalize fs.toList=l at h BK
 induction l generalizing places i with
 | nil=>simp at BK
 | cons g l ih=>
  simp only[List.mapM_cons,Option.bind_eq_bind,Option.pure_def] at h
  cases hi:P.info? g.type with
  | none=>simp [hi] at h
  | some ti=>
   cases hr:l.mapM (fun f=>(P.info? f.type).map fun i=>(f.offset,i.size)) with
   | none=>simp [hi,hr] at h
   | some rest=>
    simp [hi,hr] at h
    subst h
    cases i with
    | zero=>
     simp at BK
     subst BK
     exact⟨ti,hi,by simp⟩
    | succ i=>
     obtain⟨tj,h1,h2⟩:=ih hr (by simpa using BK)
     exact⟨tj,h1,by simpa using h2⟩
theorem mA {β:Env} {φ:Nat→List Nat} (hc:Core w0 S st.get st.obj β φ a.tmps w) {fs:Array Field} {places:List (Nat×Nat)}
  (hp:fs.toList.mapM (fun f=>(P.info? f.type).map fun i=>(f.offset,i.size))=some places):
  ∀(parts:List (Nat×Operand)) (cells:List SV) (cs:List SV) (vs:List Value),(jL P fs parts cells).val st.get st.obj=some cs→af w (Av st.obj β) β cells vs→(∀x∈vs,x.oneCell'=true)→
  ∃us:List Value,Instr.fill (places.toArray[·]?) vs.toArray (parts.map fun x=>(x.1,a.eval x.2))=some us.toArray∧af w (Av st.obj β) β cs us∧∀x∈us,x.oneCell'=true
 | [],cells,cs,vs,hb,hr,h1=>by
  simp only[jL,M.aa,Option.some.injEq] at hb
  subst hb
  exact⟨vs,by simp [Instr.fill],hr,h1⟩
 | (i,x)::rest,cells,cs,vs,hb,hr,h1=>by
  simp only[jL] at hb
  split at hb
  ·rename_i f hf
   simp only[M.ae,Option.bind_eq_some_iff] at hb
   obtain⟨s,hs,Hw,Ah,hb⟩:=hb
   cases hz:aX P f.type Hw.length && Nat.ble (f.offset+Hw.length) cells.length
   ·simp [hz] at hb
   simp only[hz,cond_true] at hb
   simp only[Bool.and_eq_true] at hz
   obtain⟨ti,Fs,J7⟩:=Dj hp hf
   obtain⟨Me,Ft,dd⟩:=a9 hz.1
   rw[Fs] at Ft
   injection Ft with Ft
   subst Ft
   have hle:=Nat.le_of_ble_eq_true hz.2
   obtain⟨fI,bg⟩:=dm (hc.ev hs) Ah
   have hlen:=af.length _ _ hr
   have A5:=af.length _ _ fI
   have bk:(a.eval x).cells.size=ti.size:=by simpa [dd] using A5
   have dr:f.offset+(a.eval x).cells.size≤vs.toArray.size:=by simp;omega
   have bs:af w (Av st.obj β) β (cells.take f.offset++(Hw++cells.drop (f.offset+Hw.length))) (vs.take f.offset++((a.eval x).cells.toList++vs.drop (f.offset+(a.eval x).cells.size))):=by
    refine af.append _ _ _ _ (af.take _ _ _ hr) (af.append _ _ _ _ fI ?_)
    have:Hw.length=(a.eval x).cells.size:=by simpa using A5.symm
    rw[this]
    exact af.drop _ _ _ hr
   obtain⟨us,ko,iw,lP⟩:=mA hc hp rest _ cs _ hb bs (by
    intro y hy
    simp only[List.mem_append] at hy
    rcases hy with hy | hy | hy
    ·exact h1 y (List.mem_of_mem_take hy)
    ·exact bg y hy
    ·exact h1 y (List.mem_of_mem_drop hy))
   refine⟨us, ?_,iw,lP⟩
   simp only[List.map_cons]
   rw[jP (off:=f.offset) (by rw[bk];exact J7) dr]
   simpa using ko
  ·simp at hb
theorem cW {f:Nat→SV} {h:Nat→Option ai} {t:TypeId} {z:List SV} (hz:(dh P t).val f h=some z):
  ∃i zv,P.info? t=some i∧i.zero=some zv∧z=zv.cells.toList.map ofConst∧∀x∈zv.cells.toList,x.oneCell'=true:=by
 unfold dh at hz
 split at hz
 ·rename_i i hi
  split at hz
  ·rename_i zv mn
   cases ha:zv.cells.toList.all (·.oneCell')
   ·simp [ha] at hz
   ·simp only[ha,cond_true,M.aa,Option.some.injEq] at hz
    exact⟨i,zv,hi,mn,hz.symm,fun x hx=>List.all_eq_true.1 ha x hx⟩
  ·simp at hz
 ·simp at hz
theorem Bq (hR:Rel w0 S st a w) (hd:∀d,o.dst=some d→ba st.n d) {t:TypeId} {parts:Array (Nat×Operand)} (ho:o.op= .build t parts) {fs:Array Field} {places:List (Nat×Nat)} {z cs:List SV}
  (hu:P.underlying t=some (.struct fs)) (hp:fs.toList.mapM (fun f=>(P.info? f.type).map fun i=>(f.offset,i.size))=some places)
  (hz:(dh P t).val st.get st.obj=some z) (hb:(jL P fs parts.toList z).val st.get st.obj=some cs) (he:e= {sv:= .agg cs}):Good P w0 S st o e a w:=by
 subst he
 refine aq hR hd rfl rfl fun β φ hc=> ?_
 obtain⟨i,zv,hi,mn,rfl,bg⟩:=cW hz
 obtain⟨us,ko,iw,lP⟩:=mA hc hp parts.toList _ cs _ hb (dY zv.cells.toList) bg
 refine⟨.agg us.toArray, ?_,by unfold ak;exact⟨us,rfl,iw,lP⟩⟩
 have Gz:P.built t (parts.map fun x=>(x.1,a.eval x.2)).toList=some us.toArray:=by
  simp only[Program.built,hi,hu,mn,hp]
  simpa using ko
 have:=run_build (P:=P) w t (parts.map fun x=>(x.1,a.eval x.2)) us.toArray Gz
 simp [execOp,ho,this]
end
end Go.Proofs.YtngbcccnjiaddaaGreat.Vm
namespace Go.Proofs.YtngbcccnjiaddaaGreat.Vm
def Env.Cs (β:Env) (id b:Nat):Env:=⟨ay β.di id b,β.val,β.gr,β.nb⟩
def Env.fv (β:Env) (id:Nat) (v:Value):Env:=⟨β.di,ay β.val id v,β.gr,β.nb⟩
theorem mq {i:Nat} {m n:eB} :bK i (m++n)=(bK i m && bK i n):=by
 induction m with
 | nil=>simp [bK]
 | cons x l ih=>obtain⟨j,q⟩:=x;simp [bK,ih,Bool.and_assoc]
theorem gm {m n:eB} (h:aI (m++n)=true):aI m=true∧aI n=true∧∀x∈m,∀y∈n,x.1≠y.1:=by
 induction m with
 | nil=>exact⟨rfl,by simpa using h,by simp⟩
 | cons x l ih=>
  obtain⟨j,q⟩:=x
  simp only[List.cons_append,aI,mq,Bool.and_eq_true] at h
  obtain⟨h1,h2,h3⟩:=ih h.2
  refine⟨by simp [aI,h.1.1,h1],h2,fun x hx y hy=> ?_⟩
  rcases List.mem_cons.1 hx with rfl | hx
  ·exact fun e=>gb h.1.2 y hy e.symm
  ·exact h3 x hx y hy
section
variable {P:Program} {Γ:Ctx} {w0:World} {S:Own} {st:St} {o:Oper} {e:cB} {a:Act} {w:World}
variable {f:Nat→SV} {h:Nat→Option ai} {β:Env} {φ:Nat→List Nat} {tm:Array Value}
theorem fE {m:eB} {b:Nat} (hb:Av (fo (ah m) h) β b):Av h β b:=by
 induction m generalizing b with
 | nil=>exact hb
 | cons x l ih=>
  obtain⟨i,e',r,u⟩:=x
  rcases hb with ⟨j,ob,hj,bn⟩ | hb
  case inr=>exact .inr hb
  simp only[ah,fo,ay] at hj
  split at hj
  ·injection hj with hj
   subst hj
   simp [ao] at bn
  ·exact ih (.inl ⟨j,ob,hj,bn⟩)
theorem c_ (hc:Core w0 S f h β φ tm w) {m:eB} (hm:bP h m) {x:Nat×List CT×List (List DC)×Bool} (hx:x∈m) {b:Nat} (hb:b∈ec h β x.1):¬Av (fo (ah m) h) β b:=by
 rintro (⟨j,ob,hj,bn⟩ | fl)
 case inr=>
  obtain⟨o,db,_⟩:=hm x hx
  rw[eE db] at hb
  exact hc.C3 db (aj (hc.aB _ _ db) b hb) fl
 obtain⟨o,db,_⟩:=hm x hx
 rw[eE db] at hb
 have frozen:∀(l:eB) (j:Nat),(∃y∈l,y.1=j)→∃e' r,fo (ah l) h j=some (.dQ e' r):=by
  intro l
  induction l with
  | nil=>rintro j ⟨y,hy,_⟩;simp at hy
  | cons z l ih=>
   obtain⟨i,e',r,u⟩:=z
   rintro j ⟨y,hy,rfl⟩
   simp only[ah,fo,ay]
   by_cases Kh:y.1=i
   ·rw[if_pos Kh];exact⟨e',r,rfl⟩
   ·rw[if_neg Kh]
    rcases List.mem_cons.1 hy with rfl | hy
    ·exact absurd rfl Kh
    ·exact ih y.1 ⟨y,hy,rfl⟩
 by_cases A4:∃y∈m,y.1=j
 ·obtain⟨e',r,bI⟩:=frozen m j A4
  rw[bI] at hj
  injection hj with hj
  subst hj
  simp [ao] at bn
 ·have fJ:h j=some ob:=by rw[bD (fun y hy e=>A4 ⟨y,hy,e⟩)] at hj;exact hj
  have cm:x.1≠j:=fun e=>A4 ⟨x,hx,e⟩
  exact hc.sep x.1 j _ _ cm db fJ b (aj (hc.aB x.1 _ db) b hb) (aj (hc.aB j _ fJ) b bn)
theorem eA (hc:Core w0 S f h β φ tm w) {ct:CT} {s:SV} {v:Value} {q:DC×eB×Bool} (hs:ak w (Av h β) β s v) (hq:(eU ct s).val f h=some q):
  ∃fp,bQ w ct q.1 v fp∧bP h q.2.1∧aI q.2.1=true∧(∀b∈fp,(¬Av h β b)∨∃x∈q.2.1,b∈ec h β x.1)∧
   (q.2.2=true→(∀b∈fp,∃x∈q.2.1,b∈φ x.1)∧fp.Nodup):=by
 have plain:∀(d:DC) (fr:Bool) (fp:List Nat),q=(d,[],fr)→bQ w ct d v fp→(∀b∈fp,¬Av h β b)→(fr=true→fp=[])→
   ∃fp,bQ w ct q.1 v fp∧bP h q.2.1∧aI q.2.1=true∧(∀b∈fp,(¬Av h β b)∨∃x∈q.2.1,b∈ec h β x.1)∧(q.2.2=true→(∀b∈fp,∃x∈q.2.1,b∈φ x.1)∧fp.Nodup):=by
  rintro d fr fp rfl hr cA bI
  refine⟨fp,hr,by simp [bP],rfl,fun b hb=> .inl (cA b hb),fun hf=> ?_⟩
  rw[bI hf]
  simp
 unfold eU at hq
 split at hq
 ·rename_i k n
  split at hq
  ·rename_i k'
   by_cases hk:k=k'
   ·subst hk
    simp only[decide_true,cond_true,M.aa,Option.some.injEq] at hq
    simp only[ak] at hs
    exact plain _ _ [] hq.symm (by unfold bQ;exact⟨n,rfl,hs.1,hs.2,rfl⟩) (by simp) (by simp)
   ·simp [hk] at hq
  ·simp at hq
 ·split at hq
  ·simp only[M.aa,Option.some.injEq] at hq
   simp only[ak] at hs
   exact plain _ _ [] hq.symm (by unfold bQ;exact⟨_,rfl,hs,rfl⟩) (by simp) (by simp)
  ·simp at hq
 ·split at hq
  ·simp only[M.aa,Option.some.injEq] at hq
   simp only[ak] at hs
   exact plain _ _ [] hq.symm (by unfold bQ;exact⟨_,rfl,hs,rfl⟩) (by simp) (by simp)
  ·simp at hq
 ·split at hq
  ·simp only[M.aa,Option.some.injEq] at hq
   simp only[ak] at hs
   exact plain _ _ [] hq.symm (by unfold bQ;exact⟨_,rfl,hs.1,hs.2,rfl⟩) (by simp) (by simp)
  ·simp at hq
 ·rename_i e' r
  split at hq
  ·rename_i DV
   cases hb:aC e' DV
   ·simp [hb] at hq
   ·simp only[hb,cond_true,M.aa,Option.some.injEq] at hq
    have:=aG _ _ hb
    subst this
    simp only[ak] at hs
    obtain⟨fp,hr,cA⟩:=hs
    exact plain _ _ fp hq.symm hr cA (by simp)
  ·simp at hq
 ·split at hq
  ·simp only[M.aa,Option.some.injEq] at hq
   simp only[ak] at hs
   subst hs
   exact plain _ _ [] hq.symm (jB rfl (Nat.le_refl _) (Nat.zero_le _) (.inl ⟨rfl,rfl⟩)) (by simp) (by simp)
  ·simp at hq
 ·rename_i id
  split at hq
  ·rename_i e'
   simp only[ak] at hs
   obtain⟨hs,_⟩:=hs
   subst hs
   simp only[M.a7,Option.bind_eq_some_iff] at hq
   obtain⟨ob,aM,hq⟩:=hq
   split at hq
   ·rename_i t' DV r fz u
    cases hb:aC DV e'
    ·simp [hb] at hq
    ·simp only[hb,cond_true,M.aa,Option.some.injEq] at hq
     have:=aG _ _ hb
     subst this hq
     obtain⟨fp,h1,h2,h3⟩:=bb (hc.aB id _ aM)
     refine⟨fp,h1, ?_,rfl,fun b hb=> ?_,fun hu=>⟨fun b hb=>⟨_,List.mem_singleton.2 rfl,(h3 hu).1 b hb⟩,(h3 hu).2 (hc.fresh id _ aM).1⟩⟩
     ·intro x hx
      rw[List.mem_singleton] at hx
      subst hx
      exact⟨_,aM,.inl ⟨t',fz,rfl⟩⟩
     ·rcases h2 b hb with hx | hx
      ·exact .inr ⟨_,List.mem_singleton.2 rfl,by rw[eE aM];exact hx⟩
      ·exact .inl hx
   ·rename_i DV r
    cases hb:aC DV e'
    ·simp [hb] at hq
    ·simp only[hb,cond_true,M.aa,Option.some.injEq] at hq
     have:=aG _ _ hb
     subst this
     obtain⟨h1,_⟩:=hc.aB id _ aM
     simp only[ak] at h1
     obtain⟨fp,hr,cA⟩:=h1
     exact plain _ _ fp hq.symm hr cA (by simp)
   ·rename_i t' DV ts r
    cases hb:aC DV e'
    ·simp [hb] at hq
    ·simp only[hb,cond_true,M.aa,Option.some.injEq] at hq
     have:=aG _ _ hb
     subst this hq
     have KI:m5 (.deep t' DV ts r none) DV r true:= .inr ⟨t',ts,rfl,rfl⟩
     obtain⟨fp,h1,h2,h3⟩:=mT (hc.aB id _ aM) KI
     refine⟨fp,h1, ?_,rfl,fun b hb=> ?_,fun hu=>⟨fun b hb=>⟨_,List.mem_singleton.2 rfl,(h3 hu).1 b hb⟩,(h3 hu).2 (hc.fresh id _ aM).1⟩⟩
     ·intro x hx
      rw[List.mem_singleton] at hx
      subst hx
      exact⟨_,aM,KI⟩
     ·rcases h2 b hb with hx | hx
      ·exact .inr ⟨_,List.mem_singleton.2 rfl,by rw[eE aM];exact hx⟩
      ·exact .inl hx
   ·simp at hq
  ·simp at hq
 ·simp at hq
theorem eu {m n:eB} (h1:bP h m) (h2:bP h n):bP h (m++n):=fun x hx=>by
 rcases List.mem_append.1 hx with hx | hx
 ·exact h1 x hx
 ·exact h2 x hx
theorem apart (hc:Core w0 S f h β φ tm w) {m n:eB} (hm:bP h m) (hn:bP h n) (cm:∀x∈m,∀y∈n,x.1≠y.1) {p q:List Nat}
  (hp:∀b∈p,∃x∈m,b∈φ x.1) (hq:∀b∈q,∃x∈n,b∈φ x.1) (np:p.Nodup) (nq:q.Nodup):(p++q).Nodup:=by
 rw[List.nodup_append]
 refine⟨np,nq,fun b hb c gG Dd=> ?_⟩
 subst Dd
 obtain⟨x,hx,jR⟩:=hp b hb
 obtain⟨y,hy,AH⟩:=hq b gG
 obtain⟨_,h1,_⟩:=hm x hx
 obtain⟨_,h2,_⟩:=hn y hy
 exact hc.sep x.1 y.1 _ _ (cm x hx y hy) h1 h2 b jR AH
theorem dA (hc:Core w0 S f h β φ tm w):∀(cb:List CT) (bE:List SV) (vs:List Value) (q:List DC×eB×Bool),af w (Av h β) β bE vs→(bT cb bE).val f h=some q→
  ∃fp,aS w cb q.1 (fun j=>vs[j]?) fp∧bP h q.2.1∧(∀b∈fp,(¬Av h β b)∨∃x∈q.2.1,b∈ec h β x.1)∧
   (q.2.2=true→(∀b∈fp,∃x∈q.2.1,b∈φ x.1)∧(aI q.2.1=true→fp.Nodup))
 | [],[],vs,q,hs,hq=>by
  simp only[bT,M.aa,Option.some.injEq] at hq
  subst hq
  exact⟨[],by simp [aS],by simp [bP],by simp,by simp⟩
 | [],_::_,vs,q,hs,hq=>by simp [bT] at hq
 | _::_,[],vs,q,hs,hq=>by simp [bT] at hq
 | c::cs,s::ss,vs,q,hs,hq=>by
  simp only[af] at hs
  obtain⟨v,l,rfl,h1,h2⟩:=hs
  simp only[bT,M.ae,Option.bind_eq_some_iff,M.aa,Option.some.injEq] at hq
  obtain⟨q1,aK,q2,cZ,rfl⟩:=hq
  obtain⟨f1,r1,m1,n1,a1,u1⟩:=eA hc h1 aK
  obtain⟨f2,r2,m2,a2,u2⟩:=dA hc cs ss l q2 h2 cZ
  refine⟨f1++f2, ?_,eu m1 m2, ?_, ?_⟩
  ·simp only[aS]
   exact⟨q1.1,q2.1,v,f1,f2,rfl,by simp,r1,by simpa using r2,rfl⟩
  ·intro b hb
   rcases List.mem_append.1 hb with hb | hb
   ·rcases a1 b hb with hx | ⟨x,hx,jR⟩
    ·exact .inl hx
    ·exact .inr ⟨x,List.mem_append_left _ hx,jR⟩
   ·rcases a2 b hb with hx | ⟨x,hx,jR⟩
    ·exact .inl hx
    ·exact .inr ⟨x,List.mem_append_right _ hx,jR⟩
  ·intro hu
   simp only[Bool.and_eq_true] at hu
   refine⟨fun b hb=> ?_,fun hn=> ?_⟩
   ·rcases List.mem_append.1 hb with hb | hb
    ·obtain⟨x,hx,jR⟩:=(u1 hu.1).1 b hb
     exact⟨x,List.mem_append_left _ hx,jR⟩
    ·obtain⟨x,hx,jR⟩:=(u2 hu.2).1 b hb
     exact⟨x,List.mem_append_right _ hx,jR⟩
   ·obtain⟨_,GQ,cm⟩:=gm hn
    exact apart hc m1 m2 cm (u1 hu.1).1 (u2 hu.2).1 (u1 hu.1).2 ((u2 hu.2).2 GQ)
theorem Core.create (hc:Core w0 S f h β φ tm w) {w':World} {β':Env} {id:Nat} {ob:ai} {FN:List Nat} (hs:w.heap.size≤w'.heap.size) (hw:∀b,b<w.heap.size→w'.heap[b]? =w.heap[b]?)
  (hf:∀i,id ∉ bH (f i)) (ho:∀j o,h j=some o→id ∉ bZ o) (hn:h id=none) (fS:∀j,j≠id→β'.val j=β.val j∧β'.di j=β.di j)
  (iL:∀b∈ao β' id ob,w.heap.size≤b) (gJ:fA w' (Av (ay h id (some ob)) β') β' id ob FN) (hnd:FN.Nodup)
  (lM:∀b∈FN,((w0.heap.size≤b∨S b)∧b<w'.heap.size)∧∀j o,h j=some o→b ∉ φ j) (fl:β'.gr=β.gr:=by rfl) (kO:∀j,j≠id→β'.nb j=β.nb j:=by intro _ _;rfl):Core w0 S f (ay h id (some ob)) β' (ay φ id FN) tm w':=by
 have ir:∀j o,j≠id→ao β' j o=ao β j o:=by
  intro j o hj
  cases o<;>simp [ao,fS j hj,kO j hj]
 refine hc.mc (fun i=>i=id) hs (fun b hb _=>hw b hb) ?_ (fun i j hj e=>hf i (e ▸ hj)) fS ?_ ?_ fl
 ·rintro b (⟨j,oj,hj,bn⟩ | hb)
  case inr=>exact .inl (.inr (fl ▸ hb))
  by_cases bR:j=id
  ·subst bR
   simp only[ay,if_true,Option.some.injEq] at hj
   subst hj
   exact .inr (iL b bn)
  ·simp only[ay,bR,if_false] at hj
   rw[ir j oj bR] at bn
   exact .inl (.inl ⟨j,oj,hj,bn⟩)
 ·intro j oj hj
  by_cases bR:j=id
  ·subst bR
   simp only[ay,if_true,Option.some.injEq] at hj
   subst hj
   exact .inr ⟨by simpa [ay] using gJ,by simpa [ay] using hnd,fun b hb=>(lM b (by simpa [ay] using hb)).1⟩
  ·simp only[ay,bR,if_false] at hj
   refine .inl ⟨bR,hj,kO j bR,by simp [ay,bR],fun i hi e=>ho j oj hj (e ▸ hi),fun b hb=>hw b ?_⟩
   exact ((hc.fresh j oj hj).2 b (aj (hc.aB j oj hj) b hb)).2
 ·intro i j oi oj cm hi hj b hb
  by_cases kN:i=id
  ·subst kN
   have fX:j≠i:=Ne.symm cm
   simp only[ay,fX,if_false] at hj
   simp only[ay,if_true] at hb
   simp only[ay,fX,if_false]
   exact (lM b hb).2 j oj hj
  ·simp only[ay,kN,if_false] at hi hb
   by_cases bR:j=id
   ·subst bR
    simp only[ay,if_true]
    exact fun ax=>(lM b ax).2 i oi hi hb
   ·simp only[ay,bR,if_false] at hj ⊢
    exact hc.sep i j oi oj cm hi hj b hb
theorem af.beside {w':World} {β':Env} {id:Nat} {ob:ai} (hs:w.heap.size≤w'.heap.size) (hw:∀b,b<w.heap.size→w'.heap[b]? =w.heap[b]?)
  (fS:∀j,j≠id→β'.val j=β.val j∧β'.di j=β.di j) (iL:∀b∈ao β' id ob,w.heap.size≤b) {ss:List SV} {vs:List Value} (hr:af w (Av h β) β ss vs) (hi:id ∉ bA ss) (fl:β'.gr=β.gr:=by rfl) (kO:∀j,j≠id→β'.nb j=β.nb j:=by intro _ _;rfl):
  af w' (Av (ay h id (some ob)) β') β' ss vs:=by
 refine af.mono hs (fun b hb _=>hw b hb) ?_ ss vs hr (fun j hj=>fS j (fun e=>hi (e ▸ hj)))
 rintro b (⟨j,oj,hj,bn⟩ | hb)
 case inr=>exact .inl (.inr (fl ▸ hb))
 by_cases bR:j=id
 ·subst bR
  simp only[ay,if_true,Option.some.injEq] at hj
  subst hj
  exact .inr (iL b bn)
 ·simp only[ay,bR,if_false] at hj
  refine .inl (.inl ⟨j,oj,hj, ?_⟩)
  cases oj<;>simp only[ao,fS j bR,kO j bR] at bn ⊢ <;>exact bn
structure bC (st:St) (d:Nat):Prop where
 slot:∀i,∀j∈bH (st.get i),j / 64≠d
 obj:∀j ob,st.obj j=some ob→j / 64≠d∧∀k∈bZ ob,k / 64≠d
theorem cy (d k:Nat) (hk:k<64):ag d k / 64=d:=by unfold ag;omega
theorem Kept.alloc (hk:Kept S w0 w) (ob:Obj):Kept S w0 (w.alloc ob):=
 ⟨hk.os,hk.tape,hk.output,by have:=hk.size;simp;omega,fun k h1 h2=>(by show (w.heap.push ob)[k]? =_;rw[Array.getElem?_push,if_neg (by have:=hk.size;omega)];exact hk.block k h1 h2)⟩
theorem Kept.drew (hk:Kept S w0 w):Kept S w0 w.drew:=⟨hk.os,hk.tape,hk.output,hk.size,hk.block⟩
theorem bX (ob:Obj):(w.alloc ob).heap.size=w.heap.size+1:=by simp
theorem dI (ob:Obj):(w.alloc ob).heap[w.heap.size]? =some ob:=heap_alloc_new w ob
theorem alloc_old (ob:Obj) (b:Nat) (hb:b<w.heap.size):(w.alloc ob).heap[b]? =w.heap[b]? :=by
 show (w.heap.push ob)[b]? =_
 rw[Array.getElem?_push,if_neg (by omega)]
theorem ku (v:Value):bH (ofConst v)=[]:=by
 unfold ofConst
 split
 ·rfl
 ·cases Be _ _<;>rfl
 ·generalize Nat.ble _ _=c
  cases c<;>rfl
 ·rfl
 ·rfl
theorem js:∀(l:List Value),bA (l.map ofConst)=[]
 | []=>rfl
 | v::l=>by simp [bA,ku,js l]
theorem ES {d:Nat} (hf:bC st d) {x:Operand} {s:SV} (hx:(bV x).val st.get st.obj=some s):∀j∈bH s,j / 64≠d:=by
 have:=CI hx
 subst this
 cases x with
 | tmp t=>exact hf.slot t
 | const v=>simp [Gq,ku]
 | global g=>intro j hj;simp [Gq,bH] at hj
 | func g=>intro j hj;simp [Gq,bH] at hj
theorem BA {s:SV} {cs:List SV} (hc:(aA s).val f h=some cs):bA cs=bH s:=by
 cases s<;>simp [aA] at hc<;>subst hc<;>simp [bH,bA]
theorem jD (hR:Rel w0 S st a w) {d:Nat} (aJ:o.dst=some d) (hd:ba st.n d) (bI:bC st d) {t:TypeId} {cells:List SV} {vs:List Value}
  (bj:(execOp a.eval o).run P w= .ok (.value (.pointer (some ⟨w.heap.size,0,none⟩))) (w.alloc (.cells vs.toArray t)))
  (BZ:∀β φ,Core w0 S st.get st.obj β φ a.tmps w→af w (Av st.obj β) β cells vs) (bg:∀x∈vs,x.oneCell'=true) (B5:∀j∈bA cells,j / 64≠d)
  (he:e= {sv:= .ptr (ag d 0) 0,ow:=[(ag d 0,some (.box t cells))]}):Good P w0 S st o e a w:=by
 subst he
 obtain⟨β,φ,hc⟩:=hR.core
 have bs:ag d 0 / 64=d:=cy d 0 (by omega)
 have fS:∀j,j≠ag d 0→(β.Cs (ag d 0) w.heap.size).val j=β.val j∧(β.Cs (ag d 0) w.heap.size).di j=β.di j:=by
  intro j hj
  exact⟨rfl,by simp [Env.Cs,ay,hj]⟩
 have jf:(β.Cs (ag d 0) w.heap.size).di (ag d 0)=w.heap.size:=by simp [Env.Cs,ay]
 have iL:∀b∈ao (β.Cs (ag d 0) w.heap.size) (ag d 0) (.box t cells),w.heap.size≤b:=by
  intro b hb
  simp only[ao,jf,List.mem_singleton] at hb
  omega
 have hle:=hR.kept.size
 refine bY hR (fun d' h'=>by rw[aJ] at h';injection h' with h';exact h' ▸ hd) bj (hR.kept.alloc _) ⟨β.Cs (ag d 0) w.heap.size,ay φ (ag d 0) [w.heap.size], ?_, ?_⟩
 ·refine hc.create (by rw[bX];omega) (fun b hb=>alloc_old _ b hb) (fun i hi=>bI.slot i _ hi bs) (fun j ob hj hi=>(bI.obj j ob hj).2 _ hi bs) ?_ fS iL ?_ (by simp) ?_
  ·cases hn:st.obj (ag d 0) with
   | none=>rfl
   | some ob=>exact absurd bs (bI.obj _ ob hn).1
  ·refine⟨vs,by rw[jf];exact dI _, ?_,bg,by rw[jf]⟩
   exact af.beside (by rw[bX];omega) (fun b hb=>alloc_old _ b hb) fS iL (BZ β φ hc) (fun hi=>B5 _ hi bs)
  ·intro b hb
   rw[List.mem_singleton] at hb
   subst hb
   refine⟨⟨.inl hle,by rw[bX];omega⟩,fun j ob hj hb=> ?_⟩
   have:=((hc.fresh j ob hj).2 _ hb).2
   omega
 ·simp only[ak,jf]
theorem Bp (hR:Rel w0 S st a w) {d:Nat} (aJ:o.dst=some d) (hd:ba st.n d) (bI:bC st d) {t:TypeId} (ho:o.op= .alloc t) {z:List SV} (hz:(dh P t).val st.get st.obj=some z)
  (he:e= {sv:= .ptr (ag d 0) 0,ow:=[(ag d 0,some (.box t z))]}):Good P w0 S st o e a w:=by
 obtain⟨i,zv,hi,mn,rfl,bg⟩:=cW hz
 refine jD hR aJ hd bI (vs:=zv.cells.toList) ?_ (fun β φ hc=>dY _) bg (by simp [js]) he
 simp [execOp,ho,Instr.alloc,zeroValue,typeInfo,hi,mn,newVar,newRow]
theorem Dr (hR:Rel w0 S st a w) {d:Nat} (aJ:o.dst=some d) (hd:ba st.n d) (bI:bC st d) {t:TypeId} {x:Operand} (ho:o.op= .box t x) {s:SV} {cs:List SV}
  (hx:(bV x).val st.get st.obj=some s) (fI:(aA s).val st.get st.obj=some cs)
  (he:e= {sv:= .ptr (ag d 0) 0,ow:=[(ag d 0,some (.box t cs))]}):Good P w0 S st o e a w:=by
 obtain⟨IL,IM,BI⟩:=hR.core
 refine jD hR aJ hd bI (vs:=(a.eval x).cells.toList) ?_ (fun β φ hc=>(dm (hc.ev hx) fI).1) (dm (BI.ev hx) fI).2 ?_ he
 ·simp [execOp,ho,Instr.box,newVar,newRow]
 ·rw[BA fI]
  exact ES bI hx
end
end Go.Proofs.YtngbcccnjiaddaaGreat.Vm
namespace Go.Proofs.YtngbcccnjiaddaaGreat.Vm
section
variable {P:Program} {Γ:Ctx} {w0:World} {S:Own} {st:St} {o:Oper} {e:cB} {a:Act} {w:World}
variable {f:Nat→SV} {h:Nat→Option ai} {β:Env} {φ:Nat→List Nat} {tm:Array Value}
theorem dC.cons {ct:List CT} {r:List DC} {l:List Value} {g:List Nat} {rows:List (List DC)} {vals:List Value} {az:List (List Nat)} (h1:aS w ct r (fun j=>l[j]?) g) (hl:l.length=ct.length)
  (h2:dC w ct rows vals az):dC w ct (r::rows) (l++vals) (g::az):=by
 refine⟨by simp [h2.1],fun i r' f' hi hf=> ?_⟩
 cases i with
 | zero=>
  simp at hi hf
  subst hi hf
  refine bb.aS.ju (fun j u hj=> ?_) h1
  simp only[Nat.zero_mul,Nat.zero_add]
  rw[List.getElem?_append_left (by have:=List.getElem?_eq_some_iff.1 hj;exact this.1)]
  exact hj
 | succ i=>
  have:=h2.2 i r' f' (by simpa using hi) (by simpa using hf)
  refine bb.aS.ju (fun j u hj=> ?_) this
  rw[List.getElem?_append_right (by rw[hl,Nat.succ_mul];omega)]
  rw[←hj]
  congr 1
  rw[hl,Nat.succ_mul]
  omega
theorem dC.nil {ct:List CT} {vals:List Value} :dC w ct [] vals []:=⟨rfl,by simp⟩
theorem dC.append {ct:List CT} {rows Gf:List (List DC)} {vals mZ:List Value} {az E_:List (List Nat)} (h1:dC w ct rows vals az) (hl:vals.length=rows.length*ct.length)
  (h2:dC w ct Gf mZ E_):dC w ct (rows++Gf) (vals++mZ) (az++E_):=by
 refine⟨by simp [h1.1,h2.1],fun i r f hi hf=> ?_⟩
 rcases Nat.lt_or_ge i rows.length with cd | D8
 ·rw[List.getElem?_append_left cd] at hi
  rw[List.getElem?_append_left (by rw[h1.1];exact cd)] at hf
  refine bb.aS.ju (fun j u hj=> ?_) (h1.2 i r f hi hf)
  rw[List.getElem?_append_left (by have:=List.getElem?_eq_some_iff.1 hj;exact this.1)]
  exact hj
 ·rw[List.getElem?_append_right D8] at hi
  rw[List.getElem?_append_right (by rw[h1.1];exact D8),h1.1] at hf
  refine bb.aS.ju (fun j u hj=> ?_) (h2.2 _ r f hi hf)
  have e1:i*ct.length+j=rows.length*ct.length+((i - rows.length)*ct.length+j):=by
   have:i*ct.length=rows.length*ct.length+(i - rows.length)*ct.length:=by rw[←Nat.add_mul];congr 1;omega
   omega
  rw[List.getElem?_append_right (by omega)]
  rw[←hj]
  congr 1
  omega
theorem cY {m:eB} {j:Nat} {ob:ai} (hj:fo (ah m) h j=some ob):(h j=some ob)∨(∃e' r,ob= .dQ e' r∧∃y∈m,y.1=j):=by
 induction m with
 | nil=>exact .inl hj
 | cons x l ih=>
  obtain⟨i,e',r,u⟩:=x
  simp only[ah,fo,ay] at hj
  split at hj
  ·rename_i fX
   injection hj with hj
   exact .inr ⟨e',r,hj.symm,_,List.mem_cons_self ..,fX.symm⟩
  ·rcases ih hj with h1 | ⟨DV,r',h1,y,hy,h2⟩
   ·exact .inl h1
   ·exact .inr ⟨DV,r',h1,y,List.mem_cons_of_mem _ hy,h2⟩
theorem gF {m:eB} {j:Nat} (A4:∃y∈m,y.1=j):bf φ m j=[]:=by
 induction m with
 | nil=>obtain⟨y,hy,_⟩:=A4;simp at hy
 | cons z l ih=>
  obtain⟨y,hy,rfl⟩:=A4
  simp only[bf,ay]
  by_cases Ki:y.1=z.1
  ·rw[if_pos Ki]
  ·rw[if_neg Ki]
   rcases List.mem_cons.1 hy with rfl | hy
   ·exact absurd rfl Ki
   ·exact ih ⟨y,hy,rfl⟩
theorem ey (hR:Rel w0 S st a w) {d:Nat} (aJ:o.dst=some d) (hd:ba st.n d) (bI:bC st d) {t:TypeId} {ct:List CT} {rows:List (List DC)} {fz u:Bool} {m:eB} {w':World} {v:Value}
  (bj:(execOp a.eval o).run P w= .ok (.value v) w') (hk:Kept S w0 w') (hs:w.heap.size≤w'.heap.size) (hw:∀b,b<w.heap.size→w'.heap[b]? =w.heap[b]?)
  (hB:∀b∈v.ownBlock.toList,b=w.heap.size) (hm:bP st.obj m) (A6:aI m=true) {vals:List Value} (a8:bW w' t ct.length fz v rows.length vals)
  (cT:∀β φ,Core w0 S st.get st.obj β φ a.tmps w→∃az,dC w ct rows vals az∧(∀b∈az.flatten,(¬Av st.obj β b)∨∃x∈m,b∈ec st.obj β x.1)∧
   (u=true→(∀b∈az.flatten,∃x∈m,b∈φ x.1)∧az.flatten.Nodup))
  (fY:e.sv= .own (ag d 0)) (kn:e.cw=none) (how:e.ow=(ag d 0,some (.row t ct rows fz u))::ah m):Good P w0 S st o e a w:=by
 obtain⟨β,φ,hc⟩:=hR.core
 obtain⟨az,cT,cA,hu⟩:=cT β φ hc
 have jg:=hc.fW m hm A6
 have bs:ag d 0 / 64=d:=cy d 0 (by omega)
 have fS:∀j,j≠ag d 0→(β.fv (ag d 0) v).val j=β.val j∧(β.fv (ag d 0) v).di j=β.di j:=by
  intro j hj
  exact⟨by simp [Env.fv,ay,hj],rfl⟩
 have hval:(β.fv (ag d 0) v).val (ag d 0)=v:=by simp [Env.fv,ay]
 have iL:∀b∈ao (β.fv (ag d 0) v) (ag d 0) (.row t ct rows fz u),w.heap.size≤b:=by
  intro b hb
  simp only[ao,hval] at hb
  rw[hB b hb]
  exact Nat.le_refl _
 have cd:=cT.lt
 have hle:=hR.kept.size
 have je:∀b∈az.flatten,¬Av (fo (ah m) st.obj) β b:=by
  intro b hb
  rcases cA b hb with h1 | ⟨x,hx,jR⟩
  ·exact fun h2=>h1 (fE h2)
  ·exact c_ hc hm hx jR
 refine bY hR (fun d' h'=>by rw[aJ] at h';injection h' with h';exact h' ▸ hd) bj hk
  ⟨β.fv (ag d 0) v,ay (bf φ m) (ag d 0) (v.ownBlock.toList++(bif u then az.flatten else [])), ?_, ?_⟩
 ·rw[how,kn]
  refine jg.create hs hw (fun i hi=>bI.slot i _ hi bs) (fun j ob hj hi=> ?_) ?_ fS iL ?_ ?_ ?_
  ·rcases cY hj with h1 | ⟨e',r,rfl,_⟩
   ·exact (bI.obj j ob h1).2 _ hi bs
   ·simp [bZ] at hi
  ·cases hn:fo (ah m) st.obj (ag d 0) with
   | none=>rfl
   | some ob=>
    rcases cY hn with h1 | ⟨e',r,rfl,y,hy,h2⟩
    ·exact absurd bs (bI.obj _ ob h1).1
    ·obtain⟨_,h3,_⟩:=hm y hy
     rw[h2] at h3
     exact absurd bs (bI.obj _ _ h3).1
  ·refine⟨vals,az,by rw[hval];exact a8,cT.mono hs (fun b hb=>hw b (cd b hb)),fun b hb hx=> ?_,by rw[hval]⟩
   rcases hx with ⟨j,oj,hj,bn⟩ | hx
   case inr=>exact je b hb (.inr hx)
   by_cases bR:j=ag d 0
   ·subst bR
    simp only[ay,if_true,Option.some.injEq] at hj
    subst hj
    have:=iL b bn
    have:=cd b hb
    omega
   ·simp only[ay,bR,if_false] at hj
    refine je b hb (.inl ⟨j,oj,hj, ?_⟩)
    cases oj<;>simp only[ao,fS j bR] at bn ⊢ <;>exact bn
  ·have Ai:v.ownBlock.toList.Nodup:=by cases v.ownBlock<;>simp
   cases u with
   | false=>simpa using Ai
   | true=>
    rw[cond_true,List.nodup_append]
    refine⟨Ai,(hu rfl).2,fun b hb c gG Dd=> ?_⟩
    have h1:=hB b hb
    have h2:=cd c gG
    omega
  ·intro b hb
   rcases List.mem_append.1 hb with hb | hb
   ·have h1:=hB b hb
    subst h1
    refine⟨⟨.inl hle, ?_⟩,fun j ob hj bn=> ?_⟩
    ·have:=a8.lt _ hb
     exact this
    ·have:=((jg.fresh j ob hj).2 _ bn).2
     omega
   ·cases u with
    | false=>simp at hb
    | true=>
     simp only[cond_true] at hb
     obtain⟨x,hx,jR⟩:=(hu rfl).1 b hb
     obtain⟨_,h3,_⟩:=hm x hx
     have h4:=(hc.fresh x.1 _ h3).2 b jR
     refine⟨⟨h4.1,by omega⟩,fun j ob hj bn=> ?_⟩
     by_cases A4:∃y∈m,y.1=j
     ·rw[gF A4] at bn
      simp at bn
     ·have A8:∀y∈m,y.1≠j:=fun y hy e=>A4 ⟨y,hy,e⟩
      rw[bD A8] at hj
      rw[cE A8] at bn
      exact hc.sep x.1 j _ _ (A8 x hx) h3 hj b jR bn
 ·rw[fY]
  unfold ak
  exact⟨hval.symm,a8.one⟩
theorem CD {ct:CT} {v:Value} {q:DC×eB×Bool} (hq:(eU ct (ofConst v)).val f h=some q):q.2.1=[]∧q.2.2=true:=by
 unfold ofConst at hq
 split at hq
 ·simp only[eU] at hq
  split at hq<;>simp at hq
  subst hq;exact⟨rfl,rfl⟩
 ·rename_i k n
  cases hi:Be k n
  ·simp [hi,eU] at hq
  ·simp only[hi,cond_true,eU] at hq
   split at hq
   ·rename_i k'
    by_cases hk:k=k'
    ·simp [hk] at hq;subst hq;exact⟨rfl,rfl⟩
    ·simp [hk] at hq
   ·simp at hq
 ·generalize Nat.ble _ _=c at hq
  cases c
  ·simp [eU] at hq
  ·simp only[cond_true,eU] at hq
   split at hq<;>simp at hq
   subst hq;exact⟨rfl,rfl⟩
 ·simp only[eU] at hq
  split at hq<;>simp at hq
  subst hq;exact⟨rfl,rfl⟩
 ·simp [eU] at hq
theorem kE:∀(cb:List CT) (l:List Value) (q:List DC×eB×Bool),(bT cb (l.map ofConst)).val f h=some q→q.2.1=[]∧q.2.2=true
 | [],[],q,hq=>by simp [bT] at hq;subst hq;exact⟨rfl,rfl⟩
 | [],_::_,q,hq=>by simp [bT] at hq
 | _::_,[],q,hq=>by simp [bT] at hq
 | c::cs,v::l,q,hq=>by
  simp only[List.map_cons,bT,M.ae,Option.bind_eq_some_iff,M.aa,Option.some.injEq] at hq
  obtain⟨q1,aK,q2,cZ,rfl⟩:=hq
  obtain⟨h1,h2⟩:=CD aK
  obtain⟨h3,h4⟩:=kE cs l q2 cZ
  simp [h1,h2,h3,h4]
theorem cn:∀(cb:List CT) (l:List SV) (q:List DC×eB×Bool),(bT cb l).val f h=some q→l.length=cb.length
 | [],[],q,hq=>rfl
 | [],_::_,q,hq=>by simp [bT] at hq
 | _::_,[],q,hq=>by simp [bT] at hq
 | c::cs,v::l,q,hq=>by
  simp only[bT,M.ae,Option.bind_eq_some_iff,M.aa,Option.some.injEq] at hq
  obtain⟨q1,aK,q2,cZ,rfl⟩:=hq
  simp [cn cs l q2 cZ]
theorem dC.replicate {ct:List CT} {r:List DC} {z:List Value} (h1:aS w ct r (fun j=>z[j]?) []) (hl:z.length=ct.length):∀n,dC w ct (List.replicate n r) (List.replicate n z).flatten (List.replicate n [])
 | 0=>dC.nil
 | n+1=>by
  simp only[List.replicate_succ,List.flatten_cons]
  exact dC.cons h1 hl (dC.replicate h1 hl n)
theorem C0 (z:Array Value):∀n,(madeCells z (n*z.size)).toList=(List.replicate n z.toList).flatten:=by
 intro n
 apply List.ext_getElem?
 intro i
 simp only[madeCells]
 rcases Nat.eq_zero_or_pos z.size with h0 | hp
 ·have hz:z= #[]:=by simpa using h0
  subst hz
  simp
 ·rcases Nat.lt_or_ge i (n*z.size) with hi | hi
  ·have hr:(List.replicate n z.toList).flatten[i]? =z.toList[i % z.size]? :=by
    have key:∀n i,i<n*z.size→(List.replicate n z.toList).flatten[i]? =z.toList[i % z.size]? :=by
     intro n
     induction n with
     | zero=>intro i hi;simp at hi
     | succ n ih=>
      intro i hi
      simp only[List.replicate_succ,List.flatten_cons]
      rcases Nat.lt_or_ge i z.size with h1 | h1
      ·rw[List.getElem?_append_left (by simpa using h1),Nat.mod_eq_of_lt h1]
      ·rw[List.getElem?_append_right (by simpa using h1)]
       have h2:i - z.toList.length<n*z.size:=by simp;rw[Nat.succ_mul] at hi;omega
       rw[ih _ h2]
       congr 1
       simp only[Array.length_toList]
       rw[←Nat.mod_eq_sub_mod h1]
    exact key n i hi
   rw[hr]
   have hm:i % z.size<z.size:=Nat.mod_lt _ hp
   simp [hi,hm]
  ·rw[List.getElem?_eq_none (by simp;omega),List.getElem?_eq_none (by simp;omega)]
theorem Cz (hR:Rel w0 S st a w) {d:Nat} (aJ:o.dst=some d) (hd:ba st.n d) (bI:bC st d) {t et:TypeId} {l c:Operand} (ho:o.op= .makeSlice t l c) {n m:Int} {ct:List CT} {i:TypeInfo} {z:List SV} {r:List DC×eB×Bool}
  (hl:(bV l).val st.get st.obj=some (.int .i64 n)) (hm:(bV c).val st.get st.obj=some (.int .i64 m)) (hu:P.underlying t=some (.slice et)) (hi:P.info? et=some i) (dd:i.size=ct.length)
  (hz:(dh P et).val st.get st.obj=some z) (hr:(bT ct z).val st.get st.obj=some r)
  (he:e= {sv:= .own (ag d 0),ow:=[(ag d 0,some (.row et ct (List.replicate n.toNat r.1) false true))],ok:=decide (0≤n) && decide (n≤m) && decide (m.toNat*i.bytes≤140737488355328) && decide (m≤9223372036854775807)})
  (aF:e.ok=true):Good P w0 S st o e a w:=by
 subst he
 simp only[Bool.and_eq_true,decide_eq_true_eq] at aF
 obtain⟨⟨⟨h0,Ic⟩,AH⟩,I6⟩:=aF
 obtain⟨i',zv,dD,mn,rfl,bg⟩:=cW hz
 rw[hi] at dD
 injection dD with dD
 subst dD
 obtain⟨iK,JD⟩:=kE _ _ _ hr
 have jm:zv.cells.toList.length=ct.length:=by simpa using cn _ _ _ hr
 have Ec:(madeCells zv.cells (m.toNat*i.size)).toList=(List.replicate m.toNat zv.cells.toList).flatten:=by
  have:=C0 zv.cells m.toNat
  rw[dd,←jm]
  simpa using this
 obtain⟨IL,IM,BI⟩:=hR.core
 have hx:=BI.ev hl
 have hy:=BI.ev hm
 simp only[ak] at hx hy
 have hb:(i.bytes:Int)*m≤281474976710656:=by
  have h1:((m.toNat*i.bytes:Nat):Int)≤140737488355328:=by omega
  rw[Int.natCast_mul,Int.toNat_of_nonneg (by omega),Int.mul_comm] at h1
  omega
 have bj:=run_make (P:=P) w t et i zv hu hi mn .i64 .i64 n m h0 Ic hb I6
 refine ey hR aJ hd bI (m:=[]) (fz:=false) (u:=true) (vals:=(List.replicate n.toNat zv.cells.toList).flatten) (v:= .slice (some ⟨w.heap.size,0,none⟩) n.toNat m.toNat)
  (w':=w.alloc (.cells (madeCells zv.cells (m.toNat*i.size)) et)) ?_ (hR.kept.alloc _) (by rw[bX];omega) (fun b hb=>alloc_old _ b hb) (by simp [Value.ownBlock]) (by simp [bP]) rfl ?_ ?_ rfl rfl rfl
 ·simp [execOp,ho,hx.1,hy.1,bj]
 ·refine⟨by simp [jm],.inr ⟨w.heap.size,m.toNat,_,by simp,by simpa using dI _,by simp;omega,by simp only[maxLen];omega,by rw[size_madeCells,dd], ?_⟩⟩
  rw[Ec]
  have:List.replicate m.toNat zv.cells.toList=List.replicate n.toNat zv.cells.toList++List.replicate (m.toNat - n.toNat) zv.cells.toList:=by
   rw[List.replicate_append_replicate]
   congr 1
   omega
  rw[this,List.flatten_append,List.take_append_of_le_length (by simp [jm]),List.take_of_length_le (by simp [jm])]
 ·intro β φ hc
  obtain⟨fp,kQ,_,_,CR⟩:=dA hc ct _ _ r (dY zv.cells.toList) hr
  have JW:fp=[]:=by
   have:=(CR JD).1
   cases fp with
   | nil=>rfl
   | cons b l=>
    obtain⟨x,hx,_⟩:=this b (List.mem_cons_self ..)
    rw[iK] at hx
    simp at hx
  subst JW
  refine⟨List.replicate n.toNat [],dC.replicate kQ jm n.toNat, ?_, ?_⟩
  ·intro b hb
   simp at hb
  ·intro _
   constructor
   ·intro b hb;simp at hb
   ·have:(List.replicate n.toNat ([]:List Nat)).flatten=[]:=by simp
    rw[this]
    simp
theorem fk (hc:Core w0 S st.get st.obj β φ a.tmps w) {ct:List CT} :∀(parts:List (Nat×Operand)) (k:Nat) (q:List (List DC)×eB×Bool),(dK ct k parts).val st.get st.obj=some q→
  ∃(vals:List Value) (az:List (List Nat)),vals.length=parts.length*ct.length∧q.1.length=parts.length∧(∀x∈vals,x.oneCell'=true)∧dC w ct q.1 vals az∧bP st.obj q.2.1∧
   (∀b∈az.flatten,(¬Av st.obj β b)∨∃x∈q.2.1,b∈ec st.obj β x.1)∧(q.2.2=true→(∀b∈az.flatten,∃x∈q.2.1,b∈φ x.1)∧(aI q.2.1=true→az.flatten.Nodup))∧
   ∀(pre suf:List Value),pre.length=k*ct.length→suf.length=parts.length*ct.length→
    Instr.fill (fun i=>some (i*ct.length,ct.length)) (pre++suf).toArray (parts.map fun x=>(x.1,a.eval x.2))=some (pre++vals).toArray
 | [],k,q,hq=>by
  simp only[dK,M.aa,Option.some.injEq] at hq
  subst hq
  refine⟨[],[],by simp,rfl,by simp,dC.nil,by simp [bP],by simp,by simp,fun pre suf h1 h2=> ?_⟩
  have:suf=[]:=by simpa using h2
  subst this
  simp [Instr.fill]
 | (i,x)::rest,k,q,hq=>by
  simp only[dK] at hq
  cases Du:Nat.beq i k
  ·simp [Du] at hq
  have Du:=Nat.eq_of_beq_eq_true Du
  subst Du
  simp only[Nat.beq_refl,cond_true,M.ae,Option.bind_eq_some_iff,M.aa,Option.some.injEq] at hq
  obtain⟨s,hs,cs,fI,r,hr,q2,cZ,rfl⟩:=hq
  obtain⟨fY,bg⟩:=dm (hc.ev hs) fI
  have AJ:=cn _ _ _ hr
  have Cd:=af.length _ _ fY
  have bk:(a.eval x).cells.size=ct.length:=by simpa [AJ] using Cd
  obtain⟨fp,kQ,Fk,FU,F9⟩:=dA hc ct cs _ r fY hr
  obtain⟨vals,az,jH,H2,Ih,jh,EX,Fb,Fu,B2⟩:=fk hc rest (i+1) q2 cZ
  refine⟨(a.eval x).cells.toList++vals,fp::az, ?_,by simp [H2], ?_,dC.cons kQ (by simpa using bk) jh,eu Fk EX, ?_, ?_, ?_⟩
  ·simp only[List.length_append,jH,List.length_cons,Array.length_toList,bk,Nat.succ_mul]
   omega
  ·intro y hy
   rcases List.mem_append.1 hy with hy | hy
   ·exact bg y hy
   ·exact Ih y hy
  ·intro b hb
   simp only[List.flatten_cons,List.mem_append] at hb
   rcases hb with hb | hb
   ·rcases FU b hb with h1 | ⟨y,hy,h1⟩
    ·exact .inl h1
    ·exact .inr ⟨y,List.mem_append_left _ hy,h1⟩
   ·rcases Fb b hb with h1 | ⟨y,hy,h1⟩
    ·exact .inl h1
    ·exact .inr ⟨y,List.mem_append_right _ hy,h1⟩
  ·intro hu
   simp only[Bool.and_eq_true] at hu
   refine⟨fun b hb=> ?_,fun hn=> ?_⟩
   ·simp only[List.flatten_cons,List.mem_append] at hb
    rcases hb with hb | hb
    ·obtain⟨y,hy,h1⟩:=(F9 hu.1).1 b hb
     exact⟨y,List.mem_append_left _ hy,h1⟩
    ·obtain⟨y,hy,h1⟩:=(Fu hu.2).1 b hb
     exact⟨y,List.mem_append_right _ hy,h1⟩
   ·obtain⟨I7,GQ,cm⟩:=gm hn
    simp only[List.flatten_cons]
    exact apart hc Fk EX cm (F9 hu.1).1 (Fu hu.2).1 ((F9 hu.1).2 I7) ((Fu hu.2).2 GQ)
  ·intro pre suf h1 h2
   simp only[List.length_cons,Nat.succ_mul] at h2
   simp only[List.map_cons]
   rw[jP (off:=i*ct.length) (by rw[bk]) (by simp [h1,bk];omega)]
   have e1:((pre++suf).toArray.toList.take (i*ct.length)++((a.eval x).cells.toList++(pre++suf).toArray.toList.drop (i*ct.length+(a.eval x).cells.size)))=(pre++(a.eval x).cells.toList)++suf.drop ct.length:=by
    simp only[bk,←h1]
    simp [List.drop_append]
   rw[e1,B2 (pre++(a.eval x).cells.toList) (suf.drop ct.length) (by simp [h1,bk,Nat.succ_mul]) (by simp [h2])]
   simp
theorem j9 (hR:Rel w0 S st a w) {d:Nat} (aJ:o.dst=some d) (hd:ba st.n d) (bI:bC st d) {t et:TypeId} {len:Nat} {parts:Array (Nat×Operand)} (ho:o.op= .buildSlice t len parts) {ct:List CT} {q:List (List DC)×eB×Bool}
  (hu:P.underlying t=some (.slice et)) (dd:aX P et ct.length=true) (jV:0<ct.length) (hlen:len=parts.toList.length) (Is:len*ct.length≤16777216)
  (hq:(dK ct 0 parts.toList).val st.get st.obj=some q) (hz:∃z,(dh P et).val st.get st.obj=some z) (hn:aI q.2.1=true)
  (he:e= {sv:= .own (ag d 0),ow:=(ag d 0,some (.row et ct q.1 false q.2.2))::ah q.2.1}):Good P w0 S st o e a w:=by
 subst he
 obtain⟨i,hi,bk⟩:=a9 dd
 obtain⟨IL,IM,BI⟩:=hR.core
 obtain⟨vals,_,Cd,Fq,bg,_,hm,_,_,ko⟩:=fk BI parts.toList 0 q hq
 obtain⟨z,hz⟩:=hz
 obtain⟨i',zv,dD,mn,_,_⟩:=cW hz
 rw[hi] at dD
 injection dD with dD
 subst dD
 have hle:len≤maxLen:=by
  have:len≤len*ct.length:=Nat.le_mul_of_pos_right _ jV
  simp only[maxLen]
  omega
 have bj:(Instr.buildSlice t len (parts.map fun x=>(x.1,a.eval x.2))).run P w= .ok (.slice (some ⟨w.heap.size,0,none⟩) len len) (w.alloc (.cells vals.toArray et)):=by
  rcases Nat.eq_zero_or_pos len with h0 | h0
  ·have hp:parts= #[]:=by
    have:parts.toList.length=0:=by omega
    simpa using this
   have hv:vals=[]:=by
    have:vals.length=0:=by rw[Cd,←hlen,h0,Nat.zero_mul]
    simpa using this
   subst hp hv h0
   simp [Instr.buildSlice,run_underlying hu,sizeOf,typeInfo,hi,Instr.fill,newRow,Array.range_zero']
  ·refine run_buildSlice (P:=P) w t et len _ vals.toArray i zv hu hi mn (by rw[bk];omega) (by rw[bk];exact Nat.ne_of_gt (Nat.mul_pos h0 jV)) ?_
   have:=ko [] ((Array.range (len*ct.length)).map (zv.cells[· % zv.cells.size]!)).toList (by simp) (by simp [hlen])
   rw[bk]
   generalize (Array.range (len*ct.length)).map (zv.cells[· % zv.cells.size]!)=A at this ⊢
   simpa using this
 refine ey hR aJ hd bI (m:=q.2.1) (fz:=false) (u:=q.2.2) (vals:=vals) (v:= .slice (some ⟨w.heap.size,0,none⟩) len len) (w':=w.alloc (.cells vals.toArray et)) ?_ (hR.kept.alloc _)
  (by rw[bX];omega) (fun b hb=>alloc_old _ b hb) (by simp [Value.ownBlock]) hm hn ?_ ?_ rfl rfl rfl
 ·simp [execOp,ho,bj]
 ·refine⟨by rw[Cd,Fq],.inr ⟨w.heap.size,len,vals.toArray,by rw[Fq,←hlen],by simpa using dI _,by rw[Fq,←hlen];exact Nat.le_refl _,hle,by simp [Cd,hlen], ?_⟩⟩
  rw[Fq,←Cd]
  simp
 ·intro β φ hc
  obtain⟨mZ,az,LS,LL,lP,cT,JM,cA,gk,GG⟩:=fk hc parts.toList 0 q hq
  have LV:mZ=vals:=by
   have h1:=ko [] (List.replicate (parts.toList.length*ct.length) undef) (by simp) (by simp)
   have h2:=GG [] (List.replicate (parts.toList.length*ct.length) undef) (by simp) (by simp)
   rw[h1] at h2
   simpa using h2.symm
  subst LV
  exact⟨az,cT,cA,fun h=>⟨(gk h).1,(gk h).2 hn⟩⟩
end
end Go.Proofs.YtngbcccnjiaddaaGreat.Vm
namespace Go.Proofs.YtngbcccnjiaddaaGreat.Vm
theorem cf (P:Program) (g o:Nat) (t:TypeId) (fz:Nat×Nat):∀(vs:List Value) (i:Nat) (cur:Array Value) (w:World),w.heap[g]? =some (.cells cur t fz)→(∀j,j<cur.size→¬(fz.1≤j∧j<fz.2))→
  o+i+vs.length≤cur.size→(∀v∈vs,v.oneCell'=true)→
  (storeCells ⟨g,o,none⟩ vs i).run P w= .ok () (w.setRow g (cur.toList.take (o+i)++(vs++cur.toList.drop (o+i+vs.length))).toArray)
 | [],i,cur,w,hg,_,_,_=>by
  simp only[storeCells,List.nil_append,List.length_nil,Nat.add_zero,List.take_append_drop,Array.toArray_toList]
  rw[setRow_self w g cur t fz hg]
  rfl
 | v::rest,i,cur,w,hg,hfz,hl,h1=>by
  have hi:o+i<cur.size:=by simp at hl;omega
  have hcell:w.cell? ⟨g,o+i,none⟩=some cur[o+i]:=by simp [World.cell?,hg,hi]
  have JC:w.frozen? ⟨g,o+i,none⟩=false:=by
   have:=hfz (o+i) hi
   obtain⟨lo,dD⟩:=fz
   simp only[World.frozen?,hg,Bool.and_eq_false_iff,decide_eq_false_iff_not]
   simp only at this
   omega
  have gN:(store ((⟨g,o,none⟩:Addr).add i) v).run P w= .ok () (w.setRow g (cur.setIfInBounds (o+i) v)):=by
   rw[dj,run_store P w _ v _ (h1 v (by simp)),hcell]
   simp [JC,setCell_eq_setRow w g (o+i) cur t fz v hg]
  have ih:=cf P g o t fz rest (i+1) (cur.setIfInBounds (o+i) v) (w.setRow g (cur.setIfInBounds (o+i) v)) (setRow_heap w g cur _ t _ hg) (by simpa using hfz) (by simp at hl ⊢;omega) (fun x hx=>h1 x (by simp [hx]))
  simp only[storeCells,Sem.run_bind,gN,Result.andThen_ok,ih,setRow_setRow]
  congr 3
  have:=list_seg_step cur.toList (o+i) v rest (by simp at hl ⊢;omega)
  simp only[Array.toList_setIfInBounds,List.length_cons]
  rw[←Nat.add_assoc]
  simpa [List.append_assoc] using this
theorem aS.split {w:World} :∀(m9 kI:List CT) (r:List DC) (f:Nat→Option Value) (fp:List Nat),aS w (m9++kI) r f fp→
  ∃la iu,aS w m9 (r.take m9.length) f la∧aS w kI (r.drop m9.length) (fun j=>f (m9.length+j)) iu∧fp=la++iu
 | [],kI,r,f,fp,h=>⟨[],fp,by simp [aS],by simpa using h,rfl⟩
 | c::cs,kI,r,f,fp,h=>by
  simp only[List.cons_append,aS] at h
  obtain⟨d,r',v,f1,f2,rfl,h0,h1,h2,rfl⟩:=h
  obtain⟨p1,p2,e1,e2,rfl⟩:=aS.split cs kI r' _ f2 h2
  refine⟨f1++p1,p2, ?_, ?_,by simp⟩
  ·simp only[List.length_cons,List.take_succ_cons,aS]
   exact⟨d,_,v,f1,p1,rfl,h0,h1,e1,rfl⟩
  ·simp only[List.length_cons,List.drop_succ_cons]
   have:∀j,cs.length+1+j=cs.length+j+1:=by intro j;omega
   simpa only[this] using e2
theorem aS.join {w:World} :∀(m9 kI:List CT) (r1 r2:List DC) (f:Nat→Option Value) (la iu:List Nat),aS w m9 r1 f la→aS w kI r2 (fun j=>f (m9.length+j)) iu→
  aS w (m9++kI) (r1++r2) f (la++iu)
 | [],kI,r1,r2,f,la,iu,h1,h2=>by
  simp only[aS] at h1
  obtain⟨rfl,rfl⟩:=h1
  simpa using h2
 | c::cs,kI,r1,r2,f,la,iu,h1,h2=>by
  simp only[aS] at h1
  obtain⟨d,r',v,f1,f2,rfl,h0,h3,h4,rfl⟩:=h1
  simp only[List.cons_append,aS]
  refine⟨d,r'++r2,v,f1,f2++iu,rfl,h0,h3,aS.join cs kI r' r2 _ f2 iu h4 ?_,by simp⟩
  have:∀j,(c::cs).length+j=cs.length+j+1:=by intro j;simp only[List.length_cons];omega
  simpa only[this] using h2
section
variable {P:Program} {Γ:Ctx} {w0:World} {S:Own} {st:St} {o:Oper} {e:cB} {a:Act} {w:World}
variable {f:Nat→SV} {h:Nat→Option ai} {β:Env} {φ:Nat→List Nat} {tm:Array Value}
theorem Kept.setRow (hk:Kept S w0 w) {g:Nat} (hg:w0.heap.size≤g∨S g) (cs:Array Value):Kept S w0 (w.setRow g cs):=
 ⟨hk.os,hk.tape,hk.output,by simpa using hk.size,fun k h1 h2=>by
  rw[setRow_other w g k cs (fun e=>by subst e;rcases hg with h | h;omega;exact h2 h)]
  exact hk.block k h1 h2⟩
theorem Core.rewrite (hc:Core w0 S f h β φ tm w) {id:Nat} {ob EG:ai} {g:Nat} {cs:Array Value} {FN:List Nat} (db:h id=some ob) (hg:g∈ao β id ob) (ht:∀b∈ao β id EG,b∈ao β id ob)
  (gJ:fA (w.setRow g cs) (Av (ay h id (some EG)) β) β id EG FN) (hnd:FN.Nodup) (lM:∀b∈FN,((w0.heap.size≤b∨S b)∧b<w.heap.size)∧∀j o,j≠id→h j=some o→b ∉ φ j):
  Core w0 S f (ay h id (some EG)) β (ay φ id FN) tm (w.setRow g cs):=by
 have Fe:=aj (hc.aB id ob db) g hg
 refine hc.step (fun _=>False) (by simp) (fun b _ hb=>setRow_other w g b cs (fun e=>hb (e ▸ .inl ⟨id,ob,db,hg⟩))) ?_ (fun _ _ _ h=>h) (fun _ _=>⟨rfl,rfl⟩) ?_ ?_
 ·rintro b (⟨j,oj,hj,bn⟩ | hb)
  case inr=>exact .inl (.inr hb)
  by_cases bR:j=id
  ·subst bR
   simp only[ay,if_true,Option.some.injEq] at hj
   subst hj
   exact .inl (.inl ⟨j,ob,db,ht b bn⟩)
  ·simp only[ay,bR,if_false] at hj
   exact .inl (.inl ⟨j,oj,hj,bn⟩)
 ·intro j oj hj
  by_cases bR:j=id
  ·subst bR
   simp only[ay,if_true,Option.some.injEq] at hj
   subst hj
   exact .inr ⟨by simpa [ay] using gJ,by simpa [ay] using hnd,fun b hb=>by simpa using (lM b (by simpa [ay] using hb)).1⟩
  ·simp only[ay,bR,if_false] at hj
   refine .inl ⟨fun h=>h,hj,by simp [ay,bR],fun _ _ h=>h,fun b hb=>setRow_other w g b cs (fun e=> ?_)⟩
   subst e
   exact hc.sep id j _ _ (Ne.symm bR) db hj b Fe (aj (hc.aB j oj hj) b hb)
 ·intro i j oi oj cm hi hj b hb
  by_cases kN:i=id
  ·subst kN
   have fX:j≠i:=Ne.symm cm
   simp only[ay,fX,if_false] at hj
   simp only[ay,if_true] at hb
   simp only[ay,fX,if_false]
   exact (lM b hb).2 j oj fX hj
  ·simp only[ay,kN,if_false] at hi hb
   by_cases bR:j=id
   ·subst bR
    simp only[ay,if_true]
    exact fun ax=>(lM b ax).2 i oi kN hi hb
   ·simp only[ay,bR,if_false] at hj ⊢
    exact hc.sep i j oi oj cm hi hj b hb
theorem lB {id:Nat} {ob EG:ai} (db:h id=some ob) (ht:∀b∈ao β id EG,b∈ao β id ob) {b:Nat} (hb:Av (ay h id (some EG)) β b):Av h β b:=by
 rcases hb with ⟨j,oj,hj,bn⟩ | hb
 case inr=>exact .inr hb
 by_cases bR:j=id
 ·subst bR
  simp only[ay,if_true,Option.some.injEq] at hj
  subst hj
  exact .inl ⟨j,ob,db,ht b bn⟩
 ·simp only[ay,bR,if_false] at hj
  exact .inl ⟨j,oj,hj,bn⟩
theorem gY {t:TypeId} {b off:Nat} {x:Value} {i:TypeInfo} (hi:P.info? t=some i) (dd:i.size=x.cells.size) {w':World} (bj:(storeCells ⟨b,off,none⟩ x.cells.toList 0).run P w= .ok () w'):
  (Instr.storeAt t (.pointer (some ⟨b,off,none⟩)) x).run P w= .ok () w':=by
 simp [Instr.storeAt,Instr.sureAddr,storeVar,sizeOf,typeInfo,hi,dd,bj]
theorem my {av:Nat→Prop} {cells bE:List SV} {vs us:List Value} {off:Nat} (h1:af w av β cells vs) (h2:af w av β bE us) (hl:us.length=bE.length):
  af w av β (cr cells off bE) (vs.take off++(us++vs.drop (off+us.length))):=by
 unfold cr
 refine af.append _ _ _ _ (af.take _ _ _ h1) (af.append _ _ _ _ h2 ?_)
 rw[hl]
 exact af.drop _ _ _ h1
theorem kU (hR:Rel w0 S st a w) (hd:∀d,o.dst=some d→ba st.n d) {t t':TypeId} {x y:Operand} (ho:o.op= .store t x y) {id off:Nat} {sy:SV} {bE cells:List SV}
  (h1:(bV x).val st.get st.obj=some (.ptr id off)) (h2:(bV y).val st.get st.obj=some sy) (fI:(aA sy).val st.get st.obj=some bE) (dd:aX P t bE.length=true)
  (aM:st.obj id=some (.box t' cells)) (dr:off+bE.length≤cells.length) (he:e= {sv:= .undef,cw:=some (id,off,bE)}):Good P w0 S st o e a w:=by
 subst he
 obtain⟨i,hi,bk⟩:=a9 dd
 obtain⟨β,φ,hc⟩:=hR.core
 have hx:=hc.ev h1
 simp only[ak] at hx
 obtain⟨fY,bg⟩:=dm (hc.ev h2) fI
 obtain⟨vs,hh,hr,lP,kR⟩:=hc.aB id _ aM
 have hl:=af.length _ _ hr
 have jH:=af.length _ _ fY
 have ml:(a.eval y).cells.size=bE.length:=by simpa using jH
 have bj:=cf P (β.di id) off t' (0,0) (a.eval y).cells.toList 0 vs.toArray w hh (by simp) (by simp;omega) bg
 simp only[Nat.add_zero] at bj
 have Lq:fc (some (id,off,bE)) st.obj=ay st.obj id (some (.box t' (cr cells off bE))):=by simp only[fc,aM]
 have F8:=hc.fresh id _ aM
 have cA:∀b,Av (ay st.obj id (some (.box t' (cr cells off bE)))) β b→Av st.obj β b:=fun b hb=>lB aM (by simp [ao]) hb
 have F4:∀(ss:List SV) (us:List Value),af w (Av st.obj β) β ss us→∀cs,af (w.setRow (β.di id) cs) (Av (ay st.obj id (some (.box t' (cr cells off bE)))) β) β ss us:=by
  intro ss us G1 cs
  exact af.mono (by simp) (fun b _ hb=>setRow_other w _ b cs (fun e=>hb (e ▸ .inl ⟨id,_,aM,by simp [ao]⟩))) (fun b hb=> .inl (cA b hb)) ss us G1 (fun _ _=>⟨rfl,rfl⟩)
 refine hP hR hd (w':=w.setRow (β.di id) (vs.take off++((a.eval y).cells.toList++vs.drop (off+(a.eval y).cells.toList.length))).toArray) ?_ (hR.kept.setRow (F8.2 (β.di id) (by rw[kR];simp)).1 _) ⟨β,ay φ id [β.di id], ?_,by simp [ak]⟩
 ·simp [execOp,ho,hx,gY hi (bk.trans ml.symm) bj]
 ·show Core w0 S st.get (fo [] (fc (some (id,off,bE)) st.obj)) _ _ _ _
  simp only[fo,Lq]
  refine hc.rewrite aM (by simp [ao]) (by simp [ao]) ?_ (by simp) ?_
  ·refine⟨_,setRow_heap w _ _ _ _ _ hh,my (F4 _ _ hr _) (F4 _ _ fY _) jH, ?_,rfl⟩
   intro z hz
   simp only[List.mem_append] at hz
   rcases hz with hz | hz | hz
   ·exact lP z (List.mem_of_mem_take hz)
   ·exact bg z hz
   ·exact lP z (List.mem_of_mem_drop hz)
  ·intro b hb
   have ax:b∈φ id:=by rw[kR];exact hb
   exact⟨F8.2 b ax,fun j oj hj ji=>hc.sep id j _ _ (Ne.symm hj) aM ji b ax⟩
theorem bG {az:List (List Nat)} {i:Nat} (hi:i<az.length) (x:List Nat):(az.set i x).flatten=(az.take i).flatten++(x++(az.drop (i+1)).flatten):=by
 rw[List.set_eq_take_append_cons_drop,if_pos hi]
 simp
theorem bl {az:List (List Nat)} {i:Nat} (hi:i<az.length):az.flatten=(az.take i).flatten++(az[i]++(az.drop (i+1)).flatten):=by
 have:=bG hi az[i]
 rwa [List.set_getElem_self] at this
theorem dC.set {ct:List CT} {rows:List (List DC)} {vals:List Value} {az:List (List Nat)} (cT:dC w ct rows vals az) (hl:vals.length=rows.length*ct.length) {i:Nat} (hi:i<rows.length)
  {off:Nat} {ds:List DC} {us:List Value} {fp:List Nat} (Aj:off+us.length≤ct.length) (kQ:aS w ((ct.drop off).take us.length) ds (fun j=>us[j]?) fp):
  ∃p1 p2 p3,az[i]? =some (p1++(p2++p3))∧dC w ct (rows.set i (bF (rows.getD i []) off ds)) (vals.take (i*ct.length+off)++(us++vals.drop (i*ct.length+off+us.length))) (az.set i (p1++(fp++p3))):=by
 have Ff:i<az.length:=by rw[cT.1];exact hi
 have fL:=cT.2 i (rows.getD i []) az[i] (cl hi) (by simp)
 generalize rows.getD i []=r at fL ⊢
 have B0:ct=ct.take off++((ct.drop off).take us.length++ct.drop (off+us.length)):=by
  rw[←List.drop_drop,List.take_append_drop,List.take_append_drop]
 have F1:(ct.take off).length=off:=by simp;omega
 have jH:((ct.drop off).take us.length).length=us.length:=by simp;omega
 have Ln:ds.length=us.length:=by rw[aS.length _ _ _ _ kQ,jH]
 have Ip:aS w (ct.take off++((ct.drop off).take us.length++ct.drop (off+us.length))) r (fun j=>vals[i*ct.length+j]?) az[i]:=by
  rw[←B0]
  exact fL
 obtain⟨p1,q,r1,r2,hq⟩:=aS.split _ _ _ _ _ Ip
 obtain⟨p2,p3,r3,r4,rfl⟩:=aS.split _ _ _ _ _ r2
 rw[F1] at r1 r2 r3 r4
 rw[jH] at r3 r4
 have KE:i*ct.length+ct.length≤vals.length:=by
  rw[hl,←Nat.succ_mul]
  exact Nat.mul_le_mul_right _ hi
 refine⟨p1,p2,p3,by rw[List.getElem?_eq_getElem Ff,hq],by simp [cT.1],fun k r' f' hk hf=> ?_⟩
 have ld:∀j,(vals.take (i*ct.length+off)++(us++vals.drop (i*ct.length+off+us.length)))[j]? =
   if j<i*ct.length+off then vals[j]? else if j<i*ct.length+off+us.length then us[j - (i*ct.length+off)]? else vals[j]? :=by
  intro j
  have ht:(vals.take (i*ct.length+off)).length=i*ct.length+off:=by simp;omega
  split
  ·rename_i hj
   rw[List.getElem?_append_left (by omega),List.getElem?_take,if_pos hj]
  ·rename_i hj
   rw[List.getElem?_append_right (by omega),ht]
   split
   ·rw[List.getElem?_append_left (by omega)]
   ·rw[List.getElem?_append_right (by omega),List.getElem?_drop]
    congr 1
    omega
 by_cases mJ:k=i
 ·subst mJ
  rw[List.getElem?_set_self hi] at hk
  rw[List.getElem?_set_self Ff] at hf
  simp only[Option.some.injEq] at hk hf
  subst hk hf
  have:=aS.join (w:=w) (ct.take off) ((ct.drop off).take us.length++ct.drop (off+us.length)) (r.take off) (ds++r.drop (off+ds.length))
   (fun j=>(vals.take (k*ct.length+off)++(us++vals.drop (k*ct.length+off+us.length)))[k*ct.length+j]?) p1 (fp++p3) ?_ ?_
  ·rw[←B0] at this
   exact this
  ·refine bb.aS.iT ?_ r1
   intro j u hj BL
   rw[F1] at hj
   simp only[ld]
   rw[if_pos (by omega)]
   exact BL
  ·refine aS.join _ _ _ _ _ _ _ ?_ ?_
   ·refine bb.aS.iT ?_ kQ
    intro j u hj BL
    rw[jH] at hj
    simp only[F1,ld]
    rw[if_neg (by omega),if_pos (by omega),←BL]
    congr 1
    omega
   ·rw[Ln]
    simp only[List.drop_drop] at r4
    refine bb.aS.ju ?_ r4
    intro j u BL
    simp only[F1,jH,ld]
    rw[if_neg (by omega),if_neg (by omega)]
    rw[←BL]
 ·rw[List.getElem?_set_ne (Ne.symm mJ)] at hk hf
  refine bb.aS.iT ?_ (cT.2 k r' f' hk hf)
  intro j u hj BL
  have GN:k<rows.length:=(List.getElem?_eq_some_iff.1 hk).1
  rw[ld]
  rcases Nat.lt_or_ge k i with cd | D8
  ·have:k*ct.length+ct.length≤i*ct.length:=by rw[←Nat.succ_mul];exact Nat.mul_le_mul_right _ cd
   rw[if_pos (by omega)]
   exact BL
  ·have:i*ct.length+ct.length≤k*ct.length:=by rw[←Nat.succ_mul];exact Nat.mul_le_mul_right _ (by omega)
   rw[if_neg (by omega),if_neg (by omega)]
   exact BL
end
end Go.Proofs.YtngbcccnjiaddaaGreat.Vm
namespace Go.Proofs.YtngbcccnjiaddaaGreat.Vm
theorem kD {α:Type} (l us:List α) (o m:Nat) (h1:o+us.length≤m) (h2:m≤l.length):
  (l.take o++(us++l.drop (o+us.length))).take m=(l.take m).take o++(us++(l.take m).drop (o+us.length)):=by
 rw[List.take_append,List.take_append]
 have e1:(l.take o).length=o:=by simp;omega
 rw[e1]
 have e2:(l.take o).take m=(l.take m).take o:=by rw[List.take_take,List.take_take,Nat.min_comm]
 have e3:us.take (m - o)=us:=List.take_of_length_le (by omega)
 rw[e2,e3]
 congr 2
 rw[List.drop_take]
 congr 1
 omega
section
variable {P:Program} {Γ:Ctx} {w0:World} {S:Own} {st:St} {o:Oper} {e:cB} {a:Act} {w:World}
variable {f:Nat→SV} {h:Nat→Option ai} {β:Env} {φ:Nat→List Nat} {tm:Array Value}
theorem gf {A p1 p2 p3 B n:List Nat} (h:(A++((p1++(p2++p3))++B)).Nodup) (hn:n.Nodup) (hd:∀b∈n,b ∉ A++((p1++(p2++p3))++B)):(A++((p1++(n++p3))++B)).Nodup:=by
 have h1:((A++p1)++(p3++B)).Nodup:=by
  refine List.Sublist.nodup ?_ h
  simp only[List.append_assoc]
  refine List.Sublist.append (List.Sublist.refl _) (List.Sublist.append (List.Sublist.refl _) ?_)
  exact List.sublist_append_right _ _
 have h2:(n++((A++p1)++(p3++B))).Nodup:=by
  rw[List.nodup_append]
  refine⟨hn,h1,fun b hb c gG Dd=> ?_⟩
  subst Dd
  refine hd b hb ?_
  simp only[List.mem_append] at gG ⊢
  rcases gG with (gG | gG) | gG | gG<;>simp [gG]
 refine (List.Perm.nodup_iff ?_).1 h2
 have:A++((p1++(n++p3))++B)=(A++p1)++(n++(p3++B)):=by simp
 rw[this]
 exact (List.perm_append_comm_assoc _ _ _)
theorem kV (hR:Rel w0 S st a w) (hd:∀d,o.dst=some d→ba st.n d) {t t':TypeId} {x y:Operand} (ho:o.op= .store t x y) {id i off:Nat} {sy:SV} {bE:List SV} {ct:List CT} {rows:List (List DC)} {fz u:Bool} {r:List DC×eB×Bool}
  (h1:(bV x).val st.get st.obj=some (.dL id i ct.length off)) (h2:(bV y).val st.get st.obj=some sy) (fI:(aA sy).val st.get st.obj=some bE) (dd:aX P t bE.length=true)
  (aM:st.obj id=some (.row t' ct rows fz u)) (dr:off+bE.length≤ct.length) (hr:(bT ((ct.drop off).take bE.length) bE).val st.get st.obj=some r) (A6:bK id r.2.1=true) (hnd:aI r.2.1=true)
  (hi:i<rows.length) (kn:e.cw=none) (Ej:e.sv= .undef)
  (how:e.ow=(id,some (.row t' ct (rows.set i (bF (rows.getD i []) off r.1)) fz (u && r.2.2)))::ah r.2.1):Good P w0 S st o e a w:=by
 obtain⟨ti,Fs,bk⟩:=a9 dd
 obtain⟨β,φ,hc⟩:=hR.core
 have hx:=hc.ev h1
 simp only[ak] at hx
 obtain⟨g,hg,hx⟩:=hx
 obtain⟨fY,bg⟩:=dm (hc.ev h2) fI
 have jH:=af.length _ _ fY
 have ml:(a.eval y).cells.size=bE.length:=by simpa using jH
 obtain⟨fp,kQ,iK,HS,GI⟩:=dA hc _ _ _ r fY hr
 have jg:=hc.fW r.2.1 iK hnd
 have A8:=gb A6
 have gI:fo (ah r.2.1) st.obj id=some (.row t' ct rows fz u):=by rw[bD A8];exact aM
 have je:∀b∈fp,¬Av (fo (ah r.2.1) st.obj) β b:=by
  intro b hb
  rcases HS b hb with h1 | ⟨z,hz,Hl⟩
  ·exact fun h2=>h1 (fE h2)
  ·exact c_ hc iK hz Hl
 obtain⟨vals,az,a8,cT,kM,kR⟩:=jg.aB id _ gI
 have kp:g∈ao β id (.row t' ct rows fz u):=by simp [ao,hg]
 rcases a8.2 with ⟨hv,h0,_⟩ | ⟨g',cap,cur,hv,hh,B8,Fc,lN,G2⟩
 ·omega
 have GJ:g'=g:=by simpa [hv,Value.ownBlock] using hg
 subst GJ
 have hlen:i*ct.length+ct.length≤rows.length*ct.length:=by rw[←Nat.succ_mul];exact Nat.mul_le_mul_right _ hi
 have A5:rows.length*ct.length≤cap*ct.length:=Nat.mul_le_mul_right _ B8
 have HT:∀j,j<cur.size→¬((bif fz then (cur.size,cur.size+1) else ((0,0):Nat×Nat)).1≤j∧j<(bif fz then (cur.size,cur.size+1) else ((0,0):Nat×Nat)).2):=by
  intro j hj
  cases fz<;>simp<;>omega
 have E0:(a.eval y).cells.toList.length=bE.length:=by simpa using ml
 have bj:=cf P g' (i*ct.length+off) t' _ (a.eval y).cells.toList 0 cur w hh HT (by rw[E0,lN];omega) bg
 simp only[Nat.add_zero] at bj
 generalize iw:(a.eval y).cells.toList=us at*
 rw[←E0] at dr kQ
 obtain⟨p1,p2,p3,JA,A2⟩:=cT.set a8.1 hi dr kQ
 have Ff:i<az.length:=by rw[cT.1];exact hi
 have D7:az[i]=p1++(p2++p3):=by simpa [Ff] using JA
 have CU:∀b∈(az.set i (p1++(fp++p3))).flatten,b∈az.flatten∨b∈fp:=by
  intro b hb
  rw[bG Ff] at hb
  rw[bl Ff,D7]
  simp only[List.mem_append] at hb ⊢
  rcases hb with hb | (hb | hb | hb) | hb<;>simp [hb]
 have kK:∀b∈(az.set i (p1++(fp++p3))).flatten,¬Av (fo (ah r.2.1) st.obj) β b:=by
  intro b hb
  rcases CU b hb with hb | hb
  ·exact kM b hb
  ·exact je b hb
 have bo:=jg.fresh id _ gI
 have CQ:(cur.toList.take (i*ct.length+off)++(us++cur.toList.drop (i*ct.length+off+us.length))).length=cur.size:=by
  simp only[List.length_append,List.length_take,List.length_drop,Array.length_toList]
  rw[lN]
  omega
 have mL:∀b∈ao β id (.row t' ct (rows.set i (bF (rows.getD i []) off r.1)) fz (u && r.2.2)),b∈ao β id (.row t' ct rows fz u):=fun b hb=>hb
 refine hP hR hd (w':=w.setRow g' (cur.toList.take (i*ct.length+off)++(us++cur.toList.drop (i*ct.length+off+us.length))).toArray) ?_
  (hR.kept.setRow (bo.2 g' (aj (jg.aB id _ gI) g' kp)).1 _)
  ⟨β,ay (bf φ r.2.1) id ((β.val id).ownBlock.toList++(bif (u && r.2.2) then (az.set i (p1++(fp++p3))).flatten else [])), ?_,by rw[Ej];simp [ak]⟩
 ·have:=gY (P:=P) (t:=t) (b:=g') (off:=i*ct.length+off) (x:=a.eval y) Fs (bk.trans ml.symm) (by rw[iw];exact bj)
  simp [execOp,ho,hx,this]
 ·rw[how,kn]
  show Core w0 S st.get (ay (fo (ah r.2.1) st.obj) id (some (.row t' ct (rows.set i (bF (rows.getD i []) off r.1)) fz (u && r.2.2)))) _ _ _ _
  refine jg.rewrite gI kp mL ?_ ?_ ?_
  ·refine⟨vals.take (i*ct.length+off)++(us++vals.drop (i*ct.length+off+us.length)),az.set i (p1++(fp++p3)),⟨?_,.inr ⟨g',cap,(cur.toList.take (i*ct.length+off)++(us++cur.toList.drop (i*ct.length+off+us.length))).toArray,by simpa using hv, ?_,by simpa using B8,Fc,by simpa [CQ] using lN, ?_⟩⟩, ?_, ?_,rfl⟩
   ·have:=a8.1
    simp only[List.length_append,List.length_take,List.length_drop,List.length_set]
    omega
   ·rw[setRow_heap w _ _ _ _ _ hh]
    simp only[List.size_toArray,CQ]
   ·simp only[List.length_set]
    rw[kD _ _ _ _ (by omega) (by simp only[Array.length_toList];omega),G2]
   ·refine A2.mono (by simp) (fun b hb=>setRow_other w g' b _ (fun e=>kK b hb (e ▸ .inl ⟨id,_,gI,kp⟩)))
   ·exact fun b hb hx=>kK b hb (lB gI mL hx)
  ·have Ai:(β.val id).ownBlock.toList.Nodup:=by cases (β.val id).ownBlock<;>simp
   cases gk:(u && r.2.2) with
   | false=>simpa using Ai
   | true=>
    simp only[Bool.and_eq_true] at gk
    have IA:bf φ r.2.1 id=(β.val id).ownBlock.toList++az.flatten:=by rw[kR,gk.1];rfl
    have GP:=bo.1
    rw[IA,bl Ff,D7,List.nodup_append] at GP
    obtain⟨I7,GQ,H7⟩:=GP
    have JB:=(GI gk.2).2 hnd
    have GH:∀b∈fp,b ∉ bf φ r.2.1 id:=by
     intro b hb BH
     obtain⟨z,hz,Hl⟩:=(GI gk.2).1 b hb
     obtain⟨_,h3,_⟩:=iK z hz
     rw[cE A8] at BH
     exact hc.sep z.1 id _ _ (A8 z hz) h3 aM b Hl BH
    rw[IA,bl Ff,D7] at GH
    simp only[cond_true]
    rw[bG Ff,List.nodup_append]
    refine⟨I7,gf GQ JB (fun b hb ax=>GH b hb (List.mem_append_right _ ax)),fun b hb c gG Dd=> ?_⟩
    subst Dd
    simp only[List.mem_append] at gG
    rcases gG with gG | (gG | gG | gG) | gG
    ·exact H7 b hb b (by simp [gG]) rfl
    ·exact H7 b hb b (by simp [gG]) rfl
    ·exact GH b gG (List.mem_append_left _ hb)
    ·exact H7 b hb b (by simp [gG]) rfl
    ·exact H7 b hb b (by simp [gG]) rfl
  ·intro b hb
   have lk:b∈bf φ r.2.1 id→((w0.heap.size≤b∨S b)∧b<w.heap.size)∧∀j oj,j≠id→fo (ah r.2.1) st.obj j=some oj→b ∉ bf φ r.2.1 j:=fun ax=>
    ⟨bo.2 b ax,fun j oj hj ji=>jg.sep id j _ _ (Ne.symm hj) gI ji b ax⟩
   rcases List.mem_append.1 hb with hb | hb
   ·exact lk (by rw[kR];exact List.mem_append_left _ hb)
   ·cases gk:(u && r.2.2) with
    | false=>simp [gk] at hb
    | true=>
     simp only[gk,cond_true] at hb
     simp only[Bool.and_eq_true] at gk
     rcases CU b hb with hb | hb
     ·exact lk (by rw[kR,gk.1];exact List.mem_append_right _ hb)
     ·obtain⟨z,hz,Hl⟩:=(GI gk.2).1 b hb
      obtain⟨_,h3,_⟩:=iK z hz
      refine⟨(hc.fresh z.1 _ h3).2 b Hl,fun j oj hj ji=> ?_⟩
      by_cases A4:∃k∈r.2.1,k.1=j
      ·rw[gF A4];simp
      ·have B9:∀k∈r.2.1,k.1≠j:=fun k hk e=>A4 ⟨k,hk,e⟩
       rw[bD B9] at ji
       rw[cE B9]
       exact hc.sep z.1 j _ _ (B9 z hz) h3 ji b Hl
end
end Go.Proofs.YtngbcccnjiaddaaGreat.Vm
namespace Go.Proofs.YtngbcccnjiaddaaGreat.Vm
theorem CM {w:World} :∀(ct:List CT) (r:List DC) (f:Nat→Option Value) (fp:List Nat),al ct=true→aS w ct r f fp→fp=[]
 | [],_,_,_,_,h=>by simp only[aS] at h;exact h.2
 | c::cs,_,_,_,hf,h=>by
  simp only[aS] at h
  obtain⟨d,r',v,f1,f2,rfl,_,h1,h2,rfl⟩:=h
  have h0:f1=[]∧al cs=true:=by
   cases c with
   | int k=>simp only[bQ] at h1;obtain⟨n,_,_,_,e⟩:=h1;exact⟨e,by simpa [al] using hf⟩
   | bool=>simp only[bQ] at h1;obtain⟨n,_,_,e⟩:=h1;exact⟨e,by simpa [al] using hf⟩
   | str=>simp only[bQ] at h1;obtain⟨n,_,_,_,e⟩:=h1;exact⟨e,by simpa [al] using hf⟩
   | sl e=>simp [al] at hf
  rw[h0.1,CM cs _ _ _ h0.2 h2]
  rfl
theorem dC.flat {w:World} {ct:List CT} {rows:List (List DC)} {vals:List Value} {az:List (List Nat)} (h:dC w ct rows vals az) (hf:al ct=true):az.flatten=[]:=by
 rw[List.flatten_eq_nil_iff]
 intro l hl
 obtain⟨i,hi,rfl⟩:=List.getElem_of_mem hl
 have dD:i<rows.length:=by have:=h.1;omega
 exact CM ct _ _ _ hf (h.2 i rows[i] az[i] (by simp) (by simp))
theorem ka {w:World} {ct:List CT} {r:List (List DC)} {q:Option Addr} {m c:Nat} {fp:List Nat} (h:bQ w (.sl ct) (.sl r) (.slice q m c) fp) (hp:0<ct.length):
  m=r.length∧∃(news:List Value) (az:List (List Nat)),news.length=m*ct.length∧(q=none→m=0)∧(∀ad,q=some ad→∀j u,news[j]? =some u→w.cell? (ad.add j)=some u)∧(∀x∈news,x.oneCell'=true)∧
   dC w ct r news az∧(∀b∈az.flatten,b∈fp)∧(fp.Nodup→az.flatten.Nodup):=by
 obtain⟨q',m',c',hv,hn,hc,hm,km⟩:=cJ h
 injection hv with e1 e2 e3
 subst e1 e2 e3
 refine⟨hn.symm, ?_⟩
 rcases km with ⟨h0,rfl⟩ | ⟨jV,b,o,az,rfl,cd,dZ,rfl,fL⟩
 ·have hr:r=[]:=by simpa [h0] using hn
  subst hr
  exact⟨[],[],by simp [h0],fun _=>h0,by simp,by simp,dC.nil,by simp,by simp⟩
 ·have cellAt:∀j,j<m*ct.length→∃u,w.cell? ⟨b,o+j,none⟩=some u∧u.oneCell'=true:=by
   intro j hj
   have h1:j / ct.length<r.length:=by rw[hn];exact Nat.div_lt_of_lt_mul (by rw[Nat.mul_comm];exact hj)
   have h2:j % ct.length<ct.length:=Nat.mod_lt _ hp
   have hf:j / ct.length<az.length:=by omega
   obtain⟨u,AY,e1,e2,_⟩:=aS.get _ _ _ _ (j % ct.length) ct[j % ct.length] (fL (j / ct.length) r[j / ct.length] az[j / ct.length] (by simp) (by simp)) (by simp)
   refine⟨u, ?_,e2.one⟩
   have:j / ct.length*ct.length+j % ct.length=j:=by rw[Nat.mul_comm];exact Nat.div_add_mod j ct.length
   rw[this] at e1
   exact e1
  refine⟨(List.range (m*ct.length)).map (fun j=>(w.cell? ⟨b,o+j,none⟩).getD undef),az,by simp,by simp, ?_, ?_,⟨by omega, ?_⟩,fun x hx=>List.mem_cons_of_mem _ hx,fun hn=>(List.nodup_cons.1 hn).2⟩
  ·intro ad Hj j u hj
   injection Hj with Hj
   subst Hj
   rw[dj]
   have GL:j<m*ct.length:=by
    have:=(List.getElem?_eq_some_iff.1 hj).1
    simpa using this
   obtain⟨u',Cc,_⟩:=cellAt j GL
   simp [GL,Cc] at hj
   rw[Cc,hj]
  ·intro x hx
   simp only[List.mem_map,List.mem_range] at hx
   obtain⟨j,hj,rfl⟩:=hx
   obtain⟨u',Cc,ho⟩:=cellAt j hj
   rw[Cc]
   exact ho
  ·intro i r' f' hi hf
   refine bb.aS.iT ?_ (fL i r' f' hi hf)
   intro j u hj BL
   have D9:i<m:=by have:=(List.getElem?_eq_some_iff.1 hi).1;omega
   have:i*ct.length+j<m*ct.length:=by
    have:i*ct.length+ct.length≤m*ct.length:=by rw[←Nat.succ_mul];exact Nat.mul_le_mul_right _ D9
    omega
   simp [this,BL]
section
variable {P:Program} {Γ:Ctx} {w0:World} {S:Own} {st:St} {o:Oper} {e:cB} {a:Act} {w:World}
variable {f:Nat→SV} {h:Nat→Option ai} {β:Env} {φ:Nat→List Nat} {tm:Array Value}
theorem run_append_nil (base:Nat) (t ty et:TypeId) (i:TypeInfo) (size:Nat) (ht:P.underlying t=some (.slice et)) (hi:P.info? et=some i)
  (v:Value) (n:Nat) (xs:List Value) (a8:w.ownsRow base et size v n xs) (c:Nat):(Builtin.append_ #[t,t] ty #[v,.slice none 0 c]).run P w= .ok v w:=by
 rcases a8.2 with ⟨rfl,rfl⟩ | ⟨g,cap,cur,rfl,_,_,B8,_⟩
 ·simp [Builtin.append_,run_underlying ht,sizeOf,typeInfo,hi,Builtin.lenOf,Builtin.firstCells]
 ·simp [Builtin.append_,run_underlying ht,sizeOf,typeInfo,hi,Builtin.lenOf,Builtin.firstCells,B8,storeCells]
theorem Bn {t:TypeId} {i:TypeInfo} {n:Nat} (hi:P.info? t=some i) (h:eQ P t n=true):n*i.bytes≤140737488355328∧n≤maxLen:=by
 simp only[eQ,hi,Bool.and_eq_true,decide_eq_true_eq] at h
 exact⟨h.1,by simp only[maxLen];omega⟩
theorem iH {t ty et:TypeId} {i:TypeInfo} {zv:Value} {ct:List CT} (ht:P.underlying t=some (.slice et)) (hi:P.info? et=some i) (hz:i.zero=some zv) (dd:i.size=ct.length) (Kk:zv.cells.size=ct.length) (hp:0<ct.length)
  {v:Value} {n:Nat} {vals:List Value} (a8:bW w et ct.length false v n vals) {q:Option Addr} {m c:Nat} {news:List Value} (hl:news.length=m*ct.length) (hq:q=none→m=0)
  (Ia:∀ad,q=some ad→∀j u,news[j]? =some u→w.cell? (ad.add j)=some u) (h1:∀x∈news,x.oneCell'=true) (dV:eQ P et (n+m)=true):
  ∃v' w',(Builtin.append_ #[t,t] ty #[v,.slice q m c]).run P w= .ok v' w'∧bW w' et ct.length false v' (n+m) (vals++news)∧w.grownBy w' v.ownBlock∧(v'.ownBlock=v.ownBlock∨v'.ownBlock=some w.heap.size):=by
 obtain⟨hb,hm⟩:=Bn hi dV
 cases q with
 | none=>
  have LC:=hq rfl
  subst LC
  have hn:news=[]:=by simpa using hl
  subst hn
  exact⟨v,w,run_append_nil 0 t ty et i ct.length ht hi v n vals a8.owns c,by simpa using a8,⟨rfl,rfl,rfl,Nat.le_refl _,fun _ _ _=>rfl⟩,.inl rfl⟩
 | some ad=>
  obtain⟨v',w',hr,h2,h3,_,h5⟩:=run_append_own_at (P:=P) w 0 t ty et i zv ct.length i.bytes ht hi hz dd rfl Kk hp v n vals a8.owns ad m c news hl (Ia ad rfl) h1 hm hb (Nat.zero_le _)
  exact⟨v',w',hr,bW.Hb h2,h3,h5⟩
theorem Kept.grown (hk:Kept S w0 w) {w':World} {row:Option Nat} (hg:w.grownBy w' row) (hr:∀b,row=some b→w0.heap.size≤b∨S b):Kept S w0 w':=
 ⟨hg.os.trans hk.os,hg.tape.trans hk.tape,hg.output.trans hk.output,Nat.le_trans hk.size hg.size,fun k h1 h2=>by
  rw[hg.block k (by have:=hk.size;omega) (fun e=>by rcases hr k e.symm with h | h;omega;exact h2 h)]
  exact hk.block k h1 h2⟩
mutual
theorem BS:∀(a:CT),kg a a=true
 | .int k=>by simp [kg]
 | .bool=>rfl
 | .str=>rfl
 | .sl e=>by simp only[kg];exact dR e
theorem dR:∀(a:List CT),aC a a=true
 | []=>rfl
 | a::l=>by simp only[aC,Bool.and_eq_true];exact⟨BS a,dR l⟩
end
theorem Cr {ct:List CT} {s:SV} {q:List (List DC)×eB×Bool} (hq:(kz ct s).val f h=some q):(eU (.sl ct) s).val f h=some (.sl q.1,q.2):=by
 unfold kz at hq
 split at hq
 ·simp only[M.aa,Option.some.injEq] at hq
  subst hq
  simp [eU]
 ·rename_i e' r
  cases hb:aC ct e'
  ·simp [hb] at hq
  ·simp only[hb,cond_true,M.aa,Option.some.injEq] at hq
   have:=aG _ _ hb
   subst this hq
   simp [eU,dR]
 ·rename_i id
  simp only[M.a7,Option.bind_eq_some_iff] at hq
  obtain⟨ob,aM,hq⟩:=hq
  split at hq
  ·rename_i t' e' r fz u
   cases hb:aC ct e'
   ·simp [hb] at hq
   ·simp only[hb,cond_true,M.aa,Option.some.injEq] at hq
    have:=aG _ _ hb
    subst this hq
    simp [eU,aM,dR]
  ·rename_i e' r
   cases hb:aC ct e'
   ·simp [hb] at hq
   ·simp only[hb,cond_true,M.aa,Option.some.injEq] at hq
    have:=aG _ _ hb
    subst this hq
    simp [eU,aM,dR]
  ·simp at hq
 ·simp at hq
theorem jy (hc:Core w0 S f h β φ tm w) {ct:List CT} {s:SV} {v:Value} {q:List (List DC)×eB×Bool} (hs:ak w (Av h β) β s v) (hq:(kz ct s).val f h=some q):
  ∃fp,bQ w (.sl ct) (.sl q.1) v fp∧bP h q.2.1∧aI q.2.1=true∧(∀b∈fp,(¬Av h β b)∨∃x∈q.2.1,b∈ec h β x.1)∧
   (q.2.2=true→(∀b∈fp,∃x∈q.2.1,b∈φ x.1)∧fp.Nodup):=eA hc hs (Cr hq)
theorem C7 {ct:List CT} {m:eB} (hm:bP h m) (hn:aI m=true):bP h (bif al ct then [] else m)∧aI (bif al ct then [] else m)=true:=by
 cases al ct
 ·exact⟨hm,hn⟩
 ·exact⟨by simp [bP],rfl⟩
theorem kl {ct:List CT} {m:eB} :(bif al ct then [] else ah m)=ah (bif al ct then [] else m):=by cases al ct<;>rfl
theorem j7 (hR:Rel w0 S st a w) {d:Nat} (aJ:o.dst=some d) (hd:ba st.n d) (bI:bC st d) {t et:TypeId} {s x:Operand} {c:Call} (ho:o.op= .call c) (hb:c.callee= .builtin .append) (cv:c.args= #[s,x])
  (Gx:c.argTypes= #[t,t]) {sx:SV} {ct:List CT} {q:List (List DC)×eB×Bool} {z:List SV} (h1:(bV s).val st.get st.obj=some .nil) (h2:(bV x).val st.get st.obj=some sx) (hu:P.underlying t=some (.slice et))
  (dd:aX P et ct.length=true) (hp:0<ct.length) (hz:(dh P et).val st.get st.obj=some z) (jm:z.length=ct.length) (hq:(kz ct sx).val st.get st.obj=some q) (dV:eQ P et q.1.length=true)
  (fY:e.sv= .own (ag d 0)) (kn:e.cw=none) (how:e.ow=(ag d 0,some (.row et ct q.1 false (al ct || q.2.2)))::(bif al ct then [] else ah q.2.1)):Good P w0 S st o e a w:=by
 obtain⟨i,hi,bk⟩:=a9 dd
 obtain⟨i',zv,dD,mn,rfl,_⟩:=cW hz
 rw[hi] at dD
 injection dD with dD
 subst dD
 obtain⟨IL,IM,BI⟩:=hR.core
 obtain⟨L4,GY,Ee,GO,_,_⟩:=jy BI (BI.ev h2) hq
 obtain⟨Q,m,cc,F_,LG,_,_,_⟩:=cJ GY
 rw[F_] at GY
 obtain⟨H6,news,Lc,GU,Hp,hcell,bg,Ly,_,_⟩:=ka GY hp
 have F7:=BI.ev h1
 simp only[ak] at F7
 have Ik:bW w et ct.length false (.slice none 0 0) 0 []:=⟨by simp,.inl ⟨rfl,rfl,rfl⟩⟩
 obtain⟨v',w',bj,fK,cL,jf⟩:=iH (P:=P) (ty:=o.type) (c:=cc) hu hi mn bk (by simpa using jm) hp Ik GU Hp hcell bg (by rw[H6,Nat.zero_add];exact dV)
 obtain⟨F3,Fm⟩:=C7 (ct:=ct) Ee GO
 refine ey hR aJ hd bI (m:=bif al ct then [] else q.2.1) (fz:=false) (u:=al ct || q.2.2) (vals:=news) (v:=v') (w':=w') ?_ (hR.kept.grown cL (by simp [Value.ownBlock])) cL.size
  (fun b hb=>cL.block b hb (by simp [Value.ownBlock])) ?_ F3 Fm ?_ ?_ fY kn (by rw[how,kl])
 ·simp [execOp,ho,resolve,hb,cv,Gx,invoke,builtin,F7,F_,bj]
 ·intro b ax
  rcases jf with h3 | h3
  ·rw[h3] at ax;simp [Value.ownBlock] at ax
  ·rw[h3] at ax;simpa using ax
 ·rw[←H6]
  simpa using fK
 ·intro β φ hc
  obtain⟨fp,kQ,iK,A6,kM,HU⟩:=jy hc (hc.ev h2) hq
  rw[F_] at kQ
  obtain⟨_,IG,az,Ib,_,GC,_,cT,gO,GV⟩:=ka kQ hp
  have LI:dC w ct q.1 news az:=by
   refine⟨cT.1,fun k r' f' hk hf=> ?_⟩
   refine bb.aS.iT ?_ (cT.2 k r' f' hk hf)
   intro j u hj BL
   have HY:k*ct.length+j<IG.length:=(List.getElem?_eq_some_iff.1 BL).1
   cases Q with
   | none=>
    have:m=0:=Hp rfl
    subst this
    simp at Ib
    simp [Ib] at BL
   | some ad=>
    have e1:=GC ad rfl _ _ BL
    have cd:k*ct.length+j<news.length:=by omega
    have e2:=hcell ad rfl (k*ct.length+j) news[k*ct.length+j] (by simp)
    rw[e1] at e2
    injection e2 with e2
    rw[List.getElem?_eq_getElem cd,←e2]
  refine⟨az,LI, ?_, ?_⟩
  ·intro b ax
   cases dZ:al ct with
   | true=>rw[cT.flat dZ] at ax;simp at ax
   | false=>simpa using kM b (gO b ax)
  ·intro Cc
   cases dZ:al ct with
   | true=>rw[cT.flat dZ];simp
   | false=>
    rw[dZ,Bool.false_or] at Cc
    exact⟨fun b ax=>by simpa using (HU Cc).1 b (gO b ax),GV (HU Cc).2⟩
theorem j8 (hR:Rel w0 S st a w) {d:Nat} (aJ:o.dst=some d) (hd:ba st.n d) (bI:bC st d) {t et:TypeId} {s x:Operand} {c:Call} (ho:o.op= .call c) (hb:c.callee= .builtin .append) (cv:c.args= #[s,x])
  (Gx:c.argTypes= #[t,t]) {id:Nat} {u:Bool} {r:List (List DC)} {sx:SV} {ct:List CT} {q:List (List DC)×eB×Bool} {z:List SV} (h1:(bV s).val st.get st.obj=some (.own id)) (h2:(bV x).val st.get st.obj=some sx)
  (aM:st.obj id=some (.row et ct r false u)) (hu:P.underlying t=some (.slice et))
  (dd:aX P et ct.length=true) (hp:0<ct.length) (hz:(dh P et).val st.get st.obj=some z) (jm:z.length=ct.length) (hq:(kz ct sx).val st.get st.obj=some q) (J0:bK id q.2.1=true)
  (dV:eQ P et (r.length+q.1.length)=true) (fY:e.sv= .own (ag d 0)) (kn:e.cw=none)
  (how:e.ow=(ag d 0,some (.row et ct (r++q.1) false (u && (al ct || q.2.2))))::(id,none)::(bif al ct then [] else ah q.2.1)):Good P w0 S st o e a w:=by
 obtain⟨i,hi,bk⟩:=a9 dd
 obtain⟨i',zv,dD,mn,rfl,_⟩:=cW hz
 rw[hi] at dD
 injection dD with dD
 subst dD
 obtain⟨β,φ,hc⟩:=hR.core
 obtain⟨fp,kQ,Ee,GO,kM,HU⟩:=jy hc (hc.ev h2) hq
 obtain⟨Q,m,cc,F_,LG,_,_,_⟩:=cJ kQ
 rw[F_] at kQ
 obtain⟨H6,news,mj,GU,Hp,hcell,bg,jh,gO,GV⟩:=ka kQ hp
 obtain⟨F3,Fm⟩:=C7 (ct:=ct) Ee GO
 have JZ:=gb J0
 have A8:∀y∈(bif al ct then [] else q.2.1),y.1≠id:=by
  cases al ct
  ·exact JZ
  ·simp
 generalize hM:(bif al ct then [] else q.2.1)=M' at F3 Fm A8
 have jg:=hc.fW M' F3 Fm
 have gI:fo (ah M') st.obj id=some (.row et ct r false u):=by rw[bD A8];exact aM
 obtain⟨vals,az,a8,cT,HW,kR⟩:=jg.aB id _ gI
 have F7:=hc.ev h1
 simp only[ak] at F7
 obtain⟨v',w',bj,fK,cL,jf⟩:=iH (P:=P) (ty:=o.type) (c:=cc) hu hi mn bk (by simpa using jm) hp a8 GU Hp hcell bg (by rw[H6];exact dV)
 have bs:ag d 0 / 64=d:=cy d 0 (by omega)
 have HX:id≠ag d 0:=fun e=>(bI.obj id _ aM).1 (e ▸ bs)
 have fS:∀j,j≠ag d 0→(β.fv (ag d 0) v').val j=β.val j∧(β.fv (ag d 0) v').di j=β.di j:=by
  intro j hj
  exact⟨by simp [Env.fv,ay,hj],rfl⟩
 have hval:(β.fv (ag d 0) v').val (ag d 0)=v':=by simp [Env.fv,ay]
 have jk:=aj (jg.aB id _ gI)
 have bo:=jg.fresh id _ gI
 have Fi:=cT.lt
 have Fj:=jh.lt
 have kK:∀b∈mj.flatten,¬Av (fo (ah M') st.obj) β b:=by
  intro b ax
  cases dZ:al ct with
  | true=>rw[jh.flat dZ] at ax;simp at ax
  | false=>
   rw[dZ,cond_false] at hM
   subst hM
   rcases kM b (gO b ax) with h3 | ⟨y,hy,AH⟩
   ·exact fun h4=>h3 (fE h4)
   ·exact c_ hc F3 hy AH
 have B7:(u && (al ct || q.2.2))=true→∀b∈mj.flatten,∃y∈M',b∈φ y.1:=by
  intro gk b ax
  cases dZ:al ct with
  | true=>rw[jh.flat dZ] at ax;simp at ax
  | false=>
   rw[dZ,cond_false] at hM
   subst hM
   rw[dZ,Bool.false_or,Bool.and_eq_true] at gk
   exact (HU gk.2).1 b (gO b ax)
 have Ie:(u && (al ct || q.2.2))=true→mj.flatten.Nodup:=by
  intro gk
  cases dZ:al ct with
  | true=>rw[jh.flat dZ];simp
  | false=>
   rw[dZ,Bool.false_or,Bool.and_eq_true] at gk
   exact GV (HU gk.2).2
 have jj:∀j oj,ay (ay (fo (ah M') st.obj) id none) (ag d 0) (some (.row et ct (r++q.1) false (u && (al ct || q.2.2)))) j=some oj→j≠ag d 0→j≠id∧fo (ah M') st.obj j=some oj:=by
  intro j oj hj lO
  simp only[ay,lO,if_false] at hj
  split at hj
  ·cases hj
  ·exact⟨by assumption,hj⟩
 have gL:∀b,(β.val id).ownBlock=some b→b∈bf φ M' id:=fun b ax=>jk b (by simp [ao,ax])
 have mM:∀b∈v'.ownBlock.toList,b∈bf φ M' id∨b=w.heap.size:=by
  intro b ax
  rcases jf with h3 | h3
  ·rw[h3] at ax
   exact .inl (jk b (by simpa [ao] using ax))
  ·rw[h3] at ax
   exact .inr (by simpa using ax)
 have G5:u=true→∀b∈az.flatten,b∈bf φ M' id:=by
  intro gk b ax
  rw[kR,gk]
  exact List.mem_append_right _ ax
 have A_:∀b,b∈v'.ownBlock.toList++(bif (u && (al ct || q.2.2)) then (az++mj).flatten else [])→∀j oj,j≠id→fo (ah M') st.obj j=some oj→b ∉ bf φ M' j:=by
  intro b ax j oj hj ji bn
  have lk:b∈bf φ M' id→False:=fun h3=>jg.sep id j _ _ (Ne.symm hj) gI ji b h3 bn
  rcases List.mem_append.1 ax with ax | ax
  ·rcases mM b ax with h3 | h3
   ·exact lk h3
   ·have:=((jg.fresh j oj ji).2 b bn).2
    omega
  ·cases gk:(u && (al ct || q.2.2)) with
   | false=>simp [gk] at ax
   | true=>
    simp only[gk,cond_true,List.flatten_append,List.mem_append] at ax
    rcases ax with ax | ax
    ·rw[Bool.and_eq_true] at gk
     exact lk (G5 gk.1 b ax)
    ·obtain⟨y,hy,AH⟩:=B7 gk b ax
     obtain⟨_,h3,_⟩:=F3 y hy
     by_cases A4:∃k∈M',k.1=j
     ·rw[gF A4] at bn
      simp at bn
     ·have B9:∀k∈M',k.1≠j:=fun k hk e=>A4 ⟨k,hk,e⟩
      rw[bD B9] at ji
      rw[cE B9] at bn
      exact hc.sep y.1 j _ _ (B9 y hy) h3 ji b AH bn
 have fm:∀b,b<w.heap.size→(β.val id).ownBlock≠some b→w'.heap[b]? =w.heap[b]? :=fun b ax cm=>cL.block b ax (fun e=>cm e.symm)
 have jT:∀b∈(az++mj).flatten,¬Av (fo (ah M') st.obj) β b∧b<w.heap.size:=by
  intro b ax
  simp only[List.flatten_append,List.mem_append] at ax
  rcases ax with ax | ax
  ·exact⟨HW b ax,Fi b ax⟩
  ·exact⟨kK b ax,Fj b ax⟩
 have Ag:∀b,Av (ay (ay (fo (ah M') st.obj) id none) (ag d 0) (some (.row et ct (r++q.1) false (u && (al ct || q.2.2))))) (β.fv (ag d 0) v') b→Av (fo (ah M') st.obj) β b∨w.heap.size≤b:=by
  rintro b (⟨j,oj,hj,bn⟩ | hb)
  case inr=>exact .inl (.inr hb)
  by_cases bR:j=ag d 0
  ·subst bR
   simp only[ay,if_true,Option.some.injEq] at hj
   subst hj
   simp only[ao,hval] at bn
   rcases jf with h3 | h3
   ·rw[h3] at bn
    exact .inl (.inl ⟨id,_,gI,by simpa [ao] using bn⟩)
   ·rw[h3] at bn
    right
    have:b=w.heap.size:=by simpa using bn
    omega
  ·obtain⟨_,fJ⟩:=jj j oj hj bR
   refine .inl (.inl ⟨j,oj,fJ, ?_⟩)
   cases oj<;>simp only[ao,fS j bR] at bn ⊢ <;>exact bn
 refine bY hR (fun d' h'=>by rw[aJ] at h';injection h' with h';exact h' ▸ hd) (v:=v') (w':=w') ?_ (hR.kept.grown cL (fun b ax=>(bo.2 b (gL b ax)).1))
  ⟨β.fv (ag d 0) v',ay (bf φ M') (ag d 0) (v'.ownBlock.toList++(bif (u && (al ct || q.2.2)) then (az++mj).flatten else [])), ?_, ?_⟩
 ·simp [execOp,ho,resolve,hb,cv,Gx,invoke,builtin,F7.1,F_,bj]
 ·rw[how,kn,kl,hM]
  show Core w0 S st.get (ay (ay (fo (ah M') st.obj) id none) (ag d 0) (some (.row et ct (r++q.1) false (u && (al ct || q.2.2))))) _ _ _ _
  refine jg.step (fun j=>j=ag d 0) cL.size (fun b ax hn=>fm b ax (fun e=>hn (.inl ⟨id,_,gI,by simp [ao,e]⟩))) Ag
   (fun k j hj e=>bI.slot k j hj (by rw[e];exact bs)) fS ?_ ?_
  ·intro j oj hj
   by_cases bR:j=ag d 0
   ·subst bR
    have fJ:=hj
    simp only[ay,if_true,Option.some.injEq] at fJ
    subst fJ
    refine .inr ⟨?_, ?_, ?_⟩
    ·refine⟨vals++news,az++mj, ?_, ?_, ?_, ?_⟩
     ·rw[hval]
      have:(r++q.1).length=r.length+m:=by simp [H6]
      rw[this]
      exact fK
     ·exact (cT.append a8.1 jh).mono cL.size (fun b ax=>fm b (jT b ax).2 (fun e=>(jT b ax).1 (.inl ⟨id,_,gI,by simp [ao,e]⟩)))
     ·intro b ax hx
      rcases Ag b hx with h3 | h3
      ·exact (jT b ax).1 h3
      ·have:=(jT b ax).2
       omega
     ·rw[hval]
      simp [ay]
    ·simp only[ay,if_true]
     have Ai:v'.ownBlock.toList.Nodup:=by cases v'.ownBlock<;>simp
     cases gk:(u && (al ct || q.2.2)) with
     | false=>simpa using Ai
     | true=>
      have F9:u=true:=by rw[Bool.and_eq_true] at gk;exact gk.1
      have GP:=bo.1
      rw[kR,F9,cond_true,List.nodup_append] at GP
      obtain⟨_,GQ,H7⟩:=GP
      have I0:((az++mj).flatten).Nodup:=by
       rw[List.flatten_append,List.nodup_append]
       refine⟨GQ,Ie gk,fun b ax c' gG Dd=> ?_⟩
       subst Dd
       obtain⟨y,hy,AH⟩:=B7 gk b gG
       obtain⟨_,h3,_⟩:=F3 y hy
       have h4:=G5 F9 b ax
       rw[cE A8] at h4
       exact hc.sep y.1 id _ _ (A8 y hy) h3 aM b AH h4
      rw[cond_true,List.nodup_append]
      refine⟨Ai,I0,fun b ax c' gG Dd=> ?_⟩
      subst Dd
      rcases jf with h3 | h3
      ·rw[h3] at ax
       exact (jT b gG).1 (.inl ⟨id,_,gI,by simpa [ao] using ax⟩)
      ·rw[h3] at ax
       have h4:b=w.heap.size:=by simpa using ax
       have:=(jT b gG).2
       omega
    ·simp only[ay,if_true]
     intro b ax
     rcases List.mem_append.1 ax with ax | ax
     ·rcases mM b ax with h3 | h3
      ·have:=bo.2 b h3
       exact⟨this.1,by have:=cL.size;omega⟩
      ·subst h3
       refine⟨.inl hR.kept.size,fK.lt _ ax⟩
     ·cases gk:(u && (al ct || q.2.2)) with
      | false=>simp [gk] at ax
      | true=>
       simp only[gk,cond_true,List.flatten_append,List.mem_append] at ax
       have LO:=cL.size
       rcases ax with ax | ax
       ·have F9:u=true:=by rw[Bool.and_eq_true] at gk;exact gk.1
        have:=bo.2 b (G5 F9 b ax)
        exact⟨this.1,by omega⟩
       ·obtain⟨y,hy,AH⟩:=B7 gk b ax
        obtain⟨_,h3,_⟩:=F3 y hy
        have:=(hc.fresh y.1 _ h3).2 b AH
        exact⟨this.1,by omega⟩
   ·obtain⟨fX,fJ⟩:=jj j oj hj bR
    refine .inl ⟨bR,fJ,by simp [ay,bR], ?_, ?_⟩
    ·intro k hk e
     rcases cY fJ with h3 | ⟨e',r',rfl,_⟩
     ·exact (bI.obj j oj h3).2 k hk (by rw[e];exact bs)
     ·simp [bZ] at hk
    ·intro b ax
     have e_:=aj (jg.aB j oj fJ) b ax
     refine fm b ((jg.fresh j oj fJ).2 b e_).2 (fun e=> ?_)
     exact jg.sep id j _ _ (Ne.symm fX) gI fJ b (gL b e) e_
  ·intro k j ok oj cm hk hj b ax
   by_cases GM:k=ag d 0
   ·subst GM
    have lO:j≠ag d 0:=Ne.symm cm
    obtain⟨fX,fJ⟩:=jj j oj hj lO
    simp only[ay,if_true] at ax
    simp only[ay,lO,if_false]
    exact A_ b ax j oj fX fJ
   ·obtain⟨mJ,B6⟩:=jj k ok hk GM
    simp only[ay,GM,if_false] at ax
    by_cases bR:j=ag d 0
    ·subst bR
     simp only[ay,if_true]
     exact fun h3=>A_ b h3 k ok mJ B6 ax
    ·obtain⟨fX,fJ⟩:=jj j oj hj bR
     simp only[ay,bR,if_false]
     exact jg.sep k j ok oj cm B6 fJ b ax
 ·rw[fY]
  unfold ak
  exact⟨hval.symm,fK.one⟩
end
end Go.Proofs.YtngbcccnjiaddaaGreat.Vm
namespace Go.Proofs.YtngbcccnjiaddaaGreat.Vm
theorem Bl:∀(ns:List Int) (l:List UInt8),ns.foldl (fun (r:ByteArray) n=>r.push (UInt8.ofNat n.toNat)) ⟨l.toArray⟩=⟨(l++ns.map (fun n=>UInt8.ofNat n.toNat)).toArray⟩
 | [],l=>by simp
 | n::ns,l=>by
  simp only[List.foldl_cons,List.map_cons]
  have:(⟨l.toArray⟩:ByteArray).push (UInt8.ofNat n.toNat)=⟨(l++[UInt8.ofNat n.toNat]).toArray⟩:=by
   apply ByteArray.ext
   simp [ByteArray.push]
  rw[this,Bl ns]
  simp
section
variable {P:Program} {Γ:Ctx} {w0:World} {S:Own} {st:St} {o:Oper} {e:cB} {a:Act} {w:World}
variable {f:Nat→SV} {h:Nat→Option ai} {β:Env} {φ:Nat→List Nat} {tm:Array Value}
theorem Ax {rows:List (List DC)} {v:Value} {fp:List Nat} (hr:bQ w (.sl [.int .u8]) (.sl rows) v fp):
  (Conv.bytesToString v).run P w= .ok (.string ⟨(rows.map byteOf).toArray⟩) w:=by
 obtain⟨q,m,c,rfl,hn,_,_,km⟩:=cJ hr
 cases q with
 | none=>
  have hm:m=0:=by
   rcases km with ⟨h0,_⟩ | ⟨_,b,o,az,h1,_⟩
   ·exact h0
   ·cases h1
  have:rows=[]:=by simpa [hm] using hn
  subst this
  simp [Conv.bytesToString]
  rfl
 | some ad=>
  have H3:(loadCells ad m).run P w= .ok ((rows.map fun r=>(r.headD default).asInt).map (Value.int .u8)).toArray w:=by
   have:=run_loadCells_list (P:=P) (w:=w) ad ((rows.map fun r=>(r.headD default).asInt).map (Value.int .u8)) ?_
   ·simpa [hn] using this
   ·intro j u hj
    rcases km with ⟨h0,_⟩ | ⟨_,b,o,az,h1,cd,dZ,_,fL⟩
    ·have:rows=[]:=by simpa [h0] using hn
     subst this
     simp at hj
    ·injection h1 with h1
     subst h1
     rw[dj]
     have GL:j<rows.length:=by
      have:=(List.getElem?_eq_some_iff.1 hj).1
      simpa using this
     have L7:j<az.length:=by omega
     have:=fL j rows[j] az[j] (by simp) (by simp)
     simp only[aS,bQ,List.length_singleton,Nat.mul_one,Nat.add_zero] at this
     obtain⟨d,r',v',f1,f2,e1,e2,⟨n,rfl,rfl,_,_⟩,⟨rfl,_⟩,_⟩:=this
     rw[e2]
     simp only[List.map_map,List.getElem?_map,List.getElem?_eq_getElem GL,e1,Option.map_some,Option.some.injEq] at hj
     simpa [DC.asInt] using hj
  rw[run_bytesToString w ad m c _ H3]
  have:=Bl (rows.map fun r=>(r.headD default).asInt) []
  have e0:ByteArray.empty=⟨([]:List UInt8).toArray⟩:=rfl
  rw[e0,this]
  simp [byteOf,Function.comp_def]
theorem Cx (hR:Rel w0 S st a w) (hd:∀d,o.dst=some d→ba st.n d) (bI:e.ow≠[]→∀d,o.dst=some d→bC st d) {s t:TypeId} {x:Operand} (ho:o.op= .convert s t x) {sx:SV}
  (h1:(bV x).val st.get st.obj=some sx) (he:(DR P o.dst s t sx).val st.get st.obj=some e):Good P w0 S st o e a w:=by
 unfold DR at he
 split at he
 ·rename_i k src hk hs
  split at he
  ·rename_i k' n
   simp only[M.aa,Option.some.injEq] at he
   subst he
   refine aq hR hd rfl rfl fun β φ hc=> ?_
   have hx:=hc.ev h1
   simp only[ak] at hx
   refine⟨.int k (k.wrap n), ?_,by unfold ak;exact⟨rfl,eJ _ _⟩⟩
   simp [execOp,ho,hx.1,convert,run_underlying hk,run_underlying hs,Conv.intToInt]
  ·simp at he
 ·rename_i hk hs
  split at he
  ·rename_i l
   simp only[M.aa,Option.some.injEq] at he
   subst he
   refine aq hR hd rfl rfl fun β φ hc=> ?_
   have hx:=hc.ev h1
   simp only[ak] at hx
   refine⟨.string ⟨l.toArray⟩, ?_,by unfold ak;exact⟨rfl,hx.2⟩⟩
   simp [execOp,ho,hx.1,convert,run_underlying hk,run_underlying hs]
  ·simp at he
 ·rename_i et hk hs
  split at he
  ·rename_i het
   simp only[M.ae,Option.bind_eq_some_iff,M.aa,Option.some.injEq] at he
   obtain⟨q,hq,rfl⟩:=he
   refine aq hR hd rfl rfl fun β φ hc=> ?_
   obtain⟨fp,kQ,_⟩:=jy hc (hc.ev h1) hq
   have bj:=Ax (P:=P) kQ
   obtain⟨qa,m,c,hv,hn,Ah,hm,_⟩:=cJ kQ
   refine⟨.string ⟨(q.1.map byteOf).toArray⟩, ?_,by unfold ak;exact⟨rfl,by simp;omega⟩⟩
   rw[hv] at bj
   have:=run_convert_bytes_string (P:=P) w s t et qa m c hs het hk
   simp [execOp,ho,hv,this,bj]
  ·simp at he
 ·rename_i et hk hs
  split at he
  ·rename_i l d het aJ
   cases hz:aX P et 1
   ·simp [hz] at he
   simp only[hz,cond_true,M.aa,Option.some.injEq] at he
   subst he
   obtain⟨IL,IM,BI⟩:=hR.core
   have hx:=BI.ev h1
   simp only[ak] at hx
   have hlen:l.length≤9223372036854775807:=by have:=hx.2;simp only[maxLen] at this;omega
   generalize kL:Question.cut (.appendCap l.length 0 et) (w.tape w.drawn (.appendCap l.length 0 et))=cap
   have HL:l.length≤cap:=by rw[←kL];simp [Question.cut]
   have HM:cap≤maxLen:=by
    rw[←kL]
    simp only[Question.cut,maxLen]
    have:=Nat.mod_lt (w.tape w.drawn (.appendCap l.length 0 et)) (show 0<2 ^ 63 - l.length by omega)
    omega
   let cells:Array Value:=(l.map fun b=>Value.int .u8 b.toNat).toArray++Array.replicate (cap - l.length) (.int .u8 0)
   have fI:cells.size=cap:=by simp [cells];omega
   have Hq:∀b,b<w.heap.size→(World.freeze (w.drew.alloc (.cells cells et)) ⟨w.heap.size,cap,none⟩ 1).heap[b]? =w.heap[b]? :=by
    intro b hb
    simp only[World.freeze,Nat.one_ne_zero,if_false,Array.getElem?_modify]
    rw[if_neg (by omega)]
    exact alloc_old (w:=w.drew) _ b hb
   have bs:(World.freeze (w.drew.alloc (.cells cells et)) ⟨w.heap.size,cap,none⟩ 1).heap[w.heap.size]? =some (.cells cells et (cells.size,cells.size+1)):=by
    simp only[World.freeze,Nat.one_ne_zero,if_false,Array.getElem?_modify,if_true]
    have:=dI (w:=w.drew) (.cells cells et)
    have e1:w.drew.heap.size=w.heap.size:=rfl
    rw[e1] at this
    rw[this]
    simp [fI]
   have A9:(World.freeze (w.drew.alloc (.cells cells et)) ⟨w.heap.size,cap,none⟩ 1).heap.size=w.heap.size+1:=by simp [World.freeze]
   refine ey hR aJ (hd d aJ) (bI (by simp) d aJ) (m:=[]) (fz:=true) (u:=true) (vals:=l.map fun b=>Value.int .u8 b.toNat) (v:= .slice (some ⟨w.heap.size,0,none⟩) l.length cap)
    (w':=World.freeze (w.drew.alloc (.cells cells et)) ⟨w.heap.size,cap,none⟩ 1) ?_ ?_ (by rw[A9];omega) Hq (by simp [Value.ownBlock]) (by simp [bP]) rfl ?_ ?_ rfl rfl rfl
   ·have Al:(w.drew.alloc (.cells cells et)).shape? w.heap.size=some (et,cap):=by
     have:=dI (w:=w.drew) (.cells cells et)
     have e1:w.drew.heap.size=w.heap.size:=rfl
     rw[e1] at this
     unfold World.shape?
     rw[this]
     simp [fI]
    simp only[execOp,ho,hx.1,convert,Sem.run_bind,run_underlying hk,run_underlying hs,run_underlying het,Result.andThen_ok,Conv.stringToBytes,run_choose]
    simp only[Question.forced,Bool.false_eq_true,if_false,Result.andThen_ok,dz,kL,newRow,Sem.run_bind,run_newObj,World.drew_eq,World.alloc_eq]
    have Ah:(Array.map (fun b:UInt8=>Value.int IntKind.u8 ↑b.toNat) l.toArray++Array.replicate (cap - l.length) (Value.int IntKind.u8 0))=cells:=by simp [cells]
    rw[Ah]
    simp [markStringish,Al]
   ·refine⟨hR.kept.os,hR.kept.tape,hR.kept.output,by rw[A9];have:=hR.kept.size;omega,fun k h2 h3=> ?_⟩
    rw[Hq k (by have:=hR.kept.size;omega)]
    exact hR.kept.block k h2 h3
   ·refine⟨by simp,.inr ⟨w.heap.size,cap,cells,by simp,by simpa using bs,by simpa using HL,HM,by simp [fI], ?_⟩⟩
    simp [cells]
   ·intro β φ hc
    refine⟨List.replicate l.length [],⟨by simp,fun i r' f' hi hf=> ?_⟩,by simp,by simp⟩
    have D9:i<l.length:=by
     have:=(List.getElem?_eq_some_iff.1 hi).1
     simpa using this
    have Fp:r'=eP l[i]:=by simpa [D9] using hi.symm
    have BK:f'=[]:=by
     have:=hf
     rw[List.getElem?_replicate,if_pos D9] at this
     injection this with this
     exact this.symm
    subst Fp BK
    unfold eP
    simp only[aS,bQ]
    refine⟨.int l[i].toNat,[],.int .u8 l[i].toNat,[],[],rfl, ?_,⟨_,rfl,rfl, ?_,rfl⟩,⟨rfl,rfl⟩,rfl⟩
    ·simp [D9]
    ·rw[fg]
     have h1:IntKind.u8.min=0:=by decide
     have h2:IntKind.u8.max=255:=by decide
     have:=l[i].toNat_lt
     omega
  ·simp at he
 ·simp at he
end
end Go.Proofs.YtngbcccnjiaddaaGreat.Vm
set_option linter.unusedVariables false
set_option linter.unusedSimpArgs false
namespace Go.Proofs.YtngbcccnjiaddaaGreat.Vm
def E6 (w:World) (k:AK) (ds:List DC) (v:Value) (fp:List Nat):Prop:=
 ∃vs:List Value,(bif k.agg then v= .agg vs.toArray else (vs=[v]∧v.oneCell'=true))∧(∀x∈vs,x.oneCell'=true)∧aS w k.cb ds (fun j=>vs[j]?) fp∧vs.length=k.cb.length
def cQ (w:World):List AK→List DC→List Value→List Nat→Prop
 | [],ds,vs,fp=>ds=[]∧vs=[]∧fp=[]
 | k::ks,ds,vs,fp=>∃d1 d2 v cx f1 f2,ds=d1++d2∧vs=v::cx∧E6 w k d1 v f1∧cQ w ks d2 cx f2∧fp=f1++f2
def cO (w:World):List RC→List DC→List Value→List Nat→List Nat→List Nat→Prop
 | [],ds,vs,φ,im,tp=>ds=[]∧vs=[]∧φ=[]∧im=[]∧tp=[]
 | .dQ c::cs,ds,vs,φ,im,tp=>∃d aW v cx f1 Ep,ds=d::aW∧vs=v::cx∧bQ w c d v f1∧cO w cs aW cx φ Ep tp∧im=f1++Ep
 | .own t e::cs,ds,vs,φ,im,tp=>∃rows aW v cx vals az φ' AF,ds= .sl rows::aW∧vs=v::cx∧bW w t e.length false v rows.length vals∧dC w e rows vals az∧
   cO w cs aW cx φ' im AF∧φ=(v.ownBlock.toList++az.flatten)++φ'∧tp=v.ownBlock.toList++AF
 | .deep t e ts::cs,ds,vs,φ,im,tp=>∃rows aW v cx vals aN φ' AF,ds= .sl rows::aW∧vs=v::cx∧bW w t e.length false v rows.length vals∧bB w e ts rows vals (fun _=>none) aN∧
   cO w cs aW cx φ' im AF∧φ=(v.ownBlock.toList++aN.flatten)++φ'∧tp=(v.ownBlock.toList++aN.flatten)++AF
def eF (w:World):List RK→List DC→List Value→List Nat→List Nat→List Nat→Prop
 | [],ds,vs,φ,im,tp=>ds=[]∧vs=[]∧φ=[]∧im=[]∧tp=[]
 | k::ks,ds,vs,φ,im,tp=>∃d1 d2 v cx us Ds AG i1 i2 t1 t2,ds=d1++d2∧vs=v::cx∧(bif k.agg then v= .agg us.toArray else us=[v])∧(∀x∈us,x.oneCell'=true)∧cO w k.cells d1 us Ds i1 t1∧
   eF w ks d2 cx AG i2 t2∧φ=Ds++AG∧im=i1++i2∧tp=t1++t2
def pack:List Value→Value
 | [x]=>x
 | l=> .tuple l.toArray
def DA (P:Program) (g:Nat) (s:Sum):Prop:=
 (∃fn,P.funcs[g]? =some fn∧fn.body.isSome=true∧(fn.name== "runtime.NumGoroutine")=false)∧
 ∀(w:World) (ds:List DC) (vals:List Value) (fp:List Nat),cQ w s.ps ds vals fp→(s.fn ds).1=true→
  Calls P g vals.toArray w fun e w'=>∃vs φ im tp,e= .returned (pack vs)∧Kept Own.none w w'∧eF w' s.rs (s.fn ds).2 vs φ im tp∧φ.Nodup∧
   (∀b∈φ,w.heap.size≤b∧b<w'.heap.size)∧∀b∈im,(b∈fp∨w.heap.size≤b)∧b ∉ tp
def cK (w:World):List CT→List TypeId→List DC→List Value→List Nat→Prop
 | [],ts,ds,us,mb=>ts=[]∧ds=[]∧us=[]∧mb=[]
 | .sl e::cs,ts,ds,us,mb=>∃t dE rows aW v aR vals az gl,ts=t::dE∧ds= .sl rows::aW∧us=v::aR∧al e=true∧bW w t e.length false v rows.length vals∧dC w e rows vals az∧
   cK w cs dE aW aR gl∧mb=v.ownBlock.toList++gl
 | c::cs,ts,ds,us,mb=>∃d aW v aR,ds=d::aW∧us=v::aR∧bQ w c d v []∧cK w cs ts aW aR mb
def gv (w:World) (t:TT) (e:List CT) (rows:List (List DC)) (v:Value) (mb:List Nat):Prop:=
 match t with
 | .flat t=>al e=true∧∃vals az,bW w t e.length false v rows.length vals∧dC w e rows vals az∧mb=v.ownBlock.toList
 | .deep t its=>∃vals aN,bW w t e.length false v rows.length vals∧bB w e its rows vals (fun _=>none) aN∧mb=v.ownBlock.toList++aN.flatten
def bc (w:World):List CT→List TT→List DC→List Value→List Nat→Prop
 | [],ts,ds,us,mb=>ts=[]∧ds=[]∧us=[]∧mb=[]
 | .sl e::cs,ts,ds,us,mb=>∃t dE rows aW v aR m1 gl,ts=t::dE∧ds= .sl rows::aW∧us=v::aR∧gv w t e rows v m1∧bc w cs dE aW aR gl∧mb=m1++gl
 | c::cs,ts,ds,us,mb=>∃d aW v aR,ds=d::aW∧us=v::aR∧bQ w c d v []∧bc w cs ts aW aR mb
def iE (w:World):List CT→List TT→List DC→List Value→List Nat→Prop
 | [],_,ds,us,mb=>ds=[]∧us=[]∧mb=[]
 | .sl e::cs,ts,ds,us,mb=>∃t dE rows aW v aR m1 gl,ts=t::dE∧ds= .sl rows::aW∧us=v::aR∧gv w t e rows v m1∧iE w cs dE aW aR gl∧mb=m1++gl
 | _::cs,ts,ds,us,mb=>∃v aR,us=v::aR∧iE w cs ts ds aR mb
def iY (w:World) (k:AK):Option MK→List DC→Value→List Nat→List Nat→Prop
 | none,d,v,f,b=>E6 w k d v f∧b=[]
 | some (.box t),d,v,f,b=>∃(g:Nat) (us:List Value),v= .pointer (some ⟨g,0,none⟩)∧w.heap[g]? =some (.cells us.toArray t (0,0))∧(∀x∈us,x.oneCell'=true)∧aS w k.cb d (fun j=>us[j]?) f∧us.length=k.cb.length∧b=[g]
 | some (.rows ts),d,v,f,b=>∃us:List Value,(bif k.agg then v= .agg us.toArray else (us=[v]∧v.oneCell'=true))∧(∀x∈us,x.oneCell'=true)∧bc w k.cb ts d us b∧f=[]
def cu (w:World):List AK→List (Option MK)→List DC→List Value→List Nat→List Nat→Prop
 | [],ms,ds,vs,fp,mb=>ms=[]∧ds=[]∧vs=[]∧fp=[]∧mb=[]
 | k::ks,ms,ds,vs,fp,mb=>∃m Dx d1 d2 v cx f1 f2 b1 b2,ms=m::Dx∧ds=d1++d2∧vs=v::cx∧iY w k m d1 v f1 b1∧cu w ks Dx d2 cx f2 b2∧fp=f1++f2∧mb=b1++b2
def E7 (w:World) (k:AK):Option MK→List DC→Value→List Nat→List Nat→Prop
 | none,d,_,im,b=>d=[]∧im=[]∧b=[]
 | some (.box t),d,v,im,b=>∃(g:Nat) (us:List Value),v= .pointer (some ⟨g,0,none⟩)∧w.heap[g]? =some (.cells us.toArray t (0,0))∧(∀x∈us,x.oneCell'=true)∧aS w k.cb d (fun j=>us[j]?) im∧us.length=k.cb.length∧b=[g]
 | some (.rows ts),d,v,im,b=>∃us:List Value,(bif k.agg then v= .agg us.toArray else us=[v])∧iE w k.cb ts d us b∧im=[]
def lu (w:World):List AK→List (Option MK)→List DC→List Value→List Nat→List Nat→Prop
 | [],_,ds,vs,im,mb=>ds=[]∧vs=[]∧im=[]∧mb=[]
 | k::ks,ms,ds,vs,im,mb=>∃m Dx d1 d2 v cx i1 i2 b1 b2,ms=m::Dx∧ds=d1++d2∧vs=v::cx∧E7 w k m d1 v i1 b1∧lu w ks Dx d2 cx i2 b2∧im=i1++i2∧mb=b1++b2
def BO (P:Program) (g:Nat) (s:Sum):Prop:=
 (∃fn,P.funcs[g]? =some fn∧fn.body.isSome=true∧(fn.name== "runtime.NumGoroutine")=false)∧
 ∀(w:World) (ds:List DC) (vals:List Value) (fp mb:List Nat),cu w s.ps s.ms ds vals fp mb→mb.Nodup→(∀b∈mb,b ∉ fp)→(s.fn ds).1=true→
  Calls P g vals.toArray w fun e w'=>∃vs φ im tp mg rd od ψ,e= .returned (pack vs)∧(s.fn ds).2=rd++od∧rd.length=ch s.rs∧Kept ⟨fun b=>b∈mb,fun _=>False,[]⟩ w w'∧eF w' s.rs rd vs φ im tp∧φ.Nodup∧
   (∀b∈φ,w.heap.size≤b∧b<w'.heap.size)∧lu w' s.ps s.ms od vals mg ψ∧ψ.Nodup∧(∀b∈ψ,(b∈mb∨w.heap.size≤b)∧b<w'.heap.size∧b ∉ φ)∧∀b∈mg,(b∈fp∨w.heap.size≤b)∧b ∉ tp∧b ∉ ψ
def Gj (P:Program) (g:Nat) (s:Sum) (t:TypeId) (cb:List CT):Prop:=
 (∃fn,P.funcs[g]? =some fn∧fn.body.isSome=true∧(fn.name== "runtime.NumGoroutine")=false)∧
 ∀(w:World) (ds:List DC) (vals:List Value) (fp:List Nat),cQ w s.ps ds vals fp→(s.fn ds).1=true→
  Calls P g vals.toArray w fun e w'=>∃(b:Nat) (us:List Value) (im:List Nat),e= .returned (.pointer (some ⟨b,0,none⟩))∧Kept Own.none w w'∧w.heap.size≤b∧b<w'.heap.size∧
   w'.heap[b]? =some (.cells us.toArray t (0,0))∧(∀x∈us,x.oneCell'=true)∧aS w' cb (s.fn ds).2 (fun j=>us[j]?) im∧us.length=cb.length∧∀x∈im,(x∈fp∨w.heap.size≤x)∧x≠b
def gw (P:Program) (g:Nat) (s:Sum):Prop:=
 bif s.Gl then True else
 match s.pt with
 | some (t,cb)=>Gj P g s t cb
 | none=>
  match s.ms with
  | []=>DA P g s
  | _::_=>BO P g s
def bt (P:Program) (Γ:Ctx):Prop:=∀g s,Fz Γ g=some s→gw P g s
section
variable {P:Program} {Γ:Ctx} {w0:World} {S:Own} {st:St} {o:Oper} {e:cB} {a:Act} {w:World}
variable {f:Nat→SV} {h:Nat→Option ai} {β:Env} {φ:Nat→List Nat} {tm:Array Value}
theorem lA (hc:Core w0 S f h β φ tm w):∀(ks:List AK) (ss:List SV) (vs:List Value) (q:List DC×eB),af w (Av h β) β ss vs→(i7 ks ss).val f h=some q→
  ∃fp,cQ w ks q.1 vs fp∧bP h q.2∧∀b∈fp,(¬Av h β b)∨∃x∈q.2,b∈ec h β x.1
 | [],[],vs,q,hs,hq=>by
  simp only[i7,M.aa,Option.some.injEq] at hq
  subst hq
  simp only[af] at hs
  exact⟨[],⟨rfl,hs,rfl⟩,by simp [bP],by simp⟩
 | [],_::_,vs,q,hs,hq=>by simp [i7] at hq
 | _::_,[],vs,q,hs,hq=>by simp [i7] at hq
 | k::ks,s::ss,vs,q,hs,hq=>by
  simp only[af] at hs
  obtain⟨v,l,rfl,h1,h2⟩:=hs
  simp only[i7,M.ae,Option.bind_eq_some_iff,M.aa,Option.some.injEq] at hq
  obtain⟨q1,aK,q2,cZ,rfl⟩:=hq
  obtain⟨iu,Fb,EX,kK⟩:=lA hc ks ss l q2 h2 cZ
  have one:∃la,E6 w k q1.1 v la∧bP h q1.2.1∧∀b∈la,(¬Av h β b)∨∃x∈q1.2.1,b∈ec h β x.1:=by
   cases hk:k.agg with
   | true=>
    cases s with
    | agg cs=>
     simp only[hk] at aK
     simp only[ak] at h1
     obtain⟨us,rfl,iw,bg⟩:=h1
     obtain⟨la,hr,hm,cA,_⟩:=dA hc k.cb cs us q1 iw aK
     have hl:=af.length _ _ iw
     have jH:=cn _ _ _ aK
     exact⟨la,⟨us,by rw[hk];rfl,bg,hr,by omega⟩,hm,cA⟩
    | _=>simp [hk] at aK
   | false=>
    have kP:(bT k.cb [s]).val f h=some q1:=by
     cases s<;>simp only[hk] at aK<;>first | exact aK | (simp at aK)
    have gM:af w (Av h β) β [s] [v]:=by simp only[af];exact⟨v,[],rfl,h1,rfl⟩
    obtain⟨la,hr,hm,cA,_⟩:=dA hc k.cb [s] [v] q1 gM kP
    have jH:=cn _ _ _ kP
    have bg:v.oneCell'=true:=by
     cases D5:k.cb with
     | nil=>rw[D5] at jH;simp at jH
     | cons c cs=>
      rw[D5] at hr
      simp only[aS] at hr
      obtain⟨d,r',v',f1,f2,_,h0,h3,_⟩:=hr
      simp at h0
      subst h0
      exact h3.one
    exact⟨la,⟨[v],by rw[hk];exact⟨rfl,bg⟩,by simpa using bg,hr,by simpa using jH⟩,hm,cA⟩
  obtain⟨la,FU,Fk,je⟩:=one
  refine⟨la++iu,⟨q1.1,q2.1,v,l,la,iu,rfl,rfl,FU,Fb,rfl⟩,eu Fk EX, ?_⟩
  intro b hb
  rcases List.mem_append.1 hb with hb | hb
  ·rcases je b hb with h3 | ⟨x,hx,h3⟩
   ·exact .inl h3
   ·exact .inr ⟨x,List.mem_append_left _ hx,h3⟩
  ·rcases kK b hb with h3 | ⟨x,hx,h3⟩
   ·exact .inl h3
   ·exact .inr ⟨x,List.mem_append_right _ hx,h3⟩
structure aw where
 id:Nat
 t:TypeId
 e:List CT
 rows:List (List DC)
 v:Value
 az:List (List Nat)
 ts:Option (List TypeId)
def aw.obj (x:aw):ai:=
 match x.ts with
 | none=> .row x.t x.e x.rows false true
 | some ts=> .deep x.t x.e ts x.rows none
def aw.bO (x:aw):List Nat:=x.v.ownBlock.toList++x.az.flatten
def aw.ao (x:aw):List Nat:=
 match x.ts with
 | none=>x.v.ownBlock.toList
 | some _=>x.bO
def aw.ok (w:World) (x:aw):Prop:=
 match x.ts with
 | none=>∃vals,bW w x.t x.e.length false x.v x.rows.length vals∧dC w x.e x.rows vals x.az
 | some ts=>∃vals,bW w x.t x.e.length false x.v x.rows.length vals∧bB w x.e ts x.rows vals (fun _=>none) x.az
theorem aw.aj (x:aw):∀b∈x.ao,b∈x.bO:=by
 intro b hb
 unfold aw.ao at hb
 split at hb
 ·exact List.mem_append_left _ hb
 ·exact hb
theorem aw.ir (x:aw) {β:Env} (hv:β.val x.id=x.v) (hn:β.nb x.id=x.az.flatten):Vm.ao β x.id x.obj=x.ao:=by
 unfold aw.obj aw.ao
 cases x.ts with
 | none=>simp [Vm.ao,hv]
 | some ts=>simp [Vm.ao,hv,hn,aw.bO]
theorem aw.ids (x:aw):bZ x.obj=[]:=by
 unfold aw.obj
 cases x.ts<;>rfl
theorem aw.IH {w:World} {x:aw} (h:x.ok w) {av:Nat→Prop} {β:Env} (hv:β.val x.id=x.v) (hn:β.nb x.id=x.az.flatten) (ha:∀b∈x.az.flatten,b ∉ x.ao→¬av b) (hd:x.bO.Nodup):fA w av β x.id x.obj x.bO:=by
 unfold aw.ok at h
 unfold aw.obj
 cases EZ:x.ts with
 | none=>
  rw[EZ] at h
  obtain⟨vals,h1,h2⟩:=h
  refine⟨vals,x.az,by rw[hv];exact h1,h2,fun b hb=>ha b hb ?_,by rw[hv];rfl⟩
  unfold aw.ao
  rw[EZ]
  intro ax
  unfold aw.bO at hd
  rw[List.nodup_append] at hd
  exact hd.2.2 b ax b hb rfl
 | some ts=>
  rw[EZ] at h
  obtain⟨vals,h1,h2⟩:=h
  exact⟨vals,x.az,by rw[hv];exact h1,h2,hn,by rw[hv];rfl⟩
def eX:List aw→Nat→Option aw
 | [],_=>none
 | x::l,i=>if i=x.id then some x else eX l i
theorem aU {N:List aw} {j:Nat} {x:aw} (h:eX N j=some x):x∈N∧x.id=j:=by
 induction N with
 | nil=>simp [eX] at h
 | cons y l ih=>
  simp only[eX] at h
  split at h
  ·rename_i hj
   injection h with h
   subst h
   exact⟨List.mem_cons_self ..,hj.symm⟩
  ·obtain⟨h1,h2⟩:=ih h
   exact⟨List.mem_cons_of_mem _ h1,h2⟩
theorem Bf {N:List aw} {x:aw} (hx:x∈N) (hn:(N.map (·.id)).Nodup):eX N x.id=some x:=by
 induction N with
 | nil=>simp at hx
 | cons y l ih=>
  simp only[List.map_cons,List.nodup_cons] at hn
  simp only[eX]
  rcases List.mem_cons.1 hx with rfl | hx
  ·simp
  ·have:x.id≠y.id:=fun e=>hn.1 (e ▸ List.mem_map_of_mem hx)
   rw[if_neg this]
   exact ih hx hn.2
def gh (N:List aw):List (Nat×Option ai):=N.map fun x=>(x.id,some x.obj)
theorem Ae (N:List aw) (l:List (Nat×Option ai)) (j:Nat):fo (gh N++l) h j=match eX N j with | some x=>some x.obj | none=>fo l h j:=by
 induction N with
 | nil=>rfl
 | cons y N ih=>
  simp only[gh,List.map_cons,List.cons_append,fo,ay,eX]
  split
  ·rfl
  ·exact ih
def Env.fu (β:Env) (N:List aw):Env:=⟨β.di,fun j=>match eX N j with | some x=>x.v | none=>β.val j,β.gr,fun j=>match eX N j with | some x=>x.az.flatten | none=>β.nb j⟩
theorem cD {N:List aw} (h:(N.flatMap aw.bO).Nodup):(∀x∈N,x.bO.Nodup)∧∀x∈N,∀y∈N,x≠y→∀b∈x.bO,b ∉ y.bO:=by
 induction N with
 | nil=>simp
 | cons z l ih=>
  rw[List.flatMap_cons,List.nodup_append] at h
  obtain⟨h1,h2,h3⟩:=h
  obtain⟨i1,i2⟩:=ih h2
  refine⟨fun x hx=> ?_,fun x hx y hy mO b hb ax=> ?_⟩
  ·rcases List.mem_cons.1 hx with rfl | hx
   ·exact h1
   ·exact i1 x hx
  ·rcases List.mem_cons.1 hx with Bc | Bc<;>rcases List.mem_cons.1 hy with Bd | Bd
   ·exact mO (Bc.trans Bd.symm)
   ·subst Bc
    exact h3 b hb b (List.mem_flatMap.2 ⟨y,Bd,ax⟩) rfl
   ·subst Bd
    exact h3 b ax b (List.mem_flatMap.2 ⟨x,Bc,hb⟩) rfl
   ·exact i2 x Bc y Bd mO b hb ax
theorem Core.E9 (hc:Core w0 S f h β φ tm w) {w':World} {N:List aw} (hs:w.heap.size≤w'.heap.size) (hw:∀b,b<w.heap.size→w'.heap[b]? =w.heap[b]?) (hk:w0.heap.size≤w.heap.size)
  (bo:∀x∈N,h x.id=none∧(∀i,x.id ∉ bH (f i))∧∀k o,h k=some o→x.id ∉ bZ o) (aF:∀x∈N,aw.ok w' x) (db:(N.map (·.id)).Nodup)
  (hnd:(N.flatMap aw.bO).Nodup) (lM:∀b∈N.flatMap aw.bO,w.heap.size≤b∧b<w'.heap.size):
  Core w0 S f (fun j=>match eX N j with | some x=>some x.obj | none=>h j) (β.fu N) (fun j=>match eX N j with | some x=>x.bO | none=>φ j) tm w':=by
 have dM:∀x∈N,∀b∈x.bO,b∈N.flatMap aw.bO:=fun x hx b hb=>List.mem_flatMap.2 ⟨x,hx,hb⟩
 have lh:∀j oj,eX N j=none→ao (β.fu N) j oj=ao β j oj:=by
  intro j oj hj
  cases oj<;>simp [ao,Env.fu,hj]
 have jl:∀j x,eX N j=some x→ao (β.fu N) j x.obj=x.ao:=by
  intro j x hj
  obtain⟨_,rfl⟩:=aU hj
  exact x.ir (by simp [Env.fu,hj]) (by simp [Env.fu,hj])
 have I2:∀b,Av (fun j=>match eX N j with | some x=>some x.obj | none=>h j) (β.fu N) b→Av h β b∨(w.heap.size≤b∧∃x∈N,b∈x.ao):=by
  rintro b (⟨j,oj,hj,bn⟩ | hb)
  case inr=>exact .inl (.inr hb)
  cases hl:eX N j with
  | none=>
   simp only[hl] at hj
   rw[lh j oj hl] at bn
   exact .inl (.inl ⟨j,oj,hj,bn⟩)
  | some x=>
   simp only[hl,Option.some.injEq] at hj
   subst hj
   rw[jl j x hl] at bn
   have hx:=(aU hl).1
   exact .inr ⟨(lM b (dM x hx b (x.aj b bn))).1,x,hx,bn⟩
 refine hc.mc (fun j=>(eX N j).isSome=true) hs (fun b hb _=>hw b hb) (fun b hb=>(I2 b hb).imp id (·.1)) ?_ ?_ ?_ ?_
 ·intro i j hj hx
  obtain⟨x,hx⟩:=Option.isSome_iff_exists.1 hx
  obtain⟨hm,rfl⟩:=aU hx
  exact (bo x hm).2.1 i hj
 ·intro j hj
  have:eX N j=none:=by simpa using hj
  simp [Env.fu,this]
 ·intro j oj hj
  cases hl:eX N j with
  | none=>
   simp only[hl] at hj
   refine .inl ⟨by simp [hl],hj,by simp [Env.fu,hl],by simp, ?_,fun b hb=>hw b ?_⟩
   ·intro i hi hx
    obtain⟨x,hx⟩:=Option.isSome_iff_exists.1 hx
    obtain⟨hm,rfl⟩:=aU hx
    exact (bo x hm).2.2 j oj hj hi
   ·exact ((hc.fresh j oj hj).2 b (aj (hc.aB j oj hj) b hb)).2
  | some x=>
   simp only[hl,Option.some.injEq] at hj
   subst hj
   obtain⟨hm,rfl⟩:=aU hl
   refine .inr ⟨aw.IH (aF x hm) (by simp [Env.fu,hl]) (by simp [Env.fu,hl]) ?_ ((cD hnd).1 x hm), ?_, ?_⟩
   ·intro b hb F5 hx
    have e_:b∈x.bO:=List.mem_append_right _ hb
    have D2:=(lM b (dM x hm b e_)).1
    rcases I2 b hx with BM | ⟨_,y,hy,AH⟩
    ·have:=hc.Hv hk BM
     omega
    ·by_cases mO:y=x
     ·subst mO
      exact F5 AH
     ·exact (cD hnd).2 y hy x hm mO b (y.aj b AH) e_
   ·exact (cD hnd).1 x hm
   ·intro b hb
    have:=lM b (dM x hm b hb)
    exact⟨.inl (by omega),this.2⟩
 ·intro i j oi oj cm hi hj b hb
  cases I3:eX N i with
  | none=>
   simp only[I3] at hi hb
   cases Dg:eX N j with
   | none=>
    simp only[Dg] at hj ⊢
    exact hc.sep i j oi oj cm hi hj b hb
   | some y=>
    simp only
    intro AH
    have:=(lM b (dM y (aU Dg).1 b AH)).1
    have:=((hc.fresh i oi hi).2 b hb).2
    omega
  | some x=>
   simp only[I3] at hi hb
   have Iw:=(aU I3).1
   cases Dg:eX N j with
   | none=>
    simp only[Dg] at hj ⊢
    intro bn
    have:=(lM b (dM x Iw b hb)).1
    have:=((hc.fresh j oj hj).2 b bn).2
    omega
   | some y=>
    simp only
    intro AH
    have Ja:=(aU Dg).1
    have mO:x≠y:=by
     rintro rfl
     exact cm ((aU I3).2.symm.trans (aU Dg).2)
    exact (cD hnd).2 x Iw y Ja mO b hb AH
structure fB where
 id:Nat
 obj:ai
 nb:List Nat
 bO:List Nat
def mo:List fB→Nat→Option fB
 | [],_=>none
 | x::l,i=>if i=x.id then some x else mo l i
theorem cI {U:List fB} {j:Nat} {x:fB} (h:mo U j=some x):x∈U∧x.id=j:=by
 induction U with
 | nil=>simp [mo] at h
 | cons y l ih=>
  simp only[mo] at h
  split at h
  ·rename_i hj
   injection h with h
   subst h
   exact⟨List.mem_cons_self ..,hj.symm⟩
  ·obtain⟨h1,h2⟩:=ih h
   exact⟨List.mem_cons_of_mem _ h1,h2⟩
theorem EB {U:List fB} {x:fB} (hx:x∈U):∃y,mo U x.id=some y:=by
 induction U with
 | nil=>simp at hx
 | cons y l ih=>
  simp only[mo]
  split
  ·exact⟨_,rfl⟩
  ·rename_i cm
   rcases List.mem_cons.1 hx with rfl | hx
   ·exact absurd rfl cm
   ·exact ih hx
theorem kF {U:List fB} (h:(U.flatMap fB.bO).Nodup):(∀x∈U,x.bO.Nodup)∧∀x∈U,∀y∈U,x.id≠y.id→∀b∈x.bO,b ∉ y.bO:=by
 induction U with
 | nil=>simp
 | cons z l ih=>
  rw[List.flatMap_cons,List.nodup_append] at h
  obtain⟨h1,h2,h3⟩:=h
  obtain⟨i1,i2⟩:=ih h2
  refine⟨fun x hx=> ?_,fun x hx y hy mO b hb ax=> ?_⟩
  ·rcases List.mem_cons.1 hx with rfl | hx
   ·exact h1
   ·exact i1 x hx
  ·rcases List.mem_cons.1 hx with Bc | Bc<;>rcases List.mem_cons.1 hy with Bd | Bd
   ·exact mO (by rw[Bc,Bd])
   ·subst Bc
    exact h3 b hb b (List.mem_flatMap.2 ⟨y,Bd,ax⟩) rfl
   ·subst Bd
    exact h3 b ax b (List.mem_flatMap.2 ⟨x,Bc,hb⟩) rfl
   ·exact i2 x Bc y Bd mO b hb ax
def Env.bS (β:Env) (N:List aw) (U:List fB):Env:=
 ⟨β.di,fun j=>match eX N j with | some x=>x.v | none=>β.val j,β.gr,fun j=>match eX N j with | some x=>x.az.flatten | none=>match mo U j with | some x=>x.nb | none=>β.nb j⟩
def kH (N:List aw) (U:List fB) (h:Nat→Option ai) (j:Nat):Option ai:=
 match eX N j with | some x=>some x.obj | none=>match mo U j with | some x=>some x.obj | none=>h j
def gx (N:List aw) (U:List fB) (φ:Nat→List Nat) (j:Nat):List Nat:=
 match eX N j with | some x=>x.bO | none=>match mo U j with | some x=>x.bO | none=>φ j
theorem Core.Jg (hc:Core w0 S f h β φ tm w) {w':World} {N:List aw} {U:List fB} {im mb:List Nat} (hs:w.heap.size≤w'.heap.size) (hk:w0.heap.size≤w.heap.size)
  (F2:∀b∈mb,∃x∈U,∃o,h x.id=some o∧b∈ao β x.id o)
  (hw:∀b,b<w.heap.size→b ∉ mb→w'.heap[b]? =w.heap[b]?)
  (hU:∀x∈U,(∃o,h x.id=some o)∧bZ x.obj=[])
  (Lh:∀x∈U,∀(av:Nat→Prop) (β':Env),β'.val x.id=β.val x.id→β'.di x.id=β.di x.id→β'.nb x.id=x.nb→(∀b∈im,¬av b)→fA w' av β' x.id x.obj x.bO)
  (Kx:(U.flatMap fB.bO).Nodup) (Gw:∀b∈U.flatMap fB.bO,(b∈mb∨w.heap.size≤b)∧b<w'.heap.size∧b ∉ N.flatMap aw.bO)
  (jS:∀b∈im,¬Av (kH N U h) (β.bS N U) b)
  (bo:∀x∈N,h x.id=none∧(∀i,x.id ∉ bH (f i))∧∀k o,h k=some o→x.id ∉ bZ o) (aF:∀x∈N,aw.ok w' x)
  (hnd:(N.flatMap aw.bO).Nodup) (lM:∀b∈N.flatMap aw.bO,w.heap.size≤b∧b<w'.heap.size):
  Core w0 S f (kH N U h) (β.bS N U) (gx N U φ) tm w':=by
 have dM:∀x∈N,∀b∈x.bO,b∈N.flatMap aw.bO:=fun x hx b hb=>List.mem_flatMap.2 ⟨x,hx,hb⟩
 have Ce:∀x∈U,∀b∈x.bO,b∈U.flatMap fB.bO:=fun x hx b hb=>List.mem_flatMap.2 ⟨x,hx,hb⟩
 have L6:∀x∈U,eX N x.id=none:=by
  intro x hx
  cases hl:eX N x.id with
  | none=>rfl
  | some y=>
   obtain⟨hm,he⟩:=aU hl
   obtain⟨⟨o,ho⟩,_⟩:=hU x hx
   have:=(bo y hm).1
   rw[he,ho] at this
   cases this
 have lh:∀j oj,eX N j=none→mo U j=none→ao (β.bS N U) j oj=ao β j oj:=by
  intro j oj hj hu
  cases oj<;>simp [ao,Env.bS,hj,hu]
 have jl:∀j x,eX N j=some x→ao (β.bS N U) j x.obj=x.ao:=by
  intro j x hj
  obtain⟨_,rfl⟩:=aU hj
  exact x.ir (by simp [Env.bS,hj]) (by simp [Env.bS,hj])
 have Eh:∀j x,eX N j=none→mo U j=some x→fA w' (Av (kH N U h) (β.bS N U)) (β.bS N U) j x.obj x.bO:=by
  intro j x hl hu
  obtain⟨hm,rfl⟩:=cI hu
  exact Lh x hm _ _ (by simp [Env.bS,hl]) rfl (by simp [Env.bS,hl,hu]) jS
 have Ed:∀b∈mb,Av h β b:=by
  intro b hb
  obtain⟨x,_,o,ho,HK⟩:=F2 b hb
  exact .inl ⟨x.id,o,ho,HK⟩
 have I2:∀b,Av (kH N U h) (β.bS N U) b→Av h β b∨w.heap.size≤b:=by
  rintro b (⟨j,oj,hj,bn⟩ | hb)
  case inr=>exact .inl (.inr hb)
  unfold kH at hj
  cases hl:eX N j with
  | none=>
   simp only[hl] at hj
   cases hu:mo U j with
   | none=>
    simp only[hu] at hj
    rw[lh j oj hl hu] at bn
    exact .inl (.inl ⟨j,oj,hj,bn⟩)
   | some x=>
    simp only[hu,Option.some.injEq] at hj
    subst hj
    have h1:=Vm.aj (Eh j x hl hu) b bn
    rcases (Gw b (Ce x (cI hu).1 b h1)).1 with h2 | h2
    ·exact .inl (Ed b h2)
    ·exact .inr h2
  | some x=>
   simp only[hl,Option.some.injEq] at hj
   subst hj
   rw[jl j x hl] at bn
   have hx:=(aU hl).1
   exact .inr (lM b (dM x hx b (x.aj b bn))).1
 have Hd:∀j oj,h j=some oj→(∀x∈U,x.id≠j)→∀b∈φ j,b ∉ mb:=by
  intro j oj hj cm b hb HJ
  obtain⟨x,hx,o,ho,HK⟩:=F2 b HJ
  exact hc.sep x.id j o oj (cm x hx) ho hj b (Vm.aj (hc.aB _ _ ho) b HK) hb
 have Ko:∀j,mo U j=none→∀x∈U,x.id≠j:=by
  intro j hu x hx he
  obtain⟨y,hy⟩:=EB hx
  rw[he,hu] at hy
  cases hy
 refine hc.mc (fun j=>(eX N j).isSome=true) hs ?_ I2 ?_ ?_ ?_ ?_
 ·intro b hb hn
  exact hw b hb (fun HJ=>hn (Ed b HJ))
 ·intro i j hj hx
  obtain⟨x,hx⟩:=Option.isSome_iff_exists.1 hx
  obtain⟨hm,rfl⟩:=aU hx
  exact (bo x hm).2.1 i hj
 ·intro j hj
  have:eX N j=none:=by simpa using hj
  simp [Env.bS,this]
 ·intro j oj hj
  unfold kH at hj
  cases hl:eX N j with
  | none=>
   simp only[hl] at hj
   cases hu:mo U j with
   | none=>
    simp only[hu] at hj
    refine .inl ⟨by simp [hl],hj,by simp [Env.bS,hl,hu],by simp [gx,hl,hu], ?_,fun b hb=> ?_⟩
    ·intro i hi hx
     obtain⟨x,hx⟩:=Option.isSome_iff_exists.1 hx
     obtain⟨hm,rfl⟩:=aU hx
     exact (bo x hm).2.2 j oj hj hi
    ·have e_:=Vm.aj (hc.aB j oj hj) b hb
     exact hw b ((hc.fresh j oj hj).2 b e_).2 (Hd j oj hj (Ko j hu) b e_)
   | some x=>
    simp only[hu,Option.some.injEq] at hj
    subst hj
    have hm:=(cI hu).1
    refine .inr ⟨by simpa only[gx,hl,hu] using Eh j x hl hu,by simpa only[gx,hl,hu] using (kF Kx).1 x hm, ?_⟩
    simp only[gx,hl,hu]
    intro b hb
    obtain⟨h1,h2,_⟩:=Gw b (Ce x hm b hb)
    refine⟨?_,h2⟩
    rcases h1 with h1 | h1
    ·obtain⟨y,_,o,ho,HK⟩:=F2 b h1
     exact ((hc.fresh _ _ ho).2 b (Vm.aj (hc.aB _ _ ho) b HK)).1
    ·exact .inl (by omega)
  | some x=>
   simp only[hl,Option.some.injEq] at hj
   subst hj
   obtain⟨hm,rfl⟩:=aU hl
   refine .inr ⟨?_, ?_, ?_⟩
   ·simp only[gx,hl]
    refine aw.IH (aF x hm) (by simp [Env.bS,hl]) (by simp [Env.bS,hl]) ?_ ((cD hnd).1 x hm)
    rintro b hb F5 hx
    have e_:b∈x.bO:=List.mem_append_right _ hb
    have Ky:=dM x hm b e_
    have D2:=(lM b Ky).1
    rcases hx with ⟨j,oj,hj,bn⟩ | fl
    case inr=>
     have:=(hc.gr b fl).1
     omega
    unfold kH at hj
    cases Dg:eX N j with
    | some y=>
     simp only[Dg,Option.some.injEq] at hj
     subst hj
     rw[jl j y Dg] at bn
     have hy:=(aU Dg).1
     by_cases mO:y=x
     ·subst mO
      exact F5 bn
     ·exact (cD hnd).2 y hy x hm mO b (y.aj b bn) e_
    | none=>
     simp only[Dg] at hj
     cases hu:mo U j with
     | some y=>
      simp only[hu,Option.some.injEq] at hj
      subst hj
      have h1:=Vm.aj (Eh j y Dg hu) b bn
      exact (Gw b (Ce y (cI hu).1 b h1)).2.2 Ky
     | none=>
      simp only[hu] at hj
      rw[lh j oj Dg hu] at bn
      have:=((hc.fresh j oj hj).2 b (Vm.aj (hc.aB j oj hj) b bn)).2
      omega
   ·simp only[gx,hl]
    exact (cD hnd).1 x hm
   ·simp only[gx,hl]
    intro b hb
    have:=lM b (dM x hm b hb)
    exact⟨.inl (by omega),this.2⟩
 ·
  have kinds:∀j oj,kH N U h j=some oj→∀b∈gx N U φ j,
    (∃x,eX N j=some x∧b∈x.bO)∨(∃x,eX N j=none∧mo U j=some x∧b∈x.bO)∨(eX N j=none∧mo U j=none∧h j=some oj∧b∈φ j):=by
   intro j oj hj b hb
   unfold kH at hj
   unfold gx at hb
   cases hl:eX N j with
   | some x=>simp only[hl] at hb;exact .inl ⟨x,rfl,hb⟩
   | none=>
    simp only[hl] at hj hb
    cases hu:mo U j with
    | some x=>simp only[hu] at hb;exact .inr (.inl ⟨x,rfl,rfl,hb⟩)
    | none=>simp only[hu] at hj hb;exact .inr (.inr ⟨rfl,rfl,hj,hb⟩)
  intro i j oi oj cm hi hj b hb ax
  rcases kinds i oi hi b hb with ⟨x,hx,bx⟩ | ⟨x,_,hx,bx⟩ | ⟨_,LW,hx,bx⟩<;>rcases kinds j oj hj b ax with ⟨y,hy,Dt⟩ | ⟨y,_,hy,Dt⟩ | ⟨_,LX,hy,Dt⟩
  ·refine (cD hnd).2 x (aU hx).1 y (aU hy).1 ?_ b bx Dt
   rintro rfl
   exact cm ((aU hx).2.symm.trans (aU hy).2)
  ·exact (Gw b (Ce y (cI hy).1 b Dt)).2.2 (dM x (aU hx).1 b bx)
  ·have:=(lM b (dM x (aU hx).1 b bx)).1
   have:=((hc.fresh j oj hy).2 b Dt).2
   omega
  ·exact (Gw b (Ce x (cI hx).1 b bx)).2.2 (dM y (aU hy).1 b Dt)
  ·refine (kF Kx).2 x (cI hx).1 y (cI hy).1 ?_ b bx Dt
   rw[(cI hx).2,(cI hy).2]
   exact cm
  ·rcases (Gw b (Ce x (cI hx).1 b bx)).1 with h1 | h1
   ·exact Hd j oj hy (Ko j LX) b Dt h1
   ·have:=((hc.fresh j oj hy).2 b Dt).2
    omega
  ·have:=(lM b (dM y (aU hy).1 b Dt)).1
   have:=((hc.fresh i oi hx).2 b bx).2
   omega
  ·rcases (Gw b (Ce y (cI hy).1 b Dt)).1 with h1 | h1
   ·exact Hd i oi hx (Ko i LW) b bx h1
   ·have:=((hc.fresh i oi hx).2 b bx).2
    omega
  ·exact hc.sep i j oi oj cm hx hy b bx Dt
end
end Go.Proofs.YtngbcccnjiaddaaGreat.Vm
namespace Go.Proofs.YtngbcccnjiaddaaGreat.Vm
section
variable {P:Program} {Γ:Ctx} {w0:World} {S:Own} {st:St} {o:Oper} {e:cB} {a:Act} {w:World}
variable {f:Nat→SV} {h:Nat→Option ai} {β:Env} {φ:Nat→List Nat} {tm:Array Value}
theorem cO.length {w:World} :∀(Co:List RC) (ds:List DC) (vs:List Value) (φ im tp:List Nat),cO w Co ds vs φ im tp→ds.length=Co.length
 | [],ds,vs,φ,im,tp,h=>by simp only[cO] at h;simp [h.1]
 | .dQ c::cs,ds,vs,φ,im,tp,h=>by
  simp only[cO] at h
  obtain⟨d,aW,v,cx,f1,Ep,rfl,_,_,h1,_⟩:=h
  simp [cO.length cs aW cx _ _ _ h1]
 | .own t e::cs,ds,vs,φ,im,tp,h=>by
  simp only[cO] at h
  obtain⟨rows,aW,v,cx,vals,az,φ',AF,rfl,_,_,_,h1,_⟩:=h
  simp [cO.length cs aW cx _ _ _ h1]
 | .deep t e ts::cs,ds,vs,φ,im,tp,h=>by
  simp only[cO] at h
  obtain⟨rows,aW,v,cx,vals,aN,φ',AF,rfl,_,_,_,h1,_⟩:=h
  simp [cO.length cs aW cx _ _ _ h1]
theorem fi {w':World} {d:Nat} :∀(Co:List RC) (k:Nat) (ds:List DC) (vs:List Value) (φ im tp:List Nat),cO w' Co ds vs φ im tp→
  ∃N:List aw,(bU d k Co ds).2=gh N∧N.map (·.id)=(List.range' k (cV Co)).map (ag d)∧(∀x∈N,x.ok w')∧N.flatMap aw.bO=φ∧N.flatMap aw.ao=tp∧
   ∀(av:Nat→Prop) (β':Env),(∀x∈N,β'.val x.id=x.v)→(∀b∈im,¬av b)→af w' av β' (bU d k Co ds).1 vs
 | [],k,ds,vs,φ,im,tp,h=>by
  simp only[cO] at h
  obtain⟨rfl,rfl,rfl,rfl,rfl⟩:=h
  exact⟨[],rfl,rfl,by simp,rfl,rfl,by simp [bU,af]⟩
 | .dQ c::cs,k,ds,vs,φ,im,tp,h=>by
  simp only[cO] at h
  obtain⟨x,aW,v,cx,f1,Ep,rfl,rfl,h1,h2,rfl⟩:=h
  obtain⟨N,e1,e2,e3,e4,e5,e6⟩:=fi cs k aW cx φ Ep tp h2
  refine⟨N,by simpa [bU] using e1,by simpa [cV] using e2,e3,e4,e5,fun av β' fS cA=> ?_⟩
  simp only[bU,List.headD_cons,List.tail_cons,af]
  exact⟨v,cx,rfl,ew h1 (fun b hb=>cA b (List.mem_append_left _ hb)),e6 av β' fS (fun b hb=>cA b (List.mem_append_right _ hb))⟩
 | .own t e::cs,k,ds,vs,φ,im,tp,h=>by
  simp only[cO] at h
  obtain⟨rows,aW,v,cx,vals,az,φ',AF,rfl,rfl,h1,h2,h3,rfl,rfl⟩:=h
  obtain⟨N,e1,e2,e3,e4,e5,e6⟩:=fi cs (k+1) aW cx φ' im AF h3
  refine⟨⟨ag d k,t,e,rows,v,az,none⟩::N, ?_, ?_, ?_, ?_, ?_,fun av β' fS cA=> ?_⟩
  ·simp [bU,gh,aw.obj,DC.cX] at e1 ⊢
   exact e1
  ·simp only[List.map_cons,cV,List.range'_succ,e2]
  ·intro x hx
   rcases List.mem_cons.1 hx with rfl | hx
   ·exact⟨vals,h1,h2⟩
   ·exact e3 x hx
  ·simp [List.flatMap_cons,e4,aw.bO]
  ·simp [List.flatMap_cons,e5,aw.ao]
  ·simp only[bU,List.headD_cons,List.tail_cons,af]
   refine⟨v,cx,rfl, ?_,e6 av β' (fun x hx=>fS x (List.mem_cons_of_mem _ hx)) cA⟩
   simp only[ak]
   exact⟨(fS _ (List.mem_cons_self ..)).symm,h1.one⟩
 | .deep t e ts::cs,k,ds,vs,φ,im,tp,h=>by
  simp only[cO] at h
  obtain⟨rows,aW,v,cx,vals,aN,φ',AF,rfl,rfl,h1,h2,h3,rfl,rfl⟩:=h
  obtain⟨N,e1,e2,e3,e4,e5,e6⟩:=fi cs (k+1) aW cx φ' im AF h3
  refine⟨⟨ag d k,t,e,rows,v,aN,some ts⟩::N, ?_, ?_, ?_, ?_, ?_,fun av β' fS cA=> ?_⟩
  ·simp [bU,gh,aw.obj,DC.cX] at e1 ⊢
   exact e1
  ·simp only[List.map_cons,cV,List.range'_succ,e2]
  ·intro x hx
   rcases List.mem_cons.1 hx with rfl | hx
   ·exact⟨vals,h1,h2⟩
   ·exact e3 x hx
  ·simp [List.flatMap_cons,e4,aw.bO]
  ·simp [List.flatMap_cons,e5,aw.ao,aw.bO]
  ·simp only[bU,List.headD_cons,List.tail_cons,af]
   refine⟨v,cx,rfl, ?_,e6 av β' (fun x hx=>fS x (List.mem_cons_of_mem _ hx)) cA⟩
   simp only[ak]
   exact⟨(fS _ (List.mem_cons_self ..)).symm,h1.one⟩
theorem iU {w':World} {d:Nat} :∀(Bm:List RK) (k:Nat) (ds:List DC) (vs:List Value) (φ im tp:List Nat),eF w' Bm ds vs φ im tp→
  ∃N:List aw,(aZ d k Bm ds).2=gh N∧N.map (·.id)=(List.range' k (du Bm)).map (ag d)∧(∀x∈N,x.ok w')∧N.flatMap aw.bO=φ∧N.flatMap aw.ao=tp∧
   ∀(av:Nat→Prop) (β':Env),(∀x∈N,β'.val x.id=x.v)→(∀b∈im,¬av b)→af w' av β' (aZ d k Bm ds).1 vs
 | [],k,ds,vs,φ,im,tp,h=>by
  simp only[eF] at h
  obtain⟨rfl,rfl,rfl,rfl,rfl⟩:=h
  exact⟨[],rfl,rfl,by simp,rfl,rfl,by simp [aZ,af]⟩
 | r::rs,k,ds,vs,φ,im,tp,h=>by
  simp only[eF] at h
  obtain⟨d1,d2,v,cx,us,Ds,AG,i1,i2,t1,t2,rfl,rfl,hv,bg,h1,h2,rfl,rfl,rfl⟩:=h
  have hl:=cO.length _ _ _ _ _ _ h1
  obtain⟨N1,a1,a2,a3,a4,a5,a6⟩:=fi (d:=d) r.cells k d1 us Ds i1 t1 h1
  obtain⟨N2,b1,b2,b3,b4,b5,b6⟩:=iU (d:=d) rs (k+cV r.cells) d2 cx AG i2 t2 h2
  have ht:(d1++d2).take r.cells.length=d1:=by rw[←hl];simp
  have B1:(d1++d2).drop r.cells.length=d2:=by rw[←hl];simp
  refine⟨N1++N2, ?_, ?_, ?_,by simp [a4,b4],by simp [a5,b5],fun av β' fS cA=> ?_⟩
  ·simp only[aZ,ht,B1,a1,b1,gh,List.map_append]
  ·rw[List.map_append,a2,b2,←List.map_append,List.range'_append_1]
   rfl
  ·intro x hx
   rcases List.mem_append.1 hx with hx | hx
   ·exact a3 x hx
   ·exact b3 x hx
  ·have s1:=a6 av β' (fun x hx=>fS x (List.mem_append_left _ hx)) (fun b hb=>cA b (List.mem_append_left _ hb))
   have s2:=b6 av β' (fun x hx=>fS x (List.mem_append_right _ hx)) (fun b hb=>cA b (List.mem_append_right _ hb))
   simp only[aZ,ht,B1,af]
   refine⟨v,cx,rfl, ?_,s2⟩
   cases HE:r.agg with
   | true=>
    rw[HE,cond_true] at hv
    subst hv
    simp only[cond_true,ak]
    exact⟨us,rfl,s1,bg⟩
   | false=>
    rw[HE,cond_false] at hv
    subst hv
    simp only[cond_false]
    generalize (bU d k r.cells d1).1=q at s1
    cases q with
    | nil=>simp [af] at s1
    | cons y l=>
     simp only[af] at s1
     obtain⟨v',l',e1,e2,_⟩:=s1
     injection e1 with e1
     subst e1
     simpa using e2
theorem cQ.lt {w:World} :∀(ks:List AK) (ds:List DC) (vs:List Value) (fp:List Nat),cQ w ks ds vs fp→∀b∈fp,b<w.heap.size
 | [],ds,vs,fp,h=>by simp only[cQ] at h;simp [h.2.2]
 | k::ks,ds,vs,fp,h=>by
  simp only[cQ] at h
  obtain⟨d1,d2,v,cx,f1,f2,rfl,rfl,⟨us,_,_,hr,_⟩,h2,rfl⟩:=h
  intro b hb
  rcases List.mem_append.1 hb with hb | hb
  ·exact aS.lt _ _ _ _ hr b hb
  ·exact cQ.lt ks d2 cx f2 h2 b hb
theorem cO.jr {w:World} :∀(Co:List RC) (ds:List DC) (vs:List Value) (φ im tp:List Nat),gP Co=false→cO w Co ds vs φ im tp→im=[]
 | [],ds,vs,φ,im,tp,_,h=>by simp only[cO] at h;exact h.2.2.2.1
 | .dQ c::cs,ds,vs,φ,im,tp,hn,h=>by
  simp only[cO] at h
  obtain⟨d,aW,v,cx,f1,Ep,rfl,_,h1,h2,rfl⟩:=h
  have:f1=[]∧gP cs=false:=by
   cases c with
   | int k=>simp only[bQ] at h1;obtain⟨n,_,_,_,e⟩:=h1;exact⟨e,by simpa [gP] using hn⟩
   | bool=>simp only[bQ] at h1;obtain⟨n,_,_,e⟩:=h1;exact⟨e,by simpa [gP] using hn⟩
   | str=>simp only[bQ] at h1;obtain⟨n,_,_,_,e⟩:=h1;exact⟨e,by simpa [gP] using hn⟩
   | sl e=>simp [gP] at hn
  rw[this.1,cO.jr cs aW cx _ _ _ this.2 h2]
  rfl
 | .own t e::cs,ds,vs,φ,im,tp,hn,h=>by
  simp only[cO] at h
  obtain⟨rows,aW,v,cx,vals,az,φ',AF,rfl,_,_,_,h1,_⟩:=h
  exact cO.jr cs aW cx _ _ _ (by simpa [gP] using hn) h1
 | .deep t e ts::cs,ds,vs,φ,im,tp,hn,h=>by
  simp only[cO] at h
  obtain⟨rows,aW,v,cx,vals,aN,φ',AF,rfl,_,_,_,h1,_⟩:=h
  exact cO.jr cs aW cx _ _ _ (by simpa [gP] using hn) h1
theorem eF.jr {w:World} :∀(Bm:List RK) (ds:List DC) (vs:List Value) (φ im tp:List Nat),(Bm.any fun r=>gP r.cells)=false→eF w Bm ds vs φ im tp→im=[]
 | [],ds,vs,φ,im,tp,_,h=>by simp only[eF] at h;exact h.2.2.2.1
 | r::rs,ds,vs,φ,im,tp,hn,h=>by
  simp only[eF] at h
  obtain⟨d1,d2,v,cx,us,Ds,AG,i1,i2,t1,t2,rfl,rfl,_,_,h1,h2,_,rfl,_⟩:=h
  simp only[List.any_cons,Bool.or_eq_false_iff] at hn
  rw[cO.jr _ _ _ _ _ _ hn.1 h1,eF.jr rs d2 cx _ _ _ hn.2 h2]
  rfl
theorem Aa (hc:Core w0 S st.get st.obj β φ a.tmps w):∀(xs:List Operand) (ss:List SV),(Dc xs).val st.get st.obj=some ss→af w (Av st.obj β) β ss (xs.map a.eval)
 | [],ss,h=>by simp [Dc] at h;subst h;simp [af]
 | x::xs,ss,h=>by
  simp only[Dc,M.ae,Option.bind_eq_some_iff,M.aa,Option.some.injEq] at h
  obtain⟨s,h1,r,h2,rfl⟩:=h
  simp only[List.map_cons,af]
  exact⟨_,_,rfl,hc.ev h1,Aa hc xs r h2⟩
theorem Bo {c:Call} {g:Nat} {fn:Func} (ho:o.op= .call c) (hg:c.callee= .value (.func g)) (hf:P.funcs[g]? =some fn) (hb:fn.body.isSome=true) (hn:(fn.name== "runtime.NumGoroutine")=false):
  (execOp a.eval o).run P w= .ok (.enter g (c.args.map a.eval)) w:=by
 have ax:fn.body.isNone=false:=by cases h:fn.body<;>simp_all
 simp only[execOp,ho,resolve,hg,Act.eval,Deferred.ofValue,Sem.run_bind,Sem.run_pure,Result.andThen_ok,invoke,callFunc,run_program,hf,hn,ax,Bool.false_eq_true,if_false]
 simp
theorem Cw (d_:bt P Γ) {s:Sum} {g:Nat} (hs:Fz Γ g=some s) (eI:s.Gl=false) (F6:s.pt=none) (I4:s.ms=[]) (hR:Rel w0 S st a w) {d:Nat} (aJ:o.dst=some d) (hd:ba st.n d) (bI:e.ow≠[]→bC st d) {c:Call} (ho:o.op= .call c) (hg:c.callee= .value (.func g)) {l:List SV}
  (hl:(Dc c.args.toList).val st.get st.obj=some l) (he:(kf Γ (some d) g l).val st.get st.obj=some e) (aF:e.ok=true):Good P w0 S st o e a w:=by
 unfold kf at he
 rw[hs] at he
 simp only[eI,cond_false,F6,I4] at he
 cases Gv:Nat.blt (du s.rs) 64
 ·simp [Gv] at he
 simp only[Gv,cond_true,M.ae,Option.bind_eq_some_iff] at he
 obtain⟨r,hr,he⟩:=he
 cases Is:(!(shares s) || aI r.2)
 ·simp [Is] at he
 simp only[Is,cond_true,M.aa,Option.some.injEq] at he
 subst he
 have Gv:du s.rs<64:=Nat.le_of_ble_eq_true Gv
 have hH:DA P g s:=by have h0:=d_ g s hs;unfold gw at h0;rw[eI,cond_false,F6] at h0;simp only[I4] at h0;exact h0
 obtain⟨⟨fn,hf,hb,hn⟩,BX⟩:=hH
 obtain⟨β,φ,hc⟩:=hR.core
 obtain⟨fp,cv,iK,kM⟩:=lA hc s.ps l _ r (Aa hc _ l hl) hr
 have KA:=cQ.lt _ _ _ _ cv
 intro Q
 unfold Oper.wp
 rw[Bo ho hg hf hb hn,Oper.upon_enter]
 have En:c.args.map a.eval=(c.args.toList.map a.eval).toArray:=by rw[←Array.toList_map,Array.toArray_toList]
 rw[En]
 refine (BX w r.1 _ fp cv aF).mono ?_
 rintro _ w' ⟨vs,Kr,im,tp,rfl,hk,Ak,hnd,lM,jS⟩
 obtain⟨N,n1,n2,n3,n4,n5,n6⟩:=iU (d:=d) s.rs 0 _ vs Kr im tp Ak
 let M':eB:=bif shares s then r.2 else []
 have hM:bP st.obj M'∧aI M'=true:=by
  cases Al:shares s with
  | true=>
   have:M'=r.2:=by simp [M',Al]
   rw[this]
   exact⟨iK,by simpa [Al] using Is⟩
  | false=>
   have:M'=[]:=by simp [M',Al]
   rw[this]
   exact⟨by simp [bP],rfl⟩
 have hfz:(bif shares s then ah r.2 else [])=ah M':=by cases Al:shares s<;>simp [M',Al,ah]
 have jg:=hc.fW M' hM.1 hM.2
 have B5:∀x∈N,x.id / 64=d∧x.id∈N.map (·.id):=by
  intro x hx
  have hm:x.id∈N.map (·.id):=List.mem_map_of_mem hx
  refine⟨?_,hm⟩
  rw[n2] at hm
  obtain⟨j,hj,fJ⟩:=List.mem_map.1 hm
  rw[←fJ]
  have:=List.mem_range'_1.1 hj
  exact cy d j (by omega)
 have B4:(N.map (·.id)).Nodup:=by
  rw[n2]
  refine List.Pairwise.map _ ?_ (List.nodup_range' ..)
  intro x y mO e
  unfold ag at e
  omega
 have hle:=hR.kept.size
 have hw:∀b,b<w.heap.size→w'.heap[b]? =w.heap[b]? :=fun b hb=>hk.block b hb (fun h=>h)
 have Js:=jg.E9 (N:=N) hk.size hw hle ?_ n3 B4 (by rw[n4];exact hnd) (by rw[n4];exact lM)
 ·have hval:∀x∈N,(β.fu N).val x.id=x.v:=by
   intro x hx
   simp [Env.fu,Bf hx B4]
  have D_:∀b∈im,¬Av (fun j=>match eX N j with | some x=>some x.obj | none=>fo (ah M') st.obj j) (β.fu N) b:=by
   rintro b hb (⟨j,oj,hj,bn⟩ | fl)
   case inr=>
    have EV:=jS b hb
    have Lm:=(jg.gr b fl).1
    rcases EV.1 with B3 | D2
    ·cases Al:shares s with
     | false=>
      have:im=[]:=eF.jr _ _ _ _ _ _ (by simpa [shares] using Al) Ak
      rw[this] at hb
      simp at hb
     | true=>
      have Jn:M'=r.2:=by simp [M',Al]
      rcases kM b B3 with h3 | ⟨x,hx,jR⟩
      ·exact h3 (.inr fl)
      ·exact c_ hc hM.1 (by rw[Jn];exact hx) jR (.inr fl)
    ·omega
   have EV:=jS b hb
   cases iW:eX N j with
   | some x=>
    simp only[iW,Option.some.injEq] at hj
    subst hj
    have hx:=(aU iW).1
    refine EV.2 ?_
    rw[←n5]
    refine List.mem_flatMap.2 ⟨x,hx, ?_⟩
    obtain⟨_,rfl⟩:=aU iW
    rwa [x.ir (by simp [Env.fu,iW]) (by simp [Env.fu,iW])] at bn
   | none=>
    simp only[iW] at hj
    have BW:b∈ao β j oj:=by
     cases oj<;>simp only[ao,Env.fu,iW] at bn ⊢ <;>exact bn
    have Jq:=((jg.fresh j oj hj).2 b (aj (jg.aB j oj hj) b BW)).2
    rcases EV.1 with B3 | D2
    ·cases Al:shares s with
     | false=>
      have:im=[]:=eF.jr _ _ _ _ _ _ (by simpa [shares] using Al) Ak
      rw[this] at hb
      simp at hb
     | true=>
      have Jn:M'=r.2:=by simp [M',Al]
      rcases kM b B3 with h3 | ⟨x,hx,jR⟩
      ·exact h3 (fE (.inl ⟨j,oj,hj,BW⟩))
      ·exact c_ hc hM.1 (by rw[Jn];exact hx) jR (.inl ⟨j,oj,hj,BW⟩)
    ·omega
  have d8:=n6 _ (β.fu N) hval D_
  have B6:Kept S w0 w':=⟨hk.os.trans hR.kept.os,hk.tape.trans hR.kept.tape,hk.output.trans hR.kept.output,by have:=hk.size;omega,fun k h1 h2=>(hw k (by omega)).trans (hR.kept.block k h1 h2)⟩
  refine⟨pack vs,rfl,ie hR (fun d' h'=>by rw[aJ] at h';injection h' with h';exact h' ▸ hd) B6 ⟨β.fu N,fun j=>match eX N j with | some x=>x.bO | none=>bf φ M' j, ?_, ?_⟩⟩
  ·have:fo ((aZ d 0 s.rs (s.fn r.1).2).2++(bif shares s then ah r.2 else [])) (fc none st.obj)=fun j=>match eX N j with | some x=>some x.obj | none=>fo (ah M') st.obj j:=by
    funext j
    rw[n1,hfz,Ae]
    rfl
   show Core w0 S st.get (fo ((aZ d 0 s.rs (s.fn r.1).2).2++(bif shares s then ah r.2 else [])) (fc none st.obj)) _ _ _ _
   rw[this]
   exact Js
  ·have:fo ((aZ d 0 s.rs (s.fn r.1).2).2++(bif shares s then ah r.2 else [])) (fc none st.obj)=fun j=>match eX N j with | some x=>some x.obj | none=>fo (ah M') st.obj j:=by
    funext j
    rw[n1,hfz,Ae]
    rfl
   show ak w' (Av (fo ((aZ d 0 s.rs (s.fn r.1).2).2++(bif shares s then ah r.2 else [])) (fc none st.obj)) (β.fu N)) (β.fu N) (gW (aZ d 0 s.rs (s.fn r.1).2).1) (pack vs)
   rw[this]
   generalize (aZ d 0 s.rs (s.fn r.1).2).1=q at d8
   match q,vs,d8 with
   | [],vs,d8=>
    simp only[af] at d8
    subst d8
    simp only[gW,pack,ak]
    exact⟨[],rfl,by simp [af]⟩
   | [x],vs,d8=>
    simp only[af] at d8
    obtain⟨v,l',rfl,h1,rfl⟩:=d8
    exact h1
   | x::y::q,vs,d8=>
    have Ek:=d8
    simp only[af] at d8
    obtain⟨v,l',rfl,h1,v2,l2,rfl,h2,h3⟩:=d8
    simp only[gW,pack]
    unfold ak
    exact⟨v::v2::l2,rfl,Ek⟩
 ·intro x hx
  have h1:=(B5 x hx).1
  have bI:=bI (by
   show (aZ d 0 s.rs (s.fn r.1).2).2++_≠[]
   rw[n1]
   intro h0
   rw[List.append_eq_nil_iff] at h0
   have:N=[]:=by simpa [gh] using h0.1
   rw[this] at hx
   simp at hx)
  refine⟨?_,fun i hi=>bI.slot i _ hi h1,fun k ok B6 hi=> ?_⟩
  ·cases hn:fo (ah M') st.obj x.id with
   | none=>rfl
   | some ob=>
    rcases cY hn with h2 | ⟨e',r',rfl,y,hy,h2⟩
    ·exact absurd h1 (bI.obj _ ob h2).1
    ·obtain⟨_,h3,_⟩:=hM.1 y hy
     rw[h2] at h3
     exact absurd h1 (bI.obj _ _ h3).1
  ·rcases cY B6 with h2 | ⟨e',r',rfl,_⟩
   ·exact (bI.obj k ok h2).2 _ hi h1
   ·simp [bZ] at hi
end
end Go.Proofs.YtngbcccnjiaddaaGreat.Vm
set_option linter.unusedVariables false
set_option linter.unusedSimpArgs false
namespace Go.Proofs.YtngbcccnjiaddaaGreat.Vm
section
variable {P:Program} {Γ:Ctx} {w0:World} {S:Own} {st:St} {o:Oper} {e:cB} {a:Act} {w:World}
variable {f:Nat→SV} {h:Nat→Option ai} {β:Env} {φ:Nat→List Nat} {tm:Array Value}
def aL (β:Env):MU→List Nat
 | .box id _ _=>[β.di id]
 | .row id _ _ _=>(β.val id).ownBlock.toList
 | .deep id _ _ _=>(β.val id).ownBlock.toList++β.nb id
 | .BN=>[]
def eZ (h:Nat→Option ai):List MU→Prop
 | []=>True
 | .box id t cs::l=>(∃cells,h id=some (.box t cells))∧eZ h l
 | .row id t e u::l=>(al e=true∧∃rows,h id=some (.row t e rows false u))∧eZ h l
 | .deep id t e ts::l=>(∃rows,h id=some (.deep t e ts rows none))∧eZ h l
 | .BN::l=>eZ h l
theorem eZ.append {U V:List MU} (hu:eZ h U) (hv:eZ h V):eZ h (U++V):=by
 induction U with
 | nil=>exact hv
 | cons x l ih=>
  cases x<;>simp only[List.cons_append,eZ] at hu ⊢
  ·exact⟨hu.1,ih hu.2⟩
  ·exact⟨hu.1,ih hu.2⟩
  ·exact⟨hu.1,ih hu.2⟩
  ·exact ih hu
theorem cH (hc:Core w0 S f h β φ tm w):∀(cs:List CT) (ts:List TypeId) (ss:List SV) (us:List Value) (q:List DC×List MU),af w (Av h β) β ss us→(aP cs ts ss).val f h=some q→
  cK w cs ts q.1 us (q.2.flatMap (aL β))∧eZ h q.2
 | [],ts,ss,us,q,hs,hq=>by
  cases ts with
  | nil=>
   cases ss with
   | nil=>
    simp only[aP,M.aa,Option.some.injEq] at hq
    subst hq
    simp only[af] at hs
    exact⟨⟨rfl,rfl,hs,rfl⟩,trivial⟩
   | cons s ss=>simp [aP] at hq
  | cons t ts=>simp [aP] at hq
 | .int k::cs,ts,ss,us,q,hs,hq=>by
  cases ss with
  | nil=>simp [aP] at hq
  | cons s ss=>
   simp only[af] at hs
   obtain⟨v,aR,rfl,h1,h2⟩:=hs
   simp only[aP,M.ae,Option.bind_eq_some_iff,M.aa,Option.some.injEq] at hq
   obtain⟨q1,aK,q2,cZ,rfl⟩:=hq
   obtain⟨fp,hr,_⟩:=eA hc h1 aK
   obtain⟨k1,k2⟩:=cH hc cs ts ss aR q2 h2 cZ
   refine⟨?_,k2⟩
   simp only[cK]
   refine⟨q1.1,q2.1,v,aR,rfl,rfl, ?_,k1⟩
   simp only[bQ] at hr ⊢
   obtain⟨n,a,b,c,_⟩:=hr
   exact⟨n,a,b,c,trivial⟩
 | .bool::cs,ts,ss,us,q,hs,hq=>by
  cases ss with
  | nil=>simp [aP] at hq
  | cons s ss=>
   simp only[af] at hs
   obtain⟨v,aR,rfl,h1,h2⟩:=hs
   simp only[aP,M.ae,Option.bind_eq_some_iff,M.aa,Option.some.injEq] at hq
   obtain⟨q1,aK,q2,cZ,rfl⟩:=hq
   obtain⟨fp,hr,_⟩:=eA hc h1 aK
   obtain⟨k1,k2⟩:=cH hc cs ts ss aR q2 h2 cZ
   refine⟨?_,k2⟩
   simp only[cK]
   refine⟨q1.1,q2.1,v,aR,rfl,rfl, ?_,k1⟩
   simp only[bQ] at hr ⊢
   obtain⟨n,a,b,_⟩:=hr
   exact⟨n,a,b,trivial⟩
 | .str::cs,ts,ss,us,q,hs,hq=>by
  cases ss with
  | nil=>simp [aP] at hq
  | cons s ss=>
   simp only[af] at hs
   obtain⟨v,aR,rfl,h1,h2⟩:=hs
   simp only[aP,M.ae,Option.bind_eq_some_iff,M.aa,Option.some.injEq] at hq
   obtain⟨q1,aK,q2,cZ,rfl⟩:=hq
   obtain⟨fp,hr,_⟩:=eA hc h1 aK
   obtain⟨k1,k2⟩:=cH hc cs ts ss aR q2 h2 cZ
   refine⟨?_,k2⟩
   simp only[cK]
   refine⟨q1.1,q2.1,v,aR,rfl,rfl, ?_,k1⟩
   simp only[bQ] at hr ⊢
   obtain⟨n,a,b,c,_⟩:=hr
   exact⟨n,a,b,c,trivial⟩
 | .sl el::cs,ts,ss,us,q,hs,hq=>by
  cases ts with
  | nil=>simp [aP] at hq
  | cons t ts=>
   cases ss with
   | nil=>simp [aP] at hq
   | cons s ss=>
    simp only[af] at hs
    obtain⟨v,aR,rfl,h1,h2⟩:=hs
    simp only[aP,M.ae,Option.bind_eq_some_iff,M.aa,Option.some.injEq] at hq
    obtain⟨q1,aK,q2,cZ,rfl⟩:=hq
    obtain⟨k1,k2⟩:=cH hc cs ts ss aR q2 h2 cZ
    cases s with
    | nil=>
     simp only at aK
     cases dZ:al el
     ·simp [dZ] at aK
     ·simp only[dZ,cond_true,M.aa,Option.some.injEq] at aK
      subst aK
      simp only[ak] at h1
      subst h1
      refine⟨?_,k2⟩
      simp only[cK]
      exact⟨t,ts,[],q2.1,_,aR,[],[],q2.2.flatMap (aL β),rfl,rfl,rfl,dZ,⟨by simp,.inl ⟨rfl,rfl,rfl⟩⟩,⟨rfl,by simp⟩,k1,by simp [aL,Value.ownBlock]⟩
    | own id=>
     simp only[M.a7,Option.bind_eq_some_iff] at aK
     obtain⟨ob,aM,aK⟩:=aK
     cases ob with
     | row t' e' r fz u=>
      cases fz with
      | true=>simp at aK
      | false=>
       simp only at aK
       cases aD:Nat.beq t' t && aC e' el && al el
       ·simp [aD] at aK
       ·simp only[aD,cond_true,M.aa,Option.some.injEq] at aK
        subst aK
        simp only[Bool.and_eq_true] at aD
        have ht:=Nat.eq_of_beq_eq_true aD.1.1
        have he:=aG _ _ aD.1.2
        subst ht
        subst he
        simp only[ak] at h1
        obtain⟨vals,az,g1,g2,_,_⟩:=hc.aB id _ aM
        refine⟨?_,⟨⟨aD.2,r,aM⟩,k2⟩⟩
        simp only[cK]
        refine⟨t',ts,r,q2.1,v,aR,vals,az,q2.2.flatMap (aL β),rfl,rfl,rfl,aD.2,by rw[h1.1];exact g1,g2,k1, ?_⟩
        simp only[List.flatMap_cons,aL,h1.1]
     | box _ _=>simp at aK
     | dQ _ _=>simp at aK
     | deep _ _ _ _ _=>simp at aK
    | _=>simp at aK
theorem gv.one {t:TT} {e:List CT} {rows:List (List DC)} {v:Value} {mb:List Nat} (h:gv w t e rows v mb):v.oneCell'=true:=by
 cases t with
 | flat t=>
  obtain⟨_,_,_,h1,_⟩:=h
  exact h1.one
 | deep t its=>
  obtain⟨_,_,h1,_⟩:=h
  exact h1.one
theorem cC (hc:Core w0 S f h β φ tm w):∀(cs:List CT) (ts:List TT) (ss:List SV) (us:List Value) (q:List DC×List MU),af w (Av h β) β ss us→(au cs ts ss).val f h=some q→
  bc w cs ts q.1 us (q.2.flatMap (aL β))∧eZ h q.2
 | [],ts,ss,us,q,hs,hq=>by
  cases ts with
  | nil=>
   cases ss with
   | nil=>
    simp only[au,M.aa,Option.some.injEq] at hq
    subst hq
    simp only[af] at hs
    exact⟨⟨rfl,rfl,hs,rfl⟩,trivial⟩
   | cons s ss=>simp [au] at hq
  | cons t ts=>simp [au] at hq
 | .int k::cs,ts,ss,us,q,hs,hq=>by
  cases ss with
  | nil=>simp [au] at hq
  | cons s ss=>
   simp only[af] at hs
   obtain⟨v,aR,rfl,h1,h2⟩:=hs
   simp only[au,M.ae,Option.bind_eq_some_iff,M.aa,Option.some.injEq] at hq
   obtain⟨q1,aK,q2,cZ,rfl⟩:=hq
   obtain⟨fp,hr,_⟩:=eA hc h1 aK
   obtain⟨k1,k2⟩:=cC hc cs ts ss aR q2 h2 cZ
   refine⟨?_,k2⟩
   simp only[bc]
   refine⟨q1.1,q2.1,v,aR,rfl,rfl, ?_,k1⟩
   simp only[bQ] at hr ⊢
   obtain⟨n,a,b,c,_⟩:=hr
   exact⟨n,a,b,c,trivial⟩
 | .bool::cs,ts,ss,us,q,hs,hq=>by
  cases ss with
  | nil=>simp [au] at hq
  | cons s ss=>
   simp only[af] at hs
   obtain⟨v,aR,rfl,h1,h2⟩:=hs
   simp only[au,M.ae,Option.bind_eq_some_iff,M.aa,Option.some.injEq] at hq
   obtain⟨q1,aK,q2,cZ,rfl⟩:=hq
   obtain⟨fp,hr,_⟩:=eA hc h1 aK
   obtain⟨k1,k2⟩:=cC hc cs ts ss aR q2 h2 cZ
   refine⟨?_,k2⟩
   simp only[bc]
   refine⟨q1.1,q2.1,v,aR,rfl,rfl, ?_,k1⟩
   simp only[bQ] at hr ⊢
   obtain⟨n,a,b,_⟩:=hr
   exact⟨n,a,b,trivial⟩
 | .str::cs,ts,ss,us,q,hs,hq=>by
  cases ss with
  | nil=>simp [au] at hq
  | cons s ss=>
   simp only[af] at hs
   obtain⟨v,aR,rfl,h1,h2⟩:=hs
   simp only[au,M.ae,Option.bind_eq_some_iff,M.aa,Option.some.injEq] at hq
   obtain⟨q1,aK,q2,cZ,rfl⟩:=hq
   obtain⟨fp,hr,_⟩:=eA hc h1 aK
   obtain⟨k1,k2⟩:=cC hc cs ts ss aR q2 h2 cZ
   refine⟨?_,k2⟩
   simp only[bc]
   refine⟨q1.1,q2.1,v,aR,rfl,rfl, ?_,k1⟩
   simp only[bQ] at hr ⊢
   obtain⟨n,a,b,c,_⟩:=hr
   exact⟨n,a,b,c,trivial⟩
 | .sl el::cs,ts,ss,us,q,hs,hq=>by
  cases ts with
  | nil=>simp [au] at hq
  | cons t ts=>
   cases ss with
   | nil=>cases t<;>simp [au] at hq
   | cons s ss=>
    simp only[af] at hs
    obtain⟨v,aR,rfl,h1,h2⟩:=hs
    cases t with
    | flat t=>
     simp only[au,M.ae,Option.bind_eq_some_iff,M.aa,Option.some.injEq] at hq
     obtain⟨q1,aK,q2,cZ,rfl⟩:=hq
     obtain⟨k1,k2⟩:=cC hc cs ts ss aR q2 h2 cZ
     cases s with
     | nil=>
      simp only at aK
      cases dZ:al el
      ·simp [dZ] at aK
      ·simp only[dZ,cond_true,M.aa,Option.some.injEq] at aK
       subst aK
       simp only[ak] at h1
       subst h1
       refine⟨?_,k2⟩
       simp only[bc]
       exact⟨.flat t,ts,[],q2.1,_,aR,[],q2.2.flatMap (aL β),rfl,rfl,rfl,⟨dZ,[],[],⟨by simp,.inl ⟨rfl,rfl,rfl⟩⟩,⟨rfl,by simp⟩,by simp [Value.ownBlock]⟩,k1,by simp [aL]⟩
     | own id=>
      simp only[M.a7,Option.bind_eq_some_iff] at aK
      obtain⟨ob,aM,aK⟩:=aK
      cases ob with
      | row t' e' r fz u=>
       cases fz with
       | true=>simp at aK
       | false=>
        simp only at aK
        cases aD:Nat.beq t' t && aC e' el && al el
        ·simp [aD] at aK
        ·simp only[aD,cond_true,M.aa,Option.some.injEq] at aK
         subst aK
         simp only[Bool.and_eq_true] at aD
         have ht:=Nat.eq_of_beq_eq_true aD.1.1
         have he:=aG _ _ aD.1.2
         subst ht
         subst he
         simp only[ak] at h1
         obtain⟨vals,az,g1,g2,_,_⟩:=hc.aB id _ aM
         refine⟨?_,⟨⟨aD.2,r,aM⟩,k2⟩⟩
         simp only[bc]
         refine⟨.flat t',ts,r,q2.1,v,aR,v.ownBlock.toList,q2.2.flatMap (aL β),rfl,rfl,rfl,⟨aD.2,vals,az,by rw[h1.1];exact g1,g2,rfl⟩,k1, ?_⟩
         simp only[List.flatMap_cons,aL,h1.1]
      | box _ _=>simp at aK
      | dQ _ _=>simp at aK
      | deep _ _ _ _ _=>simp at aK
     | _=>simp at aK
    | deep t its=>
     simp only[au,M.ae,Option.bind_eq_some_iff,M.aa,Option.some.injEq] at hq
     obtain⟨q1,aK,q2,cZ,rfl⟩:=hq
     obtain⟨k1,k2⟩:=cC hc cs ts ss aR q2 h2 cZ
     cases s with
     | nil=>
      simp only[M.aa,Option.some.injEq] at aK
      subst aK
      simp only[ak] at h1
      subst h1
      refine⟨?_,k2⟩
      simp only[bc]
      exact⟨.deep t its,ts,[],q2.1,_,aR,[],q2.2.flatMap (aL β),rfl,rfl,rfl,⟨[],[],⟨by simp,.inl ⟨rfl,rfl,rfl⟩⟩,⟨rfl,by simp⟩,by simp [Value.ownBlock]⟩,k1,by simp [aL]⟩
     | own id=>
      simp only[M.a7,Option.bind_eq_some_iff] at aK
      obtain⟨ob,aM,aK⟩:=aK
      cases ob with
      | deep t' e' dE r hl=>
       cases hl with
       | some _=>simp at aK
       | none=>
        simp only at aK
        cases aD:Nat.beq t' t && aC e' el && fj dE its
        ·simp [aD] at aK
        ·simp only[aD,cond_true,M.aa,Option.some.injEq] at aK
         subst aK
         simp only[Bool.and_eq_true] at aD
         have ht:=Nat.eq_of_beq_eq_true aD.1.1
         have he:=aG _ _ aD.1.2
         have EZ:=fR _ _ aD.2
         subst ht
         subst he
         subst EZ
         simp only[ak] at h1
         obtain⟨vals,aN,g1,g2,g3,_⟩:=hc.aB id _ aM
         refine⟨?_,⟨⟨r,aM⟩,k2⟩⟩
         simp only[bc]
         refine⟨.deep t' dE,ts,r,q2.1,v,aR,v.ownBlock.toList++aN.flatten,q2.2.flatMap (aL β),rfl,rfl,rfl,⟨vals,aN,by rw[h1.1];exact g1,g2,rfl⟩,k1, ?_⟩
         simp only[List.flatMap_cons,aL,h1.1,g3]
      | box _ _=>simp at aK
      | dQ _ _=>simp at aK
      | row _ _ _ _ _=>simp at aK
     | _=>simp at aK
theorem g_ (hc:Core w0 S f h β φ tm w):∀(ks:List AK) (ms:List (Option MK)) (ss:List SV) (vs:List Value) (q:List DC×eB×List MU),af w (Av h β) β ss vs→(bq ks ms ss).val f h=some q→
  ∃fp,cu w ks ms q.1 vs fp (q.2.2.flatMap (aL β))∧bP h q.2.1∧eZ h q.2.2∧∀b∈fp,(¬Av h β b)∨∃x∈q.2.1,b∈ec h β x.1
 | [],ms,ss,vs,q,hs,hq=>by
  cases ms with
  | nil=>
   cases ss with
   | nil=>
    simp only[bq,M.aa,Option.some.injEq] at hq
    subst hq
    simp only[af] at hs
    exact⟨[],⟨rfl,rfl,hs,rfl,rfl⟩,by simp [bP],trivial,by simp⟩
   | cons s ss=>simp [bq] at hq
  | cons m ms=>simp [bq] at hq
 | k::ks,ms,ss,vs,q,hs,hq=>by
  cases ms with
  | nil=>simp [bq] at hq
  | cons m ms=>
   cases ss with
   | nil=>cases m with
    | none=>simp [bq] at hq
    | some m=>cases m<;>simp [bq] at hq
   | cons s ss=>
    simp only[af] at hs
    obtain⟨v,l,rfl,h1,h2⟩:=hs
    cases m with
    | none=>
     simp only[bq,M.ae,Option.bind_eq_some_iff,M.aa,Option.some.injEq] at hq
     obtain⟨q1,aK,q2,cZ,rfl⟩:=hq
     obtain⟨iu,Fb,EX,Fu,kK⟩:=g_ hc ks ms ss l q2 h2 cZ
     have kP:(i7 [k] [s]).val f h=some (q1.1++[],q1.2.1++[]):=by
      simp only[i7,M.ae,Option.bind_eq_some_iff,M.aa,Option.some.injEq]
      exact⟨q1,aK,([],[]),rfl,rfl⟩
     have gM:af w (Av h β) β [s] [v]:=by simp only[af];exact⟨v,[],rfl,h1,rfl⟩
     obtain⟨la,FU,Fk,je⟩:=lA hc [k] [s] [v] _ gM kP
     simp only[List.append_nil] at FU Fk je
     obtain⟨d1,d2,v',cx,f1,f2,e1,e2,FU,⟨rfl,rfl,rfl⟩,rfl⟩:=FU
     simp only[List.append_nil] at e1 je
     simp only[List.cons.injEq,and_true] at e2
     subst e2
     subst e1
     refine⟨f1++iu,⟨none,ms,q1.1,q2.1,v,l,f1,iu,[],q2.2.2.flatMap (aL β),rfl,rfl,rfl,⟨FU,rfl⟩,Fb,rfl,rfl⟩,eu Fk EX,Fu, ?_⟩
     intro b hb
     rcases List.mem_append.1 hb with hb | hb
     ·rcases je b hb with h3 | ⟨x,hx,h3⟩
      ·exact .inl h3
      ·exact .inr ⟨x,List.mem_append_left _ hx,h3⟩
     ·rcases kK b hb with h3 | ⟨x,hx,h3⟩
      ·exact .inl h3
      ·exact .inr ⟨x,List.mem_append_right _ hx,h3⟩
    | some m=>
     cases m with
     | box t=>
      cases s with
      | ptr id off=>
       cases off with
       | succ off=>simp [bq] at hq
       | zero=>
        simp only[bq,M.a7,Option.bind_eq_some_iff] at hq
        obtain⟨ob,aM,hq⟩:=hq
        cases ob with
        | box t' cells=>
         simp only at hq
         cases Ca:Nat.beq t' t
         ·simp [Ca] at hq
         ·have Cb:=Nat.eq_of_beq_eq_true Ca
          subst Cb
          simp only[Ca,cond_true,M.ae,Option.bind_eq_some_iff] at hq
          obtain⟨q1,aK,hq⟩:=hq
          cases EU:q1.2.1.isEmpty
          ·simp [EU] at hq
          ·simp only[EU,cond_true,M.ae,Option.bind_eq_some_iff,M.aa,Option.some.injEq] at hq
           obtain⟨q2,cZ,rfl⟩:=hq
           obtain⟨iu,Fb,EX,Fu,kK⟩:=g_ hc ks ms ss l q2 h2 cZ
           obtain⟨us,g1,g2,g3,_⟩:=hc.aB id _ aM
           obtain⟨la,hr,Fk,je,_⟩:=dA hc k.cb cells us q1 g2 aK
           have hl:=af.length _ _ g2
           have jH:=cn _ _ _ aK
           simp only[ak] at h1
           have JQ:q1.2.1=[]:=List.isEmpty_iff.1 EU
           refine⟨la++iu,⟨some (.box t'),ms,q1.1,q2.1,v,l,la,iu,[β.di id],q2.2.2.flatMap (aL β),rfl,rfl,rfl,⟨β.di id,us,h1,g1,g3,hr,by omega,rfl⟩,Fb,rfl,by simp [aL]⟩,EX,⟨⟨cells,aM⟩,Fu⟩, ?_⟩
           intro b hb
           rcases List.mem_append.1 hb with hb | hb
           ·rcases je b hb with h3 | ⟨x,hx,h3⟩
            ·exact .inl h3
            ·rw[JQ] at hx
             simp at hx
           ·exact kK b hb
        | row _ _ _ _ _=>simp at hq
        | dQ _ _=>simp at hq
        | deep _ _ _ _ _=>simp at hq
      | _=>simp [bq] at hq
     | rows ts=>
      simp only[bq,M.ae,Option.bind_eq_some_iff,M.aa,Option.some.injEq] at hq
      obtain⟨q1,aK,q2,cZ,rfl⟩:=hq
      obtain⟨iu,Fb,EX,Fu,kK⟩:=g_ hc ks ms ss l q2 h2 cZ
      have one:iY w k (some (.rows ts)) q1.1 v [] (q1.2.flatMap (aL β))∧eZ h q1.2:=by
       cases hk:k.agg with
       | true=>
        cases s with
        | agg cs=>
         simp only[hk] at aK
         simp only[ak] at h1
         obtain⟨us,rfl,iw,bg⟩:=h1
         obtain⟨r1,r2⟩:=cC hc k.cb ts cs us q1 iw aK
         exact⟨⟨us,by rw[hk];rfl,bg,r1,rfl⟩,r2⟩
        | _=>simp [hk] at aK
       | false=>
        have kP:(au k.cb ts [s]).val f h=some q1:=by
         cases s<;>simp only[hk] at aK<;>first | exact aK | (simp at aK)
        have gM:af w (Av h β) β [s] [v]:=by simp only[af];exact⟨v,[],rfl,h1,rfl⟩
        obtain⟨r1,r2⟩:=cC hc k.cb ts [s] [v] q1 gM kP
        have bg:v.oneCell'=true:=by
         cases D5:k.cb with
         | nil=>rw[D5] at r1;simp only[bc] at r1;simp at r1
         | cons c cs=>
          rw[D5] at r1
          cases c with
          | sl el=>
           simp only[bc] at r1
           obtain⟨t,dE,rows,aW,v',aR,m1,gl,_,_,e0,h3,_⟩:=r1
           injection e0 with e0
           subst e0
           exact h3.one
          | int _=>simp only[bc] at r1;obtain⟨d,aW,v',aR,_,e0,h3,_⟩:=r1;injection e0 with e0;subst e0;exact h3.one
          | bool=>simp only[bc] at r1;obtain⟨d,aW,v',aR,_,e0,h3,_⟩:=r1;injection e0 with e0;subst e0;exact h3.one
          | str=>simp only[bc] at r1;obtain⟨d,aW,v',aR,_,e0,h3,_⟩:=r1;injection e0 with e0;subst e0;exact h3.one
        exact⟨⟨[v],by rw[hk];exact⟨rfl,bg⟩,by simpa using bg,r1,rfl⟩,r2⟩
      refine⟨iu,⟨some (.rows ts),ms,q1.1,q2.1,v,l,[],iu,q1.2.flatMap (aL β),q2.2.2.flatMap (aL β),rfl,rfl,rfl,one.1,Fb,rfl,by simp⟩,EX,one.2.append Fu,kK⟩
end
end Go.Proofs.YtngbcccnjiaddaaGreat.Vm
set_option linter.unusedVariables false
set_option linter.unusedSimpArgs false
namespace Go.Proofs.YtngbcccnjiaddaaGreat.Vm
section
variable {P:Program} {Γ:Ctx} {w0:World} {S:Own} {st:St} {o:Oper} {e:cB} {a:Act} {w w':World}
variable {f:Nat→SV} {h:Nat→Option ai} {β:Env} {φ:Nat→List Nat} {tm:Array Value}
def bL:List MU→List DC→List (Nat×ai)
 | [],_=>[]
 | .box id t cs::l,ds=>(id,.box t (bM cs ds 0))::bL l (ds.drop cs.length)
 | .row id t e u::l,ds=>(id,.row t e (ds.headD default).cX false u)::bL l ds.tail
 | .deep id t e ts::l,ds=>(id,.deep t e ts (ds.headD default).cX none)::bL l ds.tail
 | .BN::l,ds=>bL l ds.tail
theorem jq:∀(U:List MU) (ds:List DC),jZ U ds=(bL U ds).map fun x=>(x.1,some x.2)
 | [],_=>rfl
 | .box id t cs::l,ds=>by simp only[jZ,bL,List.map_cons,jq l]
 | .row id t e u::l,ds=>by simp only[jZ,bL,List.map_cons,jq l]
 | .deep id t e ts::l,ds=>by simp only[jZ,bL,List.map_cons,jq l]
 | .BN::l,ds=>by simp only[jZ,bL,jq l]
theorem eM:∀(U:List MU) (ds:List DC),(bL U ds).map (·.1)=bz U
 | [],_=>rfl
 | .box id t cs::l,ds=>by simp only[bL,bz,List.map_cons,eM l]
 | .row id t e u::l,ds=>by simp only[bL,bz,List.map_cons,eM l]
 | .deep id t e ts::l,ds=>by simp only[bL,bz,List.map_cons,eM l]
 | .BN::l,ds=>by simp only[bL,bz,eM l]
def ef:List MU→Nat
 | []=>0
 | .box _ _ cs::l=>cs.length+ef l
 | .row _ _ _ _::l=>1+ef l
 | .deep _ _ _ _::l=>1+ef l
 | .BN::l=>1+ef l
theorem ia:∀(cs:List CT) (d1 d2:List DC) (k:Nat),k+cs.length≤d1.length→bM cs (d1++d2) k=bM cs d1 k
 | [],_,_,_,_=>rfl
 | c::cs,d1,d2,k,h=>by
  simp only[bM]
  simp only[List.length_cons] at h
  rw[ia cs d1 d2 (k+1) (by omega)]
  congr 2
  simp only[List.getD_eq_getElem?_getD]
  rw[List.getElem?_append_left (by omega)]
theorem cU:∀(U V:List MU) (d1 d2:List DC),ef U=d1.length→bL (U++V) (d1++d2)=bL U d1++bL V d2
 | [],V,d1,d2,hl=>by
  have:d1=[]:=List.length_eq_zero_iff.1 hl.symm
  subst this
  rfl
 | .box id t cs::l,V,d1,d2,hl=>by
  simp only[ef] at hl
  simp only[List.cons_append,bL]
  rw[ia _ _ _ _ (by omega),List.drop_append_of_le_length (by omega),cU l V _ d2 (by simp;omega)]
 | .row id t e u::l,V,d1,d2,hl=>by
  simp only[ef] at hl
  cases d1 with
  | nil=>simp at hl
  | cons d d1=>
   simp only[List.cons_append,bL,List.headD_cons,List.tail_cons]
   rw[cU l V d1 d2 (by simp at hl;omega)]
 | .deep id t e ts::l,V,d1,d2,hl=>by
  simp only[ef] at hl
  cases d1 with
  | nil=>simp at hl
  | cons d d1=>
   simp only[List.cons_append,bL,List.headD_cons,List.tail_cons]
   rw[cU l V d1 d2 (by simp at hl;omega)]
 | .BN::l,V,d1,d2,hl=>by
  simp only[ef] at hl
  cases d1 with
  | nil=>simp at hl
  | cons d d1=>
   simp only[List.cons_append,bL,List.tail_cons]
   rw[cU l V d1 d2 (by simp at hl;omega)]
theorem iZ:∀(cs:List CT) (r:List DC) (g:Nat→Option Value) (fp:List Nat),al cs=true→aS w cs r g fp→fp=[]
 | [],r,g,fp,_,h=>by simp only[aS] at h;exact h.2
 | c::cs,r,g,fp,hf,h=>by
  simp only[aS] at h
  obtain⟨d,r',v,f1,f2,rfl,_,h1,h2,rfl⟩:=h
  cases c with
  | sl e=>simp [al] at hf
  | int k=>
   simp only[bQ] at h1
   obtain⟨_,_,_,_,rfl⟩:=h1
   rw[iZ cs r' _ f2 (by simpa [al] using hf) h2]
   rfl
  | bool=>
   simp only[bQ] at h1
   obtain⟨_,_,_,rfl⟩:=h1
   rw[iZ cs r' _ f2 (by simpa [al] using hf) h2]
   rfl
  | str=>
   simp only[bQ] at h1
   obtain⟨_,_,_,_,rfl⟩:=h1
   rw[iZ cs r' _ f2 (by simpa [al] using hf) h2]
   rfl
theorem iX {e:List CT} {rows:List (List DC)} {vals:List Value} {az:List (List Nat)} (hf:al e=true) (h:dC w e rows vals az):az.flatten=[]:=by
 rw[List.flatten_eq_nil_iff]
 intro l hl
 obtain⟨i,hi,rfl⟩:=List.getElem_of_mem hl
 have dD:i<rows.length:=by have:=h.1;omega
 exact iZ e _ _ _ hf (h.2 i rows[i] az[i] (by simp) (by simp))
theorem kC:∀(cs:List CT) (ds:List DC) (k:Nat),bA (bM cs ds k)=[]
 | [],_,_=>rfl
 | c::cs,ds,k=>by
  simp only[bM,bA,kC cs ds (k+1),List.append_nil]
  cases c<;>rfl
def DE (h:Nat→Option ai) (β:Env) (w':World) (im:List Nat) (x:fB):Prop:=
 (∃o,h x.id=some o)∧bZ x.obj=[]∧∀(av:Nat→Prop) (β':Env),β'.val x.id=β.val x.id→β'.di x.id=β.di x.id→β'.nb x.id=x.nb→(∀b∈im,¬av b)→fA w' av β' x.id x.obj x.bO
def lv (h:Nat→Option ai) (β:Env) (w':World) (im:List Nat) (U:List MU) (od:List DC) (mb:List Nat):Prop:=
 ef U=od.length∧∃T:List fB,T.map (fun x=>(x.id,x.obj))=bL U od∧T.flatMap fB.bO=mb∧∀x∈T,DE h β w' im x
theorem lv.append {im:List Nat} {U V:List MU} {d1 d2:List DC} {m1 m2:List Nat} (h1:lv h β w' im U d1 m1) (h2:lv h β w' im V d2 m2):lv h β w' im (U++V) (d1++d2) (m1++m2):=by
 obtain⟨l1,T1,e1,b1,g1⟩:=h1
 obtain⟨l2,T2,e2,b2,g2⟩:=h2
 have:∀(U V:List MU),ef (U++V)=ef U+ef V:=by
  intro U V
  induction U with
  | nil=>simp [ef]
  | cons x l ih=>cases x<;>simp only[List.cons_append,ef,ih]<;>omega
 refine⟨by simp only[this,List.length_append,l1,l2],T1++T2,by rw[List.map_append,e1,e2,cU _ _ _ _ l1],by simp [b1,b2],fun x hx=> ?_⟩
 rcases List.mem_append.1 hx with hx | hx
 ·exact g1 x hx
 ·exact g2 x hx
theorem gv.EF {t:TT} {e:List CT} {rows:List (List DC)} {mb:List Nat} (h:gv w t e rows (.slice none 0 0) mb):mb=[]:=by
 cases t with
 | flat t=>
  obtain⟨_,_,_,_,_,rfl⟩:=h
  rfl
 | deep t its=>
  obtain⟨vals,aN,h1,h2,rfl⟩:=h
  rcases h1.2 with ⟨_,h0,_⟩ | ⟨g,cap,cur,hv,_⟩
  ·have:aN=[]:=List.length_eq_zero_iff.1 (by rw[h2.1,h0])
   subst this
   rfl
  ·cases hv
theorem fP (hc:Core w0 S f h β φ tm w) {im:List Nat} :∀(cs:List CT) (ts:List TT) (ss:List SV) (us:List Value) (q:List DC×List MU) (od:List DC) (mb:List Nat),af w (Av h β) β ss us→(au cs ts ss).val f h=some q→iE w' cs ts od us mb→
  lv h β w' im q.2 od mb
 | [],ts,ss,us,q,od,mb,hs,hq,ho=>by
  cases ts with
  | nil=>
   cases ss with
   | nil=>
    simp only[au,M.aa,Option.some.injEq] at hq
    subst hq
    simp only[iE] at ho
    rw[ho.1,ho.2.2]
    exact⟨rfl,[],rfl,rfl,by simp⟩
   | cons s ss=>simp [au] at hq
  | cons t ts=>simp [au] at hq
 | .int k::cs,ts,ss,us,q,od,mb,hs,hq,ho=>by
  cases ss with
  | nil=>simp [au] at hq
  | cons s ss=>
   simp only[af] at hs
   obtain⟨v,aR,rfl,h1,h2⟩:=hs
   simp only[au,M.ae,Option.bind_eq_some_iff,M.aa,Option.some.injEq] at hq
   obtain⟨q1,aK,q2,cZ,rfl⟩:=hq
   simp only[iE] at ho
   obtain⟨v',E5,e0,ho⟩:=ho
   simp only[List.cons.injEq] at e0
   obtain⟨rfl,rfl⟩:=e0
   exact fP hc cs ts ss aR q2 od mb h2 cZ ho
 | .bool::cs,ts,ss,us,q,od,mb,hs,hq,ho=>by
  cases ss with
  | nil=>simp [au] at hq
  | cons s ss=>
   simp only[af] at hs
   obtain⟨v,aR,rfl,h1,h2⟩:=hs
   simp only[au,M.ae,Option.bind_eq_some_iff,M.aa,Option.some.injEq] at hq
   obtain⟨q1,aK,q2,cZ,rfl⟩:=hq
   simp only[iE] at ho
   obtain⟨v',E5,e0,ho⟩:=ho
   simp only[List.cons.injEq] at e0
   obtain⟨rfl,rfl⟩:=e0
   exact fP hc cs ts ss aR q2 od mb h2 cZ ho
 | .str::cs,ts,ss,us,q,od,mb,hs,hq,ho=>by
  cases ss with
  | nil=>simp [au] at hq
  | cons s ss=>
   simp only[af] at hs
   obtain⟨v,aR,rfl,h1,h2⟩:=hs
   simp only[au,M.ae,Option.bind_eq_some_iff,M.aa,Option.some.injEq] at hq
   obtain⟨q1,aK,q2,cZ,rfl⟩:=hq
   simp only[iE] at ho
   obtain⟨v',E5,e0,ho⟩:=ho
   simp only[List.cons.injEq] at e0
   obtain⟨rfl,rfl⟩:=e0
   exact fP hc cs ts ss aR q2 od mb h2 cZ ho
 | .sl el::cs,ts,ss,us,q,od,mb,hs,hq,ho=>by
  cases ts with
  | nil=>simp [au] at hq
  | cons t ts=>
   cases ss with
   | nil=>cases t<;>simp [au] at hq
   | cons s ss=>
    simp only[af] at hs
    obtain⟨v,aR,rfl,h1,h2⟩:=hs
    simp only[iE] at ho
    obtain⟨t1,FL,rows,KV,v1,E5,m1,gl,e1,rfl,e2,o1,o3,rfl⟩:=ho
    simp only[List.cons.injEq] at e1 e2
    obtain⟨rfl,rfl⟩:=e1
    obtain⟨rfl,rfl⟩:=e2
    have pack:∀(q1:DC×MU) (q2:List DC×List MU),lv h β w' im [q1.2] [.sl rows] m1→(au cs ts ss).val f h=some q2→lv h β w' im (q1.2::q2.2) (.sl rows::KV) (m1++gl):=by
     intro q1 q2 k1 cZ
     exact k1.append (fP hc cs ts ss aR q2 KV gl h2 cZ o3)
    have none_:v= .slice none 0 0→lv h β w' im [.BN] [.sl rows] m1:=by
     rintro rfl
     exact⟨rfl,[],rfl,by rw[o1.EF];rfl,by simp⟩
    cases t with
    | flat t=>
     simp only[au,M.ae,Option.bind_eq_some_iff,M.aa,Option.some.injEq] at hq
     obtain⟨q1,aK,q2,cZ,rfl⟩:=hq
     refine pack q1 q2 ?_ cZ
     cases s with
     | nil=>
      simp only at aK
      cases dZ:al el
      ·simp [dZ] at aK
      ·simp only[dZ,cond_true,M.aa,Option.some.injEq] at aK
       subst aK
       simp only[ak] at h1
       exact none_ h1
     | own id=>
      simp only[M.a7,Option.bind_eq_some_iff] at aK
      obtain⟨ob,aM,aK⟩:=aK
      cases ob with
      | row t' e' r fz u=>
       cases fz with
       | true=>simp at aK
       | false=>
        simp only at aK
        cases aD:Nat.beq t' t && aC e' el && al el
        ·simp [aD] at aK
        ·simp only[aD,cond_true,M.aa,Option.some.injEq] at aK
         subst aK
         simp only[Bool.and_eq_true] at aD
         have ht:=Nat.eq_of_beq_eq_true aD.1.1
         have he:=aG _ _ aD.1.2
         subst ht
         subst he
         simp only[ak] at h1
         obtain⟨dZ,vals,az,p1,p2,rfl⟩:=o1
         refine⟨rfl,[⟨id,.row t' e' rows false u,[],v.ownBlock.toList⟩],rfl,by simp,fun x hx=> ?_⟩
         rw[List.mem_singleton] at hx
         subst hx
         refine⟨⟨_,aM⟩,rfl,fun av β' hv hb hn jS=> ?_⟩
         simp only at hv hb hn ⊢
         refine⟨vals,az,by rw[hv,←h1.1];exact p1,p2,by rw[iX dZ p2];simp, ?_⟩
         rw[hv,←h1.1,iX dZ p2]
         cases u<;>simp
      | box _ _=>simp at aK
      | dQ _ _=>simp at aK
      | deep _ _ _ _ _=>simp at aK
     | _=>simp at aK
    | deep t its=>
     simp only[au,M.ae,Option.bind_eq_some_iff,M.aa,Option.some.injEq] at hq
     obtain⟨q1,aK,q2,cZ,rfl⟩:=hq
     refine pack q1 q2 ?_ cZ
     cases s with
     | nil=>
      simp only[M.aa,Option.some.injEq] at aK
      subst aK
      simp only[ak] at h1
      exact none_ h1
     | own id=>
      simp only[M.a7,Option.bind_eq_some_iff] at aK
      obtain⟨ob,aM,aK⟩:=aK
      cases ob with
      | deep t' e' dE r hl=>
       cases hl with
       | some _=>simp at aK
       | none=>
        simp only at aK
        cases aD:Nat.beq t' t && aC e' el && fj dE its
        ·simp [aD] at aK
        ·simp only[aD,cond_true,M.aa,Option.some.injEq] at aK
         subst aK
         simp only[Bool.and_eq_true] at aD
         have ht:=Nat.eq_of_beq_eq_true aD.1.1
         have he:=aG _ _ aD.1.2
         have EZ:=fR _ _ aD.2
         subst ht
         subst he
         subst EZ
         simp only[ak] at h1
         obtain⟨vals,aN,p1,p2,rfl⟩:=o1
         refine⟨rfl,[⟨id,.deep t' e' dE rows none,aN.flatten,v.ownBlock.toList++aN.flatten⟩],rfl,by simp,fun x hx=> ?_⟩
         rw[List.mem_singleton] at hx
         subst hx
         refine⟨⟨_,aM⟩,rfl,fun av β' hv hb hn jS=> ?_⟩
         simp only at hv hb hn ⊢
         exact⟨vals,aN,by rw[hv,←h1.1];exact p1,p2,hn,by rw[hv,←h1.1]⟩
      | box _ _=>simp at aK
      | dQ _ _=>simp at aK
      | row _ _ _ _ _=>simp at aK
     | _=>simp at aK
theorem lj (hc:Core w0 S f h β φ tm w) {Jb:List Nat} :∀(ks:List AK) (ms:List (Option MK)) (ss:List SV) (vs:List Value) (q:List DC×eB×List MU) (od:List DC) (im mb:List Nat),af w (Av h β) β ss vs→(bq ks ms ss).val f h=some q→lu w' ks ms od vs im mb→(∀b∈im,b∈Jb)→
  lv h β w' Jb q.2.2 od mb
 | [],ms,ss,vs,q,od,im,mb,hs,hq,ho,_=>by
  cases ms with
  | nil=>
   cases ss with
   | nil=>
    simp only[bq,M.aa,Option.some.injEq] at hq
    subst hq
    simp only[lu] at ho
    rw[ho.1,ho.2.2.2]
    exact⟨rfl,[],rfl,rfl,by simp⟩
   | cons s ss=>simp [bq] at hq
  | cons m ms=>simp [bq] at hq
 | k::ks,ms,ss,vs,q,od,im,mb,hs,hq,ho,jS=>by
  simp only[lu] at ho
  obtain⟨m,ms,d1,d2,v,l,i1,i2,b1,b2,rfl,rfl,rfl,o1,o2,rfl,rfl⟩:=ho
  cases ss with
  | nil=>cases m with
   | none=>simp [bq] at hq
   | some m=>cases m<;>simp [bq] at hq
  | cons s ss=>
   simp only[af] at hs
   obtain⟨v0,l0,e0,h1,h2⟩:=hs
   simp only[List.cons.injEq] at e0
   obtain⟨rfl,rfl⟩:=e0
   have A1:∀b∈i2,b∈Jb:=fun b hb=>jS b (List.mem_append_right _ hb)
   cases m with
   | none=>
    simp only[bq,M.ae,Option.bind_eq_some_iff,M.aa,Option.some.injEq] at hq
    obtain⟨q1,aK,q2,cZ,rfl⟩:=hq
    simp only[E7] at o1
    obtain⟨rfl,rfl,rfl⟩:=o1
    exact lj hc ks ms ss l q2 d2 i2 b2 h2 cZ o2 A1
   | some m=>
    cases m with
    | box t=>
     cases s with
     | ptr id off=>
      cases off with
      | succ off=>simp [bq] at hq
      | zero=>
       simp only[bq,M.a7,Option.bind_eq_some_iff] at hq
       obtain⟨ob,aM,hq⟩:=hq
       cases ob with
       | box t' cells=>
        simp only at hq
        cases Ca:Nat.beq t' t
        ·simp [Ca] at hq
        ·have Cb:=Nat.eq_of_beq_eq_true Ca
         subst Cb
         simp only[Ca,cond_true,M.ae,Option.bind_eq_some_iff] at hq
         obtain⟨q1,aK,hq⟩:=hq
         cases EU:q1.2.1.isEmpty
         ·simp [EU] at hq
         ·simp only[EU,cond_true,M.ae,Option.bind_eq_some_iff,M.aa,Option.some.injEq] at hq
          obtain⟨q2,cZ,rfl⟩:=hq
          have k2:=lj hc ks ms ss l q2 d2 i2 b2 h2 cZ o2 A1
          obtain⟨Mf,g1,g2,g3,g4⟩:=hc.aB id _ aM
          simp only[E7] at o1
          obtain⟨g,us,ev,L0,L1,KX,Mc,rfl⟩:=o1
          simp only[ak] at h1
          have eg:g=β.di id:=by
           rw[h1] at ev
           simp only[Value.pointer.injEq,Option.some.injEq,Addr.mk.injEq,and_true] at ev
           exact ev.symm
          subst eg
          have Jv:d1.length=k.cb.length:=aS.length _ _ _ _ KX
          refine lv.append (U:=[.box id t' k.cb]) ⟨by simp only[ef,Jv];omega,[⟨id,.box t' (bM k.cb d1 0),[],[β.di id]⟩],rfl,by simp,fun x hx=> ?_⟩ k2
          rw[List.mem_singleton] at hx
          subst hx
          refine⟨⟨_,aM⟩,kC _ _ _,fun av β' hv hb hn JH=> ?_⟩
          simp only at hv hb hn ⊢
          obtain⟨cx,l1,l2,l3,l4⟩:=aS.bE (β:=β') (av:=av) KX (fun b hb=>JH b (jS b (List.mem_append_left _ hb))) k.cb.length 0 (by omega)
          have ee:cx=us:=by
           apply List.ext_getElem?
           intro j
           by_cases hj:j<cx.length
           ·have:=l2 j cx[j] (by simp)
            simp only[Nat.zero_add] at this
            rw[this]
            simp
           ·rw[List.getElem?_eq_none (by omega),List.getElem?_eq_none (by omega)]
          subst ee
          simp only[List.drop_zero,List.take_length] at l3
          exact⟨cx,by rw[hb];exact L0,l3,L1,by rw[hb]⟩
       | row _ _ _ _ _=>simp at hq
       | dQ _ _=>simp at hq
       | deep _ _ _ _ _=>simp at hq
     | _=>simp [bq] at hq
    | rows ts=>
     simp only[bq,M.ae,Option.bind_eq_some_iff,M.aa,Option.some.injEq] at hq
     obtain⟨q1,aK,q2,cZ,rfl⟩:=hq
     have k2:=lj hc ks ms ss l q2 d2 i2 b2 h2 cZ o2 A1
     simp only[E7] at o1
     obtain⟨us,ev,o1,rfl⟩:=o1
     have one:lv h β w' Jb q1.2 d1 b1:=by
      cases hk:k.agg with
      | true=>
       cases s with
       | agg cs=>
        simp only[hk] at aK
        simp only[ak] at h1
        obtain⟨aR,rfl,iw,bg⟩:=h1
        rw[hk] at ev
        simp only[cond_true,Value.agg.injEq] at ev
        have:aR=us:=by simpa using congrArg Array.toList ev
        subst this
        exact fP hc k.cb ts cs aR q1 d1 b1 iw aK o1
       | _=>simp [hk] at aK
      | false=>
       have kP:(au k.cb ts [s]).val f h=some q1:=by
        cases s<;>simp only[hk] at aK<;>first | exact aK | (simp at aK)
       rw[hk] at ev
       simp only[cond_false] at ev
       subst ev
       have gM:af w (Av h β) β [s] [v]:=by simp only[af];exact⟨v,[],rfl,h1,rfl⟩
       exact fP hc k.cb ts [s] [v] q1 d1 b1 gM kP o1
     exact one.append k2
end
end Go.Proofs.YtngbcccnjiaddaaGreat.Vm
set_option linter.unusedVariables false
set_option linter.unusedSimpArgs false
namespace Go.Proofs.YtngbcccnjiaddaaGreat.Vm
section
variable {P:Program} {Γ:Ctx} {w0:World} {S:Own} {st:St} {o:Oper} {e:cB} {a:Act} {w w':World}
variable {f:Nat→SV} {h:Nat→Option ai} {β:Env} {φ:Nat→List Nat} {tm:Array Value}
theorem D1 (T:List fB) (l:List (Nat×Option ai)) (j:Nat):fo (T.map (fun x=>(x.id,some x.obj))++l) h j=match mo T j with | some x=>some x.obj | none=>fo l h j:=by
 induction T with
 | nil=>rfl
 | cons y N ih=>
  simp only[List.map_cons,List.cons_append,fo,ay,mo]
  split
  ·rfl
  ·exact ih
theorem mS {i:Nat} :∀ {m:eB},bK i m=true→∀x∈m,x.1≠i
 | [],_,x,hx=>by simp at hx
 | (k,y)::l,hm,x,hx=>by
  simp only[bK,Bool.and_eq_true,Bool.not_eq_true'] at hm
  rcases List.mem_cons.1 hx with rfl | hx
  ·exact Nat.ne_of_beq_eq_false hm.1
  ·exact mS hm.2 x hx
theorem lJ {i:Nat} :∀ {m:eB},bK i m=true→fo (ah m) h i=h i
 | [],_=>rfl
 | (k,e',r,u)::l,hm=>by
  simp only[bK,Bool.and_eq_true,Bool.not_eq_true'] at hm
  simp only[ah,fo,ay]
  rw[if_neg (fun he=>Nat.ne_of_beq_eq_false hm.1 he.symm)]
  exact lJ hm.2
theorem dN:∀ {U:List MU},eZ h U→∀b∈U.flatMap (aL β),∃id∈bz U,∃ob,h id=some ob∧b∈ao β id ob
 | [],_,b,hb=>by simp at hb
 | .box id t cs::l,hm,b,hb=>by
  simp only[eZ] at hm
  obtain⟨⟨cells,hc⟩,hm⟩:=hm
  rw[List.flatMap_cons,List.mem_append] at hb
  rcases hb with hb | hb
  ·exact⟨id,List.mem_cons_self ..,_,hc,hb⟩
  ·obtain⟨i,hi,ob,h1,h2⟩:=dN hm b hb
   exact⟨i,List.mem_cons_of_mem _ hi,ob,h1,h2⟩
 | .row id t e u::l,hm,b,hb=>by
  simp only[eZ] at hm
  obtain⟨⟨_,rows,hc⟩,hm⟩:=hm
  rw[List.flatMap_cons,List.mem_append] at hb
  rcases hb with hb | hb
  ·exact⟨id,List.mem_cons_self ..,_,hc,hb⟩
  ·obtain⟨i,hi,ob,h1,h2⟩:=dN hm b hb
   exact⟨i,List.mem_cons_of_mem _ hi,ob,h1,h2⟩
 | .deep id t e ts::l,hm,b,hb=>by
  simp only[eZ] at hm
  obtain⟨⟨rows,hc⟩,hm⟩:=hm
  rw[List.flatMap_cons,List.mem_append] at hb
  rcases hb with hb | hb
  ·exact⟨id,List.mem_cons_self ..,_,hc,hb⟩
  ·obtain⟨i,hi,ob,h1,h2⟩:=dN hm b hb
   exact⟨i,List.mem_cons_of_mem _ hi,ob,h1,h2⟩
 | .BN::l,hm,b,hb=>by
  rw[List.flatMap_cons] at hb
  exact dN (U:=l) hm b (by simpa [aL] using hb)
theorem dX {i:Nat} {l:List Nat} (hn:cG (i::l)=true):i ∉ l∧cG l=true:=by
 simp only[cG,Bool.and_eq_true,Bool.not_eq_true',List.any_eq_false] at hn
 refine⟨fun hi=> ?_,hn.2⟩
 exact hn.1 i hi (Nat.beq_refl i)
theorem eN (hc:Core w0 S f h β φ tm w):∀ {U:List MU},eZ h U→cG (bz U)=true→(U.flatMap (aL β)).Nodup
 | [],_,_=>by simp
 | .box id t cs::l,hm,hn=>by
  simp only[eZ] at hm
  obtain⟨⟨cells,ho⟩,hm⟩:=hm
  obtain⟨h1,h2⟩:=dX hn
  rw[List.flatMap_cons,List.nodup_append]
  refine⟨by simp [aL],eN hc hm h2, ?_⟩
  intro b hb b' ax HI
  subst HI
  obtain⟨i,hi,ob,eW,iV⟩:=dN (β:=β) hm b ax
  exact hc.sep id i _ ob (fun he=>h1 (he ▸ hi)) ho eW b (aj (hc.aB _ _ ho) b hb) (aj (hc.aB _ _ eW) b iV)
 | .row id t e u::l,hm,hn=>by
  simp only[eZ] at hm
  obtain⟨⟨_,rows,ho⟩,hm⟩:=hm
  obtain⟨h1,h2⟩:=dX hn
  rw[List.flatMap_cons,List.nodup_append]
  refine⟨?_,eN hc hm h2, ?_⟩
  ·simp only[aL]
   cases (β.val id).ownBlock<;>simp
  ·intro b hb b' ax HI
   subst HI
   obtain⟨i,hi,ob,eW,iV⟩:=dN (β:=β) hm b ax
   exact hc.sep id i _ ob (fun he=>h1 (he ▸ hi)) ho eW b (aj (hc.aB _ _ ho) b hb) (aj (hc.aB _ _ eW) b iV)
 | .deep id t e ts::l,hm,hn=>by
  simp only[eZ] at hm
  obtain⟨⟨rows,ho⟩,hm⟩:=hm
  obtain⟨h1,h2⟩:=dX hn
  rw[List.flatMap_cons,List.nodup_append]
  refine⟨?_,eN hc hm h2, ?_⟩
  ·obtain⟨vals,aN,_,_,g3,g4⟩:=hc.aB _ _ ho
   have:=(hc.fresh _ _ ho).1
   rw[g4] at this
   simpa only[aL,g3] using this
  ·intro b hb b' ax HI
   subst HI
   obtain⟨i,hi,ob,eW,iV⟩:=dN (β:=β) hm b ax
   exact hc.sep id i _ ob (fun he=>h1 (he ▸ hi)) ho eW b (aj (hc.aB _ _ ho) b hb) (aj (hc.aB _ _ eW) b iV)
 | .BN::l,hm,hn=>by
  rw[List.flatMap_cons]
  simpa [aL] using eN hc (U:=l) hm hn
theorem kx {d:Nat} :∀(Bm:List RK) (k:Nat) (r1 r2:List DC),r1.length=ch Bm→aZ d k Bm (r1++r2)=aZ d k Bm r1
 | [],_,_,_,_=>rfl
 | r::rs,k,r1,r2,hl=>by
  simp only[ch] at hl
  simp only[aZ]
  rw[List.take_append_of_le_length (by omega),List.drop_append_of_le_length (by omega),kx rs _ _ r2 (by simp;omega)]
end
end Go.Proofs.YtngbcccnjiaddaaGreat.Vm
set_option linter.unusedVariables false
set_option linter.unusedSimpArgs false
namespace Go.Proofs.YtngbcccnjiaddaaGreat.Vm
section
variable {P:Program} {Γ:Ctx} {w0:World} {S:Own} {st:St} {o:Oper} {e:cB} {a:Act} {w w':World}
variable {f:Nat→SV} {h:Nat→Option ai} {β:Env} {φ:Nat→List Nat} {tm:Array Value}
theorem Bs (d_:bt P Γ) {s:Sum} {g:Nat} (hs:Fz Γ g=some s) (eI:s.Gl=false) (F6:s.pt=none) (I4:s.ms≠[]) (hR:Rel w0 S st a w) (hd:∀d,o.dst=some d→ba st.n d) (bI:∀d,o.dst=some d→e.ow≠[]→bC st d)
  {l:List SV} {us:List Value} (Jx:∀fn,P.funcs[g]? =some fn→fn.body.isSome=true→(fn.name== "runtime.NumGoroutine")=false→(execOp a.eval o).run P w= .ok (.enter g us.toArray) w)
  (hl:∀β φ,Core w0 S st.get st.obj β φ a.tmps w→af w (Av st.obj β) β l us) (he:(m7 s o.dst l).val st.get st.obj=some e) (aF:e.ok=true):Good P w0 S st o e a w:=by
 have hH:BO P g s:=by
  have h0:=d_ g s hs
  unfold gw at h0
  rw[eI,cond_false,F6] at h0
  simp only at h0
  split at h0
  ·rename_i hm
   exact absurd hm I4
  ·exact h0
 unfold m7 at he
 cases aD:Nat.blt (du s.rs) 64 && !(shares s) && (o.dst.isSome || s.rs.isEmpty)
 ·simp [aD] at he
 simp only[aD,cond_true,M.ae,Option.bind_eq_some_iff] at he
 obtain⟨r,hr,he⟩:=he
 cases IX:aI r.2.1 && cG (bz r.2.2) && (bz r.2.2).all (fun i=>bK i r.2.1)
 ·simp [IX] at he
 simp only[IX,cond_true,M.aa,Option.some.injEq] at he
 subst he
 simp only[Bool.and_eq_true,Bool.not_eq_true',List.all_eq_true] at aD IX
 obtain⟨⟨Gv,Al⟩,B1⟩:=aD
 obtain⟨⟨A6,It⟩,Kf⟩:=IX
 have Gv:du s.rs<64:=Nat.le_of_ble_eq_true Gv
 obtain⟨⟨fn,hf,hb,hn⟩,BX⟩:=hH
 obtain⟨β,φ,hc⟩:=hR.core
 obtain⟨fp,cv,iK,A7,kM⟩:=g_ hc s.ps s.ms l _ r (hl β φ hc) hr
 have JO:=eN hc A7 It
 have JN:∀b∈r.2.2.flatMap (aL β),b ∉ fp:=by
  intro b hb Lk
  obtain⟨id,db,ob,aM,iv⟩:=dN (β:=β) A7 b hb
  rcases kM b Lk with h3 | ⟨x,hx,jR⟩
  ·exact h3 (.inl ⟨id,ob,aM,iv⟩)
  ·obtain⟨_,BM,_⟩:=iK x hx
   rw[eE BM] at jR
   have cm:x.1≠id:=mS (Kf id db) x hx
   exact hc.sep x.1 id _ ob cm BM aM b (aj (hc.aB _ _ BM) b jR) (aj (hc.aB _ _ aM) b iv)
 intro Q
 unfold Oper.wp
 rw[Jx fn hf hb hn,Oper.upon_enter]
 refine (BX w r.1 _ fp _ cv JO JN aF).mono ?_
 rintro _ w' ⟨vs,Kr,im,tp,mg,rd,od,ψ,rfl,I0,kQ,hk,Ak,hnd,lM,Ij,Kl,LY,A1⟩
 have JI:im=[]:=eF.jr _ _ _ _ _ _ (by simpa [shares] using Al) Ak
 have HR:(s.fn r.1).2.drop (ch s.rs)=od:=by rw[I0,←kQ,List.drop_left]
 have Iq:aZ (o.dst.getD 0) 0 s.rs (s.fn r.1).2=aZ (o.dst.getD 0) 0 s.rs rd:=by rw[I0,kx _ _ _ _ kQ]
 obtain⟨N,n1,n2,n3,n4,n5,n6⟩:=iU (d:=o.dst.getD 0) s.rs 0 _ vs Kr im tp Ak
 obtain⟨_,T,hT,Jo,A0⟩:=lj (w':=w') hc s.ps s.ms l _ r od mg ψ (hl β φ hc) hr Ij (fun b hb=>hb)
 have Kw:T.map fB.id=bz r.2.2:=by
  rw[←eM r.2.2 od,←hT,List.map_map]
  rfl
 have jg:=hc.fW r.2.1 iK A6
 have HC:N≠[]→∃d,o.dst=some d:=by
  intro cm
  cases aJ:o.dst with
  | some d=>exact⟨d,rfl⟩
  | none=>
   rw[aJ] at B1
   simp only[Option.isSome_none,Bool.false_or] at B1
   have Kb:s.rs=[]:=List.isEmpty_iff.1 B1
   rw[Kb] at n2
   simp only[du,List.range'_zero,List.map_nil,List.map_eq_nil_iff] at n2
   exact absurd n2 cm
 have B5:∀x∈N,x.id / 64=o.dst.getD 0∧x.id∈N.map (·.id):=by
  intro x hx
  have hm:x.id∈N.map (·.id):=List.mem_map_of_mem hx
  refine⟨?_,hm⟩
  rw[n2] at hm
  obtain⟨j,hj,fJ⟩:=List.mem_map.1 hm
  rw[←fJ]
  have:=List.mem_range'_1.1 hj
  exact cy _ j (by omega)
 have B4:(N.map (·.id)).Nodup:=by
  rw[n2]
  refine List.Pairwise.map _ ?_ (List.nodup_range' ..)
  intro x y mO e
  unfold ag at e
  omega
 have hle:=hR.kept.size
 have FT:∀x∈T,x.id∈bz r.2.2:=by
  intro x hx
  rw[←Kw]
  exact List.mem_map_of_mem hx
 have Ed:∀b∈r.2.2.flatMap (aL β),Av st.obj β b:=by
  intro b hb
  obtain⟨id,db,ob,aM,iv⟩:=dN (β:=β) A7 b hb
  exact .inl ⟨id,ob,aM,iv⟩
 have hval:∀x∈N,(β.bS N T).val x.id=x.v:=by
  intro x hx
  simp [Env.bS,Bf hx B4]
 let h':Nat→Option ai:=kH N T (fo (ah r.2.1) st.obj)
 have D_:∀b∈mg,¬Av h' (β.bS N T) b:=by
  rintro b hb (⟨j,oj,hj,bn⟩ | fl)
  case inr=>
   have EV:=A1 b hb
   have Lm:=(jg.gr b fl).1
   rcases EV.1 with B3 | D2
   ·rcases kM b B3 with h3 | ⟨x,hx,jR⟩
    ·exact h3 (.inr fl)
    ·exact c_ hc iK hx jR (.inr fl)
   ·omega
  have EV:=A1 b hb
  cases iW:eX N j with
  | some x=>
   simp only[h',kH,iW,Option.some.injEq] at hj
   subst hj
   have hx:=(aU iW).1
   refine EV.2.1 ?_
   rw[←n5]
   refine List.mem_flatMap.2 ⟨x,hx, ?_⟩
   obtain⟨_,rfl⟩:=aU iW
   rwa [x.ir (by simp [Env.bS,iW]) (by simp [Env.bS,iW])] at bn
  | none=>
   simp only[h',kH,iW] at hj
   cases hu:mo T j with
   | some x=>
    simp only[hu,Option.some.injEq] at hj
    subst hj
    obtain⟨KO,rfl⟩:=cI hu
    have h1:b∈x.bO:=by
     have gJ:=(A0 x KO).2.2 (fun _=>False) (β.bS N T) (by simp [Env.bS,iW]) rfl (by simp [Env.bS,iW,hu]) (fun _ _ h=>h)
     exact aj gJ b bn
    exact EV.2.2 (by rw[←Jo];exact List.mem_flatMap.2 ⟨x,KO,h1⟩)
   | none=>
    simp only[hu] at hj
    have BW:b∈ao β j oj:=by
     cases oj<;>simp only[ao,Env.bS,iW,hu] at bn ⊢ <;>exact bn
    have Jq:=((jg.fresh j oj hj).2 b (aj (jg.aB j oj hj) b BW)).2
    rcases EV.1 with B3 | D2
    ·rcases kM b B3 with h3 | ⟨x,hx,jR⟩
     ·exact h3 (fE (.inl ⟨j,oj,hj,BW⟩))
     ·exact c_ hc iK hx jR (.inl ⟨j,oj,hj,BW⟩)
    ·omega
 have Js:=jg.Jg (N:=N) (U:=T) (im:=mg) (mb:=r.2.2.flatMap (aL β)) hk.size hle ?_ ?_ ?_ ?_ (by rw[Jo];exact Kl) (by rw[Jo,n4];exact LY) D_ ?_ n3 (by rw[n4];exact hnd) (by rw[n4];exact lM)
 ·have d8:=n6 (Av h' (β.bS N T)) (β.bS N T) hval (by rw[JI];simp)
  have B6:Kept S w0 w':=by
   refine⟨hk.os.trans hR.kept.os,hk.tape.trans hR.kept.tape,hk.output.trans hR.kept.output,by have:=hk.size;omega,fun k h1 h2=> ?_⟩
   refine (hk.block k (by omega) (fun Fh=> ?_)).trans (hR.kept.block k h1 h2)
   obtain⟨id,db,ob,aM,iv⟩:=dN (β:=β) A7 k Fh
   rcases ((hc.fresh id ob aM).2 k (aj (hc.aB _ _ aM) k iv)).1 with h3 | h3
   ·omega
   ·exact h2 h3
  have I1:fo ((aZ (o.dst.getD 0) 0 s.rs (s.fn r.1).2).2++(jZ r.2.2 ((s.fn r.1).2.drop (ch s.rs))++ah r.2.1)) (fc none st.obj)=h':=by
   funext j
   have:((bL r.2.2 od).map fun x=>(x.1,some x.2))=T.map fun x=>(x.id,some x.obj):=by
    rw[←hT,List.map_map]
    rfl
   rw[Iq,HR,n1,jq,this,Ae,D1]
   rfl
  refine⟨pack vs,rfl,ie hR hd B6 ⟨β.bS N T,gx N T (bf φ r.2.1), ?_, ?_⟩⟩
  ·show Core w0 S st.get (fo ((aZ (o.dst.getD 0) 0 s.rs (s.fn r.1).2).2++(jZ r.2.2 ((s.fn r.1).2.drop (ch s.rs))++ah r.2.1)) (fc none st.obj)) _ _ _ _
   rw[I1]
   exact Js
  ·show ak w' (Av (fo ((aZ (o.dst.getD 0) 0 s.rs (s.fn r.1).2).2++(jZ r.2.2 ((s.fn r.1).2.drop (ch s.rs))++ah r.2.1)) (fc none st.obj)) (β.bS N T)) (β.bS N T) (gW (aZ (o.dst.getD 0) 0 s.rs (s.fn r.1).2).1) (pack vs)
   rw[I1,Iq]
   generalize (aZ (o.dst.getD 0) 0 s.rs rd).1=q at d8
   match q,vs,d8 with
   | [],vs,d8=>
    simp only[af] at d8
    subst d8
    simp only[gW,pack,ak]
    exact⟨[],rfl,by simp [af]⟩
   | [x],vs,d8=>
    simp only[af] at d8
    obtain⟨v,l',rfl,h1,rfl⟩:=d8
    exact h1
   | x::y::q,vs,d8=>
    have Ek:=d8
    simp only[af] at d8
    obtain⟨v,l',rfl,h1,v2,l2,rfl,h2,h3⟩:=d8
    simp only[gW,pack]
    unfold ak
    exact⟨v::v2::l2,rfl,Ek⟩
 ·intro b hb
  obtain⟨id,db,ob,aM,iv⟩:=dN (β:=β) A7 b hb
  rw[←Kw] at db
  obtain⟨x,hx,rfl⟩:=List.mem_map.1 db
  exact⟨x,hx,ob,by rw[lJ (Kf _ (FT x hx))];exact aM,iv⟩
 ·exact fun b hb kO=>hk.block b hb kO
 ·intro x hx
  obtain⟨⟨ob,h1⟩,h2,_⟩:=A0 x hx
  exact⟨⟨ob,by rw[lJ (Kf _ (FT x hx))];exact h1⟩,h2⟩
 ·exact fun x hx=>(A0 x hx).2.2
 ·intro x hx
  have h1:=(B5 x hx).1
  obtain⟨d,aJ⟩:=HC (fun h0=>by rw[h0] at hx;simp at hx)
  have bI:=bI d aJ (by
   show (aZ (o.dst.getD 0) 0 s.rs (s.fn r.1).2).2++_≠[]
   rw[Iq,n1]
   intro h0
   rw[List.append_eq_nil_iff] at h0
   have:N=[]:=by simpa [gh] using h0.1
   rw[this] at hx
   simp at hx)
  rw[aJ] at h1
  simp only[Option.getD_some] at h1
  refine⟨?_,fun i hi=>bI.slot i _ hi h1,fun k ok B6 hi=> ?_⟩
  ·cases hn:fo (ah r.2.1) st.obj x.id with
   | none=>rfl
   | some ob=>
    rcases cY hn with h2 | ⟨e',r',rfl,y,hy,h2⟩
    ·exact absurd h1 (bI.obj _ ob h2).1
    ·obtain⟨_,h3,_⟩:=iK y hy
     rw[h2] at h3
     exact absurd h1 (bI.obj _ _ h3).1
  ·rcases cY B6 with h2 | ⟨e',r',rfl,_⟩
   ·exact (bI.obj k ok h2).2 _ hi h1
   ·simp [bZ] at hi
end
end Go.Proofs.YtngbcccnjiaddaaGreat.Vm
set_option linter.unusedVariables false
set_option linter.unusedSimpArgs false
namespace Go.Proofs.YtngbcccnjiaddaaGreat.Vm
section
variable {P:Program} {Γ:Ctx} {w0:World} {S:Own} {st:St} {o:Oper} {e:cB} {a:Act} {w w':World}
variable {f:Nat→SV} {h:Nat→Option ai} {β:Env} {φ:Nat→List Nat} {tm:Array Value}
theorem aS.all {av:Nat→Prop} {cs:List CT} {r:List DC} {us:List Value} {fp:List Nat} (hr:aS w cs r (fun j=>us[j]?) fp) (hl:us.length=cs.length) (ha:∀b∈fp,¬av b):af w av β (bM cs r 0) us:=by
 obtain⟨vs,l1,l2,l3,l4⟩:=aS.bE (β:=β) hr ha cs.length 0 (by omega)
 have e:vs=us:=by
  apply List.ext_getElem?
  intro j
  by_cases hj:j<vs.length
  ·have:=l2 j vs[j] (by simp)
   simp only[Nat.zero_add] at this
   rw[this]
   simp
  ·rw[List.getElem?_eq_none (by omega),List.getElem?_eq_none (by omega)]
 subst e
 simpa only[List.drop_zero,List.take_length] using l3
end
end Go.Proofs.YtngbcccnjiaddaaGreat.Vm
