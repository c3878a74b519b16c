/- The value machine: calls, every operation, regions in every order. Conditions: as each lemma says. -/
import Derived.Test.YtnlkklmcfafgeaaGreatVb
import Derived.ArgAppend
set_option linter.unusedVariables false
set_option linter.unusedSimpArgs false
namespace Go.Proofs.YtnlkklmcfafgeaaGreat.Vm
section
variable {P:Program} {Γ:Ctx} {w0:World} {S:Own} {st:St} {o:Oper} {e:cJ} {a:Act} {w w':World}
variable {f:Nat→SV} {h:Nat→Option aj} {β:Env} {φ:Nat→List Nat} {tm:Array Value}
theorem Bh (hR:Rel w0 S st a w) (hd:∀d,o.dst=some d→bc st.n d) {t:TypeId} {x:Operand} {lo hi:Option Operand} (ho:o.op= .slice t x lo hi none) {sx:SV} {D2 D1:Option SV}
  (h1:(cd x).val st.get st.obj=some sx) (h2:(kj lo).val st.get st.obj=some D2) (h3:(kj hi).val st.get st.obj=some D1)
  (he:(C4 P t sx D2 D1).val st.get st.obj=some e) (aJ:e.ok=true):Good P w0 S st o e a w:=by
 unfold C4 at he
 split at he
 ·rename_i et id k l hu
  simp only[M.aT,Option.bind_eq_some_iff] at he
  obtain⟨ob,aK,he⟩:=he
  split at he
  ·rename_i t' ct r fz u
   cases hz:Nat.beq t' et && aY P et ct.length
   ·simp [hz] at he
   simp only[hz,cond_true,M.aa,Option.some.injEq] at he
   subst he
   simp only[Bool.and_eq_true] at hz
   simp only[Bool.and_eq_true,decide_eq_true_eq] at aJ
   obtain⟨i,dU,dB⟩:=aW hz.2
   refine ao hR hd rfl rfl fun β φ hc=> ?_
   have hx:=hc.ev h1
   simp only[ak] at hx
   obtain⟨vals,aA,aZ,_⟩:=hc.ay id _ aK
   rcases aZ.2 with ⟨_,h0,_⟩ | ⟨g,cap,cur,hv,hg,A1,D8,fB,Fa⟩
   ·omega
   have hb:=jn (P:=P) (isS:=true) (n:=r.length) (cap:=cap) (l:=l.toNat) (m:=r.length) (c:=decide (0≤l) && decide (l≤(r.length:Int))) A1 hc h2 h3 rfl (by simp only[Bool.and_eq_true,decide_eq_true_eq];exact aJ.1)
   refine⟨.slice (some ⟨g,if l.toNat<cap then l.toNat*ct.length else 0,none⟩) (r.length - l.toNat) (cap - l.toNat), ?_, ?_⟩
   ·have bs:(execOp a.eval o).run P w= .ok (.value (.slice (if cap=l.toNat then some ⟨g,0,none⟩ else (some (⟨g,0,none⟩:Addr)).map (·.add (l.toNat*i.size))) (r.length - l.toNat) (cap - l.toNat))) w:=by
     simp [execOp,ho,hx.1,hv,Instr.sliceAt,Instr.slice,run_underlying hu,hb,sizeOf,typeInfo,dU]
    rw[bs]
    by_cases cr:l.toNat<cap
    ·rw[if_neg (by omega),if_pos cr,dB]
     simp [dt]
    ·rw[if_pos (by omega),if_neg cr]
   ·simp only[ak]
    exact⟨g,r.length,cap,hv,by omega,rfl⟩
  ·simp at he
 ·simp at he
theorem dO.take {ct:List CT} {rows:List (List DC)} {vals:List Value} {aA:List (List Nat)} (de:dO w ct rows vals aA) (k:Nat):dO w ct (rows.take k) (vals.take (k*ct.length)) (aA.take k):=by
 refine⟨by simp [de.1],fun i r f hi hf=> ?_⟩
 rw[List.getElem?_take] at hi hf
 split at hi
 ·rename_i D9
  rw[if_pos D9] at hf
  refine bn.a9.jl (fun j u hj hu=> ?_) (de.2 i r f hi hf)
  rw[List.getElem?_take,if_pos]
  ·exact hu
  ·have:(i+1)*ct.length≤k*ct.length:=Nat.mul_le_mul_right _ D9
   rw[Nat.succ_mul] at this
   omega
 ·cases hi
theorem dO.drop {ct:List CT} {rows:List (List DC)} {vals:List Value} {aA:List (List Nat)} (de:dO w ct rows vals aA) (k:Nat):dO w ct (rows.drop k) (vals.drop (k*ct.length)) (aA.drop k):=by
 refine⟨by simp [de.1],fun i r f hi hf=> ?_⟩
 rw[List.getElem?_drop] at hi hf
 refine bn.a9.jl (fun j u hj hu=> ?_) (de.2 (k+i) r f hi hf)
 rw[List.getElem?_drop,←hu]
 congr 1
 rw[Nat.add_mul]
 omega
theorem C7 (hR:Rel w0 S st a w) (hd:∀d,o.dst=some d→bc st.n d) {t t2:TypeId} {x y:Operand} {c:Call} (ho:o.op= .call c) (hb:c.callee= .builtin .copy) (cy:c.args= #[x,y]) (F0:c.argTypes= #[t,t2]) {sx sy:SV}
  (h1:(cd x).val st.get st.obj=some sx) (h2:(cd y).val st.get st.obj=some sy) (he:(Ev P t sx sy).val st.get st.obj=some e) (aJ:e.ok=true):Good P w0 S st o e a w:=by
 unfold Ev at he
 split at he
 ·rename_i et id lo z s hu
  simp only[M.aT,Option.bind_eq_some_iff] at he
  obtain⟨ob,aK,he⟩:=he
  split at he
  ·rename_i t' ct r fz u
   cases hz:Nat.beq t' et && aY P et 1 && Nat.beq z 1 && aF ct [.int .u8]
   ·simp [hz] at he
   simp only[hz,cond_true,M.aa,Option.some.injEq] at he
   subst he
   simp only[Bool.and_eq_true] at hz
   have BJ:=aN _ _ hz.2
   subst BJ
   have mU:=Nat.eq_of_beq_eq_true hz.1.2
   subst mU
   obtain⟨i,hi,bu⟩:=aW hz.1.1.2
   have KE:lo≤r.length:=by simpa using aJ
   obtain⟨β,φ,hc⟩:=hR.core
   have E7:=hc.ev h1
   simp only[ak] at E7
   obtain⟨g,n,cap,hval,M4,BR⟩:=E7
   have hy:=hc.ev h2
   simp only[ak] at hy
   obtain⟨vals,aA,aZ,de,Hx,kz⟩:=hc.ay id _ aK
   have F1:g∈al β id (.row t' [.int .u8] r fz u):=by simp [al,hval,Value.ownBlock]
   rcases aZ.2 with ⟨GV,_,_⟩ | ⟨g',Ij,cur,hv',hg,A1,D8,fB,Fa⟩
   ·rw[hval] at GV;cases GV
   rw[hval] at hv'
   injection hv' with e1 e2 e3
   injection e1 with e1
   injection e1 with e1
   subst e1 e2 e3
   have CC:=ah (hc.ay id _ aK) g F1
   have LG:=(hc.fresh id _ aK).2 g CC
   have A6:=aZ.1
   simp only[List.length_cons,List.length_nil,Nat.zero_add,Nat.mul_one] at A6 fB Fa BR
   have BK:aq [CT.int .u8]=true:=rfl
   let us:List Value:=(s.take (r.length - lo)).map fun b=>Value.int .u8 b.toNat
   have CL:us.length=min s.length (r.length - lo):=by simp [us,Nat.min_comm]
   have bd:∀v∈us,v.oneCell'=true:=by
    intro v hv
    simp only[us,List.mem_map] at hv
    obtain⟨b,_,rfl⟩:=hv
    rfl
   have EP:∀j,j<cur.size→¬((bif fz then (cur.size,cur.size+1) else ((0,0):Nat×Nat)).1≤j∧j<(bif fz then (cur.size,cur.size+1) else ((0,0):Nat×Nat)).2):=by
    intro j hj
    cases fz<;>simp<;>omega
   have HJ:us=[]∨(if lo<cap then lo else 0)=lo:=by
    rcases Nat.lt_or_ge lo cap with h3 | h3
    ·exact .inr (if_pos h3)
    ·refine .inl ?_
     have:us.length=0:=by rw[CL];omega
     exact List.eq_nil_of_length_eq_zero this
   have HO:(storeCells ⟨g,if lo<cap then lo else 0,none⟩ us 0).run P w= .ok () (w.setRow g (cur.toList.take lo++(us++cur.toList.drop (lo+us.length))).toArray):=by
    rcases HJ with h3 | h3
    ·rw[h3]
     simp only[storeCells,List.nil_append,List.length_nil,Nat.add_zero,List.take_append_drop,Array.toArray_toList]
     rw[setRow_self w g cur t' _ hg]
     rfl
    ·rw[h3]
     have:=bR P g lo t' _ us 0 cur w hg EP (by rw[CL,fB];omega) bd
     simpa only[Nat.add_zero] using this
   have mh:(Builtin.firstCells i.size (Nat.min s.length (r.length - lo)) (.string ⟨s.toArray⟩)).run P w= .ok us.toArray w:=by
    have:((⟨s.toArray⟩:ByteArray).extract 0 (Nat.min s.length (r.length - lo))).data.map (fun b=>Value.int .u8 b.toNat)=us.toArray:=by
     rw[iv]
     have e5:s.take (Nat.min s.length (r.length - lo))=s.take (r.length - lo):=by
      rcases Nat.le_total s.length (r.length - lo) with h3 | h3
      ·rw[show Nat.min s.length (r.length - lo)=s.length from Nat.min_eq_left h3,List.take_length,List.take_of_length_le h3]
      ·rw[show Nat.min s.length (r.length - lo)=r.length - lo from Nat.min_eq_right h3]
     simp [us,e5]
    simp only[Builtin.firstCells,Sem.run_pure,this]
   have mj:(cur.toList.take lo++(us++cur.toList.drop (lo+us.length))).length=cur.size:=by
    simp only[List.length_append,List.length_take,List.length_drop,Array.length_toList]
    omega
   have eJ:(r.take lo++(((s.take (r.length - lo)).map cS)++r.drop (lo+min s.length (r.length - lo)))).length=r.length:=by
    simp only[List.length_append,List.length_take,List.length_drop,List.length_map]
    omega
   have Ky:dO w [.int .u8] ((s.take (r.length - lo)).map cS) us (List.replicate us.length []):=by
    refine⟨by simp [us],fun k r' f' hk hf=> ?_⟩
    have FM:k<(s.take (r.length - lo)).length:=by
     have:=(List.getElem?_eq_some_iff.1 hk).1
     simpa using this
    have E6:r'=cS (s.take (r.length - lo))[k]:=by
     rw[List.getElem?_map,List.getElem?_eq_getElem FM] at hk
     simpa using hk.symm
    have Bq:f'=[]:=by
     have:=List.mem_of_getElem? hf
     exact (List.mem_replicate.1 this).2
    subst E6 Bq
    unfold cS
    simp only[a9,bY]
    refine⟨.int (s.take (r.length - lo))[k].toNat,[],.int .u8 (s.take (r.length - lo))[k].toNat,[],[],rfl, ?_,⟨_,rfl,rfl, ?_,rfl⟩,⟨rfl,rfl⟩,rfl⟩
    ·simp only[us,List.length_cons,List.length_nil,Nat.zero_add,Nat.mul_one,Nat.add_zero]
     rw[List.getElem?_map,List.getElem?_eq_getElem FM]
     rfl
    ·rw[eB]
     have h1:IntKind.u8.min=0:=by decide
     have h2:IntKind.u8.max=255:=by decide
     have:=(s.take (r.length - lo))[k].toNat_lt
     omega
   have ml:dO w [.int .u8] (r.take lo++(((s.take (r.length - lo)).map cS)++r.drop (lo+min s.length (r.length - lo)))) (vals.take lo++(us++vals.drop (lo+us.length))) (aA.take lo++(List.replicate us.length []++aA.drop (lo+us.length))):=by
    have a1:=de.take lo
    have a2:=de.drop (lo+us.length)
    simp only[List.length_cons,List.length_nil,Nat.zero_add,Nat.mul_one] at a1 a2
    rw[←CL]
    refine a1.append ?_ (Ky.append ?_ a2)
    ·simp only[List.length_cons,List.length_nil,Nat.zero_add,Nat.mul_one,List.length_take,A6]
    ·simp [us]
   have Hs:=ml.flat BK
   have HP:φ id=[g]:=by
    rw[kz,de.flat BK,hval]
    cases u<;>simp [Value.ownBlock]
   refine bM hR hd (v:= .int .i64 (min s.length (r.length - lo):Nat)) (w':=w.setRow g (cur.toList.take lo++(us++cur.toList.drop (lo+us.length))).toArray) ?_ (hR.kept.setRow LG.1 _)
    ⟨β,az φ id [g], ?_, ?_⟩
   ·have Bu:Nat.min s.length (r.length - lo)=min s.length (r.length - lo):=rfl
    simp [execOp,ho,resolve,hb,cy,F0,invoke,builtin,Builtin.copy_,run_underlying hu,BR,hy.1,Builtin.lenOf,sizeOf,typeInfo,hi,dz,mh,HO,goInt]
   ·show Core w0 S st.get (az st.obj id (some (.row t' [.int .u8] (r.take lo++(((s.take (r.length - lo)).map cS)++r.drop (lo+min s.length (r.length - lo)))) fz u))) _ _ _ _
    refine hc.rewrite aK F1 (fun b ax=>ax) ?_ (by simp) ?_
    ·refine⟨vals.take lo++(us++vals.drop (lo+us.length)),aA.take lo++(List.replicate us.length []++aA.drop (lo+us.length)),⟨?_,.inr ⟨g,cap,(cur.toList.take lo++(us++cur.toList.drop (lo+us.length))).toArray,by rw[eJ];exact hval, ?_,by rw[eJ];exact A1,D8, ?_, ?_⟩⟩, ?_, ?_, ?_⟩
     ·rw[eJ]
      simp only[List.length_cons,List.length_nil,Nat.zero_add,Nat.mul_one,List.length_append,List.length_take,List.length_drop,A6]
      omega
     ·rw[setRow_heap w _ _ _ _ _ hg]
      simp only[List.size_toArray,mj]
     ·simp only[List.size_toArray,mj,List.length_cons,List.length_nil,Nat.zero_add,Nat.mul_one]
      exact fB
     ·rw[eJ]
      simp only[List.length_cons,List.length_nil,Nat.zero_add,Nat.mul_one]
      rw[iw _ _ _ _ (by omega) (by simp only[Array.length_toList];omega),Fa]
     ·exact ml.mono (by simp) (fun b ax=>by rw[Hs] at ax;simp at ax)
     ·rw[Hs];simp
     ·rw[Hs,hval]
      cases u<;>simp [Value.ownBlock]
    ·intro b ax
     have Mh:b=g:=by simpa using ax
     subst Mh
     exact⟨LG,fun j oj hj ja=>hc.sep id j _ _ (Ne.symm hj) aK ja b CC⟩
   ·unfold ak
    refine⟨rfl, ?_⟩
    rw[eB]
    have h1:IntKind.i64.min= -9223372036854775808:=by decide
    have h2:IntKind.i64.max=9223372036854775807:=by decide
    have:=hy.2
    simp only[maxLen] at this
    omega
  ·simp at he
 ·simp at he
end
end Go.Proofs.YtnlkklmcfafgeaaGreat.Vm
set_option linter.unusedVariables false
set_option linter.unusedSimpArgs false
namespace Go.Proofs.YtnlkklmcfafgeaaGreat.Vm
theorem cY (c:CT):(∃e,c= .sl e)∨aq [c]=true:=by
 cases c with
 | sl e=>exact .inl ⟨e,rfl⟩
 | _=>exact .inr rfl
theorem fm {c:CT} {cs:List CT} :aq (c::cs)=(aq [c] && aq cs):=by
 cases c<;>rfl
theorem d4 {c:CT} {cs:List CT} (hc:aq [c]=true):aB (c::cs)=aB cs:=by
 cases c with
 | sl e=>simp [aq] at hc
 | _=>rfl
theorem d5:∀ {cs:List CT},aB cs=0→aq cs=true
 | [],_=>rfl
 | c::cs,h=>by
  rcases cY c with ⟨e,rfl⟩ | hc
  ·simp [aB] at h
  ·rw[d4 hc] at h
   rw[fm,hc,d5 h]
   rfl
theorem d3:∀(a b:List CT),aB (a++b)=aB a+aB b
 | [],b=>by simp [aB]
 | c::cs,b=>by
  rcases cY c with ⟨e,rfl⟩ | hc
  ·simp only[List.cons_append,aB,d3 cs b];omega
  ·rw[List.cons_append,d4 hc,d4 hc,d3 cs b]
theorem flat_get:∀ {cs:List CT} {k:Nat} {e:List CT},aq cs=true→cs[k]? =some (.sl e)→False
 | [],k,e,_,h=>by simp at h
 | c::cs,k,e,hf,h=>by
  rw[fm,Bool.and_eq_true] at hf
  cases k with
  | zero=>
   simp only[List.getElem?_cons_zero,Option.some.injEq] at h
   subst h
   simp [aq] at hf
  | succ k=>exact flat_get hf.2 (by simpa using h)
section
variable {w:World}
theorem ab.length {hv:Option Value} :∀(cs:List CT) (ts:List TypeId) (ds:List DC) (us:List Value) (mb:List Nat),ab w hv cs ts ds us mb→us.length=cs.length∧ds.length=cs.length
 | [],_,_,_,_,h=>by
  simp only[ab] at h
  obtain⟨_,rfl,rfl,_⟩:=h
  exact⟨rfl,rfl⟩
 | c::cs,_,_,_,_,h=>by
  rcases cY c with ⟨e,rfl⟩ | hc
  ·simp only[ab] at h
   obtain⟨t,dN,rows,aX,v,aM,m1,gb,rfl,rfl,rfl,_,_,h6,rfl⟩:=h
   have:=ab.length cs _ _ _ _ h6
   simp [this.1,this.2]
  ·rw[ab.flat hc] at h
   obtain⟨d,aX,v,aM,rfl,rfl,_,h4⟩:=h
   have:=ab.length cs _ _ _ _ h4
   simp [this.1,this.2]
theorem ab.lt {hv:Option Value} :∀(cs:List CT) (ts:List TypeId) (ds:List DC) (us:List Value) (mb:List Nat),ab w hv cs ts ds us mb→∀b∈mb,b<w.heap.size
 | [],_,_,_,_,h=>by
  simp only[ab] at h
  simp [h.2.2.2]
 | c::cs,_,_,_,_,h=>by
  rcases cY c with ⟨e,rfl⟩ | hc
  ·simp only[ab] at h
   obtain⟨t,dN,rows,aX,v,aM,m1,gb,rfl,rfl,rfl,_,h5,h6,rfl⟩:=h
   intro b hb
   rcases List.mem_append.1 hb with hb | hb
   ·cases hv with
    | none=>
     obtain⟨vals,aA,g1,_,rfl⟩:=h5
     exact g1.lt b hb
    | some v0=>
     rw[h5.2.2] at hb
     simp at hb
   ·exact ab.lt cs _ _ _ _ h6 b hb
  ·rw[ab.flat hc] at h
   obtain⟨d,aX,v,aM,rfl,rfl,_,h4⟩:=h
   exact ab.lt cs _ _ _ _ h4
theorem bK.lt {e:List CT} {ts:List TypeId} {rows:List (List DC)} {vals:List Value} {hv:Nat→Option Value} {aS:List (List Nat)} (h:bK w e ts rows vals hv aS):∀b∈aS.flatten,b<w.heap.size:=by
 intro b hb
 obtain⟨m,hm,hb⟩:=List.mem_flatten.1 hb
 obtain⟨i,hi,rfl⟩:=List.getElem_of_mem hm
 have dU:i<rows.length:=by have:=h.1;omega
 exact ab.lt _ _ _ _ _ (h.2 i rows[i] aS[i] (by simp) (by simp)) b hb
theorem ab.split {hv:Option Value} :∀(AP ll:List CT) (ts:List TypeId) (ds:List DC) (us:List Value) (mb:List Nat),ab w hv (AP++ll) ts ds us mb→
  ∃Gt H4 m1 m2,ts=Gt++H4∧mb=m1++m2∧ab w hv AP Gt (ds.take AP.length) (us.take AP.length) m1∧ab w hv ll H4 (ds.drop AP.length) (us.drop AP.length) m2
 | [],ll,ts,ds,us,mb,h=>⟨[],ts,[],mb,rfl,rfl,by simp [ab],by simpa using h⟩
 | c::cs,ll,_,_,_,_,h=>by
  rw[List.cons_append] at h
  rcases cY c with ⟨e,rfl⟩ | hc
  ·simp only[ab] at h
   obtain⟨t,dN,rows,aX,v,aM,m1,gb,rfl,rfl,rfl,h4,h5,h6,rfl⟩:=h
   obtain⟨a1,a2,b1,b2,rfl,rfl,k1,k2⟩:=ab.split cs ll _ _ _ _ h6
   refine⟨t::a1,a2,m1++b1,b2,rfl,by simp, ?_,by simpa using k2⟩
   simp only[ab,List.length_cons,List.take_succ_cons]
   exact⟨t,a1,rows,_,v,_,m1,b1,rfl,rfl,rfl,h4,h5,k1,rfl⟩
  ·rw[ab.flat hc] at h
   obtain⟨d,aX,v,aM,rfl,rfl,h3,h4⟩:=h
   obtain⟨a1,a2,b1,b2,rfl,rfl,k1,k2⟩:=ab.split cs ll _ _ _ _ h4
   refine⟨a1,a2,b1,b2,rfl,rfl, ?_,by simpa using k2⟩
   rw[ab.flat hc]
   simp only[List.length_cons,List.take_succ_cons]
   exact⟨d,_,v,_,rfl,rfl,h3,k1⟩
theorem ab.join {hv:Option Value} :∀(AP ll:List CT) (Gt H4:List TypeId) (d1 d2:List DC) (u1 u2:List Value) (m1 m2:List Nat),ab w hv AP Gt d1 u1 m1→ab w hv ll H4 d2 u2 m2→
  ab w hv (AP++ll) (Gt++H4) (d1++d2) (u1++u2) (m1++m2)
 | [],ll,_,_,_,_,_,_,_,_,h,h2=>by
  simp only[ab] at h
  obtain⟨rfl,rfl,rfl,rfl⟩:=h
  simpa using h2
 | c::cs,ll,_,_,_,_,_,_,_,_,h,h2=>by
  rcases cY c with ⟨e,rfl⟩ | hc
  ·simp only[ab] at h
   obtain⟨t,dN,rows,aX,v,aM,m1,gb,rfl,rfl,rfl,h4,h5,h6,rfl⟩:=h
   simp only[List.cons_append,ab]
   exact⟨t,_,rows,_,v,_,m1,_,rfl,rfl,rfl,h4,h5,ab.join cs ll _ _ _ _ _ _ _ _ h6 h2,by simp⟩
  ·rw[ab.flat hc] at h
   obtain⟨d,aX,v,aM,rfl,rfl,h3,h4⟩:=h
   simp only[List.cons_append]
   rw[ab.flat hc]
   exact⟨d,_,v,_,rfl,rfl,h3,ab.join cs ll _ _ _ _ _ _ _ _ h4 h2⟩
theorem ab.CU {hv:Option Value} :∀(cs:List CT) (ds:List DC) (us:List Value) (fp:List Nat),aq cs=true→a9 w cs ds (fun j=>us[j]?) fp→us.length=cs.length→ab w hv cs [] ds us []
 | [],ds,us,fp,_,h,hl=>by
  simp only[a9] at h
  simp only[ab]
  exact⟨trivial,h.1,by simpa using hl,trivial⟩
 | c::cs,ds,us,fp,hf,h,hl=>by
  rw[fm,Bool.and_eq_true] at hf
  simp only[a9] at h
  obtain⟨d,r',v,f1,f2,rfl,h0,h1,h2,rfl⟩:=h
  cases us with
  | nil=>simp at hl
  | cons u us=>
   simp only[List.getElem?_cons_zero,Option.some.injEq] at h0
   subst h0
   rw[ab.flat hf.1]
   refine⟨d,r',u,us,rfl,rfl, ?_,ab.CU cs r' us f2 hf.2 (by simpa using h2) (by simpa using hl)⟩
   have hz:f1=[]:=dO.lZ [c] [d] (fun _=>some u) f1 hf.1 (by simp only[a9];exact⟨d,[],u,f1,[],rfl,rfl,h1,by simp,by simp⟩)
   subst hz
   exact h1
theorem ab.toFlat {hv:Option Value} :∀(cs:List CT) (ts:List TypeId) (ds:List DC) (us:List Value) (mb:List Nat),aq cs=true→ab w hv cs ts ds us mb→ts=[]∧mb=[]∧a9 w cs ds (fun j=>us[j]?) []
 | [],_,_,_,_,_,h=>by
  simp only[ab] at h
  obtain⟨rfl,rfl,rfl,rfl⟩:=h
  exact⟨rfl,rfl,by simp [a9]⟩
 | c::cs,_,_,_,_,hf,h=>by
  rw[fm,Bool.and_eq_true] at hf
  rw[ab.flat hf.1] at h
  obtain⟨d,aX,v,aM,rfl,rfl,h3,h4⟩:=h
  obtain⟨k1,k2,k3⟩:=ab.toFlat cs _ _ _ _ hf.2 h4
  refine⟨k1,k2, ?_⟩
  simp only[a9]
  exact⟨d,aX,v,[],[],rfl,rfl,h3,by simpa using k3,rfl⟩
theorem ab.Bd {hv hv':Option Value} {cs:List CT} {ts:List TypeId} {ds:List DC} {us:List Value} {mb:List Nat} (hf:aq cs=true) (h:ab w hv cs ts ds us mb):ab w hv' cs ts ds us mb:=by
 obtain⟨rfl,rfl,k3⟩:=ab.toFlat _ _ _ _ _ hf h
 exact ab.CU _ _ _ _ hf k3 (ab.length _ _ _ _ _ h).1
theorem ab.out:∀(e:List CT) (off:Nat) (e':List CT) (ts:List TypeId) (r:List DC) (us:List Value) (m:List Nat),e[off]? =some (.sl e')→aB e=1→ab w none e ts r us m→
  ∃t1 v rws,ts=[t1]∧us[off]? =some v∧r[off]? =some (.sl rws)∧aq e'=true∧J5 w none t1 e' rws v m∧ab w (some v) e [t1] r us []
 | [],_,_,_,_,_,_,h,_,_=>by simp at h
 | c::cs,off,e',_,_,_,_,h,hn,hc=>by
  rcases cY c with ⟨e,rfl⟩ | hf
  ·simp only[aB] at hn
   have eA:aq cs=true:=d5 (by omega)
   cases off with
   | zero=>
    simp only[List.getElem?_cons_zero,Option.some.injEq,CT.sl.injEq] at h
    subst h
    simp only[ab] at hc
    obtain⟨t,dN,rows,aX,v,aM,m1,gb,rfl,rfl,rfl,h4,h5,h6,rfl⟩:=hc
    obtain⟨rfl,rfl,_⟩:=ab.toFlat _ _ _ _ _ eA h6
    have bd:v.oneCell'=true:=by
     obtain⟨vals,aA,g1,_⟩:=h5
     exact g1.one
    refine⟨t,v,rows,rfl,rfl,rfl,h4,by simpa using h5, ?_⟩
    simp only[ab]
    exact⟨t,[],rows,aX,v,aM,[],[],rfl,rfl,rfl,h4,⟨rfl,bd,rfl⟩,ab.Bd eA h6,rfl⟩
   | succ k=>exact (flat_get eA (by simpa using h)).elim
  ·cases off with
   | zero=>
    simp only[List.getElem?_cons_zero,Option.some.injEq] at h
    subst h
    simp [aq] at hf
   | succ k=>
    rw[ab.flat hf] at hc
    obtain⟨d,aX,v,aM,rfl,rfl,h3,h4⟩:=hc
    rw[d4 hf] at hn
    obtain⟨t1,v1,rws,rfl,k1,k2,k3,k4,k5⟩:=ab.out cs k e' _ _ _ _ (by simpa using h) hn h4
    refine⟨t1,v1,rws,rfl,by simpa using k1,by simpa using k2,k3,k4, ?_⟩
    rw[ab.flat hf]
    exact⟨d,aX,v,aM,rfl,rfl,h3,k5⟩
theorem C1 {c:CT} {cs:List CT} (hc:aq [c]=true):ea (c::cs)=ea cs+1:=by
 cases c with
 | sl e=>simp [aq] at hc
 | _=>rfl
theorem ab.back {v:Value} {rws:List (List DC)} {m1:List Nat} :∀(e:List CT) (e':List CT) (t1:TypeId) (r:List DC) (us:List Value) (m:List Nat),e[ea e]? =some (.sl e')→aB e=1→ab w (some v) e [t1] r us m→
  J5 w none t1 e' rws v m1→ab w none e [t1] (bT r (ea e) [.sl rws]) us m1
 | [],_,_,_,_,_,h,_,_,_=>by simp [ea] at h
 | c::cs,e',t1,_,_,_,h,hn,hc,hs=>by
  rcases cY c with ⟨e,rfl⟩ | hf
  ·simp only[aB] at hn
   have eA:aq cs=true:=d5 (by omega)
   simp only[ea,List.getElem?_cons_zero,Option.some.injEq,CT.sl.injEq] at h
   subst h
   simp only[ab] at hc
   obtain⟨t,dN,rows,aX,v',aM,M7,gb,h1,rfl,rfl,h4,⟨rfl,bd,rfl⟩,h6,rfl⟩:=hc
   simp only[List.cons.injEq] at h1
   obtain⟨rfl,rfl⟩:=h1
   obtain⟨_,rfl,_⟩:=ab.toFlat _ _ _ _ _ eA h6
   simp only[ea,bT,ab]
   exact⟨t1,[],rws,aX,v',aM,m1,[],rfl,by simp,rfl,h4,hs,ab.Bd eA h6,by simp⟩
  ·rw[C1 hf] at h ⊢
   rw[ab.flat hf] at hc ⊢
   obtain⟨d,aX,v',aM,rfl,rfl,h3,h4⟩:=hc
   rw[d4 hf] at hn
   refine⟨d,bT aX (ea cs) [.sl rws],v',aM, ?_,rfl,h3,ab.back cs e' t1 _ _ _ (by simpa using h) hn h4 hs⟩
   have e1:ea cs+1+([DC.sl rws]:List DC).length=(ea cs+([DC.sl rws]:List DC).length)+1:=by omega
   simp only[bT,e1,List.take_succ_cons,List.drop_succ_cons,List.cons_append]
theorem AX {α:Type} (l nu:List α) (p j:Nat) (h:p+nu.length≤l.length):(l.take p++(nu++l.drop (p+nu.length)))[j]? =if j<p then l[j]? else if j<p+nu.length then nu[j - p]? else l[j]? :=by
 have ht:(l.take p).length=p:=by simp;omega
 split
 ·rename_i hj
  rw[List.getElem?_append_left (by omega),List.getElem?_take,if_pos hj]
 ·rename_i hj
  rw[List.getElem?_append_right (by omega),ht]
  split
  ·rw[List.getElem?_append_left (by omega)]
  ·rw[List.getElem?_append_right (by omega),List.getElem?_drop]
   congr 1
   omega
theorem FB {α:Type} (vals nu:List α) (i off el:Nat) (jb:off+nu.length≤el) (hl:i*el+el≤vals.length):
  ((vals.take (i*el+off)++(nu++vals.drop (i*el+off+nu.length))).drop (i*el)).take el=((vals.drop (i*el)).take el).take off++(nu++((vals.drop (i*el)).take el).drop (off+nu.length)):=by
 apply List.ext_getElem?
 intro j
 rw[AX _ _ _ _ (by simp;omega),List.getElem?_take,List.getElem?_drop,AX _ _ _ _ (by omega)]
 simp only[List.getElem?_take,List.getElem?_drop]
 by_cases hj:j<el
 ·rw[if_pos hj,if_pos hj]
  by_cases h1:j<off
  ·rw[if_pos (by omega),if_pos h1]
  ·rw[if_neg (by omega),if_neg h1]
   by_cases h2:j<off+nu.length
   ·rw[if_pos (by omega),if_pos h2]
    congr 1
    omega
   ·rw[if_neg (by omega),if_neg h2]
 ·rw[if_neg hj,if_neg hj,if_neg (by omega),if_neg (by omega)]
theorem D0 {α:Type} (vals nu:List α) (i off el k:Nat) (jb:off+nu.length≤el) (hl:i*el+el≤vals.length) (hk:k≠i):
  ((vals.take (i*el+off)++(nu++vals.drop (i*el+off+nu.length))).drop (k*el)).take el=(vals.drop (k*el)).take el:=by
 apply List.ext_getElem?
 intro j
 rw[List.getElem?_take,List.getElem?_drop,AX _ _ _ _ (by omega),List.getElem?_take,List.getElem?_drop]
 by_cases hj:j<el
 ·rw[if_pos hj,if_pos hj]
  rcases Nat.lt_or_ge k i with cr | ER
  ·have:k*el+el≤i*el:=by rw[←Nat.succ_mul];exact Nat.mul_le_mul_right _ cr
   rw[if_pos (by omega)]
  ·have:i*el+el≤k*el:=by rw[←Nat.succ_mul];exact Nat.mul_le_mul_right _ (by omega)
   rw[if_neg (by omega),if_neg (by omega)]
 ·rw[if_neg hj,if_neg hj]
theorem bK.set {w w':World} {e:List CT} {ts:List TypeId} {rows:List (List DC)} {vals:List Value} {hv hv':Nat→Option Value} {aS:List (List Nat)} (h:bK w e ts rows vals hv aS) (hs:w.heap.size≤w'.heap.size) (hl:vals.length=rows.length*e.length)
  {i off:Nat} (hi:i<rows.length) {nu:List Value} (jb:off+nu.length≤e.length) {r:List DC} {m:List Nat} (hm:∀j,j≠i→∀m',aS[j]? =some m'→∀b∈m',w'.heap[b]? =w.heap[b]?)
  (hh:∀j,j≠i→hv' j=hv j) (hr:ab w' (hv' i) e ts r (((vals.drop (i*e.length)).take e.length).take off++(nu++((vals.drop (i*e.length)).take e.length).drop (off+nu.length))) m):
  bK w' e ts (rows.set i r) (vals.take (i*e.length+off)++(nu++vals.drop (i*e.length+off+nu.length))) hv' (aS.set i m):=by
 have ET:i*e.length+e.length≤vals.length:=by rw[hl,←Nat.succ_mul];exact Nat.mul_le_mul_right _ hi
 refine⟨by simp [h.1],fun k r' m' hk F3=> ?_⟩
 by_cases Am:k=i
 ·subst Am
  rw[List.getElem?_set_self hi,Option.some.injEq] at hk
  rw[List.getElem?_set_self (by rw[h.1];exact hi),Option.some.injEq] at F3
  subst hk F3
  rw[FB _ _ _ _ _ jb ET]
  exact hr
 ·rw[List.getElem?_set_ne (Ne.symm Am)] at hk F3
  rw[D0 _ _ _ _ _ _ jb ET Am,hh k Am]
  exact ab.mono hs _ _ _ _ _ (h.2 k r' m' hk F3) (hm k Am m' F3)
end
end Go.Proofs.YtnlkklmcfafgeaaGreat.Vm
set_option linter.unusedVariables false
set_option linter.unusedSimpArgs false
namespace Go.Proofs.YtnlkklmcfafgeaaGreat.Vm
def Env.fw (β:Env) (id:Nat) (l:List Nat):Env:=⟨β.cW,β.val,β.gI,az β.nb id l⟩
def Env.gj (β:Env) (id:Nat) (v:Value) (l:List Nat):Env:=⟨β.cW,az β.val id v,β.gI,az β.nb id l⟩
section
variable {P:Program} {Γ:Ctx} {w0:World} {S:Own} {st:St} {o:Oper} {e:cJ} {a:Act} {w w':World}
variable {f:Nat→SV} {h:Nat→Option aj} {β:Env} {φ:Nat→List Nat} {tm:Array Value}
theorem Core.DB (hc:Core w0 S f h β φ tm w) {id:Nat} {ob:aj} {t:TypeId} {ct:List CT} {ts:List TypeId} {rows:List (List DC)} {hl:Option (Nat×Nat)} {FQ:List Nat} {G:Nat→Prop} {h':Nat→Option aj}
  (dV:h id=some ob) (hG:∀k,G k→k≠id) (hh:h' id=some (.deep t ct ts rows hl)) (DQ:∀j,j≠id→∀x,h' j=some x→h j=some x∧¬G j)
  (hs:w.heap.size≤w'.heap.size) (hw:∀b,b<w.heap.size→b ∉ (β.val id).ownBlock.toList→w'.heap[b]? =w.heap[b]?)
  (aZ:∀b∈(β.val id).ownBlock.toList,b∈al β id ob)
  (jo:∀b∈FQ,b∈al β id ob∨∃k x,G k∧h k=some x∧b∈al β k x)
  (hE:fU w' (Av h' (β.fw id FQ)) (β.fw id FQ) id (.deep t ct ts rows hl) ((β.val id).ownBlock.toList++FQ)) (hnd:((β.val id).ownBlock.toList++FQ).Nodup):
  Core w0 S f h' (β.fw id FQ) (az φ id ((β.val id).ownBlock.toList++FQ)) tm w':=by
 have jc:∀j oj,j≠id→al (β.fw id FQ) j oj=al β j oj:=by
  intro j oj hj
  cases oj<;>simp [al,Env.fw,az,hj]
 have EY:∀b∈(β.val id).ownBlock.toList++FQ,b∈al β id ob∨∃k x,G k∧h k=some x∧b∈al β k x:=by
  intro b hb
  rcases List.mem_append.1 hb with hb | hb
  ·exact .inl (aZ b hb)
  ·exact jo b hb
 have bG:∀b∈(β.val id).ownBlock.toList++FQ,((w0.heap.size≤b∨S b)∧b<w.heap.size)∧Av h β b∧∀j oj,j≠id→h j=some oj→¬G j→b ∉ φ j:=by
  intro b hb
  rcases EY b hb with h1 | ⟨k,x,hk,hx,h1⟩
  ·have h2:=ah (hc.ay id ob dV) b h1
   exact⟨(hc.fresh id ob dV).2 b h2,.inl ⟨id,ob,dV,h1⟩,fun j oj hj ja _=>hc.sep id j ob oj (Ne.symm hj) dV ja b h2⟩
  ·have h2:=ah (hc.ay k x hx) b h1
   exact⟨(hc.fresh k x hx).2 b h2,.inl ⟨k,x,hx,h1⟩,fun j oj hj ja hg=>hc.sep k j x oj (fun e=>hg (e ▸ hk)) hx ja b h2⟩
 refine hc.mG (fun _=>False) hs (fun b hb hn=>hw b hb (fun hx=>hn (.inl ⟨id,ob,dV,aZ b hx⟩))) ?_ (fun _ _ _ h=>h) (fun _ _=>⟨rfl,rfl⟩) ?_ ?_
 ·rintro b (⟨j,oj,hj,br⟩ | hb)
  case inr=>exact .inl (.inr hb)
  by_cases cf:j=id
  ·subst cf
   rw[hh,Option.some.injEq] at hj
   subst hj
   refine .inl (bG b ?_).2.1
   simpa [al,Env.fw,az] using br
  ·rw[jc j oj cf] at br
   exact .inl (.inl ⟨j,oj,(DQ j cf oj hj).1,br⟩)
 ·intro j oj hj
  by_cases cf:j=id
  ·subst cf
   rw[hh,Option.some.injEq] at hj
   subst hj
   refine .inr ⟨by simpa [az] using hE,by simpa [az] using hnd,fun b hb=> ?_⟩
   have:=(bG b (by simpa [az] using hb)).1
   exact⟨this.1,by omega⟩
  ·have h1:=(DQ j cf oj hj).1
   refine .inl ⟨fun h=>h,h1,by simp [Env.fw,az,cf],by simp [az,cf],fun _ _ h=>h,fun b hb=> ?_⟩
   have fD:=ah (hc.ay j oj h1) b hb
   exact hw b ((hc.fresh j oj h1).2 b fD).2 (fun hx=>hc.sep id j ob oj (Ne.symm cf) dV h1 b (ah (hc.ay id ob dV) b (aZ b hx)) fD)
 ·intro i j oi oj cM hi hj b hb
  by_cases lv:i=id
  ·subst lv
   have gy:j≠i:=Ne.symm cM
   simp only[az,if_true] at hb
   simp only[az,gy,if_false]
   obtain⟨h1,h2⟩:=DQ j gy oj hj
   exact (bG b hb).2.2 j oj gy h1 h2
  ·simp only[az,lv,if_false] at hb
   obtain⟨h1,h2⟩:=DQ i lv oi hi
   by_cases cf:j=id
   ·subst cf
    simp only[az,if_true]
    exact fun ax=>(bG b ax).2.2 i oi lv h1 h2 hb
   ·simp only[az,cf,if_false]
    exact hc.sep i j oi oj cM h1 (DQ j cf oj hj).1 b hb
theorem C8 (hR:Rel w0 S st a w) (hd:∀d,o.dst=some d→bc st.n d) {c:Call} {x:Operand} {t:TypeId} (ho:o.op= .call c) (hb:c.callee= .builtin .len)
  (hx:c.args= #[x]) (ht:c.argTypes= #[t]) {sx:SV} (h1:(cd x).val st.get st.obj=some sx) (he:(HV P t sx).val st.get st.obj=some e):Good P w0 S st o e a w:=by
 unfold HV at he
 split at he
 ·rename_i id
  simp only[M.aT,Option.bind_eq_some_iff] at he
  obtain⟨ob,aK,he⟩:=he
  split at he
  ·rename_i t' ct ts r hl
   split at he
   ·rename_i et hu
    simp only[M.aa,Option.some.injEq] at he
    subst he
    refine ao hR hd rfl rfl fun β φ hc=> ?_
    have hv:=hc.ev h1
    simp only[ak] at hv
    obtain⟨vals,aS,aZ,_⟩:=hc.ay id _ aK
    have key:∃q cap,β.val id= .slice q r.length cap∧r.length≤maxLen:=by
     rcases aZ.2 with ⟨hv',h0,_⟩ | ⟨g,cap,cur,hv',_,AZ,hm,_⟩
     ·exact⟨none,0,by rw[hv',h0],by omega⟩
     ·exact⟨_,cap,hv',by omega⟩
    obtain⟨q,cap,hq,hm⟩:=key
    refine⟨.int .i64 r.length, ?_,by unfold ak;exact⟨rfl,A7 hm⟩⟩
    simp [execOp,ho,resolve,hb,hx,ht,invoke,builtin,hv.1,hq,Builtin.len_,run_underlying hu,goInt]
   ·simp at he
  ·refine AB hR hd ho hb hx ht h1 ?_
   exact he
 ·exact AB hR hd ho hb hx ht h1 he
theorem kH (hR:Rel w0 S st a w) (hd:∀d,o.dst=some d→bc st.n d) {t:TypeId} {x i:Operand} (ho:o.op= .indexAddr t x i) {sx si:SV}
  (h1:(cd x).val st.get st.obj=some sx) (h2:(cd i).val st.get st.obj=some si) (he:(jd P t sx si).val st.get st.obj=some e) (aJ:e.ok=true):Good P w0 S st o e a w:=by
 unfold jd at he
 split at he
 ·rename_i id
  simp only[M.aT,Option.bind_eq_some_iff] at he
  obtain⟨ob,aK,he⟩:=he
  split at he
  ·rename_i t' ct ts r hl
   split at he
   ·rename_i et k n hu
    cases hz:aY P et ct.length
    ·simp [hz] at he
    simp only[hz,cond_true,M.aa,Option.some.injEq] at he
    subst he
    simp only[Bool.and_eq_true,decide_eq_true_eq] at aJ
    obtain⟨i',hi,dB⟩:=aW hz
    refine ao hR hd rfl rfl fun β φ hc=> ?_
    have hv:=hc.ev h1
    have GI:=hc.ev h2
    simp only[ak] at hv GI
    obtain⟨vals,aS,aZ,_⟩:=hc.ay id _ aK
    rcases aZ.2 with ⟨_,h0,_⟩ | ⟨g,cap,cur,hv',_⟩
    ·omega
    ·refine⟨.pointer (some ⟨g,0+n.toNat*i'.size,none⟩), ?_, ?_⟩
     ·simp [execOp,ho,hv.1,hv',GI.1,Instr.indexAt,asIntOf,run_underlying hu,aJ.1,aJ.2,sizeOf,typeInfo,hi,dt]
     ·simp only[ak]
      exact⟨g,by rw[hv'];rfl,by rw[dB];simp⟩
   ·simp at he
  ·exact gM hR hd ho h1 h2 he aJ
 ·exact gM hR hd ho h1 h2 he aJ
theorem Ey (hc:Core w0 S f h β φ tm w) {id:Nat} {t:TypeId} {ct:List CT} {ts:List TypeId} {rows:List (List DC)} {hl:Option (Nat×Nat)} (aK:h id=some (.deep t ct ts rows hl)) {i:Nat} (hi:i<rows.length) {g:Nat} (hg:(β.val id).ownBlock=some g):
  ∃(us:List Value) (m:List Nat),ab w (hF β hl i) ct ts (rows.getD i []) us m∧us.length=ct.length∧∀j u,us[j]? =some u→w.cell? ⟨g,i*ct.length+j,none⟩=some u:=by
 obtain⟨vals,aS,aZ,de,_,_⟩:=hc.ay id _ aK
 have hf:i<aS.length:=by rw[de.1];exact hi
 have eJ:=de.2 i (rows.getD i []) aS[i] (cD hi) (by simp)
 exact⟨_,_,eJ,(ab.length _ _ _ _ _ eJ).1,fun j u hj=>aZ.cell hg (fT hj)⟩
theorem ab.get {hv:Option Value} :∀(cs:List CT) (ts:List TypeId) (r:List DC) (us:List Value) (m:List Nat) (k:Nat) (c:CT),ab w hv cs ts r us m→cs[k]? =some c→aq [c]=true→
  ∃v,us[k]? =some v∧bY w c (r.getD k default) v []
 | [],_,_,_,_,_,_,_,hk,_=>by simp at hk
 | c0::cs,_,_,_,_,k,c,h,hk,hf=>by
  rcases cY c0 with ⟨e,rfl⟩ | hc
  ·simp only[ab] at h
   obtain⟨t,dN,rows,aX,v,aM,m1,gb,rfl,rfl,rfl,_,_,h6,rfl⟩:=h
   cases k with
   | zero=>
    simp only[List.getElem?_cons_zero,Option.some.injEq] at hk
    subst hk
    simp [aq] at hf
   | succ k=>
    obtain⟨v',h1,h2⟩:=ab.get cs _ _ _ _ k c h6 (by simpa using hk) hf
    exact⟨v',by simpa using h1,by simpa using h2⟩
  ·rw[ab.flat hc] at h
   obtain⟨d,aX,v,aM,rfl,rfl,h3,h4⟩:=h
   cases k with
   | zero=>
    simp only[List.getElem?_cons_zero,Option.some.injEq] at hk
    subst hk
    exact⟨v,by simp,by simpa using h3⟩
   | succ k=>
    obtain⟨v',h1,h2⟩:=ab.get cs _ _ _ _ k c h4 (by simpa using hk) hf
    exact⟨v',by simpa using h1,by simpa using h2⟩
theorem ab.bO {hv:Option Value} {av:Nat→Prop} {cs:List CT} {ts:List TypeId} {r:List DC} {us:List Value} {m:List Nat} (h:ab w hv cs ts r us m):
  ∀(n k:Nat),k+n≤cs.length→aq ((cs.drop k).take n)=true→∃vs:List Value,vs.length=n∧(∀j v,vs[j]? =some v→us[k+j]? =some v)∧af w av β (ch ((cs.drop k).take n) r k) vs∧∀x∈vs,x.oneCell'=true
 | 0,k,_,_=>⟨[],rfl,by simp,by simp [ch,af],by simp⟩
 | n+1,k,hk,hf=>by
  have cr:k<cs.length:=by omega
  have IC:(cs.drop k).take (n+1)=cs[k]::(cs.drop (k+1)).take n:=by
   rw[List.drop_eq_getElem_cons cr,List.take_succ_cons]
  rw[IC,fm,Bool.and_eq_true] at hf
  obtain⟨v,e1,e2⟩:=ab.get cs ts r us m k cs[k] h (by simp) hf.1
  obtain⟨vs,l1,l2,l3,l4⟩:=ab.bO h n (k+1) (by omega) hf.2
  refine⟨v::vs,by simp [l1], ?_, ?_, ?_⟩
  ·intro j u hj
   cases j with
   | zero=>simp at hj;subst hj;simpa using e1
   | succ j=>have:=l2 j u (by simpa using hj);rw[←this];congr 1;omega
  ·rw[IC]
   simp only[ch,af]
   exact⟨v,vs,rfl,dg e2 (by simp),l3⟩
  ·intro x hx
   rcases List.mem_cons.1 hx with rfl | hx
   ·exact e2.one
   ·exact l4 x hx
theorem B9 (hR:Rel w0 S st a w) (hd:∀d,o.dst=some d→bc st.n d) {t:TypeId} {x:Operand} (ho:o.op= .load t x) {id i z off:Nat} {t':TypeId} {ct:List CT} {ts:List TypeId} {rows:List (List DC)} {hl:Option (Nat×Nat)}
  (h1:(cd x).val st.get st.obj=some (.d9 id i z off)) (aK:st.obj id=some (.deep t' ct ts rows hl)) (he:(Ft P t i z off ct rows).val st.get st.obj=some e) (aJ:e.ok=true):Good P w0 S st o e a w:=by
 unfold Ft at he
 cases hz:Nat.beq z ct.length
 ·simp [hz] at he
 have Jp:=Nat.eq_of_beq_eq_true hz
 simp only[hz,Bool.not_true,cond_false] at he
 split at he
 ·simp at he
 rename_i td hu
 have reads:∀β φ,Core w0 S st.get st.obj β φ a.tmps w→i<rows.length→∃g us m,a.eval x= .pointer (some ⟨g,i*ct.length+off,none⟩)∧ab w (hF β hl i) ct ts (rows.getD i []) us m∧
   ∀j u,us[j]? =some u→w.cell? ⟨g,i*ct.length+j,none⟩=some u:=by
  intro β φ hc hi
  have hx:=hc.ev h1
  simp only[ak] at hx
  obtain⟨g,hg,hv⟩:=hx
  obtain⟨us,m,k1,_,k3⟩:=Ey hc aK hi hg
  exact⟨g,us,m,by rw[hv,Jp],k1,k3⟩
 cases ha:bj P t
 ·simp only[ha,cond_false] at he
  split at he
  ·rename_i c AZ
   cases hf:aq [c]
   ·simp [hf] at he
   simp only[hf,cond_true,M.aa,Option.some.injEq] at he
   subst he
   have hi:i<rows.length:=by simpa using aJ
   refine ao hR hd rfl rfl fun β φ hc=> ?_
   obtain⟨g,us,m,hv,hr,hcell⟩:=reads β φ hc hi
   obtain⟨v,e1,e2⟩:=ab.get _ _ _ _ _ _ _ hr AZ hf
   refine⟨v, ?_,dg e2 (by simp)⟩
   simp [execOp,ho,hv,dZ ha hu (hcell _ _ e1)]
  ·simp at he
 ·simp only[ha,cond_true] at he
  split at he
  ·rename_i j hj
   cases Jq:Nat.ble (off+j.size) ct.length && aq ((ct.drop off).take j.size)
   ·simp [Jq] at he
   simp only[Jq,cond_true,M.aa,Option.some.injEq] at he
   subst he
   simp only[Bool.and_eq_true] at Jq
   have hi:i<rows.length:=by simpa using aJ
   have hle:=Nat.le_of_ble_eq_true Jq.1
   refine ao hR hd rfl rfl fun β φ hc=> ?_
   obtain⟨g,us,m,hv,hr,hcell⟩:=reads β φ hc hi
   obtain⟨vs,l1,l2,l3,l4⟩:=ab.bO (β:=β) (av:=Av st.obj β) hr j.size off hle Jq.2
   refine⟨.agg vs.toArray, ?_, ?_⟩
   ·have:∀k v,vs[k]? =some v→w.cell? ⟨g,(i*ct.length+off)+k,none⟩=some v:=fun k v hk=>by
     rw[Nat.add_assoc]
     exact hcell _ _ (l2 k v hk)
    simp [execOp,ho,hv,dY ha hj l1 this]
   ·simp only[ak]
    exact⟨vs,rfl,l3,l4⟩
  ·simp at he
theorem AU {aS:List (List Nat)} {i:Nat} (hi:i<aS.length):∀b∈(aS.set i []).flatten,b∈aS.flatten:=by
 intro b hb
 rw[bW hi] at hb
 rw[bw hi]
 simp only[List.nil_append,List.mem_append] at hb ⊢
 rcases hb with hb | hb<;>simp [hb]
theorem AE (hR:Rel w0 S st a w) {d:Nat} (bP:bB st d) {β:Env} {φ:Nat→List Nat} (hc:Core w0 S st.get st.obj β φ a.tmps w) {id i off g:Nat} {t' t1:TypeId} {ct e':List CT} {rows:List (List DC)}
  (hg:(β.val id).ownBlock=some g) (aK:st.obj id=some (.deep t' ct [t1] rows none)) (jb:ct[off]? =some (.sl e')) (Cz:aB ct=1) (hi:i<rows.length):
  ∃(us:List Value) (v:Value) (β':Env) (φ':Nat→List Nat),us.length=ct.length∧(∀j u,us[j]? =some u→w.cell? ⟨g,i*ct.length+j,none⟩=some u)∧us[off]? =some v∧v.oneCell'=true∧ab w (some v) ct [t1] (rows.getD i []) us []∧β'.val (ag d 0)=v∧
   Core w0 S st.get (az (az st.obj id (some (.deep t' ct [t1] rows (some (i,ag d 0))))) (ag d 0) (some (.row t1 e' ((rows.getD i []).getD off default).cq false true))) β' φ' a.tmps w:=by
 have bG:ag d 0 / 64=d:=cO d 0 (by omega)
 generalize ME:ag d 0=nid at*
 have cM:id≠nid:=fun e=>(bP.obj id _ aK).1 (e ▸ bG)
 obtain⟨vals,aS,aZ,de,jo,kz⟩:=hc.ay id _ aK
 have kp:i<aS.length:=by rw[de.1];exact hi
 have eJ:=de.2 i (rows.getD i []) aS[i] (cD hi) (by simp)
 obtain⟨M9,v,rws,JZ,hv,Jg,eA,ku,I9⟩:=ab.out ct off e' _ _ _ _ jb Cz eJ
 simp only[List.cons.injEq,and_true] at JZ
 subst JZ
 obtain⟨AG,FY,GQ,KW,GM⟩:=ku
 have Lf:((rows.getD i []).getD off default).cq=rws:=by
  rw[List.getD_eq_getElem?_getD,Jg]
  rfl
 rw[Lf]
 have Ge:=(hc.fresh id _ aK).1
 rw[kz] at Ge
 have jL:∀b∈v.ownBlock.toList,b∈aS.flatten:=by
  intro b hb
  rw[bw kp,GM]
  simp [hb]
 have Ix:∀b∈(β.val id).ownBlock.toList++aS.flatten,Av st.obj β b:=fun b hb=> .inl ⟨id,_,aK,by simpa [al,jo] using hb⟩
 have As:∀b∈(β.val id).ownBlock.toList++aS.flatten,b∈φ id:=fun b hb=>by rw[kz];exact hb
 have An:∀b∈(β.val id).ownBlock.toList++(aS.set i []).flatten,b∈(β.val id).ownBlock.toList++aS.flatten:=by
  intro b hb
  rcases List.mem_append.1 hb with hb | hb
  ·exact List.mem_append_left _ hb
  ·exact List.mem_append_right _ (AU kp b hb)
 have Dm:∀b∈v.ownBlock.toList,b ∉ (β.val id).ownBlock.toList++(aS.set i []).flatten:=by
  intro b hb iC
  rw[bw kp,List.nodup_append] at Ge
  obtain⟨_,n2,n3⟩:=Ge
  rw[List.nodup_append] at n2
  obtain⟨_,n4,n5⟩:=n2
  rw[List.nodup_append] at n4
  obtain⟨_,_,n6⟩:=n4
  rw[←GM] at hb
  rcases List.mem_append.1 iC with iC | iC
  ·exact n3 b iC b (by simp [hb]) rfl
  ·rw[bW kp] at iC
   simp only[List.nil_append,List.mem_append] at iC
   rcases iC with iC | iC
   ·exact n5 b iC b (by simp [hb]) rfl
   ·exact n6 b hb b iC rfl
 have E4:((β.val id).ownBlock.toList++(aS.set i []).flatten).Nodup:=by
  refine List.Sublist.nodup ?_ Ge
  refine (List.Sublist.refl _).append ?_
  rw[bW kp,bw kp]
  exact (List.Sublist.refl _).append ((List.nil_sublist _).append (List.Sublist.refl _))
 have Gc:v.ownBlock.toList.Nodup:=by cases v.ownBlock<;>simp
 let β':Env:=⟨β.cW,az β.val nid v,β.gI,az β.nb id (aS.set i []).flatten⟩
 have Fb:β'.val id=β.val id:=by simp [β',az,cM]
 have jN:β'.val nid=v:=by simp [β',az]
 have I1:β'.nb id=(aS.set i []).flatten:=by simp [β',az]
 let h':Nat→Option aj:=az (az st.obj id (some (.deep t' ct [t1] rows (some (i,nid))))) nid (some (.row t1 e' rws false true))
 let φ':Nat→List Nat:=az (az φ id ((β.val id).ownBlock.toList++(aS.set i []).flatten)) nid v.ownBlock.toList
 have BI:Core w0 S st.get h' β' φ' a.tmps w:=by
  have e1:h' nid=some (.row t1 e' rws false true):=by simp [h',az]
  have e2:h' id=some (.deep t' ct [t1] rows (some (i,nid))):=by simp [h',az,cM]
  have e3:∀j,j≠nid→j≠id→h' j=st.obj j:=fun j h1 h2=>by simp [h',az,h1,h2]
  have p1:φ' nid=v.ownBlock.toList:=by simp [φ',az]
  have p2:φ' id=(β.val id).ownBlock.toList++(aS.set i []).flatten:=by simp [φ',az,cM]
  have p3:∀j,j≠nid→j≠id→φ' j=φ j:=fun j h1 h2=>by simp [φ',az,h1,h2]
  have jc:∀j oj,j≠nid→j≠id→al β' j oj=al β j oj:=by
   intro j oj h1 h2
   cases oj<;>simp [al,β',az,h1,h2]
  have Kf:∀b,Av h' β' b→Av st.obj β b:=by
   rintro b (⟨j,oj,hj,br⟩ | hb)
   case inr=>exact .inr hb
   by_cases mn:j=nid
   ·subst mn
    rw[e1,Option.some.injEq] at hj
    subst hj
    exact Ix b (List.mem_append_right _ (jL b (by simpa [al,jN] using br)))
   ·by_cases gy:j=id
    ·subst gy
     rw[e2,Option.some.injEq] at hj
     subst hj
     exact Ix b (An b (by simpa only[al,Fb,I1] using br))
    ·rw[e3 j mn gy] at hj
     rw[jc j oj mn gy] at br
     exact .inl ⟨j,oj,hj,br⟩
  have bA:=(hc.fresh id _ aK).2
  refine hc.mG (fun j=>j=nid) (Nat.le_refl _) (fun _ _ _=>rfl) (fun b hb=> .inl (Kf b hb)) (fun k j hj e=>bP.slot k j hj (e ▸ bG)) (fun j hj=>⟨by simp [β',az,hj],rfl⟩) ?_ ?_
  ·intro j oj hj
   by_cases mn:j=nid
   ·subst mn
    rw[e1,Option.some.injEq] at hj
    subst hj
    refine .inr ⟨?_,by rw[p1];exact Gc,fun b hb=> ?_⟩
    ·refine⟨AG,FY,by rw[jN];exact GQ,KW, ?_, ?_⟩
     ·rw[KW.Dz eA]
      simp
     ·rw[p1,jN,KW.Dz eA]
      simp
    ·rw[p1] at hb
     exact bA b (As b (List.mem_append_right _ (jL b hb)))
   ·by_cases gy:j=id
    ·subst gy
     rw[e2,Option.some.injEq] at hj
     subst hj
     refine .inr ⟨?_,by rw[p2];exact E4,fun b hb=> ?_⟩
     ·refine⟨vals,aS.set i [],by rw[Fb];exact aZ,⟨by simp [de.1],fun k r m hk hm=> ?_⟩,I1,by rw[p2,Fb]⟩
      by_cases Am:k=i
      ·subst Am
       rw[List.getElem?_set_self kp,Option.some.injEq] at hm
       subst hm
       have E6:r=rows.getD k []:=by
        rw[cD (d:=[]) hi,Option.some.injEq] at hk
        exact hk.symm
       subst E6
       simp only[hF,if_true]
       rw[jN]
       exact I9
      ·rw[List.getElem?_set_ne (Ne.symm Am)] at hm
       simp only[hF,Am,if_false]
       exact de.2 k r m hk hm
     ·rw[p2] at hb
      exact bA b (As b (An b hb))
    ·rw[e3 j mn gy] at hj
     refine .inl ⟨mn,hj,by simp [β',az,gy],p3 j mn gy,fun k hk e=>(bP.obj j oj hj).2 k hk (e ▸ bG),fun _ _=>rfl⟩
  ·have kinds:∀j oj,h' j=some oj→∀b∈φ' j,(j=nid∧b∈v.ownBlock.toList)∨(j=id∧b∈(β.val id).ownBlock.toList++(aS.set i []).flatten)∨(j≠nid∧j≠id∧st.obj j=some oj∧b∈φ j):=by
    intro j oj hj b hb
    by_cases mn:j=nid
    ·subst mn
     rw[p1] at hb
     exact .inl ⟨rfl,hb⟩
    ·by_cases gy:j=id
     ·subst gy
      rw[p2] at hb
      exact .inr (.inl ⟨rfl,hb⟩)
     ·rw[p3 j mn gy] at hb
      rw[e3 j mn gy] at hj
      exact .inr (.inr ⟨mn,gy,hj,hb⟩)
   intro j k oj ok KA hj hk b hb ax
   rcases kinds j oj hj b hb with ⟨rfl,x1⟩ | ⟨rfl,x1⟩ | ⟨x0,L3,x1,x2⟩<;>rcases kinds k ok hk b ax with ⟨rfl,y1⟩ | ⟨rfl,y1⟩ | ⟨y0,L4,y1,y2⟩
   ·exact KA rfl
   ·exact Dm b x1 y1
   ·exact hc.sep id k _ ok (Ne.symm L4) aK y1 b (As b (List.mem_append_right _ (jL b x1))) y2
   ·exact Dm b y1 x1
   ·exact KA rfl
   ·exact hc.sep _ k _ ok (Ne.symm L4) aK y1 b (As b (An b x1)) y2
   ·exact hc.sep id j _ oj (Ne.symm L3) aK x1 b (As b (List.mem_append_right _ (jL b y1))) x2
   ·exact hc.sep _ j _ oj (Ne.symm L3) aK x1 b (As b (An b y1)) x2
   ·exact hc.sep j k oj ok KA x1 y1 b x2 y2
 exact⟨_,v,β',φ',(ab.length _ _ _ _ _ eJ).1,fun j u hj=>aZ.cell hg (fT hj),hv,GQ.one,I9,jN,BI⟩
theorem Da (hR:Rel w0 S st a w) {d:Nat} (aL:o.dst=some d) (hd:bc st.n d) (bP:bB st d) {t:TypeId} {x:Operand} (ho:o.op= .load t x) {id i off:Nat} {t' t1:TypeId} {ct e':List CT} {rows:List (List DC)} {td:TypeDesc}
  (h1:(cd x).val st.get st.obj=some (.d9 id i ct.length off)) (aK:st.obj id=some (.deep t' ct [t1] rows none)) (jb:ct[off]? =some (.sl e')) (Cz:aB ct=1) (ha:bj P t=false) (hu:P.underlying t=some td) (hi:i<rows.length)
  (fi:e.sv= .own (ag d 0)) (jG:e.cw=none) (how:e.ow=[(ag d 0,some (.row t1 e' ((rows.getD i []).getD off default).cq false true)),(id,some (.deep t' ct [t1] rows (some (i,ag d 0))))]):Good P w0 S st o e a w:=by
 obtain⟨β,φ,hc⟩:=hR.core
 have hx:=hc.ev h1
 simp only[ak] at hx
 obtain⟨g,hg,hx⟩:=hx
 obtain⟨us,v,β',φ',_,hcell,hv,bd,_,jN,BI⟩:=AE hR bP hc hg aK jb Cz hi
 have hcell:=hcell _ _ hv
 refine bM hR (fun d' h'=>by rw[aL] at h';injection h' with h';exact h' ▸ hd) (v:=v) (w':=w) ?_ hR.kept ⟨β',φ', ?_, ?_⟩
 ·simp [execOp,ho,hx,dZ ha hu hcell]
 ·rw[how,jG]
  exact BI
 ·rw[fi]
  unfold ak
  exact⟨jN.symm,bd⟩
theorem ab.outs {w:World} {av:Nat→Prop} {β:Env} {v0:Value} {nid:Nat} (GV:β.val nid=v0):
  ∀(cs:List CT) (ts:List TypeId) (r:List DC) (us:List Value) (m:List Nat) (pre:List DC),ab w (some v0) cs ts r us m→
  af w av β (cT nid cs (pre++r) pre.length) us∧∀x∈us,x.oneCell'=true
 | [],_,_,_,_,_,h=>by
  simp only[ab] at h
  obtain⟨_,_,rfl,_⟩:=h
  simp [cT,af]
 | c::cs,_,_,_,_,pre,h=>by
  rcases cY c with ⟨e,rfl⟩ | hf
  ·simp only[ab] at h
   obtain⟨t,dN,rows,aX,v,aM,m1,gb,rfl,rfl,rfl,_,h5,h6,rfl⟩:=h
   obtain⟨rfl,h8,_⟩:=h5
   obtain⟨q1,q2⟩:=ab.outs GV cs _ _ _ _ (pre++[.sl rows]) h6
   have hl:(pre++[DC.sl rows]).length=pre.length+1:=by simp
   rw[hl,List.append_assoc] at q1
   refine⟨?_, ?_⟩
   ·simp only[cT,af]
    exact⟨v,aM,rfl,by simp only[ak];exact⟨GV.symm,h8⟩,q1⟩
   ·intro x hx
    rcases List.mem_cons.1 hx with rfl | hx
    ·exact h8
    ·exact q2 x hx
  ·rw[ab.flat hf] at h
   obtain⟨d,aX,v,aM,rfl,rfl,h3,h4⟩:=h
   obtain⟨q1,q2⟩:=ab.outs GV cs _ _ _ _ (pre++[d]) h4
   have hl:(pre++[d]).length=pre.length+1:=by simp
   rw[hl,List.append_assoc] at q1
   have hd:(pre++d::aX).getD pre.length default=d:=by simp
   have fi:ak w av β (gg c ((pre++d::aX).getD pre.length default)) v:=by rw[hd];exact dg h3 (by simp)
   refine⟨?_, ?_⟩
   ·cases c with
    | sl e=>simp [aq] at hf
    | int x=>simp only[cT,af];exact⟨v,aM,rfl,fi,q1⟩
    | bool=>simp only[cT,af];exact⟨v,aM,rfl,fi,q1⟩
    | str=>simp only[cT,af];exact⟨v,aM,rfl,fi,q1⟩
   ·intro x hx
    rcases List.mem_cons.1 hx with rfl | hx
    ·exact h3.one
    ·exact q2 x hx
theorem ik (nid:Nat):∀(cs:List CT) (ds:List DC) (k n m:Nat),((cT nid cs ds k).drop n).take m=cT nid ((cs.drop n).take m) ds (k+n)
 | [],ds,k,n,m=>by simp [cT]
 | c::cs,ds,k,0,0=>by simp [cT]
 | c::cs,ds,k,0,m+1=>by
  have:=ik nid cs ds (k+1) 0 m
  simp only[List.drop_zero,Nat.add_zero] at this ⊢
  cases c<;>simp only[cT,List.take_succ_cons,this]
 | c::cs,ds,k,n+1,m=>by
  have:=ik nid cs ds (k+1) n m
  have e:k+(n+1)=k+1+n:=by omega
  rw[e]
  cases c<;>simp only[cT,List.drop_succ_cons,this]
theorem af.part {w:World} {av:Nat→Prop} {β:Env} :∀(ss:List SV) (us:List Value) (n m:Nat),af w av β ss us→af w av β ((ss.drop n).take m) ((us.drop n).take m)
 | [],us,n,m,h=>by simp only[af] at h;subst h;simp [af]
 | s::ss,us,n,m,h=>by
  have h0:=h
  simp only[af] at h
  obtain⟨v,l',rfl,h1,h2⟩:=h
  cases n with
  | zero=>
   cases m with
   | zero=>simp [af]
   | succ m=>
    have:=af.part ss l' 0 m h2
    simp only[List.drop_zero,List.take_succ_cons,af] at this ⊢
    exact⟨v,_,rfl,h1,this⟩
  | succ n=>simpa only[List.drop_succ_cons] using af.part ss l' n m h2
theorem Cb (hR:Rel w0 S st a w) {d:Nat} (aL:o.dst=some d) (hd:bc st.n d) (bP:bB st d) {t:TypeId} {x:Operand} (ho:o.op= .load t x) {id i off:Nat} {t' t1:TypeId} {ct e':List CT} {rows:List (List DC)} {j:TypeInfo}
  (h1:(cd x).val st.get st.obj=some (.d9 id i ct.length off)) (aK:st.obj id=some (.deep t' ct [t1] rows none)) (jb:ct[iN ct]? =some (.sl e')) (Cz:aB ct=1) (ha:bj P t=true) (hj:P.info? t=some j) (hle:off+j.size≤ct.length) (hi:i<rows.length)
  (fi:e.sv= .agg (cT (ag d 0) ((ct.drop off).take j.size) (rows.getD i []) off)) (jG:e.cw=none) (how:e.ow=[(ag d 0,some (.row t1 e' ((rows.getD i []).getD (iN ct) default).cq false true)),(id,some (.deep t' ct [t1] rows (some (i,ag d 0))))]):Good P w0 S st o e a w:=by
 obtain⟨β,φ,hc⟩:=hR.core
 have hx:=hc.ev h1
 simp only[ak] at hx
 obtain⟨g,hg,hx⟩:=hx
 obtain⟨us,v,β',φ',CL,hcell,_,_,hH,jN,BI⟩:=AE hR bP hc hg aK jb Cz hi
 obtain⟨q1,q2⟩:=ab.outs (w:=w) (av:=Av (az (az st.obj id (some (.deep t' ct [t1] rows (some (i,ag d 0))))) (ag d 0) (some (.row t1 e' ((rows.getD i []).getD (iN ct) default).cq false true))) β') jN ct [t1] (rows.getD i []) us [] [] hH
 have q3:=af.part _ _ off j.size q1
 simp only[List.nil_append,List.length_nil] at q3
 rw[ik,Nat.zero_add] at q3
 have hlen:((us.drop off).take j.size).length=j.size:=by rw[List.length_take,List.length_drop];omega
 refine bM hR (fun d' h'=>by rw[aL] at h';injection h' with h';exact h' ▸ hd) (v:= .agg ((us.drop off).take j.size).toArray) (w':=w) ?_ hR.kept ⟨β',φ', ?_, ?_⟩
 ·have:∀k u,((us.drop off).take j.size)[k]? =some u→w.cell? ⟨g,(i*ct.length+off)+k,none⟩=some u:=fun k u hk=>by
   rw[Nat.add_assoc]
   refine hcell _ _ ?_
   rw[List.getElem?_take] at hk
   split at hk
   ·simpa using hk
   ·cases hk
  simp [execOp,ho,hx,dY ha hj hlen this]
 ·rw[how,jG]
  exact BI
 ·rw[fi]
  simp only[ak]
  refine⟨_,rfl, ?_,fun x hx=>q2 x (List.mem_of_mem_drop (List.mem_of_mem_take hx))⟩
  rw[how,jG]
  exact q3
end
end Go.Proofs.YtnlkklmcfafgeaaGreat.Vm
set_option linter.unusedVariables false
set_option linter.unusedSimpArgs false
namespace Go.Proofs.YtnlkklmcfafgeaaGreat.Vm
section
variable {P:Program} {Γ:Ctx} {w0:World} {S:Own} {st:St} {o:Oper} {e:cJ} {a:Act} {w w':World}
variable {f:Nat→SV} {h:Nat→Option aj} {β:Env} {φ:Nat→List Nat} {tm:Array Value}
theorem ab.Gs {hv:Option Value} {pre part suf:List CT} {ts:List TypeId} {r ds:List DC} {us nu:List Value} {m:List Nat} (h:ab w hv (pre++(part++suf)) ts r us m) (hf:aq part=true) (hn:ab w hv part [] ds nu []):
  ab w hv (pre++(part++suf)) ts (bT r pre.length ds) (us.take pre.length++(nu++us.drop (pre.length+nu.length))) m:=by
 obtain⟨Gt,H4,m1,m2,rfl,rfl,k1,k2⟩:=ab.split _ _ _ _ _ _ h
 obtain⟨MV,MW,m3,m4,rfl,rfl,k3,k4⟩:=ab.split _ _ _ _ _ _ k2
 obtain⟨rfl,rfl,_⟩:=ab.toFlat _ _ _ _ _ hf k3
 obtain⟨l1,l2⟩:=ab.length _ _ _ _ _ hn
 rw[List.drop_drop,List.drop_drop] at k4
 have:=ab.join _ _ _ _ _ _ _ _ _ _ k1 (ab.join _ _ _ _ _ _ _ _ _ _ hn k4)
 simpa only[bT,l1,l2] using this
theorem ab.Gr {hv:Option Value} {pre part suf:List CT} {ts dN:List TypeId} {r ds:List DC} {us nu:List Value} {m m':List Nat} (h:ab w hv (pre++(part++suf)) ts r us m) (hf:aB part=aB (pre++(part++suf))) (hn:ab w none part dN ds nu m'):
  ab w none (pre++(part++suf)) dN (bT r pre.length ds) (us.take pre.length++(nu++us.drop (pre.length+nu.length))) m':=by
 rw[d3,d3] at hf
 have f1:aq pre=true:=d5 (by omega)
 have f2:aq suf=true:=d5 (by omega)
 obtain⟨Gt,H4,m1,m2,rfl,rfl,k1,k2⟩:=ab.split _ _ _ _ _ _ h
 obtain⟨MV,MW,m3,m4,rfl,rfl,k3,k4⟩:=ab.split _ _ _ _ _ _ k2
 obtain⟨rfl,rfl,_⟩:=ab.toFlat _ _ _ _ _ f1 k1
 obtain⟨rfl,rfl,_⟩:=ab.toFlat _ _ _ _ _ f2 k4
 obtain⟨l1,l2⟩:=ab.length _ _ _ _ _ hn
 rw[List.drop_drop,List.drop_drop] at k4
 have:=ab.join _ _ _ _ _ _ _ _ _ _ (ab.Bd (hv':=none) f1 k1) (ab.join _ _ _ _ _ _ _ _ _ _ hn (ab.Bd (hv':=none) f2 k4))
 simpa only[bT,l1,l2,List.nil_append,List.append_nil] using this
theorem di.cells:∀(cs:List CT) (ts:List TypeId) (ds:List DC) (us:List Value) (mb:List Nat),di w cs ts ds us mb→ab w none cs ts ds us mb
 | [],_,_,_,_,h=>by simpa only[di,ab] using h
 | .sl e::cs,_,_,_,_,h=>by
  simp only[di] at h
  obtain⟨t,dN,rows,aX,v,aM,vals,aA,gb,rfl,rfl,rfl,h4,h5,h6,h7,rfl⟩:=h
  simp only[ab]
  exact⟨t,dN,rows,aX,v,aM,_,gb,rfl,rfl,rfl,h4,⟨vals,aA,h5,h6,rfl⟩,di.cells cs _ _ _ _ h7,rfl⟩
 | .int k::cs,_,_,_,_,h=>by
  simp only[di] at h
  obtain⟨d,aX,v,aM,rfl,rfl,h3,h4⟩:=h
  simp only[ab]
  exact⟨d,aX,v,aM,rfl,rfl,h3,di.cells cs _ _ _ _ h4⟩
 | .bool::cs,_,_,_,_,h=>by
  simp only[di] at h
  obtain⟨d,aX,v,aM,rfl,rfl,h3,h4⟩:=h
  simp only[ab]
  exact⟨d,aX,v,aM,rfl,rfl,h3,di.cells cs _ _ _ _ h4⟩
 | .str::cs,_,_,_,_,h=>by
  simp only[di] at h
  obtain⟨d,aX,v,aM,rfl,rfl,h3,h4⟩:=h
  simp only[ab]
  exact⟨d,aX,v,aM,rfl,rfl,h3,di.cells cs _ _ _ _ h4⟩
theorem three (ct:List CT) (off n:Nat):ct.take off++((ct.drop off).take n++ct.drop (off+n))=ct:=by
 rw[←List.drop_drop,List.take_append_drop,List.take_append_drop]
theorem AD {t t':TypeId} {x y:Operand} (ho:o.op= .store t x y) {g i off:Nat} {ct:List CT} {n cap:Nat} {cur:Array Value} (hx:a.eval x= .pointer (some ⟨g,i*ct.length+off,none⟩)) {ti:TypeInfo} (Ga:P.info? t=some ti) (bu:ti.size=(a.eval y).cells.size)
  (bd:∀v∈(a.eval y).cells.toList,v.oneCell'=true) (hh:w.heap[g]? =some (.cells cur t' (0,0))) (hi:i<n) (A1:n≤cap) (fB:cur.size=cap*ct.length) (dT:off+(a.eval y).cells.toList.length≤ct.length):
  (execOp a.eval o).run P w= .ok .skip (w.setRow g (cur.toList.take (i*ct.length+off)++((a.eval y).cells.toList++cur.toList.drop (i*ct.length+off+(a.eval y).cells.toList.length))).toArray):=by
 have hlen:i*ct.length+ct.length≤n*ct.length:=by rw[←Nat.succ_mul];exact Nat.mul_le_mul_right _ hi
 have BN:n*ct.length≤cap*ct.length:=Nat.mul_le_mul_right _ A1
 have bs:=bR P g (i*ct.length+off) t' (0,0) (a.eval y).cells.toList 0 cur w hh (fun j _ h=>by simp at h) (by omega) bd
 simp only[Nat.add_zero] at bs
 have:=iu (P:=P) (t:=t) (b:=g) (off:=i*ct.length+off) (x:=a.eval y) Ga bu bs
 simp [execOp,ho,hx,this]
theorem cm.written {t:TypeId} {el i off n:Nat} {v:Value} {vals nu:List Value} (aZ:cm w t el false v n vals) {g:Nat} (hg:v.ownBlock=some g) (hi:i<n) (dT:off+nu.length≤el) {cap:Nat} {cur:Array Value} (hh:w.heap[g]? =some (.cells cur t (0,0))) (fB:cur.size=cap*el) (A1:n≤cap):
  cm (w.setRow g (cur.toList.take (i*el+off)++(nu++cur.toList.drop (i*el+off+nu.length))).toArray) t el false v n (vals.take (i*el+off)++(nu++vals.drop (i*el+off+nu.length))):=by
 have hlen:i*el+el≤n*el:=by rw[←Nat.succ_mul];exact Nat.mul_le_mul_right _ hi
 have BN:n*el≤cap*el:=Nat.mul_le_mul_right _ A1
 have mj:(cur.toList.take (i*el+off)++(nu++cur.toList.drop (i*el+off+nu.length))).length=cur.size:=by
  simp only[List.length_append,List.length_take,List.length_drop,Array.length_toList]
  omega
 rcases aZ.2 with ⟨hv,h0,_⟩ | ⟨g',Ij,L6,hv,Ku,KO,D8,mi,Fa⟩
 ·omega
 have Hv:g'=g:=by simpa [hv,Value.ownBlock] using hg
 subst Hv
 rw[hh] at Ku
 simp only[cond_false,Option.some.injEq,Obj.cells.injEq] at Ku
 obtain⟨rfl,_⟩:=Ku
 refine⟨?_,.inr ⟨g',Ij,(cur.toList.take (i*el+off)++(nu++cur.toList.drop (i*el+off+nu.length))).toArray,hv, ?_,KO,D8,by simpa [mj] using mi, ?_⟩⟩
 ·have:=aZ.1
  simp only[List.length_append,List.length_take,List.length_drop]
  omega
 ·rw[setRow_heap w _ _ _ _ _ hh]
  simp
 ·simp only
  rw[iw _ _ _ _ (by omega) (by simp only[Array.length_toList];omega),Fa]
theorem Bj (hR:Rel w0 S st a w) (hd:∀d,o.dst=some d→bc st.n d) {t t':TypeId} {x y:Operand} (ho:o.op= .store t x y) {id i off:Nat} {sy:SV} {bO:List SV} {ct:List CT} {ts:List TypeId} {rows:List (List DC)} {hl:Option (Nat×Nat)} {r:List DC×eZ×Bool}
  (h1:(cd x).val st.get st.obj=some (.d9 id i ct.length off)) (h2:(cd y).val st.get st.obj=some sy) (fB:(aD sy).val st.get st.obj=some bO) (dB:aY P t bO.length=true)
  (aK:st.obj id=some (.deep t' ct ts rows hl)) (dT:off+bO.length≤ct.length) (hf:aq ((ct.drop off).take bO.length)=true) (hr:(cg ((ct.drop off).take bO.length) bO).val st.get st.obj=some r)
  (hi:i<rows.length) (jG:e.cw=none) (BR:e.sv= .undef) (how:e.ow=[(id,some (.deep t' ct ts (rows.set i (bT (rows.getD i []) off r.1)) hl))]):Good P w0 S st o e a w:=by
 obtain⟨ti,Ga,bu⟩:=aW dB
 obtain⟨β,φ,hc⟩:=hR.core
 have hx:=hc.ev h1
 simp only[ak] at hx
 obtain⟨g,hg,hx⟩:=hx
 obtain⟨fi,bd⟩:=dQ (hc.ev h2) fB
 have j_:=af.length _ _ fi
 have mQ:(a.eval y).cells.size=bO.length:=by simpa using j_
 obtain⟨fp,ka,_,_,_⟩:=d6 hc _ _ _ r fi hr
 obtain⟨vals,aS,aZ,de,jo,kz⟩:=hc.ay id _ aK
 have kT:g∈al β id (.deep t' ct ts rows hl):=by simp [al,hg]
 rcases aZ.2 with ⟨hv,h0,_⟩ | ⟨g',cap,cur,hv,hh,A1,D8,mi,Fa⟩
 ·omega
 have Hv:g'=g:=by simpa [hv,Value.ownBlock] using hg
 subst Hv
 simp only[cond_false] at hh
 have CL:(a.eval y).cells.toList.length=bO.length:=by simpa using mQ
 have bs:=AD (P:=P) ho hx Ga (bu.trans mQ.symm) bd hh hi A1 mi (by rw[CL];exact dT)
 have Ib:=aZ.written (off:=off) (nu:=(a.eval y).cells.toList) hg hi (by rw[CL];exact dT) hh mi A1
 generalize (a.eval y).cells.toList=nu at*
 rw[←CL] at dT hf ka hr
 have kp:i<aS.length:=by rw[de.1];exact hi
 have eJ:=de.2 i (rows.getD i []) aS[i] (cD hi) (by simp)
 have GL:(ct.take off).length=off:=by simp;omega
 have IU:((ct.drop off).take nu.length).length=nu.length:=by simp;omega
 have bG:=ab.Gs (pre:=ct.take off) (part:=(ct.drop off).take nu.length) (suf:=ct.drop (off+nu.length)) (by rw[three];exact eJ) hf (ab.CU _ _ _ _ hf ka IU.symm)
 rw[three,GL] at bG
 have bA:=hc.fresh id _ aK
 have hnd:=bA.1
 rw[kz] at hnd
 have JX:∀b∈aS.flatten,b≠g':=by
  intro b hb e
  subst e
  rw[List.nodup_append] at hnd
  exact hnd.2.2 b (by simp [hg]) b hb rfl
 have kr:∀j m',aS[j]? =some m'→∀b∈m',b∈aS.flatten:=fun j m' hj b hb=>List.mem_flatten.2 ⟨m',List.mem_of_getElem? hj,hb⟩
 have MC:aS.set i aS[i]=aS:=List.set_getElem_self ..
 have ml:=de.set (w':=w.setRow g' (cur.toList.take (i*ct.length+off)++(nu++cur.toList.drop (i*ct.length+off+nu.length))).toArray) (hv':=hF β hl) (by simp) aZ.1 hi dT
  (fun j _ m' hj b hb=>setRow_other w g' b _ (JX b (kr j m' hj b hb))) (fun _ _=>rfl)
  (ab.mono (by simp) _ _ _ _ _ bG (fun b hb=>setRow_other w g' b _ (JX b (kr i aS[i] (by simp) b hb))))
 rw[MC] at ml
 have Ao:∀b∈al β id (.deep t' ct ts (rows.set i (bT (rows.getD i []) off r.1)) hl),b∈al β id (.deep t' ct ts rows hl):=fun b hb=>hb
 refine iB hR hd bs (hR.kept.setRow (bA.2 g' (ah (hc.ay id _ aK) g' kT)).1 _) ⟨β,az φ id ((β.val id).ownBlock.toList++aS.flatten), ?_,by rw[BR];simp [ak]⟩
 rw[how,jG]
 show Core w0 S st.get (az st.obj id (some (.deep t' ct ts (rows.set i (bT (rows.getD i []) off r.1)) hl))) _ _ _ _
 refine hc.rewrite aK kT Ao ?_ hnd ?_
 ·exact⟨_,aS,by simpa using Ib,ml,jo,rfl⟩
 ·intro b hb
  have ax:b∈φ id:=by rw[kz];exact hb
  exact⟨bA.2 b ax,fun j oj hj ja=>hc.sep id j _ _ (Ne.symm hj) aK ja b ax⟩
theorem AV:∀(U:List MU) (h:Nat→Option aj) (j:Nat),fo (ep U) h j=if j∈bq U then none else h j
 | [],h,j=>by simp [ep,bq,fo]
 | x::l,h,j=>by
  have ih:=AV l h j
  cases x<;>simp only[ep,bq,fo,az]<;>first | exact ih | (by_cases hj:j=_<;>simp [hj,ih]<;>done) | skip
  all_goals
   simp only[List.mem_cons,ih]
   split<;>rename_i hj
   ·simp [hj]
   ·simp [hj]
theorem Bi (hR:Rel w0 S st a w) (hd:∀d,o.dst=some d→bc st.n d) {t t':TypeId} {x y:Operand} (ho:o.op= .store t x y) {id i off:Nat} {sy:SV} {bO:List SV} {ct:List CT} {ts:List TypeId} {rows:List (List DC)} {hl:Option (Nat×Nat)} {r:List DC×List MU}
  (h1:(cd x).val st.get st.obj=some (.d9 id i ct.length off)) (h2:(cd y).val st.get st.obj=some sy) (fB:(aD sy).val st.get st.obj=some bO) (dB:aY P t bO.length=true)
  (aK:st.obj id=some (.deep t' ct ts rows hl)) (dT:off+bO.length≤ct.length) (hf:aB ((ct.drop off).take bO.length)=aB ct) (hr:(aU ((ct.drop off).take bO.length) ts bO).val st.get st.obj=some r)
  (Jk:da (id::bq r.2)=true) (hi:i<rows.length) (II:CI hl i=true) (jG:e.cw=none) (BR:e.sv= .undef) (how:e.ow=(id,some (.deep t' ct ts (rows.set i (bT (rows.getD i []) off r.1)) none))::ep r.2):Good P w0 S st o e a w:=by
 obtain⟨ti,Ga,bu⟩:=aW dB
 obtain⟨β,φ,hc⟩:=hR.core
 have hx:=hc.ev h1
 simp only[ak] at hx
 obtain⟨g,hg,hx⟩:=hx
 obtain⟨fi,bd⟩:=dQ (hc.ev h2) fB
 have j_:=af.length _ _ fi
 have mQ:(a.eval y).cells.size=bO.length:=by simpa using j_
 obtain⟨kU,Cn⟩:=dc hc _ _ _ _ r fi hr
 have I2:=di.cells _ _ _ _ _ kU
 obtain⟨mT,Li⟩:=db Jk
 have Bu:=dW hc Cn Li
 have JU:∀b∈r.2.flatMap (aC β),∃k∈bq r.2,∃ob,st.obj k=some ob∧b∈al β k ob:=dq Cn
 obtain⟨vals,aS,aZ,de,jo,kz⟩:=hc.ay id _ aK
 have kT:g∈al β id (.deep t' ct ts rows hl):=by simp [al,hg]
 rcases aZ.2 with ⟨hv,h0,_⟩ | ⟨g',cap,cur,hv,hh,A1,D8,mi,Fa⟩
 ·omega
 have Hv:g'=g:=by simpa [hv,Value.ownBlock] using hg
 subst Hv
 simp only[cond_false] at hh
 have CL:(a.eval y).cells.toList.length=bO.length:=by simpa using mQ
 have bs:=AD (P:=P) ho hx Ga (bu.trans mQ.symm) bd hh hi A1 mi (by rw[CL];exact dT)
 have Ib:=aZ.written (off:=off) (nu:=(a.eval y).cells.toList) hg hi (by rw[CL];exact dT) hh mi A1
 generalize (a.eval y).cells.toList=nu at*
 rw[←CL] at dT hf I2 hr
 have kp:i<aS.length:=by rw[de.1];exact hi
 have eJ:=de.2 i (rows.getD i []) aS[i] (cD hi) (by simp)
 have GL:(ct.take off).length=off:=by simp;omega
 have bG:=ab.Gr (pre:=ct.take off) (part:=(ct.drop off).take nu.length) (suf:=ct.drop (off+nu.length)) (by rw[three];exact eJ) (by rw[three];exact hf) I2
 rw[three,GL] at bG
 have bA:=hc.fresh id _ aK
 have hnd:=bA.1
 rw[kz] at hnd
 have CC:g'∈φ id:=ah (hc.ay id _ aK) g' kT
 have JX:∀b∈aS.flatten,b≠g':=by
  intro b hb e
  subst e
  rw[List.nodup_append] at hnd
  exact hnd.2.2 b (by simp [hg]) b hb rfl
 have F7:∀b∈r.2.flatMap (aC β),b ∉ φ id:=by
  intro b hb iC
  obtain⟨k,hk,ob,IQ,Ak⟩:=JU b hb
  exact hc.sep k id ob _ (fun e=>mT (e ▸ hk)) IQ aK b (ah (hc.ay k ob IQ) b Ak) iC
 have KP:∀b∈r.2.flatMap (aC β),b≠g':=fun b hb e=>F7 b hb (e ▸ CC)
 have kr:∀j m',aS[j]? =some m'→∀b∈m',b∈aS.flatten:=fun j m' hj b hb=>List.mem_flatten.2 ⟨m',List.mem_of_getElem? hj,hb⟩
 have Kv:∀j,j≠i→(none:Option Value)=hF β hl j:=by
  intro j hj
  cases hl with
  | none=>rfl
  | some q=>
   obtain⟨k,nid⟩:=q
   have:=Nat.eq_of_beq_eq_true II
   subst this
   simp [hF,hj]
 have ml:=de.set (w':=w.setRow g' (cur.toList.take (i*ct.length+off)++(nu++cur.toList.drop (i*ct.length+off+nu.length))).toArray) (hv':=fun _=>none) (by simp) aZ.1 hi dT
  (fun j _ m' hj b hb=>setRow_other w g' b _ (JX b (kr j m' hj b hb))) Kv
  (ab.mono (by simp) _ _ _ _ _ bG (fun b hb=>setRow_other w g' b _ (KP b hb)))
 have E4:((β.val id).ownBlock.toList++(aS.set i (r.2.flatMap (aC β))).flatten).Nodup:=by
  rw[bW kp]
  have h3:=hnd
  rw[bw kp] at h3
  have h4:=gF (A:=(β.val id).ownBlock.toList++(aS.take i).flatten) (p1:=[]) (p2:=aS[i]) (p3:=[]) (B:=(aS.drop (i+1)).flatten) (n:=r.2.flatMap (aC β)) (by simpa using h3) Bu
   (fun b hb iC=>F7 b hb (by rw[kz,bw kp];simpa using iC))
  simpa using h4
 refine iB hR hd bs (hR.kept.setRow (bA.2 g' CC).1 _) ⟨β.fw id (aS.set i (r.2.flatMap (aC β))).flatten,az φ id ((β.val id).ownBlock.toList++(aS.set i (r.2.flatMap (aC β))).flatten), ?_,by rw[BR];simp [ak]⟩
 rw[how,jG]
 refine hc.DB (t:=t') (ct:=ct) (ts:=ts) (rows:=rows.set i (bT (rows.getD i []) off r.1)) (hl:=none) (G:=fun k=>k∈bq r.2) aK (fun k hk e=>mT (e ▸ hk)) (by simp [fo,az,fc]) (fun j hj x hx=> ?_) (by simp) (fun b hb iC=>setRow_other w g' b _ (fun e=>iC (by rw[e,hg];simp))) (fun b hb=>by simp only[al];exact List.mem_append_left _ hb) (fun b hb=> ?_) ?_ E4
 ·simp only[fo,az,hj,if_false,fc] at hx
  rw[AV] at hx
  split at hx
  ·cases hx
  ·rename_i hk
   exact⟨hx,hk⟩
 ·rw[bW kp] at hb
  simp only[List.mem_append] at hb
  rcases hb with hb | hb | hb
  ·left
   simp only[al,jo]
   rw[bw kp]
   simp [hb]
  ·right
   obtain⟨k,hk,ob,h3,h4⟩:=JU b hb
   exact⟨k,ob,hk,h3,h4⟩
  ·left
   simp only[al,jo]
   rw[bw kp]
   simp [hb]
 ·exact⟨_,_,by simpa [Env.fw] using Ib,ml,by simp [Env.fw,az],by simp [Env.fw]⟩
theorem m0 (hR:Rel w0 S st a w) {d:Nat} (aL:o.dst=some d) (hd:bc st.n d) (bP:bB st d) {t:TypeId} {ct:List CT} {ts:List TypeId} {rows:List (List DC)} {w':World} {v:Value}
  (bs:(execOp a.eval o).run P w= .ok (.value v) w') (hk:Kept S w0 w') (hs:w.heap.size≤w'.heap.size) (hw:∀b,b<w.heap.size→w'.heap[b]? =w.heap[b]?)
  (hB:∀b∈v.ownBlock.toList,b=w.heap.size) {vals:List Value} (aZ:cm w' t ct.length false v rows.length vals)
  (de:bK w' ct ts rows vals (fun _=>none) (List.replicate rows.length []))
  (fi:e.sv= .own (ag d 0)) (jG:e.cw=none) (how:e.ow=[(ag d 0,some (.deep t ct ts rows none))]):Good P w0 S st o e a w:=by
 obtain⟨β,φ,hc⟩:=hR.core
 have bG:ag d 0 / 64=d:=cO d 0 (by omega)
 have hle:=hR.kept.size
 have BK:(List.replicate rows.length ([]:List Nat)).flatten=[]:=by simp
 have hval:(β.gj (ag d 0) v []).val (ag d 0)=v:=by simp [Env.gj,az]
 have E3:(β.gj (ag d 0) v []).nb (ag d 0)=[]:=by simp [Env.gj,az]
 have Gc:v.ownBlock.toList.Nodup:=by cases v.ownBlock<;>simp
 refine bM hR (fun d' h'=>by rw[aL] at h';injection h' with h';exact h' ▸ hd) bs hk
  ⟨β.gj (ag d 0) v [],az φ (ag d 0) v.ownBlock.toList, ?_, ?_⟩
 ·rw[how,jG]
  refine hc.create hs hw (fun i hi=>bP.slot i _ hi bG) (fun j ob hj hi=>(bP.obj j ob hj).2 _ hi bG) ?_ (fun j hj=>⟨by simp [Env.gj,az,hj],rfl⟩) ?_ ?_ Gc ?_ rfl (fun j hj=>by simp [Env.gj,az,hj])
  ·cases hn:st.obj (ag d 0) with
   | none=>rfl
   | some ob=>exact absurd bG (bP.obj _ ob hn).1
  ·intro b hb
   simp only[al,hval,E3,List.append_nil] at hb
   rw[hB b hb]
   exact Nat.le_refl _
  ·exact⟨vals,List.replicate rows.length [],by rw[hval];exact aZ,de,by rw[E3,BK],by rw[hval,BK,List.append_nil]⟩
  ·intro b hb
   have h1:=hB b hb
   subst h1
   refine⟨⟨.inl hle,aZ.lt _ hb⟩,fun j ob hj br=> ?_⟩
   have:=((hc.fresh j ob hj).2 _ br).2
   omega
 ·rw[fi]
  unfold ak
  exact⟨hval.symm,aZ.one⟩
theorem iW {α:Type} (z:List α):∀(n k:Nat),k<n→(((List.replicate n z).flatten).drop (k*z.length)).take z.length=z
 | 0,k,h=>by omega
 | n+1,0,_=>by simp [List.replicate_succ]
 | n+1,k+1,h=>by
  rw[List.replicate_succ,List.flatten_cons,Nat.succ_mul,Nat.add_comm,List.drop_append,List.drop_of_length_le (by omega),List.nil_append]
  rw[show z.length+k*z.length - z.length=k*z.length by omega]
  exact iW z n k (by omega)
theorem bK.replicate {ct:List CT} {ts:List TypeId} {r:List DC} {z:List Value} (h:ab w none ct ts r z []) (hl:z.length=ct.length) (n:Nat):bK w ct ts (List.replicate n r) (List.replicate n z).flatten (fun _=>none) (List.replicate n []):=by
 refine⟨by simp,fun i r' m hi hm=> ?_⟩
 have de:i<n:=by have:=(List.getElem?_eq_some_iff.1 hi).1;simpa using this
 rw[List.getElem?_replicate_of_lt de,Option.some.injEq] at hi hm
 subst hi hm
 rw[←hl,iW z n i de]
 exact h
theorem Dy:∀ {U:List MU},bq U=[]→U.flatMap (aC β)=[]
 | [],_=>rfl
 | x::l,h=>by
  cases x<;>simp [bq] at h
  simp [aC,Dy h]
theorem B_ (hR:Rel w0 S st a w) {d:Nat} (aL:o.dst=some d) (hd:bc st.n d) (bP:bB st d) {t et:TypeId} {l c:Operand} (ho:o.op= .makeSlice t l c) {n m:Int} {ct:List CT} {ts:List TypeId} {i:TypeInfo} {z:List SV} {r:List DC×List MU}
  (hl:(cd l).val st.get st.obj=some (.int .i64 n)) (hm:(cd c).val st.get st.obj=some (.int .i64 m)) (hu:P.underlying t=some (.slice et)) (hi:P.info? et=some i) (dB:i.size=ct.length)
  (hz:(dM P et).val st.get st.obj=some z) (hr:(aU ct ts z).val st.get st.obj=some r) (Cn:bq r.2=[])
  (he:e= {sv:= .own (ag d 0),ow:=[(ag d 0,some (.deep et ct ts (List.replicate n.toNat r.1) none))],ok:=decide (0≤n) && decide (n≤m) && decide (m.toNat*i.bytes≤140737488355328) && decide (m≤9223372036854775807)})
  (aJ:e.ok=true):Good P w0 S st o e a w:=by
 subst he
 simp only[Bool.and_eq_true,decide_eq_true_eq] at aJ
 obtain⟨⟨⟨h0,I5⟩,Bo⟩,JV⟩:=aJ
 obtain⟨i',zv,dU,mV,rfl,bd⟩:=dA hz
 rw[hi] at dU
 injection dU with dU
 subst dU
 obtain⟨JD,JE,Ck⟩:=hR.core
 obtain⟨kU,_⟩:=dc Ck ct ts _ _ r (eN zv.cells.toList) hr
 have Bp:=di.cells _ _ _ _ _ kU
 rw[Dy Cn] at Bp
 have jO:zv.cells.toList.length=ct.length:=(ab.length _ _ _ _ _ Bp).1
 have EZ:(madeCells zv.cells (m.toNat*i.size)).toList=(List.replicate m.toNat zv.cells.toList).flatten:=by
  have:=Dx zv.cells m.toNat
  rw[dB,←jO]
  simpa using this
 have hx:=Ck.ev hl
 have hy:=Ck.ev hm
 simp only[ak] at hx hy
 have hb:(i.bytes:Int)*m≤281474976710656:=by
  have h1:((m.toNat*i.bytes:Nat):Int)≤140737488355328:=by omega
  rw[Int.natCast_mul,Int.toNat_of_nonneg (by omega),Int.mul_comm] at h1
  omega
 have bs:=run_make (P:=P) w t et i zv hu hi mV .i64 .i64 n m h0 I5 hb JV
 refine m0 hR aL hd bP (vals:=(List.replicate n.toNat zv.cells.toList).flatten) (v:= .slice (some ⟨w.heap.size,0,none⟩) n.toNat m.toNat)
  (w':=w.alloc (.cells (madeCells zv.cells (m.toNat*i.size)) et)) ?_ (hR.kept.alloc _) (by rw[cn];omega) (fun b hb=>alloc_old _ b hb) (by simp [Value.ownBlock]) ?_ ?_ rfl rfl rfl
 ·simp [execOp,ho,hx.1,hy.1,bs]
 ·refine⟨by simp [jO],.inr ⟨w.heap.size,m.toNat,_,by simp,by simpa using ec _,by simp;omega,by simp only[maxLen];omega,by rw[size_madeCells,dB], ?_⟩⟩
  rw[EZ]
  have:List.replicate m.toNat zv.cells.toList=List.replicate n.toNat zv.cells.toList++List.replicate (m.toNat - n.toNat) zv.cells.toList:=by
   rw[List.replicate_append_replicate]
   congr 1
   omega
  rw[this,List.flatten_append,List.take_append_of_le_length (by simp [jO]),List.take_of_length_le (by simp [jO])]
 ·rw[List.length_replicate]
  exact bK.replicate (ab.mono (by rw[cn];omega) _ _ _ _ _ Bp (by simp)) jO _
theorem DX (hc:Core w0 S f h β φ tm w) {id nid i:Nat} {t t1:TypeId} {ct e2:List CT} {rows r:List (List DC)} {u:Bool} {h':Nat→Option aj} (aK:h id=some (.deep t ct [t1] rows (some (i,nid)))) (hn:h nid=some (.row t1 e2 r false u)) (ku:∃e',ct[ea ct]? =some (.sl e')∧e'=e2) (Cz:aB ct=1)
  (cM:nid≠id) (hf:aq e2=true) (hh:h' id=some (.deep t ct [t1] (rows.set i (bT (rows.getD i []) (ea ct) [.sl r])) none)) (DQ:∀j,j≠id→h' j=if j=nid then none else h j):
  ∃β' φ',Core w0 S f h' β' φ' tm w:=by
 obtain⟨e',ku,rfl⟩:=ku
 obtain⟨vals,aS,aZ,de,jo,kz⟩:=hc.ay id _ aK
 obtain⟨Ci,mN,Jb,jH,_,_⟩:=hc.ay nid _ hn
 have hnd:=(hc.fresh id _ aK).1
 rw[kz] at hnd
 have LM:al β nid (.row t1 e' r false u)=(β.val nid).ownBlock.toList:=rfl
 have F7:∀b∈(β.val nid).ownBlock.toList,b ∉ φ id:=fun b hb=>hc.sep nid id _ _ cM hn aK b (ah (hc.ay nid _ hn) b (LM ▸ hb))
 have Gc:(β.val nid).ownBlock.toList.Nodup:=by cases (β.val nid).ownBlock<;>simp
 have kr:∀b∈(aS.set i (β.val nid).ownBlock.toList).flatten,b∈aS.flatten∨b∈(β.val nid).ownBlock.toList:=by
  intro b hb
  by_cases hi:i<aS.length
  ·rw[bW hi] at hb
   rw[bw hi]
   simp only[List.mem_append] at hb ⊢
   rcases hb with hb | hb | hb<;>simp [hb]
  ·rw[List.set_eq_of_length_le (by omega)] at hb
   exact .inl hb
 have E4:((β.val id).ownBlock.toList++(aS.set i (β.val nid).ownBlock.toList).flatten).Nodup:=by
  by_cases hi:i<aS.length
  ·rw[bW hi]
   have h3:=hnd
   rw[bw hi] at h3
   have h4:=gF (A:=(β.val id).ownBlock.toList++(aS.take i).flatten) (p1:=[]) (p2:=aS[i]) (p3:=[]) (B:=(aS.drop (i+1)).flatten) (n:=(β.val nid).ownBlock.toList) (by simpa using h3) Gc
    (fun b hb iC=>F7 b hb (by rw[kz,bw hi];simpa using iC))
   simpa using h4
  ·rw[List.set_eq_of_length_le (by omega)]
   exact hnd
 refine⟨β.fw id (aS.set i (β.val nid).ownBlock.toList).flatten,az φ id ((β.val id).ownBlock.toList++(aS.set i (β.val nid).ownBlock.toList).flatten), ?_⟩
 refine hc.DB (t:=t) (ct:=ct) (ts:=[t1]) (rows:=rows.set i (bT (rows.getD i []) (ea ct) [.sl r])) (hl:=none) (G:=fun k=>k=nid) aK (fun k hk e=>cM (hk ▸ e)) hh (fun j hj x hx=> ?_) (Nat.le_refl _) (fun _ _ _=>rfl) (fun b hb=>by simp only[al];exact List.mem_append_left _ hb) (fun b hb=> ?_) ?_ E4
 ·rw[DQ j hj] at hx
  split at hx
  ·cases hx
  ·rename_i hk
   exact⟨hx,hk⟩
 ·rcases kr b hb with hb | hb
  ·left
   simp only[al,jo]
   exact List.mem_append_right _ hb
  ·exact .inr ⟨nid,_,rfl,hn,LM ▸ hb⟩
 ·refine⟨vals,aS.set i (β.val nid).ownBlock.toList,by simpa [Env.fw] using aZ,⟨by simp [de.1],fun k r' m hk hm=> ?_⟩,by simp [Env.fw,az],by simp [Env.fw]⟩
  by_cases Am:k=i
  ·subst Am
   have FM:k<rows.length:=by have:=(List.getElem?_eq_some_iff.1 hk).1;simpa using this
   have F3:k<aS.length:=by rw[de.1];exact FM
   rw[List.getElem?_set_self FM,Option.some.injEq] at hk
   rw[List.getElem?_set_self F3,Option.some.injEq] at hm
   subst hk hm
   have h3:=de.2 k (rows.getD k []) aS[k] (cD FM) (by simp)
   simp only[hF,if_true] at h3
   exact ab.back _ e' t1 _ _ aS[k] ku Cz h3 ⟨Ci,mN,Jb,jH,rfl⟩
  ·rw[List.getElem?_set_ne (Ne.symm Am)] at hk hm
   have:=de.2 k r' m hk hm
   simp only[hF,Am,if_false] at this
   exact this
end
end Go.Proofs.YtnlkklmcfafgeaaGreat.Vm
set_option linter.unusedVariables false
set_option linter.unusedSimpArgs false
namespace Go.Proofs.YtnlkklmcfafgeaaGreat.Vm
section
variable {P:Program} {Γ:Ctx} {w0:World} {S:Own} {st:St} {o:Oper} {e:cJ} {a:Act} {w w':World}
variable {f:Nat→SV} {h:Nat→Option aj} {β:Env} {φ:Nat→List Nat} {tm:Array Value}
theorem Core.compose (hc:Core w0 S f h β φ tm w) {id:Nat} {G:Nat→Prop} {h':Nat→Option aj} {v':Value} {t:TypeId} {ct:List CT} {ts:List TypeId} {rows:List (List DC)} {vals:List Value} {aS:List (List Nat)}
  (dw:∀i,id ∉ bX (f i)) (CD:∀j x,h j=some x→id ∉ cF x) (LK:h id=none)
  (hh:h' id=some (.deep t ct ts rows none)) (DQ:∀j,j≠id→∀x,h' j=some x→h j=some x∧¬G j)
  (hs:w.heap.size≤w'.heap.size) (hk:w0.heap.size≤w.heap.size) (hw:∀b,b<w.heap.size→(∀k x,G k→h k=some x→b ∉ al β k x)→w'.heap[b]? =w.heap[b]?)
  (Mi:∀b∈v'.ownBlock.toList++aS.flatten,(∃k x,G k∧h k=some x∧b∈al β k x)∨(b=w.heap.size∧b<w'.heap.size))
  (aZ:cm w' t ct.length false v' rows.length vals) (de:bK w' ct ts rows vals (fun _=>none) aS) (hnd:(v'.ownBlock.toList++aS.flatten).Nodup):
  Core w0 S f h' (β.gj id v' aS.flatten) (az φ id (v'.ownBlock.toList++aS.flatten)) tm w':=by
 have hval:(β.gj id v' aS.flatten).val id=v':=by simp [Env.gj,az]
 have E3:(β.gj id v' aS.flatten).nb id=aS.flatten:=by simp [Env.gj,az]
 have jc:∀j oj,j≠id→al (β.gj id v' aS.flatten) j oj=al β j oj:=by
  intro j oj hj
  cases oj<;>simp [al,Env.gj,az,hj]
 have Dn:∀b∈v'.ownBlock.toList++aS.flatten,((w0.heap.size≤b∨S b)∧b<w'.heap.size)∧(Av h β b∨w.heap.size≤b)∧∀j oj,h j=some oj→¬G j→b ∉ φ j:=by
  intro b hb
  rcases Mi b hb with ⟨k,x,KB,hx,h1⟩ | ⟨h1,h2⟩
  ·have h2:=ah (hc.ay k x hx) b h1
   have h3:=(hc.fresh k x hx).2 b h2
   exact⟨⟨h3.1,by omega⟩,.inl (.inl ⟨k,x,hx,h1⟩),fun j oj ja hg=>hc.sep k j x oj (fun e=>hg (e ▸ KB)) hx ja b h2⟩
  ·exact⟨⟨.inl (by omega),h2⟩,.inr (by omega),fun j oj ja _ br=>by have:=((hc.fresh j oj ja).2 b br).2;omega⟩
 refine hc.mG (fun j=>j=id) hs (fun b hb hn=>hw b hb (fun k x _ hx Ak=>hn (.inl ⟨k,x,hx,Ak⟩))) ?_ (fun i j hj e=>dw i (e ▸ hj)) (fun j hj=>⟨by simp [Env.gj,az,hj],rfl⟩) ?_ ?_
 ·rintro b (⟨j,oj,hj,br⟩ | hb)
  case inr=>exact .inl (.inr hb)
  by_cases cf:j=id
  ·subst cf
   rw[hh,Option.some.injEq] at hj
   subst hj
   simp only[al,hval,E3] at br
   exact (Dn b br).2.1
  ·rw[jc j oj cf] at br
   exact .inl (.inl ⟨j,oj,(DQ j cf oj hj).1,br⟩)
 ·intro j oj hj
  by_cases cf:j=id
  ·subst cf
   rw[hh,Option.some.injEq] at hj
   subst hj
   refine .inr ⟨?_,by simpa [az] using hnd,fun b hb=>(Dn b (by simpa [az] using hb)).1⟩
   exact⟨vals,aS,by rw[hval];exact aZ,de,E3,by rw[hval];simp [az]⟩
  ·obtain⟨h1,hg⟩:=DQ j cf oj hj
   refine .inl ⟨cf,h1,by simp [Env.gj,az,cf],by simp [az,cf],fun k Mx e=>CD j oj h1 (e ▸ Mx),fun b hb=> ?_⟩
   have fD:=ah (hc.ay j oj h1) b hb
   exact hw b ((hc.fresh j oj h1).2 b fD).2 (fun k x KB hx Ak=>hc.sep k j x oj (fun e=>hg (e ▸ KB)) hx h1 b (ah (hc.ay k x hx) b Ak) fD)
 ·intro i j oi oj cM hi hj b hb
  by_cases lv:i=id
  ·subst lv
   have gy:j≠i:=Ne.symm cM
   simp only[az,if_true] at hb
   simp only[az,gy,if_false]
   obtain⟨h1,h2⟩:=DQ j gy oj hj
   exact (Dn b hb).2.2 j oj h1 h2
  ·simp only[az,lv,if_false] at hb
   obtain⟨h1,h2⟩:=DQ i lv oi hi
   by_cases cf:j=id
   ·subst cf
    simp only[az,if_true]
    exact fun ax=>(Dn b ax).2.2 i oi h1 h2 hb
   ·simp only[az,cf,if_false]
    exact hc.sep i j oi oj cM h1 (DQ j cf oj hj).1 b hb
theorem bK.append {ct:List CT} {ts:List TypeId} {r1 r2:List (List DC)} {v1 v2:List Value} {m1 m2:List (List Nat)} (h1:bK w ct ts r1 v1 (fun _=>none) m1) (hl:v1.length=r1.length*ct.length) (h2:bK w ct ts r2 v2 (fun _=>none) m2):
  bK w ct ts (r1++r2) (v1++v2) (fun _=>none) (m1++m2):=by
 refine⟨by simp [h1.1,h2.1],fun i r m hi hm=> ?_⟩
 rw[List.getElem?_append] at hi hm
 rw[h1.1] at hm
 by_cases cr:i<r1.length
 ·rw[if_pos cr] at hi hm
  have hle:i*ct.length+ct.length≤v1.length:=by rw[hl,←Nat.succ_mul];exact Nat.mul_le_mul_right _ cr
  have:=h1.2 i r m hi hm
  rw[List.drop_append_of_le_length (by omega),List.take_append_of_le_length (by simp;omega)]
  exact this
 ·rw[if_neg cr] at hi hm
  have:=h2.2 (i - r1.length) r m hi hm
  have e1:(v1++v2).drop (i*ct.length)=v2.drop ((i - r1.length)*ct.length):=by
   have ER:v1.length≤i*ct.length:=by rw[hl];exact Nat.mul_le_mul_right _ (by omega)
   rw[List.drop_append,List.drop_of_length_le ER,List.nil_append,hl,Nat.sub_mul]
  rw[e1]
  exact this
theorem ab.one:∀(cs:List CT) (ts:List TypeId) (ds:List DC) (us:List Value) (mb:List Nat),ab w none cs ts ds us mb→∀u∈us,u.oneCell'=true
 | [],_,_,_,_,h=>by
  simp only[ab] at h
  simp [h.2.2.1]
 | c::cs,_,_,_,_,h=>by
  rcases cY c with ⟨e,rfl⟩ | hc
  ·simp only[ab] at h
   obtain⟨t,dN,rows,aX,v,aM,m1,gb,rfl,rfl,rfl,_,⟨vals,aA,g1,_⟩,h6,rfl⟩:=h
   intro u hu
   rcases List.mem_cons.1 hu with rfl | hu
   ·exact g1.one
   ·exact ab.one cs _ _ _ _ h6 u hu
  ·rw[ab.flat hc] at h
   obtain⟨d,aX,v,aM,rfl,rfl,h3,h4⟩:=h
   intro u hu
   rcases List.mem_cons.1 hu with rfl | hu
   ·exact h3.one
   ·exact ab.one cs _ _ _ _ h4 u hu
theorem bK.one {ct:List CT} {ts:List TypeId} {rows:List (List DC)} {vals:List Value} {aS:List (List Nat)} (h:bK w ct ts rows vals (fun _=>none) aS) (hl:vals.length=rows.length*ct.length) (hp:0<ct.length):∀u∈vals,u.oneCell'=true:=by
 intro u hu
 obtain⟨p,La,rfl⟩:=List.getElem_of_mem hu
 have hi:p / ct.length<rows.length:=by rw[Nat.div_lt_iff_lt_mul hp];omega
 have hj:=Nat.mod_lt p hp
 have hm:p / ct.length<aS.length:=by rw[h.1];exact hi
 have hc:=h.2 (p / ct.length) rows[p / ct.length] aS[p / ct.length] (by simp) (by simp)
 refine ab.one _ _ _ _ _ hc _ (List.mem_of_getElem? (i:=p % ct.length) ?_)
 rw[List.getElem?_take,if_pos hj,List.getElem?_drop]
 have:p / ct.length*ct.length+p % ct.length=p:=by rw[Nat.mul_comm];exact Nat.div_add_mod p ct.length
 rw[this]
 simp [La]
theorem BB (hc:Core w0 S f h β φ tm w) {et:TypeId} {ct:List CT} {ts:List TypeId} {s:SV} {v:Value} {q:List (List DC)×List Nat} (hs:ak w (Av h β) β s v) (hq:(Af et ct ts s).val f h=some q):
  ∃vals aS,cm w et ct.length false v q.1.length vals∧bK w ct ts q.1 vals (fun _=>none) aS∧(v.ownBlock.toList++aS.flatten).Nodup∧
   ((q.2=[]∧v= .slice none 0 0∧aS=[])∨∃id,q.2=[id]∧∃x,h id=some x∧al β id x=v.ownBlock.toList++aS.flatten):=by
 unfold Af at hq
 split at hq
 ·simp only[M.aa,Option.some.injEq] at hq
  subst hq
  simp only[ak] at hs
  subst hs
  exact⟨[],[],⟨by simp,.inl ⟨rfl,rfl,rfl⟩⟩,⟨rfl,by simp⟩,by simp [Value.ownBlock],.inl ⟨rfl,rfl,rfl⟩⟩
 ·rename_i id
  simp only[M.aT,Option.bind_eq_some_iff] at hq
  obtain⟨ob,aK,hq⟩:=hq
  simp only[ak] at hs
  split at hq
  ·rename_i t' e' dN r
   cases hb:Nat.beq t' et && aF e' ct && fK dN ts
   ·simp [hb] at hq
   simp only[hb,cond_true,M.aa,Option.some.injEq] at hq
   subst hq
   simp only[Bool.and_eq_true] at hb
   have b1:=Nat.eq_of_beq_eq_true hb.1.1
   have b2:=aN _ _ hb.1.2
   have b3:=gk _ _ hb.2
   subst b1 b2 b3
   have bP:=(hc.fresh id _ aK).1
   obtain⟨vals,aS,g1,g2,g3,g4⟩:=hc.ay id _ aK
   rw[g4] at bP
   rw[←hs.1] at g1 bP
   exact⟨vals,aS,g1,g2,bP,.inr ⟨id,rfl,_,aK,by simp only[al,g3,hs.1]⟩⟩
  ·simp at hq
 ·simp at hq
theorem EF:∀(ids:List Nat) (h:Nat→Option aj) (j:Nat),fo (gone ids) h j=if j∈ids then none else h j
 | [],h,j=>by simp [gone,fo]
 | i::l,h,j=>by
  have ih:=EF l h j
  show az (fo (gone l) h) i none j=_
  simp only[az,List.mem_cons]
  by_cases hj:j=i
  ·simp [hj]
  ·simp only[hj,if_false,false_or]
   exact ih
theorem CR {l m:List Nat} (hn:da (l++m)=true):∀i∈l,i ∉ m:=by
 induction l with
 | nil=>simp
 | cons x l ih=>
  obtain⟨h1,h2⟩:=db (i:=x) (l:=l++m) hn
  intro i hi
  rcases List.mem_cons.1 hi with rfl | hi
  ·exact fun hm=>h1 (List.mem_append_right _ hm)
  ·exact ih h2 i hi
theorem mX (hR:Rel w0 S st a w) {d:Nat} (aL:o.dst=some d) (hd:bc st.n d) (bP:bB st d) {t et:TypeId} {s x:Operand} {c:Call} (ho:o.op= .call c) (hb:c.callee= .builtin .append) (cy:c.args= #[s,x])
  (F0:c.argTypes= #[t,t]) {ss sx:SV} {ct:List CT} {ts:List TypeId} {p q:List (List DC)×List Nat} {z:List SV} (h1:(cd s).val st.get st.obj=some ss) (h2:(cd x).val st.get st.obj=some sx) (hu:P.underlying t=some (.slice et))
  (dB:aY P et ct.length=true) (hp:0<ct.length) (hz:(dM P et).val st.get st.obj=some z) (jO:z.length=ct.length) (Lb:(Af et ct ts ss).val st.get st.obj=some p) (Lc:(Af et ct ts sx).val st.get st.obj=some q) (hnd:da (p.2++q.2)=true)
  (eI:fv P et (p.1.length+q.1.length)=true) (fi:e.sv= .own (ag d 0)) (jG:e.cw=none)
  (how:e.ow=(ag d 0,some (.deep et ct ts (p.1++q.1) none))::gone (p.2++q.2)):Good P w0 S st o e a w:=by
 obtain⟨i,hi,bu⟩:=aW dB
 obtain⟨i',zv,dU,mV,rfl,_⟩:=dA hz
 rw[hi] at dU
 injection dU with dU
 subst dU
 obtain⟨β,φ,hc⟩:=hR.core
 obtain⟨G7,CP,o1,d1,n1,k1⟩:=BB hc (hc.ev h1) Lb
 obtain⟨Ci,CQ,o2,d2,n2,k2⟩:=BB hc (hc.ev h2) Lc
 have bd:=d2.one o2.1 hp
 obtain⟨Q,cc,GX,Ia,hcell⟩:∃Q cc,a.eval x= .slice Q q.1.length cc∧(Q=none→q.1.length=0)∧∀ad,Q=some ad→∀j u,Ci[j]? =some u→w.cell? (ad.add j)=some u:=by
  rcases o2.2 with ⟨hv,h0,_⟩ | ⟨g,cap,cur,hv,_⟩
  ·exact⟨none,0,by rw[hv,h0],fun _=>h0,by simp⟩
  ·refine⟨some ⟨g,0,none⟩,cap,hv,by simp,fun ad H7 j u hj=> ?_⟩
   simp only[Option.some.injEq] at H7
   subst H7
   rw[dt]
   have:=o2.cell (g:=g) (by rw[hv];rfl) hj
   simpa using this
 obtain⟨v',w',bs,ga,dj,jD⟩:=i6 (P:=P) (ty:=o.type) (c:=cc) hu hi mV bu (by simpa using jO) hp o1 o2.1 Ia hcell bd eI
 have bG:ag d 0 / 64=d:=cO d 0 (by omega)
 have EW:∀b∈(a.eval s).ownBlock.toList++CP.flatten,∃k y,k∈p.2∧st.obj k=some y∧b∈al β k y:=by
  intro b ax
  rcases k1 with ⟨_,hv,hm⟩ | ⟨id,dV,y,hy,ht⟩
  ·rw[hv,hm] at ax;simp [Value.ownBlock] at ax
  ·exact⟨id,y,by rw[dV];simp,hy,by rw[ht];exact ax⟩
 have jH:∀b∈(a.eval x).ownBlock.toList++CQ.flatten,∃k y,k∈q.2∧st.obj k=some y∧b∈al β k y:=by
  intro b ax
  rcases k2 with ⟨_,hv,hm⟩ | ⟨id,dV,y,hy,ht⟩
  ·rw[hv,hm] at ax;simp [Value.ownBlock] at ax
  ·exact⟨id,y,by rw[dV];simp,hy,by rw[ht];exact ax⟩
 have Hp:=CR hnd
 have Cx:∀b∈(a.eval s).ownBlock.toList++CP.flatten,b ∉ (a.eval x).ownBlock.toList++CQ.flatten:=by
  intro b h3 h4
  obtain⟨k,y,hk,hy,GF⟩:=EW b h3
  obtain⟨k',y',CE,Jo,iC⟩:=jH b h4
  exact hc.sep k k' y y' (fun e=>Hp k hk (e ▸ CE)) hy Jo b (ah (hc.ay k y hy) b GF) (ah (hc.ay k' y' Jo) b iC)
 have fN:∀b,b<w.heap.size→(a.eval s).ownBlock≠some b→w'.heap[b]? =w.heap[b]? :=fun b ax cM=>dj.block b ax (fun e=>cM e.symm)
 have F4:=d1.lt
 have F5:=d2.lt
 have KS:∀b∈CP.flatten,(a.eval s).ownBlock≠some b:=by
  intro b ax e
  rw[List.nodup_append] at n1
  exact n1.2.2 b (by rw[e];simp) b ax rfl
 have KT:∀b∈CQ.flatten,(a.eval s).ownBlock≠some b:=by
  intro b ax e
  exact Cx b (List.mem_append_left _ (by rw[e];simp)) (List.mem_append_right _ ax)
 have LO:∀b∈v'.ownBlock.toList,b∈(a.eval s).ownBlock.toList∨b=w.heap.size:=by
  intro b ax
  rcases jD with h3 | h3
  ·rw[h3] at ax;exact .inl ax
  ·rw[h3] at ax;exact .inr (by simpa using ax)
 have Gc:v'.ownBlock.toList.Nodup:=by cases v'.ownBlock<;>simp
 have HE:(v'.ownBlock.toList++(CP++CQ).flatten).Nodup:=by
  rw[List.flatten_append,List.nodup_append]
  rw[List.nodup_append] at n1 n2
  refine⟨Gc, ?_,fun b h3 b' h4 e=> ?_⟩
  ·rw[List.nodup_append]
   refine⟨n1.2.1,n2.2.1,fun b h3 b' h4 e=> ?_⟩
   subst e
   exact Cx b (List.mem_append_right _ h3) (List.mem_append_right _ h4)
  ·subst e
   rcases LO b h3 with h5 | h5
   ·rcases List.mem_append.1 h4 with h4 | h4
    ·exact n1.2.2 b h5 b h4 rfl
    ·exact Cx b (List.mem_append_left _ h5) (List.mem_append_right _ h4)
   ·rcases List.mem_append.1 h4 with h4 | h4
    ·have:=F4 b h4;omega
    ·have:=F5 b h4;omega
 have IE:bK w' ct ts (p.1++q.1) (G7++Ci) (fun _=>none) (CP++CQ):=by
  refine bK.append ?_ o1.1 ?_
  ·exact d1.mono dj.size (fun b ax=>fN b (F4 b ax) (KS b ax)) (fun _=>rfl)
  ·exact d2.mono dj.size (fun b ax=>fN b (F5 b ax) (KT b ax)) (fun _=>rfl)
 have Jc:cm w' et ct.length false v' (p.1++q.1).length (G7++Ci):=by rw[List.length_append];exact ga
 have IP:∀b,(a.eval s).ownBlock=some b→w0.heap.size≤b∨S b:=by
  intro b ax
  obtain⟨k,y,_,hy,jE⟩:=EW b (List.mem_append_left _ (by rw[ax];simp))
  exact ((hc.fresh k y hy).2 b (ah (hc.ay k y hy) b jE)).1
 refine bM hR (fun d' h'=>by rw[aL] at h';injection h' with h';exact h' ▸ hd) (v:=v') (w':=w') ?_ (hR.kept.grown dj IP)
  ⟨β.gj (ag d 0) v' (CP++CQ).flatten,az φ (ag d 0) (v'.ownBlock.toList++(CP++CQ).flatten), ?_, ?_⟩
 ·simp [execOp,ho,resolve,hb,cy,F0,invoke,builtin,GX,bs]
 ·rw[how,jG]
  refine hc.compose (G:=fun k=>k∈p.2++q.2) (fun i hi=>bP.slot i _ hi bG) (fun j ob hj hi=>(bP.obj j ob hj).2 _ hi bG) ?_ (by simp [fo,az,fc]) (fun j hj y hy=> ?_) dj.size hR.kept.size (fun b ax hn=> ?_) (fun b ax=> ?_) Jc IE HE
  ·cases hn:st.obj (ag d 0) with
   | none=>rfl
   | some ob=>exact absurd bG (bP.obj _ ob hn).1
  ·simp only[fo,az,hj,if_false,fc] at hy
   rw[EF] at hy
   split at hy
   ·cases hy
   ·rename_i hk
    exact⟨hy,hk⟩
  ·refine fN b ax (fun e=> ?_)
   obtain⟨k,y,hk,hy,jE⟩:=EW b (List.mem_append_left _ (by rw[e];simp))
   exact hn k y (List.mem_append_left _ hk) hy jE
  ·rcases List.mem_append.1 ax with ax | ax
   ·rcases LO b ax with h3 | h3
    ·obtain⟨k,y,hk,hy,jE⟩:=EW b (List.mem_append_left _ h3)
     exact .inl ⟨k,y,List.mem_append_left _ hk,hy,jE⟩
    ·exact .inr ⟨h3,ga.lt b ax⟩
   ·rw[List.flatten_append] at ax
    rcases List.mem_append.1 ax with ax | ax
    ·obtain⟨k,y,hk,hy,jE⟩:=EW b (List.mem_append_right _ ax)
     exact .inl ⟨k,y,List.mem_append_left _ hk,hy,jE⟩
    ·obtain⟨k,y,hk,hy,jE⟩:=jH b (List.mem_append_right _ ax)
     exact .inl ⟨k,y,List.mem_append_right _ hk,hy,jE⟩
 ·rw[fi]
  unfold ak
  exact⟨by simp [Env.gj,az],ga.one⟩
theorem bK.cons {ct:List CT} {ts:List TypeId} {r:List DC} {l:List Value} {m:List Nat} {rows:List (List DC)} {vals:List Value} {aS:List (List Nat)} (h1:ab w none ct ts r l m) (hl:l.length=ct.length) (h2:bK w ct ts rows vals (fun _=>none) aS):
  bK w ct ts (r::rows) (l++vals) (fun _=>none) (m::aS):=by
 have:=bK.append (r1:=[r]) (v1:=l) (m1:=[m]) ⟨rfl,fun i r' m' hi hm=>by
  have Mv:i=0:=by
   have:=(List.getElem?_eq_some_iff.1 hi).1
   simpa using this
  subst Mv
  simp only[List.getElem?_cons_zero,Option.some.injEq] at hi hm
  subst hi hm
  rw[Nat.zero_mul,List.drop_zero,List.take_of_length_le (by omega)]
  exact h1⟩ (by simp [hl]) h2
 simpa using this
theorem iR (hc:Core w0 S st.get st.obj β φ a.tmps w) {ct:List CT} {ts:List TypeId} :∀(parts:List (Nat×Operand)) (k:Nat) (q:List (List DC)×List MU),(ef ct ts k parts).val st.get st.obj=some q→
  ∃(vals:List Value) (aS:List (List Nat)),vals.length=parts.length*ct.length∧q.1.length=parts.length∧bK w ct ts q.1 vals (fun _=>none) aS∧aS.flatten=q.2.flatMap (aC β)∧cV st.obj q.2∧
   ∀(pre suf:List Value),pre.length=k*ct.length→suf.length=parts.length*ct.length→
    Instr.fill (fun i=>some (i*ct.length,ct.length)) (pre++suf).toArray (parts.map fun x=>(x.1,a.eval x.2))=some (pre++vals).toArray
 | [],k,q,hq=>by
  simp only[ef,M.aa,Option.some.injEq] at hq
  subst hq
  refine⟨[],[],by simp,rfl,⟨rfl,by simp⟩,rfl,trivial,fun pre suf h1 h2=> ?_⟩
  have:suf=[]:=by simpa using h2
  subst this
  simp [Instr.fill]
 | (i,x)::rest,k,q,hq=>by
  simp only[ef] at hq
  cases D9:Nat.beq i k
  ·simp [D9] at hq
  have D9:=Nat.eq_of_beq_eq_true D9
  subst D9
  simp only[Nat.beq_refl,cond_true,M.ae,Option.bind_eq_some_iff,M.aa,Option.some.injEq] at hq
  obtain⟨s,hs,cs,fB,r,hr,q2,cz,rfl⟩:=hq
  obtain⟨fi,bd⟩:=dQ (hc.ev hs) fB
  obtain⟨kU,KM⟩:=dc hc ct ts _ _ r fi hr
  have Bp:=di.cells _ _ _ _ _ kU
  have LI:=(ab.length _ _ _ _ _ Bp).1
  have bu:(a.eval x).cells.size=ct.length:=by simpa using LI
  obtain⟨vals,aS,j_,IU,jH,Kp,KN,CA⟩:=iR hc rest (i+1) q2 cz
  refine⟨(a.eval x).cells.toList++vals,(r.2.flatMap (aC β))::aS, ?_,by simp [IU],bK.cons Bp LI jH,by simp [Kp],KM.append KN, ?_⟩
  ·simp only[List.length_append,j_,List.length_cons,Array.length_toList,bu,Nat.succ_mul]
   omega
  ·intro pre suf h1 h2
   simp only[List.length_cons,Nat.succ_mul] at h2
   simp only[List.map_cons]
   rw[kl (off:=i*ct.length) (by rw[bu]) (by simp [h1,bu];omega)]
   have e1:((pre++suf).toArray.toList.take (i*ct.length)++((a.eval x).cells.toList++(pre++suf).toArray.toList.drop (i*ct.length+(a.eval x).cells.size)))=(pre++(a.eval x).cells.toList)++suf.drop ct.length:=by
    simp only[bu,←h1]
    simp [List.drop_append]
   rw[e1,CA (pre++(a.eval x).cells.toList) (suf.drop ct.length) (by simp [h1,bu,Nat.succ_mul]) (by simp [h2])]
   simp
theorem Bg (hR:Rel w0 S st a w) {d:Nat} (aL:o.dst=some d) (hd:bc st.n d) (bP:bB st d) {t et:TypeId} {len:Nat} {parts:Array (Nat×Operand)} (ho:o.op= .buildSlice t len parts) {ct:List CT} {ts:List TypeId} {q:List (List DC)×List MU}
  (hu:P.underlying t=some (.slice et)) (dB:aY P et ct.length=true) (jK:0<ct.length) (hlen:len=parts.toList.length) (Ji:len*ct.length≤16777216) (hz:∃z,(dM P et).val st.get st.obj=some z)
  (hq:(ef ct ts 0 parts.toList).val st.get st.obj=some q) (hn:da (bq q.2)=true)
  (he:e= {sv:= .own (ag d 0),ow:=(ag d 0,some (.deep et ct ts q.1 none))::ep q.2}):Good P w0 S st o e a w:=by
 subst he
 obtain⟨i,hi,bu⟩:=aW dB
 obtain⟨β,φ,hc⟩:=hR.core
 obtain⟨vals,aS,A6,F_,de,eA,Cn,kS⟩:=iR hc parts.toList 0 q hq
 obtain⟨z,hz⟩:=hz
 obtain⟨i',zv,dU,mV,_,_⟩:=dA hz
 rw[hi] at dU
 injection dU with dU
 subst dU
 have hle:len≤maxLen:=by
  have:len≤len*ct.length:=Nat.le_mul_of_pos_right _ jK
  simp only[maxLen]
  omega
 have bs:(Instr.buildSlice t len (parts.map fun x=>(x.1,a.eval x.2))).run P w= .ok (.slice (some ⟨w.heap.size,0,none⟩) len len) (w.alloc (.cells vals.toArray et)):=by
  rcases Nat.eq_zero_or_pos len with h0 | h0
  ·have hp:parts= #[]:=by
    have:parts.toList.length=0:=by omega
    simpa using this
   have hv:vals=[]:=by
    have:vals.length=0:=by rw[A6,←hlen,h0,Nat.zero_mul]
    simpa using this
   subst hp hv h0
   simp [Instr.buildSlice,run_underlying hu,sizeOf,typeInfo,hi,Instr.fill,newRow,Array.range_zero']
  ·refine run_buildSlice (P:=P) w t et len _ vals.toArray i zv hu hi mV (by rw[bu];omega) (by rw[bu];exact Nat.ne_of_gt (Nat.mul_pos h0 jK)) ?_
   have:=kS [] ((Array.range (len*ct.length)).map (zv.cells[· % zv.cells.size]!)).toList (by simp) (by simp [hlen])
   rw[bu]
   generalize (Array.range (len*ct.length)).map (zv.cells[· % zv.cells.size]!)=A at this ⊢
   simpa using this
 have bG:ag d 0 / 64=d:=cO d 0 (by omega)
 have Bu:=dW hc Cn hn
 have JU:∀b∈q.2.flatMap (aC β),∃k∈bq q.2,∃ob,st.obj k=some ob∧b∈al β k ob:=dq Cn
 have cr:=de.lt
 have aZ:cm (w.alloc (.cells vals.toArray et)) et ct.length false (.slice (some ⟨w.heap.size,0,none⟩) len len) q.1.length vals:=by
  refine⟨by rw[A6,F_],.inr ⟨w.heap.size,len,vals.toArray,by rw[F_,←hlen],by simpa using ec _,by rw[F_,←hlen];exact Nat.le_refl _,hle,by simp [A6,hlen], ?_⟩⟩
  rw[F_,←A6]
  simp
 refine bM hR (fun d' h'=>by rw[aL] at h';injection h' with h';exact h' ▸ hd) (v:= .slice (some ⟨w.heap.size,0,none⟩) len len) (w':=w.alloc (.cells vals.toArray et)) ?_ (hR.kept.alloc _)
  ⟨β.gj (ag d 0) (.slice (some ⟨w.heap.size,0,none⟩) len len) aS.flatten,az φ (ag d 0) ([w.heap.size]++aS.flatten), ?_, ?_⟩
 ·simp [execOp,ho,bs]
 ·refine hc.compose (v':= .slice (some ⟨w.heap.size,0,none⟩) len len) (G:=fun k=>k∈bq q.2) (fun i hi=>bP.slot i _ hi bG) (fun j ob hj hi=>(bP.obj j ob hj).2 _ hi bG) ?_ (by simp [fo,az,fc]) (fun j hj y hy=> ?_) (by rw[cn];omega) hR.kept.size (fun b ax _=>alloc_old _ b ax) (fun b ax=> ?_) aZ (de.mono (by rw[cn];omega) (fun b ax=>alloc_old _ b (cr b ax)) (fun _=>rfl)) ?_
  ·cases hn:st.obj (ag d 0) with
   | none=>rfl
   | some ob=>exact absurd bG (bP.obj _ ob hn).1
  ·simp only[fo,az,hj,if_false,fc] at hy
   rw[AV] at hy
   split at hy
   ·cases hy
   ·rename_i hk
    exact⟨hy,hk⟩
  ·rcases List.mem_append.1 ax with ax | ax
   ·right
    have:b=w.heap.size:=by simpa [Value.ownBlock] using ax
    exact⟨this,by rw[cn];omega⟩
   ·left
    rw[eA] at ax
    obtain⟨k,hk,ob,h3,h4⟩:=JU b ax
    exact⟨k,ob,hk,h3,h4⟩
  ·rw[List.nodup_append]
   refine⟨by simp [Value.ownBlock],by rw[eA];exact Bu,fun b h3 b' h4 e=> ?_⟩
   subst e
   have h5:b=w.heap.size:=by simpa [Value.ownBlock] using h3
   have:=cr b h4
   omega
 ·unfold ak
  exact⟨by simp [Env.gj,az],rfl⟩
end
end Go.Proofs.YtnlkklmcfafgeaaGreat.Vm
set_option linter.unusedVariables false
set_option linter.unusedSimpArgs false
namespace Go.Proofs.YtnlkklmcfafgeaaGreat.Vm
section
variable {P:Program} {Γ:Ctx} {w0:World} {S:Own} {st:St} {o:Oper} {e:cJ} {a:Act} {w:World}
variable {f:Nat→SV} {h:Nat→Option aj} {β:Env} {φ:Nat→List Nat} {tm:Array Value}
def bC (b:List UInt8):List Value:=b.map fun c=>Value.int .u8 c.toNat
theorem dS (k:Nat) (b:List UInt8) (w:World):(Builtin.firstCells k b.length (.string ⟨b.toArray⟩)).run P w= .ok (bC b).toArray w:=by
 have:((⟨b.toArray⟩:ByteArray).extract 0 b.length).data.map (fun c=>Value.int .u8 c.toNat)=(bC b).toArray:=by
  rw[iv]
  simp [bC]
 simp only[Builtin.firstCells,Sem.run_pure,this]
theorem Bx {t u ty et:TypeId} {i:TypeInfo} {zv:Value} (ht:P.underlying t=some (.slice et)) (hu:P.underlying u=some .string) (hi:P.info? et=some i) (hz:i.zero=some zv) (dB:i.size=1) (Lm:zv.cells.size=1)
  {v:Value} {n:Nat} {vals:List Value} (aZ:cm w et 1 false v n vals) (b:List UInt8) (eI:fv P et (n+b.length)=true):
  ∃v' w',(Builtin.append_ #[t,u] ty #[v,.string ⟨b.toArray⟩]).run P w= .ok v' w'∧cm w' et 1 false v' (n+b.length) (vals++bC b)∧w.grownBy w' v.ownBlock∧(v'.ownBlock=v.ownBlock∨v'.ownBlock=some w.heap.size):=by
 obtain⟨EJ,IW⟩:=B3 hi eI
 have Lg:n+b.length≤9223372036854775807:=by simp only[maxLen] at IW;omega
 have HF:(bC b).length=b.length:=by simp [bC]
 have bd:∀u∈bC b,u.oneCell'=true:=by
  intro u hu
  obtain⟨c,_,rfl⟩:=List.mem_map.1 hu
  rfl
 have hlen:(vals++bC b).length=(n+b.length)*1:=by rw[List.length_append,aZ.1,HF];omega
 have grown:∀(lL:Nat),lL<n+b.length→∀(row:Option Nat),
   cm (w.drew.alloc (.cells (vals.toArray++(bC b).toArray++Builtin.zeroCells zv.cells (grownCap w (n+b.length) lL et - (n+b.length))) et)) et 1 false
    (.slice (some ⟨w.heap.size,0,none⟩) (n+b.length) (grownCap w (n+b.length) lL et)) (n+b.length) (vals++bC b)∧
   w.grownBy (w.drew.alloc (.cells (vals.toArray++(bC b).toArray++Builtin.zeroCells zv.cells (grownCap w (n+b.length) lL et - (n+b.length))) et)) row:=by
  intro lL ho row
  have ER:=grownCap_ge w (n+b.length) lL et
  have D8:grownCap w (n+b.length) lL et≤maxLen:=grownCap_le_maxLen w (n+b.length) lL et IW
  refine⟨⟨hlen,.inr ⟨w.heap.size,_,_,rfl,heap_alloc_new w.drew _,ER,D8, ?_, ?_⟩⟩,⟨rfl,rfl,rfl,by simp,fun k hk _=>heap_alloc_old w.drew _ hk⟩⟩
  ·simp only[Array.size_append,List.size_toArray,size_zeroCells,Lm,aZ.1,HF]
   omega
  ·simp only[Array.toList_append,List.append_assoc]
   rw[←List.append_assoc,←hlen]
   exact List.take_left
 rcases aZ.2 with ⟨rfl,rfl,_⟩ | ⟨g,cap,cur,rfl,hg,A1,D8,fB,E_⟩
 ·have hx:vals=[]:=List.eq_nil_of_length_eq_zero (by simpa using aZ.1)
  subst hx
  by_cases hm:b.length=0
  ·have Mf:b=[]:=List.eq_nil_of_length_eq_zero hm
   subst Mf
   refine⟨.slice none 0 0,w, ?_,⟨by simp [bC],.inl ⟨rfl,rfl,rfl⟩⟩,⟨rfl,rfl,rfl,Nat.le_refl _,fun _ _ _=>rfl⟩,.inl rfl⟩
   have hf:=dS (P:=P) i.size [] w
   simp [Builtin.append_,run_underlying ht,run_underlying hu,sizeOf,typeInfo,hi,Builtin.lenOf,dz] at hf ⊢
   simp [hf]
  ·have hn:¬(b.length=0):=hm
   have Hh:¬(9223372036854775807<(b.length:Int)):=by omega
   have Hg:¬(281474976710656<Builtin.nextslicecap b.length 0*i.bytes):=by
    have hb:=EJ
    rw[Nat.zero_add] at hb
    rw[nextslicecap_zero (by omega)]
    omega
   have hf:=dS (P:=P) i.size b w.drew
   have hr:(Builtin.append_ #[t,u] ty #[.slice none 0 0,.string ⟨b.toArray⟩]).run P w=
     .ok (.slice (some ⟨w.heap.size,0,none⟩) b.length (grownCap w b.length 0 et)) (w.drew.alloc (.cells ((bC b).toArray++Builtin.zeroCells zv.cells (grownCap w b.length 0 et - b.length)) et)):=by
    simp [Builtin.append_,run_underlying ht,run_underlying hu,sizeOf,typeInfo,zeroValue,hi,hz,Builtin.lenOf,dz,hn,Hh,Hg,Question.forced,run_firstCells_none,hf,newRow,grownCap]
   have H_:=grown 0 (by omega) (Value.ownBlock (.slice none 0 0))
   simp only[Nat.zero_add,List.nil_append,Array.empty_append] at H_ ⊢
   exact⟨_,_,hr,H_.1,H_.2,.inr rfl⟩
 ·by_cases EM:n+b.length≤cap
  ·have dT:n*1+(bC b).length≤cur.size:=by rw[HF,fB];omega
   have hf:=dS (P:=P) 1 b w
   have H9:w.heap[g]? =some (.cells cur et (0,0)):=by simpa using hg
   have hX:=run_storeCells_at P g (n*1) et (bC b) 0 cur w H9 (by simpa using dT) bd
   simp only[Nat.add_zero] at hX
   have hr:(Builtin.append_ #[t,u] ty #[.slice (some ⟨g,0,none⟩) n cap,.string ⟨b.toArray⟩]).run P w=
     .ok (.slice (some ⟨g,0,none⟩) (n+b.length) cap) (w.setRow g (cur.toList.take (n*1)++bC b++cur.toList.drop (n*1+(bC b).length)).toArray):=by
    simp only[Nat.mul_one] at hX
    simp [Builtin.append_,run_underlying ht,run_underlying hu,sizeOf,typeInfo,hi,dB,Builtin.lenOf,dz,EM,hf,Addr.add_lit,hX]
   refine⟨_,_,hr,⟨hlen,.inr ⟨g,cap,_,rfl,setRow_heap w g cur _ et _ H9,EM,D8, ?_, ?_⟩⟩,⟨rfl,rfl,rfl,by simp,fun k _ hk=>setRow_other w g k _ (fun e=>hk (by simp [Value.ownBlock,e]))⟩,.inl rfl⟩
   ·simp only[List.size_toArray,List.length_append,List.length_take,List.length_drop,Array.length_toList]
    omega
   ·simp only[List.append_assoc]
    have Fa:cur.toList.take (n*1)=vals:=E_
    rw[Fa,←hlen]
    rw[←List.append_assoc]
    exact List.take_left
  ·have holds:∀j u,vals[j]? =some u→w.cell? ((⟨g,0,none⟩:Addr).add j)=some u:=aZ.owns.cells (g:=g) rfl
   have hn:¬(n+b.length≤cap):=EM
   have Hh:¬(9223372036854775807<((n:Int)+(b.length:Int))):=by omega
   have Hg:¬(281474976710656<Builtin.nextslicecap (n+b.length) cap*i.bytes):=by
    have:=growslice_fits (bytes:=i.bytes) (show cap<n+b.length by omega) EJ
    omega
   have hf:=dS (P:=P) i.size b w.drew
   have JP:=run_firstCells_some (P:=P) w.drew i.size n ⟨g,0,none⟩ n cap vals (by rw[dB];exact aZ.1) (by simpa using holds)
   have hr:(Builtin.append_ #[t,u] ty #[.slice (some ⟨g,0,none⟩) n cap,.string ⟨b.toArray⟩]).run P w=
     .ok (.slice (some ⟨w.heap.size,0,none⟩) (n+b.length) (grownCap w (n+b.length) cap et)) (w.drew.alloc (.cells (vals.toArray++(bC b).toArray++Builtin.zeroCells zv.cells (grownCap w (n+b.length) cap et - (n+b.length))) et)):=by
    simp [Builtin.append_,run_underlying ht,run_underlying hu,sizeOf,typeInfo,zeroValue,hi,hz,Builtin.lenOf,dz,hn,Hh,Hg,Question.forced,hf,JP,newRow,grownCap]
    congr 2
    apply Array.ext'
    simp [List.append_assoc]
   have H_:=grown cap (by omega) (Value.ownBlock (.slice (some ⟨g,0,none⟩) n cap))
   exact⟨_,_,hr,H_.1,H_.2,.inr rfl⟩
theorem FH (b:List UInt8):dO w [.int .u8] (b.map cS) (bC b) (List.replicate b.length []):=by
 refine⟨by simp [bC],fun k r' f' hk hf=> ?_⟩
 have FM:k<b.length:=by
  have:=(List.getElem?_eq_some_iff.1 hk).1
  simpa using this
 have E6:r'=cS b[k]:=by
  rw[List.getElem?_map,List.getElem?_eq_getElem FM] at hk
  simpa using hk.symm
 have Bq:f'=[]:=by
  have:=List.mem_of_getElem? hf
  exact (List.mem_replicate.1 this).2
 subst E6 Bq
 unfold cS
 simp only[a9,bY]
 refine⟨.int b[k].toNat,[],.int .u8 b[k].toNat,[],[],rfl, ?_,⟨_,rfl,rfl, ?_,rfl⟩,⟨rfl,rfl⟩,rfl⟩
 ·simp only[bC,List.length_cons,List.length_nil,Nat.zero_add,Nat.mul_one,Nat.add_zero]
  rw[List.getElem?_map,List.getElem?_eq_getElem FM]
  rfl
 ·rw[eB]
  have h1:IntKind.u8.min=0:=by decide
  have h2:IntKind.u8.max=255:=by decide
  have:=b[k].toNat_lt
  omega
theorem mY (hR:Rel w0 S st a w) (hd:∀d,o.dst=some d→bc st.n d) (bP:e.ow≠[]→∀d,o.dst=some d→bB st d) {t t':TypeId} {s x:Operand} {c:Call} (ho:o.op= .call c) (hb:c.callee= .builtin .append) (cy:c.args= #[s,x])
  (F0:c.argTypes= #[t,t']) {sx sy:SV} (h1:(cd s).val st.get st.obj=some sx) (h2:(cd x).val st.get st.obj=some sy) (he:(AL P o.dst t t' sx sy).val st.get st.obj=some e) (aJ:e.ok=true):Good P w0 S st o e a w:=by
 unfold AL at he
 split at he
 case h_2=>simp at he
 rename_i et d id b hu CJ aL
 simp only[M.aT,Option.bind_eq_some_iff] at he
 obtain⟨ob,aK,he⟩:=he
 split at he
 case h_2=>simp at he
 rename_i t1 ct r u
 cases mU:Nat.beq t1 et && aF ct [.int .u8] && aY P et 1
 ·simp [mU] at he
 simp only[mU,cond_true,M.ae,Option.bind_eq_some_iff] at he
 obtain⟨z,hz,he⟩:=he
 cases jO:Nat.beq z.length 1
 ·simp [jO] at he
 simp only[jO,cond_true,M.aa,Option.some.injEq] at he
 simp only[Bool.and_eq_true] at mU
 have JZ:=Nat.eq_of_beq_eq_true mU.1.1
 have BJ:=aN _ _ mU.1.2
 subst JZ BJ
 have bP:=bP (by rw[←he];simp) d aL
 have eI:fv P t1 (r.length+b.length)=true:=by rw[←he] at aJ;exact aJ
 have Gd:=Nat.eq_of_beq_eq_true jO
 obtain⟨i,hi,bu⟩:=aW mU.2
 obtain⟨i',zv,dU,mV,rfl,_⟩:=dA hz
 rw[hi] at dU
 injection dU with dU
 subst dU
 obtain⟨β,φ,hc⟩:=hR.core
 have E7:=hc.ev h1
 simp only[ak] at E7
 have LP:=hc.ev h2
 simp only[ak] at LP
 obtain⟨vals,aA,aZ,de,Hx,kz⟩:=hc.ay id _ aK
 obtain⟨v',w',bs,ga,dj,jD⟩:=Bx (P:=P) (ty:=o.type) hu CJ hi mV bu (by simpa using Gd) aZ b eI
 have eA:aA.flatten=[]:=de.flat rfl
 have HR:φ id=(β.val id).ownBlock.toList:=by rw[kz,eA];cases u<;>simp
 have bG:ag d 0 / 64=d:=cO d 0 (by omega)
 have IJ:id≠ag d 0:=fun e=>(bP.obj id _ aK).1 (e ▸ bG)
 have gm:∀j,j≠ag d 0→(β.fR (ag d 0) v').val j=β.val j∧(β.fR (ag d 0) v').cW j=β.cW j:=by
  intro j hj
  exact⟨by simp [Env.fR,az,hj],rfl⟩
 have hval:(β.fR (ag d 0) v').val (ag d 0)=v':=by simp [Env.fR,az]
 have bA:=hc.fresh id _ aK
 have A2:v'.ownBlock.toList.Nodup:=by cases v'.ownBlock<;>simp
 have Ap:∀b∈v'.ownBlock.toList,b∈φ id∨b=w.heap.size:=by
  intro b ax
  rcases jD with h3 | h3
  ·rw[h3] at ax
   exact .inl (by rw[HR];exact ax)
  ·rw[h3] at ax
   exact .inr (by simpa using ax)
 have hJ:∀b,(β.val id).ownBlock=some b→b∈φ id:=fun b ax=>by rw[HR,ax];simp
 have jJ:∀j oj,az (az st.obj id none) (ag d 0) (some (.row t1 [.int .u8] (r++b.map cS) false u)) j=some oj→j≠ag d 0→j≠id∧st.obj j=some oj:=by
  intro j oj hj mn
  simp only[az,mn,if_false] at hj
  split at hj
  ·cases hj
  ·exact⟨by assumption,hj⟩
 have fN:∀b,b<w.heap.size→(β.val id).ownBlock≠some b→w'.heap[b]? =w.heap[b]? :=fun b ax cM=>dj.block b ax (fun e=>cM e.symm)
 have BQ:∀b∈v'.ownBlock.toList,∀j oj,j≠id→st.obj j=some oj→b ∉ φ j:=by
  intro b ax j oj hj ja br
  rcases Ap b ax with h3 | h3
  ·exact hc.sep id j _ _ (Ne.symm hj) aK ja b h3 br
  ·have:=((hc.fresh j oj ja).2 b br).2
   omega
 have AY:∀b',Av (az (az st.obj id none) (ag d 0) (some (.row t1 [.int .u8] (r++b.map cS) false u))) (β.fR (ag d 0) v') b'→Av st.obj β b'∨w.heap.size≤b':=by
  rintro b' (⟨j,oj,hj,br⟩ | hb)
  case inr=>exact .inl (.inr hb)
  by_cases cf:j=ag d 0
  ·subst cf
   simp only[az,if_true,Option.some.injEq] at hj
   subst hj
   simp only[al,hval] at br
   rcases Ap b' br with h3 | h3
   ·exact .inl (.inl ⟨id,_,aK,by simp only[al];rw[←HR];exact h3⟩)
   ·exact .inr (by omega)
  ·obtain⟨_,f_⟩:=jJ j oj hj cf
   refine .inl (.inl ⟨j,oj,f_, ?_⟩)
   cases oj<;>simp only[al,gm j cf] at br ⊢ <;>exact br
 refine bM hR hd (v:=v') (w':=w') ?_ (hR.kept.grown dj (fun b ax=>(bA.2 b (hJ b ax)).1))
  ⟨β.fR (ag d 0) v',az φ (ag d 0) v'.ownBlock.toList, ?_, ?_⟩
 ·simp [execOp,ho,resolve,hb,cy,F0,invoke,builtin,E7.1,LP.1,bs]
 ·rw[←he]
  show Core w0 S st.get (az (az st.obj id none) (ag d 0) (some (.row t1 [.int .u8] (r++b.map cS) false u))) _ _ _ _
  refine hc.step (fun j=>j=ag d 0) dj.size (fun b ax hn=>fN b ax (fun e=>hn (.inl ⟨id,_,aK,by simp [al,e]⟩))) AY
   (fun k j hj e=>bP.slot k j hj (by rw[e];exact bG)) gm ?_ ?_
  ·intro j oj hj
   by_cases cf:j=ag d 0
   ·subst cf
    have f_:=hj
    simp only[az,if_true,Option.some.injEq] at f_
    subst f_
    refine .inr ⟨?_,by simp only[az,if_true];exact A2, ?_⟩
    ·have ml:=(de.append (by simpa using aZ.1) (FH (w:=w) b)).mono (w':=w') dj.size (fun b ax=>by
      rw[List.flatten_append,eA] at ax
      simp at ax)
     refine⟨vals++bC b,aA++List.replicate b.length [], ?_,ml, ?_, ?_⟩
     ·rw[hval]
      have:(r++b.map cS).length=r.length+b.length:=by simp
      rw[this]
      exact ga
     ·rw[List.flatten_append,eA]
      simp
     ·rw[hval,List.flatten_append,eA]
      cases u<;>simp [az]
    ·simp only[az,if_true]
     intro b ax
     rcases Ap b ax with h3 | h3
     ·have:=bA.2 b h3
      exact⟨this.1,by have:=dj.size;omega⟩
     ·subst h3
      exact⟨.inl hR.kept.size,ga.lt _ ax⟩
   ·obtain⟨gy,f_⟩:=jJ j oj hj cf
    refine .inl ⟨cf,f_,by simp [az,cf], ?_, ?_⟩
    ·intro k hk e
     exact (bP.obj j oj f_).2 k hk (by rw[e];exact bG)
    ·intro b ax
     have fD:=ah (hc.ay j oj f_) b ax
     refine fN b ((hc.fresh j oj f_).2 b fD).2 (fun e=> ?_)
     exact hc.sep id j _ _ (Ne.symm gy) aK f_ b (hJ b e) fD
  ·intro k j ok oj cM hk hj b ax
   by_cases Hz:k=ag d 0
   ·subst Hz
    have mn:j≠ag d 0:=Ne.symm cM
    obtain⟨gy,f_⟩:=jJ j oj hj mn
    simp only[az,if_true] at ax
    simp only[az,mn,if_false]
    exact BQ b ax j oj gy f_
   ·obtain⟨Am,CE⟩:=jJ k ok hk Hz
    simp only[az,Hz,if_false] at ax
    by_cases cf:j=ag d 0
    ·subst cf
     simp only[az,if_true]
     exact fun h3=>BQ b h3 k ok Am CE ax
    ·obtain⟨gy,f_⟩:=jJ j oj hj cf
     simp only[az,cf,if_false]
     exact hc.sep k j ok oj cM CE f_ b ax
 ·rw[←he]
  unfold ak
  exact⟨hval.symm,ga.one⟩
end
end Go.Proofs.YtnlkklmcfafgeaaGreat.Vm
namespace Go.Proofs.YtnlkklmcfafgeaaGreat.Vm
theorem mH {α:Type} {l:Array α} {x:α} (h:l.toList=[x]):l= #[x]:=by
 cases l;simp at h;subst h;rfl
theorem bN {α:Type} {l:Array α} {x y:α} (h:l.toList=[x,y]):l= #[x,y]:=by
 cases l;simp at h;subst h;rfl
theorem B0 {P:Program} {Γ:Ctx} {w0:World} {S:Own} {st:St} {o:Oper} {e:cJ} {a:Act} {w:World} (eV:bH P Γ) (hR:Rel w0 S st a w)
  (hv:(evalOp P Γ o).val st.get st.obj=some e) (aJ:e.ok=true) (hd:∀d,o.dst=some d→bc st.n d) (bP:e.ow≠[]→∀d,o.dst=some d→bB st d):Good P w0 S st o e a w:=by
 unfold evalOp at hv
 split at hv
 ·rename_i x ho
  simp only[M.ae,Option.bind_eq_some_iff,M.aa,Option.some.injEq] at hv
  obtain⟨s,h1,rfl⟩:=hv
  exact mE hR hd (.inl ho) h1 rfl
 ·rename_i x ho
  simp only[M.ae,Option.bind_eq_some_iff,M.aa,Option.some.injEq] at hv
  obtain⟨s,h1,rfl⟩:=hv
  exact mE hR hd (.inr ho) h1 rfl
 ·rename_i c x y ho
  simp only[M.ae,Option.bind_eq_some_iff] at hv
  obtain⟨sc,h0,sx,h1,sy,h2,hv⟩:=hv
  exact C_ hR hd ho h0 h1 h2 hv
 ·rename_i t ho
  split at hv
  ·rename_i d aL
   simp only[M.ae,Option.bind_eq_some_iff,M.aa,Option.some.injEq] at hv
   obtain⟨z,hz,rfl⟩:=hv
   exact B5 hR aL (hd d aL) (bP (by simp) d aL) ho hz rfl
  ·simp at hv
 ·rename_i t x ho
  split at hv
  ·rename_i d aL
   simp only[M.ae,Option.bind_eq_some_iff,M.aa,Option.some.injEq] at hv
   obtain⟨s,hs,cs,fB,rfl⟩:=hv
   exact D4 hR aL (hd d aL) (bP (by simp) d aL) ho hs fB rfl
  ·simp at hv
 ·rename_i t parts ho
  split at hv
  ·rename_i fs hu
   split at hv
   ·rename_i places hp
    simp only[M.ae,Option.bind_eq_some_iff,M.aa,Option.some.injEq] at hv
    obtain⟨z,hz,cs,fB,rfl⟩:=hv
    exact B6 hR hd ho hu hp hz fB rfl
   ·simp at hv
  ·simp at hv
 ·rename_i t len parts ho
  cases eH:lT Γ o.dst with
  | true=>
   simp only[eH,cond_true] at hv
   unfold EA at hv
   split at hv
   ·rename_i et d hu aL
    split at hv
    ·rename_i ct ts BJ FP
     cases hb:aY P et ct.length && Nat.blt 0 ct.length && Nat.beq len parts.toList.length && Nat.ble (len*ct.length) 16777216
     ·simp only[hb,cond_false,M.mI,reduceCtorEq] at hv
     simp only[hb,cond_true,M.ae,Option.bind_eq_some_iff] at hv
     obtain⟨z,hz,q,hq,hv⟩:=hv
     cases hn:da (bq q.2)
     ·simp [hn] at hv
     simp only[hn,cond_true,M.aa,Option.some.injEq] at hv
     simp only[Bool.and_eq_true] at hb
     exact Bg hR aL (hd d aL) (bP (by rw[←hv];simp) d aL) ho hu hb.1.1.1 (Nat.le_of_ble_eq_true hb.1.1.2) (Nat.eq_of_beq_eq_true hb.1.2) (Nat.le_of_ble_eq_true hb.2) ⟨z,hz⟩ hq hn hv.symm
    ·simp at hv
   ·simp at hv
  | false=>
  simp only[eH,cond_false] at hv
  split at hv
  ·rename_i et d hu aL
   split at hv
   ·rename_i ct BJ
    cases hb:aY P et ct.length && Nat.blt 0 ct.length && Nat.beq len parts.toList.length && Nat.ble (len*ct.length) 16777216
    ·simp only[hb,cond_false,M.mI,reduceCtorEq] at hv
    simp only[hb,cond_true,M.ae,Option.bind_eq_some_iff] at hv
    obtain⟨z,hz,q,hq,hv⟩:=hv
    cases hn:aO q.2.1
    ·simp [hn] at hv
    simp only[hn,cond_true,M.aa,Option.some.injEq] at hv
    simp only[Bool.and_eq_true] at hb
    exact kG hR aL (hd d aL) (bP (by rw[←hv];simp) d aL) ho hu hb.1.1.1 (Nat.le_of_ble_eq_true hb.1.1.2) (Nat.eq_of_beq_eq_true hb.1.2) (Nat.le_of_ble_eq_true hb.2) hq ⟨z,hz⟩ hn hv.symm
   ·simp at hv
  ·simp at hv
 ·rename_i t x ho
  simp only[M.ae,Option.bind_eq_some_iff] at hv
  obtain⟨s,h1,hv⟩:=hv
  unfold GZ at hv
  split at hv
  ·rename_i id i z off
   simp only[M.aT,Option.bind_eq_some_iff] at hv
   obtain⟨ob,aK,hv⟩:=hv
   split at hv
   ·rename_i t' ct ts rows hl
    cases eH:lT Γ o.dst with
    | false=>
     simp only[eH,cond_false] at hv
     exact B9 hR hd ho h1 aK hv aJ
    | true=>
     simp only[eH,cond_true] at hv
     cases D7:bj P t with
     | true=>
      simp only[D7,cond_true] at hv
      unfold G5 at hv
      split at hv
      ·rename_i e' t1 d j jb aL Kz
       cases hb:Nat.beq z ct.length && Nat.beq (aB ct) 1 && Nat.ble (off+j.size) ct.length
       ·simp [hb] at hv
       simp only[hb,cond_true,M.aa,Option.some.injEq] at hv
       simp only[Bool.and_eq_true] at hb
       obtain⟨⟨b1,b2⟩,b3⟩:=hb
       have b1:=Nat.eq_of_beq_eq_true b1
       subst b1
       have hi:i<rows.length:=by rw[←hv] at aJ;simpa using aJ
       exact Cb hR aL (hd d aL) (bP (by rw[←hv];simp) d aL) ho h1 aK jb (Nat.eq_of_beq_eq_true b2) D7 Kz (Nat.le_of_ble_eq_true b3) hi (by rw[←hv]) (by rw[←hv]) (by rw[←hv])
      ·simp at hv
     | false=>
     simp only[D7,cond_false] at hv
     unfold G6 at hv
     split at hv
     ·rename_i e' t1 d jb aL
      cases hb:Nat.beq z ct.length && Nat.beq (aB ct) 1 && !(bj P t) && (P.underlying t).isSome
      ·simp [hb] at hv
      simp only[hb,cond_true,M.aa,Option.some.injEq] at hv
      simp only[Bool.and_eq_true,Bool.not_eq_true'] at hb
      obtain⟨⟨⟨b1,b2⟩,b3⟩,b4⟩:=hb
      have b1:=Nat.eq_of_beq_eq_true b1
      subst b1
      obtain⟨td,hu⟩:=Option.isSome_iff_exists.1 b4
      have hi:i<rows.length:=by rw[←hv] at aJ;simpa using aJ
      exact Da hR aL (hd d aL) (bP (by rw[←hv];simp) d aL) ho h1 aK jb (Nat.eq_of_beq_eq_true b2) b3 hu hi (by rw[←hv]) (by rw[←hv]) (by rw[←hv])
     ·simp at hv
   ·exact mD hR hd ho h1 hv aJ
  ·exact mD hR hd ho h1 hv aJ
 ·rename_i t x y ho
  simp only[M.ae,Option.bind_eq_some_iff] at hv
  obtain⟨sx,h1,sy,h2,hv⟩:=hv
  have plain:(Bk P t sx sy).val st.get st.obj=some e→Good P w0 S st o e a w:=by
   clear hv
   intro hv
   unfold Bk at hv
   simp only[M.ae,Option.bind_eq_some_iff] at hv
   obtain⟨bO,fB,hv⟩:=hv
   cases dB:aY P t bO.length
   ·simp [dB] at hv
   simp only[dB,cond_true] at hv
   split at hv
   ·rename_i id off
    simp only[M.aT,Option.bind_eq_some_iff] at hv
    obtain⟨ob,aK,hv⟩:=hv
    split at hv
    ·rename_i t' cells
     cases dT:Nat.ble (off+bO.length) cells.length
     ·simp [dT] at hv
     simp only[dT,cond_true,M.aa,Option.some.injEq] at hv
     exact lA hR hd ho h1 h2 fB dB aK (Nat.le_of_ble_eq_true dT) hv.symm
    ·simp at hv
   ·rename_i id i z off
    simp only[M.aT,Option.bind_eq_some_iff] at hv
    obtain⟨ob,aK,hv⟩:=hv
    split at hv
    ·rename_i t' ct rows fz u
     cases dT:Nat.beq z ct.length && Nat.ble (off+bO.length) ct.length
     ·simp [dT] at hv
     simp only[dT,cond_true,M.ae,Option.bind_eq_some_iff] at hv
     obtain⟨r,hr,hv⟩:=hv
     cases hm:bS id r.2.1 && aO r.2.1
     ·simp [hm] at hv
     simp only[hm,cond_true,M.aa,Option.some.injEq] at hv
     simp only[Bool.and_eq_true] at dT hm
     have hz:=Nat.eq_of_beq_eq_true dT.1
     subst hz
     have hi:i<rows.length:=by rw[←hv] at aJ;simpa using aJ
     exact lB hR hd ho h1 h2 fB dB aK (Nat.le_of_ble_eq_true dT.2) hr hm.1 hm.2 hi (by rw[←hv]) (by rw[←hv]) (by rw[←hv])
    ·simp at hv
   ·simp at hv
  unfold FG at hv
  split at hv
  ·rename_i id i z off
   simp only[M.aT,Option.bind_eq_some_iff] at hv
   obtain⟨ob,aK,hv⟩:=hv
   split at hv
   ·rename_i t' ct ts rows hl
    unfold FF at hv
    simp only[M.ae,Option.bind_eq_some_iff] at hv
    obtain⟨bO,fB,hv⟩:=hv
    cases dB:aY P t bO.length && Nat.beq z ct.length && Nat.ble (off+bO.length) ct.length
    ·simp [dB] at hv
    simp only[dB,cond_true] at hv
    simp only[Bool.and_eq_true] at dB
    obtain⟨⟨s1,s2⟩,s3⟩:=dB
    have s2:=Nat.eq_of_beq_eq_true s2
    subst s2
    have s3:=Nat.le_of_ble_eq_true s3
    cases hf:aq ((ct.drop off).take bO.length) with
    | true=>
     simp only[hf,cond_true,M.ae,Option.bind_eq_some_iff] at hv
     obtain⟨r,hr,hv⟩:=hv
     cases hm:r.2.1.isEmpty
     ·simp [hm] at hv
     simp only[hm,cond_true,M.aa,Option.some.injEq] at hv
     have hi:i<rows.length:=by rw[←hv] at aJ;simpa using aJ
     exact Bj hR hd ho h1 h2 fB s1 aK s3 hf hr hi (by rw[←hv]) (by rw[←hv]) (by rw[←hv])
    | false=>
     simp only[hf,cond_false] at hv
     cases Kk:Nat.beq (aB ((ct.drop off).take bO.length)) (aB ct)
     ·simp [Kk] at hv
     simp only[Kk,cond_true,M.ae,Option.bind_eq_some_iff] at hv
     obtain⟨r,hr,hv⟩:=hv
     cases hm:da (id::bq r.2)
     ·simp [hm] at hv
     simp only[hm,cond_true,M.aa,Option.some.injEq] at hv
     have hi:i<rows.length∧CI hl i=true:=by rw[←hv] at aJ;simpa using aJ
     exact Bi hR hd ho h1 h2 fB s1 aK s3 (Nat.eq_of_beq_eq_true Kk) hr hm hi.1 hi.2 (by rw[←hv]) (by rw[←hv]) (by rw[←hv])
   ·exact plain hv
  ·exact plain hv
 ·rename_i x ho
  simp only[M.ae,Option.bind_eq_some_iff] at hv
  obtain⟨s,h1,hv⟩:=hv
  exact mF hR hd ho h1 hv
 ·rename_i op t x y t' ho
  simp only[M.ae,Option.bind_eq_some_iff] at hv
  obtain⟨sx,h1,sy,h2,hv⟩:=hv
  exact D3 hR hd ho h1 h2 hv aJ
 ·rename_i op t x ho
  simp only[M.ae,Option.bind_eq_some_iff] at hv
  obtain⟨sx,h1,hv⟩:=hv
  exact FE hR hd ho h1 hv
 ·rename_i s t x ho
  simp only[M.ae,Option.bind_eq_some_iff] at hv
  obtain⟨sx,h1,hv⟩:=hv
  exact C6 hR hd bP ho h1 hv
 ·rename_i t l c ho
  simp only[M.ae,Option.bind_eq_some_iff] at hv
  obtain⟨sl,h1,sc,h2,hv⟩:=hv
  cases eH:lT Γ o.dst with
  | true=>
   simp only[eH,cond_true] at hv
   unfold G0 at hv
   split at hv
   ·rename_i et n m d hu aL
    split at hv
    ·rename_i ct ts i BJ FP hi
     cases hb:Nat.beq i.size ct.length && Nat.blt 0 ct.length
     ·simp [hb] at hv
     simp only[hb,cond_true,M.ae,Option.bind_eq_some_iff] at hv
     obtain⟨z,hz,r,hr,hv⟩:=hv
     cases Cn:(bq r.2).isEmpty
     ·simp [Cn] at hv
     simp only[Cn,cond_true,M.aa,Option.some.injEq] at hv
     simp only[Bool.and_eq_true] at hb
     exact B_ hR aL (hd d aL) (bP (by rw[←hv];simp) d aL) ho h1 h2 hu hi (Nat.eq_of_beq_eq_true hb.1) hz hr (by simpa using Cn) hv.symm aJ
    ·simp at hv
   ·simp at hv
  | false=>
  simp only[eH,cond_false] at hv
  unfold G1 at hv
  split at hv
  ·rename_i et n m d hu aL
   split at hv
   ·rename_i ct i BJ hi
    cases hb:Nat.beq i.size ct.length && Nat.blt 0 ct.length
    ·simp [hb] at hv
    simp only[hb,cond_true,M.ae,Option.bind_eq_some_iff,M.aa,Option.some.injEq] at hv
    obtain⟨z,hz,r,hr,hv⟩:=hv
    simp only[Bool.and_eq_true] at hb
    exact C9 hR aL (hd d aL) (bP (by rw[←hv];simp) d aL) ho h1 h2 hu hi (Nat.eq_of_beq_eq_true hb.1) hz hr hv.symm aJ
   ·simp at hv
  ·simp at hv
 ·rename_i t x lo hi mx ho
  split at hv
  ·simp only[M.ae,Option.bind_eq_some_iff] at hv
   obtain⟨sx,h1,sl,h2,sh,h3,hv⟩:=hv
   cases eH:lT Γ o.dst
   ·simp only[eH,cond_false] at hv
    exact Ca hR hd ho h1 h2 h3 hv aJ
   ·simp only[eH,cond_true] at hv
    exact Bh hR hd ho h1 h2 h3 hv aJ
  ·simp at hv
 ·rename_i t x f ho
  split at hv
  ·rename_i fs hu
   split at hv
   ·rename_i fd hf
    cases hz:aY P fd.type 0
    ·simp only[hz,cond_false] at hv
     split at hv
     ·simp at hv
     ·rename_i i hi
      simp only[M.ae,Option.bind_eq_some_iff] at hv
      obtain⟨s,h1,hv⟩:=hv
      exact lz hR hd ho hu hf hz hi h1 hv
    ·simp [hz] at hv
   ·simp at hv
  ·simp at hv
 ·rename_i t x i ho
  simp only[M.ae,Option.bind_eq_some_iff] at hv
  obtain⟨sx,h1,si,h2,hv⟩:=hv
  exact kH hR hd ho h1 h2 hv aJ
 ·rename_i t x i ho
  simp only[M.ae,Option.bind_eq_some_iff] at hv
  obtain⟨sx,h1,si,h2,hv⟩:=hv
  exact B8 hR hd ho h1 h2 hv aJ
 ·rename_i x i ho
  simp only[M.ae,Option.bind_eq_some_iff] at hv
  obtain⟨sx,h1,hv⟩:=hv
  split at hv
  ·rename_i vs
   split at hv
   ·rename_i v MO
    simp only[M.aa,Option.some.injEq] at hv
    exact mZ hR hd ho h1 MO hv.symm
   ·simp at hv
  ·simp at hv
 ·rename_i c ho
  split at hv
  ·rename_i g hg
   simp only[M.ae,Option.bind_eq_some_iff] at hv
   obtain⟨l,hl,hv⟩:=hv
   cases jI:Gh Γ g with
   | none=>
    unfold kM at hv
    rw[jI] at hv
    simp at hv
   | some s=>
    cases eH:s.G_ with
    | true=>
     unfold kM at hv
     rw[jI] at hv
     simp only[eH,cond_true] at hv
     simp at hv
    | false=>
    cases hp:s.pt with
    | some q=>
     unfold kM at hv
     rw[jI] at hv
     simp only[eH,cond_false,hp] at hv
     simp at hv
    | none=>
    cases hm:s.ms with
    | nil=>
     cases aL:o.dst with
     | none=>
      unfold kM at hv
      rw[jI,aL] at hv
      simp only[eH,cond_false,hp,hm] at hv
      simp at hv
     | some d=>
      rw[aL] at hv
      exact C5 eV jI eH hp hm hR aL (hd d aL) (fun h=>bP h d aL) ho hg hl hv aJ
    | cons m ms=>
     have hv':(AM s o.dst l).val st.get st.obj=some e:=by
      unfold kM at hv
      rw[jI] at hv
      simp only[eH,cond_false,hp,hm] at hv
      exact hv
     refine B7 eV jI eH hp (by rw[hm];simp) hR hd (fun d aL h=>bP h d aL) (us:=c.args.toList.map a.eval) (fun fn hf hb hn=> ?_) (fun β φ hc=>AQ hc _ l hl) hv' aJ
     have Fc:c.args.map a.eval=(c.args.toList.map a.eval).toArray:=by rw[←Array.toList_map,Array.toArray_toList]
     rw[←Fc]
     exact B4 ho hg hf hb hn
  ·rename_i hb
   split at hv
   ·rename_i x t hx ht
    simp only[M.ae,Option.bind_eq_some_iff] at hv
    obtain⟨s,h1,hv⟩:=hv
    exact C8 hR hd ho hb (mH hx) (mH ht) h1 hv
   ·simp at hv
  ·rename_i hb
   split at hv
   ·rename_i x y hx
    simp only[M.ae,Option.bind_eq_some_iff] at hv
    obtain⟨s,h1,s2,h2,hv⟩:=hv
    exact j6 (mx:=false) hR hd ho hb (bN hx) h1 h2 hv
   ·simp at hv
  ·rename_i hb
   split at hv
   ·rename_i x y hx
    simp only[M.ae,Option.bind_eq_some_iff] at hv
    obtain⟨s,h1,s2,h2,hv⟩:=hv
    exact j6 (mx:=true) hR hd ho hb (bN hx) h1 h2 hv
   ·simp at hv
  ·rename_i hb
   split at hv
   ·rename_i s x t t' hx ht
    cases kx:Nat.beq t t'
    ·simp only[kx,cond_false,M.ae,Option.bind_eq_some_iff] at hv
     obtain⟨ss,h1,sx,h2,hv⟩:=hv
     exact mY hR hd bP ho hb (bN hx) (bN ht) h1 h2 hv aJ
    simp only[kx,cond_true] at hv
    have ky:=Nat.eq_of_beq_eq_true kx
    subst ky
    simp only[M.ae,Option.bind_eq_some_iff] at hv
    obtain⟨ss,h1,sx,h2,hv⟩:=hv
    cases eH:lT Γ o.dst with
    | true=>
     simp only[eH,cond_true] at hv
     unfold Dd at hv
     split at hv
     ·rename_i et d hu aL
      split at hv
      ·rename_i ct ts BJ FP
       cases mU:aY P et ct.length && Nat.blt 0 ct.length
       ·simp [mU] at hv
       simp only[mU,cond_true,M.ae,Option.bind_eq_some_iff] at hv
       obtain⟨z,hz,hv⟩:=hv
       cases jO:Nat.beq z.length ct.length
       ·simp [jO] at hv
       simp only[jO,cond_true,M.ae,Option.bind_eq_some_iff] at hv
       obtain⟨p,Lb,q,Lc,hv⟩:=hv
       cases hn:da (p.2++q.2)
       ·simp [hn] at hv
       simp only[hn,cond_true,M.aa,Option.some.injEq] at hv
       simp only[Bool.and_eq_true] at mU
       have eI:fv P et (p.1.length+q.1.length)=true:=by rw[←hv] at aJ;exact aJ
       exact mX hR aL (hd d aL) (bP (by rw[←hv];simp) d aL) ho hb (bN hx) (bN ht) h1 h2 hu mU.1 (Nat.le_of_ble_eq_true mU.2) hz (Nat.eq_of_beq_eq_true jO) Lb Lc hn eI (by rw[←hv]) (by rw[←hv]) (by rw[←hv])
      ·simp at hv
     ·simp at hv
    | false=>
    simp only[eH,cond_false] at hv
    unfold De at hv
    split at hv
    ·rename_i et d hu aL
     split at hv
     ·rename_i ct BJ
      cases mU:aY P et ct.length && Nat.blt 0 ct.length
      ·simp [mU] at hv
      simp only[mU,cond_true,M.ae,Option.bind_eq_some_iff] at hv
      obtain⟨z,hz,hv⟩:=hv
      cases jO:Nat.beq z.length ct.length
      ·simp [jO] at hv
      simp only[jO,cond_true] at hv
      have Gd:=Nat.eq_of_beq_eq_true jO
      simp only[Bool.and_eq_true] at mU
      have jK:0<ct.length:=Nat.le_of_ble_eq_true mU.2
      split at hv
      ·simp only[M.ae,Option.bind_eq_some_iff,M.aa,Option.some.injEq] at hv
       obtain⟨q,hq,hv⟩:=hv
       have eI:fv P et q.1.length=true:=by rw[←hv] at aJ;exact aJ
       exact kE hR aL (hd d aL) (bP (by rw[←hv];simp) d aL) ho hb (bN hx) (bN ht) h1 h2 hu mU.1 jK hz Gd hq eI (by rw[←hv]) (by rw[←hv]) (by rw[←hv])
      ·rename_i id
       simp only[M.aT,Option.bind_eq_some_iff] at hv
       obtain⟨ob,aK,hv⟩:=hv
       split at hv
       ·rename_i t' e' r u
        cases he:Nat.beq t' et && aF e' ct
        ·simp [he] at hv
        simp only[he,cond_true,M.ae,Option.bind_eq_some_iff] at hv
        obtain⟨q,hq,hv⟩:=hv
        cases hn:bS id q.2.1
        ·simp [hn] at hv
        simp only[hn,cond_true,M.aa,Option.some.injEq] at hv
        simp only[Bool.and_eq_true] at he
        have e1:=Nat.eq_of_beq_eq_true he.1
        have e2:=aN _ _ he.2
        subst e1 e2
        have eI:fv P t' (r.length+q.1.length)=true:=by rw[←hv] at aJ;exact aJ
        exact kF hR aL (hd d aL) (bP (by rw[←hv];simp) d aL) ho hb (bN hx) (bN ht) h1 h2 aK hu mU.1 jK hz Gd hq hn eI (by rw[←hv]) (by rw[←hv]) (by rw[←hv])
       ·simp at hv
      ·simp at hv
     ·simp at hv
    ·simp at hv
   ·simp at hv
  ·rename_i hb
   split at hv
   ·rename_i s x t t' hx ht
    simp only[M.ae,Option.bind_eq_some_iff] at hv
    obtain⟨ss,h1,sx,h2,hv⟩:=hv
    exact C7 hR hd ho hb (bN hx) (bN ht) h1 h2 hv aJ
   ·simp at hv
  ·simp at hv
 ·simp at hv
end Go.Proofs.YtnlkklmcfafgeaaGreat.Vm
namespace Go.Proofs.YtnlkklmcfafgeaaGreat.Vm
structure Tr (st H3:St):Prop where
 n:H3.n=st.n
 ok:st.ok=true
 get:∀i,i ∉ H3.ls→H3.get i=st.get i
 ls:∀i∈st.ls,i∈H3.ls
 obj:∀id o,st.obj id=some o→id ∉ H3.lm→H3.obj id=some o
 lm:∀i∈st.lm,i∈H3.lm
theorem Tr.refl {st:St} (h:st.ok=true):Tr st st:=⟨rfl,h,fun _ _=>rfl,fun _ h=>h,fun _ _ h _=>h,fun _ h=>h⟩
theorem Tr.trans {a b c:St} (h:Tr a b) (k:Tr b c):Tr a c:=
 ⟨k.n.trans h.n,h.ok,fun i hi=>(k.get i hi).trans (h.get i (fun h'=>hi (k.ls i h'))),fun i hi=>k.ls i (h.ls i hi),
  fun id o ho hi=>k.obj id o (h.obj id o ho (fun h'=>hi (k.lm id h'))) hi,fun i hi=>k.lm i (h.lm i hi)⟩
theorem EG {ow:List (Nat×Option aj)} {h:Nat→Option aj} {j:Nat} (hj:j ∉ ow.map (·.1)):fo ow h j=h j:=by
 induction ow with
 | nil=>rfl
 | cons x l ih=>
  obtain⟨i,ob⟩:=x
  simp only[List.map_cons,List.mem_cons,not_or] at hj
  simp only[fo,az,hj.1,if_false]
  exact ih hj.2
theorem Cf {st:St} {d:Option Nat} {e:cJ} (aJ:(st.apply d e).ok=true):Tr st (st.apply d e):=by
 have HH:st.ok=true:=by
  simp only[St.apply,gr] at aJ
  exact aJ.1.1
 refine⟨rfl,HH,fun i hi=> ?_,fun i hi=> ?_,fun id o ho hi=> ?_,fun i hi=> ?_⟩
 ·cases d with
  | none=>rfl
  | some d=>
   have dU:i≠d:=fun h=>hi (by simp [St.apply,h])
   rw[apply_get]
   simp [az,dU]
 ·cases d<;>simp [St.apply,hi]
 ·rw[ff]
  simp only[St.apply,List.mem_append,not_or] at hi
  rw[EG hi.2.1]
  cases jG:e.cw with
  | none=>exact ho
  | some x=>
   obtain⟨k,off,bO⟩:=x
   simp only[jG,List.mem_singleton] at hi
   rw[←ho]
   simp only[fc]
   cases st.obj k with
   | none=>rfl
   | some b=>cases b<;>simp [az,hi.1]
 ·simp only[St.apply,List.mem_append]
  exact .inr (.inr hi)
theorem bf {st:St} :st.fail.ok=false:=rfl
theorem DF {P:Program} {Γ:Ctx} {st:St} {o:Oper} (aJ:(st.cC P Γ o).ok=true):Tr st (st.cC P Γ o):=by
 unfold St.cC at aJ ⊢
 split
 ·rename_i e r hr
  simp only[hr] at aJ
  cases hf:jz o.dst e st
  ·simp [hf,bf] at aJ
  ·simp only[hf,cond_true] at aJ ⊢
   exact Cf aJ
 ·rename_i hr
  simp [hr,bf] at aJ
theorem mq (st:St) (s:Nat) (b:Bool):(st.fO s b).get=az st.get s (.kb b):=by
 funext i
 show jf ((s,.kb b)::st.sl) i=_
 simp only[jf,az,St.get]
 cases hk:Nat.beq s i
 ·have e2:=Nat.ne_of_beq_eq_false hk
  rw[if_neg (fun h=>e2 h.symm)]
  rfl
 ·simp [(Nat.eq_of_beq_eq_true hk).symm]
theorem j9 {st:St} {s:Nat} {b:Bool} (aJ:st.ok=true):Tr st (st.fO s b):=by
 refine⟨rfl,aJ,fun i hi=> ?_,fun i hi=>by simp [St.fO,hi],fun _ _ h _=>h,fun _ h=>h⟩
 rw[mq]
 have:i≠s:=fun h=>hi (by simp [St.fO,h])
 simp [az,this]
theorem gf {i:Nat} {l:List Nat} :ie i l=true↔i∈l:=by
 induction l with
 | nil=>simp [ie]
 | cons k l ih=>
  simp only[ie,Bool.or_eq_true,List.mem_cons,ih]
  constructor
  ·rintro (h | h)
   ·exact .inl (Nat.eq_of_beq_eq_true h).symm
   ·exact .inr h
  ·rintro (rfl | h)
   ·exact .inl (Nat.beq_refl i)
   ·exact .inr h
theorem Au {i:Nat} {l:List Nat} :i∈dedup l↔i∈l:=by
 induction l with
 | nil=>simp [dedup]
 | cons k l ih=>
  simp only[dedup]
  cases hm:ie k l
  ·simp [ih]
  ·simp only[cond_true,List.mem_cons,ih]
   constructor
   ·exact .inr
   ·rintro (rfl | h)
    ·exact gf.1 hm
    ·exact h
theorem ic {g:Bool} {f h:Nat→SV} {l:List (Nat×SV)} :∀(r:List Nat) (i:Nat),jf (gB g f h r l) i=if i∈r then eD g (f i) (h i) else jf l i
 | [],i=>by simp [gB]
 | k::r,i=>by
  simp only[gB,jf]
  cases hk:Nat.beq k i
  ·have e2:=Nat.ne_of_beq_eq_false hk
   simp only[cond_false,ic r i,List.mem_cons]
   by_cases hi:i∈r
   ·simp [hi]
   ·rw[if_neg hi,if_neg (fun h=>h.elim (fun h=>e2 h.symm) hi)]
  ·have e1:=Nat.eq_of_beq_eq_true hk
   subst e1
   simp
theorem ig {hp:List (Nat×aj)} :∀ {l:List Nat} {i:Nat},i∈cH hp l↔i∈l∧∃o,dI hp i=some o
 | [],i=>by simp [cH]
 | k::l,i=>by
  simp only[cH]
  cases hk:dI hp k with
  | none=>
   simp only[ig (l:=l),List.mem_cons]
   constructor
   ·rintro ⟨h1,h2⟩
    exact⟨.inr h1,h2⟩
   ·rintro ⟨rfl | h1,h2⟩
    ·rw[hk] at h2;obtain⟨o,h2⟩:=h2;cases h2
    ·exact⟨h1,h2⟩
  | some o=>
   simp only[List.mem_cons,ig (l:=l)]
   constructor
   ·rintro (rfl | ⟨h1,h2⟩)
    ·exact⟨.inl rfl,o,hk⟩
    ·exact⟨.inr h1,h2⟩
   ·rintro ⟨rfl | h1,h2⟩
    ·exact .inl rfl
    ·exact .inr ⟨h1,h2⟩
theorem ma {g:Bool} {f k h:Nat→Option aj} :∀(l:List Nat) (i:Nat),fo (jQ g f k l) h i=if i∈l then my g (f i) (k i) else h i
 | [],i=>by simp [jQ,fo]
 | j::l,i=>by
  simp only[jQ,fo,az,List.mem_cons]
  by_cases hi:i=j
  ·subst hi;simp
  ·simp only[hi,if_false,false_or]
   exact ma l i
theorem Aw (pre:St) (g:Bool) (a b:St) (i:Nat):(merge pre g a b).obj i=if i∈cH pre.hp (dedup (a.lm++b.lm)) then my g (a.obj i) (b.obj i) else pre.obj i:=by
 show dI (kC _ pre.hp) i=_
 rw[ib,ma]
 rfl
theorem Ch {pre a b:St} {g:Bool} (hp:pre.ok=true) (J6:(merge pre g a b).ok=true):Tr pre (merge pre g a b):=by
 refine⟨rfl,hp,fun i hi=> ?_,fun i hi=>List.mem_append_right _ hi,fun i o h hi=> ?_,fun i h=>List.mem_append_right _ h⟩
 ·have hi:i ∉ dedup (a.ls++b.ls)∧i ∉ pre.ls:=by simpa only[merge,List.mem_append,not_or] using hi
  show jf (gB g a.get b.get (dedup (a.ls++b.ls)) pre.sl) i=jf pre.sl i
  rw[ic,if_neg hi.1]
 ·have hi:i ∉ cH pre.hp (dedup (a.lm++b.lm)):=fun h'=>hi (List.mem_append_left _ h')
  rw[Aw,if_neg hi]
  exact h
theorem Core.sub {w0:World} {S:Own} {f f':Nat→SV} {h h':Nat→Option aj} {β:Env} {φ:Nat→List Nat} {tm:Array Value} {w:World} (hc:Core w0 S f h β φ tm w)
  (hh:∀j o,h' j=some o→h j=some o∨∃t cs BA,o= .box t BA∧h j=some (.box t cs)∧∀vs,af w (Av h' β) β cs vs→af w (Av h' β) β BA vs)
  (hf:∀i v,ak w (Av h' β) β (f i) v→ak w (Av h' β) β (f' i) v):Core w0 S f' h' β φ tm w:=by
 have E8:∀j o,h' j=some o→∃o',h j=some o'∧al β j o=al β j o':=by
  intro j o ho
  rcases hh j o ho with h1 | ⟨t,cs,BA,rfl,h1,_⟩
  ·exact⟨o,h1,rfl⟩
  ·exact⟨_,h1,rfl⟩
 have cR:∀b,Av h' β b→Av h β b:=fun b hb=>hb.imp (fun ⟨j,o,hj,hb⟩=>by
  obtain⟨o',h1,h2⟩:=E8 j o hj
  exact⟨j,o',h1,h2 ▸ hb⟩) id
 have hm:=hc.step (h':=h') (β':=β) (φ':=φ) (w':=w) (fun _=>False) (Nat.le_refl _) (fun _ _ _=>rfl) (fun b hb=> .inl (cR b hb)) (fun _ _ _ h=>h) (fun _ _=>⟨rfl,rfl⟩)
  (fun id o ho=>by
   rcases hh id o ho with h1 | ⟨t,cs,BA,rfl,h1,h2⟩
   ·exact .inl ⟨fun h=>h,h1,rfl,fun _ _ h=>h,fun _ _=>rfl⟩
   ·refine .inr ⟨?_,hc.fresh id _ h1⟩
    have h3:=(hc.ay id _ h1).mono (w':=w) (av':=Av h' β) (β':=β) (Nat.le_refl _) (fun _ _ _=>rfl) (fun b hb=> .inl (cR b hb)) (fun _ _=>⟨rfl,rfl⟩) (fun _ _=>rfl) rfl
    obtain⟨vs,e1,e2,e3,e4⟩:=h3
    exact⟨vs,e1,h2 vs e2,e3,e4⟩)
  (fun i j o p cM hi hj b hb=>by
   obtain⟨o',h1,_⟩:=E8 i o hi
   obtain⟨p',h2,_⟩:=E8 j p hj
   exact hc.sep i j o' p' cM h1 h2 b hb)
 exact⟨fun i=>hf i _ (hm.cb i),hm.ay,hm.fresh,hm.sep,hm.gI,hm.bars⟩
theorem DU {w:World} {av:Nat→Prop} {β:Env} {g:Bool} {x y:Option aj} {o:aj} (h:my g x y=some o):
  (bif g then x else y)=some o∨∃t cs BA,o= .box t BA∧(bif g then x else y)=some (.box t cs)∧∀vs,af w av β cs vs→af w av β BA vs:=by
 unfold my at h
 split at h
 ·rename_i t cs t' BA
  cases hc:Nat.beq t t' && Nat.beq cs.length BA.length
  ·simp [hc] at h
  ·simp only[hc,cond_true,Option.some.injEq] at h
   simp only[Bool.and_eq_true] at hc
   have ht:=Nat.eq_of_beq_eq_true hc.1
   have hl:=Nat.eq_of_beq_eq_true hc.2
   subst ht h
   refine .inr ⟨t,bif g then cs else BA,_,rfl,by cases g<;>rfl,fun vs hv=>af.merge g cs BA vs hl hv⟩
 ·rename_i t e r fz u t' e' r' JI u'
  cases hc:Nat.beq t t' && aF e e' && (fz==JI) && (u==u')
  ·simp [hc] at h
  ·simp only[hc,cond_true,Option.some.injEq] at h
   simp only[Bool.and_eq_true] at hc
   have ht:=Nat.eq_of_beq_eq_true hc.1.1.1
   have he:=aN _ _ hc.1.1.2
   have hf:fz=JI:=by simpa using hc.1.2
   have hu:u=u':=by simpa using hc.2
   subst ht he hf hu h
   refine .inl ?_
   cases g<;>rfl
 ·cases h
theorem gh {w0:World} {S:Own} {pre yes no:St} {g:Bool} {a:Act} {w:World} (hy:g=true→Tr pre.reset yes∧Rel w0 S yes a w) (hn:g=false→Tr pre.reset no∧Rel w0 S no a w)
  (J6:(merge pre g yes no).ok=true):Rel w0 S (merge pre g yes no) a w:=by
 have key:∀r:St,Tr pre.reset r→Rel w0 S r a w→(∀i∈r.ls,i∈yes.ls++no.ls)→(∀i∈r.lm,i∈yes.lm++no.lm)→(∀i v av β,ak w av β (r.get i) v→ak w av β (eD g (yes.get i) (no.get i)) v)→
   (∀i,(bif g then yes.obj i else no.obj i)=r.obj i)→Rel w0 S (merge pre g yes no) a w:=by
  intro r ht hr Mz FN MB A4
  obtain⟨β,φ,hc⟩:=hr.core
  refine⟨hr.size.trans (congrArg (· % 1099511627776) ht.n),fun x hx=>by have h1:=hr.fx x hx;rw[ht.n] at h1;exact h1,hr.defers,hr.kept,β,φ, ?_⟩
  refine hc.sub (fun j o ho=> ?_) (fun i v hv=> ?_)
  ·rw[Aw] at ho
   split at ho
   ·have:=DU (w:=w) (av:=Av (merge pre g yes no).obj β) (β:=β) ho
    rw[A4 j] at this
    exact this
   ·rename_i hj
    refine .inl (ht.obj j o ho (fun h=>hj ?_))
    exact ig.2 ⟨Au.2 (FN j h),o,ho⟩
  ·show ak w _ β (jf (gB g yes.get no.get (dedup (yes.ls++no.ls)) pre.sl) i) v
   rw[ic]
   split
   ·exact MB i v _ β hv
   ·rename_i hi
    have:r.get i=pre.get i:=ht.get i (fun h=>hi (Au.2 (Mz i h)))
    rw[this] at hv
    exact hv
 cases g with
 | true=>
  obtain⟨ht,hr⟩:=hy rfl
  exact key yes ht hr (fun i hi=>List.mem_append_left _ hi) (fun i hi=>List.mem_append_left _ hi) (fun i v av β hv=>ak.merge true _ _ _ hv) (fun _=>rfl)
 | false=>
  obtain⟨ht,hr⟩:=hn rfl
  exact key no ht hr (fun i hi=>List.mem_append_right _ hi) (fun i hi=>List.mem_append_right _ hi) (fun i v av β hv=>ak.merge false _ _ _ hv) (fun _=>rfl)
theorem Rel.reset {w0:World} {S:Own} {st:St} {a:Act} {w:World} (h:Rel w0 S st a w):Rel w0 S st.reset a w:=⟨h.size,h.fx,h.defers,h.kept,h.core⟩
theorem Rel.fO {w0:World} {S:Own} {st:St} {a:Act} {w:World} (h:Rel w0 S st a w) {s:Nat} {b:Bool} (hs:a.tmps.getD s undef= .bool b):Rel w0 S (st.fO s b) a w:=by
 obtain⟨β,φ,hc⟩:=h.core
 refine⟨h.size,h.fx,h.defers,h.kept,β,φ, ?_⟩
 rw[mq]
 exact⟨fun i=>by
  by_cases hi:i=s
  ·subst hi
   simp only[az,if_true,ak]
   exact hs
  ·have:=hc.cb i
   show ak w (Av st.obj β) β _ _
   simpa only[az,hi,if_false] using this,hc.ay,hc.fresh,hc.sep,hc.gI,hc.bars⟩
theorem Rel.AA {w0:World} {S:Own} {st:St} {a:Act} {w:World} (h:Rel w0 S st a w) {s:Nat} {g:Bool} (hs:st.get s= .bool g):a.tmps.getD s undef= .bool g:=by
 obtain⟨β,φ,hc⟩:=h.core
 have:=hc.cb s
 rw[hs] at this
 simpa only[ak] using this
theorem bh {P:Program} {Γ:Ctx} {ops:Array Oper} {gs:List Nat} {kh:List cx→Bool} :∀(rest:List Oper) (i:Nat) (acc:List cx) (st:St),(ba P Γ ops gs kh rest i acc st).ok=true→
  Tr st (ba P Γ ops gs kh rest i acc st)
 | [],i,acc,st,h=>by
  simp only[ba] at h ⊢
  simp only[gr] at h
  exact⟨rfl,h.1,fun _ _=>rfl,fun _ h=>h,fun _ _ h _=>h,fun _ h=>h⟩
 | o::rest,i,acc,st,h=>by
  rw[ba] at h ⊢
  split
  ·rename_i hw;simp [hw,bf] at h
  ·rename_i hw
   simp only[hw] at h
   have h1:=bh rest _ _ _ h
   exact (Cf h1.ok).trans h1
  ·rename_i hw
   simp only[hw] at h
   have plain:(ba P Γ ops gs kh rest (i+1) (acc++[bJ P Γ ops i st o]) (st.cC P Γ o)).ok=true→Tr st (ba P Γ ops gs kh rest (i+1) (acc++[bJ P Γ ops i st o]) (st.cC P Γ o)):=by
    intro h'
    have h1:=bh rest _ _ _ h'
    exact (DF h1.ok).trans h1
   split
   ·rename_i hd
    simp only[hd] at h
    exact plain h
   ·rename_i s hd
    simp only[hd] at h
    cases hm:ie s gs
    ·simp only[hm,cond_false] at h ⊢
     exact plain h
    ·simp only[hm,cond_true] at h ⊢
     split
     ·rename_i g hg
      simp only[hg] at h
      have DS:(st.cC P Γ o).ok=true:=by
       have h':=h
       simp only[merge,Fy] at h'
       cases g with
       | true=>simp only[cond_true] at h';exact (bh rest _ _ _ h').ok
       | false=>simp only[cond_false] at h';exact (bh rest _ _ _ h').ok
      exact (DF DS).trans (Ch DS h)
     ·rename_i hg
      have h':(ba P Γ ops gs kh rest (i+1) (acc++[bJ P Γ ops i st o]) (st.cC P Γ o)).ok=true:=by
       revert h
       split
       ·rename_i g H9;exact absurd H9 (hg g)
       ·exact id
      exact plain h'
end Go.Proofs.YtnlkklmcfafgeaaGreat.Vm
set_option linter.unusedVariables false
set_option linter.unusedSimpArgs false
namespace Go.Proofs.YtnlkklmcfafgeaaGreat.Vm
theorem jj {ds l:List Nat} (h:mz ds l=true):∀i∈l,i / 64 ∉ ds:=by
 induction l with
 | nil=>simp
 | cons k l ih=>
  simp only[mz,Bool.and_eq_true,Bool.not_eq_true'] at h
  intro i hi
  rcases List.mem_cons.1 hi with rfl | hi
  ·intro hm
   rw[gf.2 hm] at h
   simp at h
  ·exact ih h.2 i hi
theorem Gi {l:List (Nat×SV)} {i:Nat} :jf l i= .fy∨∃x∈l,jf l i=x.2:=by
 induction l with
 | nil=>exact .inl rfl
 | cons y l ih=>
  obtain⟨k,s⟩:=y
  simp only[jf]
  cases Nat.beq k i
  ·rcases ih with h | ⟨x,hx,h⟩
   ·exact .inl h
   ·exact .inr ⟨x,List.mem_cons_of_mem _ hx,h⟩
  ·exact .inr ⟨_,List.mem_cons_self ..,rfl⟩
theorem Du {l:List (Nat×aj)} {i:Nat} {ob:aj} (h:dI l i=some ob):(i,ob)∈l:=by
 induction l with
 | nil=>simp [dI] at h
 | cons y l ih=>
  obtain⟨k,s⟩:=y
  simp only[dI] at h
  cases hk:Nat.beq k i
  ·simp only[hk,cond_false] at h
   exact List.mem_cons_of_mem _ (ih h)
  ·simp only[hk,cond_true,Option.some.injEq] at h
   rw[Nat.eq_of_beq_eq_true hk,h]
   exact List.mem_cons_self ..
theorem BH {ds:List Nat} {st:St} (h:eG ds st=true):∀d∈ds,bB st d:=by
 intro d hd
 simp only[eG,Bool.and_eq_true,List.all_eq_true] at h
 constructor
 ·intro i j hj
  rcases Gi (l:=st.sl) (i:=i) with h0 | ⟨x,hx,h0⟩
  ·have:st.get i= .fy:=h0
   rw[this] at hj
   simp [bX] at hj
  ·have:st.get i=x.2:=h0
   rw[this] at hj
   exact fun e=>jj (h.1 x hx) j hj (e ▸ hd)
 ·intro j ob hj
  have hm:=h.2 _ (Du hj)
  refine⟨fun e=>jj hm j (List.mem_cons_self ..) (e ▸ hd),fun k hk e=>jj hm k (List.mem_cons_of_mem _ hk) (e ▸ hd)⟩
section
variable {P:Program} {Γ:Ctx} {w0:World} {S:Own} {ops:Array Oper} {gs:List Nat}
theorem lX {st:St} {o:Oper} (h:(st.cC P Γ o).ok=true):∃e s r,(evalOp P Γ o).run st.get st.obj=some (e,s,r)∧jz o.dst e st=true∧st.cC P Γ o=st.apply o.dst e:=by
 unfold St.cC at h ⊢
 split at h
 ·rename_i e r hr
  obtain⟨s,r⟩:=r
  cases hf:jz o.dst e st
  ·simp [hf,bf] at h
  ·exact⟨e,s,r,hr,hf,by simp [hr,hf]⟩
 ·simp [bf] at h
theorem Ag (eV:bH P Γ) {st:St} {o:Oper} {a:Act} {w:World} (hR:Rel w0 S st a w) (h:(st.cC P Γ o).ok=true) (Q:Exit→Act→World→Prop):
  o.wp P a w (fun a' w'=>∃v,a'=a.put o.dst v∧Rel w0 S (st.cC P Γ o) a' w') Q:=by
 obtain⟨e,s,r,hr,hf,he⟩:=lX h
 rw[he] at h ⊢
 simp only[St.apply,gr] at h
 refine B0 eV hR (M.ey _ hr) h.1.2 (fun d hd=> ?_) (fun how d hd=> ?_) Q
 ·have:=h.2
  rw[hd] at this
  exact lE this
 ·unfold jz at hf
  rw[hd] at hf
  split at hf
  ·rename_i d' _ ID
   injection ID with ID
   subst ID
   exact BH hf d (List.mem_singleton.2 rfl)
  ·rename_i BO
   cases hw:e.ow with
   | nil=>exact absurd hw how
   | cons x l=>exact (BO x l d hw rfl).elim
theorem kK {st:St} {o:Oper} {a:Act} {w:World} {b:Bool} (hR:Rel w0 S st a w) (h:fA ops st o=some b):Region.wanted o (yielded ops a.tmps)=b:=by
 obtain⟨β,φ,hc⟩:=hR.core
 unfold fA at h
 unfold Region.wanted
 split at h
 ·rename_i hg
  simp only[hg]
  simpa using h
 ·rename_i j want hg
  simp only[hg]
  split at h
  ·cases h
  ·rename_i s hs
   have ku:=hc.cb s
   split at h
   ·rename_i b' ax
    rw[ax] at ku
    simp only[ak] at ku
    have:a.tmps[s]? =some (.bool b'):=by
     rw[Array.getD_eq_getD_getElem?] at ku
     cases hq:a.tmps[s]? with
     | none=>rw[hq] at ku;simp [undef] at ku
     | some v=>rw[hq] at ku;simpa using ku
    simp only[yielded,hs,Option.bind_some,this]
    have h:=Option.some.inj h
    rw[←h]
    rfl
   ·rename_i ax
    rw[ax] at ku
    simp only[ak] at ku
    have:∀c,a.tmps[s]? ≠some (.bool c):=by
     intro c hq
     rw[Array.getD_eq_getD_getElem?,hq] at ku
     simp [undef] at ku
    have hy:yielded ops a.tmps j=none:=by
     unfold yielded
     rw[hs]
     simp only[Option.bind_some]
    rw[hy]
    have h:=Option.some.inj h
    rw[←h]
    rfl
   ·cases h
theorem FD {st:St} {o:Oper} {a:Act} {w:World} (hR:Rel w0 S st a w) (h:(st.skip o.dst).ok=true):Rel w0 S (st.skip o.dst) (a.put o.dst undef) w:=by
 obtain⟨β,φ,hc⟩:=hR.core
 refine iI hR (fun d hd=> ?_) hR.kept ⟨β,φ,hc,by simp [ak]⟩
 simp only[St.skip,St.apply,gr] at h
 have:=h.2
 rw[hd] at this
 exact lE this
theorem Rel.G2 {st:St} {a:Act} {w:World} (hR:Rel w0 S st a w) (b:Bool):Rel w0 S {st with ok:=b} a w:=⟨hR.size,hR.fx,hR.defers,hR.kept,hR.core⟩
theorem c_ {pre a b:St} {g:Bool} (h:(merge pre g a b).ok=true):(g=true→a.ok=true)∧(g=false→b.ok=true):=by
 simp only[merge,Fy] at h
 cases g
 ·exact⟨by simp,fun _=>h⟩
 ·exact⟨fun _=>h,by simp⟩
theorem eF (eV:bH P Γ) {kh:List cx→Bool} {Q:Exit→Act→World→Prop} :∀(rest:List Oper) (i:Nat) (acc:List cx) (st:St) (a:Act) (w:World),Rel w0 S st a w→
  (ba P Γ ops gs kh rest i acc st).ok=true→(∀a' w',Rel w0 S (ba P Γ ops gs kh rest i acc st) a' w'→Q .normal a' w')→wpList P ops Q rest a w
 | [],i,acc,st,a,w,hR,aJ,hQ=>by
  simp only[ba] at hQ
  exact hQ a w (hR.G2 _)
 | o::rest,i,acc,st,a,w,hR,aJ,hQ=>by
  rw[ba] at aJ hQ
  cases hw:fA ops st o with
  | none=>simp [hw,bf] at aJ
  | some b=>
   simp only[hw] at aJ hQ
   have Aq:=kK hR hw
   unfold wpList
   cases b with
   | false=>
    rw[if_neg (by rw[Aq];simp)]
    simp only at aJ hQ
    exact eF eV rest _ _ _ _ w (FD hR (bh rest _ _ _ aJ).ok) aJ hQ
   | true=>
    rw[if_pos Aq]
    simp only at aJ hQ
    refine .inl ?_
    have plain:(ba P Γ ops gs kh rest (i+1) (acc++[bJ P Γ ops i st o]) (st.cC P Γ o)).ok=true→
      (∀a' w',Rel w0 S (ba P Γ ops gs kh rest (i+1) (acc++[bJ P Γ ops i st o]) (st.cC P Γ o)) a' w'→Q .normal a' w')→o.wp P a w (wpList P ops Q rest) Q:=by
     intro h1 h2
     have hd:=(bh rest _ _ _ h1).ok
     refine Oper.wp_mono ?_ (Ag eV hR hd Q)
     rintro a' w' ⟨v,rfl,eS⟩
     exact eF eV rest _ _ _ _ w' eS h1 h2
    split at aJ
    ·rename_i hd
     simp only[hd] at hQ
     exact plain aJ hQ
    ·rename_i s hd
     simp only[hd] at hQ
     cases hm:ie s gs
     ·simp only[hm,cond_false] at aJ hQ
      exact plain aJ hQ
     ·simp only[hm,cond_true] at aJ hQ
      split at aJ
      ·rename_i g hg
       simp only[hg] at hQ
       have lI:=c_ aJ
       have DS:(st.cC P Γ o).ok=true:=by
        cases g with
        | true=>exact (bh rest _ _ _ (lI.1 rfl)).ok
        | false=>exact (bh rest _ _ _ (lI.2 rfl)).ok
       refine Oper.wp_mono ?_ (Ag eV hR DS Q)
       rintro a' w' ⟨v,rfl,eS⟩
       have dw:=eS.AA hg
       cases g with
       | true=>
        have hy:=lI.1 rfl
        refine eF eV rest (i+1) (acc++[bJ P Γ ops i st o]) ((st.cC P Γ o).reset.fO s true) _ w' (eS.reset.fO dw) hy ?_
        intro J7 Lt Kc
        exact hQ J7 Lt (gh (fun _=>⟨(j9 (st:=(st.cC P Γ o).reset) DS).trans (bh rest _ _ _ hy),Kc⟩) (by simp) aJ)
       | false=>
        have hn:=lI.2 rfl
        refine eF eV rest (i+1) (acc++[bJ P Γ ops i st o]) ((st.cC P Γ o).reset.fO s false) _ w' (eS.reset.fO dw) hn ?_
        intro J7 Lt Kc
        exact hQ J7 Lt (gh (by simp) (fun _=>⟨(j9 (st:=(st.cC P Γ o).reset) DS).trans (bh rest _ _ _ hn),Kc⟩) aJ)
      ·rename_i hg
       have Mc:∀a' w',Rel w0 S (ba P Γ ops gs kh rest (i+1) (acc++[bJ P Γ ops i st o]) (st.cC P Γ o)) a' w'→Q .normal a' w':=by
        revert hQ
        split
        ·rename_i g H9;exact absurd H9 (hg g)
        ·exact id
       exact plain aJ Mc
theorem AF {draw:Bool} {st:St} (h:(bZ P Γ ops draw st).ok=true):Tr st (bZ P Γ ops draw st):=by
 unfold bZ at h ⊢
 cases draw
 ·simp only[cond_false] at h ⊢
  exact bh _ _ _ _ h
 ·simp only[cond_true] at h ⊢
  cases hf:eG (ln ops.toList) st && gu ops.toList 0 && P.follows .mixedOrders
  ·simp [hf,bf] at h
  ·simp only[hf,cond_true] at h ⊢
   exact bh _ _ _ _ h
theorem CX (eV:bH P Γ) {st:St} {a:Act} {w:World} {id:Nat} {Q:Exit→Act→World→Prop} (hR:Rel w0 S st a w) (h:(bZ P Γ ops false st).ok=true)
  (hQ:∀a' w',Rel w0 S (bZ P Γ ops false st) a' w'→Q .normal a' w'):(Code.region id ops false).wp P Q a w:=by
 unfold bZ at h hQ
 simp only[cond_false] at h hQ
 exact wp_region_list (eF eV _ _ _ _ a w hR h hQ)
end
end Go.Proofs.YtnlkklmcfafgeaaGreat.Vm
set_option linter.unusedVariables false
set_option linter.unusedSimpArgs false
namespace Go.Proofs.YtnlkklmcfafgeaaGreat.Vm
theorem M.kD {α:Type} {f f':Nat→SV} {h h':Nat→Option aj} :∀(m:M α) {a:α} {s o:List Nat},m.run f h=some (a,s,o)→(∀i∈s,f' i=f i)→(∀i∈o,h' i=h i)→m.run f' h'=some (a,s,o)
 | .pure a,_,_,_,e,_,_=>by simpa [M.run] using e
 | .fail,_,_,_,e,_,_=>by simp [M.run] at e
 | .slot i k,a,s,o,e,hs,ho=>by
  simp only[M.run] at e ⊢
  split at e
  ·rename_i b s' o' hk
   simp only[Option.some.injEq,Prod.mk.injEq] at e
   obtain⟨rfl,rfl,rfl⟩:=e
   rw[hs i (List.mem_cons_self ..),M.kD (k (f i)) hk (fun j hj=>hs j (List.mem_cons_of_mem _ hj)) ho]
  ·cases e
 | .obj i k,a,s,o,e,hs,ho=>by
  simp only[M.run] at e ⊢
  split at e
  ·rename_i x hx
   split at e
   ·rename_i b s' o' hk
    simp only[Option.some.injEq,Prod.mk.injEq] at e
    obtain⟨rfl,rfl,rfl⟩:=e
    rw[ho i (List.mem_cons_self ..),hx]
    simp only
    rw[M.kD (k x) hk hs (fun j hj=>ho j (List.mem_cons_of_mem _ hj))]
   ·cases e
  ·cases e
structure PS where
 i:Nat
 o:Oper
 run:Bool
 st:St
 e:cJ
 log:cx
def PS.f (p:PS) (s:Nat) (v:SV):SV:=if p.o.dst=some s then p.e.sv else v
def Gj:List (Nat×Option aj)→Nat→Option (Option aj)
 | [],_=>none
 | (i,x)::l,j=>if j=i then some x else Gj l j
def Ex (cw:Option (Nat×Nat×List SV)) (id:Nat) (v:Option aj):Option aj:=
 match cw with
 | some (i,off,bO)=>if id=i then (match v with | some (.box t cells)=>some (.box t (cI cells off bO)) | o=>o) else v
 | none=>v
def PS.h (p:PS) (id:Nat) (v:Option aj):Option aj:=
 match Gj p.e.ow id with
 | some x=>x
 | none=>Ex p.e.cw id v
theorem Io (cw:Option (Nat×Nat×List SV)) (h:Nat→Option aj) (id:Nat):fc cw h id=Ex cw id (h id):=by
 cases cw with
 | none=>rfl
 | some x=>
  obtain⟨i,off,bO⟩:=x
  simp only[fc,Ex]
  by_cases hi:id=i
  ·subst hi
   rw[if_pos rfl]
   cases hh:h id with
   | none=>simp [hh]
   | some b=>cases b<;>simp [az,hh]
  ·rw[if_neg hi]
   cases h i with
   | none=>rfl
   | some b=>cases b<;>simp [az,hi]
theorem Ip (ow:List (Nat×Option aj)) (h:Nat→Option aj) (id:Nat):fo ow h id=match Gj ow id with | some x=>x | none=>h id:=by
 induction ow with
 | nil=>rfl
 | cons x l ih=>
  obtain⟨i,ob⟩:=x
  simp only[fo,az,Gj]
  split
  ·rfl
  ·exact ih
theorem js (st:St) (p:PS) (id:Nat):(st.apply p.o.dst p.e).obj id=p.h id (st.obj id):=by
 rw[ff,Ip]
 unfold PS.h
 rw[Io]
theorem lD (st:St) (p:PS) (s:Nat):(st.apply p.o.dst p.e).get s=p.f s (st.get s):=by
 unfold PS.f
 cases hd:p.o.dst with
 | none=>simp [gS]
 | some d=>
  rw[apply_get]
  simp only[az,Option.some.injEq]
  by_cases hs:s=d
  ·simp [hs]
  ·rw[if_neg hs,if_neg (fun h:d=s=>hs h.symm)]
inductive Path (P:Program) (Γ:Ctx) (ops:Array Oper) (gs:List Nat):List Oper→Nat→St→List PS→St→Prop where
 | nil (i:Nat) (st:St):Path P Γ ops gs [] i st [] st
 | skip (o:Oper) (rest:List Oper) (i:Nat) (st:St) (l:List PS) (fin:St) (hw:fA ops st o=some false) (aJ:(st.skip o.dst).ok=true) (h:Path P Γ ops gs rest (i+1) (st.skip o.dst) l fin):
   Path P Γ ops gs (o::rest) i st (⟨i,o,false,st, {sv:= .undef},iM ops i o⟩::l) fin
 | op (o:Oper) (rest:List Oper) (i:Nat) (st:St) (l:List PS) (fin:St) (e:cJ) (hw:fA ops st o=some true) (aJ:(st.cC P Γ o).ok=true) (he:st.cC P Γ o=st.apply o.dst e)
   (hr:∃s r,(evalOp P Γ o).run st.get st.obj=some (e,s,r)) (h:Path P Γ ops gs rest (i+1) (st.cC P Γ o) l fin):
   Path P Γ ops gs (o::rest) i st (⟨i,o,true,st,e,bJ P Γ ops i st o⟩::l) fin
 | J2 (o:Oper) (rest:List Oper) (i:Nat) (st:St) (l:List PS) (fin:St) (e:cJ) (s:Nat) (g:Bool) (hw:fA ops st o=some true) (aJ:(st.cC P Γ o).ok=true) (he:st.cC P Γ o=st.apply o.dst e)
   (hr:∃s r,(evalOp P Γ o).run st.get st.obj=some (e,s,r)) (hd:o.dst=some s) (hg:e.sv= .bool g) (h:Path P Γ ops gs rest (i+1) ((st.cC P Γ o).reset.fO s g) l fin):
   Path P Γ ops gs (o::rest) i st (⟨i,o,true,st, {e with sv:= .kb g},bJ P Γ ops i st o⟩::l) fin
section
variable {P:Program} {Γ:Ctx} {w0:World} {S:Own} {ops:Array Oper} {gs:List Nat}
theorem e_ {kh:List cx→Bool} :∀(rest:List Oper) (i:Nat) (acc:List cx) (st:St),(ba P Γ ops gs kh rest i acc st).ok=true→
  ∃l fin,Path P Γ ops gs rest i st l fin∧fin.ok=true∧kh (acc++l.map (·.log))=true∧∀(w0:World) (S:Own) (a:Act) (w:World),Rel w0 S fin a w→Rel w0 S (ba P Γ ops gs kh rest i acc st) a w
 | [],i,acc,st,aJ=>by
  simp only[ba,gr] at aJ ⊢
  exact⟨[],st,.nil i st,aJ.1,by simpa using aJ.2,fun w0 S a w h=>h.G2 _⟩
 | o::rest,i,acc,st,aJ=>by
  rw[ba] at aJ ⊢
  cases hw:fA ops st o with
  | none=>simp [hw,bf] at aJ
  | some b=>
   simp only[hw] at aJ ⊢
   cases b with
   | false=>
    simp only at aJ ⊢
    obtain⟨l,fin,h1,h2,h3,h4⟩:=e_ rest _ _ _ aJ
    exact⟨_,fin,.skip o rest i st l fin hw (bh rest _ _ _ aJ).ok h1,h2,by simpa using h3,h4⟩
   | true=>
    simp only at aJ ⊢
    have plain:(ba P Γ ops gs kh rest (i+1) (acc++[bJ P Γ ops i st o]) (st.cC P Γ o)).ok=true→
      ∃l fin,Path P Γ ops gs (o::rest) i st l fin∧fin.ok=true∧kh (acc++l.map (·.log))=true∧∀(w0:World) (S:Own) (a:Act) (w:World),Rel w0 S fin a w→
       Rel w0 S (ba P Γ ops gs kh rest (i+1) (acc++[bJ P Γ ops i st o]) (st.cC P Γ o)) a w:=by
     intro h1
     have hd:=(bh rest _ _ _ h1).ok
     obtain⟨l,fin,g1,g2,g3,g4⟩:=e_ rest _ _ _ h1
     obtain⟨e,s,r,hr,_,he⟩:=lX hd
     exact⟨_,fin,.op o rest i st l fin e hw hd he ⟨s,r,hr⟩ g1,g2,by simpa using g3,g4⟩
    split at aJ
    ·rename_i hd
     exact plain aJ
    ·rename_i s hd
     cases hm:ie s gs
     ·simp only[hm,cond_false] at aJ ⊢
      exact plain aJ
     ·simp only[hm,cond_true] at aJ ⊢
      split at aJ
      ·rename_i g hg
       have lI:=c_ aJ
       have JK:∀b:Bool,g=b→(ba P Γ ops gs kh rest (i+1) (acc++[bJ P Γ ops i st o]) ((st.cC P Γ o).reset.fO s b)).ok=true:=by
        rintro b rfl
        cases g with
        | true=>exact lI.1 rfl
        | false=>exact lI.2 rfl
       have Kl:=(bh rest _ _ _ (JK g rfl)).ok
       have JM:(st.cC P Γ o).ok=true:=Kl
       obtain⟨l,fin,g1,g2,g3,g4⟩:=e_ rest (i+1) (acc++[bJ P Γ ops i st o]) _ (JK g rfl)
       obtain⟨e,s',r,hr,_,he⟩:=lX JM
       have fi:e.sv= .bool g:=by
        rw[he,hd,apply_get] at hg
        simpa [az] using hg
       refine⟨_,fin,.J2 o rest i st l fin e s g hw JM he ⟨s',r,hr⟩ hd fi g1,g2,by simpa using g3,fun w0 S a w hR=> ?_⟩
       have eS:=g4 w0 S a w hR
       refine gh (fun F1=> ?_) (fun Mu=> ?_) aJ
       ·subst F1
        exact⟨(j9 (st:=(st.cC P Γ o).reset) JM).trans (bh rest _ _ _ (JK true rfl)),eS⟩
       ·subst Mu
        exact⟨(j9 (st:=(st.cC P Γ o).reset) JM).trans (bh rest _ _ _ (JK false rfl)),eS⟩
      ·rename_i hg
       exact plain aJ
def kP (L:Nat→Bool) (l:List PS) (s:Nat) (v:SV):SV:=l.foldl (fun v p=>if L p.i then p.f s v else v) v
def kQ (L:Nat→Bool) (l:List PS) (id:Nat) (v:Option aj):Option aj:=l.foldl (fun v p=>if L p.i then p.h id v else v) v
def PS.tF (p:PS) (s:Nat):Prop:=p.o.dst=some s
def PS.tH (p:PS) (id:Nat):Prop:=id∈p.e.ow.map (·.1)∨∃off bO,p.e.cw=some (id,off,bO)
theorem PS.Im {p:PS} {s:Nat} (h:¬p.tF s) (v:SV):p.f s v=v:=by unfold PS.f PS.tF at*;rw[if_neg h]
theorem Fs {ow:List (Nat×Option aj)} {id:Nat} (h:id ∉ ow.map (·.1)):Gj ow id=none:=by
 induction ow with
 | nil=>rfl
 | cons x l ih=>
  obtain⟨i,ob⟩:=x
  simp only[List.map_cons,List.mem_cons,not_or] at h
  simp only[Gj]
  rw[if_neg h.1]
  exact ih h.2
theorem PS.It {p:PS} {id:Nat} (h:¬p.tH id) (v:Option aj):p.h id v=v:=by
 unfold PS.tH at h
 simp only[not_or] at h
 unfold PS.h
 rw[Fs h.1]
 simp only
 unfold Ex
 split
 ·rename_i i off bO jG
  by_cases hi:id=i
  ·subst hi
   exact absurd ⟨off,bO,jG⟩ h.2
  ·rw[if_neg hi]
 ·rfl
theorem fh {α:Type} (step:PS→α→α) {L:Nat→Bool} :∀(l:List PS) (v:α),(∀q∈l,L q.i=false)→l.foldl (fun v q=>if L q.i then step q v else v) v=v
 | [],v,_=>rfl
 | z::l,v,h=>by
  simp only[List.foldl_cons,h z (List.mem_cons_self ..),Bool.false_eq_true,if_false]
  exact fh step l v (fun q hq=>h q (List.mem_cons_of_mem _ hq))
section Iq
variable {α:Type} (step:PS→α→α) (T:PS→Prop)
theorem fold_congr (dV:∀p v,¬T p→step p v=v) {L L':Nat→Bool} :∀(l:List PS) (v:α),(∀p∈l,T p→L p.i=L' p.i)→
  l.foldl (fun v p=>if L p.i then step p v else v) v=l.foldl (fun v p=>if L' p.i then step p v else v) v
 | [],v,_=>rfl
 | p::l,v,h=>by
  simp only[List.foldl_cons]
  have:(if L p.i then step p v else v)=if L' p.i then step p v else v:=by
   by_cases ht:T p
   ·rw[h p (List.mem_cons_self ..) ht]
   ·rw[dV p v ht]
    simp
  rw[this]
  exact fold_congr dV l _ (fun q hq=>h q (List.mem_cons_of_mem _ hq))
theorem gY (dV:∀p v,¬T p→step p v=v) {L:Nat→Bool} {q:PS} :∀(l:List PS) (v:α),q∈l→(l.map (·.i)).Nodup→L q.i=false→l.Pairwise (fun a b=>a.i<b.i)→(∀p∈l,q.i<p.i→T q→T p→L p.i=false)→
  l.foldl (fun v p=>if (L p.i || p.i==q.i) then step p v else v) v=step q (l.foldl (fun v p=>if L p.i then step p v else v) v)
 | [],v,hq,_,_,_,_=>by simp at hq
 | p::l,v,hq,hn,hL,hp,BO=>by
  simp only[List.foldl_cons]
  simp only[List.map_cons,List.nodup_cons] at hn
  rw[List.pairwise_cons] at hp
  rcases List.mem_cons.1 hq with rfl | LL
  ·simp only[hL,beq_self_eq_true,Bool.or_true,if_true,Bool.false_eq_true,if_false]
   have e1:l.foldl (fun v p=>if (L p.i || p.i==q.i) then step p v else v) (step q v)=l.foldl (fun v p=>if L p.i then step p v else v) (step q v):=by
    refine fold_congr step T dV (L:=fun k=>L k || k==q.i) (L':=L) l _ (fun r hr _=> ?_)
    have:r.i≠q.i:=fun e=>hn.1 (e ▸ List.mem_map_of_mem hr)
    simp [this]
   rw[e1]
   by_cases ht:T q
   ·have e2:∀u,l.foldl (fun v p=>if L p.i then step p v else v) u=u:=by
     intro u
     have:=fold_congr step T dV (L:=L) (L':=fun _=>false) l u (fun r hr ML=>BO r (List.mem_cons_of_mem _ hr) (hp.1 r hr) ht ML)
     rw[this]
     exact fh step (L:=fun _=>false) l u (fun _ _=>rfl)
    rw[e2,e2]
   ·rw[dV q v ht,dV q _ ht]
  ·have cM:p.i≠q.i:=fun e=>hn.1 (e ▸ List.mem_map_of_mem LL)
   have:(if (L p.i || p.i==q.i) then step p v else v)=if L p.i then step p v else v:=by simp [cM]
   rw[this]
   exact gY dV l _ LL hn.2 hL hp.2 (fun r hr=>BO r (List.mem_cons_of_mem _ hr))
end Iq
theorem cv:∀ {rest:List Oper} {i:Nat} {st:St} {l:List PS} {fin:St},Path P Γ ops gs rest i st l fin→l.map (·.i)=List.range' i rest.length∧l.map (·.o)=rest∧(∀p∈l,p.log.i=p.i∧p.log.d=p.o.dst):=by
 intro rest i st l fin h
 induction h with
 | nil=>exact⟨rfl,rfl,by simp⟩
 | skip o rest i st l fin hw aJ h ih=>
  refine⟨by simp [ih.1,List.range'_succ],by simp [ih.2.1],fun p hp=> ?_⟩
  rcases List.mem_cons.1 hp with rfl | hp
  ·exact⟨rfl,rfl⟩
  ·exact ih.2.2 p hp
 | op o rest i st l fin e hw aJ he hr h ih=>
  refine⟨by simp [ih.1,List.range'_succ],by simp [ih.2.1],fun p hp=> ?_⟩
  rcases List.mem_cons.1 hp with rfl | hp
  ·obtain⟨s,r,hr⟩:=hr
   simp [bJ,hr]
  ·exact ih.2.2 p hp
 | J2 o rest i st l fin e s g hw aJ he hr hd hg h ih=>
  refine⟨by simp [ih.1,List.range'_succ],by simp [ih.2.1],fun p hp=> ?_⟩
  rcases List.mem_cons.1 hp with rfl | hp
  ·obtain⟨s,r,hr⟩:=hr
   simp [bJ,hr]
  ·exact ih.2.2 p hp
def Ed (st:St) (l:List PS) (fin:St):Prop:=
 (∀p∈l,(∀s,p.st.get s=kP (fun k=>decide (k<p.i)) l s (st.get s))∧(∀id,p.st.obj id=kQ (fun k=>decide (k<p.i)) l id (st.obj id))∧p.st.n=st.n)∧
  (∀s,fin.get s=kP (fun _=>true) l s (st.get s))∧(∀id,fin.obj id=kQ (fun _=>true) l id (st.obj id))∧fin.n=st.n
theorem iZ (p0:PS) {st JB:St} {JA:List Oper} {l':List PS} {He:St} {i:Nat} (hi:p0.i=i) (hX:p0.st=st) (hf:∀s,JB.get s=p0.f s (st.get s)) (hh:∀id,JB.obj id=p0.h id (st.obj id)) (hn:JB.n=st.n)
  (dH:Path P Γ ops gs JA (i+1) JB l' He) (ih:Ed JB l' He):Ed st (p0::l') He:=by
 have IK:=(cv dH).1
 have ER:∀p∈l',i+1≤p.i:=by
  intro p hp
  have:p.i∈l'.map (·.i):=List.mem_map_of_mem hp
  rw[IK] at this
  exact (List.mem_range'_1.1 this).1
 refine⟨fun p hp=> ?_,fun s=> ?_,fun id=> ?_,ih.2.2.2.trans hn⟩
 ·rcases List.mem_cons.1 hp with rfl | hp
  ·have none_lt:∀q∈p::l',decide (q.i<p.i)=false:=by
    intro q hq
    rcases List.mem_cons.1 hq with rfl | hq
    ·simp
    ·have:=ER q hq
     simp
     omega
   refine⟨fun s=> ?_,fun id=> ?_,by rw[hX]⟩
   ·have:=fh (fun q v=>PS.f q s v) (L:=fun k=>decide (k<p.i)) (p::l') (st.get s) none_lt
    rw[hX]
    exact this.symm
   ·have:=fh (fun q v=>PS.h q id v) (L:=fun k=>decide (k<p.i)) (p::l') (st.obj id) none_lt
    rw[hX]
    exact this.symm
  ·have h0:=ER p hp
   have cr:decide (p0.i<p.i)=true:=by simp;omega
   obtain⟨g1,g2,g3⟩:=ih.1 p hp
   refine⟨fun s=> ?_,fun id=> ?_,g3.trans hn⟩
   ·rw[g1 s,hf s]
    unfold kP
    simp only[List.foldl_cons,cr,if_true]
   ·rw[g2 id,hh id]
    unfold kQ
    simp only[List.foldl_cons,cr,if_true]
 ·rw[ih.2.1 s,hf s]
  unfold kP
  simp only[List.foldl_cons,if_true]
 ·rw[ih.2.2.1 id,hh id]
  unfold kQ
  simp only[List.foldl_cons,if_true]
theorem Fj {st:St} {o:Oper} {e:cJ} {s:Nat} {g:Bool} (hd:o.dst=some s) (p:PS) (hp:p.o=o) (K_:p.e= {e with sv:= .kb g}) (k:Nat):(((st.apply o.dst e).reset).fO s g).get k=p.f k (st.get k):=by
 rw[mq]
 have e1:(st.apply o.dst e).reset.get=(st.apply o.dst e).get:=rfl
 rw[e1,hd,apply_get]
 unfold PS.f
 rw[hp,hd,K_]
 simp only[az,Option.some.injEq]
 by_cases hk:k=s
 ·simp [hk]
 ·rw[if_neg hk,if_neg hk,if_neg (fun h:s=k=>hk h.symm)]
theorem Fk {st:St} {o:Oper} {e:cJ} {s:Nat} {g:Bool} (p:PS) (hp:p.o=o) (K_:p.e= {e with sv:= .kb g}) (id:Nat):(((st.apply o.dst e).reset).fO s g).obj id=p.h id (st.obj id):=by
 have e1:(((st.apply o.dst e).reset).fO s g).obj id=(st.apply p.o.dst p.e).obj id:=by
  rw[ff,K_]
  show (st.apply o.dst e).obj id=_
  rw[ff]
 rw[e1]
 exact js st p id
theorem kZ {rest:List Oper} {i:Nat} {st:St} {l:List PS} {fin:St} (h:Path P Γ ops gs rest i st l fin):Ed st l fin:=by
 induction h with
 | nil=>exact⟨by simp,fun _=>rfl,fun _=>rfl,rfl⟩
 | skip o rest i st l fin hw aJ h ih=>
  exact iZ ⟨i,o,false,st, {sv:= .undef},iM ops i o⟩ rfl rfl (fun s=>lD st ⟨i,o,false,st, {sv:= .undef},iM ops i o⟩ s) (fun id=>js st ⟨i,o,false,st, {sv:= .undef},iM ops i o⟩ id) rfl h ih
 | op o rest i st l fin e hw aJ he hr h ih=>
  refine iZ ⟨i,o,true,st,e,bJ P Γ ops i st o⟩ rfl rfl (fun s=> ?_) (fun id=> ?_) ?_ h ih
  ·rw[he];exact lD st ⟨i,o,true,st,e,bJ P Γ ops i st o⟩ s
  ·rw[he];exact js st ⟨i,o,true,st,e,bJ P Γ ops i st o⟩ id
  ·rw[he];rfl
 | J2 o rest i st l fin e s g hw aJ he hr hd hg h ih=>
  refine iZ ⟨i,o,true,st, {e with sv:= .kb g},bJ P Γ ops i st o⟩ rfl rfl (fun s=> ?_) (fun id=> ?_) ?_ h ih
  ·rw[he];exact Fj hd ⟨i,o,true,st, {e with sv:= .kb g},bJ P Γ ops i st o⟩ rfl rfl s
  ·rw[he];exact Fk ⟨i,o,true,st, {e with sv:= .kb g},bJ P Γ ops i st o⟩ rfl rfl id
  ·rw[he];rfl
def iY (P:Program) (Γ:Ctx) (ops:Array Oper) (p:PS):Prop:=
 (fA ops p.st p.o=some false∧p.e= {sv:= .undef} ∧(p.st.skip p.o.dst).ok=true∧p.log=iM ops p.i p.o)∨
 (fA ops p.st p.o=some true∧∃e s r,(evalOp P Γ p.o).run p.st.get p.st.obj=some (e,s,r)∧(p.st.apply p.o.dst e).ok=true∧p.log=bJ P Γ ops p.i p.st p.o∧
  (p.e=e∨∃d g,p.o.dst=some d∧e.sv= .bool g∧p.e= {e with sv:= .kb g}))
theorem CV {rest:List Oper} {i:Nat} {st:St} {l:List PS} {fin:St} (h:Path P Γ ops gs rest i st l fin):∀p∈l,iY P Γ ops p:=by
 induction h with
 | nil=>simp
 | skip o rest i st l fin hw aJ h ih=>
  intro p hp
  rcases List.mem_cons.1 hp with rfl | hp
  ·exact .inl ⟨hw,rfl,aJ,rfl⟩
  ·exact ih p hp
 | op o rest i st l fin e hw aJ he hr h ih=>
  intro p hp
  rcases List.mem_cons.1 hp with rfl | hp
  ·obtain⟨s,r,hr⟩:=hr
   exact .inr ⟨hw,e,s,r,hr,by rw[←he];exact aJ,rfl,.inl rfl⟩
  ·exact ih p hp
 | J2 o rest i st l fin e s g hw aJ he hr hd hg h ih=>
  intro p hp
  rcases List.mem_cons.1 hp with rfl | hp
  ·obtain⟨s',r,hr⟩:=hr
   exact .inr ⟨hw,e,s',r,hr,by rw[←he];exact aJ,rfl,.inr ⟨s,g,hd,hg,rfl⟩⟩
  ·exact ih p hp
end
end Go.Proofs.YtnlkklmcfafgeaaGreat.Vm
