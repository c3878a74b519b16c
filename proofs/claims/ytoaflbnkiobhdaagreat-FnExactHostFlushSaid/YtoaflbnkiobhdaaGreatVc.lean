/- The value machine: calls, every operation, regions in every order. Conditions: as each lemma says. -/
import Derived.Test.YtoaflbnkiobhdaaGreatVb
import Derived.ArgAppend
set_option linter.unusedVariables false
set_option linter.unusedSimpArgs false
namespace Go.Proofs.YtoaflbnkiobhdaaGreat.Vm
section
variable {P:Program} {Γ:Ctx} {w0:World} {S:Own} {st:St} {o:Oper} {e:cG} {a:Act} {w w':World}
variable {f:Nat→SV} {h:Nat→Option aj} {β:Env} {φ:Nat→List Nat} {tm:Array Value}
theorem Bc (hR:Rel w0 S st a w) (hd:∀d,o.dst=some d→ba st.n d) {t:TypeId} {x:Operand} {lo hi:Option Operand} (ho:o.op= .slice t x lo hi none) {sx:SV} {DW DV:Option SV}
  (h1:(b_ x).val st.get st.obj=some sx) (h2:(ki lo).val st.get st.obj=some DW) (h3:(ki hi).val st.get st.obj=some DV)
  (he:(CZ P t sx DW DV).val st.get st.obj=some e) (aJ:e.ok=true):Good P w0 S st o e a w:=by
 unfold CZ at he
 split at he
 ·rename_i et id k l hu
  simp only[M.aT,Option.bind_eq_some_iff] at he
  obtain⟨ob,aK,he⟩:=he
  split at he
  ·rename_i t' ct r fz u
   cases hz:Nat.beq t' et && aY P et ct.length
   ·simp [hz] at he
   simp only[hz,cond_true,M.aa,Option.some.injEq] at he
   subst he
   simp only[Bool.and_eq_true] at hz
   simp only[Bool.and_eq_true,decide_eq_true_eq] at aJ
   obtain⟨i,dQ,dx⟩:=aW hz.2
   refine ao hR hd rfl rfl fun β φ hc=> ?_
   have hx:=hc.ev h1
   simp only[ak] at hx
   obtain⟨vals,aA,aZ,_⟩:=hc.ay id _ aK
   rcases aZ.2 with ⟨_,h0,_⟩ | ⟨g,cap,cur,hv,hg,AW,D2,fC,E5⟩
   ·omega
   have hb:=jm (P:=P) (isS:=true) (n:=r.length) (cap:=cap) (l:=l.toNat) (m:=r.length) (c:=decide (0≤l) && decide (l≤(r.length:Int))) AW hc h2 h3 rfl (by simp only[Bool.and_eq_true,decide_eq_true_eq];exact aJ.1)
   refine⟨.slice (some ⟨g,if l.toNat<cap then l.toNat*ct.length else 0,none⟩) (r.length - l.toNat) (cap - l.toNat), ?_, ?_⟩
   ·have bp:(execOp a.eval o).run P w= .ok (.value (.slice (if cap=l.toNat then some ⟨g,0,none⟩ else (some (⟨g,0,none⟩:Addr)).map (·.add (l.toNat*i.size))) (r.length - l.toNat) (cap - l.toNat))) w:=by
     simp [execOp,ho,hx.1,hv,Instr.sliceAt,Instr.slice,run_underlying hu,hb,sizeOf,typeInfo,dQ]
    rw[bp]
    by_cases cm:l.toNat<cap
    ·rw[if_neg (by omega),if_pos cm,dx]
     simp [dn]
    ·rw[if_pos (by omega),if_neg cm]
   ·simp only[ak]
    exact⟨g,r.length,cap,hv,by omega,rfl⟩
  ·simp at he
 ·simp at he
theorem dK.take {ct:List CT} {rows:List (List DC)} {vals:List Value} {aA:List (List Nat)} (da:dK w ct rows vals aA) (k:Nat):dK w ct (rows.take k) (vals.take (k*ct.length)) (aA.take k):=by
 refine⟨by simp [da.1],fun i r f hi hf=> ?_⟩
 rw[List.getElem?_take] at hi hf
 split at hi
 ·rename_i D3
  rw[if_pos D3] at hf
  refine bl.a7.jk (fun j u hj hu=> ?_) (da.2 i r f hi hf)
  rw[List.getElem?_take,if_pos]
  ·exact hu
  ·have:(i+1)*ct.length≤k*ct.length:=Nat.mul_le_mul_right _ D3
   rw[Nat.succ_mul] at this
   omega
 ·cases hi
theorem dK.drop {ct:List CT} {rows:List (List DC)} {vals:List Value} {aA:List (List Nat)} (da:dK w ct rows vals aA) (k:Nat):dK w ct (rows.drop k) (vals.drop (k*ct.length)) (aA.drop k):=by
 refine⟨by simp [da.1],fun i r f hi hf=> ?_⟩
 rw[List.getElem?_drop] at hi hf
 refine bl.a7.jk (fun j u hj hu=> ?_) (da.2 (k+i) r f hi hf)
 rw[List.getElem?_drop,←hu]
 congr 1
 rw[Nat.add_mul]
 omega
theorem C2 (hR:Rel w0 S st a w) (hd:∀d,o.dst=some d→ba st.n d) {t t2:TypeId} {x y:Operand} {c:Call} (ho:o.op= .call c) (hb:c.callee= .builtin .copy) (cu:c.args= #[x,y]) (FV:c.argTypes= #[t,t2]) {sx sy:SV}
  (h1:(b_ x).val st.get st.obj=some sx) (h2:(b_ y).val st.get st.obj=some sy) (he:(Eo P t sx sy).val st.get st.obj=some e) (aJ:e.ok=true):Good P w0 S st o e a w:=by
 unfold Eo at he
 split at he
 ·rename_i et id lo z s hu
  simp only[M.aT,Option.bind_eq_some_iff] at he
  obtain⟨ob,aK,he⟩:=he
  split at he
  ·rename_i t' ct r fz u
   cases hz:Nat.beq t' et && aY P et 1 && Nat.beq z 1 && aF ct [.int .u8]
   ·simp [hz] at he
   simp only[hz,cond_true,M.aa,Option.some.injEq] at he
   subst he
   simp only[Bool.and_eq_true] at hz
   have BD:=aN _ _ hz.2
   subst BD
   have mT:=Nat.eq_of_beq_eq_true hz.1.2
   subst mT
   obtain⟨i,hi,br⟩:=aW hz.1.1.2
   have Ky:lo≤r.length:=by simpa using aJ
   obtain⟨β,φ,hc⟩:=hR.core
   have E0:=hc.ev h1
   simp only[ak] at E0
   obtain⟨g,n,cap,hval,MX,BM⟩:=E0
   have hy:=hc.ev h2
   simp only[ak] at hy
   obtain⟨vals,aA,aZ,da,Hr,ky⟩:=hc.ay id _ aK
   have FW:g∈al β id (.row t' [.int .u8] r fz u):=by simp [al,hval,Value.ownBlock]
   rcases aZ.2 with ⟨GP,_,_⟩ | ⟨g',Ib,cur,hv',hg,AW,D2,fC,E5⟩
   ·rw[hval] at GP;cases GP
   rw[hval] at hv'
   injection hv' with e1 e2 e3
   injection e1 with e1
   injection e1 with e1
   subst e1 e2 e3
   have Cx:=ah (hc.ay id _ aK) g FW
   have Lz:=(hc.fresh id _ aK).2 g Cx
   have A1:=aZ.1
   simp only[List.length_cons,List.length_nil,Nat.zero_add,Nat.mul_one] at A1 fC E5 BM
   have BF:aq [CT.int .u8]=true:=rfl
   let us:List Value:=(s.take (r.length - lo)).map fun b=>Value.int .u8 b.toNat
   have CF:us.length=min s.length (r.length - lo):=by simp [us,Nat.min_comm]
   have bb:∀v∈us,v.oneCell'=true:=by
    intro v hv
    simp only[us,List.mem_map] at hv
    obtain⟨b,_,rfl⟩:=hv
    rfl
   have EI:∀j,j<cur.size→¬((bif fz then (cur.size,cur.size+1) else ((0,0):Nat×Nat)).1≤j∧j<(bif fz then (cur.size,cur.size+1) else ((0,0):Nat×Nat)).2):=by
    intro j hj
    cases fz<;>simp<;>omega
   have HD:us=[]∨(if lo<cap then lo else 0)=lo:=by
    rcases Nat.lt_or_ge lo cap with h3 | h3
    ·exact .inr (if_pos h3)
    ·refine .inl ?_
     have:us.length=0:=by rw[CF];omega
     exact List.eq_nil_of_length_eq_zero this
   have HI:(storeCells ⟨g,if lo<cap then lo else 0,none⟩ us 0).run P w= .ok () (w.setRow g (cur.toList.take lo++(us++cur.toList.drop (lo+us.length))).toArray):=by
    rcases HD with h3 | h3
    ·rw[h3]
     simp only[storeCells,List.nil_append,List.length_nil,Nat.add_zero,List.take_append_drop,Array.toArray_toList]
     rw[setRow_self w g cur t' _ hg]
     rfl
    ·rw[h3]
     have:=bO P g lo t' _ us 0 cur w hg EI (by rw[CF,fC];omega) bb
     simpa only[Nat.add_zero] using this
   have mf:(Builtin.firstCells i.size (Nat.min s.length (r.length - lo)) (.string ⟨s.toArray⟩)).run P w= .ok us.toArray w:=by
    have:((⟨s.toArray⟩:ByteArray).extract 0 (Nat.min s.length (r.length - lo))).data.map (fun b=>Value.int .u8 b.toNat)=us.toArray:=by
     rw[iu]
     have e5:s.take (Nat.min s.length (r.length - lo))=s.take (r.length - lo):=by
      rcases Nat.le_total s.length (r.length - lo) with h3 | h3
      ·rw[show Nat.min s.length (r.length - lo)=s.length from Nat.min_eq_left h3,List.take_length,List.take_of_length_le h3]
      ·rw[show Nat.min s.length (r.length - lo)=r.length - lo from Nat.min_eq_right h3]
     simp [us,e5]
    simp only[Builtin.firstCells,Sem.run_pure,this]
   have mh:(cur.toList.take lo++(us++cur.toList.drop (lo+us.length))).length=cur.size:=by
    simp only[List.length_append,List.length_take,List.length_drop,Array.length_toList]
    omega
   have eJ:(r.take lo++(((s.take (r.length - lo)).map cP)++r.drop (lo+min s.length (r.length - lo)))).length=r.length:=by
    simp only[List.length_append,List.length_take,List.length_drop,List.length_map]
    omega
   have Ks:dK w [.int .u8] ((s.take (r.length - lo)).map cP) us (List.replicate us.length []):=by
    refine⟨by simp [us],fun k r' f' hk hf=> ?_⟩
    have FG:k<(s.take (r.length - lo)).length:=by
     have:=(List.getElem?_eq_some_iff.1 hk).1
     simpa using this
    have EZ:r'=cP (s.take (r.length - lo))[k]:=by
     rw[List.getElem?_map,List.getElem?_eq_getElem FG] at hk
     simpa using hk.symm
    have Bl:f'=[]:=by
     have:=List.mem_of_getElem? hf
     exact (List.mem_replicate.1 this).2
    subst EZ Bl
    unfold cP
    simp only[a7,bV]
    refine⟨.int (s.take (r.length - lo))[k].toNat,[],.int .u8 (s.take (r.length - lo))[k].toNat,[],[],rfl, ?_,⟨_,rfl,rfl, ?_,rfl⟩,⟨rfl,rfl⟩,rfl⟩
    ·simp only[us,List.length_cons,List.length_nil,Nat.zero_add,Nat.mul_one,Nat.add_zero]
     rw[List.getElem?_map,List.getElem?_eq_getElem FG]
     rfl
    ·rw[eC]
     have h1:IntKind.u8.min=0:=by decide
     have h2:IntKind.u8.max=255:=by decide
     have:=(s.take (r.length - lo))[k].toNat_lt
     omega
   have mi:dK w [.int .u8] (r.take lo++(((s.take (r.length - lo)).map cP)++r.drop (lo+min s.length (r.length - lo)))) (vals.take lo++(us++vals.drop (lo+us.length))) (aA.take lo++(List.replicate us.length []++aA.drop (lo+us.length))):=by
    have a1:=da.take lo
    have a2:=da.drop (lo+us.length)
    simp only[List.length_cons,List.length_nil,Nat.zero_add,Nat.mul_one] at a1 a2
    rw[←CF]
    refine a1.append ?_ (Ks.append ?_ a2)
    ·simp only[List.length_cons,List.length_nil,Nat.zero_add,Nat.mul_one,List.length_take,A1]
    ·simp [us]
   have Hm:=mi.flat BF
   have HJ:φ id=[g]:=by
    rw[ky,da.flat BF,hval]
    cases u<;>simp [Value.ownBlock]
   refine bJ hR hd (v:= .int .i64 (min s.length (r.length - lo):Nat)) (w':=w.setRow g (cur.toList.take lo++(us++cur.toList.drop (lo+us.length))).toArray) ?_ (hR.kept.setRow Lz.1 _)
    ⟨β,az φ id [g], ?_, ?_⟩
   ·have Bo:Nat.min s.length (r.length - lo)=min s.length (r.length - lo):=rfl
    simp [execOp,ho,resolve,hb,cu,FV,invoke,builtin,Builtin.copy_,run_underlying hu,BM,hy.1,Builtin.lenOf,sizeOf,typeInfo,hi,dv,mf,HI,goInt]
   ·show Core w0 S st.get (az st.obj id (some (.row t' [.int .u8] (r.take lo++(((s.take (r.length - lo)).map cP)++r.drop (lo+min s.length (r.length - lo)))) fz u))) _ _ _ _
    refine hc.rewrite aK FW (fun b ax=>ax) ?_ (by simp) ?_
    ·refine⟨vals.take lo++(us++vals.drop (lo+us.length)),aA.take lo++(List.replicate us.length []++aA.drop (lo+us.length)),⟨?_,.inr ⟨g,cap,(cur.toList.take lo++(us++cur.toList.drop (lo+us.length))).toArray,by rw[eJ];exact hval, ?_,by rw[eJ];exact AW,D2, ?_, ?_⟩⟩, ?_, ?_, ?_⟩
     ·rw[eJ]
      simp only[List.length_cons,List.length_nil,Nat.zero_add,Nat.mul_one,List.length_append,List.length_take,List.length_drop,A1]
      omega
     ·rw[setRow_heap w _ _ _ _ _ hg]
      simp only[List.size_toArray,mh]
     ·simp only[List.size_toArray,mh,List.length_cons,List.length_nil,Nat.zero_add,Nat.mul_one]
      exact fC
     ·rw[eJ]
      simp only[List.length_cons,List.length_nil,Nat.zero_add,Nat.mul_one]
      rw[iv _ _ _ _ (by omega) (by simp only[Array.length_toList];omega),E5]
     ·exact mi.mono (by simp) (fun b ax=>by rw[Hm] at ax;simp at ax)
     ·rw[Hm];simp
     ·rw[Hm,hval]
      cases u<;>simp [Value.ownBlock]
    ·intro b ax
     have Mb:b=g:=by simpa using ax
     subst Mb
     exact⟨Lz,fun j oj hj i_=>hc.sep id j _ _ (Ne.symm hj) aK i_ b Cx⟩
   ·unfold ak
    refine⟨rfl, ?_⟩
    rw[eC]
    have h1:IntKind.i64.min= -9223372036854775808:=by decide
    have h2:IntKind.i64.max=9223372036854775807:=by decide
    have:=hy.2
    simp only[maxLen] at this
    omega
  ·simp at he
 ·simp at he
end
end Go.Proofs.YtoaflbnkiobhdaaGreat.Vm
set_option linter.unusedVariables false
set_option linter.unusedSimpArgs false
namespace Go.Proofs.YtoaflbnkiobhdaaGreat.Vm
theorem cV (c:CT):(∃e,c= .sl e)∨aq [c]=true:=by
 cases c with
 | sl e=>exact .inl ⟨e,rfl⟩
 | _=>exact .inr rfl
theorem fq {c:CT} {cs:List CT} :aq (c::cs)=(aq [c] && aq cs):=by
 cases c<;>rfl
theorem dX {c:CT} {cs:List CT} (hc:aq [c]=true):aB (c::cs)=aB cs:=by
 cases c with
 | sl e=>simp [aq] at hc
 | _=>rfl
theorem dY:∀ {cs:List CT},aB cs=0→aq cs=true
 | [],_=>rfl
 | c::cs,h=>by
  rcases cV c with ⟨e,rfl⟩ | hc
  ·simp [aB] at h
  ·rw[dX hc] at h
   rw[fq,hc,dY h]
   rfl
theorem dW:∀(a b:List CT),aB (a++b)=aB a+aB b
 | [],b=>by simp [aB]
 | c::cs,b=>by
  rcases cV c with ⟨e,rfl⟩ | hc
  ·simp only[List.cons_append,aB,dW cs b];omega
  ·rw[List.cons_append,dX hc,dX hc,dW cs b]
theorem flat_get:∀ {cs:List CT} {k:Nat} {e:List CT},aq cs=true→cs[k]? =some (.sl e)→False
 | [],k,e,_,h=>by simp at h
 | c::cs,k,e,hf,h=>by
  rw[fq,Bool.and_eq_true] at hf
  cases k with
  | zero=>
   simp only[List.getElem?_cons_zero,Option.some.injEq] at h
   subst h
   simp [aq] at hf
  | succ k=>exact flat_get hf.2 (by simpa using h)
section
variable {w:World}
theorem ab.length {hv:Option Value} :∀(cs:List CT) (ts:List TypeId) (ds:List DC) (us:List Value) (mb:List Nat),ab w hv cs ts ds us mb→us.length=cs.length∧ds.length=cs.length
 | [],_,_,_,_,h=>by
  simp only[ab] at h
  obtain⟨_,rfl,rfl,_⟩:=h
  exact⟨rfl,rfl⟩
 | c::cs,_,_,_,_,h=>by
  rcases cV c with ⟨e,rfl⟩ | hc
  ·simp only[ab] at h
   obtain⟨t,dJ,rows,aX,v,aM,m1,ga,rfl,rfl,rfl,_,_,h6,rfl⟩:=h
   have:=ab.length cs _ _ _ _ h6
   simp [this.1,this.2]
  ·rw[ab.flat hc] at h
   obtain⟨d,aX,v,aM,rfl,rfl,_,h4⟩:=h
   have:=ab.length cs _ _ _ _ h4
   simp [this.1,this.2]
theorem ab.lt {hv:Option Value} :∀(cs:List CT) (ts:List TypeId) (ds:List DC) (us:List Value) (mb:List Nat),ab w hv cs ts ds us mb→∀b∈mb,b<w.heap.size
 | [],_,_,_,_,h=>by
  simp only[ab] at h
  simp [h.2.2.2]
 | c::cs,_,_,_,_,h=>by
  rcases cV c with ⟨e,rfl⟩ | hc
  ·simp only[ab] at h
   obtain⟨t,dJ,rows,aX,v,aM,m1,ga,rfl,rfl,rfl,_,h5,h6,rfl⟩:=h
   intro b hb
   rcases List.mem_append.1 hb with hb | hb
   ·cases hv with
    | none=>
     obtain⟨vals,aA,g1,_,rfl⟩:=h5
     exact g1.lt b hb
    | some v0=>
     rw[h5.2.2] at hb
     simp at hb
   ·exact ab.lt cs _ _ _ _ h6 b hb
  ·rw[ab.flat hc] at h
   obtain⟨d,aX,v,aM,rfl,rfl,_,h4⟩:=h
   exact ab.lt cs _ _ _ _ h4
theorem bH.lt {e:List CT} {ts:List TypeId} {rows:List (List DC)} {vals:List Value} {hv:Nat→Option Value} {aS:List (List Nat)} (h:bH w e ts rows vals hv aS):∀b∈aS.flatten,b<w.heap.size:=by
 intro b hb
 obtain⟨m,hm,hb⟩:=List.mem_flatten.1 hb
 obtain⟨i,hi,rfl⟩:=List.getElem_of_mem hm
 have dQ:i<rows.length:=by have:=h.1;omega
 exact ab.lt _ _ _ _ _ (h.2 i rows[i] aS[i] (by simp) (by simp)) b hb
theorem ab.split {hv:Option Value} :∀(AH lk:List CT) (ts:List TypeId) (ds:List DC) (us:List Value) (mb:List Nat),ab w hv (AH++lk) ts ds us mb→
  ∃Gn HX m1 m2,ts=Gn++HX∧mb=m1++m2∧ab w hv AH Gn (ds.take AH.length) (us.take AH.length) m1∧ab w hv lk HX (ds.drop AH.length) (us.drop AH.length) m2
 | [],lk,ts,ds,us,mb,h=>⟨[],ts,[],mb,rfl,rfl,by simp [ab],by simpa using h⟩
 | c::cs,lk,_,_,_,_,h=>by
  rw[List.cons_append] at h
  rcases cV c with ⟨e,rfl⟩ | hc
  ·simp only[ab] at h
   obtain⟨t,dJ,rows,aX,v,aM,m1,ga,rfl,rfl,rfl,h4,h5,h6,rfl⟩:=h
   obtain⟨a1,a2,b1,b2,rfl,rfl,k1,k2⟩:=ab.split cs lk _ _ _ _ h6
   refine⟨t::a1,a2,m1++b1,b2,rfl,by simp, ?_,by simpa using k2⟩
   simp only[ab,List.length_cons,List.take_succ_cons]
   exact⟨t,a1,rows,_,v,_,m1,b1,rfl,rfl,rfl,h4,h5,k1,rfl⟩
  ·rw[ab.flat hc] at h
   obtain⟨d,aX,v,aM,rfl,rfl,h3,h4⟩:=h
   obtain⟨a1,a2,b1,b2,rfl,rfl,k1,k2⟩:=ab.split cs lk _ _ _ _ h4
   refine⟨a1,a2,b1,b2,rfl,rfl, ?_,by simpa using k2⟩
   rw[ab.flat hc]
   simp only[List.length_cons,List.take_succ_cons]
   exact⟨d,_,v,_,rfl,rfl,h3,k1⟩
theorem ab.join {hv:Option Value} :∀(AH lk:List CT) (Gn HX:List TypeId) (d1 d2:List DC) (u1 u2:List Value) (m1 m2:List Nat),ab w hv AH Gn d1 u1 m1→ab w hv lk HX d2 u2 m2→
  ab w hv (AH++lk) (Gn++HX) (d1++d2) (u1++u2) (m1++m2)
 | [],lk,_,_,_,_,_,_,_,_,h,h2=>by
  simp only[ab] at h
  obtain⟨rfl,rfl,rfl,rfl⟩:=h
  simpa using h2
 | c::cs,lk,_,_,_,_,_,_,_,_,h,h2=>by
  rcases cV c with ⟨e,rfl⟩ | hc
  ·simp only[ab] at h
   obtain⟨t,dJ,rows,aX,v,aM,m1,ga,rfl,rfl,rfl,h4,h5,h6,rfl⟩:=h
   simp only[List.cons_append,ab]
   exact⟨t,_,rows,_,v,_,m1,_,rfl,rfl,rfl,h4,h5,ab.join cs lk _ _ _ _ _ _ _ _ h6 h2,by simp⟩
  ·rw[ab.flat hc] at h
   obtain⟨d,aX,v,aM,rfl,rfl,h3,h4⟩:=h
   simp only[List.cons_append]
   rw[ab.flat hc]
   exact⟨d,_,v,_,rfl,rfl,h3,ab.join cs lk _ _ _ _ _ _ _ _ h4 h2⟩
theorem ab.CO {hv:Option Value} :∀(cs:List CT) (ds:List DC) (us:List Value) (fp:List Nat),aq cs=true→a7 w cs ds (fun j=>us[j]?) fp→us.length=cs.length→ab w hv cs [] ds us []
 | [],ds,us,fp,_,h,hl=>by
  simp only[a7] at h
  simp only[ab]
  exact⟨trivial,h.1,by simpa using hl,trivial⟩
 | c::cs,ds,us,fp,hf,h,hl=>by
  rw[fq,Bool.and_eq_true] at hf
  simp only[a7] at h
  obtain⟨d,r',v,f1,f2,rfl,h0,h1,h2,rfl⟩:=h
  cases us with
  | nil=>simp at hl
  | cons u us=>
   simp only[List.getElem?_cons_zero,Option.some.injEq] at h0
   subst h0
   rw[ab.flat hf.1]
   refine⟨d,r',u,us,rfl,rfl, ?_,ab.CO cs r' us f2 hf.2 (by simpa using h2) (by simpa using hl)⟩
   have hz:f1=[]:=dK.lX [c] [d] (fun _=>some u) f1 hf.1 (by simp only[a7];exact⟨d,[],u,f1,[],rfl,rfl,h1,by simp,by simp⟩)
   subst hz
   exact h1
theorem ab.toFlat {hv:Option Value} :∀(cs:List CT) (ts:List TypeId) (ds:List DC) (us:List Value) (mb:List Nat),aq cs=true→ab w hv cs ts ds us mb→ts=[]∧mb=[]∧a7 w cs ds (fun j=>us[j]?) []
 | [],_,_,_,_,_,h=>by
  simp only[ab] at h
  obtain⟨rfl,rfl,rfl,rfl⟩:=h
  exact⟨rfl,rfl,by simp [a7]⟩
 | c::cs,_,_,_,_,hf,h=>by
  rw[fq,Bool.and_eq_true] at hf
  rw[ab.flat hf.1] at h
  obtain⟨d,aX,v,aM,rfl,rfl,h3,h4⟩:=h
  obtain⟨k1,k2,k3⟩:=ab.toFlat cs _ _ _ _ hf.2 h4
  refine⟨k1,k2, ?_⟩
  simp only[a7]
  exact⟨d,aX,v,[],[],rfl,rfl,h3,by simpa using k3,rfl⟩
theorem ab.A9 {hv hv':Option Value} {cs:List CT} {ts:List TypeId} {ds:List DC} {us:List Value} {mb:List Nat} (hf:aq cs=true) (h:ab w hv cs ts ds us mb):ab w hv' cs ts ds us mb:=by
 obtain⟨rfl,rfl,k3⟩:=ab.toFlat _ _ _ _ _ hf h
 exact ab.CO _ _ _ _ hf k3 (ab.length _ _ _ _ _ h).1
theorem ab.out:∀(e:List CT) (off:Nat) (e':List CT) (ts:List TypeId) (r:List DC) (us:List Value) (m:List Nat),e[off]? =some (.sl e')→aB e=1→ab w none e ts r us m→
  ∃t1 v rws,ts=[t1]∧us[off]? =some v∧r[off]? =some (.sl rws)∧aq e'=true∧JZ w none t1 e' rws v m∧ab w (some v) e [t1] r us []
 | [],_,_,_,_,_,_,h,_,_=>by simp at h
 | c::cs,off,e',_,_,_,_,h,hn,hc=>by
  rcases cV c with ⟨e,rfl⟩ | hf
  ·simp only[aB] at hn
   have eB:aq cs=true:=dY (by omega)
   cases off with
   | zero=>
    simp only[List.getElem?_cons_zero,Option.some.injEq,CT.sl.injEq] at h
    subst h
    simp only[ab] at hc
    obtain⟨t,dJ,rows,aX,v,aM,m1,ga,rfl,rfl,rfl,h4,h5,h6,rfl⟩:=hc
    obtain⟨rfl,rfl,_⟩:=ab.toFlat _ _ _ _ _ eB h6
    have bb:v.oneCell'=true:=by
     obtain⟨vals,aA,g1,_⟩:=h5
     exact g1.one
    refine⟨t,v,rows,rfl,rfl,rfl,h4,by simpa using h5, ?_⟩
    simp only[ab]
    exact⟨t,[],rows,aX,v,aM,[],[],rfl,rfl,rfl,h4,⟨rfl,bb,rfl⟩,ab.A9 eB h6,rfl⟩
   | succ k=>exact (flat_get eB (by simpa using h)).elim
  ·cases off with
   | zero=>
    simp only[List.getElem?_cons_zero,Option.some.injEq] at h
    subst h
    simp [aq] at hf
   | succ k=>
    rw[ab.flat hf] at hc
    obtain⟨d,aX,v,aM,rfl,rfl,h3,h4⟩:=hc
    rw[dX hf] at hn
    obtain⟨t1,v1,rws,rfl,k1,k2,k3,k4,k5⟩:=ab.out cs k e' _ _ _ _ (by simpa using h) hn h4
    refine⟨t1,v1,rws,rfl,by simpa using k1,by simpa using k2,k3,k4, ?_⟩
    rw[ab.flat hf]
    exact⟨d,aX,v,aM,rfl,rfl,h3,k5⟩
theorem CW {c:CT} {cs:List CT} (hc:aq [c]=true):ea (c::cs)=ea cs+1:=by
 cases c with
 | sl e=>simp [aq] at hc
 | _=>rfl
theorem ab.back {v:Value} {rws:List (List DC)} {m1:List Nat} :∀(e:List CT) (e':List CT) (t1:TypeId) (r:List DC) (us:List Value) (m:List Nat),e[ea e]? =some (.sl e')→aB e=1→ab w (some v) e [t1] r us m→
  JZ w none t1 e' rws v m1→ab w none e [t1] (bQ r (ea e) [.sl rws]) us m1
 | [],_,_,_,_,_,h,_,_,_=>by simp [ea] at h
 | c::cs,e',t1,_,_,_,h,hn,hc,hs=>by
  rcases cV c with ⟨e,rfl⟩ | hf
  ·simp only[aB] at hn
   have eB:aq cs=true:=dY (by omega)
   simp only[ea,List.getElem?_cons_zero,Option.some.injEq,CT.sl.injEq] at h
   subst h
   simp only[ab] at hc
   obtain⟨t,dJ,rows,aX,v',aM,M0,ga,h1,rfl,rfl,h4,⟨rfl,bb,rfl⟩,h6,rfl⟩:=hc
   simp only[List.cons.injEq] at h1
   obtain⟨rfl,rfl⟩:=h1
   obtain⟨_,rfl,_⟩:=ab.toFlat _ _ _ _ _ eB h6
   simp only[ea,bQ,ab]
   exact⟨t1,[],rws,aX,v',aM,m1,[],rfl,by simp,rfl,h4,hs,ab.A9 eB h6,by simp⟩
  ·rw[CW hf] at h ⊢
   rw[ab.flat hf] at hc ⊢
   obtain⟨d,aX,v',aM,rfl,rfl,h3,h4⟩:=hc
   rw[dX hf] at hn
   refine⟨d,bQ aX (ea cs) [.sl rws],v',aM, ?_,rfl,h3,ab.back cs e' t1 _ _ _ (by simpa using h) hn h4 hs⟩
   have e1:ea cs+1+([DC.sl rws]:List DC).length=(ea cs+([DC.sl rws]:List DC).length)+1:=by omega
   simp only[bQ,e1,List.take_succ_cons,List.drop_succ_cons,List.cons_append]
theorem AQ {α:Type} (l nu:List α) (p j:Nat) (h:p+nu.length≤l.length):(l.take p++(nu++l.drop (p+nu.length)))[j]? =if j<p then l[j]? else if j<p+nu.length then nu[j - p]? else l[j]? :=by
 have ht:(l.take p).length=p:=by simp;omega
 split
 ·rename_i hj
  rw[List.getElem?_append_left (by omega),List.getElem?_take,if_pos hj]
 ·rename_i hj
  rw[List.getElem?_append_right (by omega),ht]
  split
  ·rw[List.getElem?_append_left (by omega)]
  ·rw[List.getElem?_append_right (by omega),List.getElem?_drop]
   congr 1
   omega
theorem Fw {α:Type} (vals nu:List α) (i off el:Nat) (ja:off+nu.length≤el) (hl:i*el+el≤vals.length):
  ((vals.take (i*el+off)++(nu++vals.drop (i*el+off+nu.length))).drop (i*el)).take el=((vals.drop (i*el)).take el).take off++(nu++((vals.drop (i*el)).take el).drop (off+nu.length)):=by
 apply List.ext_getElem?
 intro j
 rw[AQ _ _ _ _ (by simp;omega),List.getElem?_take,List.getElem?_drop,AQ _ _ _ _ (by omega)]
 simp only[List.getElem?_take,List.getElem?_drop]
 by_cases hj:j<el
 ·rw[if_pos hj,if_pos hj]
  by_cases h1:j<off
  ·rw[if_pos (by omega),if_pos h1]
  ·rw[if_neg (by omega),if_neg h1]
   by_cases h2:j<off+nu.length
   ·rw[if_pos (by omega),if_pos h2]
    congr 1
    omega
   ·rw[if_neg (by omega),if_neg h2]
 ·rw[if_neg hj,if_neg hj,if_neg (by omega),if_neg (by omega)]
theorem DU {α:Type} (vals nu:List α) (i off el k:Nat) (ja:off+nu.length≤el) (hl:i*el+el≤vals.length) (hk:k≠i):
  ((vals.take (i*el+off)++(nu++vals.drop (i*el+off+nu.length))).drop (k*el)).take el=(vals.drop (k*el)).take el:=by
 apply List.ext_getElem?
 intro j
 rw[List.getElem?_take,List.getElem?_drop,AQ _ _ _ _ (by omega),List.getElem?_take,List.getElem?_drop]
 by_cases hj:j<el
 ·rw[if_pos hj,if_pos hj]
  rcases Nat.lt_or_ge k i with cm | EJ
  ·have:k*el+el≤i*el:=by rw[←Nat.succ_mul];exact Nat.mul_le_mul_right _ cm
   rw[if_pos (by omega)]
  ·have:i*el+el≤k*el:=by rw[←Nat.succ_mul];exact Nat.mul_le_mul_right _ (by omega)
   rw[if_neg (by omega),if_neg (by omega)]
 ·rw[if_neg hj,if_neg hj]
theorem bH.set {w w':World} {e:List CT} {ts:List TypeId} {rows:List (List DC)} {vals:List Value} {hv hv':Nat→Option Value} {aS:List (List Nat)} (h:bH w e ts rows vals hv aS) (hs:w.heap.size≤w'.heap.size) (hl:vals.length=rows.length*e.length)
  {i off:Nat} (hi:i<rows.length) {nu:List Value} (ja:off+nu.length≤e.length) {r:List DC} {m:List Nat} (hm:∀j,j≠i→∀m',aS[j]? =some m'→∀b∈m',w'.heap[b]? =w.heap[b]?)
  (hh:∀j,j≠i→hv' j=hv j) (hr:ab w' (hv' i) e ts r (((vals.drop (i*e.length)).take e.length).take off++(nu++((vals.drop (i*e.length)).take e.length).drop (off+nu.length))) m):
  bH w' e ts (rows.set i r) (vals.take (i*e.length+off)++(nu++vals.drop (i*e.length+off+nu.length))) hv' (aS.set i m):=by
 have EL:i*e.length+e.length≤vals.length:=by rw[hl,←Nat.succ_mul];exact Nat.mul_le_mul_right _ hi
 refine⟨by simp [h.1],fun k r' m' hk FY=> ?_⟩
 by_cases Ah:k=i
 ·subst Ah
  rw[List.getElem?_set_self hi,Option.some.injEq] at hk
  rw[List.getElem?_set_self (by rw[h.1];exact hi),Option.some.injEq] at FY
  subst hk FY
  rw[Fw _ _ _ _ _ ja EL]
  exact hr
 ·rw[List.getElem?_set_ne (Ne.symm Ah)] at hk FY
  rw[DU _ _ _ _ _ _ ja EL Ah,hh k Ah]
  exact ab.mono hs _ _ _ _ _ (h.2 k r' m' hk FY) (hm k Ah m' FY)
end
end Go.Proofs.YtoaflbnkiobhdaaGreat.Vm
set_option linter.unusedVariables false
set_option linter.unusedSimpArgs false
namespace Go.Proofs.YtoaflbnkiobhdaaGreat.Vm
def Env.fy (β:Env) (id:Nat) (l:List Nat):Env:=⟨β.cT,β.val,β.gH,az β.nb id l⟩
def Env.gi (β:Env) (id:Nat) (v:Value) (l:List Nat):Env:=⟨β.cT,az β.val id v,β.gH,az β.nb id l⟩
section
variable {P:Program} {Γ:Ctx} {w0:World} {S:Own} {st:St} {o:Oper} {e:cG} {a:Act} {w w':World}
variable {f:Nat→SV} {h:Nat→Option aj} {β:Env} {φ:Nat→List Nat} {tm:Array Value}
theorem Core.Dv (hc:Core w0 S f h β φ tm w) {id:Nat} {ob:aj} {t:TypeId} {ct:List CT} {ts:List TypeId} {rows:List (List DC)} {hl:Option (Nat×Nat)} {FL:List Nat} {G:Nat→Prop} {h':Nat→Option aj}
  (dR:h id=some ob) (hG:∀k,G k→k≠id) (hh:h' id=some (.deep t ct ts rows hl)) (DJ:∀j,j≠id→∀x,h' j=some x→h j=some x∧¬G j)
  (hs:w.heap.size≤w'.heap.size) (hw:∀b,b<w.heap.size→b ∉ (β.val id).ownBlock.toList→w'.heap[b]? =w.heap[b]?)
  (aZ:∀b∈(β.val id).ownBlock.toList,b∈al β id ob)
  (jn:∀b∈FL,b∈al β id ob∨∃k x,G k∧h k=some x∧b∈al β k x)
  (hD:fV w' (Av h' (β.fy id FL)) (β.fy id FL) id (.deep t ct ts rows hl) ((β.val id).ownBlock.toList++FL)) (hnd:((β.val id).ownBlock.toList++FL).Nodup):
  Core w0 S f h' (β.fy id FL) (az φ id ((β.val id).ownBlock.toList++FL)) tm w':=by
 have jb:∀j oj,j≠id→al (β.fy id FL) j oj=al β j oj:=by
  intro j oj hj
  cases oj<;>simp [al,Env.fy,az,hj]
 have ES:∀b∈(β.val id).ownBlock.toList++FL,b∈al β id ob∨∃k x,G k∧h k=some x∧b∈al β k x:=by
  intro b hb
  rcases List.mem_append.1 hb with hb | hb
  ·exact .inl (aZ b hb)
  ·exact jn b hb
 have bD:∀b∈(β.val id).ownBlock.toList++FL,((w0.heap.size≤b∨S b)∧b<w.heap.size)∧Av h β b∧∀j oj,j≠id→h j=some oj→¬G j→b ∉ φ j:=by
  intro b hb
  rcases ES b hb with h1 | ⟨k,x,hk,hx,h1⟩
  ·have h2:=ah (hc.ay id ob dR) b h1
   exact⟨(hc.fresh id ob dR).2 b h2,.inl ⟨id,ob,dR,h1⟩,fun j oj hj i_ _=>hc.sep id j ob oj (Ne.symm hj) dR i_ b h2⟩
  ·have h2:=ah (hc.ay k x hx) b h1
   exact⟨(hc.fresh k x hx).2 b h2,.inl ⟨k,x,hx,h1⟩,fun j oj hj i_ hg=>hc.sep k j x oj (fun e=>hg (e ▸ hk)) hx i_ b h2⟩
 refine hc.mE (fun _=>False) hs (fun b hb hn=>hw b hb (fun hx=>hn (.inl ⟨id,ob,dR,aZ b hx⟩))) ?_ (fun _ _ _ h=>h) (fun _ _=>⟨rfl,rfl⟩) ?_ ?_
 ·rintro b (⟨j,oj,hj,bo⟩ | hb)
  case inr=>exact .inl (.inr hb)
  by_cases ca:j=id
  ·subst ca
   rw[hh,Option.some.injEq] at hj
   subst hj
   refine .inl (bD b ?_).2.1
   simpa [al,Env.fy,az] using bo
  ·rw[jb j oj ca] at bo
   exact .inl (.inl ⟨j,oj,(DJ j ca oj hj).1,bo⟩)
 ·intro j oj hj
  by_cases ca:j=id
  ·subst ca
   rw[hh,Option.some.injEq] at hj
   subst hj
   refine .inr ⟨by simpa [az] using hD,by simpa [az] using hnd,fun b hb=> ?_⟩
   have:=(bD b (by simpa [az] using hb)).1
   exact⟨this.1,by omega⟩
  ·have h1:=(DJ j ca oj hj).1
   refine .inl ⟨fun h=>h,h1,by simp [Env.fy,az,ca],by simp [az,ca],fun _ _ h=>h,fun b hb=> ?_⟩
   have fE:=ah (hc.ay j oj h1) b hb
   exact hw b ((hc.fresh j oj h1).2 b fE).2 (fun hx=>hc.sep id j ob oj (Ne.symm ca) dR h1 b (ah (hc.ay id ob dR) b (aZ b hx)) fE)
 ·intro i j oi oj cJ hi hj b hb
  by_cases lu:i=id
  ·subst lu
   have gx:j≠i:=Ne.symm cJ
   simp only[az,if_true] at hb
   simp only[az,gx,if_false]
   obtain⟨h1,h2⟩:=DJ j gx oj hj
   exact (bD b hb).2.2 j oj gx h1 h2
  ·simp only[az,lu,if_false] at hb
   obtain⟨h1,h2⟩:=DJ i lu oi hi
   by_cases ca:j=id
   ·subst ca
    simp only[az,if_true]
    exact fun ax=>(bD b ax).2.2 i oi lu h1 h2 hb
   ·simp only[az,ca,if_false]
    exact hc.sep i j oi oj cJ h1 (DJ j ca oj hj).1 b hb
theorem C3 (hR:Rel w0 S st a w) (hd:∀d,o.dst=some d→ba st.n d) {c:Call} {x:Operand} {t:TypeId} (ho:o.op= .call c) (hb:c.callee= .builtin .len)
  (hx:c.args= #[x]) (ht:c.argTypes= #[t]) {sx:SV} (h1:(b_ x).val st.get st.obj=some sx) (he:(HP P t sx).val st.get st.obj=some e):Good P w0 S st o e a w:=by
 unfold HP at he
 split at he
 ·rename_i id
  simp only[M.aT,Option.bind_eq_some_iff] at he
  obtain⟨ob,aK,he⟩:=he
  split at he
  ·rename_i t' ct ts r hl
   split at he
   ·rename_i et hu
    simp only[M.aa,Option.some.injEq] at he
    subst he
    refine ao hR hd rfl rfl fun β φ hc=> ?_
    have hv:=hc.ev h1
    simp only[ak] at hv
    obtain⟨vals,aS,aZ,_⟩:=hc.ay id _ aK
    have key:∃q cap,β.val id= .slice q r.length cap∧r.length≤maxLen:=by
     rcases aZ.2 with ⟨hv',h0,_⟩ | ⟨g,cap,cur,hv',_,AU,hm,_⟩
     ·exact⟨none,0,by rw[hv',h0],by omega⟩
     ·exact⟨_,cap,hv',by omega⟩
    obtain⟨q,cap,hq,hm⟩:=key
    refine⟨.int .i64 r.length, ?_,by unfold ak;exact⟨rfl,A2 hm⟩⟩
    simp [execOp,ho,resolve,hb,hx,ht,invoke,builtin,hv.1,hq,Builtin.len_,run_underlying hu,goInt]
   ·simp at he
  ·refine Aw hR hd ho hb hx ht h1 ?_
   exact he
 ·exact Aw hR hd ho hb hx ht h1 he
theorem kG (hR:Rel w0 S st a w) (hd:∀d,o.dst=some d→ba st.n d) {t:TypeId} {x i:Operand} (ho:o.op= .indexAddr t x i) {sx si:SV}
  (h1:(b_ x).val st.get st.obj=some sx) (h2:(b_ i).val st.get st.obj=some si) (he:(jc P t sx si).val st.get st.obj=some e) (aJ:e.ok=true):Good P w0 S st o e a w:=by
 unfold jc at he
 split at he
 ·rename_i id
  simp only[M.aT,Option.bind_eq_some_iff] at he
  obtain⟨ob,aK,he⟩:=he
  split at he
  ·rename_i t' ct ts r hl
   split at he
   ·rename_i et k n hu
    cases hz:aY P et ct.length
    ·simp [hz] at he
    simp only[hz,cond_true,M.aa,Option.some.injEq] at he
    subst he
    simp only[Bool.and_eq_true,decide_eq_true_eq] at aJ
    obtain⟨i',hi,dx⟩:=aW hz
    refine ao hR hd rfl rfl fun β φ hc=> ?_
    have hv:=hc.ev h1
    have GC:=hc.ev h2
    simp only[ak] at hv GC
    obtain⟨vals,aS,aZ,_⟩:=hc.ay id _ aK
    rcases aZ.2 with ⟨_,h0,_⟩ | ⟨g,cap,cur,hv',_⟩
    ·omega
    ·refine⟨.pointer (some ⟨g,0+n.toNat*i'.size,none⟩), ?_, ?_⟩
     ·simp [execOp,ho,hv.1,hv',GC.1,Instr.indexAt,asIntOf,run_underlying hu,aJ.1,aJ.2,sizeOf,typeInfo,hi,dn]
     ·simp only[ak]
      exact⟨g,by rw[hv'];rfl,by rw[dx];simp⟩
   ·simp at he
  ·exact gL hR hd ho h1 h2 he aJ
 ·exact gL hR hd ho h1 h2 he aJ
theorem Es (hc:Core w0 S f h β φ tm w) {id:Nat} {t:TypeId} {ct:List CT} {ts:List TypeId} {rows:List (List DC)} {hl:Option (Nat×Nat)} (aK:h id=some (.deep t ct ts rows hl)) {i:Nat} (hi:i<rows.length) {g:Nat} (hg:(β.val id).ownBlock=some g):
  ∃(us:List Value) (m:List Nat),ab w (hF β hl i) ct ts (rows.getD i []) us m∧us.length=ct.length∧∀j u,us[j]? =some u→w.cell? ⟨g,i*ct.length+j,none⟩=some u:=by
 obtain⟨vals,aS,aZ,da,_,_⟩:=hc.ay id _ aK
 have hf:i<aS.length:=by rw[da.1];exact hi
 have eJ:=da.2 i (rows.getD i []) aS[i] (cA hi) (by simp)
 exact⟨_,_,eJ,(ab.length _ _ _ _ _ eJ).1,fun j u hj=>aZ.cell hg (fU hj)⟩
theorem ab.get {hv:Option Value} :∀(cs:List CT) (ts:List TypeId) (r:List DC) (us:List Value) (m:List Nat) (k:Nat) (c:CT),ab w hv cs ts r us m→cs[k]? =some c→aq [c]=true→
  ∃v,us[k]? =some v∧bV w c (r.getD k default) v []
 | [],_,_,_,_,_,_,_,hk,_=>by simp at hk
 | c0::cs,_,_,_,_,k,c,h,hk,hf=>by
  rcases cV c0 with ⟨e,rfl⟩ | hc
  ·simp only[ab] at h
   obtain⟨t,dJ,rows,aX,v,aM,m1,ga,rfl,rfl,rfl,_,_,h6,rfl⟩:=h
   cases k with
   | zero=>
    simp only[List.getElem?_cons_zero,Option.some.injEq] at hk
    subst hk
    simp [aq] at hf
   | succ k=>
    obtain⟨v',h1,h2⟩:=ab.get cs _ _ _ _ k c h6 (by simpa using hk) hf
    exact⟨v',by simpa using h1,by simpa using h2⟩
  ·rw[ab.flat hc] at h
   obtain⟨d,aX,v,aM,rfl,rfl,h3,h4⟩:=h
   cases k with
   | zero=>
    simp only[List.getElem?_cons_zero,Option.some.injEq] at hk
    subst hk
    exact⟨v,by simp,by simpa using h3⟩
   | succ k=>
    obtain⟨v',h1,h2⟩:=ab.get cs _ _ _ _ k c h4 (by simpa using hk) hf
    exact⟨v',by simpa using h1,by simpa using h2⟩
theorem ab.bL {hv:Option Value} {av:Nat→Prop} {cs:List CT} {ts:List TypeId} {r:List DC} {us:List Value} {m:List Nat} (h:ab w hv cs ts r us m):
  ∀(n k:Nat),k+n≤cs.length→aq ((cs.drop k).take n)=true→∃vs:List Value,vs.length=n∧(∀j v,vs[j]? =some v→us[k+j]? =some v)∧af w av β (cd ((cs.drop k).take n) r k) vs∧∀x∈vs,x.oneCell'=true
 | 0,k,_,_=>⟨[],rfl,by simp,by simp [cd,af],by simp⟩
 | n+1,k,hk,hf=>by
  have cm:k<cs.length:=by omega
  have Iw:(cs.drop k).take (n+1)=cs[k]::(cs.drop (k+1)).take n:=by
   rw[List.drop_eq_getElem_cons cm,List.take_succ_cons]
  rw[Iw,fq,Bool.and_eq_true] at hf
  obtain⟨v,e1,e2⟩:=ab.get cs ts r us m k cs[k] h (by simp) hf.1
  obtain⟨vs,l1,l2,l3,l4⟩:=ab.bL h n (k+1) (by omega) hf.2
  refine⟨v::vs,by simp [l1], ?_, ?_, ?_⟩
  ·intro j u hj
   cases j with
   | zero=>simp at hj;subst hj;simpa using e1
   | succ j=>have:=l2 j u (by simpa using hj);rw[←this];congr 1;omega
  ·rw[Iw]
   simp only[cd,af]
   exact⟨v,vs,rfl,dc e2 (by simp),l3⟩
  ·intro x hx
   rcases List.mem_cons.1 hx with rfl | hx
   ·exact e2.one
   ·exact l4 x hx
theorem B4 (hR:Rel w0 S st a w) (hd:∀d,o.dst=some d→ba st.n d) {t:TypeId} {x:Operand} (ho:o.op= .load t x) {id i z off:Nat} {t':TypeId} {ct:List CT} {ts:List TypeId} {rows:List (List DC)} {hl:Option (Nat×Nat)}
  (h1:(b_ x).val st.get st.obj=some (.d9 id i z off)) (aK:st.obj id=some (.deep t' ct ts rows hl)) (he:(Fm P t i z off ct rows).val st.get st.obj=some e) (aJ:e.ok=true):Good P w0 S st o e a w:=by
 unfold Fm at he
 cases hz:Nat.beq z ct.length
 ·simp [hz] at he
 have Jj:=Nat.eq_of_beq_eq_true hz
 simp only[hz,Bool.not_true,cond_false] at he
 split at he
 ·simp at he
 rename_i td hu
 have reads:∀β φ,Core w0 S st.get st.obj β φ a.tmps w→i<rows.length→∃g us m,a.eval x= .pointer (some ⟨g,i*ct.length+off,none⟩)∧ab w (hF β hl i) ct ts (rows.getD i []) us m∧
   ∀j u,us[j]? =some u→w.cell? ⟨g,i*ct.length+j,none⟩=some u:=by
  intro β φ hc hi
  have hx:=hc.ev h1
  simp only[ak] at hx
  obtain⟨g,hg,hv⟩:=hx
  obtain⟨us,m,k1,_,k3⟩:=Es hc aK hi hg
  exact⟨g,us,m,by rw[hv,Jj],k1,k3⟩
 cases ha:bg P t
 ·simp only[ha,cond_false] at he
  split at he
  ·rename_i c AU
   cases hf:aq [c]
   ·simp [hf] at he
   simp only[hf,cond_true,M.aa,Option.some.injEq] at he
   subst he
   have hi:i<rows.length:=by simpa using aJ
   refine ao hR hd rfl rfl fun β φ hc=> ?_
   obtain⟨g,us,m,hv,hr,hcell⟩:=reads β φ hc hi
   obtain⟨v,e1,e2⟩:=ab.get _ _ _ _ _ _ _ hr AU hf
   refine⟨v, ?_,dc e2 (by simp)⟩
   simp [execOp,ho,hv,dV ha hu (hcell _ _ e1)]
  ·simp at he
 ·simp only[ha,cond_true] at he
  split at he
  ·rename_i j hj
   cases Jk:Nat.ble (off+j.size) ct.length && aq ((ct.drop off).take j.size)
   ·simp [Jk] at he
   simp only[Jk,cond_true,M.aa,Option.some.injEq] at he
   subst he
   simp only[Bool.and_eq_true] at Jk
   have hi:i<rows.length:=by simpa using aJ
   have hle:=Nat.le_of_ble_eq_true Jk.1
   refine ao hR hd rfl rfl fun β φ hc=> ?_
   obtain⟨g,us,m,hv,hr,hcell⟩:=reads β φ hc hi
   obtain⟨vs,l1,l2,l3,l4⟩:=ab.bL (β:=β) (av:=Av st.obj β) hr j.size off hle Jk.2
   refine⟨.agg vs.toArray, ?_, ?_⟩
   ·have:∀k v,vs[k]? =some v→w.cell? ⟨g,(i*ct.length+off)+k,none⟩=some v:=fun k v hk=>by
     rw[Nat.add_assoc]
     exact hcell _ _ (l2 k v hk)
    simp [execOp,ho,hv,dU ha hj l1 this]
   ·simp only[ak]
    exact⟨vs,rfl,l3,l4⟩
  ·simp at he
theorem AM {aS:List (List Nat)} {i:Nat} (hi:i<aS.length):∀b∈(aS.set i []).flatten,b∈aS.flatten:=by
 intro b hb
 rw[bT hi] at hb
 rw[bs hi]
 simp only[List.nil_append,List.mem_append] at hb ⊢
 rcases hb with hb | hb<;>simp [hb]
theorem Ay (hR:Rel w0 S st a w) {d:Nat} (bM:bw st d) {β:Env} {φ:Nat→List Nat} (hc:Core w0 S st.get st.obj β φ a.tmps w) {id i off g:Nat} {t' t1:TypeId} {ct e':List CT} {rows:List (List DC)}
  (hg:(β.val id).ownBlock=some g) (aK:st.obj id=some (.deep t' ct [t1] rows none)) (ja:ct[off]? =some (.sl e')) (Cu:aB ct=1) (hi:i<rows.length):
  ∃(us:List Value) (v:Value) (β':Env) (φ':Nat→List Nat),us.length=ct.length∧(∀j u,us[j]? =some u→w.cell? ⟨g,i*ct.length+j,none⟩=some u)∧us[off]? =some v∧v.oneCell'=true∧ab w (some v) ct [t1] (rows.getD i []) us []∧β'.val (ag d 0)=v∧
   Core w0 S st.get (az (az st.obj id (some (.deep t' ct [t1] rows (some (i,ag d 0))))) (ag d 0) (some (.row t1 e' ((rows.getD i []).getD off default).cl false true))) β' φ' a.tmps w:=by
 have bD:ag d 0 / 64=d:=cL d 0 (by omega)
 generalize My:ag d 0=nid at*
 have cJ:id≠nid:=fun e=>(bM.obj id _ aK).1 (e ▸ bD)
 obtain⟨vals,aS,aZ,da,jn,ky⟩:=hc.ay id _ aK
 have ko:i<aS.length:=by rw[da.1];exact hi
 have eJ:=da.2 i (rows.getD i []) aS[i] (cA hi) (by simp)
 obtain⟨M3,v,rws,JT,hv,Ja,eB,kt,I3⟩:=ab.out ct off e' _ _ _ _ ja Cu eJ
 simp only[List.cons.injEq,and_true] at JT
 subst JT
 obtain⟨AA,FT,GL,KP,GH⟩:=kt
 have K_:((rows.getD i []).getD off default).cl=rws:=by
  rw[List.getD_eq_getElem?_getD,Ja]
  rfl
 rw[K_]
 have F_:=(hc.fresh id _ aK).1
 rw[ky] at F_
 have jK:∀b∈v.ownBlock.toList,b∈aS.flatten:=by
  intro b hb
  rw[bs ko,GH]
  simp [hb]
 have Ir:∀b∈(β.val id).ownBlock.toList++aS.flatten,Av st.obj β b:=fun b hb=> .inl ⟨id,_,aK,by simpa [al,jn] using hb⟩
 have An:∀b∈(β.val id).ownBlock.toList++aS.flatten,b∈φ id:=fun b hb=>by rw[ky];exact hb
 have Ai:∀b∈(β.val id).ownBlock.toList++(aS.set i []).flatten,b∈(β.val id).ownBlock.toList++aS.flatten:=by
  intro b hb
  rcases List.mem_append.1 hb with hb | hb
  ·exact List.mem_append_left _ hb
  ·exact List.mem_append_right _ (AM ko b hb)
 have Dh:∀b∈v.ownBlock.toList,b ∉ (β.val id).ownBlock.toList++(aS.set i []).flatten:=by
  intro b hb iB
  rw[bs ko,List.nodup_append] at F_
  obtain⟨_,n2,n3⟩:=F_
  rw[List.nodup_append] at n2
  obtain⟨_,n4,n5⟩:=n2
  rw[List.nodup_append] at n4
  obtain⟨_,_,n6⟩:=n4
  rw[←GH] at hb
  rcases List.mem_append.1 iB with iB | iB
  ·exact n3 b iB b (by simp [hb]) rfl
  ·rw[bT ko] at iB
   simp only[List.nil_append,List.mem_append] at iB
   rcases iB with iB | iB
   ·exact n5 b iB b (by simp [hb]) rfl
   ·exact n6 b hb b iB rfl
 have EX:((β.val id).ownBlock.toList++(aS.set i []).flatten).Nodup:=by
  refine List.Sublist.nodup ?_ F_
  refine (List.Sublist.refl _).append ?_
  rw[bT ko,bs ko]
  exact (List.Sublist.refl _).append ((List.nil_sublist _).append (List.Sublist.refl _))
 have F8:v.ownBlock.toList.Nodup:=by cases v.ownBlock<;>simp
 let β':Env:=⟨β.cT,az β.val nid v,β.gH,az β.nb id (aS.set i []).flatten⟩
 have E6:β'.val id=β.val id:=by simp [β',az,cJ]
 have jM:β'.val nid=v:=by simp [β',az]
 have IV:β'.nb id=(aS.set i []).flatten:=by simp [β',az]
 let h':Nat→Option aj:=az (az st.obj id (some (.deep t' ct [t1] rows (some (i,nid))))) nid (some (.row t1 e' rws false true))
 let φ':Nat→List Nat:=az (az φ id ((β.val id).ownBlock.toList++(aS.set i []).flatten)) nid v.ownBlock.toList
 have BC:Core w0 S st.get h' β' φ' a.tmps w:=by
  have e1:h' nid=some (.row t1 e' rws false true):=by simp [h',az]
  have e2:h' id=some (.deep t' ct [t1] rows (some (i,nid))):=by simp [h',az,cJ]
  have e3:∀j,j≠nid→j≠id→h' j=st.obj j:=fun j h1 h2=>by simp [h',az,h1,h2]
  have p1:φ' nid=v.ownBlock.toList:=by simp [φ',az]
  have p2:φ' id=(β.val id).ownBlock.toList++(aS.set i []).flatten:=by simp [φ',az,cJ]
  have p3:∀j,j≠nid→j≠id→φ' j=φ j:=fun j h1 h2=>by simp [φ',az,h1,h2]
  have jb:∀j oj,j≠nid→j≠id→al β' j oj=al β j oj:=by
   intro j oj h1 h2
   cases oj<;>simp [al,β',az,h1,h2]
  have J_:∀b,Av h' β' b→Av st.obj β b:=by
   rintro b (⟨j,oj,hj,bo⟩ | hb)
   case inr=>exact .inr hb
   by_cases mj:j=nid
   ·subst mj
    rw[e1,Option.some.injEq] at hj
    subst hj
    exact Ir b (List.mem_append_right _ (jK b (by simpa [al,jM] using bo)))
   ·by_cases gx:j=id
    ·subst gx
     rw[e2,Option.some.injEq] at hj
     subst hj
     exact Ir b (Ai b (by simpa only[al,E6,IV] using bo))
    ·rw[e3 j mj gx] at hj
     rw[jb j oj mj gx] at bo
     exact .inl ⟨j,oj,hj,bo⟩
  have bu:=(hc.fresh id _ aK).2
  refine hc.mE (fun j=>j=nid) (Nat.le_refl _) (fun _ _ _=>rfl) (fun b hb=> .inl (J_ b hb)) (fun k j hj e=>bM.slot k j hj (e ▸ bD)) (fun j hj=>⟨by simp [β',az,hj],rfl⟩) ?_ ?_
  ·intro j oj hj
   by_cases mj:j=nid
   ·subst mj
    rw[e1,Option.some.injEq] at hj
    subst hj
    refine .inr ⟨?_,by rw[p1];exact F8,fun b hb=> ?_⟩
    ·refine⟨AA,FT,by rw[jM];exact GL,KP, ?_, ?_⟩
     ·rw[KP.Dt eB]
      simp
     ·rw[p1,jM,KP.Dt eB]
      simp
    ·rw[p1] at hb
     exact bu b (An b (List.mem_append_right _ (jK b hb)))
   ·by_cases gx:j=id
    ·subst gx
     rw[e2,Option.some.injEq] at hj
     subst hj
     refine .inr ⟨?_,by rw[p2];exact EX,fun b hb=> ?_⟩
     ·refine⟨vals,aS.set i [],by rw[E6];exact aZ,⟨by simp [da.1],fun k r m hk hm=> ?_⟩,IV,by rw[p2,E6]⟩
      by_cases Ah:k=i
      ·subst Ah
       rw[List.getElem?_set_self ko,Option.some.injEq] at hm
       subst hm
       have EZ:r=rows.getD k []:=by
        rw[cA (d:=[]) hi,Option.some.injEq] at hk
        exact hk.symm
       subst EZ
       simp only[hF,if_true]
       rw[jM]
       exact I3
      ·rw[List.getElem?_set_ne (Ne.symm Ah)] at hm
       simp only[hF,Ah,if_false]
       exact da.2 k r m hk hm
     ·rw[p2] at hb
      exact bu b (An b (Ai b hb))
    ·rw[e3 j mj gx] at hj
     refine .inl ⟨mj,hj,by simp [β',az,gx],p3 j mj gx,fun k hk e=>(bM.obj j oj hj).2 k hk (e ▸ bD),fun _ _=>rfl⟩
  ·have kinds:∀j oj,h' j=some oj→∀b∈φ' j,(j=nid∧b∈v.ownBlock.toList)∨(j=id∧b∈(β.val id).ownBlock.toList++(aS.set i []).flatten)∨(j≠nid∧j≠id∧st.obj j=some oj∧b∈φ j):=by
    intro j oj hj b hb
    by_cases mj:j=nid
    ·subst mj
     rw[p1] at hb
     exact .inl ⟨rfl,hb⟩
    ·by_cases gx:j=id
     ·subst gx
      rw[p2] at hb
      exact .inr (.inl ⟨rfl,hb⟩)
     ·rw[p3 j mj gx] at hb
      rw[e3 j mj gx] at hj
      exact .inr (.inr ⟨mj,gx,hj,hb⟩)
   intro j k oj ok Ku hj hk b hb ax
   rcases kinds j oj hj b hb with ⟨rfl,x1⟩ | ⟨rfl,x1⟩ | ⟨x0,LX,x1,x2⟩<;>rcases kinds k ok hk b ax with ⟨rfl,y1⟩ | ⟨rfl,y1⟩ | ⟨y0,LY,y1,y2⟩
   ·exact Ku rfl
   ·exact Dh b x1 y1
   ·exact hc.sep id k _ ok (Ne.symm LY) aK y1 b (An b (List.mem_append_right _ (jK b x1))) y2
   ·exact Dh b y1 x1
   ·exact Ku rfl
   ·exact hc.sep _ k _ ok (Ne.symm LY) aK y1 b (An b (Ai b x1)) y2
   ·exact hc.sep id j _ oj (Ne.symm LX) aK x1 b (An b (List.mem_append_right _ (jK b y1))) x2
   ·exact hc.sep _ j _ oj (Ne.symm LX) aK x1 b (An b (Ai b y1)) x2
   ·exact hc.sep j k oj ok Ku x1 y1 b x2 y2
 exact⟨_,v,β',φ',(ab.length _ _ _ _ _ eJ).1,fun j u hj=>aZ.cell hg (fU hj),hv,GL.one,I3,jM,BC⟩
theorem C6 (hR:Rel w0 S st a w) {d:Nat} (aL:o.dst=some d) (hd:ba st.n d) (bM:bw st d) {t:TypeId} {x:Operand} (ho:o.op= .load t x) {id i off:Nat} {t' t1:TypeId} {ct e':List CT} {rows:List (List DC)} {td:TypeDesc}
  (h1:(b_ x).val st.get st.obj=some (.d9 id i ct.length off)) (aK:st.obj id=some (.deep t' ct [t1] rows none)) (ja:ct[off]? =some (.sl e')) (Cu:aB ct=1) (ha:bg P t=false) (hu:P.underlying t=some td) (hi:i<rows.length)
  (fj:e.sv= .own (ag d 0)) (jF:e.cw=none) (how:e.ow=[(ag d 0,some (.row t1 e' ((rows.getD i []).getD off default).cl false true)),(id,some (.deep t' ct [t1] rows (some (i,ag d 0))))]):Good P w0 S st o e a w:=by
 obtain⟨β,φ,hc⟩:=hR.core
 have hx:=hc.ev h1
 simp only[ak] at hx
 obtain⟨g,hg,hx⟩:=hx
 obtain⟨us,v,β',φ',_,hcell,hv,bb,_,jM,BC⟩:=Ay hR bM hc hg aK ja Cu hi
 have hcell:=hcell _ _ hv
 refine bJ hR (fun d' h'=>by rw[aL] at h';injection h' with h';exact h' ▸ hd) (v:=v) (w':=w) ?_ hR.kept ⟨β',φ', ?_, ?_⟩
 ·simp [execOp,ho,hx,dV ha hu hcell]
 ·rw[how,jF]
  exact BC
 ·rw[fj]
  unfold ak
  exact⟨jM.symm,bb⟩
theorem ab.outs {w:World} {av:Nat→Prop} {β:Env} {v0:Value} {nid:Nat} (GP:β.val nid=v0):
  ∀(cs:List CT) (ts:List TypeId) (r:List DC) (us:List Value) (m:List Nat) (pre:List DC),ab w (some v0) cs ts r us m→
  af w av β (cQ nid cs (pre++r) pre.length) us∧∀x∈us,x.oneCell'=true
 | [],_,_,_,_,_,h=>by
  simp only[ab] at h
  obtain⟨_,_,rfl,_⟩:=h
  simp [cQ,af]
 | c::cs,_,_,_,_,pre,h=>by
  rcases cV c with ⟨e,rfl⟩ | hf
  ·simp only[ab] at h
   obtain⟨t,dJ,rows,aX,v,aM,m1,ga,rfl,rfl,rfl,_,h5,h6,rfl⟩:=h
   obtain⟨rfl,h8,_⟩:=h5
   obtain⟨q1,q2⟩:=ab.outs GP cs _ _ _ _ (pre++[.sl rows]) h6
   have hl:(pre++[DC.sl rows]).length=pre.length+1:=by simp
   rw[hl,List.append_assoc] at q1
   refine⟨?_, ?_⟩
   ·simp only[cQ,af]
    exact⟨v,aM,rfl,by simp only[ak];exact⟨GP.symm,h8⟩,q1⟩
   ·intro x hx
    rcases List.mem_cons.1 hx with rfl | hx
    ·exact h8
    ·exact q2 x hx
  ·rw[ab.flat hf] at h
   obtain⟨d,aX,v,aM,rfl,rfl,h3,h4⟩:=h
   obtain⟨q1,q2⟩:=ab.outs GP cs _ _ _ _ (pre++[d]) h4
   have hl:(pre++[d]).length=pre.length+1:=by simp
   rw[hl,List.append_assoc] at q1
   have hd:(pre++d::aX).getD pre.length default=d:=by simp
   have fj:ak w av β (gf c ((pre++d::aX).getD pre.length default)) v:=by rw[hd];exact dc h3 (by simp)
   refine⟨?_, ?_⟩
   ·cases c with
    | sl e=>simp [aq] at hf
    | int x=>simp only[cQ,af];exact⟨v,aM,rfl,fj,q1⟩
    | bool=>simp only[cQ,af];exact⟨v,aM,rfl,fj,q1⟩
    | str=>simp only[cQ,af];exact⟨v,aM,rfl,fj,q1⟩
   ·intro x hx
    rcases List.mem_cons.1 hx with rfl | hx
    ·exact h3.one
    ·exact q2 x hx
theorem ij (nid:Nat):∀(cs:List CT) (ds:List DC) (k n m:Nat),((cQ nid cs ds k).drop n).take m=cQ nid ((cs.drop n).take m) ds (k+n)
 | [],ds,k,n,m=>by simp [cQ]
 | c::cs,ds,k,0,0=>by simp [cQ]
 | c::cs,ds,k,0,m+1=>by
  have:=ij nid cs ds (k+1) 0 m
  simp only[List.drop_zero,Nat.add_zero] at this ⊢
  cases c<;>simp only[cQ,List.take_succ_cons,this]
 | c::cs,ds,k,n+1,m=>by
  have:=ij nid cs ds (k+1) n m
  have e:k+(n+1)=k+1+n:=by omega
  rw[e]
  cases c<;>simp only[cQ,List.drop_succ_cons,this]
theorem af.part {w:World} {av:Nat→Prop} {β:Env} :∀(ss:List SV) (us:List Value) (n m:Nat),af w av β ss us→af w av β ((ss.drop n).take m) ((us.drop n).take m)
 | [],us,n,m,h=>by simp only[af] at h;subst h;simp [af]
 | s::ss,us,n,m,h=>by
  have h0:=h
  simp only[af] at h
  obtain⟨v,l',rfl,h1,h2⟩:=h
  cases n with
  | zero=>
   cases m with
   | zero=>simp [af]
   | succ m=>
    have:=af.part ss l' 0 m h2
    simp only[List.drop_zero,List.take_succ_cons,af] at this ⊢
    exact⟨v,_,rfl,h1,this⟩
  | succ n=>simpa only[List.drop_succ_cons] using af.part ss l' n m h2
theorem B7 (hR:Rel w0 S st a w) {d:Nat} (aL:o.dst=some d) (hd:ba st.n d) (bM:bw st d) {t:TypeId} {x:Operand} (ho:o.op= .load t x) {id i off:Nat} {t' t1:TypeId} {ct e':List CT} {rows:List (List DC)} {j:TypeInfo}
  (h1:(b_ x).val st.get st.obj=some (.d9 id i ct.length off)) (aK:st.obj id=some (.deep t' ct [t1] rows none)) (ja:ct[iM ct]? =some (.sl e')) (Cu:aB ct=1) (ha:bg P t=true) (hj:P.info? t=some j) (hle:off+j.size≤ct.length) (hi:i<rows.length)
  (fj:e.sv= .agg (cQ (ag d 0) ((ct.drop off).take j.size) (rows.getD i []) off)) (jF:e.cw=none) (how:e.ow=[(ag d 0,some (.row t1 e' ((rows.getD i []).getD (iM ct) default).cl false true)),(id,some (.deep t' ct [t1] rows (some (i,ag d 0))))]):Good P w0 S st o e a w:=by
 obtain⟨β,φ,hc⟩:=hR.core
 have hx:=hc.ev h1
 simp only[ak] at hx
 obtain⟨g,hg,hx⟩:=hx
 obtain⟨us,v,β',φ',CF,hcell,_,_,hH,jM,BC⟩:=Ay hR bM hc hg aK ja Cu hi
 obtain⟨q1,q2⟩:=ab.outs (w:=w) (av:=Av (az (az st.obj id (some (.deep t' ct [t1] rows (some (i,ag d 0))))) (ag d 0) (some (.row t1 e' ((rows.getD i []).getD (iM ct) default).cl false true))) β') jM ct [t1] (rows.getD i []) us [] [] hH
 have q3:=af.part _ _ off j.size q1
 simp only[List.nil_append,List.length_nil] at q3
 rw[ij,Nat.zero_add] at q3
 have hlen:((us.drop off).take j.size).length=j.size:=by rw[List.length_take,List.length_drop];omega
 refine bJ hR (fun d' h'=>by rw[aL] at h';injection h' with h';exact h' ▸ hd) (v:= .agg ((us.drop off).take j.size).toArray) (w':=w) ?_ hR.kept ⟨β',φ', ?_, ?_⟩
 ·have:∀k u,((us.drop off).take j.size)[k]? =some u→w.cell? ⟨g,(i*ct.length+off)+k,none⟩=some u:=fun k u hk=>by
   rw[Nat.add_assoc]
   refine hcell _ _ ?_
   rw[List.getElem?_take] at hk
   split at hk
   ·simpa using hk
   ·cases hk
  simp [execOp,ho,hx,dU ha hj hlen this]
 ·rw[how,jF]
  exact BC
 ·rw[fj]
  simp only[ak]
  refine⟨_,rfl, ?_,fun x hx=>q2 x (List.mem_of_mem_drop (List.mem_of_mem_take hx))⟩
  rw[how,jF]
  exact q3
end
end Go.Proofs.YtoaflbnkiobhdaaGreat.Vm
set_option linter.unusedVariables false
set_option linter.unusedSimpArgs false
namespace Go.Proofs.YtoaflbnkiobhdaaGreat.Vm
section
variable {P:Program} {Γ:Ctx} {w0:World} {S:Own} {st:St} {o:Oper} {e:cG} {a:Act} {w w':World}
variable {f:Nat→SV} {h:Nat→Option aj} {β:Env} {φ:Nat→List Nat} {tm:Array Value}
theorem ab.Gm {hv:Option Value} {pre part suf:List CT} {ts:List TypeId} {r ds:List DC} {us nu:List Value} {m:List Nat} (h:ab w hv (pre++(part++suf)) ts r us m) (hf:aq part=true) (hn:ab w hv part [] ds nu []):
  ab w hv (pre++(part++suf)) ts (bQ r pre.length ds) (us.take pre.length++(nu++us.drop (pre.length+nu.length))) m:=by
 obtain⟨Gn,HX,m1,m2,rfl,rfl,k1,k2⟩:=ab.split _ _ _ _ _ _ h
 obtain⟨MO,MP,m3,m4,rfl,rfl,k3,k4⟩:=ab.split _ _ _ _ _ _ k2
 obtain⟨rfl,rfl,_⟩:=ab.toFlat _ _ _ _ _ hf k3
 obtain⟨l1,l2⟩:=ab.length _ _ _ _ _ hn
 rw[List.drop_drop,List.drop_drop] at k4
 have:=ab.join _ _ _ _ _ _ _ _ _ _ k1 (ab.join _ _ _ _ _ _ _ _ _ _ hn k4)
 simpa only[bQ,l1,l2] using this
theorem ab.Gl {hv:Option Value} {pre part suf:List CT} {ts dJ:List TypeId} {r ds:List DC} {us nu:List Value} {m m':List Nat} (h:ab w hv (pre++(part++suf)) ts r us m) (hf:aB part=aB (pre++(part++suf))) (hn:ab w none part dJ ds nu m'):
  ab w none (pre++(part++suf)) dJ (bQ r pre.length ds) (us.take pre.length++(nu++us.drop (pre.length+nu.length))) m':=by
 rw[dW,dW] at hf
 have f1:aq pre=true:=dY (by omega)
 have f2:aq suf=true:=dY (by omega)
 obtain⟨Gn,HX,m1,m2,rfl,rfl,k1,k2⟩:=ab.split _ _ _ _ _ _ h
 obtain⟨MO,MP,m3,m4,rfl,rfl,k3,k4⟩:=ab.split _ _ _ _ _ _ k2
 obtain⟨rfl,rfl,_⟩:=ab.toFlat _ _ _ _ _ f1 k1
 obtain⟨rfl,rfl,_⟩:=ab.toFlat _ _ _ _ _ f2 k4
 obtain⟨l1,l2⟩:=ab.length _ _ _ _ _ hn
 rw[List.drop_drop,List.drop_drop] at k4
 have:=ab.join _ _ _ _ _ _ _ _ _ _ (ab.A9 (hv':=none) f1 k1) (ab.join _ _ _ _ _ _ _ _ _ _ hn (ab.A9 (hv':=none) f2 k4))
 simpa only[bQ,l1,l2,List.nil_append,List.append_nil] using this
theorem df.cells:∀(cs:List CT) (ts:List TypeId) (ds:List DC) (us:List Value) (mb:List Nat),df w cs ts ds us mb→ab w none cs ts ds us mb
 | [],_,_,_,_,h=>by simpa only[df,ab] using h
 | .sl e::cs,_,_,_,_,h=>by
  simp only[df] at h
  obtain⟨t,dJ,rows,aX,v,aM,vals,aA,ga,rfl,rfl,rfl,h4,h5,h6,h7,rfl⟩:=h
  simp only[ab]
  exact⟨t,dJ,rows,aX,v,aM,_,ga,rfl,rfl,rfl,h4,⟨vals,aA,h5,h6,rfl⟩,df.cells cs _ _ _ _ h7,rfl⟩
 | .int k::cs,_,_,_,_,h=>by
  simp only[df] at h
  obtain⟨d,aX,v,aM,rfl,rfl,h3,h4⟩:=h
  simp only[ab]
  exact⟨d,aX,v,aM,rfl,rfl,h3,df.cells cs _ _ _ _ h4⟩
 | .bool::cs,_,_,_,_,h=>by
  simp only[df] at h
  obtain⟨d,aX,v,aM,rfl,rfl,h3,h4⟩:=h
  simp only[ab]
  exact⟨d,aX,v,aM,rfl,rfl,h3,df.cells cs _ _ _ _ h4⟩
 | .str::cs,_,_,_,_,h=>by
  simp only[df] at h
  obtain⟨d,aX,v,aM,rfl,rfl,h3,h4⟩:=h
  simp only[ab]
  exact⟨d,aX,v,aM,rfl,rfl,h3,df.cells cs _ _ _ _ h4⟩
theorem three (ct:List CT) (off n:Nat):ct.take off++((ct.drop off).take n++ct.drop (off+n))=ct:=by
 rw[←List.drop_drop,List.take_append_drop,List.take_append_drop]
theorem Ax {t t':TypeId} {x y:Operand} (ho:o.op= .store t x y) {g i off:Nat} {ct:List CT} {n cap:Nat} {cur:Array Value} (hx:a.eval x= .pointer (some ⟨g,i*ct.length+off,none⟩)) {ti:TypeInfo} (F6:P.info? t=some ti) (br:ti.size=(a.eval y).cells.size)
  (bb:∀v∈(a.eval y).cells.toList,v.oneCell'=true) (hh:w.heap[g]? =some (.cells cur t' (0,0))) (hi:i<n) (AW:n≤cap) (fC:cur.size=cap*ct.length) (dP:off+(a.eval y).cells.toList.length≤ct.length):
  (execOp a.eval o).run P w= .ok .skip (w.setRow g (cur.toList.take (i*ct.length+off)++((a.eval y).cells.toList++cur.toList.drop (i*ct.length+off+(a.eval y).cells.toList.length))).toArray):=by
 have hlen:i*ct.length+ct.length≤n*ct.length:=by rw[←Nat.succ_mul];exact Nat.mul_le_mul_right _ hi
 have BI:n*ct.length≤cap*ct.length:=Nat.mul_le_mul_right _ AW
 have bp:=bO P g (i*ct.length+off) t' (0,0) (a.eval y).cells.toList 0 cur w hh (fun j _ h=>by simp at h) (by omega) bb
 simp only[Nat.add_zero] at bp
 have:=ir (P:=P) (t:=t) (b:=g) (off:=i*ct.length+off) (x:=a.eval y) F6 br bp
 simp [execOp,ho,hx,this]
theorem ch.written {t:TypeId} {el i off n:Nat} {v:Value} {vals nu:List Value} (aZ:ch w t el false v n vals) {g:Nat} (hg:v.ownBlock=some g) (hi:i<n) (dP:off+nu.length≤el) {cap:Nat} {cur:Array Value} (hh:w.heap[g]? =some (.cells cur t (0,0))) (fC:cur.size=cap*el) (AW:n≤cap):
  ch (w.setRow g (cur.toList.take (i*el+off)++(nu++cur.toList.drop (i*el+off+nu.length))).toArray) t el false v n (vals.take (i*el+off)++(nu++vals.drop (i*el+off+nu.length))):=by
 have hlen:i*el+el≤n*el:=by rw[←Nat.succ_mul];exact Nat.mul_le_mul_right _ hi
 have BI:n*el≤cap*el:=Nat.mul_le_mul_right _ AW
 have mh:(cur.toList.take (i*el+off)++(nu++cur.toList.drop (i*el+off+nu.length))).length=cur.size:=by
  simp only[List.length_append,List.length_take,List.length_drop,Array.length_toList]
  omega
 rcases aZ.2 with ⟨hv,h0,_⟩ | ⟨g',Ib,L0,hv,Ko,KI,D2,mg,E5⟩
 ·omega
 have Hp:g'=g:=by simpa [hv,Value.ownBlock] using hg
 subst Hp
 rw[hh] at Ko
 simp only[cond_false,Option.some.injEq,Obj.cells.injEq] at Ko
 obtain⟨rfl,_⟩:=Ko
 refine⟨?_,.inr ⟨g',Ib,(cur.toList.take (i*el+off)++(nu++cur.toList.drop (i*el+off+nu.length))).toArray,hv, ?_,KI,D2,by simpa [mh] using mg, ?_⟩⟩
 ·have:=aZ.1
  simp only[List.length_append,List.length_take,List.length_drop]
  omega
 ·rw[setRow_heap w _ _ _ _ _ hh]
  simp
 ·simp only
  rw[iv _ _ _ _ (by omega) (by simp only[Array.length_toList];omega),E5]
theorem Be (hR:Rel w0 S st a w) (hd:∀d,o.dst=some d→ba st.n d) {t t':TypeId} {x y:Operand} (ho:o.op= .store t x y) {id i off:Nat} {sy:SV} {bL:List SV} {ct:List CT} {ts:List TypeId} {rows:List (List DC)} {hl:Option (Nat×Nat)} {r:List DC×eZ×Bool}
  (h1:(b_ x).val st.get st.obj=some (.d9 id i ct.length off)) (h2:(b_ y).val st.get st.obj=some sy) (fC:(aD sy).val st.get st.obj=some bL) (dx:aY P t bL.length=true)
  (aK:st.obj id=some (.deep t' ct ts rows hl)) (dP:off+bL.length≤ct.length) (hf:aq ((ct.drop off).take bL.length)=true) (hr:(cb ((ct.drop off).take bL.length) bL).val st.get st.obj=some r)
  (hi:i<rows.length) (jF:e.cw=none) (BM:e.sv= .undef) (how:e.ow=[(id,some (.deep t' ct ts (rows.set i (bQ (rows.getD i []) off r.1)) hl))]):Good P w0 S st o e a w:=by
 obtain⟨ti,F6,br⟩:=aW dx
 obtain⟨β,φ,hc⟩:=hR.core
 have hx:=hc.ev h1
 simp only[ak] at hx
 obtain⟨g,hg,hx⟩:=hx
 obtain⟨fj,bb⟩:=dM (hc.ev h2) fC
 have j9:=af.length _ _ fj
 have mP:(a.eval y).cells.size=bL.length:=by simpa using j9
 obtain⟨fp,j_,_,_,_⟩:=dZ hc _ _ _ r fj hr
 obtain⟨vals,aS,aZ,da,jn,ky⟩:=hc.ay id _ aK
 have kS:g∈al β id (.deep t' ct ts rows hl):=by simp [al,hg]
 rcases aZ.2 with ⟨hv,h0,_⟩ | ⟨g',cap,cur,hv,hh,AW,D2,mg,E5⟩
 ·omega
 have Hp:g'=g:=by simpa [hv,Value.ownBlock] using hg
 subst Hp
 simp only[cond_false] at hh
 have CF:(a.eval y).cells.toList.length=bL.length:=by simpa using mP
 have bp:=Ax (P:=P) ho hx F6 (br.trans mP.symm) bb hh hi AW mg (by rw[CF];exact dP)
 have H6:=aZ.written (off:=off) (nu:=(a.eval y).cells.toList) hg hi (by rw[CF];exact dP) hh mg AW
 generalize (a.eval y).cells.toList=nu at*
 rw[←CF] at dP hf j_ hr
 have ko:i<aS.length:=by rw[da.1];exact hi
 have eJ:=da.2 i (rows.getD i []) aS[i] (cA hi) (by simp)
 have GG:(ct.take off).length=off:=by simp;omega
 have IJ:((ct.drop off).take nu.length).length=nu.length:=by simp;omega
 have bD:=ab.Gm (pre:=ct.take off) (part:=(ct.drop off).take nu.length) (suf:=ct.drop (off+nu.length)) (by rw[three];exact eJ) hf (ab.CO _ _ _ _ hf j_ IJ.symm)
 rw[three,GG] at bD
 have bu:=hc.fresh id _ aK
 have hnd:=bu.1
 rw[ky] at hnd
 have JR:∀b∈aS.flatten,b≠g':=by
  intro b hb e
  subst e
  rw[List.nodup_append] at hnd
  exact hnd.2.2 b (by simp [hg]) b hb rfl
 have kq:∀j m',aS[j]? =some m'→∀b∈m',b∈aS.flatten:=fun j m' hj b hb=>List.mem_flatten.2 ⟨m',List.mem_of_getElem? hj,hb⟩
 have Mw:aS.set i aS[i]=aS:=List.set_getElem_self ..
 have mi:=da.set (w':=w.setRow g' (cur.toList.take (i*ct.length+off)++(nu++cur.toList.drop (i*ct.length+off+nu.length))).toArray) (hv':=hF β hl) (by simp) aZ.1 hi dP
  (fun j _ m' hj b hb=>setRow_other w g' b _ (JR b (kq j m' hj b hb))) (fun _ _=>rfl)
  (ab.mono (by simp) _ _ _ _ _ bD (fun b hb=>setRow_other w g' b _ (JR b (kq i aS[i] (by simp) b hb))))
 rw[Mw] at mi
 have Aj:∀b∈al β id (.deep t' ct ts (rows.set i (bQ (rows.getD i []) off r.1)) hl),b∈al β id (.deep t' ct ts rows hl):=fun b hb=>hb
 refine iA hR hd bp (hR.kept.setRow (bu.2 g' (ah (hc.ay id _ aK) g' kS)).1 _) ⟨β,az φ id ((β.val id).ownBlock.toList++aS.flatten), ?_,by rw[BM];simp [ak]⟩
 rw[how,jF]
 show Core w0 S st.get (az st.obj id (some (.deep t' ct ts (rows.set i (bQ (rows.getD i []) off r.1)) hl))) _ _ _ _
 refine hc.rewrite aK kS Aj ?_ hnd ?_
 ·exact⟨_,aS,by simpa using H6,mi,jn,rfl⟩
 ·intro b hb
  have ax:b∈φ id:=by rw[ky];exact hb
  exact⟨bu.2 b ax,fun j oj hj i_=>hc.sep id j _ _ (Ne.symm hj) aK i_ b ax⟩
theorem AO:∀(U:List MU) (h:Nat→Option aj) (j:Nat),fo (eu U) h j=if j∈bn U then none else h j
 | [],h,j=>by simp [eu,bn,fo]
 | x::l,h,j=>by
  have ih:=AO l h j
  cases x<;>simp only[eu,bn,fo,az]<;>first | exact ih | (by_cases hj:j=_<;>simp [hj,ih]<;>done) | skip
  all_goals
   simp only[List.mem_cons,ih]
   split<;>rename_i hj
   ·simp [hj]
   ·simp [hj]
theorem Bd (hR:Rel w0 S st a w) (hd:∀d,o.dst=some d→ba st.n d) {t t':TypeId} {x y:Operand} (ho:o.op= .store t x y) {id i off:Nat} {sy:SV} {bL:List SV} {ct:List CT} {ts:List TypeId} {rows:List (List DC)} {hl:Option (Nat×Nat)} {r:List DC×List MU}
  (h1:(b_ x).val st.get st.obj=some (.d9 id i ct.length off)) (h2:(b_ y).val st.get st.obj=some sy) (fC:(aD sy).val st.get st.obj=some bL) (dx:aY P t bL.length=true)
  (aK:st.obj id=some (.deep t' ct ts rows hl)) (dP:off+bL.length≤ct.length) (hf:aB ((ct.drop off).take bL.length)=aB ct) (hr:(aU ((ct.drop off).take bL.length) ts bL).val st.get st.obj=some r)
  (Je:cY (id::bn r.2)=true) (hi:i<rows.length) (IB:CD hl i=true) (jF:e.cw=none) (BM:e.sv= .undef) (how:e.ow=(id,some (.deep t' ct ts (rows.set i (bQ (rows.getD i []) off r.1)) none))::eu r.2):Good P w0 S st o e a w:=by
 obtain⟨ti,F6,br⟩:=aW dx
 obtain⟨β,φ,hc⟩:=hR.core
 have hx:=hc.ev h1
 simp only[ak] at hx
 obtain⟨g,hg,hx⟩:=hx
 obtain⟨fj,bb⟩:=dM (hc.ev h2) fC
 have j9:=af.length _ _ fj
 have mP:(a.eval y).cells.size=bL.length:=by simpa using j9
 obtain⟨kT,Ci⟩:=c_ hc _ _ _ _ r fj hr
 have IW:=df.cells _ _ _ _ _ kT
 obtain⟨mS,Lc⟩:=cZ Je
 have Bo:=dS hc Ci Lc
 have JO:∀b∈r.2.flatMap (aC β),∃k∈bn r.2,∃ob,st.obj k=some ob∧b∈al β k ob:=dk Ci
 obtain⟨vals,aS,aZ,da,jn,ky⟩:=hc.ay id _ aK
 have kS:g∈al β id (.deep t' ct ts rows hl):=by simp [al,hg]
 rcases aZ.2 with ⟨hv,h0,_⟩ | ⟨g',cap,cur,hv,hh,AW,D2,mg,E5⟩
 ·omega
 have Hp:g'=g:=by simpa [hv,Value.ownBlock] using hg
 subst Hp
 simp only[cond_false] at hh
 have CF:(a.eval y).cells.toList.length=bL.length:=by simpa using mP
 have bp:=Ax (P:=P) ho hx F6 (br.trans mP.symm) bb hh hi AW mg (by rw[CF];exact dP)
 have H6:=aZ.written (off:=off) (nu:=(a.eval y).cells.toList) hg hi (by rw[CF];exact dP) hh mg AW
 generalize (a.eval y).cells.toList=nu at*
 rw[←CF] at dP hf IW hr
 have ko:i<aS.length:=by rw[da.1];exact hi
 have eJ:=da.2 i (rows.getD i []) aS[i] (cA hi) (by simp)
 have GG:(ct.take off).length=off:=by simp;omega
 have bD:=ab.Gl (pre:=ct.take off) (part:=(ct.drop off).take nu.length) (suf:=ct.drop (off+nu.length)) (by rw[three];exact eJ) (by rw[three];exact hf) IW
 rw[three,GG] at bD
 have bu:=hc.fresh id _ aK
 have hnd:=bu.1
 rw[ky] at hnd
 have Cx:g'∈φ id:=ah (hc.ay id _ aK) g' kS
 have JR:∀b∈aS.flatten,b≠g':=by
  intro b hb e
  subst e
  rw[List.nodup_append] at hnd
  exact hnd.2.2 b (by simp [hg]) b hb rfl
 have F2:∀b∈r.2.flatMap (aC β),b ∉ φ id:=by
  intro b hb iB
  obtain⟨k,hk,ob,II,Af⟩:=JO b hb
  exact hc.sep k id ob _ (fun e=>mS (e ▸ hk)) II aK b (ah (hc.ay k ob II) b Af) iB
 have KJ:∀b∈r.2.flatMap (aC β),b≠g':=fun b hb e=>F2 b hb (e ▸ Cx)
 have kq:∀j m',aS[j]? =some m'→∀b∈m',b∈aS.flatten:=fun j m' hj b hb=>List.mem_flatten.2 ⟨m',List.mem_of_getElem? hj,hb⟩
 have Kp:∀j,j≠i→(none:Option Value)=hF β hl j:=by
  intro j hj
  cases hl with
  | none=>rfl
  | some q=>
   obtain⟨k,nid⟩:=q
   have:=Nat.eq_of_beq_eq_true IB
   subst this
   simp [hF,hj]
 have mi:=da.set (w':=w.setRow g' (cur.toList.take (i*ct.length+off)++(nu++cur.toList.drop (i*ct.length+off+nu.length))).toArray) (hv':=fun _=>none) (by simp) aZ.1 hi dP
  (fun j _ m' hj b hb=>setRow_other w g' b _ (JR b (kq j m' hj b hb))) Kp
  (ab.mono (by simp) _ _ _ _ _ bD (fun b hb=>setRow_other w g' b _ (KJ b hb)))
 have EX:((β.val id).ownBlock.toList++(aS.set i (r.2.flatMap (aC β))).flatten).Nodup:=by
  rw[bT ko]
  have h3:=hnd
  rw[bs ko] at h3
  have h4:=gE (A:=(β.val id).ownBlock.toList++(aS.take i).flatten) (p1:=[]) (p2:=aS[i]) (p3:=[]) (B:=(aS.drop (i+1)).flatten) (n:=r.2.flatMap (aC β)) (by simpa using h3) Bo
   (fun b hb iB=>F2 b hb (by rw[ky,bs ko];simpa using iB))
  simpa using h4
 refine iA hR hd bp (hR.kept.setRow (bu.2 g' Cx).1 _) ⟨β.fy id (aS.set i (r.2.flatMap (aC β))).flatten,az φ id ((β.val id).ownBlock.toList++(aS.set i (r.2.flatMap (aC β))).flatten), ?_,by rw[BM];simp [ak]⟩
 rw[how,jF]
 refine hc.Dv (t:=t') (ct:=ct) (ts:=ts) (rows:=rows.set i (bQ (rows.getD i []) off r.1)) (hl:=none) (G:=fun k=>k∈bn r.2) aK (fun k hk e=>mS (e ▸ hk)) (by simp [fo,az,fc]) (fun j hj x hx=> ?_) (by simp) (fun b hb iB=>setRow_other w g' b _ (fun e=>iB (by rw[e,hg];simp))) (fun b hb=>by simp only[al];exact List.mem_append_left _ hb) (fun b hb=> ?_) ?_ EX
 ·simp only[fo,az,hj,if_false,fc] at hx
  rw[AO] at hx
  split at hx
  ·cases hx
  ·rename_i hk
   exact⟨hx,hk⟩
 ·rw[bT ko] at hb
  simp only[List.mem_append] at hb
  rcases hb with hb | hb | hb
  ·left
   simp only[al,jn]
   rw[bs ko]
   simp [hb]
  ·right
   obtain⟨k,hk,ob,h3,h4⟩:=JO b hb
   exact⟨k,ob,hk,h3,h4⟩
  ·left
   simp only[al,jn]
   rw[bs ko]
   simp [hb]
 ·exact⟨_,_,by simpa [Env.fy] using H6,mi,by simp [Env.fy,az],by simp [Env.fy]⟩
theorem mZ (hR:Rel w0 S st a w) {d:Nat} (aL:o.dst=some d) (hd:ba st.n d) (bM:bw st d) {t:TypeId} {ct:List CT} {ts:List TypeId} {rows:List (List DC)} {w':World} {v:Value}
  (bp:(execOp a.eval o).run P w= .ok (.value v) w') (hk:Kept S w0 w') (hs:w.heap.size≤w'.heap.size) (hw:∀b,b<w.heap.size→w'.heap[b]? =w.heap[b]?)
  (hB:∀b∈v.ownBlock.toList,b=w.heap.size) {vals:List Value} (aZ:ch w' t ct.length false v rows.length vals)
  (da:bH w' ct ts rows vals (fun _=>none) (List.replicate rows.length []))
  (fj:e.sv= .own (ag d 0)) (jF:e.cw=none) (how:e.ow=[(ag d 0,some (.deep t ct ts rows none))]):Good P w0 S st o e a w:=by
 obtain⟨β,φ,hc⟩:=hR.core
 have bD:ag d 0 / 64=d:=cL d 0 (by omega)
 have hle:=hR.kept.size
 have BF:(List.replicate rows.length ([]:List Nat)).flatten=[]:=by simp
 have hval:(β.gi (ag d 0) v []).val (ag d 0)=v:=by simp [Env.gi,az]
 have EW:(β.gi (ag d 0) v []).nb (ag d 0)=[]:=by simp [Env.gi,az]
 have F8:v.ownBlock.toList.Nodup:=by cases v.ownBlock<;>simp
 refine bJ hR (fun d' h'=>by rw[aL] at h';injection h' with h';exact h' ▸ hd) bp hk
  ⟨β.gi (ag d 0) v [],az φ (ag d 0) v.ownBlock.toList, ?_, ?_⟩
 ·rw[how,jF]
  refine hc.create hs hw (fun i hi=>bM.slot i _ hi bD) (fun j ob hj hi=>(bM.obj j ob hj).2 _ hi bD) ?_ (fun j hj=>⟨by simp [Env.gi,az,hj],rfl⟩) ?_ ?_ F8 ?_ rfl (fun j hj=>by simp [Env.gi,az,hj])
  ·cases hn:st.obj (ag d 0) with
   | none=>rfl
   | some ob=>exact absurd bD (bM.obj _ ob hn).1
  ·intro b hb
   simp only[al,hval,EW,List.append_nil] at hb
   rw[hB b hb]
   exact Nat.le_refl _
  ·exact⟨vals,List.replicate rows.length [],by rw[hval];exact aZ,da,by rw[EW,BF],by rw[hval,BF,List.append_nil]⟩
  ·intro b hb
   have h1:=hB b hb
   subst h1
   refine⟨⟨.inl hle,aZ.lt _ hb⟩,fun j ob hj bo=> ?_⟩
   have:=((hc.fresh j ob hj).2 _ bo).2
   omega
 ·rw[fj]
  unfold ak
  exact⟨hval.symm,aZ.one⟩
theorem iV {α:Type} (z:List α):∀(n k:Nat),k<n→(((List.replicate n z).flatten).drop (k*z.length)).take z.length=z
 | 0,k,h=>by omega
 | n+1,0,_=>by simp [List.replicate_succ]
 | n+1,k+1,h=>by
  rw[List.replicate_succ,List.flatten_cons,Nat.succ_mul,Nat.add_comm,List.drop_append,List.drop_of_length_le (by omega),List.nil_append]
  rw[show z.length+k*z.length - z.length=k*z.length by omega]
  exact iV z n k (by omega)
theorem bH.replicate {ct:List CT} {ts:List TypeId} {r:List DC} {z:List Value} (h:ab w none ct ts r z []) (hl:z.length=ct.length) (n:Nat):bH w ct ts (List.replicate n r) (List.replicate n z).flatten (fun _=>none) (List.replicate n []):=by
 refine⟨by simp,fun i r' m hi hm=> ?_⟩
 have da:i<n:=by have:=(List.getElem?_eq_some_iff.1 hi).1;simpa using this
 rw[List.getElem?_replicate_of_lt da,Option.some.injEq] at hi hm
 subst hi hm
 rw[←hl,iV z n i da]
 exact h
theorem Ds:∀ {U:List MU},bn U=[]→U.flatMap (aC β)=[]
 | [],_=>rfl
 | x::l,h=>by
  cases x<;>simp [bn] at h
  simp [aC,Ds h]
theorem B5 (hR:Rel w0 S st a w) {d:Nat} (aL:o.dst=some d) (hd:ba st.n d) (bM:bw st d) {t et:TypeId} {l c:Operand} (ho:o.op= .makeSlice t l c) {n m:Int} {ct:List CT} {ts:List TypeId} {i:TypeInfo} {z:List SV} {r:List DC×List MU}
  (hl:(b_ l).val st.get st.obj=some (.int .i64 n)) (hm:(b_ c).val st.get st.obj=some (.int .i64 m)) (hu:P.underlying t=some (.slice et)) (hi:P.info? et=some i) (dx:i.size=ct.length)
  (hz:(dI P et).val st.get st.obj=some z) (hr:(aU ct ts z).val st.get st.obj=some r) (Ci:bn r.2=[])
  (he:e= {sv:= .own (ag d 0),ow:=[(ag d 0,some (.deep et ct ts (List.replicate n.toNat r.1) none))],ok:=decide (0≤n) && decide (n≤m) && decide (m.toNat*i.bytes≤140737488355328) && decide (m≤9223372036854775807)})
  (aJ:e.ok=true):Good P w0 S st o e a w:=by
 subst he
 simp only[Bool.and_eq_true,decide_eq_true_eq] at aJ
 obtain⟨⟨⟨h0,IZ⟩,Bj⟩,JP⟩:=aJ
 obtain⟨i',zv,dQ,mU,rfl,bb⟩:=dw hz
 rw[hi] at dQ
 injection dQ with dQ
 subst dQ
 obtain⟨Jx,Jy,Cf⟩:=hR.core
 obtain⟨kT,_⟩:=c_ Cf ct ts _ _ r (eN zv.cells.toList) hr
 have Bk:=df.cells _ _ _ _ _ kT
 rw[Ds Ci] at Bk
 have jN:zv.cells.toList.length=ct.length:=(ab.length _ _ _ _ _ Bk).1
 have ET:(madeCells zv.cells (m.toNat*i.size)).toList=(List.replicate m.toNat zv.cells.toList).flatten:=by
  have:=Dr zv.cells m.toNat
  rw[dx,←jN]
  simpa using this
 have hx:=Cf.ev hl
 have hy:=Cf.ev hm
 simp only[ak] at hx hy
 have hb:(i.bytes:Int)*m≤281474976710656:=by
  have h1:((m.toNat*i.bytes:Nat):Int)≤140737488355328:=by omega
  rw[Int.natCast_mul,Int.toNat_of_nonneg (by omega),Int.mul_comm] at h1
  omega
 have bp:=run_make (P:=P) w t et i zv hu hi mU .i64 .i64 n m h0 IZ hb JP
 refine mZ hR aL hd bM (vals:=(List.replicate n.toNat zv.cells.toList).flatten) (v:= .slice (some ⟨w.heap.size,0,none⟩) n.toNat m.toNat)
  (w':=w.alloc (.cells (madeCells zv.cells (m.toNat*i.size)) et)) ?_ (hR.kept.alloc _) (by rw[cj];omega) (fun b hb=>alloc_old _ b hb) (by simp [Value.ownBlock]) ?_ ?_ rfl rfl rfl
 ·simp [execOp,ho,hx.1,hy.1,bp]
 ·refine⟨by simp [jN],.inr ⟨w.heap.size,m.toNat,_,by simp,by simpa using ec _,by simp;omega,by simp only[maxLen];omega,by rw[size_madeCells,dx], ?_⟩⟩
  rw[ET]
  have:List.replicate m.toNat zv.cells.toList=List.replicate n.toNat zv.cells.toList++List.replicate (m.toNat - n.toNat) zv.cells.toList:=by
   rw[List.replicate_append_replicate]
   congr 1
   omega
  rw[this,List.flatten_append,List.take_append_of_le_length (by simp [jN]),List.take_of_length_le (by simp [jN])]
 ·rw[List.length_replicate]
  exact bH.replicate (ab.mono (by rw[cj];omega) _ _ _ _ _ Bk (by simp)) jN _
theorem DR (hc:Core w0 S f h β φ tm w) {id nid i:Nat} {t t1:TypeId} {ct e2:List CT} {rows r:List (List DC)} {u:Bool} {h':Nat→Option aj} (aK:h id=some (.deep t ct [t1] rows (some (i,nid)))) (hn:h nid=some (.row t1 e2 r false u)) (kt:∃e',ct[ea ct]? =some (.sl e')∧e'=e2) (Cu:aB ct=1)
  (cJ:nid≠id) (hf:aq e2=true) (hh:h' id=some (.deep t ct [t1] (rows.set i (bQ (rows.getD i []) (ea ct) [.sl r])) none)) (DJ:∀j,j≠id→h' j=if j=nid then none else h j):
  ∃β' φ',Core w0 S f h' β' φ' tm w:=by
 obtain⟨e',kt,rfl⟩:=kt
 obtain⟨vals,aS,aZ,da,jn,ky⟩:=hc.ay id _ aK
 obtain⟨Cd,mM,I6,jG,_,_⟩:=hc.ay nid _ hn
 have hnd:=(hc.fresh id _ aK).1
 rw[ky] at hnd
 have LG:al β nid (.row t1 e' r false u)=(β.val nid).ownBlock.toList:=rfl
 have F2:∀b∈(β.val nid).ownBlock.toList,b ∉ φ id:=fun b hb=>hc.sep nid id _ _ cJ hn aK b (ah (hc.ay nid _ hn) b (LG ▸ hb))
 have F8:(β.val nid).ownBlock.toList.Nodup:=by cases (β.val nid).ownBlock<;>simp
 have kq:∀b∈(aS.set i (β.val nid).ownBlock.toList).flatten,b∈aS.flatten∨b∈(β.val nid).ownBlock.toList:=by
  intro b hb
  by_cases hi:i<aS.length
  ·rw[bT hi] at hb
   rw[bs hi]
   simp only[List.mem_append] at hb ⊢
   rcases hb with hb | hb | hb<;>simp [hb]
  ·rw[List.set_eq_of_length_le (by omega)] at hb
   exact .inl hb
 have EX:((β.val id).ownBlock.toList++(aS.set i (β.val nid).ownBlock.toList).flatten).Nodup:=by
  by_cases hi:i<aS.length
  ·rw[bT hi]
   have h3:=hnd
   rw[bs hi] at h3
   have h4:=gE (A:=(β.val id).ownBlock.toList++(aS.take i).flatten) (p1:=[]) (p2:=aS[i]) (p3:=[]) (B:=(aS.drop (i+1)).flatten) (n:=(β.val nid).ownBlock.toList) (by simpa using h3) F8
    (fun b hb iB=>F2 b hb (by rw[ky,bs hi];simpa using iB))
   simpa using h4
  ·rw[List.set_eq_of_length_le (by omega)]
   exact hnd
 refine⟨β.fy id (aS.set i (β.val nid).ownBlock.toList).flatten,az φ id ((β.val id).ownBlock.toList++(aS.set i (β.val nid).ownBlock.toList).flatten), ?_⟩
 refine hc.Dv (t:=t) (ct:=ct) (ts:=[t1]) (rows:=rows.set i (bQ (rows.getD i []) (ea ct) [.sl r])) (hl:=none) (G:=fun k=>k=nid) aK (fun k hk e=>cJ (hk ▸ e)) hh (fun j hj x hx=> ?_) (Nat.le_refl _) (fun _ _ _=>rfl) (fun b hb=>by simp only[al];exact List.mem_append_left _ hb) (fun b hb=> ?_) ?_ EX
 ·rw[DJ j hj] at hx
  split at hx
  ·cases hx
  ·rename_i hk
   exact⟨hx,hk⟩
 ·rcases kq b hb with hb | hb
  ·left
   simp only[al,jn]
   exact List.mem_append_right _ hb
  ·exact .inr ⟨nid,_,rfl,hn,LG ▸ hb⟩
 ·refine⟨vals,aS.set i (β.val nid).ownBlock.toList,by simpa [Env.fy] using aZ,⟨by simp [da.1],fun k r' m hk hm=> ?_⟩,by simp [Env.fy,az],by simp [Env.fy]⟩
  by_cases Ah:k=i
  ·subst Ah
   have FG:k<rows.length:=by have:=(List.getElem?_eq_some_iff.1 hk).1;simpa using this
   have FY:k<aS.length:=by rw[da.1];exact FG
   rw[List.getElem?_set_self FG,Option.some.injEq] at hk
   rw[List.getElem?_set_self FY,Option.some.injEq] at hm
   subst hk hm
   have h3:=da.2 k (rows.getD k []) aS[k] (cA FG) (by simp)
   simp only[hF,if_true] at h3
   exact ab.back _ e' t1 _ _ aS[k] kt Cu h3 ⟨Cd,mM,I6,jG,rfl⟩
  ·rw[List.getElem?_set_ne (Ne.symm Ah)] at hk hm
   have:=da.2 k r' m hk hm
   simp only[hF,Ah,if_false] at this
   exact this
end
end Go.Proofs.YtoaflbnkiobhdaaGreat.Vm
set_option linter.unusedVariables false
set_option linter.unusedSimpArgs false
namespace Go.Proofs.YtoaflbnkiobhdaaGreat.Vm
section
variable {P:Program} {Γ:Ctx} {w0:World} {S:Own} {st:St} {o:Oper} {e:cG} {a:Act} {w w':World}
variable {f:Nat→SV} {h:Nat→Option aj} {β:Env} {φ:Nat→List Nat} {tm:Array Value}
theorem Core.compose (hc:Core w0 S f h β φ tm w) {id:Nat} {G:Nat→Prop} {h':Nat→Option aj} {v':Value} {t:TypeId} {ct:List CT} {ts:List TypeId} {rows:List (List DC)} {vals:List Value} {aS:List (List Nat)}
  (dr:∀i,id ∉ bU (f i)) (Cy:∀j x,h j=some x→id ∉ cC x) (LD:h id=none)
  (hh:h' id=some (.deep t ct ts rows none)) (DJ:∀j,j≠id→∀x,h' j=some x→h j=some x∧¬G j)
  (hs:w.heap.size≤w'.heap.size) (hk:w0.heap.size≤w.heap.size) (hw:∀b,b<w.heap.size→(∀k x,G k→h k=some x→b ∉ al β k x)→w'.heap[b]? =w.heap[b]?)
  (Mc:∀b∈v'.ownBlock.toList++aS.flatten,(∃k x,G k∧h k=some x∧b∈al β k x)∨(b=w.heap.size∧b<w'.heap.size))
  (aZ:ch w' t ct.length false v' rows.length vals) (da:bH w' ct ts rows vals (fun _=>none) aS) (hnd:(v'.ownBlock.toList++aS.flatten).Nodup):
  Core w0 S f h' (β.gi id v' aS.flatten) (az φ id (v'.ownBlock.toList++aS.flatten)) tm w':=by
 have hval:(β.gi id v' aS.flatten).val id=v':=by simp [Env.gi,az]
 have EW:(β.gi id v' aS.flatten).nb id=aS.flatten:=by simp [Env.gi,az]
 have jb:∀j oj,j≠id→al (β.gi id v' aS.flatten) j oj=al β j oj:=by
  intro j oj hj
  cases oj<;>simp [al,Env.gi,az,hj]
 have Di:∀b∈v'.ownBlock.toList++aS.flatten,((w0.heap.size≤b∨S b)∧b<w'.heap.size)∧(Av h β b∨w.heap.size≤b)∧∀j oj,h j=some oj→¬G j→b ∉ φ j:=by
  intro b hb
  rcases Mc b hb with ⟨k,x,Kv,hx,h1⟩ | ⟨h1,h2⟩
  ·have h2:=ah (hc.ay k x hx) b h1
   have h3:=(hc.fresh k x hx).2 b h2
   exact⟨⟨h3.1,by omega⟩,.inl (.inl ⟨k,x,hx,h1⟩),fun j oj i_ hg=>hc.sep k j x oj (fun e=>hg (e ▸ Kv)) hx i_ b h2⟩
  ·exact⟨⟨.inl (by omega),h2⟩,.inr (by omega),fun j oj i_ _ bo=>by have:=((hc.fresh j oj i_).2 b bo).2;omega⟩
 refine hc.mE (fun j=>j=id) hs (fun b hb hn=>hw b hb (fun k x _ hx Af=>hn (.inl ⟨k,x,hx,Af⟩))) ?_ (fun i j hj e=>dr i (e ▸ hj)) (fun j hj=>⟨by simp [Env.gi,az,hj],rfl⟩) ?_ ?_
 ·rintro b (⟨j,oj,hj,bo⟩ | hb)
  case inr=>exact .inl (.inr hb)
  by_cases ca:j=id
  ·subst ca
   rw[hh,Option.some.injEq] at hj
   subst hj
   simp only[al,hval,EW] at bo
   exact (Di b bo).2.1
  ·rw[jb j oj ca] at bo
   exact .inl (.inl ⟨j,oj,(DJ j ca oj hj).1,bo⟩)
 ·intro j oj hj
  by_cases ca:j=id
  ·subst ca
   rw[hh,Option.some.injEq] at hj
   subst hj
   refine .inr ⟨?_,by simpa [az] using hnd,fun b hb=>(Di b (by simpa [az] using hb)).1⟩
   exact⟨vals,aS,by rw[hval];exact aZ,da,EW,by rw[hval];simp [az]⟩
  ·obtain⟨h1,hg⟩:=DJ j ca oj hj
   refine .inl ⟨ca,h1,by simp [Env.gi,az,ca],by simp [az,ca],fun k Mr e=>Cy j oj h1 (e ▸ Mr),fun b hb=> ?_⟩
   have fE:=ah (hc.ay j oj h1) b hb
   exact hw b ((hc.fresh j oj h1).2 b fE).2 (fun k x Kv hx Af=>hc.sep k j x oj (fun e=>hg (e ▸ Kv)) hx h1 b (ah (hc.ay k x hx) b Af) fE)
 ·intro i j oi oj cJ hi hj b hb
  by_cases lu:i=id
  ·subst lu
   have gx:j≠i:=Ne.symm cJ
   simp only[az,if_true] at hb
   simp only[az,gx,if_false]
   obtain⟨h1,h2⟩:=DJ j gx oj hj
   exact (Di b hb).2.2 j oj h1 h2
  ·simp only[az,lu,if_false] at hb
   obtain⟨h1,h2⟩:=DJ i lu oi hi
   by_cases ca:j=id
   ·subst ca
    simp only[az,if_true]
    exact fun ax=>(Di b ax).2.2 i oi h1 h2 hb
   ·simp only[az,ca,if_false]
    exact hc.sep i j oi oj cJ h1 (DJ j ca oj hj).1 b hb
theorem bH.append {ct:List CT} {ts:List TypeId} {r1 r2:List (List DC)} {v1 v2:List Value} {m1 m2:List (List Nat)} (h1:bH w ct ts r1 v1 (fun _=>none) m1) (hl:v1.length=r1.length*ct.length) (h2:bH w ct ts r2 v2 (fun _=>none) m2):
  bH w ct ts (r1++r2) (v1++v2) (fun _=>none) (m1++m2):=by
 refine⟨by simp [h1.1,h2.1],fun i r m hi hm=> ?_⟩
 rw[List.getElem?_append] at hi hm
 rw[h1.1] at hm
 by_cases cm:i<r1.length
 ·rw[if_pos cm] at hi hm
  have hle:i*ct.length+ct.length≤v1.length:=by rw[hl,←Nat.succ_mul];exact Nat.mul_le_mul_right _ cm
  have:=h1.2 i r m hi hm
  rw[List.drop_append_of_le_length (by omega),List.take_append_of_le_length (by simp;omega)]
  exact this
 ·rw[if_neg cm] at hi hm
  have:=h2.2 (i - r1.length) r m hi hm
  have e1:(v1++v2).drop (i*ct.length)=v2.drop ((i - r1.length)*ct.length):=by
   have EJ:v1.length≤i*ct.length:=by rw[hl];exact Nat.mul_le_mul_right _ (by omega)
   rw[List.drop_append,List.drop_of_length_le EJ,List.nil_append,hl,Nat.sub_mul]
  rw[e1]
  exact this
theorem ab.one:∀(cs:List CT) (ts:List TypeId) (ds:List DC) (us:List Value) (mb:List Nat),ab w none cs ts ds us mb→∀u∈us,u.oneCell'=true
 | [],_,_,_,_,h=>by
  simp only[ab] at h
  simp [h.2.2.1]
 | c::cs,_,_,_,_,h=>by
  rcases cV c with ⟨e,rfl⟩ | hc
  ·simp only[ab] at h
   obtain⟨t,dJ,rows,aX,v,aM,m1,ga,rfl,rfl,rfl,_,⟨vals,aA,g1,_⟩,h6,rfl⟩:=h
   intro u hu
   rcases List.mem_cons.1 hu with rfl | hu
   ·exact g1.one
   ·exact ab.one cs _ _ _ _ h6 u hu
  ·rw[ab.flat hc] at h
   obtain⟨d,aX,v,aM,rfl,rfl,h3,h4⟩:=h
   intro u hu
   rcases List.mem_cons.1 hu with rfl | hu
   ·exact h3.one
   ·exact ab.one cs _ _ _ _ h4 u hu
theorem bH.one {ct:List CT} {ts:List TypeId} {rows:List (List DC)} {vals:List Value} {aS:List (List Nat)} (h:bH w ct ts rows vals (fun _=>none) aS) (hl:vals.length=rows.length*ct.length) (hp:0<ct.length):∀u∈vals,u.oneCell'=true:=by
 intro u hu
 obtain⟨p,KV,rfl⟩:=List.getElem_of_mem hu
 have hi:p / ct.length<rows.length:=by rw[Nat.div_lt_iff_lt_mul hp];omega
 have hj:=Nat.mod_lt p hp
 have hm:p / ct.length<aS.length:=by rw[h.1];exact hi
 have hc:=h.2 (p / ct.length) rows[p / ct.length] aS[p / ct.length] (by simp) (by simp)
 refine ab.one _ _ _ _ _ hc _ (List.mem_of_getElem? (i:=p % ct.length) ?_)
 rw[List.getElem?_take,if_pos hj,List.getElem?_drop]
 have:p / ct.length*ct.length+p % ct.length=p:=by rw[Nat.mul_comm];exact Nat.div_add_mod p ct.length
 rw[this]
 simp [KV]
theorem Bv (hc:Core w0 S f h β φ tm w) {et:TypeId} {ct:List CT} {ts:List TypeId} {s:SV} {v:Value} {q:List (List DC)×List Nat} (hs:ak w (Av h β) β s v) (hq:(Aa et ct ts s).val f h=some q):
  ∃vals aS,ch w et ct.length false v q.1.length vals∧bH w ct ts q.1 vals (fun _=>none) aS∧(v.ownBlock.toList++aS.flatten).Nodup∧
   ((q.2=[]∧v= .slice none 0 0∧aS=[])∨∃id,q.2=[id]∧∃x,h id=some x∧al β id x=v.ownBlock.toList++aS.flatten):=by
 unfold Aa at hq
 split at hq
 ·simp only[M.aa,Option.some.injEq] at hq
  subst hq
  simp only[ak] at hs
  subst hs
  exact⟨[],[],⟨by simp,.inl ⟨rfl,rfl,rfl⟩⟩,⟨rfl,by simp⟩,by simp [Value.ownBlock],.inl ⟨rfl,rfl,rfl⟩⟩
 ·rename_i id
  simp only[M.aT,Option.bind_eq_some_iff] at hq
  obtain⟨ob,aK,hq⟩:=hq
  simp only[ak] at hs
  split at hq
  ·rename_i t' e' dJ r
   cases hb:Nat.beq t' et && aF e' ct && fL dJ ts
   ·simp [hb] at hq
   simp only[hb,cond_true,M.aa,Option.some.injEq] at hq
   subst hq
   simp only[Bool.and_eq_true] at hb
   have b1:=Nat.eq_of_beq_eq_true hb.1.1
   have b2:=aN _ _ hb.1.2
   have b3:=gj _ _ hb.2
   subst b1 b2 b3
   have bM:=(hc.fresh id _ aK).1
   obtain⟨vals,aS,g1,g2,g3,g4⟩:=hc.ay id _ aK
   rw[g4] at bM
   rw[←hs.1] at g1 bM
   exact⟨vals,aS,g1,g2,bM,.inr ⟨id,rfl,_,aK,by simp only[al,g3,hs.1]⟩⟩
  ·simp at hq
 ·simp at hq
theorem Ez:∀(ids:List Nat) (h:Nat→Option aj) (j:Nat),fo (gone ids) h j=if j∈ids then none else h j
 | [],h,j=>by simp [gone,fo]
 | i::l,h,j=>by
  have ih:=Ez l h j
  show az (fo (gone l) h) i none j=_
  simp only[az,List.mem_cons]
  by_cases hj:j=i
  ·simp [hj]
  ·simp only[hj,if_false,false_or]
   exact ih
theorem CM {l m:List Nat} (hn:cY (l++m)=true):∀i∈l,i ∉ m:=by
 induction l with
 | nil=>simp
 | cons x l ih=>
  obtain⟨h1,h2⟩:=cZ (i:=x) (l:=l++m) hn
  intro i hi
  rcases List.mem_cons.1 hi with rfl | hi
  ·exact fun hm=>h1 (List.mem_append_right _ hm)
  ·exact ih h2 i hi
theorem mW (hR:Rel w0 S st a w) {d:Nat} (aL:o.dst=some d) (hd:ba st.n d) (bM:bw st d) {t et:TypeId} {s x:Operand} {c:Call} (ho:o.op= .call c) (hb:c.callee= .builtin .append) (cu:c.args= #[s,x])
  (FV:c.argTypes= #[t,t]) {ss sx:SV} {ct:List CT} {ts:List TypeId} {p q:List (List DC)×List Nat} {z:List SV} (h1:(b_ s).val st.get st.obj=some ss) (h2:(b_ x).val st.get st.obj=some sx) (hu:P.underlying t=some (.slice et))
  (dx:aY P et ct.length=true) (hp:0<ct.length) (hz:(dI P et).val st.get st.obj=some z) (jN:z.length=ct.length) (KW:(Aa et ct ts ss).val st.get st.obj=some p) (KX:(Aa et ct ts sx).val st.get st.obj=some q) (hnd:cY (p.2++q.2)=true)
  (eI:fw P et (p.1.length+q.1.length)=true) (fj:e.sv= .own (ag d 0)) (jF:e.cw=none)
  (how:e.ow=(ag d 0,some (.deep et ct ts (p.1++q.1) none))::gone (p.2++q.2)):Good P w0 S st o e a w:=by
 obtain⟨i,hi,br⟩:=aW dx
 obtain⟨i',zv,dQ,mU,rfl,_⟩:=dw hz
 rw[hi] at dQ
 injection dQ with dQ
 subst dQ
 obtain⟨β,φ,hc⟩:=hR.core
 obtain⟨G1,CJ,o1,d1,n1,k1⟩:=Bv hc (hc.ev h1) KW
 obtain⟨Cd,CL,o2,d2,n2,k2⟩:=Bv hc (hc.ev h2) KX
 have bb:=d2.one o2.1 hp
 obtain⟨Q,cc,GR,H5,hcell⟩:∃Q cc,a.eval x= .slice Q q.1.length cc∧(Q=none→q.1.length=0)∧∀ad,Q=some ad→∀j u,Cd[j]? =some u→w.cell? (ad.add j)=some u:=by
  rcases o2.2 with ⟨hv,h0,_⟩ | ⟨g,cap,cur,hv,_⟩
  ·exact⟨none,0,by rw[hv,h0],fun _=>h0,by simp⟩
  ·refine⟨some ⟨g,0,none⟩,cap,hv,by simp,fun ad H0 j u hj=> ?_⟩
   simp only[Option.some.injEq] at H0
   subst H0
   rw[dn]
   have:=o2.cell (g:=g) (by rw[hv];rfl) hj
   simpa using this
 obtain⟨v',w',bp,f_,dg,jC⟩:=iZ (P:=P) (ty:=o.type) (c:=cc) hu hi mU br (by simpa using jN) hp o1 o2.1 H5 hcell bb eI
 have bD:ag d 0 / 64=d:=cL d 0 (by omega)
 have EP:∀b∈(a.eval s).ownBlock.toList++CJ.flatten,∃k y,k∈p.2∧st.obj k=some y∧b∈al β k y:=by
  intro b ax
  rcases k1 with ⟨_,hv,hm⟩ | ⟨id,dR,y,hy,ht⟩
  ·rw[hv,hm] at ax;simp [Value.ownBlock] at ax
  ·exact⟨id,y,by rw[dR];simp,hy,by rw[ht];exact ax⟩
 have jG:∀b∈(a.eval x).ownBlock.toList++CL.flatten,∃k y,k∈q.2∧st.obj k=some y∧b∈al β k y:=by
  intro b ax
  rcases k2 with ⟨_,hv,hm⟩ | ⟨id,dR,y,hy,ht⟩
  ·rw[hv,hm] at ax;simp [Value.ownBlock] at ax
  ·exact⟨id,y,by rw[dR];simp,hy,by rw[ht];exact ax⟩
 have Hj:=CM hnd
 have Cs:∀b∈(a.eval s).ownBlock.toList++CJ.flatten,b ∉ (a.eval x).ownBlock.toList++CL.flatten:=by
  intro b h3 h4
  obtain⟨k,y,hk,hy,Gy⟩:=EP b h3
  obtain⟨k',y',Cz,Ji,iB⟩:=jG b h4
  exact hc.sep k k' y y' (fun e=>Hj k hk (e ▸ Cz)) hy Ji b (ah (hc.ay k y hy) b Gy) (ah (hc.ay k' y' Ji) b iB)
 have fO:∀b,b<w.heap.size→(a.eval s).ownBlock≠some b→w'.heap[b]? =w.heap[b]? :=fun b ax cJ=>dg.block b ax (fun e=>cJ e.symm)
 have FZ:=d1.lt
 have F0:=d2.lt
 have KL:∀b∈CJ.flatten,(a.eval s).ownBlock≠some b:=by
  intro b ax e
  rw[List.nodup_append] at n1
  exact n1.2.2 b (by rw[e];simp) b ax rfl
 have KM:∀b∈CL.flatten,(a.eval s).ownBlock≠some b:=by
  intro b ax e
  exact Cs b (List.mem_append_left _ (by rw[e];simp)) (List.mem_append_right _ ax)
 have LI:∀b∈v'.ownBlock.toList,b∈(a.eval s).ownBlock.toList∨b=w.heap.size:=by
  intro b ax
  rcases jC with h3 | h3
  ·rw[h3] at ax;exact .inl ax
  ·rw[h3] at ax;exact .inr (by simpa using ax)
 have F8:v'.ownBlock.toList.Nodup:=by cases v'.ownBlock<;>simp
 have Hy:(v'.ownBlock.toList++(CJ++CL).flatten).Nodup:=by
  rw[List.flatten_append,List.nodup_append]
  rw[List.nodup_append] at n1 n2
  refine⟨F8, ?_,fun b h3 b' h4 e=> ?_⟩
  ·rw[List.nodup_append]
   refine⟨n1.2.1,n2.2.1,fun b h3 b' h4 e=> ?_⟩
   subst e
   exact Cs b (List.mem_append_right _ h3) (List.mem_append_right _ h4)
  ·subst e
   rcases LI b h3 with h5 | h5
   ·rcases List.mem_append.1 h4 with h4 | h4
    ·exact n1.2.2 b h5 b h4 rfl
    ·exact Cs b (List.mem_append_left _ h5) (List.mem_append_right _ h4)
   ·rcases List.mem_append.1 h4 with h4 | h4
    ·have:=FZ b h4;omega
    ·have:=F0 b h4;omega
 have Iy:bH w' ct ts (p.1++q.1) (G1++Cd) (fun _=>none) (CJ++CL):=by
  refine bH.append ?_ o1.1 ?_
  ·exact d1.mono dg.size (fun b ax=>fO b (FZ b ax) (KL b ax)) (fun _=>rfl)
  ·exact d2.mono dg.size (fun b ax=>fO b (F0 b ax) (KM b ax)) (fun _=>rfl)
 have I7:ch w' et ct.length false v' (p.1++q.1).length (G1++Cd):=by rw[List.length_append];exact f_
 have IH:∀b,(a.eval s).ownBlock=some b→w0.heap.size≤b∨S b:=by
  intro b ax
  obtain⟨k,y,_,hy,jD⟩:=EP b (List.mem_append_left _ (by rw[ax];simp))
  exact ((hc.fresh k y hy).2 b (ah (hc.ay k y hy) b jD)).1
 refine bJ hR (fun d' h'=>by rw[aL] at h';injection h' with h';exact h' ▸ hd) (v:=v') (w':=w') ?_ (hR.kept.grown dg IH)
  ⟨β.gi (ag d 0) v' (CJ++CL).flatten,az φ (ag d 0) (v'.ownBlock.toList++(CJ++CL).flatten), ?_, ?_⟩
 ·simp [execOp,ho,resolve,hb,cu,FV,invoke,builtin,GR,bp]
 ·rw[how,jF]
  refine hc.compose (G:=fun k=>k∈p.2++q.2) (fun i hi=>bM.slot i _ hi bD) (fun j ob hj hi=>(bM.obj j ob hj).2 _ hi bD) ?_ (by simp [fo,az,fc]) (fun j hj y hy=> ?_) dg.size hR.kept.size (fun b ax hn=> ?_) (fun b ax=> ?_) I7 Iy Hy
  ·cases hn:st.obj (ag d 0) with
   | none=>rfl
   | some ob=>exact absurd bD (bM.obj _ ob hn).1
  ·simp only[fo,az,hj,if_false,fc] at hy
   rw[Ez] at hy
   split at hy
   ·cases hy
   ·rename_i hk
    exact⟨hy,hk⟩
  ·refine fO b ax (fun e=> ?_)
   obtain⟨k,y,hk,hy,jD⟩:=EP b (List.mem_append_left _ (by rw[e];simp))
   exact hn k y (List.mem_append_left _ hk) hy jD
  ·rcases List.mem_append.1 ax with ax | ax
   ·rcases LI b ax with h3 | h3
    ·obtain⟨k,y,hk,hy,jD⟩:=EP b (List.mem_append_left _ h3)
     exact .inl ⟨k,y,List.mem_append_left _ hk,hy,jD⟩
    ·exact .inr ⟨h3,f_.lt b ax⟩
   ·rw[List.flatten_append] at ax
    rcases List.mem_append.1 ax with ax | ax
    ·obtain⟨k,y,hk,hy,jD⟩:=EP b (List.mem_append_right _ ax)
     exact .inl ⟨k,y,List.mem_append_left _ hk,hy,jD⟩
    ·obtain⟨k,y,hk,hy,jD⟩:=jG b (List.mem_append_right _ ax)
     exact .inl ⟨k,y,List.mem_append_right _ hk,hy,jD⟩
 ·rw[fj]
  unfold ak
  exact⟨by simp [Env.gi,az],f_.one⟩
theorem bH.cons {ct:List CT} {ts:List TypeId} {r:List DC} {l:List Value} {m:List Nat} {rows:List (List DC)} {vals:List Value} {aS:List (List Nat)} (h1:ab w none ct ts r l m) (hl:l.length=ct.length) (h2:bH w ct ts rows vals (fun _=>none) aS):
  bH w ct ts (r::rows) (l++vals) (fun _=>none) (m::aS):=by
 have:=bH.append (r1:=[r]) (v1:=l) (m1:=[m]) ⟨rfl,fun i r' m' hi hm=>by
  have Mp:i=0:=by
   have:=(List.getElem?_eq_some_iff.1 hi).1
   simpa using this
  subst Mp
  simp only[List.getElem?_cons_zero,Option.some.injEq] at hi hm
  subst hi hm
  rw[Nat.zero_mul,List.drop_zero,List.take_of_length_le (by omega)]
  exact h1⟩ (by simp [hl]) h2
 simpa using this
theorem iQ (hc:Core w0 S st.get st.obj β φ a.tmps w) {ct:List CT} {ts:List TypeId} :∀(parts:List (Nat×Operand)) (k:Nat) (q:List (List DC)×List MU),(ef ct ts k parts).val st.get st.obj=some q→
  ∃(vals:List Value) (aS:List (List Nat)),vals.length=parts.length*ct.length∧q.1.length=parts.length∧bH w ct ts q.1 vals (fun _=>none) aS∧aS.flatten=q.2.flatMap (aC β)∧cS st.obj q.2∧
   ∀(pre suf:List Value),pre.length=k*ct.length→suf.length=parts.length*ct.length→
    Instr.fill (fun i=>some (i*ct.length,ct.length)) (pre++suf).toArray (parts.map fun x=>(x.1,a.eval x.2))=some (pre++vals).toArray
 | [],k,q,hq=>by
  simp only[ef,M.aa,Option.some.injEq] at hq
  subst hq
  refine⟨[],[],by simp,rfl,⟨rfl,by simp⟩,rfl,trivial,fun pre suf h1 h2=> ?_⟩
  have:suf=[]:=by simpa using h2
  subst this
  simp [Instr.fill]
 | (i,x)::rest,k,q,hq=>by
  simp only[ef] at hq
  cases D3:Nat.beq i k
  ·simp [D3] at hq
  have D3:=Nat.eq_of_beq_eq_true D3
  subst D3
  simp only[Nat.beq_refl,cond_true,M.ae,Option.bind_eq_some_iff,M.aa,Option.some.injEq] at hq
  obtain⟨s,hs,cs,fC,r,hr,q2,cv,rfl⟩:=hq
  obtain⟨fj,bb⟩:=dM (hc.ev hs) fC
  obtain⟨kT,KG⟩:=c_ hc ct ts _ _ r fj hr
  have Bk:=df.cells _ _ _ _ _ kT
  have LB:=(ab.length _ _ _ _ _ Bk).1
  have br:(a.eval x).cells.size=ct.length:=by simpa using LB
  obtain⟨vals,aS,j9,IJ,jG,Kj,KH,Cv⟩:=iQ hc rest (i+1) q2 cv
  refine⟨(a.eval x).cells.toList++vals,(r.2.flatMap (aC β))::aS, ?_,by simp [IJ],bH.cons Bk LB jG,by simp [Kj],KG.append KH, ?_⟩
  ·simp only[List.length_append,j9,List.length_cons,Array.length_toList,br,Nat.succ_mul]
   omega
  ·intro pre suf h1 h2
   simp only[List.length_cons,Nat.succ_mul] at h2
   simp only[List.map_cons]
   rw[kj (off:=i*ct.length) (by rw[br]) (by simp [h1,br];omega)]
   have e1:((pre++suf).toArray.toList.take (i*ct.length)++((a.eval x).cells.toList++(pre++suf).toArray.toList.drop (i*ct.length+(a.eval x).cells.size)))=(pre++(a.eval x).cells.toList)++suf.drop ct.length:=by
    simp only[br,←h1]
    simp [List.drop_append]
   rw[e1,Cv (pre++(a.eval x).cells.toList) (suf.drop ct.length) (by simp [h1,br,Nat.succ_mul]) (by simp [h2])]
   simp
theorem Bb (hR:Rel w0 S st a w) {d:Nat} (aL:o.dst=some d) (hd:ba st.n d) (bM:bw st d) {t et:TypeId} {len:Nat} {parts:Array (Nat×Operand)} (ho:o.op= .buildSlice t len parts) {ct:List CT} {ts:List TypeId} {q:List (List DC)×List MU}
  (hu:P.underlying t=some (.slice et)) (dx:aY P et ct.length=true) (jJ:0<ct.length) (hlen:len=parts.toList.length) (Jc:len*ct.length≤16777216) (hz:∃z,(dI P et).val st.get st.obj=some z)
  (hq:(ef ct ts 0 parts.toList).val st.get st.obj=some q) (hn:cY (bn q.2)=true)
  (he:e= {sv:= .own (ag d 0),ow:=(ag d 0,some (.deep et ct ts q.1 none))::eu q.2}):Good P w0 S st o e a w:=by
 subst he
 obtain⟨i,hi,br⟩:=aW dx
 obtain⟨β,φ,hc⟩:=hR.core
 obtain⟨vals,aS,A1,F5,da,eB,Ci,kR⟩:=iQ hc parts.toList 0 q hq
 obtain⟨z,hz⟩:=hz
 obtain⟨i',zv,dQ,mU,_,_⟩:=dw hz
 rw[hi] at dQ
 injection dQ with dQ
 subst dQ
 have hle:len≤maxLen:=by
  have:len≤len*ct.length:=Nat.le_mul_of_pos_right _ jJ
  simp only[maxLen]
  omega
 have bp:(Instr.buildSlice t len (parts.map fun x=>(x.1,a.eval x.2))).run P w= .ok (.slice (some ⟨w.heap.size,0,none⟩) len len) (w.alloc (.cells vals.toArray et)):=by
  rcases Nat.eq_zero_or_pos len with h0 | h0
  ·have hp:parts= #[]:=by
    have:parts.toList.length=0:=by omega
    simpa using this
   have hv:vals=[]:=by
    have:vals.length=0:=by rw[A1,←hlen,h0,Nat.zero_mul]
    simpa using this
   subst hp hv h0
   simp [Instr.buildSlice,run_underlying hu,sizeOf,typeInfo,hi,Instr.fill,newRow,Array.range_zero']
  ·refine run_buildSlice (P:=P) w t et len _ vals.toArray i zv hu hi mU (by rw[br];omega) (by rw[br];exact Nat.ne_of_gt (Nat.mul_pos h0 jJ)) ?_
   have:=kR [] ((Array.range (len*ct.length)).map (zv.cells[· % zv.cells.size]!)).toList (by simp) (by simp [hlen])
   rw[br]
   generalize (Array.range (len*ct.length)).map (zv.cells[· % zv.cells.size]!)=A at this ⊢
   simpa using this
 have bD:ag d 0 / 64=d:=cL d 0 (by omega)
 have Bo:=dS hc Ci hn
 have JO:∀b∈q.2.flatMap (aC β),∃k∈bn q.2,∃ob,st.obj k=some ob∧b∈al β k ob:=dk Ci
 have cm:=da.lt
 have aZ:ch (w.alloc (.cells vals.toArray et)) et ct.length false (.slice (some ⟨w.heap.size,0,none⟩) len len) q.1.length vals:=by
  refine⟨by rw[A1,F5],.inr ⟨w.heap.size,len,vals.toArray,by rw[F5,←hlen],by simpa using ec _,by rw[F5,←hlen];exact Nat.le_refl _,hle,by simp [A1,hlen], ?_⟩⟩
  rw[F5,←A1]
  simp
 refine bJ hR (fun d' h'=>by rw[aL] at h';injection h' with h';exact h' ▸ hd) (v:= .slice (some ⟨w.heap.size,0,none⟩) len len) (w':=w.alloc (.cells vals.toArray et)) ?_ (hR.kept.alloc _)
  ⟨β.gi (ag d 0) (.slice (some ⟨w.heap.size,0,none⟩) len len) aS.flatten,az φ (ag d 0) ([w.heap.size]++aS.flatten), ?_, ?_⟩
 ·simp [execOp,ho,bp]
 ·refine hc.compose (v':= .slice (some ⟨w.heap.size,0,none⟩) len len) (G:=fun k=>k∈bn q.2) (fun i hi=>bM.slot i _ hi bD) (fun j ob hj hi=>(bM.obj j ob hj).2 _ hi bD) ?_ (by simp [fo,az,fc]) (fun j hj y hy=> ?_) (by rw[cj];omega) hR.kept.size (fun b ax _=>alloc_old _ b ax) (fun b ax=> ?_) aZ (da.mono (by rw[cj];omega) (fun b ax=>alloc_old _ b (cm b ax)) (fun _=>rfl)) ?_
  ·cases hn:st.obj (ag d 0) with
   | none=>rfl
   | some ob=>exact absurd bD (bM.obj _ ob hn).1
  ·simp only[fo,az,hj,if_false,fc] at hy
   rw[AO] at hy
   split at hy
   ·cases hy
   ·rename_i hk
    exact⟨hy,hk⟩
  ·rcases List.mem_append.1 ax with ax | ax
   ·right
    have:b=w.heap.size:=by simpa [Value.ownBlock] using ax
    exact⟨this,by rw[cj];omega⟩
   ·left
    rw[eB] at ax
    obtain⟨k,hk,ob,h3,h4⟩:=JO b ax
    exact⟨k,ob,hk,h3,h4⟩
  ·rw[List.nodup_append]
   refine⟨by simp [Value.ownBlock],by rw[eB];exact Bo,fun b h3 b' h4 e=> ?_⟩
   subst e
   have h5:b=w.heap.size:=by simpa [Value.ownBlock] using h3
   have:=cm b h4
   omega
 ·unfold ak
  exact⟨by simp [Env.gi,az],rfl⟩
end
end Go.Proofs.YtoaflbnkiobhdaaGreat.Vm
set_option linter.unusedVariables false
set_option linter.unusedSimpArgs false
namespace Go.Proofs.YtoaflbnkiobhdaaGreat.Vm
section
variable {P:Program} {Γ:Ctx} {w0:World} {S:Own} {st:St} {o:Oper} {e:cG} {a:Act} {w:World}
variable {f:Nat→SV} {h:Nat→Option aj} {β:Env} {φ:Nat→List Nat} {tm:Array Value}
def bz (b:List UInt8):List Value:=b.map fun c=>Value.int .u8 c.toNat
theorem dO (k:Nat) (b:List UInt8) (w:World):(Builtin.firstCells k b.length (.string ⟨b.toArray⟩)).run P w= .ok (bz b).toArray w:=by
 have:((⟨b.toArray⟩:ByteArray).extract 0 b.length).data.map (fun c=>Value.int .u8 c.toNat)=(bz b).toArray:=by
  rw[iu]
  simp [bz]
 simp only[Builtin.firstCells,Sem.run_pure,this]
theorem Bs {t u ty et:TypeId} {i:TypeInfo} {zv:Value} (ht:P.underlying t=some (.slice et)) (hu:P.underlying u=some .string) (hi:P.info? et=some i) (hz:i.zero=some zv) (dx:i.size=1) (Lg:zv.cells.size=1)
  {v:Value} {n:Nat} {vals:List Value} (aZ:ch w et 1 false v n vals) (b:List UInt8) (eI:fw P et (n+b.length)=true):
  ∃v' w',(Builtin.append_ #[t,u] ty #[v,.string ⟨b.toArray⟩]).run P w= .ok v' w'∧ch w' et 1 false v' (n+b.length) (vals++bz b)∧w.grownBy w' v.ownBlock∧(v'.ownBlock=v.ownBlock∨v'.ownBlock=some w.heap.size):=by
 obtain⟨ED,IL⟩:=BX hi eI
 have La:n+b.length≤9223372036854775807:=by simp only[maxLen] at IL;omega
 have Hz:(bz b).length=b.length:=by simp [bz]
 have bb:∀u∈bz b,u.oneCell'=true:=by
  intro u hu
  obtain⟨c,_,rfl⟩:=List.mem_map.1 hu
  rfl
 have hlen:(vals++bz b).length=(n+b.length)*1:=by rw[List.length_append,aZ.1,Hz];omega
 have grown:∀(lK:Nat),lK<n+b.length→∀(row:Option Nat),
   ch (w.drew.alloc (.cells (vals.toArray++(bz b).toArray++Builtin.zeroCells zv.cells (grownCap w (n+b.length) lK et - (n+b.length))) et)) et 1 false
    (.slice (some ⟨w.heap.size,0,none⟩) (n+b.length) (grownCap w (n+b.length) lK et)) (n+b.length) (vals++bz b)∧
   w.grownBy (w.drew.alloc (.cells (vals.toArray++(bz b).toArray++Builtin.zeroCells zv.cells (grownCap w (n+b.length) lK et - (n+b.length))) et)) row:=by
  intro lK ho row
  have EJ:=grownCap_ge w (n+b.length) lK et
  have D2:grownCap w (n+b.length) lK et≤maxLen:=grownCap_le_maxLen w (n+b.length) lK et IL
  refine⟨⟨hlen,.inr ⟨w.heap.size,_,_,rfl,heap_alloc_new w.drew _,EJ,D2, ?_, ?_⟩⟩,⟨rfl,rfl,rfl,by simp,fun k hk _=>heap_alloc_old w.drew _ hk⟩⟩
  ·simp only[Array.size_append,List.size_toArray,size_zeroCells,Lg,aZ.1,Hz]
   omega
  ·simp only[Array.toList_append,List.append_assoc]
   rw[←List.append_assoc,←hlen]
   exact List.take_left
 rcases aZ.2 with ⟨rfl,rfl,_⟩ | ⟨g,cap,cur,rfl,hg,AW,D2,fC,E4⟩
 ·have hx:vals=[]:=List.eq_nil_of_length_eq_zero (by simpa using aZ.1)
  subst hx
  by_cases hm:b.length=0
  ·have L_:b=[]:=List.eq_nil_of_length_eq_zero hm
   subst L_
   refine⟨.slice none 0 0,w, ?_,⟨by simp [bz],.inl ⟨rfl,rfl,rfl⟩⟩,⟨rfl,rfl,rfl,Nat.le_refl _,fun _ _ _=>rfl⟩,.inl rfl⟩
   have hf:=dO (P:=P) i.size [] w
   simp [Builtin.append_,run_underlying ht,run_underlying hu,sizeOf,typeInfo,hi,Builtin.lenOf,dv] at hf ⊢
   simp [hf]
  ·have hn:¬(b.length=0):=hm
   have Hb:¬(9223372036854775807<(b.length:Int)):=by omega
   have Ha:¬(281474976710656<Builtin.nextslicecap b.length 0*i.bytes):=by
    have hb:=ED
    rw[Nat.zero_add] at hb
    rw[nextslicecap_zero (by omega)]
    omega
   have hf:=dO (P:=P) i.size b w.drew
   have hr:(Builtin.append_ #[t,u] ty #[.slice none 0 0,.string ⟨b.toArray⟩]).run P w=
     .ok (.slice (some ⟨w.heap.size,0,none⟩) b.length (grownCap w b.length 0 et)) (w.drew.alloc (.cells ((bz b).toArray++Builtin.zeroCells zv.cells (grownCap w b.length 0 et - b.length)) et)):=by
    simp [Builtin.append_,run_underlying ht,run_underlying hu,sizeOf,typeInfo,zeroValue,hi,hz,Builtin.lenOf,dv,hn,Hb,Ha,Question.forced,run_firstCells_none,hf,newRow,grownCap]
   have H4:=grown 0 (by omega) (Value.ownBlock (.slice none 0 0))
   simp only[Nat.zero_add,List.nil_append,Array.empty_append] at H4 ⊢
   exact⟨_,_,hr,H4.1,H4.2,.inr rfl⟩
 ·by_cases EG:n+b.length≤cap
  ·have dP:n*1+(bz b).length≤cur.size:=by rw[Hz,fC];omega
   have hf:=dO (P:=P) 1 b w
   have H3:w.heap[g]? =some (.cells cur et (0,0)):=by simpa using hg
   have hP:=run_storeCells_at P g (n*1) et (bz b) 0 cur w H3 (by simpa using dP) bb
   simp only[Nat.add_zero] at hP
   have hr:(Builtin.append_ #[t,u] ty #[.slice (some ⟨g,0,none⟩) n cap,.string ⟨b.toArray⟩]).run P w=
     .ok (.slice (some ⟨g,0,none⟩) (n+b.length) cap) (w.setRow g (cur.toList.take (n*1)++bz b++cur.toList.drop (n*1+(bz b).length)).toArray):=by
    simp only[Nat.mul_one] at hP
    simp [Builtin.append_,run_underlying ht,run_underlying hu,sizeOf,typeInfo,hi,dx,Builtin.lenOf,dv,EG,hf,Addr.add_lit,hP]
   refine⟨_,_,hr,⟨hlen,.inr ⟨g,cap,_,rfl,setRow_heap w g cur _ et _ H3,EG,D2, ?_, ?_⟩⟩,⟨rfl,rfl,rfl,by simp,fun k _ hk=>setRow_other w g k _ (fun e=>hk (by simp [Value.ownBlock,e]))⟩,.inl rfl⟩
   ·simp only[List.size_toArray,List.length_append,List.length_take,List.length_drop,Array.length_toList]
    omega
   ·simp only[List.append_assoc]
    have E5:cur.toList.take (n*1)=vals:=E4
    rw[E5,←hlen]
    rw[←List.append_assoc]
    exact List.take_left
  ·have holds:∀j u,vals[j]? =some u→w.cell? ((⟨g,0,none⟩:Addr).add j)=some u:=aZ.owns.cells (g:=g) rfl
   have hn:¬(n+b.length≤cap):=EG
   have Hb:¬(9223372036854775807<((n:Int)+(b.length:Int))):=by omega
   have Ha:¬(281474976710656<Builtin.nextslicecap (n+b.length) cap*i.bytes):=by
    have:=growslice_fits (bytes:=i.bytes) (show cap<n+b.length by omega) ED
    omega
   have hf:=dO (P:=P) i.size b w.drew
   have JJ:=run_firstCells_some (P:=P) w.drew i.size n ⟨g,0,none⟩ n cap vals (by rw[dx];exact aZ.1) (by simpa using holds)
   have hr:(Builtin.append_ #[t,u] ty #[.slice (some ⟨g,0,none⟩) n cap,.string ⟨b.toArray⟩]).run P w=
     .ok (.slice (some ⟨w.heap.size,0,none⟩) (n+b.length) (grownCap w (n+b.length) cap et)) (w.drew.alloc (.cells (vals.toArray++(bz b).toArray++Builtin.zeroCells zv.cells (grownCap w (n+b.length) cap et - (n+b.length))) et)):=by
    simp [Builtin.append_,run_underlying ht,run_underlying hu,sizeOf,typeInfo,zeroValue,hi,hz,Builtin.lenOf,dv,hn,Hb,Ha,Question.forced,hf,JJ,newRow,grownCap]
    congr 2
    apply Array.ext'
    simp [List.append_assoc]
   have H4:=grown cap (by omega) (Value.ownBlock (.slice (some ⟨g,0,none⟩) n cap))
   exact⟨_,_,hr,H4.1,H4.2,.inr rfl⟩
theorem FC (b:List UInt8):dK w [.int .u8] (b.map cP) (bz b) (List.replicate b.length []):=by
 refine⟨by simp [bz],fun k r' f' hk hf=> ?_⟩
 have FG:k<b.length:=by
  have:=(List.getElem?_eq_some_iff.1 hk).1
  simpa using this
 have EZ:r'=cP b[k]:=by
  rw[List.getElem?_map,List.getElem?_eq_getElem FG] at hk
  simpa using hk.symm
 have Bl:f'=[]:=by
  have:=List.mem_of_getElem? hf
  exact (List.mem_replicate.1 this).2
 subst EZ Bl
 unfold cP
 simp only[a7,bV]
 refine⟨.int b[k].toNat,[],.int .u8 b[k].toNat,[],[],rfl, ?_,⟨_,rfl,rfl, ?_,rfl⟩,⟨rfl,rfl⟩,rfl⟩
 ·simp only[bz,List.length_cons,List.length_nil,Nat.zero_add,Nat.mul_one,Nat.add_zero]
  rw[List.getElem?_map,List.getElem?_eq_getElem FG]
  rfl
 ·rw[eC]
  have h1:IntKind.u8.min=0:=by decide
  have h2:IntKind.u8.max=255:=by decide
  have:=b[k].toNat_lt
  omega
theorem mX (hR:Rel w0 S st a w) (hd:∀d,o.dst=some d→ba st.n d) (bM:e.ow≠[]→∀d,o.dst=some d→bw st d) {t t':TypeId} {s x:Operand} {c:Call} (ho:o.op= .call c) (hb:c.callee= .builtin .append) (cu:c.args= #[s,x])
  (FV:c.argTypes= #[t,t']) {sx sy:SV} (h1:(b_ s).val st.get st.obj=some sx) (h2:(b_ x).val st.get st.obj=some sy) (he:(AE P o.dst t t' sx sy).val st.get st.obj=some e) (aJ:e.ok=true):Good P w0 S st o e a w:=by
 unfold AE at he
 split at he
 case h_2=>simp at he
 rename_i et d id b hu CE aL
 simp only[M.aT,Option.bind_eq_some_iff] at he
 obtain⟨ob,aK,he⟩:=he
 split at he
 case h_2=>simp at he
 rename_i t1 ct r u
 cases mT:Nat.beq t1 et && aF ct [.int .u8] && aY P et 1
 ·simp [mT] at he
 simp only[mT,cond_true,M.ae,Option.bind_eq_some_iff] at he
 obtain⟨z,hz,he⟩:=he
 cases jN:Nat.beq z.length 1
 ·simp [jN] at he
 simp only[jN,cond_true,M.aa,Option.some.injEq] at he
 simp only[Bool.and_eq_true] at mT
 have JT:=Nat.eq_of_beq_eq_true mT.1.1
 have BD:=aN _ _ mT.1.2
 subst JT BD
 have bM:=bM (by rw[←he];simp) d aL
 have eI:fw P t1 (r.length+b.length)=true:=by rw[←he] at aJ;exact aJ
 have F9:=Nat.eq_of_beq_eq_true jN
 obtain⟨i,hi,br⟩:=aW mT.2
 obtain⟨i',zv,dQ,mU,rfl,_⟩:=dw hz
 rw[hi] at dQ
 injection dQ with dQ
 subst dQ
 obtain⟨β,φ,hc⟩:=hR.core
 have E0:=hc.ev h1
 simp only[ak] at E0
 have LJ:=hc.ev h2
 simp only[ak] at LJ
 obtain⟨vals,aA,aZ,da,Hr,ky⟩:=hc.ay id _ aK
 obtain⟨v',w',bp,f_,dg,jC⟩:=Bs (P:=P) (ty:=o.type) hu CE hi mU br (by simpa using F9) aZ b eI
 have eB:aA.flatten=[]:=da.flat rfl
 have HL:φ id=(β.val id).ownBlock.toList:=by rw[ky,eB];cases u<;>simp
 have bD:ag d 0 / 64=d:=cL d 0 (by omega)
 have IC:id≠ag d 0:=fun e=>(bM.obj id _ aK).1 (e ▸ bD)
 have gl:∀j,j≠ag d 0→(β.fS (ag d 0) v').val j=β.val j∧(β.fS (ag d 0) v').cT j=β.cT j:=by
  intro j hj
  exact⟨by simp [Env.fS,az,hj],rfl⟩
 have hval:(β.fS (ag d 0) v').val (ag d 0)=v':=by simp [Env.fS,az]
 have bu:=hc.fresh id _ aK
 have AX:v'.ownBlock.toList.Nodup:=by cases v'.ownBlock<;>simp
 have Ak:∀b∈v'.ownBlock.toList,b∈φ id∨b=w.heap.size:=by
  intro b ax
  rcases jC with h3 | h3
  ·rw[h3] at ax
   exact .inl (by rw[HL];exact ax)
  ·rw[h3] at ax
   exact .inr (by simpa using ax)
 have hJ:∀b,(β.val id).ownBlock=some b→b∈φ id:=fun b ax=>by rw[HL,ax];simp
 have jI:∀j oj,az (az st.obj id none) (ag d 0) (some (.row t1 [.int .u8] (r++b.map cP) false u)) j=some oj→j≠ag d 0→j≠id∧st.obj j=some oj:=by
  intro j oj hj mj
  simp only[az,mj,if_false] at hj
  split at hj
  ·cases hj
  ·exact⟨by assumption,hj⟩
 have fO:∀b,b<w.heap.size→(β.val id).ownBlock≠some b→w'.heap[b]? =w.heap[b]? :=fun b ax cJ=>dg.block b ax (fun e=>cJ e.symm)
 have BL:∀b∈v'.ownBlock.toList,∀j oj,j≠id→st.obj j=some oj→b ∉ φ j:=by
  intro b ax j oj hj i_ bo
  rcases Ak b ax with h3 | h3
  ·exact hc.sep id j _ _ (Ne.symm hj) aK i_ b h3 bo
  ·have:=((hc.fresh j oj i_).2 b bo).2
   omega
 have AR:∀b',Av (az (az st.obj id none) (ag d 0) (some (.row t1 [.int .u8] (r++b.map cP) false u))) (β.fS (ag d 0) v') b'→Av st.obj β b'∨w.heap.size≤b':=by
  rintro b' (⟨j,oj,hj,bo⟩ | hb)
  case inr=>exact .inl (.inr hb)
  by_cases ca:j=ag d 0
  ·subst ca
   simp only[az,if_true,Option.some.injEq] at hj
   subst hj
   simp only[al,hval] at bo
   rcases Ak b' bo with h3 | h3
   ·exact .inl (.inl ⟨id,_,aK,by simp only[al];rw[←HL];exact h3⟩)
   ·exact .inr (by omega)
  ·obtain⟨_,f9⟩:=jI j oj hj ca
   refine .inl (.inl ⟨j,oj,f9, ?_⟩)
   cases oj<;>simp only[al,gl j ca] at bo ⊢ <;>exact bo
 refine bJ hR hd (v:=v') (w':=w') ?_ (hR.kept.grown dg (fun b ax=>(bu.2 b (hJ b ax)).1))
  ⟨β.fS (ag d 0) v',az φ (ag d 0) v'.ownBlock.toList, ?_, ?_⟩
 ·simp [execOp,ho,resolve,hb,cu,FV,invoke,builtin,E0.1,LJ.1,bp]
 ·rw[←he]
  show Core w0 S st.get (az (az st.obj id none) (ag d 0) (some (.row t1 [.int .u8] (r++b.map cP) false u))) _ _ _ _
  refine hc.step (fun j=>j=ag d 0) dg.size (fun b ax hn=>fO b ax (fun e=>hn (.inl ⟨id,_,aK,by simp [al,e]⟩))) AR
   (fun k j hj e=>bM.slot k j hj (by rw[e];exact bD)) gl ?_ ?_
  ·intro j oj hj
   by_cases ca:j=ag d 0
   ·subst ca
    have f9:=hj
    simp only[az,if_true,Option.some.injEq] at f9
    subst f9
    refine .inr ⟨?_,by simp only[az,if_true];exact AX, ?_⟩
    ·have mi:=(da.append (by simpa using aZ.1) (FC (w:=w) b)).mono (w':=w') dg.size (fun b ax=>by
      rw[List.flatten_append,eB] at ax
      simp at ax)
     refine⟨vals++bz b,aA++List.replicate b.length [], ?_,mi, ?_, ?_⟩
     ·rw[hval]
      have:(r++b.map cP).length=r.length+b.length:=by simp
      rw[this]
      exact f_
     ·rw[List.flatten_append,eB]
      simp
     ·rw[hval,List.flatten_append,eB]
      cases u<;>simp [az]
    ·simp only[az,if_true]
     intro b ax
     rcases Ak b ax with h3 | h3
     ·have:=bu.2 b h3
      exact⟨this.1,by have:=dg.size;omega⟩
     ·subst h3
      exact⟨.inl hR.kept.size,f_.lt _ ax⟩
   ·obtain⟨gx,f9⟩:=jI j oj hj ca
    refine .inl ⟨ca,f9,by simp [az,ca], ?_, ?_⟩
    ·intro k hk e
     exact (bM.obj j oj f9).2 k hk (by rw[e];exact bD)
    ·intro b ax
     have fE:=ah (hc.ay j oj f9) b ax
     refine fO b ((hc.fresh j oj f9).2 b fE).2 (fun e=> ?_)
     exact hc.sep id j _ _ (Ne.symm gx) aK f9 b (hJ b e) fE
  ·intro k j ok oj cJ hk hj b ax
   by_cases Ht:k=ag d 0
   ·subst Ht
    have mj:j≠ag d 0:=Ne.symm cJ
    obtain⟨gx,f9⟩:=jI j oj hj mj
    simp only[az,if_true] at ax
    simp only[az,mj,if_false]
    exact BL b ax j oj gx f9
   ·obtain⟨Ah,Cz⟩:=jI k ok hk Ht
    simp only[az,Ht,if_false] at ax
    by_cases ca:j=ag d 0
    ·subst ca
     simp only[az,if_true]
     exact fun h3=>BL b h3 k ok Ah Cz ax
    ·obtain⟨gx,f9⟩:=jI j oj hj ca
     simp only[az,ca,if_false]
     exact hc.sep k j ok oj cJ Cz f9 b ax
 ·rw[←he]
  unfold ak
  exact⟨hval.symm,f_.one⟩
end
end Go.Proofs.YtoaflbnkiobhdaaGreat.Vm
namespace Go.Proofs.YtoaflbnkiobhdaaGreat.Vm
theorem mF {α:Type} {l:Array α} {x:α} (h:l.toList=[x]):l= #[x]:=by
 cases l;simp at h;subst h;rfl
theorem bK {α:Type} {l:Array α} {x y:α} (h:l.toList=[x,y]):l= #[x,y]:=by
 cases l;simp at h;subst h;rfl
theorem BU {P:Program} {Γ:Ctx} {w0:World} {S:Own} {st:St} {o:Oper} {e:cG} {a:Act} {w:World} (eV:bE P Γ) (hR:Rel w0 S st a w)
  (hv:(evalOp P Γ o).val st.get st.obj=some e) (aJ:e.ok=true) (hd:∀d,o.dst=some d→ba st.n d) (bM:e.ow≠[]→∀d,o.dst=some d→bw st d):Good P w0 S st o e a w:=by
 unfold evalOp at hv
 split at hv
 ·rename_i x ho
  simp only[M.ae,Option.bind_eq_some_iff,M.aa,Option.some.injEq] at hv
  obtain⟨s,h1,rfl⟩:=hv
  exact mC hR hd (.inl ho) h1 rfl
 ·rename_i x ho
  simp only[M.ae,Option.bind_eq_some_iff,M.aa,Option.some.injEq] at hv
  obtain⟨s,h1,rfl⟩:=hv
  exact mC hR hd (.inr ho) h1 rfl
 ·rename_i c x y ho
  simp only[M.ae,Option.bind_eq_some_iff] at hv
  obtain⟨sc,h0,sx,h1,sy,h2,hv⟩:=hv
  exact C5 hR hd ho h0 h1 h2 hv
 ·rename_i t ho
  split at hv
  ·rename_i d aL
   simp only[M.ae,Option.bind_eq_some_iff,M.aa,Option.some.injEq] at hv
   obtain⟨z,hz,rfl⟩:=hv
   exact B0 hR aL (hd d aL) (bM (by simp) d aL) ho hz rfl
  ·simp at hv
 ·rename_i t x ho
  split at hv
  ·rename_i d aL
   simp only[M.ae,Option.bind_eq_some_iff,M.aa,Option.some.injEq] at hv
   obtain⟨s,hs,cs,fC,rfl⟩:=hv
   exact DY hR aL (hd d aL) (bM (by simp) d aL) ho hs fC rfl
  ·simp at hv
 ·rename_i t parts ho
  split at hv
  ·rename_i fs hu
   split at hv
   ·rename_i places hp
    simp only[M.ae,Option.bind_eq_some_iff,M.aa,Option.some.injEq] at hv
    obtain⟨z,hz,cs,fC,rfl⟩:=hv
    exact B1 hR hd ho hu hp hz fC rfl
   ·simp at hv
  ·simp at hv
 ·rename_i t len parts ho
  cases eH:mJ Γ o.dst with
  | true=>
   simp only[eH,cond_true] at hv
   unfold Eu at hv
   split at hv
   ·rename_i et d hu aL
    split at hv
    ·rename_i ct ts BD FJ
     cases hb:aY P et ct.length && Nat.blt 0 ct.length && Nat.beq len parts.toList.length && Nat.ble (len*ct.length) 16777216
     ·simp only[hb,cond_false,M.mG,reduceCtorEq] at hv
     simp only[hb,cond_true,M.ae,Option.bind_eq_some_iff] at hv
     obtain⟨z,hz,q,hq,hv⟩:=hv
     cases hn:cY (bn q.2)
     ·simp [hn] at hv
     simp only[hn,cond_true,M.aa,Option.some.injEq] at hv
     simp only[Bool.and_eq_true] at hb
     exact Bb hR aL (hd d aL) (bM (by rw[←hv];simp) d aL) ho hu hb.1.1.1 (Nat.le_of_ble_eq_true hb.1.1.2) (Nat.eq_of_beq_eq_true hb.1.2) (Nat.le_of_ble_eq_true hb.2) ⟨z,hz⟩ hq hn hv.symm
    ·simp at hv
   ·simp at hv
  | false=>
  simp only[eH,cond_false] at hv
  split at hv
  ·rename_i et d hu aL
   split at hv
   ·rename_i ct BD
    cases hb:aY P et ct.length && Nat.blt 0 ct.length && Nat.beq len parts.toList.length && Nat.ble (len*ct.length) 16777216
    ·simp only[hb,cond_false,M.mG,reduceCtorEq] at hv
    simp only[hb,cond_true,M.ae,Option.bind_eq_some_iff] at hv
    obtain⟨z,hz,q,hq,hv⟩:=hv
    cases hn:aO q.2.1
    ·simp [hn] at hv
    simp only[hn,cond_true,M.aa,Option.some.injEq] at hv
    simp only[Bool.and_eq_true] at hb
    exact kF hR aL (hd d aL) (bM (by rw[←hv];simp) d aL) ho hu hb.1.1.1 (Nat.le_of_ble_eq_true hb.1.1.2) (Nat.eq_of_beq_eq_true hb.1.2) (Nat.le_of_ble_eq_true hb.2) hq ⟨z,hz⟩ hn hv.symm
   ·simp at hv
  ·simp at hv
 ·rename_i t x ho
  simp only[M.ae,Option.bind_eq_some_iff] at hv
  obtain⟨s,h1,hv⟩:=hv
  unfold GS at hv
  split at hv
  ·rename_i id i z off
   simp only[M.aT,Option.bind_eq_some_iff] at hv
   obtain⟨ob,aK,hv⟩:=hv
   split at hv
   ·rename_i t' ct ts rows hl
    cases eH:mJ Γ o.dst with
    | false=>
     simp only[eH,cond_false] at hv
     exact B4 hR hd ho h1 aK hv aJ
    | true=>
     simp only[eH,cond_true] at hv
     cases D1:bg P t with
     | true=>
      simp only[D1,cond_true] at hv
      unfold GZ at hv
      split at hv
      ·rename_i e' t1 d j ja aL Kt
       cases hb:Nat.beq z ct.length && Nat.beq (aB ct) 1 && Nat.ble (off+j.size) ct.length
       ·simp [hb] at hv
       simp only[hb,cond_true,M.aa,Option.some.injEq] at hv
       simp only[Bool.and_eq_true] at hb
       obtain⟨⟨b1,b2⟩,b3⟩:=hb
       have b1:=Nat.eq_of_beq_eq_true b1
       subst b1
       have hi:i<rows.length:=by rw[←hv] at aJ;simpa using aJ
       exact B7 hR aL (hd d aL) (bM (by rw[←hv];simp) d aL) ho h1 aK ja (Nat.eq_of_beq_eq_true b2) D1 Kt (Nat.le_of_ble_eq_true b3) hi (by rw[←hv]) (by rw[←hv]) (by rw[←hv])
      ·simp at hv
     | false=>
     simp only[D1,cond_false] at hv
     unfold G0 at hv
     split at hv
     ·rename_i e' t1 d ja aL
      cases hb:Nat.beq z ct.length && Nat.beq (aB ct) 1 && !(bg P t) && (P.underlying t).isSome
      ·simp [hb] at hv
      simp only[hb,cond_true,M.aa,Option.some.injEq] at hv
      simp only[Bool.and_eq_true,Bool.not_eq_true'] at hb
      obtain⟨⟨⟨b1,b2⟩,b3⟩,b4⟩:=hb
      have b1:=Nat.eq_of_beq_eq_true b1
      subst b1
      obtain⟨td,hu⟩:=Option.isSome_iff_exists.1 b4
      have hi:i<rows.length:=by rw[←hv] at aJ;simpa using aJ
      exact C6 hR aL (hd d aL) (bM (by rw[←hv];simp) d aL) ho h1 aK ja (Nat.eq_of_beq_eq_true b2) b3 hu hi (by rw[←hv]) (by rw[←hv]) (by rw[←hv])
     ·simp at hv
   ·exact mB hR hd ho h1 hv aJ
  ·exact mB hR hd ho h1 hv aJ
 ·rename_i t x y ho
  simp only[M.ae,Option.bind_eq_some_iff] at hv
  obtain⟨sx,h1,sy,h2,hv⟩:=hv
  have plain:(Bf P t sx sy).val st.get st.obj=some e→Good P w0 S st o e a w:=by
   clear hv
   intro hv
   unfold Bf at hv
   simp only[M.ae,Option.bind_eq_some_iff] at hv
   obtain⟨bL,fC,hv⟩:=hv
   cases dx:aY P t bL.length
   ·simp [dx] at hv
   simp only[dx,cond_true] at hv
   split at hv
   ·rename_i id off
    simp only[M.aT,Option.bind_eq_some_iff] at hv
    obtain⟨ob,aK,hv⟩:=hv
    split at hv
    ·rename_i t' cells
     cases dP:Nat.ble (off+bL.length) cells.length
     ·simp [dP] at hv
     simp only[dP,cond_true,M.aa,Option.some.injEq] at hv
     exact lz hR hd ho h1 h2 fC dx aK (Nat.le_of_ble_eq_true dP) hv.symm
    ·simp at hv
   ·rename_i id i z off
    simp only[M.aT,Option.bind_eq_some_iff] at hv
    obtain⟨ob,aK,hv⟩:=hv
    split at hv
    ·rename_i t' ct rows fz u
     cases dP:Nat.beq z ct.length && Nat.ble (off+bL.length) ct.length
     ·simp [dP] at hv
     simp only[dP,cond_true,M.ae,Option.bind_eq_some_iff] at hv
     obtain⟨r,hr,hv⟩:=hv
     cases hm:bP id r.2.1 && aO r.2.1
     ·simp [hm] at hv
     simp only[hm,cond_true,M.aa,Option.some.injEq] at hv
     simp only[Bool.and_eq_true] at dP hm
     have hz:=Nat.eq_of_beq_eq_true dP.1
     subst hz
     have hi:i<rows.length:=by rw[←hv] at aJ;simpa using aJ
     exact lA hR hd ho h1 h2 fC dx aK (Nat.le_of_ble_eq_true dP.2) hr hm.1 hm.2 hi (by rw[←hv]) (by rw[←hv]) (by rw[←hv])
    ·simp at hv
   ·simp at hv
  unfold FB at hv
  split at hv
  ·rename_i id i z off
   simp only[M.aT,Option.bind_eq_some_iff] at hv
   obtain⟨ob,aK,hv⟩:=hv
   split at hv
   ·rename_i t' ct ts rows hl
    unfold FA at hv
    simp only[M.ae,Option.bind_eq_some_iff] at hv
    obtain⟨bL,fC,hv⟩:=hv
    cases dx:aY P t bL.length && Nat.beq z ct.length && Nat.ble (off+bL.length) ct.length
    ·simp [dx] at hv
    simp only[dx,cond_true] at hv
    simp only[Bool.and_eq_true] at dx
    obtain⟨⟨s1,s2⟩,s3⟩:=dx
    have s2:=Nat.eq_of_beq_eq_true s2
    subst s2
    have s3:=Nat.le_of_ble_eq_true s3
    cases hf:aq ((ct.drop off).take bL.length) with
    | true=>
     simp only[hf,cond_true,M.ae,Option.bind_eq_some_iff] at hv
     obtain⟨r,hr,hv⟩:=hv
     cases hm:r.2.1.isEmpty
     ·simp [hm] at hv
     simp only[hm,cond_true,M.aa,Option.some.injEq] at hv
     have hi:i<rows.length:=by rw[←hv] at aJ;simpa using aJ
     exact Be hR hd ho h1 h2 fC s1 aK s3 hf hr hi (by rw[←hv]) (by rw[←hv]) (by rw[←hv])
    | false=>
     simp only[hf,cond_false] at hv
     cases Ke:Nat.beq (aB ((ct.drop off).take bL.length)) (aB ct)
     ·simp [Ke] at hv
     simp only[Ke,cond_true,M.ae,Option.bind_eq_some_iff] at hv
     obtain⟨r,hr,hv⟩:=hv
     cases hm:cY (id::bn r.2)
     ·simp [hm] at hv
     simp only[hm,cond_true,M.aa,Option.some.injEq] at hv
     have hi:i<rows.length∧CD hl i=true:=by rw[←hv] at aJ;simpa using aJ
     exact Bd hR hd ho h1 h2 fC s1 aK s3 (Nat.eq_of_beq_eq_true Ke) hr hm hi.1 hi.2 (by rw[←hv]) (by rw[←hv]) (by rw[←hv])
   ·exact plain hv
  ·exact plain hv
 ·rename_i x ho
  simp only[M.ae,Option.bind_eq_some_iff] at hv
  obtain⟨s,h1,hv⟩:=hv
  exact mD hR hd ho h1 hv
 ·rename_i op t x y t' ho
  simp only[M.ae,Option.bind_eq_some_iff] at hv
  obtain⟨sx,h1,sy,h2,hv⟩:=hv
  exact DX hR hd ho h1 h2 hv aJ
 ·rename_i op t x ho
  simp only[M.ae,Option.bind_eq_some_iff] at hv
  obtain⟨sx,h1,hv⟩:=hv
  exact Fz hR hd ho h1 hv
 ·rename_i s t x ho
  simp only[M.ae,Option.bind_eq_some_iff] at hv
  obtain⟨sx,h1,hv⟩:=hv
  exact C1 hR hd bM ho h1 hv
 ·rename_i t l c ho
  simp only[M.ae,Option.bind_eq_some_iff] at hv
  obtain⟨sl,h1,sc,h2,hv⟩:=hv
  cases eH:mJ Γ o.dst with
  | true=>
   simp only[eH,cond_true] at hv
   unfold GU at hv
   split at hv
   ·rename_i et n m d hu aL
    split at hv
    ·rename_i ct ts i BD FJ hi
     cases hb:Nat.beq i.size ct.length && Nat.blt 0 ct.length
     ·simp [hb] at hv
     simp only[hb,cond_true,M.ae,Option.bind_eq_some_iff] at hv
     obtain⟨z,hz,r,hr,hv⟩:=hv
     cases Ci:(bn r.2).isEmpty
     ·simp [Ci] at hv
     simp only[Ci,cond_true,M.aa,Option.some.injEq] at hv
     simp only[Bool.and_eq_true] at hb
     exact B5 hR aL (hd d aL) (bM (by rw[←hv];simp) d aL) ho h1 h2 hu hi (Nat.eq_of_beq_eq_true hb.1) hz hr (by simpa using Ci) hv.symm aJ
    ·simp at hv
   ·simp at hv
  | false=>
  simp only[eH,cond_false] at hv
  unfold GV at hv
  split at hv
  ·rename_i et n m d hu aL
   split at hv
   ·rename_i ct i BD hi
    cases hb:Nat.beq i.size ct.length && Nat.blt 0 ct.length
    ·simp [hb] at hv
    simp only[hb,cond_true,M.ae,Option.bind_eq_some_iff,M.aa,Option.some.injEq] at hv
    obtain⟨z,hz,r,hr,hv⟩:=hv
    simp only[Bool.and_eq_true] at hb
    exact C4 hR aL (hd d aL) (bM (by rw[←hv];simp) d aL) ho h1 h2 hu hi (Nat.eq_of_beq_eq_true hb.1) hz hr hv.symm aJ
   ·simp at hv
  ·simp at hv
 ·rename_i t x lo hi mx ho
  split at hv
  ·simp only[M.ae,Option.bind_eq_some_iff] at hv
   obtain⟨sx,h1,sl,h2,sh,h3,hv⟩:=hv
   cases eH:mJ Γ o.dst
   ·simp only[eH,cond_false] at hv
    exact B6 hR hd ho h1 h2 h3 hv aJ
   ·simp only[eH,cond_true] at hv
    exact Bc hR hd ho h1 h2 h3 hv aJ
  ·simp at hv
 ·rename_i t x f ho
  split at hv
  ·rename_i fs hu
   split at hv
   ·rename_i fd hf
    cases hz:aY P fd.type 0
    ·simp only[hz,cond_false] at hv
     split at hv
     ·simp at hv
     ·rename_i i hi
      simp only[M.ae,Option.bind_eq_some_iff] at hv
      obtain⟨s,h1,hv⟩:=hv
      exact ly hR hd ho hu hf hz hi h1 hv
    ·simp [hz] at hv
   ·simp at hv
  ·simp at hv
 ·rename_i t x i ho
  simp only[M.ae,Option.bind_eq_some_iff] at hv
  obtain⟨sx,h1,si,h2,hv⟩:=hv
  exact kG hR hd ho h1 h2 hv aJ
 ·rename_i t x i ho
  simp only[M.ae,Option.bind_eq_some_iff] at hv
  obtain⟨sx,h1,si,h2,hv⟩:=hv
  exact B3 hR hd ho h1 h2 hv aJ
 ·rename_i x i ho
  simp only[M.ae,Option.bind_eq_some_iff] at hv
  obtain⟨sx,h1,hv⟩:=hv
  split at hv
  ·rename_i vs
   split at hv
   ·rename_i v MH
    simp only[M.aa,Option.some.injEq] at hv
    exact mY hR hd ho h1 MH hv.symm
   ·simp at hv
  ·simp at hv
 ·rename_i c ho
  split at hv
  ·rename_i g hg
   simp only[M.ae,Option.bind_eq_some_iff] at hv
   obtain⟨l,hl,hv⟩:=hv
   cases jH:Gc Γ g with
   | none=>
    unfold kL at hv
    rw[jH] at hv
    simp at hv
   | some s=>
    cases eH:s.G4 with
    | true=>
     unfold kL at hv
     rw[jH] at hv
     simp only[eH,cond_true] at hv
     simp at hv
    | false=>
    cases hp:s.pt with
    | some q=>
     unfold kL at hv
     rw[jH] at hv
     simp only[eH,cond_false,hp] at hv
     simp at hv
    | none=>
    cases hm:s.ms with
    | nil=>
     cases aL:o.dst with
     | none=>
      unfold kL at hv
      rw[jH,aL] at hv
      simp only[eH,cond_false,hp,hm] at hv
      simp at hv
     | some d=>
      rw[aL] at hv
      exact C0 eV jH eH hp hm hR aL (hd d aL) (fun h=>bM h d aL) ho hg hl hv aJ
    | cons m ms=>
     have hv':(AF s o.dst l).val st.get st.obj=some e:=by
      unfold kL at hv
      rw[jH] at hv
      simp only[eH,cond_false,hp,hm] at hv
      exact hv
     refine B2 eV jH eH hp (by rw[hm];simp) hR hd (fun d aL h=>bM h d aL) (us:=c.args.toList.map a.eval) (fun fn hf hb hn=> ?_) (fun β φ hc=>AJ hc _ l hl) hv' aJ
     have E7:c.args.map a.eval=(c.args.toList.map a.eval).toArray:=by rw[←Array.toList_map,Array.toArray_toList]
     rw[←E7]
     exact BZ ho hg hf hb hn
  ·rename_i hb
   split at hv
   ·rename_i x t hx ht
    simp only[M.ae,Option.bind_eq_some_iff] at hv
    obtain⟨s,h1,hv⟩:=hv
    exact C3 hR hd ho hb (mF hx) (mF ht) h1 hv
   ·simp at hv
  ·rename_i hb
   split at hv
   ·rename_i x y hx
    simp only[M.ae,Option.bind_eq_some_iff] at hv
    obtain⟨s,h1,s2,h2,hv⟩:=hv
    exact j5 (mx:=false) hR hd ho hb (bK hx) h1 h2 hv
   ·simp at hv
  ·rename_i hb
   split at hv
   ·rename_i x y hx
    simp only[M.ae,Option.bind_eq_some_iff] at hv
    obtain⟨s,h1,s2,h2,hv⟩:=hv
    exact j5 (mx:=true) hR hd ho hb (bK hx) h1 h2 hv
   ·simp at hv
  ·rename_i hb
   split at hv
   ·rename_i s x t t' hx ht
    cases kv:Nat.beq t t'
    ·simp only[kv,cond_false,M.ae,Option.bind_eq_some_iff] at hv
     obtain⟨ss,h1,sx,h2,hv⟩:=hv
     exact mX hR hd bM ho hb (bK hx) (bK ht) h1 h2 hv aJ
    simp only[kv,cond_true] at hv
    have kx:=Nat.eq_of_beq_eq_true kv
    subst kx
    simp only[M.ae,Option.bind_eq_some_iff] at hv
    obtain⟨ss,h1,sx,h2,hv⟩:=hv
    cases eH:mJ Γ o.dst with
    | true=>
     simp only[eH,cond_true] at hv
     unfold C9 at hv
     split at hv
     ·rename_i et d hu aL
      split at hv
      ·rename_i ct ts BD FJ
       cases mT:aY P et ct.length && Nat.blt 0 ct.length
       ·simp [mT] at hv
       simp only[mT,cond_true,M.ae,Option.bind_eq_some_iff] at hv
       obtain⟨z,hz,hv⟩:=hv
       cases jN:Nat.beq z.length ct.length
       ·simp [jN] at hv
       simp only[jN,cond_true,M.ae,Option.bind_eq_some_iff] at hv
       obtain⟨p,KW,q,KX,hv⟩:=hv
       cases hn:cY (p.2++q.2)
       ·simp [hn] at hv
       simp only[hn,cond_true,M.aa,Option.some.injEq] at hv
       simp only[Bool.and_eq_true] at mT
       have eI:fw P et (p.1.length+q.1.length)=true:=by rw[←hv] at aJ;exact aJ
       exact mW hR aL (hd d aL) (bM (by rw[←hv];simp) d aL) ho hb (bK hx) (bK ht) h1 h2 hu mT.1 (Nat.le_of_ble_eq_true mT.2) hz (Nat.eq_of_beq_eq_true jN) KW KX hn eI (by rw[←hv]) (by rw[←hv]) (by rw[←hv])
      ·simp at hv
     ·simp at hv
    | false=>
    simp only[eH,cond_false] at hv
    unfold C_ at hv
    split at hv
    ·rename_i et d hu aL
     split at hv
     ·rename_i ct BD
      cases mT:aY P et ct.length && Nat.blt 0 ct.length
      ·simp [mT] at hv
      simp only[mT,cond_true,M.ae,Option.bind_eq_some_iff] at hv
      obtain⟨z,hz,hv⟩:=hv
      cases jN:Nat.beq z.length ct.length
      ·simp [jN] at hv
      simp only[jN,cond_true] at hv
      have F9:=Nat.eq_of_beq_eq_true jN
      simp only[Bool.and_eq_true] at mT
      have jJ:0<ct.length:=Nat.le_of_ble_eq_true mT.2
      split at hv
      ·simp only[M.ae,Option.bind_eq_some_iff,M.aa,Option.some.injEq] at hv
       obtain⟨q,hq,hv⟩:=hv
       have eI:fw P et q.1.length=true:=by rw[←hv] at aJ;exact aJ
       exact kD hR aL (hd d aL) (bM (by rw[←hv];simp) d aL) ho hb (bK hx) (bK ht) h1 h2 hu mT.1 jJ hz F9 hq eI (by rw[←hv]) (by rw[←hv]) (by rw[←hv])
      ·rename_i id
       simp only[M.aT,Option.bind_eq_some_iff] at hv
       obtain⟨ob,aK,hv⟩:=hv
       split at hv
       ·rename_i t' e' r u
        cases he:Nat.beq t' et && aF e' ct
        ·simp [he] at hv
        simp only[he,cond_true,M.ae,Option.bind_eq_some_iff] at hv
        obtain⟨q,hq,hv⟩:=hv
        cases hn:bP id q.2.1
        ·simp [hn] at hv
        simp only[hn,cond_true,M.aa,Option.some.injEq] at hv
        simp only[Bool.and_eq_true] at he
        have e1:=Nat.eq_of_beq_eq_true he.1
        have e2:=aN _ _ he.2
        subst e1 e2
        have eI:fw P t' (r.length+q.1.length)=true:=by rw[←hv] at aJ;exact aJ
        exact kE hR aL (hd d aL) (bM (by rw[←hv];simp) d aL) ho hb (bK hx) (bK ht) h1 h2 aK hu mT.1 jJ hz F9 hq hn eI (by rw[←hv]) (by rw[←hv]) (by rw[←hv])
       ·simp at hv
      ·simp at hv
     ·simp at hv
    ·simp at hv
   ·simp at hv
  ·rename_i hb
   split at hv
   ·rename_i s x t t' hx ht
    simp only[M.ae,Option.bind_eq_some_iff] at hv
    obtain⟨ss,h1,sx,h2,hv⟩:=hv
    exact C2 hR hd ho hb (bK hx) (bK ht) h1 h2 hv aJ
   ·simp at hv
  ·simp at hv
 ·simp at hv
end Go.Proofs.YtoaflbnkiobhdaaGreat.Vm
namespace Go.Proofs.YtoaflbnkiobhdaaGreat.Vm
structure Tr (st HW:St):Prop where
 n:HW.n=st.n
 ok:st.ok=true
 get:∀i,i ∉ HW.ls→HW.get i=st.get i
 ls:∀i∈st.ls,i∈HW.ls
 obj:∀id o,st.obj id=some o→id ∉ HW.lm→HW.obj id=some o
 lm:∀i∈st.lm,i∈HW.lm
theorem Tr.refl {st:St} (h:st.ok=true):Tr st st:=⟨rfl,h,fun _ _=>rfl,fun _ h=>h,fun _ _ h _=>h,fun _ h=>h⟩
theorem Tr.trans {a b c:St} (h:Tr a b) (k:Tr b c):Tr a c:=
 ⟨k.n.trans h.n,h.ok,fun i hi=>(k.get i hi).trans (h.get i (fun h'=>hi (k.ls i h'))),fun i hi=>k.ls i (h.ls i hi),
  fun id o ho hi=>k.obj id o (h.obj id o ho (fun h'=>hi (k.lm id h'))) hi,fun i hi=>k.lm i (h.lm i hi)⟩
theorem EA {ow:List (Nat×Option aj)} {h:Nat→Option aj} {j:Nat} (hj:j ∉ ow.map (·.1)):fo ow h j=h j:=by
 induction ow with
 | nil=>rfl
 | cons x l ih=>
  obtain⟨i,ob⟩:=x
  simp only[List.map_cons,List.mem_cons,not_or] at hj
  simp only[fo,az,hj.1,if_false]
  exact ih hj.2
theorem Ca {st:St} {d:Option Nat} {e:cG} (aJ:(st.apply d e).ok=true):Tr st (st.apply d e):=by
 have HB:st.ok=true:=by
  simp only[St.apply,gn] at aJ
  exact aJ.1.1
 refine⟨rfl,HB,fun i hi=> ?_,fun i hi=> ?_,fun id o ho hi=> ?_,fun i hi=> ?_⟩
 ·cases d with
  | none=>rfl
  | some d=>
   have dQ:i≠d:=fun h=>hi (by simp [St.apply,h])
   rw[apply_get]
   simp [az,dQ]
 ·cases d<;>simp [St.apply,hi]
 ·rw[fg]
  simp only[St.apply,List.mem_append,not_or] at hi
  rw[EA hi.2.1]
  cases jF:e.cw with
  | none=>exact ho
  | some x=>
   obtain⟨k,off,bL⟩:=x
   simp only[jF,List.mem_singleton] at hi
   rw[←ho]
   simp only[fc]
   cases st.obj k with
   | none=>rfl
   | some b=>cases b<;>simp [az,hi.1]
 ·simp only[St.apply,List.mem_append]
  exact .inr (.inr hi)
theorem bc {st:St} :st.fail.ok=false:=rfl
theorem Dy {P:Program} {Γ:Ctx} {st:St} {o:Oper} (aJ:(st.cz P Γ o).ok=true):Tr st (st.cz P Γ o):=by
 unfold St.cz at aJ ⊢
 split
 ·rename_i e r hr
  simp only[hr] at aJ
  cases hf:jy o.dst e st
  ·simp [hf,bc] at aJ
  ·simp only[hf,cond_true] at aJ ⊢
   exact Ca aJ
 ·rename_i hr
  simp [hr,bc] at aJ
theorem mn (st:St) (s:Nat) (b:Bool):(st.fP s b).get=az st.get s (.kb b):=by
 funext i
 show je ((s,.kb b)::st.sl) i=_
 simp only[je,az,St.get]
 cases hk:Nat.beq s i
 ·have e2:=Nat.ne_of_beq_eq_false hk
  rw[if_neg (fun h=>e2 h.symm)]
  rfl
 ·simp [(Nat.eq_of_beq_eq_true hk).symm]
theorem j8 {st:St} {s:Nat} {b:Bool} (aJ:st.ok=true):Tr st (st.fP s b):=by
 refine⟨rfl,aJ,fun i hi=> ?_,fun i hi=>by simp [St.fP,hi],fun _ _ h _=>h,fun _ h=>h⟩
 rw[mn]
 have:i≠s:=fun h=>hi (by simp [St.fP,h])
 simp [az,this]
theorem gb {i:Nat} {l:List Nat} :ic i l=true↔i∈l:=by
 induction l with
 | nil=>simp [ic]
 | cons k l ih=>
  simp only[ic,Bool.or_eq_true,List.mem_cons,ih]
  constructor
  ·rintro (h | h)
   ·exact .inl (Nat.eq_of_beq_eq_true h).symm
   ·exact .inr h
  ·rintro (rfl | h)
   ·exact .inl (Nat.beq_refl i)
   ·exact .inr h
theorem Ao {i:Nat} {l:List Nat} :i∈dedup l↔i∈l:=by
 induction l with
 | nil=>simp [dedup]
 | cons k l ih=>
  simp only[dedup]
  cases hm:ic k l
  ·simp [ih]
  ·simp only[cond_true,List.mem_cons,ih]
   constructor
   ·exact .inr
   ·rintro (rfl | h)
    ·exact gb.1 hm
    ·exact h
theorem ib {g:Bool} {f h:Nat→SV} {l:List (Nat×SV)} :∀(r:List Nat) (i:Nat),je (gA g f h r l) i=if i∈r then fb g (f i) (h i) else je l i
 | [],i=>by simp [gA]
 | k::r,i=>by
  simp only[gA,je]
  cases hk:Nat.beq k i
  ·have e2:=Nat.ne_of_beq_eq_false hk
   simp only[cond_false,ib r i,List.mem_cons]
   by_cases hi:i∈r
   ·simp [hi]
   ·rw[if_neg hi,if_neg (fun h=>h.elim (fun h=>e2 h.symm) hi)]
  ·have e1:=Nat.eq_of_beq_eq_true hk
   subst e1
   simp
theorem ie {hp:List (Nat×aj)} :∀ {l:List Nat} {i:Nat},i∈cE hp l↔i∈l∧∃o,dE hp i=some o
 | [],i=>by simp [cE]
 | k::l,i=>by
  simp only[cE]
  cases hk:dE hp k with
  | none=>
   simp only[ie (l:=l),List.mem_cons]
   constructor
   ·rintro ⟨h1,h2⟩
    exact⟨.inr h1,h2⟩
   ·rintro ⟨rfl | h1,h2⟩
    ·rw[hk] at h2;obtain⟨o,h2⟩:=h2;cases h2
    ·exact⟨h1,h2⟩
  | some o=>
   simp only[List.mem_cons,ie (l:=l)]
   constructor
   ·rintro (rfl | ⟨h1,h2⟩)
    ·exact⟨.inl rfl,o,hk⟩
    ·exact⟨.inr h1,h2⟩
   ·rintro ⟨rfl | h1,h2⟩
    ·exact .inl rfl
    ·exact .inr ⟨h1,h2⟩
theorem lZ {g:Bool} {f k h:Nat→Option aj} :∀(l:List Nat) (i:Nat),fo (jP g f k l) h i=if i∈l then mv g (f i) (k i) else h i
 | [],i=>by simp [jP,fo]
 | j::l,i=>by
  simp only[jP,fo,az,List.mem_cons]
  by_cases hi:i=j
  ·subst hi;simp
  ·simp only[hi,if_false,false_or]
   exact lZ l i
theorem Ap (pre:St) (g:Bool) (a b:St) (i:Nat):(merge pre g a b).obj i=if i∈cE pre.hp (dedup (a.lm++b.lm)) then mv g (a.obj i) (b.obj i) else pre.obj i:=by
 show dE (kB _ pre.hp) i=_
 rw[ia,lZ]
 rfl
theorem Cc {pre a b:St} {g:Bool} (hp:pre.ok=true) (J0:(merge pre g a b).ok=true):Tr pre (merge pre g a b):=by
 refine⟨rfl,hp,fun i hi=> ?_,fun i hi=>List.mem_append_right _ hi,fun i o h hi=> ?_,fun i h=>List.mem_append_right _ h⟩
 ·have hi:i ∉ dedup (a.ls++b.ls)∧i ∉ pre.ls:=by simpa only[merge,List.mem_append,not_or] using hi
  show je (gA g a.get b.get (dedup (a.ls++b.ls)) pre.sl) i=je pre.sl i
  rw[ib,if_neg hi.1]
 ·have hi:i ∉ cE pre.hp (dedup (a.lm++b.lm)):=fun h'=>hi (List.mem_append_left _ h')
  rw[Ap,if_neg hi]
  exact h
theorem Core.sub {w0:World} {S:Own} {f f':Nat→SV} {h h':Nat→Option aj} {β:Env} {φ:Nat→List Nat} {tm:Array Value} {w:World} (hc:Core w0 S f h β φ tm w)
  (hh:∀j o,h' j=some o→h j=some o∨∃t cs Bu,o= .box t Bu∧h j=some (.box t cs)∧∀vs,af w (Av h' β) β cs vs→af w (Av h' β) β Bu vs)
  (hf:∀i v,ak w (Av h' β) β (f i) v→ak w (Av h' β) β (f' i) v):Core w0 S f' h' β φ tm w:=by
 have E2:∀j o,h' j=some o→∃o',h j=some o'∧al β j o=al β j o':=by
  intro j o ho
  rcases hh j o ho with h1 | ⟨t,cs,Bu,rfl,h1,_⟩
  ·exact⟨o,h1,rfl⟩
  ·exact⟨_,h1,rfl⟩
 have cO:∀b,Av h' β b→Av h β b:=fun b hb=>hb.imp (fun ⟨j,o,hj,hb⟩=>by
  obtain⟨o',h1,h2⟩:=E2 j o hj
  exact⟨j,o',h1,h2 ▸ hb⟩) id
 have hm:=hc.step (h':=h') (β':=β) (φ':=φ) (w':=w) (fun _=>False) (Nat.le_refl _) (fun _ _ _=>rfl) (fun b hb=> .inl (cO b hb)) (fun _ _ _ h=>h) (fun _ _=>⟨rfl,rfl⟩)
  (fun id o ho=>by
   rcases hh id o ho with h1 | ⟨t,cs,Bu,rfl,h1,h2⟩
   ·exact .inl ⟨fun h=>h,h1,rfl,fun _ _ h=>h,fun _ _=>rfl⟩
   ·refine .inr ⟨?_,hc.fresh id _ h1⟩
    have h3:=(hc.ay id _ h1).mono (w':=w) (av':=Av h' β) (β':=β) (Nat.le_refl _) (fun _ _ _=>rfl) (fun b hb=> .inl (cO b hb)) (fun _ _=>⟨rfl,rfl⟩) (fun _ _=>rfl) rfl
    obtain⟨vs,e1,e2,e3,e4⟩:=h3
    exact⟨vs,e1,h2 vs e2,e3,e4⟩)
  (fun i j o p cJ hi hj b hb=>by
   obtain⟨o',h1,_⟩:=E2 i o hi
   obtain⟨p',h2,_⟩:=E2 j p hj
   exact hc.sep i j o' p' cJ h1 h2 b hb)
 exact⟨fun i=>hf i _ (hm.bZ i),hm.ay,hm.fresh,hm.sep,hm.gH,hm.bars⟩
theorem DN {w:World} {av:Nat→Prop} {β:Env} {g:Bool} {x y:Option aj} {o:aj} (h:mv g x y=some o):
  (bif g then x else y)=some o∨∃t cs Bu,o= .box t Bu∧(bif g then x else y)=some (.box t cs)∧∀vs,af w av β cs vs→af w av β Bu vs:=by
 unfold mv at h
 split at h
 ·rename_i t cs t' Bu
  cases hc:Nat.beq t t' && Nat.beq cs.length Bu.length
  ·simp [hc] at h
  ·simp only[hc,cond_true,Option.some.injEq] at h
   simp only[Bool.and_eq_true] at hc
   have ht:=Nat.eq_of_beq_eq_true hc.1
   have hl:=Nat.eq_of_beq_eq_true hc.2
   subst ht h
   refine .inr ⟨t,bif g then cs else Bu,_,rfl,by cases g<;>rfl,fun vs hv=>af.merge g cs Bu vs hl hv⟩
 ·rename_i t e r fz u t' e' r' JC u'
  cases hc:Nat.beq t t' && aF e e' && (fz==JC) && (u==u')
  ·simp [hc] at h
  ·simp only[hc,cond_true,Option.some.injEq] at h
   simp only[Bool.and_eq_true] at hc
   have ht:=Nat.eq_of_beq_eq_true hc.1.1.1
   have he:=aN _ _ hc.1.1.2
   have hf:fz=JC:=by simpa using hc.1.2
   have hu:u=u':=by simpa using hc.2
   subst ht he hf hu h
   refine .inl ?_
   cases g<;>rfl
 ·cases h
theorem gg {w0:World} {S:Own} {pre yes no:St} {g:Bool} {a:Act} {w:World} (hy:g=true→Tr pre.reset yes∧Rel w0 S yes a w) (hn:g=false→Tr pre.reset no∧Rel w0 S no a w)
  (J0:(merge pre g yes no).ok=true):Rel w0 S (merge pre g yes no) a w:=by
 have key:∀r:St,Tr pre.reset r→Rel w0 S r a w→(∀i∈r.ls,i∈yes.ls++no.ls)→(∀i∈r.lm,i∈yes.lm++no.lm)→(∀i v av β,ak w av β (r.get i) v→ak w av β (fb g (yes.get i) (no.get i)) v)→
   (∀i,(bif g then yes.obj i else no.obj i)=r.obj i)→Rel w0 S (merge pre g yes no) a w:=by
  intro r ht hr Mt FH Mv AZ
  obtain⟨β,φ,hc⟩:=hr.core
  refine⟨hr.size.trans (congrArg (· % 1099511627776) ht.n),fun x hx=>by have h1:=hr.fx x hx;rw[ht.n] at h1;exact h1,hr.defers,hr.kept,β,φ, ?_⟩
  refine hc.sub (fun j o ho=> ?_) (fun i v hv=> ?_)
  ·rw[Ap] at ho
   split at ho
   ·have:=DN (w:=w) (av:=Av (merge pre g yes no).obj β) (β:=β) ho
    rw[AZ j] at this
    exact this
   ·rename_i hj
    refine .inl (ht.obj j o ho (fun h=>hj ?_))
    exact ie.2 ⟨Ao.2 (FH j h),o,ho⟩
  ·show ak w _ β (je (gA g yes.get no.get (dedup (yes.ls++no.ls)) pre.sl) i) v
   rw[ib]
   split
   ·exact Mv i v _ β hv
   ·rename_i hi
    have:r.get i=pre.get i:=ht.get i (fun h=>hi (Ao.2 (Mt i h)))
    rw[this] at hv
    exact hv
 cases g with
 | true=>
  obtain⟨ht,hr⟩:=hy rfl
  exact key yes ht hr (fun i hi=>List.mem_append_left _ hi) (fun i hi=>List.mem_append_left _ hi) (fun i v av β hv=>ak.merge true _ _ _ hv) (fun _=>rfl)
 | false=>
  obtain⟨ht,hr⟩:=hn rfl
  exact key no ht hr (fun i hi=>List.mem_append_right _ hi) (fun i hi=>List.mem_append_right _ hi) (fun i v av β hv=>ak.merge false _ _ _ hv) (fun _=>rfl)
theorem Rel.reset {w0:World} {S:Own} {st:St} {a:Act} {w:World} (h:Rel w0 S st a w):Rel w0 S st.reset a w:=⟨h.size,h.fx,h.defers,h.kept,h.core⟩
theorem Rel.fP {w0:World} {S:Own} {st:St} {a:Act} {w:World} (h:Rel w0 S st a w) {s:Nat} {b:Bool} (hs:a.tmps.getD s undef= .bool b):Rel w0 S (st.fP s b) a w:=by
 obtain⟨β,φ,hc⟩:=h.core
 refine⟨h.size,h.fx,h.defers,h.kept,β,φ, ?_⟩
 rw[mn]
 exact⟨fun i=>by
  by_cases hi:i=s
  ·subst hi
   simp only[az,if_true,ak]
   exact hs
  ·have:=hc.bZ i
   show ak w (Av st.obj β) β _ _
   simpa only[az,hi,if_false] using this,hc.ay,hc.fresh,hc.sep,hc.gH,hc.bars⟩
theorem Rel.Au {w0:World} {S:Own} {st:St} {a:Act} {w:World} (h:Rel w0 S st a w) {s:Nat} {g:Bool} (hs:st.get s= .bool g):a.tmps.getD s undef= .bool g:=by
 obtain⟨β,φ,hc⟩:=h.core
 have:=hc.bZ s
 rw[hs] at this
 simpa only[ak] using this
theorem bf {P:Program} {Γ:Ctx} {ops:Array Oper} {gs:List Nat} {kg:List cr→Bool} :∀(rest:List Oper) (i:Nat) (acc:List cr) (st:St),(a9 P Γ ops gs kg rest i acc st).ok=true→
  Tr st (a9 P Γ ops gs kg rest i acc st)
 | [],i,acc,st,h=>by
  simp only[a9] at h ⊢
  simp only[gn] at h
  exact⟨rfl,h.1,fun _ _=>rfl,fun _ h=>h,fun _ _ h _=>h,fun _ h=>h⟩
 | o::rest,i,acc,st,h=>by
  rw[a9] at h ⊢
  split
  ·rename_i hw;simp [hw,bc] at h
  ·rename_i hw
   simp only[hw] at h
   have h1:=bf rest _ _ _ h
   exact (Ca h1.ok).trans h1
  ·rename_i hw
   simp only[hw] at h
   have plain:(a9 P Γ ops gs kg rest (i+1) (acc++[bG P Γ ops i st o]) (st.cz P Γ o)).ok=true→Tr st (a9 P Γ ops gs kg rest (i+1) (acc++[bG P Γ ops i st o]) (st.cz P Γ o)):=by
    intro h'
    have h1:=bf rest _ _ _ h'
    exact (Dy h1.ok).trans h1
   split
   ·rename_i hd
    simp only[hd] at h
    exact plain h
   ·rename_i s hd
    simp only[hd] at h
    cases hm:ic s gs
    ·simp only[hm,cond_false] at h ⊢
     exact plain h
    ·simp only[hm,cond_true] at h ⊢
     split
     ·rename_i g hg
      simp only[hg] at h
      have DL:(st.cz P Γ o).ok=true:=by
       have h':=h
       simp only[merge,Ft] at h'
       cases g with
       | true=>simp only[cond_true] at h';exact (bf rest _ _ _ h').ok
       | false=>simp only[cond_false] at h';exact (bf rest _ _ _ h').ok
      exact (Dy DL).trans (Cc DL h)
     ·rename_i hg
      have h':(a9 P Γ ops gs kg rest (i+1) (acc++[bG P Γ ops i st o]) (st.cz P Γ o)).ok=true:=by
       revert h
       split
       ·rename_i g H3;exact absurd H3 (hg g)
       ·exact id
      exact plain h'
end Go.Proofs.YtoaflbnkiobhdaaGreat.Vm
set_option linter.unusedVariables false
set_option linter.unusedSimpArgs false
namespace Go.Proofs.YtoaflbnkiobhdaaGreat.Vm
theorem ji {ds l:List Nat} (h:mw ds l=true):∀i∈l,i / 64 ∉ ds:=by
 induction l with
 | nil=>simp
 | cons k l ih=>
  simp only[mw,Bool.and_eq_true,Bool.not_eq_true'] at h
  intro i hi
  rcases List.mem_cons.1 hi with rfl | hi
  ·intro hm
   rw[gb.2 hm] at h
   simp at h
  ·exact ih h.2 i hi
theorem Gd {l:List (Nat×SV)} {i:Nat} :je l i= .fA∨∃x∈l,je l i=x.2:=by
 induction l with
 | nil=>exact .inl rfl
 | cons y l ih=>
  obtain⟨k,s⟩:=y
  simp only[je]
  cases Nat.beq k i
  ·rcases ih with h | ⟨x,hx,h⟩
   ·exact .inl h
   ·exact .inr ⟨x,List.mem_cons_of_mem _ hx,h⟩
  ·exact .inr ⟨_,List.mem_cons_self ..,rfl⟩
theorem Dn {l:List (Nat×aj)} {i:Nat} {ob:aj} (h:dE l i=some ob):(i,ob)∈l:=by
 induction l with
 | nil=>simp [dE] at h
 | cons y l ih=>
  obtain⟨k,s⟩:=y
  simp only[dE] at h
  cases hk:Nat.beq k i
  ·simp only[hk,cond_false] at h
   exact List.mem_cons_of_mem _ (ih h)
  ·simp only[hk,cond_true,Option.some.injEq] at h
   rw[Nat.eq_of_beq_eq_true hk,h]
   exact List.mem_cons_self ..
theorem BB {ds:List Nat} {st:St} (h:eG ds st=true):∀d∈ds,bw st d:=by
 intro d hd
 simp only[eG,Bool.and_eq_true,List.all_eq_true] at h
 constructor
 ·intro i j hj
  rcases Gd (l:=st.sl) (i:=i) with h0 | ⟨x,hx,h0⟩
  ·have:st.get i= .fA:=h0
   rw[this] at hj
   simp [bU] at hj
  ·have:st.get i=x.2:=h0
   rw[this] at hj
   exact fun e=>ji (h.1 x hx) j hj (e ▸ hd)
 ·intro j ob hj
  have hm:=h.2 _ (Dn hj)
  refine⟨fun e=>ji hm j (List.mem_cons_self ..) (e ▸ hd),fun k hk e=>ji hm k (List.mem_cons_of_mem _ hk) (e ▸ hd)⟩
section
variable {P:Program} {Γ:Ctx} {w0:World} {S:Own} {ops:Array Oper} {gs:List Nat}
theorem lV {st:St} {o:Oper} (h:(st.cz P Γ o).ok=true):∃e s r,(evalOp P Γ o).run st.get st.obj=some (e,s,r)∧jy o.dst e st=true∧st.cz P Γ o=st.apply o.dst e:=by
 unfold St.cz at h ⊢
 split at h
 ·rename_i e r hr
  obtain⟨s,r⟩:=r
  cases hf:jy o.dst e st
  ·simp [hf,bc] at h
  ·exact⟨e,s,r,hr,hf,by simp [hr,hf]⟩
 ·simp [bc] at h
theorem Ab (eV:bE P Γ) {st:St} {o:Oper} {a:Act} {w:World} (hR:Rel w0 S st a w) (h:(st.cz P Γ o).ok=true) (Q:Exit→Act→World→Prop):
  o.wp P a w (fun a' w'=>∃v,a'=a.put o.dst v∧Rel w0 S (st.cz P Γ o) a' w') Q:=by
 obtain⟨e,s,r,hr,hf,he⟩:=lV h
 rw[he] at h ⊢
 simp only[St.apply,gn] at h
 refine BU eV hR (M.eA _ hr) h.1.2 (fun d hd=> ?_) (fun how d hd=> ?_) Q
 ·have:=h.2
  rw[hd] at this
  exact lD this
 ·unfold jy at hf
  rw[hd] at hf
  split at hf
  ·rename_i d' _ Ix
   injection Ix with Ix
   subst Ix
   exact BB hf d (List.mem_singleton.2 rfl)
  ·rename_i BJ
   cases hw:e.ow with
   | nil=>exact absurd hw how
   | cons x l=>exact (BJ x l d hw rfl).elim
theorem kJ {st:St} {o:Oper} {a:Act} {w:World} {b:Bool} (hR:Rel w0 S st a w) (h:fB ops st o=some b):Region.wanted o (yielded ops a.tmps)=b:=by
 obtain⟨β,φ,hc⟩:=hR.core
 unfold fB at h
 unfold Region.wanted
 split at h
 ·rename_i hg
  simp only[hg]
  simpa using h
 ·rename_i j want hg
  simp only[hg]
  split at h
  ·cases h
  ·rename_i s hs
   have kt:=hc.bZ s
   split at h
   ·rename_i b' ax
    rw[ax] at kt
    simp only[ak] at kt
    have:a.tmps[s]? =some (.bool b'):=by
     rw[Array.getD_eq_getD_getElem?] at kt
     cases hq:a.tmps[s]? with
     | none=>rw[hq] at kt;simp [undef] at kt
     | some v=>rw[hq] at kt;simpa using kt
    simp only[yielded,hs,Option.bind_some,this]
    have h:=Option.some.inj h
    rw[←h]
    rfl
   ·rename_i ax
    rw[ax] at kt
    simp only[ak] at kt
    have:∀c,a.tmps[s]? ≠some (.bool c):=by
     intro c hq
     rw[Array.getD_eq_getD_getElem?,hq] at kt
     simp [undef] at kt
    have hy:yielded ops a.tmps j=none:=by
     unfold yielded
     rw[hs]
     simp only[Option.bind_some]
    rw[hy]
    have h:=Option.some.inj h
    rw[←h]
    rfl
   ·cases h
theorem Fy {st:St} {o:Oper} {a:Act} {w:World} (hR:Rel w0 S st a w) (h:(st.skip o.dst).ok=true):Rel w0 S (st.skip o.dst) (a.put o.dst undef) w:=by
 obtain⟨β,φ,hc⟩:=hR.core
 refine iH hR (fun d hd=> ?_) hR.kept ⟨β,φ,hc,by simp [ak]⟩
 simp only[St.skip,St.apply,gn] at h
 have:=h.2
 rw[hd] at this
 exact lD this
theorem Rel.GW {st:St} {a:Act} {w:World} (hR:Rel w0 S st a w) (b:Bool):Rel w0 S {st with ok:=b} a w:=⟨hR.size,hR.fx,hR.defers,hR.kept,hR.core⟩
theorem cX {pre a b:St} {g:Bool} (h:(merge pre g a b).ok=true):(g=true→a.ok=true)∧(g=false→b.ok=true):=by
 simp only[merge,Ft] at h
 cases g
 ·exact⟨by simp,fun _=>h⟩
 ·exact⟨fun _=>h,by simp⟩
theorem eF (eV:bE P Γ) {kg:List cr→Bool} {Q:Exit→Act→World→Prop} :∀(rest:List Oper) (i:Nat) (acc:List cr) (st:St) (a:Act) (w:World),Rel w0 S st a w→
  (a9 P Γ ops gs kg rest i acc st).ok=true→(∀a' w',Rel w0 S (a9 P Γ ops gs kg rest i acc st) a' w'→Q .normal a' w')→wpList P ops Q rest a w
 | [],i,acc,st,a,w,hR,aJ,hQ=>by
  simp only[a9] at hQ
  exact hQ a w (hR.GW _)
 | o::rest,i,acc,st,a,w,hR,aJ,hQ=>by
  rw[a9] at aJ hQ
  cases hw:fB ops st o with
  | none=>simp [hw,bc] at aJ
  | some b=>
   simp only[hw] at aJ hQ
   have Al:=kJ hR hw
   unfold wpList
   cases b with
   | false=>
    rw[if_neg (by rw[Al];simp)]
    simp only at aJ hQ
    exact eF eV rest _ _ _ _ w (Fy hR (bf rest _ _ _ aJ).ok) aJ hQ
   | true=>
    rw[if_pos Al]
    simp only at aJ hQ
    refine .inl ?_
    have plain:(a9 P Γ ops gs kg rest (i+1) (acc++[bG P Γ ops i st o]) (st.cz P Γ o)).ok=true→
      (∀a' w',Rel w0 S (a9 P Γ ops gs kg rest (i+1) (acc++[bG P Γ ops i st o]) (st.cz P Γ o)) a' w'→Q .normal a' w')→o.wp P a w (wpList P ops Q rest) Q:=by
     intro h1 h2
     have hd:=(bf rest _ _ _ h1).ok
     refine Oper.wp_mono ?_ (Ab eV hR hd Q)
     rintro a' w' ⟨v,rfl,eS⟩
     exact eF eV rest _ _ _ _ w' eS h1 h2
    split at aJ
    ·rename_i hd
     simp only[hd] at hQ
     exact plain aJ hQ
    ·rename_i s hd
     simp only[hd] at hQ
     cases hm:ic s gs
     ·simp only[hm,cond_false] at aJ hQ
      exact plain aJ hQ
     ·simp only[hm,cond_true] at aJ hQ
      split at aJ
      ·rename_i g hg
       simp only[hg] at hQ
       have lH:=cX aJ
       have DL:(st.cz P Γ o).ok=true:=by
        cases g with
        | true=>exact (bf rest _ _ _ (lH.1 rfl)).ok
        | false=>exact (bf rest _ _ _ (lH.2 rfl)).ok
       refine Oper.wp_mono ?_ (Ab eV hR DL Q)
       rintro a' w' ⟨v,rfl,eS⟩
       have dr:=eS.Au hg
       cases g with
       | true=>
        have hy:=lH.1 rfl
        refine eF eV rest (i+1) (acc++[bG P Γ ops i st o]) ((st.cz P Γ o).reset.fP s true) _ w' (eS.reset.fP dr) hy ?_
        intro J1 Ln J7
        exact hQ J1 Ln (gg (fun _=>⟨(j8 (st:=(st.cz P Γ o).reset) DL).trans (bf rest _ _ _ hy),J7⟩) (by simp) aJ)
       | false=>
        have hn:=lH.2 rfl
        refine eF eV rest (i+1) (acc++[bG P Γ ops i st o]) ((st.cz P Γ o).reset.fP s false) _ w' (eS.reset.fP dr) hn ?_
        intro J1 Ln J7
        exact hQ J1 Ln (gg (by simp) (fun _=>⟨(j8 (st:=(st.cz P Γ o).reset) DL).trans (bf rest _ _ _ hn),J7⟩) aJ)
      ·rename_i hg
       have L7:∀a' w',Rel w0 S (a9 P Γ ops gs kg rest (i+1) (acc++[bG P Γ ops i st o]) (st.cz P Γ o)) a' w'→Q .normal a' w':=by
        revert hQ
        split
        ·rename_i g H3;exact absurd H3 (hg g)
        ·exact id
       exact plain aJ L7
theorem Az {draw:Bool} {st:St} (h:(bW P Γ ops draw st).ok=true):Tr st (bW P Γ ops draw st):=by
 unfold bW at h ⊢
 cases draw
 ·simp only[cond_false] at h ⊢
  exact bf _ _ _ _ h
 ·simp only[cond_true] at h ⊢
  cases hf:eG (ll ops.toList) st && gr ops.toList 0 && P.follows .mixedOrders
  ·simp [hf,bc] at h
  ·simp only[hf,cond_true] at h ⊢
   exact bf _ _ _ _ h
theorem CR (eV:bE P Γ) {st:St} {a:Act} {w:World} {id:Nat} {Q:Exit→Act→World→Prop} (hR:Rel w0 S st a w) (h:(bW P Γ ops false st).ok=true)
  (hQ:∀a' w',Rel w0 S (bW P Γ ops false st) a' w'→Q .normal a' w'):(Code.region id ops false).wp P Q a w:=by
 unfold bW at h hQ
 simp only[cond_false] at h hQ
 exact wp_region_list (eF eV _ _ _ _ a w hR h hQ)
end
end Go.Proofs.YtoaflbnkiobhdaaGreat.Vm
set_option linter.unusedVariables false
set_option linter.unusedSimpArgs false
namespace Go.Proofs.YtoaflbnkiobhdaaGreat.Vm
theorem M.kC {α:Type} {f f':Nat→SV} {h h':Nat→Option aj} :∀(m:M α) {a:α} {s o:List Nat},m.run f h=some (a,s,o)→(∀i∈s,f' i=f i)→(∀i∈o,h' i=h i)→m.run f' h'=some (a,s,o)
 | .pure a,_,_,_,e,_,_=>by simpa [M.run] using e
 | .fail,_,_,_,e,_,_=>by simp [M.run] at e
 | .slot i k,a,s,o,e,hs,ho=>by
  simp only[M.run] at e ⊢
  split at e
  ·rename_i b s' o' hk
   simp only[Option.some.injEq,Prod.mk.injEq] at e
   obtain⟨rfl,rfl,rfl⟩:=e
   rw[hs i (List.mem_cons_self ..),M.kC (k (f i)) hk (fun j hj=>hs j (List.mem_cons_of_mem _ hj)) ho]
  ·cases e
 | .obj i k,a,s,o,e,hs,ho=>by
  simp only[M.run] at e ⊢
  split at e
  ·rename_i x hx
   split at e
   ·rename_i b s' o' hk
    simp only[Option.some.injEq,Prod.mk.injEq] at e
    obtain⟨rfl,rfl,rfl⟩:=e
    rw[ho i (List.mem_cons_self ..),hx]
    simp only
    rw[M.kC (k x) hk hs (fun j hj=>ho j (List.mem_cons_of_mem _ hj))]
   ·cases e
  ·cases e
structure PS where
 i:Nat
 o:Oper
 run:Bool
 st:St
 e:cG
 log:cr
def PS.f (p:PS) (s:Nat) (v:SV):SV:=if p.o.dst=some s then p.e.sv else v
def Ge:List (Nat×Option aj)→Nat→Option (Option aj)
 | [],_=>none
 | (i,x)::l,j=>if j=i then some x else Ge l j
def Er (cw:Option (Nat×Nat×List SV)) (id:Nat) (v:Option aj):Option aj:=
 match cw with
 | some (i,off,bL)=>if id=i then (match v with | some (.box t cells)=>some (.box t (cF cells off bL)) | o=>o) else v
 | none=>v
def PS.h (p:PS) (id:Nat) (v:Option aj):Option aj:=
 match Ge p.e.ow id with
 | some x=>x
 | none=>Er p.e.cw id v
theorem Ih (cw:Option (Nat×Nat×List SV)) (h:Nat→Option aj) (id:Nat):fc cw h id=Er cw id (h id):=by
 cases cw with
 | none=>rfl
 | some x=>
  obtain⟨i,off,bL⟩:=x
  simp only[fc,Er]
  by_cases hi:id=i
  ·subst hi
   rw[if_pos rfl]
   cases hh:h id with
   | none=>simp [hh]
   | some b=>cases b<;>simp [az,hh]
  ·rw[if_neg hi]
   cases h i with
   | none=>rfl
   | some b=>cases b<;>simp [az,hi]
theorem Ii (ow:List (Nat×Option aj)) (h:Nat→Option aj) (id:Nat):fo ow h id=match Ge ow id with | some x=>x | none=>h id:=by
 induction ow with
 | nil=>rfl
 | cons x l ih=>
  obtain⟨i,ob⟩:=x
  simp only[fo,az,Ge]
  split
  ·rfl
  ·exact ih
theorem jr (st:St) (p:PS) (id:Nat):(st.apply p.o.dst p.e).obj id=p.h id (st.obj id):=by
 rw[fg,Ii]
 unfold PS.h
 rw[Ih]
theorem lC (st:St) (p:PS) (s:Nat):(st.apply p.o.dst p.e).get s=p.f s (st.get s):=by
 unfold PS.f
 cases hd:p.o.dst with
 | none=>simp [gR]
 | some d=>
  rw[apply_get]
  simp only[az,Option.some.injEq]
  by_cases hs:s=d
  ·simp [hs]
  ·rw[if_neg hs,if_neg (fun h:d=s=>hs h.symm)]
inductive Path (P:Program) (Γ:Ctx) (ops:Array Oper) (gs:List Nat):List Oper→Nat→St→List PS→St→Prop where
 | nil (i:Nat) (st:St):Path P Γ ops gs [] i st [] st
 | skip (o:Oper) (rest:List Oper) (i:Nat) (st:St) (l:List PS) (fin:St) (hw:fB ops st o=some false) (aJ:(st.skip o.dst).ok=true) (h:Path P Γ ops gs rest (i+1) (st.skip o.dst) l fin):
   Path P Γ ops gs (o::rest) i st (⟨i,o,false,st, {sv:= .undef},iL ops i o⟩::l) fin
 | op (o:Oper) (rest:List Oper) (i:Nat) (st:St) (l:List PS) (fin:St) (e:cG) (hw:fB ops st o=some true) (aJ:(st.cz P Γ o).ok=true) (he:st.cz P Γ o=st.apply o.dst e)
   (hr:∃s r,(evalOp P Γ o).run st.get st.obj=some (e,s,r)) (h:Path P Γ ops gs rest (i+1) (st.cz P Γ o) l fin):
   Path P Γ ops gs (o::rest) i st (⟨i,o,true,st,e,bG P Γ ops i st o⟩::l) fin
 | JW (o:Oper) (rest:List Oper) (i:Nat) (st:St) (l:List PS) (fin:St) (e:cG) (s:Nat) (g:Bool) (hw:fB ops st o=some true) (aJ:(st.cz P Γ o).ok=true) (he:st.cz P Γ o=st.apply o.dst e)
   (hr:∃s r,(evalOp P Γ o).run st.get st.obj=some (e,s,r)) (hd:o.dst=some s) (hg:e.sv= .bool g) (h:Path P Γ ops gs rest (i+1) ((st.cz P Γ o).reset.fP s g) l fin):
   Path P Γ ops gs (o::rest) i st (⟨i,o,true,st, {e with sv:= .kb g},bG P Γ ops i st o⟩::l) fin
section
variable {P:Program} {Γ:Ctx} {w0:World} {S:Own} {ops:Array Oper} {gs:List Nat}
theorem e_ {kg:List cr→Bool} :∀(rest:List Oper) (i:Nat) (acc:List cr) (st:St),(a9 P Γ ops gs kg rest i acc st).ok=true→
  ∃l fin,Path P Γ ops gs rest i st l fin∧fin.ok=true∧kg (acc++l.map (·.log))=true∧∀(w0:World) (S:Own) (a:Act) (w:World),Rel w0 S fin a w→Rel w0 S (a9 P Γ ops gs kg rest i acc st) a w
 | [],i,acc,st,aJ=>by
  simp only[a9,gn] at aJ ⊢
  exact⟨[],st,.nil i st,aJ.1,by simpa using aJ.2,fun w0 S a w h=>h.GW _⟩
 | o::rest,i,acc,st,aJ=>by
  rw[a9] at aJ ⊢
  cases hw:fB ops st o with
  | none=>simp [hw,bc] at aJ
  | some b=>
   simp only[hw] at aJ ⊢
   cases b with
   | false=>
    simp only at aJ ⊢
    obtain⟨l,fin,h1,h2,h3,h4⟩:=e_ rest _ _ _ aJ
    exact⟨_,fin,.skip o rest i st l fin hw (bf rest _ _ _ aJ).ok h1,h2,by simpa using h3,h4⟩
   | true=>
    simp only at aJ ⊢
    have plain:(a9 P Γ ops gs kg rest (i+1) (acc++[bG P Γ ops i st o]) (st.cz P Γ o)).ok=true→
      ∃l fin,Path P Γ ops gs (o::rest) i st l fin∧fin.ok=true∧kg (acc++l.map (·.log))=true∧∀(w0:World) (S:Own) (a:Act) (w:World),Rel w0 S fin a w→
       Rel w0 S (a9 P Γ ops gs kg rest (i+1) (acc++[bG P Γ ops i st o]) (st.cz P Γ o)) a w:=by
     intro h1
     have hd:=(bf rest _ _ _ h1).ok
     obtain⟨l,fin,g1,g2,g3,g4⟩:=e_ rest _ _ _ h1
     obtain⟨e,s,r,hr,_,he⟩:=lV hd
     exact⟨_,fin,.op o rest i st l fin e hw hd he ⟨s,r,hr⟩ g1,g2,by simpa using g3,g4⟩
    split at aJ
    ·rename_i hd
     exact plain aJ
    ·rename_i s hd
     cases hm:ic s gs
     ·simp only[hm,cond_false] at aJ ⊢
      exact plain aJ
     ·simp only[hm,cond_true] at aJ ⊢
      split at aJ
      ·rename_i g hg
       have lH:=cX aJ
       have JE:∀b:Bool,g=b→(a9 P Γ ops gs kg rest (i+1) (acc++[bG P Γ ops i st o]) ((st.cz P Γ o).reset.fP s b)).ok=true:=by
        rintro b rfl
        cases g with
        | true=>exact lH.1 rfl
        | false=>exact lH.2 rfl
       have Kf:=(bf rest _ _ _ (JE g rfl)).ok
       have JG:(st.cz P Γ o).ok=true:=Kf
       obtain⟨l,fin,g1,g2,g3,g4⟩:=e_ rest (i+1) (acc++[bG P Γ ops i st o]) _ (JE g rfl)
       obtain⟨e,s',r,hr,_,he⟩:=lV JG
       have fj:e.sv= .bool g:=by
        rw[he,hd,apply_get] at hg
        simpa [az] using hg
       refine⟨_,fin,.JW o rest i st l fin e s g hw JG he ⟨s',r,hr⟩ hd fj g1,g2,by simpa using g3,fun w0 S a w hR=> ?_⟩
       have eS:=g4 w0 S a w hR
       refine gg (fun FW=> ?_) (fun Mo=> ?_) aJ
       ·subst FW
        exact⟨(j8 (st:=(st.cz P Γ o).reset) JG).trans (bf rest _ _ _ (JE true rfl)),eS⟩
       ·subst Mo
        exact⟨(j8 (st:=(st.cz P Γ o).reset) JG).trans (bf rest _ _ _ (JE false rfl)),eS⟩
      ·rename_i hg
       exact plain aJ
def kO (L:Nat→Bool) (l:List PS) (s:Nat) (v:SV):SV:=l.foldl (fun v p=>if L p.i then p.f s v else v) v
def kP (L:Nat→Bool) (l:List PS) (id:Nat) (v:Option aj):Option aj:=l.foldl (fun v p=>if L p.i then p.h id v else v) v
def PS.tF (p:PS) (s:Nat):Prop:=p.o.dst=some s
def PS.tH (p:PS) (id:Nat):Prop:=id∈p.e.ow.map (·.1)∨∃off bL,p.e.cw=some (id,off,bL)
theorem PS.Ig {p:PS} {s:Nat} (h:¬p.tF s) (v:SV):p.f s v=v:=by unfold PS.f PS.tF at*;rw[if_neg h]
theorem Fl {ow:List (Nat×Option aj)} {id:Nat} (h:id ∉ ow.map (·.1)):Ge ow id=none:=by
 induction ow with
 | nil=>rfl
 | cons x l ih=>
  obtain⟨i,ob⟩:=x
  simp only[List.map_cons,List.mem_cons,not_or] at h
  simp only[Ge]
  rw[if_neg h.1]
  exact ih h.2
theorem PS.Im {p:PS} {id:Nat} (h:¬p.tH id) (v:Option aj):p.h id v=v:=by
 unfold PS.tH at h
 simp only[not_or] at h
 unfold PS.h
 rw[Fl h.1]
 simp only
 unfold Er
 split
 ·rename_i i off bL jF
  by_cases hi:id=i
  ·subst hi
   exact absurd ⟨off,bL,jF⟩ h.2
  ·rw[if_neg hi]
 ·rfl
theorem fi {α:Type} (step:PS→α→α) {L:Nat→Bool} :∀(l:List PS) (v:α),(∀q∈l,L q.i=false)→l.foldl (fun v q=>if L q.i then step q v else v) v=v
 | [],v,_=>rfl
 | z::l,v,h=>by
  simp only[List.foldl_cons,h z (List.mem_cons_self ..),Bool.false_eq_true,if_false]
  exact fi step l v (fun q hq=>h q (List.mem_cons_of_mem _ hq))
section Ij
variable {α:Type} (step:PS→α→α) (T:PS→Prop)
theorem fold_congr (dR:∀p v,¬T p→step p v=v) {L L':Nat→Bool} :∀(l:List PS) (v:α),(∀p∈l,T p→L p.i=L' p.i)→
  l.foldl (fun v p=>if L p.i then step p v else v) v=l.foldl (fun v p=>if L' p.i then step p v else v) v
 | [],v,_=>rfl
 | p::l,v,h=>by
  simp only[List.foldl_cons]
  have:(if L p.i then step p v else v)=if L' p.i then step p v else v:=by
   by_cases ht:T p
   ·rw[h p (List.mem_cons_self ..) ht]
   ·rw[dR p v ht]
    simp
  rw[this]
  exact fold_congr dR l _ (fun q hq=>h q (List.mem_cons_of_mem _ hq))
theorem gX (dR:∀p v,¬T p→step p v=v) {L:Nat→Bool} {q:PS} :∀(l:List PS) (v:α),q∈l→(l.map (·.i)).Nodup→L q.i=false→l.Pairwise (fun a b=>a.i<b.i)→(∀p∈l,q.i<p.i→T q→T p→L p.i=false)→
  l.foldl (fun v p=>if (L p.i || p.i==q.i) then step p v else v) v=step q (l.foldl (fun v p=>if L p.i then step p v else v) v)
 | [],v,hq,_,_,_,_=>by simp at hq
 | p::l,v,hq,hn,hL,hp,BJ=>by
  simp only[List.foldl_cons]
  simp only[List.map_cons,List.nodup_cons] at hn
  rw[List.pairwise_cons] at hp
  rcases List.mem_cons.1 hq with rfl | LF
  ·simp only[hL,beq_self_eq_true,Bool.or_true,if_true,Bool.false_eq_true,if_false]
   have e1:l.foldl (fun v p=>if (L p.i || p.i==q.i) then step p v else v) (step q v)=l.foldl (fun v p=>if L p.i then step p v else v) (step q v):=by
    refine fold_congr step T dR (L:=fun k=>L k || k==q.i) (L':=L) l _ (fun r hr _=> ?_)
    have:r.i≠q.i:=fun e=>hn.1 (e ▸ List.mem_map_of_mem hr)
    simp [this]
   rw[e1]
   by_cases ht:T q
   ·have e2:∀u,l.foldl (fun v p=>if L p.i then step p v else v) u=u:=by
     intro u
     have:=fold_congr step T dR (L:=L) (L':=fun _=>false) l u (fun r hr ME=>BJ r (List.mem_cons_of_mem _ hr) (hp.1 r hr) ht ME)
     rw[this]
     exact fi step (L:=fun _=>false) l u (fun _ _=>rfl)
    rw[e2,e2]
   ·rw[dR q v ht,dR q _ ht]
  ·have cJ:p.i≠q.i:=fun e=>hn.1 (e ▸ List.mem_map_of_mem LF)
   have:(if (L p.i || p.i==q.i) then step p v else v)=if L p.i then step p v else v:=by simp [cJ]
   rw[this]
   exact gX dR l _ LF hn.2 hL hp.2 (fun r hr=>BJ r (List.mem_cons_of_mem _ hr))
end Ij
theorem cq:∀ {rest:List Oper} {i:Nat} {st:St} {l:List PS} {fin:St},Path P Γ ops gs rest i st l fin→l.map (·.i)=List.range' i rest.length∧l.map (·.o)=rest∧(∀p∈l,p.log.i=p.i∧p.log.d=p.o.dst):=by
 intro rest i st l fin h
 induction h with
 | nil=>exact⟨rfl,rfl,by simp⟩
 | skip o rest i st l fin hw aJ h ih=>
  refine⟨by simp [ih.1,List.range'_succ],by simp [ih.2.1],fun p hp=> ?_⟩
  rcases List.mem_cons.1 hp with rfl | hp
  ·exact⟨rfl,rfl⟩
  ·exact ih.2.2 p hp
 | op o rest i st l fin e hw aJ he hr h ih=>
  refine⟨by simp [ih.1,List.range'_succ],by simp [ih.2.1],fun p hp=> ?_⟩
  rcases List.mem_cons.1 hp with rfl | hp
  ·obtain⟨s,r,hr⟩:=hr
   simp [bG,hr]
  ·exact ih.2.2 p hp
 | JW o rest i st l fin e s g hw aJ he hr hd hg h ih=>
  refine⟨by simp [ih.1,List.range'_succ],by simp [ih.2.1],fun p hp=> ?_⟩
  rcases List.mem_cons.1 hp with rfl | hp
  ·obtain⟨s,r,hr⟩:=hr
   simp [bG,hr]
  ·exact ih.2.2 p hp
def D8 (st:St) (l:List PS) (fin:St):Prop:=
 (∀p∈l,(∀s,p.st.get s=kO (fun k=>decide (k<p.i)) l s (st.get s))∧(∀id,p.st.obj id=kP (fun k=>decide (k<p.i)) l id (st.obj id))∧p.st.n=st.n)∧
  (∀s,fin.get s=kO (fun _=>true) l s (st.get s))∧(∀id,fin.obj id=kP (fun _=>true) l id (st.obj id))∧fin.n=st.n
theorem iY (p0:PS) {st Jv:St} {Ju:List Oper} {l':List PS} {G9:St} {i:Nat} (hi:p0.i=i) (hP:p0.st=st) (hf:∀s,Jv.get s=p0.f s (st.get s)) (hh:∀id,Jv.obj id=p0.h id (st.obj id)) (hn:Jv.n=st.n)
  (dD:Path P Γ ops gs Ju (i+1) Jv l' G9) (ih:D8 Jv l' G9):D8 st (p0::l') G9:=by
 have ID:=(cq dD).1
 have EJ:∀p∈l',i+1≤p.i:=by
  intro p hp
  have:p.i∈l'.map (·.i):=List.mem_map_of_mem hp
  rw[ID] at this
  exact (List.mem_range'_1.1 this).1
 refine⟨fun p hp=> ?_,fun s=> ?_,fun id=> ?_,ih.2.2.2.trans hn⟩
 ·rcases List.mem_cons.1 hp with rfl | hp
  ·have none_lt:∀q∈p::l',decide (q.i<p.i)=false:=by
    intro q hq
    rcases List.mem_cons.1 hq with rfl | hq
    ·simp
    ·have:=EJ q hq
     simp
     omega
   refine⟨fun s=> ?_,fun id=> ?_,by rw[hP]⟩
   ·have:=fi (fun q v=>PS.f q s v) (L:=fun k=>decide (k<p.i)) (p::l') (st.get s) none_lt
    rw[hP]
    exact this.symm
   ·have:=fi (fun q v=>PS.h q id v) (L:=fun k=>decide (k<p.i)) (p::l') (st.obj id) none_lt
    rw[hP]
    exact this.symm
  ·have h0:=EJ p hp
   have cm:decide (p0.i<p.i)=true:=by simp;omega
   obtain⟨g1,g2,g3⟩:=ih.1 p hp
   refine⟨fun s=> ?_,fun id=> ?_,g3.trans hn⟩
   ·rw[g1 s,hf s]
    unfold kO
    simp only[List.foldl_cons,cm,if_true]
   ·rw[g2 id,hh id]
    unfold kP
    simp only[List.foldl_cons,cm,if_true]
 ·rw[ih.2.1 s,hf s]
  unfold kO
  simp only[List.foldl_cons,if_true]
 ·rw[ih.2.2.1 id,hh id]
  unfold kP
  simp only[List.foldl_cons,if_true]
theorem Fe {st:St} {o:Oper} {e:cG} {s:Nat} {g:Bool} (hd:o.dst=some s) (p:PS) (hp:p.o=o) (KU:p.e= {e with sv:= .kb g}) (k:Nat):(((st.apply o.dst e).reset).fP s g).get k=p.f k (st.get k):=by
 rw[mn]
 have e1:(st.apply o.dst e).reset.get=(st.apply o.dst e).get:=rfl
 rw[e1,hd,apply_get]
 unfold PS.f
 rw[hp,hd,KU]
 simp only[az,Option.some.injEq]
 by_cases hk:k=s
 ·simp [hk]
 ·rw[if_neg hk,if_neg hk,if_neg (fun h:s=k=>hk h.symm)]
theorem Ff {st:St} {o:Oper} {e:cG} {s:Nat} {g:Bool} (p:PS) (hp:p.o=o) (KU:p.e= {e with sv:= .kb g}) (id:Nat):(((st.apply o.dst e).reset).fP s g).obj id=p.h id (st.obj id):=by
 have e1:(((st.apply o.dst e).reset).fP s g).obj id=(st.apply p.o.dst p.e).obj id:=by
  rw[fg,KU]
  show (st.apply o.dst e).obj id=_
  rw[fg]
 rw[e1]
 exact jr st p id
theorem kY {rest:List Oper} {i:Nat} {st:St} {l:List PS} {fin:St} (h:Path P Γ ops gs rest i st l fin):D8 st l fin:=by
 induction h with
 | nil=>exact⟨by simp,fun _=>rfl,fun _=>rfl,rfl⟩
 | skip o rest i st l fin hw aJ h ih=>
  exact iY ⟨i,o,false,st, {sv:= .undef},iL ops i o⟩ rfl rfl (fun s=>lC st ⟨i,o,false,st, {sv:= .undef},iL ops i o⟩ s) (fun id=>jr st ⟨i,o,false,st, {sv:= .undef},iL ops i o⟩ id) rfl h ih
 | op o rest i st l fin e hw aJ he hr h ih=>
  refine iY ⟨i,o,true,st,e,bG P Γ ops i st o⟩ rfl rfl (fun s=> ?_) (fun id=> ?_) ?_ h ih
  ·rw[he];exact lC st ⟨i,o,true,st,e,bG P Γ ops i st o⟩ s
  ·rw[he];exact jr st ⟨i,o,true,st,e,bG P Γ ops i st o⟩ id
  ·rw[he];rfl
 | JW o rest i st l fin e s g hw aJ he hr hd hg h ih=>
  refine iY ⟨i,o,true,st, {e with sv:= .kb g},bG P Γ ops i st o⟩ rfl rfl (fun s=> ?_) (fun id=> ?_) ?_ h ih
  ·rw[he];exact Fe hd ⟨i,o,true,st, {e with sv:= .kb g},bG P Γ ops i st o⟩ rfl rfl s
  ·rw[he];exact Ff ⟨i,o,true,st, {e with sv:= .kb g},bG P Γ ops i st o⟩ rfl rfl id
  ·rw[he];rfl
def iX (P:Program) (Γ:Ctx) (ops:Array Oper) (p:PS):Prop:=
 (fB ops p.st p.o=some false∧p.e= {sv:= .undef} ∧(p.st.skip p.o.dst).ok=true∧p.log=iL ops p.i p.o)∨
 (fB ops p.st p.o=some true∧∃e s r,(evalOp P Γ p.o).run p.st.get p.st.obj=some (e,s,r)∧(p.st.apply p.o.dst e).ok=true∧p.log=bG P Γ ops p.i p.st p.o∧
  (p.e=e∨∃d g,p.o.dst=some d∧e.sv= .bool g∧p.e= {e with sv:= .kb g}))
theorem CP {rest:List Oper} {i:Nat} {st:St} {l:List PS} {fin:St} (h:Path P Γ ops gs rest i st l fin):∀p∈l,iX P Γ ops p:=by
 induction h with
 | nil=>simp
 | skip o rest i st l fin hw aJ h ih=>
  intro p hp
  rcases List.mem_cons.1 hp with rfl | hp
  ·exact .inl ⟨hw,rfl,aJ,rfl⟩
  ·exact ih p hp
 | op o rest i st l fin e hw aJ he hr h ih=>
  intro p hp
  rcases List.mem_cons.1 hp with rfl | hp
  ·obtain⟨s,r,hr⟩:=hr
   exact .inr ⟨hw,e,s,r,hr,by rw[←he];exact aJ,rfl,.inl rfl⟩
  ·exact ih p hp
 | JW o rest i st l fin e s g hw aJ he hr hd hg h ih=>
  intro p hp
  rcases List.mem_cons.1 hp with rfl | hp
  ·obtain⟨s',r,hr⟩:=hr
   exact .inr ⟨hw,e,s',r,hr,by rw[←he];exact aJ,rfl,.inr ⟨s,g,hd,hg,rfl⟩⟩
  ·exact ih p hp
end
end Go.Proofs.YtoaflbnkiobhdaaGreat.Vm
