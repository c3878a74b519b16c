/- The value machine: calls, every operation, regions in every order. Conditions: as each lemma says. -/
import Derived.Test.YtngbcccnjiaddaaGreatVb
import Derived.ArgAppend
set_option linter.unusedVariables false
set_option linter.unusedSimpArgs false
namespace Go.Proofs.YtngbcccnjiaddaaGreat.Vm
section
variable {P:Program} {Γ:Ctx} {w0:World} {S:Own} {st:St} {o:Oper} {e:cL} {a:Act} {w w':World}
variable {f:Nat→SV} {h:Nat→Option aj} {β:Env} {φ:Nat→List Nat} {tm:Array Value}
theorem Be (hR:Rel w0 S st a w) (hd:∀d,o.dst=some d→bd st.n d) {t:TypeId} {x:Operand} {lo hi:Option Operand} (ho:o.op= .slice t x lo hi none) {sx:SV} {DW DV:Option SV}
  (h1:(cb x).val st.get st.obj=some sx) (h2:(kj lo).val st.get st.obj=some DW) (h3:(kj hi).val st.get st.obj=some DV)
  (he:(CY P t sx DW DV).val st.get st.obj=some e) (aJ:e.ok=true):Good P w0 S st o e a w:=by
 unfold CY at he
 split at he
 ·rename_i et id k l hu
  simp only[M.aU,Option.bind_eq_some_iff] at he
  obtain⟨ob,aL,he⟩:=he
  split at he
  ·rename_i t' ct r fz u
   cases hz:Nat.beq t' et && aY P et ct.length
   ·simp [hz] at he
   simp only[hz,cond_true,M.aa,Option.some.injEq] at he
   subst he
   simp only[Bool.and_eq_true] at hz
   simp only[Bool.and_eq_true,decide_eq_true_eq] at aJ
   obtain⟨i,dQ,dx⟩:=aX hz.2
   refine ao hR hd rfl rfl fun β φ hc=> ?_
   have hx:=hc.ev h1
   simp only[ak] at hx
   obtain⟨vals,az,a7,_⟩:=hc.ay id _ aL
   rcases a7.2 with ⟨_,h0,_⟩ | ⟨g,cap,cur,hv,hg,AX,D1,fA,E4⟩
   ·omega
   have hb:=jq (P:=P) (isS:=true) (n:=r.length) (cap:=cap) (l:=l.toNat) (m:=r.length) (c:=decide (0≤l) && decide (l≤(r.length:Int))) AX hc h2 h3 rfl (by simp only[Bool.and_eq_true,decide_eq_true_eq];exact aJ.1)
   refine⟨.slice (some ⟨g,if l.toNat<cap then l.toNat*ct.length else 0,none⟩) (r.length - l.toNat) (cap - l.toNat), ?_, ?_⟩
   ·have bp:(execOp a.eval o).run P w= .ok (.value (.slice (if cap=l.toNat then some ⟨g,0,none⟩ else (some (⟨g,0,none⟩:Addr)).map (·.add (l.toNat*i.size))) (r.length - l.toNat) (cap - l.toNat))) w:=by
     simp [execOp,ho,hx.1,hv,Instr.sliceAt,Instr.slice,run_underlying hu,hb,sizeOf,typeInfo,dQ]
    rw[bp]
    by_cases cn:l.toNat<cap
    ·rw[if_neg (by omega),if_pos cn,dx]
     simp [dm]
    ·rw[if_pos (by omega),if_neg cn]
   ·simp only[ak]
    exact⟨g,r.length,cap,hv,by omega,rfl⟩
  ·simp at he
 ·simp at he
theorem dK.take {ct:List CT} {rows:List (List DC)} {vals:List Value} {az:List (List Nat)} (da:dK w ct rows vals az) (k:Nat):dK w ct (rows.take k) (vals.take (k*ct.length)) (az.take k):=by
 refine⟨by simp [da.1],fun i r f hi hf=> ?_⟩
 rw[List.getElem?_take] at hi hf
 split at hi
 ·rename_i D2
  rw[if_pos D2] at hf
  refine bl.a8.jn (fun j u hj hu=> ?_) (da.2 i r f hi hf)
  rw[List.getElem?_take,if_pos]
  ·exact hu
  ·have:(i+1)*ct.length≤k*ct.length:=Nat.mul_le_mul_right _ D2
   rw[Nat.succ_mul] at this
   omega
 ·cases hi
theorem dK.drop {ct:List CT} {rows:List (List DC)} {vals:List Value} {az:List (List Nat)} (da:dK w ct rows vals az) (k:Nat):dK w ct (rows.drop k) (vals.drop (k*ct.length)) (az.drop k):=by
 refine⟨by simp [da.1],fun i r f hi hf=> ?_⟩
 rw[List.getElem?_drop] at hi hf
 refine bl.a8.jn (fun j u hj hu=> ?_) (da.2 (k+i) r f hi hf)
 rw[List.getElem?_drop,←hu]
 congr 1
 rw[Nat.add_mul]
 omega
theorem C1 (hR:Rel w0 S st a w) (hd:∀d,o.dst=some d→bd st.n d) {t t2:TypeId} {x y:Operand} {c:Call} (ho:o.op= .call c) (hb:c.callee= .builtin .copy) (cv:c.args= #[x,y]) (FU:c.argTypes= #[t,t2]) {sx sy:SV}
  (h1:(cb x).val st.get st.obj=some sx) (h2:(cb y).val st.get st.obj=some sy) (he:(En P t sx sy).val st.get st.obj=some e) (aJ:e.ok=true):Good P w0 S st o e a w:=by
 unfold En at he
 split at he
 ·rename_i et id lo z s hu
  simp only[M.aU,Option.bind_eq_some_iff] at he
  obtain⟨ob,aL,he⟩:=he
  split at he
  ·rename_i t' ct r fz u
   cases hz:Nat.beq t' et && aY P et 1 && Nat.beq z 1 && aE ct [.int .u8]
   ·simp [hz] at he
   simp only[hz,cond_true,M.aa,Option.some.injEq] at he
   subst he
   simp only[Bool.and_eq_true] at hz
   have BF:=aK _ _ hz.2
   subst BF
   have mW:=Nat.eq_of_beq_eq_true hz.1.2
   subst mW
   obtain⟨i,hi,bt⟩:=aX hz.1.1.2
   have Kx:lo≤r.length:=by simpa using aJ
   obtain⟨β,φ,hc⟩:=hR.core
   have EZ:=hc.ev h1
   simp only[ak] at EZ
   obtain⟨g,n,cap,hval,MX,BN⟩:=EZ
   have hy:=hc.ev h2
   simp only[ak] at hy
   obtain⟨vals,az,a7,da,Hq,kA⟩:=hc.ay id _ aL
   have FV:g∈al β id (.row t' [.int .u8] r fz u):=by simp [al,hval,Value.ownBlock]
   rcases a7.2 with ⟨JT,_,_⟩ | ⟨g',Ia,cur,hv',hg,AX,D1,fA,E4⟩
   ·rw[hval] at JT;cases JT
   rw[hval] at hv'
   injection hv' with e1 e2 e3
   injection e1 with e1
   injection e1 with e1
   subst e1 e2 e3
   have Cx:=ah (hc.ay id _ aL) g FV
   have Lz:=(hc.fresh id _ aL).2 g Cx
   have A3:=a7.1
   simp only[List.length_cons,List.length_nil,Nat.zero_add,Nat.mul_one] at A3 fA E4 BN
   have BG:aq [CT.int .u8]=true:=rfl
   let us:List Value:=(s.take (r.length - lo)).map fun b=>Value.int .u8 b.toNat
   have Dk:us.length=min s.length (r.length - lo):=by simp [us,Nat.min_comm]
   have bg:∀v∈us,v.oneCell'=true:=by
    intro v hv
    simp only[us,List.mem_map] at hv
    obtain⟨b,_,rfl⟩:=hv
    rfl
   have EH:∀j,j<cur.size→¬((bif fz then (cur.size,cur.size+1) else ((0,0):Nat×Nat)).1≤j∧j<(bif fz then (cur.size,cur.size+1) else ((0,0):Nat×Nat)).2):=by
    intro j hj
    cases fz<;>simp<;>omega
   have HC:us=[]∨(if lo<cap then lo else 0)=lo:=by
    rcases Nat.lt_or_ge lo cap with h3 | h3
    ·exact .inr (if_pos h3)
    ·refine .inl ?_
     have:us.length=0:=by rw[Dk];omega
     exact List.eq_nil_of_length_eq_zero this
   have HH:(storeCells ⟨g,if lo<cap then lo else 0,none⟩ us 0).run P w= .ok () (w.setRow g (cur.toList.take lo++(us++cur.toList.drop (lo+us.length))).toArray):=by
    rcases HC with h3 | h3
    ·rw[h3]
     simp only[storeCells,List.nil_append,List.length_nil,Nat.add_zero,List.take_append_drop,Array.toArray_toList]
     rw[setRow_self w g cur t' _ hg]
     rfl
    ·rw[h3]
     have:=bO P g lo t' _ us 0 cur w hg EH (by rw[Dk,fA];omega) bg
     simpa only[Nat.add_zero] using this
   have mi:(Builtin.firstCells i.size (Nat.min s.length (r.length - lo)) (.string ⟨s.toArray⟩)).run P w= .ok us.toArray w:=by
    have:((⟨s.toArray⟩:ByteArray).extract 0 (Nat.min s.length (r.length - lo))).data.map (fun b=>Value.int .u8 b.toNat)=us.toArray:=by
     rw[iy]
     have e5:s.take (Nat.min s.length (r.length - lo))=s.take (r.length - lo):=by
      rcases Nat.le_total s.length (r.length - lo) with h3 | h3
      ·rw[show Nat.min s.length (r.length - lo)=s.length from Nat.min_eq_left h3,List.take_length,List.take_of_length_le h3]
      ·rw[show Nat.min s.length (r.length - lo)=r.length - lo from Nat.min_eq_right h3]
     simp [us,e5]
    simp only[Builtin.firstCells,Sem.run_pure,this]
   have ml:(cur.toList.take lo++(us++cur.toList.drop (lo+us.length))).length=cur.size:=by
    simp only[List.length_append,List.length_take,List.length_drop,Array.length_toList]
    omega
   have eP:(r.take lo++(((s.take (r.length - lo)).map cQ)++r.drop (lo+min s.length (r.length - lo)))).length=r.length:=by
    simp only[List.length_append,List.length_take,List.length_drop,List.length_map]
    omega
   have Ks:dK w [.int .u8] ((s.take (r.length - lo)).map cQ) us (List.replicate us.length []):=by
    refine⟨by simp [us],fun k r' f' hk hf=> ?_⟩
    have FF:k<(s.take (r.length - lo)).length:=by
     have:=(List.getElem?_eq_some_iff.1 hk).1
     simpa using this
    have EY:r'=cQ (s.take (r.length - lo))[k]:=by
     rw[List.getElem?_map,List.getElem?_eq_getElem FF] at hk
     simpa using hk.symm
    have Bn:f'=[]:=by
     have:=List.mem_of_getElem? hf
     exact (List.mem_replicate.1 this).2
    subst EY Bn
    unfold cQ
    simp only[a8,bV]
    refine⟨.int (s.take (r.length - lo))[k].toNat,[],.int .u8 (s.take (r.length - lo))[k].toNat,[],[],rfl, ?_,⟨_,rfl,rfl, ?_,rfl⟩,⟨rfl,rfl⟩,rfl⟩
    ·simp only[us,List.length_cons,List.length_nil,Nat.zero_add,Nat.mul_one,Nat.add_zero]
     rw[List.getElem?_map,List.getElem?_eq_getElem FF]
     rfl
    ·rw[ey]
     have h1:IntKind.u8.min=0:=by decide
     have h2:IntKind.u8.max=255:=by decide
     have:=(s.take (r.length - lo))[k].toNat_lt
     omega
   have mn:dK w [.int .u8] (r.take lo++(((s.take (r.length - lo)).map cQ)++r.drop (lo+min s.length (r.length - lo)))) (vals.take lo++(us++vals.drop (lo+us.length))) (az.take lo++(List.replicate us.length []++az.drop (lo+us.length))):=by
    have a1:=da.take lo
    have a2:=da.drop (lo+us.length)
    simp only[List.length_cons,List.length_nil,Nat.zero_add,Nat.mul_one] at a1 a2
    rw[←Dk]
    refine a1.append ?_ (Ks.append ?_ a2)
    ·simp only[List.length_cons,List.length_nil,Nat.zero_add,Nat.mul_one,List.length_take,A3]
    ·simp [us]
   have Hl:=mn.flat BG
   have HI:φ id=[g]:=by
    rw[kA,da.flat BG,hval]
    cases u<;>simp [Value.ownBlock]
   refine bY hR hd (v:= .int .i64 (min s.length (r.length - lo):Nat)) (w':=w.setRow g (cur.toList.take lo++(us++cur.toList.drop (lo+us.length))).toArray) ?_ (hR.kept.setRow Lz.1 _)
    ⟨β,aA φ id [g], ?_, ?_⟩
   ·have Bq:Nat.min s.length (r.length - lo)=min s.length (r.length - lo):=rfl
    simp [execOp,ho,resolve,hb,cv,FU,invoke,builtin,Builtin.copy_,run_underlying hu,BN,hy.1,Builtin.lenOf,sizeOf,typeInfo,hi,dv,mi,HH,goInt]
   ·show Core w0 S st.get (aA st.obj id (some (.row t' [.int .u8] (r.take lo++(((s.take (r.length - lo)).map cQ)++r.drop (lo+min s.length (r.length - lo)))) fz u))) _ _ _ _
    refine hc.rewrite aL FV (fun b ax=>ax) ?_ (by simp) ?_
    ·refine⟨vals.take lo++(us++vals.drop (lo+us.length)),az.take lo++(List.replicate us.length []++az.drop (lo+us.length)),⟨?_,.inr ⟨g,cap,(cur.toList.take lo++(us++cur.toList.drop (lo+us.length))).toArray,by rw[eP];exact hval, ?_,by rw[eP];exact AX,D1, ?_, ?_⟩⟩, ?_, ?_, ?_⟩
     ·rw[eP]
      simp only[List.length_cons,List.length_nil,Nat.zero_add,Nat.mul_one,List.length_append,List.length_take,List.length_drop,A3]
      omega
     ·rw[setRow_heap w _ _ _ _ _ hg]
      simp only[List.size_toArray,ml]
     ·simp only[List.size_toArray,ml,List.length_cons,List.length_nil,Nat.zero_add,Nat.mul_one]
      exact fA
     ·rw[eP]
      simp only[List.length_cons,List.length_nil,Nat.zero_add,Nat.mul_one]
      rw[iz _ _ _ _ (by omega) (by simp only[Array.length_toList];omega),E4]
     ·exact mn.mono (by simp) (fun b ax=>by rw[Hl] at ax;simp at ax)
     ·rw[Hl];simp
     ·rw[Hl,hval]
      cases u<;>simp [Value.ownBlock]
    ·intro b ax
     have Mb:b=g:=by simpa using ax
     subst Mb
     exact⟨Lz,fun j oj hj jd=>hc.sep id j _ _ (Ne.symm hj) aL jd b Cx⟩
   ·unfold ak
    refine⟨rfl, ?_⟩
    rw[ey]
    have h1:IntKind.i64.min= -9223372036854775808:=by decide
    have h2:IntKind.i64.max=9223372036854775807:=by decide
    have:=hy.2
    simp only[maxLen] at this
    omega
  ·simp at he
 ·simp at he
end
end Go.Proofs.YtngbcccnjiaddaaGreat.Vm
set_option linter.unusedVariables false
set_option linter.unusedSimpArgs false
namespace Go.Proofs.YtngbcccnjiaddaaGreat.Vm
theorem dn (c:CT):(∃e,c= .sl e)∨aq [c]=true:=by
 cases c with
 | sl e=>exact .inl ⟨e,rfl⟩
 | _=>exact .inr rfl
theorem fj {c:CT} {cs:List CT} :aq (c::cs)=(aq [c] && aq cs):=by
 cases c<;>rfl
theorem dW {c:CT} {cs:List CT} (hc:aq [c]=true):aF (c::cs)=aF cs:=by
 cases c with
 | sl e=>simp [aq] at hc
 | _=>rfl
theorem dX:∀ {cs:List CT},aF cs=0→aq cs=true
 | [],_=>rfl
 | c::cs,h=>by
  rcases dn c with ⟨e,rfl⟩ | hc
  ·simp [aF] at h
  ·rw[dW hc] at h
   rw[fj,hc,dX h]
   rfl
theorem dV:∀(a b:List CT),aF (a++b)=aF a+aF b
 | [],b=>by simp [aF]
 | c::cs,b=>by
  rcases dn c with ⟨e,rfl⟩ | hc
  ·simp only[List.cons_append,aF,dV cs b];omega
  ·rw[List.cons_append,dW hc,dW hc,dV cs b]
theorem flat_get:∀ {cs:List CT} {k:Nat} {e:List CT},aq cs=true→cs[k]? =some (.sl e)→False
 | [],k,e,_,h=>by simp at h
 | c::cs,k,e,hf,h=>by
  rw[fj,Bool.and_eq_true] at hf
  cases k with
  | zero=>
   simp only[List.getElem?_cons_zero,Option.some.injEq] at h
   subst h
   simp [aq] at hf
  | succ k=>exact flat_get hf.2 (by simpa using h)
section
variable {w:World}
theorem ab.length {hv:Option Value} :∀(cs:List CT) (ts:List TypeId) (ds:List DC) (us:List Value) (mb:List Nat),ab w hv cs ts ds us mb→us.length=cs.length∧ds.length=cs.length
 | [],_,_,_,_,h=>by
  simp only[ab] at h
  obtain⟨_,rfl,rfl,_⟩:=h
  exact⟨rfl,rfl⟩
 | c::cs,_,_,_,_,h=>by
  rcases dn c with ⟨e,rfl⟩ | hc
  ·simp only[ab] at h
   obtain⟨t,d5,rows,aZ,v,aO,m1,gl,rfl,rfl,rfl,_,_,h6,rfl⟩:=h
   have:=ab.length cs _ _ _ _ h6
   simp [this.1,this.2]
  ·rw[ab.flat hc] at h
   obtain⟨d,aZ,v,aO,rfl,rfl,_,h4⟩:=h
   have:=ab.length cs _ _ _ _ h4
   simp [this.1,this.2]
theorem ab.lt {hv:Option Value} :∀(cs:List CT) (ts:List TypeId) (ds:List DC) (us:List Value) (mb:List Nat),ab w hv cs ts ds us mb→∀b∈mb,b<w.heap.size
 | [],_,_,_,_,h=>by
  simp only[ab] at h
  simp [h.2.2.2]
 | c::cs,_,_,_,_,h=>by
  rcases dn c with ⟨e,rfl⟩ | hc
  ·simp only[ab] at h
   obtain⟨t,d5,rows,aZ,v,aO,m1,gl,rfl,rfl,rfl,_,h5,h6,rfl⟩:=h
   intro b hb
   rcases List.mem_append.1 hb with hb | hb
   ·cases hv with
    | none=>
     obtain⟨vals,az,g1,_,rfl⟩:=h5
     exact g1.lt b hb
    | some v0=>
     rw[h5.2.2] at hb
     simp at hb
   ·exact ab.lt cs _ _ _ _ h6 b hb
  ·rw[ab.flat hc] at h
   obtain⟨d,aZ,v,aO,rfl,rfl,_,h4⟩:=h
   exact ab.lt cs _ _ _ _ h4
theorem bI.lt {e:List CT} {ts:List TypeId} {rows:List (List DC)} {vals:List Value} {hv:Nat→Option Value} {aT:List (List Nat)} (h:bI w e ts rows vals hv aT):∀b∈aT.flatten,b<w.heap.size:=by
 intro b hb
 obtain⟨m,hm,hb⟩:=List.mem_flatten.1 hb
 obtain⟨i,hi,rfl⟩:=List.getElem_of_mem hm
 have dQ:i<rows.length:=by have:=h.1;omega
 exact ab.lt _ _ _ _ _ (h.2 i rows[i] aT[i] (by simp) (by simp)) b hb
theorem ab.split {hv:Option Value} :∀(AJ lr:List CT) (ts:List TypeId) (ds:List DC) (us:List Value) (mb:List Nat),ab w hv (AJ++lr) ts ds us mb→
  ∃Gm HW m1 m2,ts=Gm++HW∧mb=m1++m2∧ab w hv AJ Gm (ds.take AJ.length) (us.take AJ.length) m1∧ab w hv lr HW (ds.drop AJ.length) (us.drop AJ.length) m2
 | [],lr,ts,ds,us,mb,h=>⟨[],ts,[],mb,rfl,rfl,by simp [ab],by simpa using h⟩
 | c::cs,lr,_,_,_,_,h=>by
  rw[List.cons_append] at h
  rcases dn c with ⟨e,rfl⟩ | hc
  ·simp only[ab] at h
   obtain⟨t,d5,rows,aZ,v,aO,m1,gl,rfl,rfl,rfl,h4,h5,h6,rfl⟩:=h
   obtain⟨a1,a2,b1,b2,rfl,rfl,k1,k2⟩:=ab.split cs lr _ _ _ _ h6
   refine⟨t::a1,a2,m1++b1,b2,rfl,by simp, ?_,by simpa using k2⟩
   simp only[ab,List.length_cons,List.take_succ_cons]
   exact⟨t,a1,rows,_,v,_,m1,b1,rfl,rfl,rfl,h4,h5,k1,rfl⟩
  ·rw[ab.flat hc] at h
   obtain⟨d,aZ,v,aO,rfl,rfl,h3,h4⟩:=h
   obtain⟨a1,a2,b1,b2,rfl,rfl,k1,k2⟩:=ab.split cs lr _ _ _ _ h4
   refine⟨a1,a2,b1,b2,rfl,rfl, ?_,by simpa using k2⟩
   rw[ab.flat hc]
   simp only[List.length_cons,List.take_succ_cons]
   exact⟨d,_,v,_,rfl,rfl,h3,k1⟩
theorem ab.join {hv:Option Value} :∀(AJ lr:List CT) (Gm HW:List TypeId) (d1 d2:List DC) (u1 u2:List Value) (m1 m2:List Nat),ab w hv AJ Gm d1 u1 m1→ab w hv lr HW d2 u2 m2→
  ab w hv (AJ++lr) (Gm++HW) (d1++d2) (u1++u2) (m1++m2)
 | [],lr,_,_,_,_,_,_,_,_,h,h2=>by
  simp only[ab] at h
  obtain⟨rfl,rfl,rfl,rfl⟩:=h
  simpa using h2
 | c::cs,lr,_,_,_,_,_,_,_,_,h,h2=>by
  rcases dn c with ⟨e,rfl⟩ | hc
  ·simp only[ab] at h
   obtain⟨t,d5,rows,aZ,v,aO,m1,gl,rfl,rfl,rfl,h4,h5,h6,rfl⟩:=h
   simp only[List.cons_append,ab]
   exact⟨t,_,rows,_,v,_,m1,_,rfl,rfl,rfl,h4,h5,ab.join cs lr _ _ _ _ _ _ _ _ h6 h2,by simp⟩
  ·rw[ab.flat hc] at h
   obtain⟨d,aZ,v,aO,rfl,rfl,h3,h4⟩:=h
   simp only[List.cons_append]
   rw[ab.flat hc]
   exact⟨d,_,v,_,rfl,rfl,h3,ab.join cs lr _ _ _ _ _ _ _ _ h4 h2⟩
theorem ab.CN {hv:Option Value} :∀(cs:List CT) (ds:List DC) (us:List Value) (fp:List Nat),aq cs=true→a8 w cs ds (fun j=>us[j]?) fp→us.length=cs.length→ab w hv cs [] ds us []
 | [],ds,us,fp,_,h,hl=>by
  simp only[a8] at h
  simp only[ab]
  exact⟨trivial,h.1,by simpa using hl,trivial⟩
 | c::cs,ds,us,fp,hf,h,hl=>by
  rw[fj,Bool.and_eq_true] at hf
  simp only[a8] at h
  obtain⟨d,r',v,f1,f2,rfl,h0,h1,h2,rfl⟩:=h
  cases us with
  | nil=>simp at hl
  | cons u us=>
   simp only[List.getElem?_cons_zero,Option.some.injEq] at h0
   subst h0
   rw[ab.flat hf.1]
   refine⟨d,r',u,us,rfl,rfl, ?_,ab.CN cs r' us f2 hf.2 (by simpa using h2) (by simpa using hl)⟩
   have hz:f1=[]:=dK.l5 [c] [d] (fun _=>some u) f1 hf.1 (by simp only[a8];exact⟨d,[],u,f1,[],rfl,rfl,h1,by simp,by simp⟩)
   subst hz
   exact h1
theorem ab.toFlat {hv:Option Value} :∀(cs:List CT) (ts:List TypeId) (ds:List DC) (us:List Value) (mb:List Nat),aq cs=true→ab w hv cs ts ds us mb→ts=[]∧mb=[]∧a8 w cs ds (fun j=>us[j]?) []
 | [],_,_,_,_,_,h=>by
  simp only[ab] at h
  obtain⟨rfl,rfl,rfl,rfl⟩:=h
  exact⟨rfl,rfl,by simp [a8]⟩
 | c::cs,_,_,_,_,hf,h=>by
  rw[fj,Bool.and_eq_true] at hf
  rw[ab.flat hf.1] at h
  obtain⟨d,aZ,v,aO,rfl,rfl,h3,h4⟩:=h
  obtain⟨k1,k2,k3⟩:=ab.toFlat cs _ _ _ _ hf.2 h4
  refine⟨k1,k2, ?_⟩
  simp only[a8]
  exact⟨d,aZ,v,[],[],rfl,rfl,h3,by simpa using k3,rfl⟩
theorem ab.Ba {hv hv':Option Value} {cs:List CT} {ts:List TypeId} {ds:List DC} {us:List Value} {mb:List Nat} (hf:aq cs=true) (h:ab w hv cs ts ds us mb):ab w hv' cs ts ds us mb:=by
 obtain⟨rfl,rfl,k3⟩:=ab.toFlat _ _ _ _ _ hf h
 exact ab.CN _ _ _ _ hf k3 (ab.length _ _ _ _ _ h).1
theorem ab.out:∀(e:List CT) (off:Nat) (e':List CT) (ts:List TypeId) (r:List DC) (us:List Value) (m:List Nat),e[off]? =some (.sl e')→aF e=1→ab w none e ts r us m→
  ∃t1 v rws,ts=[t1]∧us[off]? =some v∧r[off]? =some (.sl rws)∧aq e'=true∧JZ w none t1 e' rws v m∧ab w (some v) e [t1] r us []
 | [],_,_,_,_,_,_,h,_,_=>by simp at h
 | c::cs,off,e',_,_,_,_,h,hn,hc=>by
  rcases dn c with ⟨e,rfl⟩ | hf
  ·simp only[aF] at hn
   have ew:aq cs=true:=dX (by omega)
   cases off with
   | zero=>
    simp only[List.getElem?_cons_zero,Option.some.injEq,CT.sl.injEq] at h
    subst h
    simp only[ab] at hc
    obtain⟨t,d5,rows,aZ,v,aO,m1,gl,rfl,rfl,rfl,h4,h5,h6,rfl⟩:=hc
    obtain⟨rfl,rfl,_⟩:=ab.toFlat _ _ _ _ _ ew h6
    have bg:v.oneCell'=true:=by
     obtain⟨vals,az,g1,_⟩:=h5
     exact g1.one
    refine⟨t,v,rows,rfl,rfl,rfl,h4,by simpa using h5, ?_⟩
    simp only[ab]
    exact⟨t,[],rows,aZ,v,aO,[],[],rfl,rfl,rfl,h4,⟨rfl,bg,rfl⟩,ab.Ba ew h6,rfl⟩
   | succ k=>exact (flat_get ew (by simpa using h)).elim
  ·cases off with
   | zero=>
    simp only[List.getElem?_cons_zero,Option.some.injEq] at h
    subst h
    simp [aq] at hf
   | succ k=>
    rw[ab.flat hf] at hc
    obtain⟨d,aZ,v,aO,rfl,rfl,h3,h4⟩:=hc
    rw[dW hf] at hn
    obtain⟨t1,v1,rws,rfl,k1,k2,k3,k4,k5⟩:=ab.out cs k e' _ _ _ _ (by simpa using h) hn h4
    refine⟨t1,v1,rws,rfl,by simpa using k1,by simpa using k2,k3,k4, ?_⟩
    rw[ab.flat hf]
    exact⟨d,aZ,v,aO,rfl,rfl,h3,k5⟩
theorem CV {c:CT} {cs:List CT} (hc:aq [c]=true):d8 (c::cs)=d8 cs+1:=by
 cases c with
 | sl e=>simp [aq] at hc
 | _=>rfl
theorem ab.back {v:Value} {rws:List (List DC)} {m1:List Nat} :∀(e:List CT) (e':List CT) (t1:TypeId) (r:List DC) (us:List Value) (m:List Nat),e[d8 e]? =some (.sl e')→aF e=1→ab w (some v) e [t1] r us m→
  JZ w none t1 e' rws v m1→ab w none e [t1] (bQ r (d8 e) [.sl rws]) us m1
 | [],_,_,_,_,_,h,_,_,_=>by simp [d8] at h
 | c::cs,e',t1,_,_,_,h,hn,hc,hs=>by
  rcases dn c with ⟨e,rfl⟩ | hf
  ·simp only[aF] at hn
   have ew:aq cs=true:=dX (by omega)
   simp only[d8,List.getElem?_cons_zero,Option.some.injEq,CT.sl.injEq] at h
   subst h
   simp only[ab] at hc
   obtain⟨t,d5,rows,aZ,v',aO,M0,gl,h1,rfl,rfl,h4,⟨rfl,bg,rfl⟩,h6,rfl⟩:=hc
   simp only[List.cons.injEq] at h1
   obtain⟨rfl,rfl⟩:=h1
   obtain⟨_,rfl,_⟩:=ab.toFlat _ _ _ _ _ ew h6
   simp only[d8,bQ,ab]
   exact⟨t1,[],rws,aZ,v',aO,m1,[],rfl,by simp,rfl,h4,hs,ab.Ba ew h6,by simp⟩
  ·rw[CV hf] at h ⊢
   rw[ab.flat hf] at hc ⊢
   obtain⟨d,aZ,v',aO,rfl,rfl,h3,h4⟩:=hc
   rw[dW hf] at hn
   refine⟨d,bQ aZ (d8 cs) [.sl rws],v',aO, ?_,rfl,h3,ab.back cs e' t1 _ _ _ (by simpa using h) hn h4 hs⟩
   have e1:d8 cs+1+([DC.sl rws]:List DC).length=(d8 cs+([DC.sl rws]:List DC).length)+1:=by omega
   simp only[bQ,e1,List.take_succ_cons,List.drop_succ_cons,List.cons_append]
theorem AR {α:Type} (l nu:List α) (p j:Nat) (h:p+nu.length≤l.length):(l.take p++(nu++l.drop (p+nu.length)))[j]? =if j<p then l[j]? else if j<p+nu.length then nu[j - p]? else l[j]? :=by
 have ht:(l.take p).length=p:=by simp;omega
 split
 ·rename_i hj
  rw[List.getElem?_append_left (by omega),List.getElem?_take,if_pos hj]
 ·rename_i hj
  rw[List.getElem?_append_right (by omega),ht]
  split
  ·rw[List.getElem?_append_left (by omega)]
  ·rw[List.getElem?_append_right (by omega),List.getElem?_drop]
   congr 1
   omega
theorem Fv {α:Type} (vals nu:List α) (i off el:Nat) (AZ:off+nu.length≤el) (hl:i*el+el≤vals.length):
  ((vals.take (i*el+off)++(nu++vals.drop (i*el+off+nu.length))).drop (i*el)).take el=((vals.drop (i*el)).take el).take off++(nu++((vals.drop (i*el)).take el).drop (off+nu.length)):=by
 apply List.ext_getElem?
 intro j
 rw[AR _ _ _ _ (by simp;omega),List.getElem?_take,List.getElem?_drop,AR _ _ _ _ (by omega)]
 simp only[List.getElem?_take,List.getElem?_drop]
 by_cases hj:j<el
 ·rw[if_pos hj,if_pos hj]
  by_cases h1:j<off
  ·rw[if_pos (by omega),if_pos h1]
  ·rw[if_neg (by omega),if_neg h1]
   by_cases h2:j<off+nu.length
   ·rw[if_pos (by omega),if_pos h2]
    congr 1
    omega
   ·rw[if_neg (by omega),if_neg h2]
 ·rw[if_neg hj,if_neg hj,if_neg (by omega),if_neg (by omega)]
theorem DU {α:Type} (vals nu:List α) (i off el k:Nat) (AZ:off+nu.length≤el) (hl:i*el+el≤vals.length) (hk:k≠i):
  ((vals.take (i*el+off)++(nu++vals.drop (i*el+off+nu.length))).drop (k*el)).take el=(vals.drop (k*el)).take el:=by
 apply List.ext_getElem?
 intro j
 rw[List.getElem?_take,List.getElem?_drop,AR _ _ _ _ (by omega),List.getElem?_take,List.getElem?_drop]
 by_cases hj:j<el
 ·rw[if_pos hj,if_pos hj]
  rcases Nat.lt_or_ge k i with cn | EI
  ·have:k*el+el≤i*el:=by rw[←Nat.succ_mul];exact Nat.mul_le_mul_right _ cn
   rw[if_pos (by omega)]
  ·have:i*el+el≤k*el:=by rw[←Nat.succ_mul];exact Nat.mul_le_mul_right _ (by omega)
   rw[if_neg (by omega),if_neg (by omega)]
 ·rw[if_neg hj,if_neg hj]
theorem bI.set {w w':World} {e:List CT} {ts:List TypeId} {rows:List (List DC)} {vals:List Value} {hv hv':Nat→Option Value} {aT:List (List Nat)} (h:bI w e ts rows vals hv aT) (hs:w.heap.size≤w'.heap.size) (hl:vals.length=rows.length*e.length)
  {i off:Nat} (hi:i<rows.length) {nu:List Value} (AZ:off+nu.length≤e.length) {r:List DC} {m:List Nat} (hm:∀j,j≠i→∀m',aT[j]? =some m'→∀b∈m',w'.heap[b]? =w.heap[b]?)
  (hh:∀j,j≠i→hv' j=hv j) (hr:ab w' (hv' i) e ts r (((vals.drop (i*e.length)).take e.length).take off++(nu++((vals.drop (i*e.length)).take e.length).drop (off+nu.length))) m):
  bI w' e ts (rows.set i r) (vals.take (i*e.length+off)++(nu++vals.drop (i*e.length+off+nu.length))) hv' (aT.set i m):=by
 have EK:i*e.length+e.length≤vals.length:=by rw[hl,←Nat.succ_mul];exact Nat.mul_le_mul_right _ hi
 refine⟨by simp [h.1],fun k r' m' hk FX=> ?_⟩
 by_cases Aj:k=i
 ·subst Aj
  rw[List.getElem?_set_self hi,Option.some.injEq] at hk
  rw[List.getElem?_set_self (by rw[h.1];exact hi),Option.some.injEq] at FX
  subst hk FX
  rw[Fv _ _ _ _ _ AZ EK]
  exact hr
 ·rw[List.getElem?_set_ne (Ne.symm Aj)] at hk FX
  rw[DU _ _ _ _ _ _ AZ EK Aj,hh k Aj]
  exact ab.mono hs _ _ _ _ _ (h.2 k r' m' hk FX) (hm k Aj m' FX)
end
end Go.Proofs.YtngbcccnjiaddaaGreat.Vm
set_option linter.unusedVariables false
set_option linter.unusedSimpArgs false
namespace Go.Proofs.YtngbcccnjiaddaaGreat.Vm
def Env.fv (β:Env) (id:Nat) (l:List Nat):Env:=⟨β.cU,β.val,β.gH,aA β.nb id l⟩
def Env.gh (β:Env) (id:Nat) (v:Value) (l:List Nat):Env:=⟨β.cU,aA β.val id v,β.gH,aA β.nb id l⟩
section
variable {P:Program} {Γ:Ctx} {w0:World} {S:Own} {st:St} {o:Oper} {e:cL} {a:Act} {w w':World}
variable {f:Nat→SV} {h:Nat→Option aj} {β:Env} {φ:Nat→List Nat} {tm:Array Value}
theorem Core.Dv (hc:Core w0 S f h β φ tm w) {id:Nat} {ob:aj} {t:TypeId} {ct:List CT} {ts:List TypeId} {rows:List (List DC)} {hl:Option (Nat×Nat)} {FJ:List Nat} {G:Nat→Prop} {h':Nat→Option aj}
  (dR:h id=some ob) (hG:∀k,G k→k≠id) (hh:h' id=some (.deep t ct ts rows hl)) (DJ:∀j,j≠id→∀x,h' j=some x→h j=some x∧¬G j)
  (hs:w.heap.size≤w'.heap.size) (hw:∀b,b<w.heap.size→b ∉ (β.val id).ownBlock.toList→w'.heap[b]? =w.heap[b]?)
  (a7:∀b∈(β.val id).ownBlock.toList,b∈al β id ob)
  (jr:∀b∈FJ,b∈al β id ob∨∃k x,G k∧h k=some x∧b∈al β k x)
  (hE:fU w' (Av h' (β.fv id FJ)) (β.fv id FJ) id (.deep t ct ts rows hl) ((β.val id).ownBlock.toList++FJ)) (hnd:((β.val id).ownBlock.toList++FJ).Nodup):
  Core w0 S f h' (β.fv id FJ) (aA φ id ((β.val id).ownBlock.toList++FJ)) tm w':=by
 have je:∀j oj,j≠id→al (β.fv id FJ) j oj=al β j oj:=by
  intro j oj hj
  cases oj<;>simp [al,Env.fv,aA,hj]
 have ER:∀b∈(β.val id).ownBlock.toList++FJ,b∈al β id ob∨∃k x,G k∧h k=some x∧b∈al β k x:=by
  intro b hb
  rcases List.mem_append.1 hb with hb | hb
  ·exact .inl (a7 b hb)
  ·exact jr b hb
 have bE:∀b∈(β.val id).ownBlock.toList++FJ,((w0.heap.size≤b∨S b)∧b<w.heap.size)∧Av h β b∧∀j oj,j≠id→h j=some oj→¬G j→b ∉ φ j:=by
  intro b hb
  rcases ER b hb with h1 | ⟨k,x,hk,hx,h1⟩
  ·have h2:=ah (hc.ay id ob dR) b h1
   exact⟨(hc.fresh id ob dR).2 b h2,.inl ⟨id,ob,dR,h1⟩,fun j oj hj jd _=>hc.sep id j ob oj (Ne.symm hj) dR jd b h2⟩
  ·have h2:=ah (hc.ay k x hx) b h1
   exact⟨(hc.fresh k x hx).2 b h2,.inl ⟨k,x,hx,h1⟩,fun j oj hj jd hg=>hc.sep k j x oj (fun e=>hg (e ▸ hk)) hx jd b h2⟩
 refine hc.mH (fun _=>False) hs (fun b hb hn=>hw b hb (fun hx=>hn (.inl ⟨id,ob,dR,a7 b hx⟩))) ?_ (fun _ _ _ h=>h) (fun _ _=>⟨rfl,rfl⟩) ?_ ?_
 ·rintro b (⟨j,oj,hj,bo⟩ | hb)
  case inr=>exact .inl (.inr hb)
  by_cases cd:j=id
  ·subst cd
   rw[hh,Option.some.injEq] at hj
   subst hj
   refine .inl (bE b ?_).2.1
   simpa [al,Env.fv,aA] using bo
  ·rw[je j oj cd] at bo
   exact .inl (.inl ⟨j,oj,(DJ j cd oj hj).1,bo⟩)
 ·intro j oj hj
  by_cases cd:j=id
  ·subst cd
   rw[hh,Option.some.injEq] at hj
   subst hj
   refine .inr ⟨by simpa [aA] using hE,by simpa [aA] using hnd,fun b hb=> ?_⟩
   have:=(bE b (by simpa [aA] using hb)).1
   exact⟨this.1,by omega⟩
  ·have h1:=(DJ j cd oj hj).1
   refine .inl ⟨fun h=>h,h1,by simp [Env.fv,aA,cd],by simp [aA,cd],fun _ _ h=>h,fun b hb=> ?_⟩
   have fC:=ah (hc.ay j oj h1) b hb
   exact hw b ((hc.fresh j oj h1).2 b fC).2 (fun hx=>hc.sep id j ob oj (Ne.symm cd) dR h1 b (ah (hc.ay id ob dR) b (a7 b hx)) fC)
 ·intro i j oi oj cJ hi hj b hb
  by_cases ly:i=id
  ·subst ly
   have gx:j≠i:=Ne.symm cJ
   simp only[aA,if_true] at hb
   simp only[aA,gx,if_false]
   obtain⟨h1,h2⟩:=DJ j gx oj hj
   exact (bE b hb).2.2 j oj gx h1 h2
  ·simp only[aA,ly,if_false] at hb
   obtain⟨h1,h2⟩:=DJ i ly oi hi
   by_cases cd:j=id
   ·subst cd
    simp only[aA,if_true]
    exact fun ax=>(bE b ax).2.2 i oi ly h1 h2 hb
   ·simp only[aA,cd,if_false]
    exact hc.sep i j oi oj cJ h1 (DJ j cd oj hj).1 b hb
theorem C2 (hR:Rel w0 S st a w) (hd:∀d,o.dst=some d→bd st.n d) {c:Call} {x:Operand} {t:TypeId} (ho:o.op= .call c) (hb:c.callee= .builtin .len)
  (hx:c.args= #[x]) (ht:c.argTypes= #[t]) {sx:SV} (h1:(cb x).val st.get st.obj=some sx) (he:(HO P t sx).val st.get st.obj=some e):Good P w0 S st o e a w:=by
 unfold HO at he
 split at he
 ·rename_i id
  simp only[M.aU,Option.bind_eq_some_iff] at he
  obtain⟨ob,aL,he⟩:=he
  split at he
  ·rename_i t' ct ts r hl
   split at he
   ·rename_i et hu
    simp only[M.aa,Option.some.injEq] at he
    subst he
    refine ao hR hd rfl rfl fun β φ hc=> ?_
    have hv:=hc.ev h1
    simp only[ak] at hv
    obtain⟨vals,aT,a7,_⟩:=hc.ay id _ aL
    have key:∃q cap,β.val id= .slice q r.length cap∧r.length≤maxLen:=by
     rcases a7.2 with ⟨hv',h0,_⟩ | ⟨g,cap,cur,hv',_,AV,hm,_⟩
     ·exact⟨none,0,by rw[hv',h0],by omega⟩
     ·exact⟨_,cap,hv',by omega⟩
    obtain⟨q,cap,hq,hm⟩:=key
    refine⟨.int .i64 r.length, ?_,by unfold ak;exact⟨rfl,A4 hm⟩⟩
    simp [execOp,ho,resolve,hb,hx,ht,invoke,builtin,hv.1,hq,Builtin.len_,run_underlying hu,goInt]
   ·simp at he
  ·refine Ay hR hd ho hb hx ht h1 ?_
   exact he
 ·exact Ay hR hd ho hb hx ht h1 he
theorem kI (hR:Rel w0 S st a w) (hd:∀d,o.dst=some d→bd st.n d) {t:TypeId} {x i:Operand} (ho:o.op= .indexAddr t x i) {sx si:SV}
  (h1:(cb x).val st.get st.obj=some sx) (h2:(cb i).val st.get st.obj=some si) (he:(jf P t sx si).val st.get st.obj=some e) (aJ:e.ok=true):Good P w0 S st o e a w:=by
 unfold jf at he
 split at he
 ·rename_i id
  simp only[M.aU,Option.bind_eq_some_iff] at he
  obtain⟨ob,aL,he⟩:=he
  split at he
  ·rename_i t' ct ts r hl
   split at he
   ·rename_i et k n hu
    cases hz:aY P et ct.length
    ·simp [hz] at he
    simp only[hz,cond_true,M.aa,Option.some.injEq] at he
    subst he
    simp only[Bool.and_eq_true,decide_eq_true_eq] at aJ
    obtain⟨i',hi,dx⟩:=aX hz
    refine ao hR hd rfl rfl fun β φ hc=> ?_
    have hv:=hc.ev h1
    have GC:=hc.ev h2
    simp only[ak] at hv GC
    obtain⟨vals,aT,a7,_⟩:=hc.ay id _ aL
    rcases a7.2 with ⟨_,h0,_⟩ | ⟨g,cap,cur,hv',_⟩
    ·omega
    ·refine⟨.pointer (some ⟨g,0+n.toNat*i'.size,none⟩), ?_, ?_⟩
     ·simp [execOp,ho,hv.1,hv',GC.1,Instr.indexAt,asIntOf,run_underlying hu,aJ.1,aJ.2,sizeOf,typeInfo,hi,dm]
     ·simp only[ak]
      exact⟨g,by rw[hv'];rfl,by rw[dx];simp⟩
   ·simp at he
  ·exact gL hR hd ho h1 h2 he aJ
 ·exact gL hR hd ho h1 h2 he aJ
theorem Er (hc:Core w0 S f h β φ tm w) {id:Nat} {t:TypeId} {ct:List CT} {ts:List TypeId} {rows:List (List DC)} {hl:Option (Nat×Nat)} (aL:h id=some (.deep t ct ts rows hl)) {i:Nat} (hi:i<rows.length) {g:Nat} (hg:(β.val id).ownBlock=some g):
  ∃(us:List Value) (m:List Nat),ab w (hF β hl i) ct ts (rows.getD i []) us m∧us.length=ct.length∧∀j u,us[j]? =some u→w.cell? ⟨g,i*ct.length+j,none⟩=some u:=by
 obtain⟨vals,aT,a7,da,_,_⟩:=hc.ay id _ aL
 have hf:i<aT.length:=by rw[da.1];exact hi
 have eP:=da.2 i (rows.getD i []) aT[i] (cB hi) (by simp)
 exact⟨_,_,eP,(ab.length _ _ _ _ _ eP).1,fun j u hj=>a7.cell hg (fS hj)⟩
theorem ab.get {hv:Option Value} :∀(cs:List CT) (ts:List TypeId) (r:List DC) (us:List Value) (m:List Nat) (k:Nat) (c:CT),ab w hv cs ts r us m→cs[k]? =some c→aq [c]=true→
  ∃v,us[k]? =some v∧bV w c (r.getD k default) v []
 | [],_,_,_,_,_,_,_,hk,_=>by simp at hk
 | c0::cs,_,_,_,_,k,c,h,hk,hf=>by
  rcases dn c0 with ⟨e,rfl⟩ | hc
  ·simp only[ab] at h
   obtain⟨t,d5,rows,aZ,v,aO,m1,gl,rfl,rfl,rfl,_,_,h6,rfl⟩:=h
   cases k with
   | zero=>
    simp only[List.getElem?_cons_zero,Option.some.injEq] at hk
    subst hk
    simp [aq] at hf
   | succ k=>
    obtain⟨v',h1,h2⟩:=ab.get cs _ _ _ _ k c h6 (by simpa using hk) hf
    exact⟨v',by simpa using h1,by simpa using h2⟩
  ·rw[ab.flat hc] at h
   obtain⟨d,aZ,v,aO,rfl,rfl,h3,h4⟩:=h
   cases k with
   | zero=>
    simp only[List.getElem?_cons_zero,Option.some.injEq] at hk
    subst hk
    exact⟨v,by simp,by simpa using h3⟩
   | succ k=>
    obtain⟨v',h1,h2⟩:=ab.get cs _ _ _ _ k c h4 (by simpa using hk) hf
    exact⟨v',by simpa using h1,by simpa using h2⟩
theorem ab.bM {hv:Option Value} {av:Nat→Prop} {cs:List CT} {ts:List TypeId} {r:List DC} {us:List Value} {m:List Nat} (h:ab w hv cs ts r us m):
  ∀(n k:Nat),k+n≤cs.length→aq ((cs.drop k).take n)=true→∃vs:List Value,vs.length=n∧(∀j v,vs[j]? =some v→us[k+j]? =some v)∧af w av β (cg ((cs.drop k).take n) r k) vs∧∀x∈vs,x.oneCell'=true
 | 0,k,_,_=>⟨[],rfl,by simp,by simp [cg,af],by simp⟩
 | n+1,k,hk,hf=>by
  have cn:k<cs.length:=by omega
  have Iw:(cs.drop k).take (n+1)=cs[k]::(cs.drop (k+1)).take n:=by
   rw[List.drop_eq_getElem_cons cn,List.take_succ_cons]
  rw[Iw,fj,Bool.and_eq_true] at hf
  obtain⟨v,e1,e2⟩:=ab.get cs ts r us m k cs[k] h (by simp) hf.1
  obtain⟨vs,l1,l2,l3,l4⟩:=ab.bM h n (k+1) (by omega) hf.2
  refine⟨v::vs,by simp [l1], ?_, ?_, ?_⟩
  ·intro j u hj
   cases j with
   | zero=>simp at hj;subst hj;simpa using e1
   | succ j=>have:=l2 j u (by simpa using hj);rw[←this];congr 1;omega
  ·rw[Iw]
   simp only[cg,af]
   exact⟨v,vs,rfl,dy e2 (by simp),l3⟩
  ·intro x hx
   rcases List.mem_cons.1 hx with rfl | hx
   ·exact e2.one
   ·exact l4 x hx
theorem B6 (hR:Rel w0 S st a w) (hd:∀d,o.dst=some d→bd st.n d) {t:TypeId} {x:Operand} (ho:o.op= .load t x) {id i z off:Nat} {t':TypeId} {ct:List CT} {ts:List TypeId} {rows:List (List DC)} {hl:Option (Nat×Nat)}
  (h1:(cb x).val st.get st.obj=some (.ec id i z off)) (aL:st.obj id=some (.deep t' ct ts rows hl)) (he:(Fl P t i z off ct rows).val st.get st.obj=some e) (aJ:e.ok=true):Good P w0 S st o e a w:=by
 unfold Fl at he
 cases hz:Nat.beq z ct.length
 ·simp [hz] at he
 have Ji:=Nat.eq_of_beq_eq_true hz
 simp only[hz,Bool.not_true,cond_false] at he
 split at he
 ·simp at he
 rename_i td hu
 have reads:∀β φ,Core w0 S st.get st.obj β φ a.tmps w→i<rows.length→∃g us m,a.eval x= .pointer (some ⟨g,i*ct.length+off,none⟩)∧ab w (hF β hl i) ct ts (rows.getD i []) us m∧
   ∀j u,us[j]? =some u→w.cell? ⟨g,i*ct.length+j,none⟩=some u:=by
  intro β φ hc hi
  have hx:=hc.ev h1
  simp only[ak] at hx
  obtain⟨g,hg,hv⟩:=hx
  obtain⟨us,m,k1,_,k3⟩:=Er hc aL hi hg
  exact⟨g,us,m,by rw[hv,Ji],k1,k3⟩
 cases ha:bq P t
 ·simp only[ha,cond_false] at he
  split at he
  ·rename_i c AV
   cases hf:aq [c]
   ·simp [hf] at he
   simp only[hf,cond_true,M.aa,Option.some.injEq] at he
   subst he
   have hi:i<rows.length:=by simpa using aJ
   refine ao hR hd rfl rfl fun β φ hc=> ?_
   obtain⟨g,us,m,hv,hr,hcell⟩:=reads β φ hc hi
   obtain⟨v,e1,e2⟩:=ab.get _ _ _ _ _ _ _ hr AV hf
   refine⟨v, ?_,dy e2 (by simp)⟩
   simp [execOp,ho,hv,dU ha hu (hcell _ _ e1)]
  ·simp at he
 ·simp only[ha,cond_true] at he
  split at he
  ·rename_i j hj
   cases Jj:Nat.ble (off+j.size) ct.length && aq ((ct.drop off).take j.size)
   ·simp [Jj] at he
   simp only[Jj,cond_true,M.aa,Option.some.injEq] at he
   subst he
   simp only[Bool.and_eq_true] at Jj
   have hi:i<rows.length:=by simpa using aJ
   have hle:=Nat.le_of_ble_eq_true Jj.1
   refine ao hR hd rfl rfl fun β φ hc=> ?_
   obtain⟨g,us,m,hv,hr,hcell⟩:=reads β φ hc hi
   obtain⟨vs,l1,l2,l3,l4⟩:=ab.bM (β:=β) (av:=Av st.obj β) hr j.size off hle Jj.2
   refine⟨.agg vs.toArray, ?_, ?_⟩
   ·have:∀k v,vs[k]? =some v→w.cell? ⟨g,(i*ct.length+off)+k,none⟩=some v:=fun k v hk=>by
     rw[Nat.add_assoc]
     exact hcell _ _ (l2 k v hk)
    simp [execOp,ho,hv,fu ha hj l1 this]
   ·simp only[ak]
    exact⟨vs,rfl,l3,l4⟩
  ·simp at he
theorem AO {aT:List (List Nat)} {i:Nat} (hi:i<aT.length):∀b∈(aT.set i []).flatten,b∈aT.flatten:=by
 intro b hb
 rw[bT hi] at hb
 rw[bu hi]
 simp only[List.nil_append,List.mem_append] at hb ⊢
 rcases hb with hb | hb<;>simp [hb]
theorem C5 (hR:Rel w0 S st a w) {d:Nat} (aQ:o.dst=some d) (hd:bd st.n d) (bW:bJ st d) {t:TypeId} {x:Operand} (ho:o.op= .load t x) {id i off:Nat} {t' t1:TypeId} {ct e':List CT} {rows:List (List DC)} {td:TypeDesc}
  (h1:(cb x).val st.get st.obj=some (.ec id i ct.length off)) (aL:st.obj id=some (.deep t' ct [t1] rows none)) (AZ:ct[off]? =some (.sl e')) (Hh:aF ct=1) (ha:bq P t=false) (hu:P.underlying t=some td) (hi:i<rows.length)
  (fT:e.sv= .own (ag d 0)) (kT:e.cw=none) (how:e.ow=[(ag d 0,some (.row t1 e' ((rows.getD i []).getD off default).cT false true)),(id,some (.deep t' ct [t1] rows (some (i,ag d 0))))]):Good P w0 S st o e a w:=by
 obtain⟨β,φ,hc⟩:=hR.core
 have bE:ag d 0 / 64=d:=cM d 0 (by omega)
 generalize My:ag d 0=nid at*
 have cJ:id≠nid:=fun e=>(bW.obj id _ aL).1 (e ▸ bE)
 have hx:=hc.ev h1
 simp only[ak] at hx
 obtain⟨g,hg,hx⟩:=hx
 obtain⟨vals,aT,a7,da,jr,kA⟩:=hc.ay id _ aL
 have kp:i<aT.length:=by rw[da.1];exact hi
 have eP:=da.2 i (rows.getD i []) aT[i] (cB hi) (by simp)
 obtain⟨M3,v,rws,JS,hv,I_,ew,ku,KT⟩:=ab.out ct off e' _ _ _ _ AZ Hh eP
 simp only[List.cons.injEq,and_true] at JS
 subst JS
 obtain⟨AB,FR,GL,KO,GH⟩:=ku
 have K_:((rows.getD i []).getD off default).cT=rws:=by
  rw[List.getD_eq_getElem?_getD,I_]
  rfl
 rw[K_] at how
 have hcell:w.cell? ⟨g,i*ct.length+off,none⟩=some v:=a7.cell hg (fS hv)
 have F9:=(hc.fresh id _ aL).1
 rw[kA] at F9
 have jM:∀b∈v.ownBlock.toList,b∈aT.flatten:=by
  intro b hb
  rw[bu kp,GH]
  simp [hb]
 have Iq:∀b∈(β.val id).ownBlock.toList++aT.flatten,Av st.obj β b:=fun b hb=> .inl ⟨id,_,aL,by simpa [al,jr] using hb⟩
 have Ap:∀b∈(β.val id).ownBlock.toList++aT.flatten,b∈φ id:=fun b hb=>by rw[kA];exact hb
 have Ak:∀b∈(β.val id).ownBlock.toList++(aT.set i []).flatten,b∈(β.val id).ownBlock.toList++aT.flatten:=by
  intro b hb
  rcases List.mem_append.1 hb with hb | hb
  ·exact List.mem_append_left _ hb
  ·exact List.mem_append_right _ (AO kp b hb)
 have Dg:∀b∈v.ownBlock.toList,b ∉ (β.val id).ownBlock.toList++(aT.set i []).flatten:=by
  intro b hb iF
  rw[bu kp,List.nodup_append] at F9
  obtain⟨_,n2,n3⟩:=F9
  rw[List.nodup_append] at n2
  obtain⟨_,n4,n5⟩:=n2
  rw[List.nodup_append] at n4
  obtain⟨_,_,n6⟩:=n4
  rw[←GH] at hb
  rcases List.mem_append.1 iF with iF | iF
  ·exact n3 b iF b (by simp [hb]) rfl
  ·rw[bT kp] at iF
   simp only[List.nil_append,List.mem_append] at iF
   rcases iF with iF | iF
   ·exact n5 b iF b (by simp [hb]) rfl
   ·exact n6 b hb b iF rfl
 have EW:((β.val id).ownBlock.toList++(aT.set i []).flatten).Nodup:=by
  refine List.Sublist.nodup ?_ F9
  refine (List.Sublist.refl _).append ?_
  rw[bT kp,bu kp]
  exact (List.Sublist.refl _).append ((List.nil_sublist _).append (List.Sublist.refl _))
 have F7:v.ownBlock.toList.Nodup:=by cases v.ownBlock<;>simp
 let β':Env:=⟨β.cU,aA β.val nid v,β.gH,aA β.nb id (aT.set i []).flatten⟩
 have E5:β'.val id=β.val id:=by simp [β',aA,cJ]
 have BP:β'.val nid=v:=by simp [β',aA]
 have IV:β'.nb id=(aT.set i []).flatten:=by simp [β',aA]
 let h':Nat→Option aj:=aA (aA st.obj id (some (.deep t' ct [t1] rows (some (i,nid))))) nid (some (.row t1 e' rws false true))
 let φ':Nat→List Nat:=aA (aA φ id ((β.val id).ownBlock.toList++(aT.set i []).flatten)) nid v.ownBlock.toList
 have Iv:Core w0 S st.get h' β' φ' a.tmps w:=by
  have e1:h' nid=some (.row t1 e' rws false true):=by simp [h',aA]
  have e2:h' id=some (.deep t' ct [t1] rows (some (i,nid))):=by simp [h',aA,cJ]
  have e3:∀j,j≠nid→j≠id→h' j=st.obj j:=fun j h1 h2=>by simp [h',aA,h1,h2]
  have p1:φ' nid=v.ownBlock.toList:=by simp [φ',aA]
  have p2:φ' id=(β.val id).ownBlock.toList++(aT.set i []).flatten:=by simp [φ',aA,cJ]
  have p3:∀j,j≠nid→j≠id→φ' j=φ j:=fun j h1 h2=>by simp [φ',aA,h1,h2]
  have je:∀j oj,j≠nid→j≠id→al β' j oj=al β j oj:=by
   intro j oj h1 h2
   cases oj<;>simp [al,β',aA,h1,h2]
  have J_:∀b,Av h' β' b→Av st.obj β b:=by
   rintro b (⟨j,oj,hj,bo⟩ | hb)
   case inr=>exact .inr hb
   by_cases mo:j=nid
   ·subst mo
    rw[e1,Option.some.injEq] at hj
    subst hj
    exact Iq b (List.mem_append_right _ (jM b (by simpa [al,BP] using bo)))
   ·by_cases gx:j=id
    ·subst gx
     rw[e2,Option.some.injEq] at hj
     subst hj
     exact Iq b (Ak b (by simpa only[al,E5,IV] using bo))
    ·rw[e3 j mo gx] at hj
     rw[je j oj mo gx] at bo
     exact .inl ⟨j,oj,hj,bo⟩
  have bz:=(hc.fresh id _ aL).2
  refine hc.mH (fun j=>j=nid) (Nat.le_refl _) (fun _ _ _=>rfl) (fun b hb=> .inl (J_ b hb)) (fun k j hj e=>bW.slot k j hj (e ▸ bE)) (fun j hj=>⟨by simp [β',aA,hj],rfl⟩) ?_ ?_
  ·intro j oj hj
   by_cases mo:j=nid
   ·subst mo
    rw[e1,Option.some.injEq] at hj
    subst hj
    refine .inr ⟨?_,by rw[p1];exact F7,fun b hb=> ?_⟩
    ·refine⟨AB,FR,by rw[BP];exact GL,KO, ?_, ?_⟩
     ·rw[KO.Dt ew]
      simp
     ·rw[p1,BP,KO.Dt ew]
      simp
    ·rw[p1] at hb
     exact bz b (Ap b (List.mem_append_right _ (jM b hb)))
   ·by_cases gx:j=id
    ·subst gx
     rw[e2,Option.some.injEq] at hj
     subst hj
     refine .inr ⟨?_,by rw[p2];exact EW,fun b hb=> ?_⟩
     ·refine⟨vals,aT.set i [],by rw[E5];exact a7,⟨by simp [da.1],fun k r m hk hm=> ?_⟩,IV,by rw[p2,E5]⟩
      by_cases Aj:k=i
      ·subst Aj
       rw[List.getElem?_set_self kp,Option.some.injEq] at hm
       subst hm
       have EY:r=rows.getD k []:=by
        rw[cB (d:=[]) hi,Option.some.injEq] at hk
        exact hk.symm
       subst EY
       simp only[hF,if_true]
       rw[BP]
       exact KT
      ·rw[List.getElem?_set_ne (Ne.symm Aj)] at hm
       simp only[hF,Aj,if_false]
       exact da.2 k r m hk hm
     ·rw[p2] at hb
      exact bz b (Ap b (Ak b hb))
    ·rw[e3 j mo gx] at hj
     refine .inl ⟨mo,hj,by simp [β',aA,gx],p3 j mo gx,fun k hk e=>(bW.obj j oj hj).2 k hk (e ▸ bE),fun _ _=>rfl⟩
  ·have kinds:∀j oj,h' j=some oj→∀b∈φ' j,(j=nid∧b∈v.ownBlock.toList)∨(j=id∧b∈(β.val id).ownBlock.toList++(aT.set i []).flatten)∨(j≠nid∧j≠id∧st.obj j=some oj∧b∈φ j):=by
    intro j oj hj b hb
    by_cases mo:j=nid
    ·subst mo
     rw[p1] at hb
     exact .inl ⟨rfl,hb⟩
    ·by_cases gx:j=id
     ·subst gx
      rw[p2] at hb
      exact .inr (.inl ⟨rfl,hb⟩)
     ·rw[p3 j mo gx] at hb
      rw[e3 j mo gx] at hj
      exact .inr (.inr ⟨mo,gx,hj,hb⟩)
   intro j k oj ok Kt hj hk b hb ax
   rcases kinds j oj hj b hb with ⟨rfl,x1⟩ | ⟨rfl,x1⟩ | ⟨x0,LX,x1,x2⟩<;>rcases kinds k ok hk b ax with ⟨rfl,y1⟩ | ⟨rfl,y1⟩ | ⟨y0,LY,y1,y2⟩
   ·exact Kt rfl
   ·exact Dg b x1 y1
   ·exact hc.sep id k _ ok (Ne.symm LY) aL y1 b (Ap b (List.mem_append_right _ (jM b x1))) y2
   ·exact Dg b y1 x1
   ·exact Kt rfl
   ·exact hc.sep _ k _ ok (Ne.symm LY) aL y1 b (Ap b (Ak b x1)) y2
   ·exact hc.sep id j _ oj (Ne.symm LX) aL x1 b (Ap b (List.mem_append_right _ (jM b y1))) x2
   ·exact hc.sep _ j _ oj (Ne.symm LX) aL x1 b (Ap b (Ak b y1)) x2
   ·exact hc.sep j k oj ok Kt x1 y1 b x2 y2
 refine bY hR (fun d' h'=>by rw[aQ] at h';injection h' with h';exact h' ▸ hd) (v:=v) (w':=w) ?_ hR.kept ⟨β',φ', ?_, ?_⟩
 ·simp [execOp,ho,hx,dU ha hu hcell]
 ·rw[how,kT]
  exact Iv
 ·rw[fT]
  unfold ak
  exact⟨BP.symm,GL.one⟩
end
end Go.Proofs.YtngbcccnjiaddaaGreat.Vm
set_option linter.unusedVariables false
set_option linter.unusedSimpArgs false
namespace Go.Proofs.YtngbcccnjiaddaaGreat.Vm
section
variable {P:Program} {Γ:Ctx} {w0:World} {S:Own} {st:St} {o:Oper} {e:cL} {a:Act} {w w':World}
variable {f:Nat→SV} {h:Nat→Option aj} {β:Env} {φ:Nat→List Nat} {tm:Array Value}
theorem ab.Gl {hv:Option Value} {pre part suf:List CT} {ts:List TypeId} {r ds:List DC} {us nu:List Value} {m:List Nat} (h:ab w hv (pre++(part++suf)) ts r us m) (hf:aq part=true) (hn:ab w hv part [] ds nu []):
  ab w hv (pre++(part++suf)) ts (bQ r pre.length ds) (us.take pre.length++(nu++us.drop (pre.length+nu.length))) m:=by
 obtain⟨Gm,HW,m1,m2,rfl,rfl,k1,k2⟩:=ab.split _ _ _ _ _ _ h
 obtain⟨MO,MP,m3,m4,rfl,rfl,k3,k4⟩:=ab.split _ _ _ _ _ _ k2
 obtain⟨rfl,rfl,_⟩:=ab.toFlat _ _ _ _ _ hf k3
 obtain⟨l1,l2⟩:=ab.length _ _ _ _ _ hn
 rw[List.drop_drop,List.drop_drop] at k4
 have:=ab.join _ _ _ _ _ _ _ _ _ _ k1 (ab.join _ _ _ _ _ _ _ _ _ _ hn k4)
 simpa only[bQ,l1,l2] using this
theorem ab.Gk {hv:Option Value} {pre part suf:List CT} {ts d5:List TypeId} {r ds:List DC} {us nu:List Value} {m m':List Nat} (h:ab w hv (pre++(part++suf)) ts r us m) (hf:aF part=aF (pre++(part++suf))) (hn:ab w none part d5 ds nu m'):
  ab w none (pre++(part++suf)) d5 (bQ r pre.length ds) (us.take pre.length++(nu++us.drop (pre.length+nu.length))) m':=by
 rw[dV,dV] at hf
 have f1:aq pre=true:=dX (by omega)
 have f2:aq suf=true:=dX (by omega)
 obtain⟨Gm,HW,m1,m2,rfl,rfl,k1,k2⟩:=ab.split _ _ _ _ _ _ h
 obtain⟨MO,MP,m3,m4,rfl,rfl,k3,k4⟩:=ab.split _ _ _ _ _ _ k2
 obtain⟨rfl,rfl,_⟩:=ab.toFlat _ _ _ _ _ f1 k1
 obtain⟨rfl,rfl,_⟩:=ab.toFlat _ _ _ _ _ f2 k4
 obtain⟨l1,l2⟩:=ab.length _ _ _ _ _ hn
 rw[List.drop_drop,List.drop_drop] at k4
 have:=ab.join _ _ _ _ _ _ _ _ _ _ (ab.Ba (hv':=none) f1 k1) (ab.join _ _ _ _ _ _ _ _ _ _ hn (ab.Ba (hv':=none) f2 k4))
 simpa only[bQ,l1,l2,List.nil_append,List.append_nil] using this
theorem de.cells:∀(cs:List CT) (ts:List TypeId) (ds:List DC) (us:List Value) (mb:List Nat),de w cs ts ds us mb→ab w none cs ts ds us mb
 | [],_,_,_,_,h=>by simpa only[de,ab] using h
 | .sl e::cs,_,_,_,_,h=>by
  simp only[de] at h
  obtain⟨t,d5,rows,aZ,v,aO,vals,az,gl,rfl,rfl,rfl,h4,h5,h6,h7,rfl⟩:=h
  simp only[ab]
  exact⟨t,d5,rows,aZ,v,aO,_,gl,rfl,rfl,rfl,h4,⟨vals,az,h5,h6,rfl⟩,de.cells cs _ _ _ _ h7,rfl⟩
 | .int k::cs,_,_,_,_,h=>by
  simp only[de] at h
  obtain⟨d,aZ,v,aO,rfl,rfl,h3,h4⟩:=h
  simp only[ab]
  exact⟨d,aZ,v,aO,rfl,rfl,h3,de.cells cs _ _ _ _ h4⟩
 | .bool::cs,_,_,_,_,h=>by
  simp only[de] at h
  obtain⟨d,aZ,v,aO,rfl,rfl,h3,h4⟩:=h
  simp only[ab]
  exact⟨d,aZ,v,aO,rfl,rfl,h3,de.cells cs _ _ _ _ h4⟩
 | .str::cs,_,_,_,_,h=>by
  simp only[de] at h
  obtain⟨d,aZ,v,aO,rfl,rfl,h3,h4⟩:=h
  simp only[ab]
  exact⟨d,aZ,v,aO,rfl,rfl,h3,de.cells cs _ _ _ _ h4⟩
theorem three (ct:List CT) (off n:Nat):ct.take off++((ct.drop off).take n++ct.drop (off+n))=ct:=by
 rw[←List.drop_drop,List.take_append_drop,List.take_append_drop]
theorem Az {t t':TypeId} {x y:Operand} (ho:o.op= .store t x y) {g i off:Nat} {ct:List CT} {n cap:Nat} {cur:Array Value} (hx:a.eval x= .pointer (some ⟨g,i*ct.length+off,none⟩)) {ti:TypeInfo} (F5:P.info? t=some ti) (bt:ti.size=(a.eval y).cells.size)
  (bg:∀v∈(a.eval y).cells.toList,v.oneCell'=true) (hh:w.heap[g]? =some (.cells cur t' (0,0))) (hi:i<n) (AX:n≤cap) (fA:cur.size=cap*ct.length) (dP:off+(a.eval y).cells.toList.length≤ct.length):
  (execOp a.eval o).run P w= .ok .skip (w.setRow g (cur.toList.take (i*ct.length+off)++((a.eval y).cells.toList++cur.toList.drop (i*ct.length+off+(a.eval y).cells.toList.length))).toArray):=by
 have hlen:i*ct.length+ct.length≤n*ct.length:=by rw[←Nat.succ_mul];exact Nat.mul_le_mul_right _ hi
 have BJ:n*ct.length≤cap*ct.length:=Nat.mul_le_mul_right _ AX
 have bp:=bO P g (i*ct.length+off) t' (0,0) (a.eval y).cells.toList 0 cur w hh (fun j _ h=>by simp at h) (by omega) bg
 simp only[Nat.add_zero] at bp
 have:=ix (P:=P) (t:=t) (b:=g) (off:=i*ct.length+off) (x:=a.eval y) F5 bt bp
 simp [execOp,ho,hx,this]
theorem cl.written {t:TypeId} {el i off n:Nat} {v:Value} {vals nu:List Value} (a7:cl w t el false v n vals) {g:Nat} (hg:v.ownBlock=some g) (hi:i<n) (dP:off+nu.length≤el) {cap:Nat} {cur:Array Value} (hh:w.heap[g]? =some (.cells cur t (0,0))) (fA:cur.size=cap*el) (AX:n≤cap):
  cl (w.setRow g (cur.toList.take (i*el+off)++(nu++cur.toList.drop (i*el+off+nu.length))).toArray) t el false v n (vals.take (i*el+off)++(nu++vals.drop (i*el+off+nu.length))):=by
 have hlen:i*el+el≤n*el:=by rw[←Nat.succ_mul];exact Nat.mul_le_mul_right _ hi
 have BJ:n*el≤cap*el:=Nat.mul_le_mul_right _ AX
 have ml:(cur.toList.take (i*el+off)++(nu++cur.toList.drop (i*el+off+nu.length))).length=cur.size:=by
  simp only[List.length_append,List.length_take,List.length_drop,Array.length_toList]
  omega
 rcases a7.2 with ⟨hv,h0,_⟩ | ⟨g',Ia,L0,hv,Ko,KH,D1,mj,E4⟩
 ·omega
 have Ho:g'=g:=by simpa [hv,Value.ownBlock] using hg
 subst Ho
 rw[hh] at Ko
 simp only[cond_false,Option.some.injEq,Obj.cells.injEq] at Ko
 obtain⟨rfl,_⟩:=Ko
 refine⟨?_,.inr ⟨g',Ia,(cur.toList.take (i*el+off)++(nu++cur.toList.drop (i*el+off+nu.length))).toArray,hv, ?_,KH,D1,by simpa [ml] using mj, ?_⟩⟩
 ·have:=a7.1
  simp only[List.length_append,List.length_take,List.length_drop]
  omega
 ·rw[setRow_heap w _ _ _ _ _ hh]
  simp
 ·simp only
  rw[iz _ _ _ _ (by omega) (by simp only[Array.length_toList];omega),E4]
theorem Bg (hR:Rel w0 S st a w) (hd:∀d,o.dst=some d→bd st.n d) {t t':TypeId} {x y:Operand} (ho:o.op= .store t x y) {id i off:Nat} {sy:SV} {bM:List SV} {ct:List CT} {ts:List TypeId} {rows:List (List DC)} {hl:Option (Nat×Nat)} {r:List DC×eW×Bool}
  (h1:(cb x).val st.get st.obj=some (.ec id i ct.length off)) (h2:(cb y).val st.get st.obj=some sy) (fA:(aC sy).val st.get st.obj=some bM) (dx:aY P t bM.length=true)
  (aL:st.obj id=some (.deep t' ct ts rows hl)) (dP:off+bM.length≤ct.length) (hf:aq ((ct.drop off).take bM.length)=true) (hr:(cf ((ct.drop off).take bM.length) bM).val st.get st.obj=some r)
  (hi:i<rows.length) (kT:e.cw=none) (BN:e.sv= .undef) (how:e.ow=[(id,some (.deep t' ct ts (rows.set i (bQ (rows.getD i []) off r.1)) hl))]):Good P w0 S st o e a w:=by
 obtain⟨ti,F5,bt⟩:=aX dx
 obtain⟨β,φ,hc⟩:=hR.core
 have hx:=hc.ev h1
 simp only[ak] at hx
 obtain⟨g,hg,hx⟩:=hx
 obtain⟨fT,bg⟩:=dM (hc.ev h2) fA
 have j_:=af.length _ _ fT
 have mS:(a.eval y).cells.size=bM.length:=by simpa using j_
 obtain⟨fp,ka,_,_,_⟩:=dY hc _ _ _ r fT hr
 obtain⟨vals,aT,a7,da,jr,kA⟩:=hc.ay id _ aL
 have kV:g∈al β id (.deep t' ct ts rows hl):=by simp [al,hg]
 rcases a7.2 with ⟨hv,h0,_⟩ | ⟨g',cap,cur,hv,hh,AX,D1,mj,E4⟩
 ·omega
 have Ho:g'=g:=by simpa [hv,Value.ownBlock] using hg
 subst Ho
 simp only[cond_false] at hh
 have Dk:(a.eval y).cells.toList.length=bM.length:=by simpa using mS
 have bp:=Az (P:=P) ho hx F5 (bt.trans mS.symm) bg hh hi AX mj (by rw[Dk];exact dP)
 have H5:=a7.written (off:=off) (nu:=(a.eval y).cells.toList) hg hi (by rw[Dk];exact dP) hh mj AX
 generalize (a.eval y).cells.toList=nu at*
 rw[←Dk] at dP hf ka hr
 have kp:i<aT.length:=by rw[da.1];exact hi
 have eP:=da.2 i (rows.getD i []) aT[i] (cB hi) (by simp)
 have GG:(ct.take off).length=off:=by simp;omega
 have IJ:((ct.drop off).take nu.length).length=nu.length:=by simp;omega
 have bE:=ab.Gl (pre:=ct.take off) (part:=(ct.drop off).take nu.length) (suf:=ct.drop (off+nu.length)) (by rw[three];exact eP) hf (ab.CN _ _ _ _ hf ka IJ.symm)
 rw[three,GG] at bE
 have bz:=hc.fresh id _ aL
 have hnd:=bz.1
 rw[kA] at hnd
 have JQ:∀b∈aT.flatten,b≠g':=by
  intro b hb e
  subst e
  rw[List.nodup_append] at hnd
  exact hnd.2.2 b (by simp [hg]) b hb rfl
 have kr:∀j m',aT[j]? =some m'→∀b∈m',b∈aT.flatten:=fun j m' hj b hb=>List.mem_flatten.2 ⟨m',List.mem_of_getElem? hj,hb⟩
 have Mw:aT.set i aT[i]=aT:=List.set_getElem_self ..
 have mn:=da.set (w':=w.setRow g' (cur.toList.take (i*ct.length+off)++(nu++cur.toList.drop (i*ct.length+off+nu.length))).toArray) (hv':=hF β hl) (by simp) a7.1 hi dP
  (fun j _ m' hj b hb=>setRow_other w g' b _ (JQ b (kr j m' hj b hb))) (fun _ _=>rfl)
  (ab.mono (by simp) _ _ _ _ _ bE (fun b hb=>setRow_other w g' b _ (JQ b (kr i aT[i] (by simp) b hb))))
 rw[Mw] at mn
 have Al:∀b∈al β id (.deep t' ct ts (rows.set i (bQ (rows.getD i []) off r.1)) hl),b∈al β id (.deep t' ct ts rows hl):=fun b hb=>hb
 refine iE hR hd bp (hR.kept.setRow (bz.2 g' (ah (hc.ay id _ aL) g' kV)).1 _) ⟨β,aA φ id ((β.val id).ownBlock.toList++aT.flatten), ?_,by rw[BN];simp [ak]⟩
 rw[how,kT]
 show Core w0 S st.get (aA st.obj id (some (.deep t' ct ts (rows.set i (bQ (rows.getD i []) off r.1)) hl))) _ _ _ _
 refine hc.rewrite aL kV Al ?_ hnd ?_
 ·exact⟨_,aT,by simpa using H5,mn,jr,rfl⟩
 ·intro b hb
  have ax:b∈φ id:=by rw[kA];exact hb
  exact⟨bz.2 b ax,fun j oj hj jd=>hc.sep id j _ _ (Ne.symm hj) aL jd b ax⟩
theorem AP:∀(U:List MU) (h:Nat→Option aj) (j:Nat),fo (ek U) h j=if j∈bn U then none else h j
 | [],h,j=>by simp [ek,bn,fo]
 | x::l,h,j=>by
  have ih:=AP l h j
  cases x<;>simp only[ek,bn,fo,aA]<;>first | exact ih | (by_cases hj:j=_<;>simp [hj,ih]<;>done) | skip
  all_goals
   simp only[List.mem_cons,ih]
   split<;>rename_i hj
   ·simp [hj]
   ·simp [hj]
theorem Bf (hR:Rel w0 S st a w) (hd:∀d,o.dst=some d→bd st.n d) {t t':TypeId} {x y:Operand} (ho:o.op= .store t x y) {id i off:Nat} {sy:SV} {bM:List SV} {ct:List CT} {ts:List TypeId} {rows:List (List DC)} {hl:Option (Nat×Nat)} {r:List DC×List MU}
  (h1:(cb x).val st.get st.obj=some (.ec id i ct.length off)) (h2:(cb y).val st.get st.obj=some sy) (fA:(aC sy).val st.get st.obj=some bM) (dx:aY P t bM.length=true)
  (aL:st.obj id=some (.deep t' ct ts rows hl)) (dP:off+bM.length≤ct.length) (hf:aF ((ct.drop off).take bM.length)=aF ct) (hr:(aV ((ct.drop off).take bM.length) ts bM).val st.get st.obj=some r)
  (Jd:cY (id::bn r.2)=true) (hi:i<rows.length) (IB:CD hl i=true) (kT:e.cw=none) (BN:e.sv= .undef) (how:e.ow=(id,some (.deep t' ct ts (rows.set i (bQ (rows.getD i []) off r.1)) none))::ek r.2):Good P w0 S st o e a w:=by
 obtain⟨ti,F5,bt⟩:=aX dx
 obtain⟨β,φ,hc⟩:=hR.core
 have hx:=hc.ev h1
 simp only[ak] at hx
 obtain⟨g,hg,hx⟩:=hx
 obtain⟨fT,bg⟩:=dM (hc.ev h2) fA
 have j_:=af.length _ _ fT
 have mS:(a.eval y).cells.size=bM.length:=by simpa using j_
 obtain⟨kW,Cj⟩:=c_ hc _ _ _ _ r fT hr
 have IW:=de.cells _ _ _ _ _ kW
 obtain⟨mV,Lc⟩:=cZ Jd
 have Bq:=dS hc Cj Lc
 have JN:∀b∈r.2.flatMap (aB β),∃k∈bn r.2,∃ob,st.obj k=some ob∧b∈al β k ob:=dj Cj
 obtain⟨vals,aT,a7,da,jr,kA⟩:=hc.ay id _ aL
 have kV:g∈al β id (.deep t' ct ts rows hl):=by simp [al,hg]
 rcases a7.2 with ⟨hv,h0,_⟩ | ⟨g',cap,cur,hv,hh,AX,D1,mj,E4⟩
 ·omega
 have Ho:g'=g:=by simpa [hv,Value.ownBlock] using hg
 subst Ho
 simp only[cond_false] at hh
 have Dk:(a.eval y).cells.toList.length=bM.length:=by simpa using mS
 have bp:=Az (P:=P) ho hx F5 (bt.trans mS.symm) bg hh hi AX mj (by rw[Dk];exact dP)
 have H5:=a7.written (off:=off) (nu:=(a.eval y).cells.toList) hg hi (by rw[Dk];exact dP) hh mj AX
 generalize (a.eval y).cells.toList=nu at*
 rw[←Dk] at dP hf IW hr
 have kp:i<aT.length:=by rw[da.1];exact hi
 have eP:=da.2 i (rows.getD i []) aT[i] (cB hi) (by simp)
 have GG:(ct.take off).length=off:=by simp;omega
 have bE:=ab.Gk (pre:=ct.take off) (part:=(ct.drop off).take nu.length) (suf:=ct.drop (off+nu.length)) (by rw[three];exact eP) (by rw[three];exact hf) IW
 rw[three,GG] at bE
 have bz:=hc.fresh id _ aL
 have hnd:=bz.1
 rw[kA] at hnd
 have Cx:g'∈φ id:=ah (hc.ay id _ aL) g' kV
 have JQ:∀b∈aT.flatten,b≠g':=by
  intro b hb e
  subst e
  rw[List.nodup_append] at hnd
  exact hnd.2.2 b (by simp [hg]) b hb rfl
 have F1:∀b∈r.2.flatMap (aB β),b ∉ φ id:=by
  intro b hb iF
  obtain⟨k,hk,ob,II,Ah⟩:=JN b hb
  exact hc.sep k id ob _ (fun e=>mV (e ▸ hk)) II aL b (ah (hc.ay k ob II) b Ah) iF
 have KI:∀b∈r.2.flatMap (aB β),b≠g':=fun b hb e=>F1 b hb (e ▸ Cx)
 have kr:∀j m',aT[j]? =some m'→∀b∈m',b∈aT.flatten:=fun j m' hj b hb=>List.mem_flatten.2 ⟨m',List.mem_of_getElem? hj,hb⟩
 have Kp:∀j,j≠i→(none:Option Value)=hF β hl j:=by
  intro j hj
  cases hl with
  | none=>rfl
  | some q=>
   obtain⟨k,nid⟩:=q
   have:=Nat.eq_of_beq_eq_true IB
   subst this
   simp [hF,hj]
 have mn:=da.set (w':=w.setRow g' (cur.toList.take (i*ct.length+off)++(nu++cur.toList.drop (i*ct.length+off+nu.length))).toArray) (hv':=fun _=>none) (by simp) a7.1 hi dP
  (fun j _ m' hj b hb=>setRow_other w g' b _ (JQ b (kr j m' hj b hb))) Kp
  (ab.mono (by simp) _ _ _ _ _ bE (fun b hb=>setRow_other w g' b _ (KI b hb)))
 have EW:((β.val id).ownBlock.toList++(aT.set i (r.2.flatMap (aB β))).flatten).Nodup:=by
  rw[bT kp]
  have h3:=hnd
  rw[bu kp] at h3
  have h4:=gE (A:=(β.val id).ownBlock.toList++(aT.take i).flatten) (p1:=[]) (p2:=aT[i]) (p3:=[]) (B:=(aT.drop (i+1)).flatten) (n:=r.2.flatMap (aB β)) (by simpa using h3) Bq
   (fun b hb iF=>F1 b hb (by rw[kA,bu kp];simpa using iF))
  simpa using h4
 refine iE hR hd bp (hR.kept.setRow (bz.2 g' Cx).1 _) ⟨β.fv id (aT.set i (r.2.flatMap (aB β))).flatten,aA φ id ((β.val id).ownBlock.toList++(aT.set i (r.2.flatMap (aB β))).flatten), ?_,by rw[BN];simp [ak]⟩
 rw[how,kT]
 refine hc.Dv (t:=t') (ct:=ct) (ts:=ts) (rows:=rows.set i (bQ (rows.getD i []) off r.1)) (hl:=none) (G:=fun k=>k∈bn r.2) aL (fun k hk e=>mV (e ▸ hk)) (by simp [fo,aA,fc]) (fun j hj x hx=> ?_) (by simp) (fun b hb iF=>setRow_other w g' b _ (fun e=>iF (by rw[e,hg];simp))) (fun b hb=>by simp only[al];exact List.mem_append_left _ hb) (fun b hb=> ?_) ?_ EW
 ·simp only[fo,aA,hj,if_false,fc] at hx
  rw[AP] at hx
  split at hx
  ·cases hx
  ·rename_i hk
   exact⟨hx,hk⟩
 ·rw[bT kp] at hb
  simp only[List.mem_append] at hb
  rcases hb with hb | hb | hb
  ·left
   simp only[al,jr]
   rw[bu kp]
   simp [hb]
  ·right
   obtain⟨k,hk,ob,h3,h4⟩:=JN b hb
   exact⟨k,ob,hk,h3,h4⟩
  ·left
   simp only[al,jr]
   rw[bu kp]
   simp [hb]
 ·exact⟨_,_,by simpa [Env.fv] using H5,mn,by simp [Env.fv,aA],by simp [Env.fv]⟩
theorem m6 (hR:Rel w0 S st a w) {d:Nat} (aQ:o.dst=some d) (hd:bd st.n d) (bW:bJ st d) {t:TypeId} {ct:List CT} {ts:List TypeId} {rows:List (List DC)} {w':World} {v:Value}
  (bp:(execOp a.eval o).run P w= .ok (.value v) w') (hk:Kept S w0 w') (hs:w.heap.size≤w'.heap.size) (hw:∀b,b<w.heap.size→w'.heap[b]? =w.heap[b]?)
  (hB:∀b∈v.ownBlock.toList,b=w.heap.size) {vals:List Value} (a7:cl w' t ct.length false v rows.length vals)
  (da:bI w' ct ts rows vals (fun _=>none) (List.replicate rows.length []))
  (fT:e.sv= .own (ag d 0)) (kT:e.cw=none) (how:e.ow=[(ag d 0,some (.deep t ct ts rows none))]):Good P w0 S st o e a w:=by
 obtain⟨β,φ,hc⟩:=hR.core
 have bE:ag d 0 / 64=d:=cM d 0 (by omega)
 have hle:=hR.kept.size
 have BG:(List.replicate rows.length ([]:List Nat)).flatten=[]:=by simp
 have hval:(β.gh (ag d 0) v []).val (ag d 0)=v:=by simp [Env.gh,aA]
 have EV:(β.gh (ag d 0) v []).nb (ag d 0)=[]:=by simp [Env.gh,aA]
 have F7:v.ownBlock.toList.Nodup:=by cases v.ownBlock<;>simp
 refine bY hR (fun d' h'=>by rw[aQ] at h';injection h' with h';exact h' ▸ hd) bp hk
  ⟨β.gh (ag d 0) v [],aA φ (ag d 0) v.ownBlock.toList, ?_, ?_⟩
 ·rw[how,kT]
  refine hc.create hs hw (fun i hi=>bW.slot i _ hi bE) (fun j ob hj hi=>(bW.obj j ob hj).2 _ hi bE) ?_ (fun j hj=>⟨by simp [Env.gh,aA,hj],rfl⟩) ?_ ?_ F7 ?_ rfl (fun j hj=>by simp [Env.gh,aA,hj])
  ·cases hn:st.obj (ag d 0) with
   | none=>rfl
   | some ob=>exact absurd bE (bW.obj _ ob hn).1
  ·intro b hb
   simp only[al,hval,EV,List.append_nil] at hb
   rw[hB b hb]
   exact Nat.le_refl _
  ·exact⟨vals,List.replicate rows.length [],by rw[hval];exact a7,da,by rw[EV,BG],by rw[hval,BG,List.append_nil]⟩
  ·intro b hb
   have h1:=hB b hb
   subst h1
   refine⟨⟨.inl hle,a7.lt _ hb⟩,fun j ob hj bo=> ?_⟩
   have:=((hc.fresh j ob hj).2 _ bo).2
   omega
 ·rw[fT]
  unfold ak
  exact⟨hval.symm,a7.one⟩
theorem iZ {α:Type} (z:List α):∀(n k:Nat),k<n→(((List.replicate n z).flatten).drop (k*z.length)).take z.length=z
 | 0,k,h=>by omega
 | n+1,0,_=>by simp [List.replicate_succ]
 | n+1,k+1,h=>by
  rw[List.replicate_succ,List.flatten_cons,Nat.succ_mul,Nat.add_comm,List.drop_append,List.drop_of_length_le (by omega),List.nil_append]
  rw[show z.length+k*z.length - z.length=k*z.length by omega]
  exact iZ z n k (by omega)
theorem bI.replicate {ct:List CT} {ts:List TypeId} {r:List DC} {z:List Value} (h:ab w none ct ts r z []) (hl:z.length=ct.length) (n:Nat):bI w ct ts (List.replicate n r) (List.replicate n z).flatten (fun _=>none) (List.replicate n []):=by
 refine⟨by simp,fun i r' m hi hm=> ?_⟩
 have da:i<n:=by have:=(List.getElem?_eq_some_iff.1 hi).1;simpa using this
 rw[List.getElem?_replicate_of_lt da,Option.some.injEq] at hi hm
 subst hi hm
 rw[←hl,iZ z n i da]
 exact h
theorem Ds:∀ {U:List MU},bn U=[]→U.flatMap (aB β)=[]
 | [],_=>rfl
 | x::l,h=>by
  cases x<;>simp [bn] at h
  simp [aB,Ds h]
theorem B7 (hR:Rel w0 S st a w) {d:Nat} (aQ:o.dst=some d) (hd:bd st.n d) (bW:bJ st d) {t et:TypeId} {l c:Operand} (ho:o.op= .makeSlice t l c) {n m:Int} {ct:List CT} {ts:List TypeId} {i:TypeInfo} {z:List SV} {r:List DC×List MU}
  (hl:(cb l).val st.get st.obj=some (.int .i64 n)) (hm:(cb c).val st.get st.obj=some (.int .i64 m)) (hu:P.underlying t=some (.slice et)) (hi:P.info? et=some i) (dx:i.size=ct.length)
  (hz:(dJ P et).val st.get st.obj=some z) (hr:(aV ct ts z).val st.get st.obj=some r) (Cj:bn r.2=[])
  (he:e= {sv:= .own (ag d 0),ow:=[(ag d 0,some (.deep et ct ts (List.replicate n.toNat r.1) none))],ok:=decide (0≤n) && decide (n≤m) && decide (m.toNat*i.bytes≤140737488355328) && decide (m≤9223372036854775807)})
  (aJ:e.ok=true):Good P w0 S st o e a w:=by
 subst he
 simp only[Bool.and_eq_true,decide_eq_true_eq] at aJ
 obtain⟨⟨⟨h0,IZ⟩,Bl⟩,JO⟩:=aJ
 obtain⟨i',zv,dQ,mX,rfl,bg⟩:=dw hz
 rw[hi] at dQ
 injection dQ with dQ
 subst dQ
 obtain⟨Jw,Jx,Cg⟩:=hR.core
 obtain⟨kW,_⟩:=c_ Cg ct ts _ _ r (eI zv.cells.toList) hr
 have Bm:=de.cells _ _ _ _ _ kW
 rw[Ds Cj] at Bm
 have jO:zv.cells.toList.length=ct.length:=(ab.length _ _ _ _ _ Bm).1
 have ES:(madeCells zv.cells (m.toNat*i.size)).toList=(List.replicate m.toNat zv.cells.toList).flatten:=by
  have:=Dr zv.cells m.toNat
  rw[dx,←jO]
  simpa using this
 have hx:=Cg.ev hl
 have hy:=Cg.ev hm
 simp only[ak] at hx hy
 have hb:(i.bytes:Int)*m≤281474976710656:=by
  have h1:((m.toNat*i.bytes:Nat):Int)≤140737488355328:=by omega
  rw[Int.natCast_mul,Int.toNat_of_nonneg (by omega),Int.mul_comm] at h1
  omega
 have bp:=run_make (P:=P) w t et i zv hu hi mX .i64 .i64 n m h0 IZ hb JO
 refine m6 hR aQ hd bW (vals:=(List.replicate n.toNat zv.cells.toList).flatten) (v:= .slice (some ⟨w.heap.size,0,none⟩) n.toNat m.toNat)
  (w':=w.alloc (.cells (madeCells zv.cells (m.toNat*i.size)) et)) ?_ (hR.kept.alloc _) (by rw[cm];omega) (fun b hb=>alloc_old _ b hb) (by simp [Value.ownBlock]) ?_ ?_ rfl rfl rfl
 ·simp [execOp,ho,hx.1,hy.1,bp]
 ·refine⟨by simp [jO],.inr ⟨w.heap.size,m.toNat,_,by simp,by simpa using d9 _,by simp;omega,by simp only[maxLen];omega,by rw[size_madeCells,dx], ?_⟩⟩
  rw[ES]
  have:List.replicate m.toNat zv.cells.toList=List.replicate n.toNat zv.cells.toList++List.replicate (m.toNat - n.toNat) zv.cells.toList:=by
   rw[List.replicate_append_replicate]
   congr 1
   omega
  rw[this,List.flatten_append,List.take_append_of_le_length (by simp [jO]),List.take_of_length_le (by simp [jO])]
 ·rw[List.length_replicate]
  exact bI.replicate (ab.mono (by rw[cm];omega) _ _ _ _ _ Bm (by simp)) jO _
theorem DR (hc:Core w0 S f h β φ tm w) {id nid i:Nat} {t t1:TypeId} {ct e2:List CT} {rows r:List (List DC)} {u:Bool} {h':Nat→Option aj} (aL:h id=some (.deep t ct [t1] rows (some (i,nid)))) (hn:h nid=some (.row t1 e2 r false u)) (ku:∃e',ct[d8 ct]? =some (.sl e')∧e'=e2) (Hh:aF ct=1)
  (cJ:nid≠id) (hf:aq e2=true) (hh:h' id=some (.deep t ct [t1] (rows.set i (bQ (rows.getD i []) (d8 ct) [.sl r])) none)) (DJ:∀j,j≠id→h' j=if j=nid then none else h j):
  ∃β' φ',Core w0 S f h' β' φ' tm w:=by
 obtain⟨e',ku,rfl⟩:=ku
 obtain⟨vals,aT,a7,da,jr,kA⟩:=hc.ay id _ aL
 obtain⟨Ce,mP,I5,jI,_,_⟩:=hc.ay nid _ hn
 have hnd:=(hc.fresh id _ aL).1
 rw[kA] at hnd
 have LG:al β nid (.row t1 e' r false u)=(β.val nid).ownBlock.toList:=rfl
 have F1:∀b∈(β.val nid).ownBlock.toList,b ∉ φ id:=fun b hb=>hc.sep nid id _ _ cJ hn aL b (ah (hc.ay nid _ hn) b (LG ▸ hb))
 have F7:(β.val nid).ownBlock.toList.Nodup:=by cases (β.val nid).ownBlock<;>simp
 have kr:∀b∈(aT.set i (β.val nid).ownBlock.toList).flatten,b∈aT.flatten∨b∈(β.val nid).ownBlock.toList:=by
  intro b hb
  by_cases hi:i<aT.length
  ·rw[bT hi] at hb
   rw[bu hi]
   simp only[List.mem_append] at hb ⊢
   rcases hb with hb | hb | hb<;>simp [hb]
  ·rw[List.set_eq_of_length_le (by omega)] at hb
   exact .inl hb
 have EW:((β.val id).ownBlock.toList++(aT.set i (β.val nid).ownBlock.toList).flatten).Nodup:=by
  by_cases hi:i<aT.length
  ·rw[bT hi]
   have h3:=hnd
   rw[bu hi] at h3
   have h4:=gE (A:=(β.val id).ownBlock.toList++(aT.take i).flatten) (p1:=[]) (p2:=aT[i]) (p3:=[]) (B:=(aT.drop (i+1)).flatten) (n:=(β.val nid).ownBlock.toList) (by simpa using h3) F7
    (fun b hb iF=>F1 b hb (by rw[kA,bu hi];simpa using iF))
   simpa using h4
  ·rw[List.set_eq_of_length_le (by omega)]
   exact hnd
 refine⟨β.fv id (aT.set i (β.val nid).ownBlock.toList).flatten,aA φ id ((β.val id).ownBlock.toList++(aT.set i (β.val nid).ownBlock.toList).flatten), ?_⟩
 refine hc.Dv (t:=t) (ct:=ct) (ts:=[t1]) (rows:=rows.set i (bQ (rows.getD i []) (d8 ct) [.sl r])) (hl:=none) (G:=fun k=>k=nid) aL (fun k hk e=>cJ (hk ▸ e)) hh (fun j hj x hx=> ?_) (Nat.le_refl _) (fun _ _ _=>rfl) (fun b hb=>by simp only[al];exact List.mem_append_left _ hb) (fun b hb=> ?_) ?_ EW
 ·rw[DJ j hj] at hx
  split at hx
  ·cases hx
  ·rename_i hk
   exact⟨hx,hk⟩
 ·rcases kr b hb with hb | hb
  ·left
   simp only[al,jr]
   exact List.mem_append_right _ hb
  ·exact .inr ⟨nid,_,rfl,hn,LG ▸ hb⟩
 ·refine⟨vals,aT.set i (β.val nid).ownBlock.toList,by simpa [Env.fv] using a7,⟨by simp [da.1],fun k r' m hk hm=> ?_⟩,by simp [Env.fv,aA],by simp [Env.fv]⟩
  by_cases Aj:k=i
  ·subst Aj
   have FF:k<rows.length:=by have:=(List.getElem?_eq_some_iff.1 hk).1;simpa using this
   have FX:k<aT.length:=by rw[da.1];exact FF
   rw[List.getElem?_set_self FF,Option.some.injEq] at hk
   rw[List.getElem?_set_self FX,Option.some.injEq] at hm
   subst hk hm
   have h3:=da.2 k (rows.getD k []) aT[k] (cB FF) (by simp)
   simp only[hF,if_true] at h3
   exact ab.back _ e' t1 _ _ aT[k] ku Hh h3 ⟨Ce,mP,I5,jI,rfl⟩
  ·rw[List.getElem?_set_ne (Ne.symm Aj)] at hk hm
   have:=da.2 k r' m hk hm
   simp only[hF,Aj,if_false] at this
   exact this
end
end Go.Proofs.YtngbcccnjiaddaaGreat.Vm
set_option linter.unusedVariables false
set_option linter.unusedSimpArgs false
namespace Go.Proofs.YtngbcccnjiaddaaGreat.Vm
section
variable {P:Program} {Γ:Ctx} {w0:World} {S:Own} {st:St} {o:Oper} {e:cL} {a:Act} {w w':World}
variable {f:Nat→SV} {h:Nat→Option aj} {β:Env} {φ:Nat→List Nat} {tm:Array Value}
theorem Core.compose (hc:Core w0 S f h β φ tm w) {id:Nat} {G:Nat→Prop} {h':Nat→Option aj} {v':Value} {t:TypeId} {ct:List CT} {ts:List TypeId} {rows:List (List DC)} {vals:List Value} {aT:List (List Nat)}
  (dr:∀i,id ∉ bU (f i)) (Cy:∀j x,h j=some x→id ∉ cD x) (LD:h id=none)
  (hh:h' id=some (.deep t ct ts rows none)) (DJ:∀j,j≠id→∀x,h' j=some x→h j=some x∧¬G j)
  (hs:w.heap.size≤w'.heap.size) (hk:w0.heap.size≤w.heap.size) (hw:∀b,b<w.heap.size→(∀k x,G k→h k=some x→b ∉ al β k x)→w'.heap[b]? =w.heap[b]?)
  (Mc:∀b∈v'.ownBlock.toList++aT.flatten,(∃k x,G k∧h k=some x∧b∈al β k x)∨(b=w.heap.size∧b<w'.heap.size))
  (a7:cl w' t ct.length false v' rows.length vals) (da:bI w' ct ts rows vals (fun _=>none) aT) (hnd:(v'.ownBlock.toList++aT.flatten).Nodup):
  Core w0 S f h' (β.gh id v' aT.flatten) (aA φ id (v'.ownBlock.toList++aT.flatten)) tm w':=by
 have hval:(β.gh id v' aT.flatten).val id=v':=by simp [Env.gh,aA]
 have EV:(β.gh id v' aT.flatten).nb id=aT.flatten:=by simp [Env.gh,aA]
 have je:∀j oj,j≠id→al (β.gh id v' aT.flatten) j oj=al β j oj:=by
  intro j oj hj
  cases oj<;>simp [al,Env.gh,aA,hj]
 have Dh:∀b∈v'.ownBlock.toList++aT.flatten,((w0.heap.size≤b∨S b)∧b<w'.heap.size)∧(Av h β b∨w.heap.size≤b)∧∀j oj,h j=some oj→¬G j→b ∉ φ j:=by
  intro b hb
  rcases Mc b hb with ⟨k,x,Ku,hx,h1⟩ | ⟨h1,h2⟩
  ·have h2:=ah (hc.ay k x hx) b h1
   have h3:=(hc.fresh k x hx).2 b h2
   exact⟨⟨h3.1,by omega⟩,.inl (.inl ⟨k,x,hx,h1⟩),fun j oj jd hg=>hc.sep k j x oj (fun e=>hg (e ▸ Ku)) hx jd b h2⟩
  ·exact⟨⟨.inl (by omega),h2⟩,.inr (by omega),fun j oj jd _ bo=>by have:=((hc.fresh j oj jd).2 b bo).2;omega⟩
 refine hc.mH (fun j=>j=id) hs (fun b hb hn=>hw b hb (fun k x _ hx Ah=>hn (.inl ⟨k,x,hx,Ah⟩))) ?_ (fun i j hj e=>dr i (e ▸ hj)) (fun j hj=>⟨by simp [Env.gh,aA,hj],rfl⟩) ?_ ?_
 ·rintro b (⟨j,oj,hj,bo⟩ | hb)
  case inr=>exact .inl (.inr hb)
  by_cases cd:j=id
  ·subst cd
   rw[hh,Option.some.injEq] at hj
   subst hj
   simp only[al,hval,EV] at bo
   exact (Dh b bo).2.1
  ·rw[je j oj cd] at bo
   exact .inl (.inl ⟨j,oj,(DJ j cd oj hj).1,bo⟩)
 ·intro j oj hj
  by_cases cd:j=id
  ·subst cd
   rw[hh,Option.some.injEq] at hj
   subst hj
   refine .inr ⟨?_,by simpa [aA] using hnd,fun b hb=>(Dh b (by simpa [aA] using hb)).1⟩
   exact⟨vals,aT,by rw[hval];exact a7,da,EV,by rw[hval];simp [aA]⟩
  ·obtain⟨h1,hg⟩:=DJ j cd oj hj
   refine .inl ⟨cd,h1,by simp [Env.gh,aA,cd],by simp [aA,cd],fun k Mr e=>Cy j oj h1 (e ▸ Mr),fun b hb=> ?_⟩
   have fC:=ah (hc.ay j oj h1) b hb
   exact hw b ((hc.fresh j oj h1).2 b fC).2 (fun k x Ku hx Ah=>hc.sep k j x oj (fun e=>hg (e ▸ Ku)) hx h1 b (ah (hc.ay k x hx) b Ah) fC)
 ·intro i j oi oj cJ hi hj b hb
  by_cases ly:i=id
  ·subst ly
   have gx:j≠i:=Ne.symm cJ
   simp only[aA,if_true] at hb
   simp only[aA,gx,if_false]
   obtain⟨h1,h2⟩:=DJ j gx oj hj
   exact (Dh b hb).2.2 j oj h1 h2
  ·simp only[aA,ly,if_false] at hb
   obtain⟨h1,h2⟩:=DJ i ly oi hi
   by_cases cd:j=id
   ·subst cd
    simp only[aA,if_true]
    exact fun ax=>(Dh b ax).2.2 i oi h1 h2 hb
   ·simp only[aA,cd,if_false]
    exact hc.sep i j oi oj cJ h1 (DJ j cd oj hj).1 b hb
theorem bI.append {ct:List CT} {ts:List TypeId} {r1 r2:List (List DC)} {v1 v2:List Value} {m1 m2:List (List Nat)} (h1:bI w ct ts r1 v1 (fun _=>none) m1) (hl:v1.length=r1.length*ct.length) (h2:bI w ct ts r2 v2 (fun _=>none) m2):
  bI w ct ts (r1++r2) (v1++v2) (fun _=>none) (m1++m2):=by
 refine⟨by simp [h1.1,h2.1],fun i r m hi hm=> ?_⟩
 rw[List.getElem?_append] at hi hm
 rw[h1.1] at hm
 by_cases cn:i<r1.length
 ·rw[if_pos cn] at hi hm
  have hle:i*ct.length+ct.length≤v1.length:=by rw[hl,←Nat.succ_mul];exact Nat.mul_le_mul_right _ cn
  have:=h1.2 i r m hi hm
  rw[List.drop_append_of_le_length (by omega),List.take_append_of_le_length (by simp;omega)]
  exact this
 ·rw[if_neg cn] at hi hm
  have:=h2.2 (i - r1.length) r m hi hm
  have e1:(v1++v2).drop (i*ct.length)=v2.drop ((i - r1.length)*ct.length):=by
   have EI:v1.length≤i*ct.length:=by rw[hl];exact Nat.mul_le_mul_right _ (by omega)
   rw[List.drop_append,List.drop_of_length_le EI,List.nil_append,hl,Nat.sub_mul]
  rw[e1]
  exact this
theorem ab.one:∀(cs:List CT) (ts:List TypeId) (ds:List DC) (us:List Value) (mb:List Nat),ab w none cs ts ds us mb→∀u∈us,u.oneCell'=true
 | [],_,_,_,_,h=>by
  simp only[ab] at h
  simp [h.2.2.1]
 | c::cs,_,_,_,_,h=>by
  rcases dn c with ⟨e,rfl⟩ | hc
  ·simp only[ab] at h
   obtain⟨t,d5,rows,aZ,v,aO,m1,gl,rfl,rfl,rfl,_,⟨vals,az,g1,_⟩,h6,rfl⟩:=h
   intro u hu
   rcases List.mem_cons.1 hu with rfl | hu
   ·exact g1.one
   ·exact ab.one cs _ _ _ _ h6 u hu
  ·rw[ab.flat hc] at h
   obtain⟨d,aZ,v,aO,rfl,rfl,h3,h4⟩:=h
   intro u hu
   rcases List.mem_cons.1 hu with rfl | hu
   ·exact h3.one
   ·exact ab.one cs _ _ _ _ h4 u hu
theorem bI.one {ct:List CT} {ts:List TypeId} {rows:List (List DC)} {vals:List Value} {aT:List (List Nat)} (h:bI w ct ts rows vals (fun _=>none) aT) (hl:vals.length=rows.length*ct.length) (hp:0<ct.length):∀u∈vals,u.oneCell'=true:=by
 intro u hu
 obtain⟨p,KV,rfl⟩:=List.getElem_of_mem hu
 have hi:p / ct.length<rows.length:=by rw[Nat.div_lt_iff_lt_mul hp];omega
 have hj:=Nat.mod_lt p hp
 have hm:p / ct.length<aT.length:=by rw[h.1];exact hi
 have hc:=h.2 (p / ct.length) rows[p / ct.length] aT[p / ct.length] (by simp) (by simp)
 refine ab.one _ _ _ _ _ hc _ (List.mem_of_getElem? (i:=p % ct.length) ?_)
 rw[List.getElem?_take,if_pos hj,List.getElem?_drop]
 have:p / ct.length*ct.length+p % ct.length=p:=by rw[Nat.mul_comm];exact Nat.div_add_mod p ct.length
 rw[this]
 simp [KV]
theorem Bx (hc:Core w0 S f h β φ tm w) {et:TypeId} {ct:List CT} {ts:List TypeId} {s:SV} {v:Value} {q:List (List DC)×List Nat} (hs:ak w (Av h β) β s v) (hq:(Ac et ct ts s).val f h=some q):
  ∃vals aT,cl w et ct.length false v q.1.length vals∧bI w ct ts q.1 vals (fun _=>none) aT∧(v.ownBlock.toList++aT.flatten).Nodup∧
   ((q.2=[]∧v= .slice none 0 0∧aT=[])∨∃id,q.2=[id]∧∃x,h id=some x∧al β id x=v.ownBlock.toList++aT.flatten):=by
 unfold Ac at hq
 split at hq
 ·simp only[M.aa,Option.some.injEq] at hq
  subst hq
  simp only[ak] at hs
  subst hs
  exact⟨[],[],⟨by simp,.inl ⟨rfl,rfl,rfl⟩⟩,⟨rfl,by simp⟩,by simp [Value.ownBlock],.inl ⟨rfl,rfl,rfl⟩⟩
 ·rename_i id
  simp only[M.aU,Option.bind_eq_some_iff] at hq
  obtain⟨ob,aL,hq⟩:=hq
  simp only[ak] at hs
  split at hq
  ·rename_i t' e' d5 r
   cases hb:Nat.beq t' et && aE e' ct && fJ d5 ts
   ·simp [hb] at hq
   simp only[hb,cond_true,M.aa,Option.some.injEq] at hq
   subst hq
   simp only[Bool.and_eq_true] at hb
   have b1:=Nat.eq_of_beq_eq_true hb.1.1
   have b2:=aK _ _ hb.1.2
   have b3:=gi _ _ hb.2
   subst b1 b2 b3
   have bW:=(hc.fresh id _ aL).1
   obtain⟨vals,aT,g1,g2,g3,g4⟩:=hc.ay id _ aL
   rw[g4] at bW
   rw[←hs.1] at g1 bW
   exact⟨vals,aT,g1,g2,bW,.inr ⟨id,rfl,_,aL,by simp only[al,g3,hs.1]⟩⟩
  ·simp at hq
 ·simp at hq
theorem Ey:∀(ids:List Nat) (h:Nat→Option aj) (j:Nat),fo (gone ids) h j=if j∈ids then none else h j
 | [],h,j=>by simp [gone,fo]
 | i::l,h,j=>by
  have ih:=Ey l h j
  show aA (fo (gone l) h) i none j=_
  simp only[aA,List.mem_cons]
  by_cases hj:j=i
  ·simp [hj]
  ·simp only[hj,if_false,false_or]
   exact ih
theorem CL {l m:List Nat} (hn:cY (l++m)=true):∀i∈l,i ∉ m:=by
 induction l with
 | nil=>simp
 | cons x l ih=>
  obtain⟨h1,h2⟩:=cZ (i:=x) (l:=l++m) hn
  intro i hi
  rcases List.mem_cons.1 hi with rfl | hi
  ·exact fun hm=>h1 (List.mem_append_right _ hm)
  ·exact ih h2 i hi
theorem mZ (hR:Rel w0 S st a w) {d:Nat} (aQ:o.dst=some d) (hd:bd st.n d) (bW:bJ st d) {t et:TypeId} {s x:Operand} {c:Call} (ho:o.op= .call c) (hb:c.callee= .builtin .append) (cv:c.args= #[s,x])
  (FU:c.argTypes= #[t,t]) {ss sx:SV} {ct:List CT} {ts:List TypeId} {p q:List (List DC)×List Nat} {z:List SV} (h1:(cb s).val st.get st.obj=some ss) (h2:(cb x).val st.get st.obj=some sx) (hu:P.underlying t=some (.slice et))
  (dx:aY P et ct.length=true) (hp:0<ct.length) (hz:(dJ P et).val st.get st.obj=some z) (jO:z.length=ct.length) (KW:(Ac et ct ts ss).val st.get st.obj=some p) (KX:(Ac et ct ts sx).val st.get st.obj=some q) (hnd:cY (p.2++q.2)=true)
  (eF:ft P et (p.1.length+q.1.length)=true) (fT:e.sv= .own (ag d 0)) (kT:e.cw=none)
  (how:e.ow=(ag d 0,some (.deep et ct ts (p.1++q.1) none))::gone (p.2++q.2)):Good P w0 S st o e a w:=by
 obtain⟨i,hi,bt⟩:=aX dx
 obtain⟨i',zv,dQ,mX,rfl,_⟩:=dw hz
 rw[hi] at dQ
 injection dQ with dQ
 subst dQ
 obtain⟨β,φ,hc⟩:=hR.core
 obtain⟨GZ,CI,o1,d1,n1,k1⟩:=Bx hc (hc.ev h1) KW
 obtain⟨Ce,CJ,o2,d2,n2,k2⟩:=Bx hc (hc.ev h2) KX
 have bg:=d2.one o2.1 hp
 obtain⟨Q,cc,GQ,H4,hcell⟩:∃Q cc,a.eval x= .slice Q q.1.length cc∧(Q=none→q.1.length=0)∧∀ad,Q=some ad→∀j u,Ce[j]? =some u→w.cell? (ad.add j)=some u:=by
  rcases o2.2 with ⟨hv,h0,_⟩ | ⟨g,cap,cur,hv,_⟩
  ·exact⟨none,0,by rw[hv,h0],fun _=>h0,by simp⟩
  ·refine⟨some ⟨g,0,none⟩,cap,hv,by simp,fun ad HZ j u hj=> ?_⟩
   simp only[Option.some.injEq] at HZ
   subst HZ
   rw[dm]
   have:=o2.cell (g:=g) (by rw[hv];rfl) hj
   simpa using this
 obtain⟨v',w',bp,ga,df,jF⟩:=i_ (P:=P) (ty:=o.type) (c:=cc) hu hi mX bt (by simpa using jO) hp o1 o2.1 H4 hcell bg eF
 have bE:ag d 0 / 64=d:=cM d 0 (by omega)
 have EO:∀b∈(a.eval s).ownBlock.toList++CI.flatten,∃k y,k∈p.2∧st.obj k=some y∧b∈al β k y:=by
  intro b ax
  rcases k1 with ⟨_,hv,hm⟩ | ⟨id,dR,y,hy,ht⟩
  ·rw[hv,hm] at ax;simp [Value.ownBlock] at ax
  ·exact⟨id,y,by rw[dR];simp,hy,by rw[ht];exact ax⟩
 have jI:∀b∈(a.eval x).ownBlock.toList++CJ.flatten,∃k y,k∈q.2∧st.obj k=some y∧b∈al β k y:=by
  intro b ax
  rcases k2 with ⟨_,hv,hm⟩ | ⟨id,dR,y,hy,ht⟩
  ·rw[hv,hm] at ax;simp [Value.ownBlock] at ax
  ·exact⟨id,y,by rw[dR];simp,hy,by rw[ht];exact ax⟩
 have Hi:=CL hnd
 have Ct:∀b∈(a.eval s).ownBlock.toList++CI.flatten,b ∉ (a.eval x).ownBlock.toList++CJ.flatten:=by
  intro b h3 h4
  obtain⟨k,y,hk,hy,Gy⟩:=EO b h3
  obtain⟨k',y',Cz,Jh,iF⟩:=jI b h4
  exact hc.sep k k' y y' (fun e=>Hi k hk (e ▸ Cz)) hy Jh b (ah (hc.ay k y hy) b Gy) (ah (hc.ay k' y' Jh) b iF)
 have fM:∀b,b<w.heap.size→(a.eval s).ownBlock≠some b→w'.heap[b]? =w.heap[b]? :=fun b ax cJ=>df.block b ax (fun e=>cJ e.symm)
 have FY:=d1.lt
 have FZ:=d2.lt
 have KK:∀b∈CI.flatten,(a.eval s).ownBlock≠some b:=by
  intro b ax e
  rw[List.nodup_append] at n1
  exact n1.2.2 b (by rw[e];simp) b ax rfl
 have KL:∀b∈CJ.flatten,(a.eval s).ownBlock≠some b:=by
  intro b ax e
  exact Ct b (List.mem_append_left _ (by rw[e];simp)) (List.mem_append_right _ ax)
 have LI:∀b∈v'.ownBlock.toList,b∈(a.eval s).ownBlock.toList∨b=w.heap.size:=by
  intro b ax
  rcases jF with h3 | h3
  ·rw[h3] at ax;exact .inl ax
  ·rw[h3] at ax;exact .inr (by simpa using ax)
 have F7:v'.ownBlock.toList.Nodup:=by cases v'.ownBlock<;>simp
 have Hx:(v'.ownBlock.toList++(CI++CJ).flatten).Nodup:=by
  rw[List.flatten_append,List.nodup_append]
  rw[List.nodup_append] at n1 n2
  refine⟨F7, ?_,fun b h3 b' h4 e=> ?_⟩
  ·rw[List.nodup_append]
   refine⟨n1.2.1,n2.2.1,fun b h3 b' h4 e=> ?_⟩
   subst e
   exact Ct b (List.mem_append_right _ h3) (List.mem_append_right _ h4)
  ·subst e
   rcases LI b h3 with h5 | h5
   ·rcases List.mem_append.1 h4 with h4 | h4
    ·exact n1.2.2 b h5 b h4 rfl
    ·exact Ct b (List.mem_append_left _ h5) (List.mem_append_right _ h4)
   ·rcases List.mem_append.1 h4 with h4 | h4
    ·have:=FY b h4;omega
    ·have:=FZ b h4;omega
 have Iy:bI w' ct ts (p.1++q.1) (GZ++Ce) (fun _=>none) (CI++CJ):=by
  refine bI.append ?_ o1.1 ?_
  ·exact d1.mono df.size (fun b ax=>fM b (FY b ax) (KK b ax)) (fun _=>rfl)
  ·exact d2.mono df.size (fun b ax=>fM b (FZ b ax) (KL b ax)) (fun _=>rfl)
 have I6:cl w' et ct.length false v' (p.1++q.1).length (GZ++Ce):=by rw[List.length_append];exact ga
 have IH:∀b,(a.eval s).ownBlock=some b→w0.heap.size≤b∨S b:=by
  intro b ax
  obtain⟨k,y,_,hy,jG⟩:=EO b (List.mem_append_left _ (by rw[ax];simp))
  exact ((hc.fresh k y hy).2 b (ah (hc.ay k y hy) b jG)).1
 refine bY hR (fun d' h'=>by rw[aQ] at h';injection h' with h';exact h' ▸ hd) (v:=v') (w':=w') ?_ (hR.kept.grown df IH)
  ⟨β.gh (ag d 0) v' (CI++CJ).flatten,aA φ (ag d 0) (v'.ownBlock.toList++(CI++CJ).flatten), ?_, ?_⟩
 ·simp [execOp,ho,resolve,hb,cv,FU,invoke,builtin,GQ,bp]
 ·rw[how,kT]
  refine hc.compose (G:=fun k=>k∈p.2++q.2) (fun i hi=>bW.slot i _ hi bE) (fun j ob hj hi=>(bW.obj j ob hj).2 _ hi bE) ?_ (by simp [fo,aA,fc]) (fun j hj y hy=> ?_) df.size hR.kept.size (fun b ax hn=> ?_) (fun b ax=> ?_) I6 Iy Hx
  ·cases hn:st.obj (ag d 0) with
   | none=>rfl
   | some ob=>exact absurd bE (bW.obj _ ob hn).1
  ·simp only[fo,aA,hj,if_false,fc] at hy
   rw[Ey] at hy
   split at hy
   ·cases hy
   ·rename_i hk
    exact⟨hy,hk⟩
  ·refine fM b ax (fun e=> ?_)
   obtain⟨k,y,hk,hy,jG⟩:=EO b (List.mem_append_left _ (by rw[e];simp))
   exact hn k y (List.mem_append_left _ hk) hy jG
  ·rcases List.mem_append.1 ax with ax | ax
   ·rcases LI b ax with h3 | h3
    ·obtain⟨k,y,hk,hy,jG⟩:=EO b (List.mem_append_left _ h3)
     exact .inl ⟨k,y,List.mem_append_left _ hk,hy,jG⟩
    ·exact .inr ⟨h3,ga.lt b ax⟩
   ·rw[List.flatten_append] at ax
    rcases List.mem_append.1 ax with ax | ax
    ·obtain⟨k,y,hk,hy,jG⟩:=EO b (List.mem_append_right _ ax)
     exact .inl ⟨k,y,List.mem_append_left _ hk,hy,jG⟩
    ·obtain⟨k,y,hk,hy,jG⟩:=jI b (List.mem_append_right _ ax)
     exact .inl ⟨k,y,List.mem_append_right _ hk,hy,jG⟩
 ·rw[fT]
  unfold ak
  exact⟨by simp [Env.gh,aA],ga.one⟩
theorem bI.cons {ct:List CT} {ts:List TypeId} {r:List DC} {l:List Value} {m:List Nat} {rows:List (List DC)} {vals:List Value} {aT:List (List Nat)} (h1:ab w none ct ts r l m) (hl:l.length=ct.length) (h2:bI w ct ts rows vals (fun _=>none) aT):
  bI w ct ts (r::rows) (l++vals) (fun _=>none) (m::aT):=by
 have:=bI.append (r1:=[r]) (v1:=l) (m1:=[m]) ⟨rfl,fun i r' m' hi hm=>by
  have Mp:i=0:=by
   have:=(List.getElem?_eq_some_iff.1 hi).1
   simpa using this
  subst Mp
  simp only[List.getElem?_cons_zero,Option.some.injEq] at hi hm
  subst hi hm
  rw[Nat.zero_mul,List.drop_zero,List.take_of_length_le (by omega)]
  exact h1⟩ (by simp [hl]) h2
 simpa using this
theorem iU (hc:Core w0 S st.get st.obj β φ a.tmps w) {ct:List CT} {ts:List TypeId} :∀(parts:List (Nat×Operand)) (k:Nat) (q:List (List DC)×List MU),(d_ ct ts k parts).val st.get st.obj=some q→
  ∃(vals:List Value) (aT:List (List Nat)),vals.length=parts.length*ct.length∧q.1.length=parts.length∧bI w ct ts q.1 vals (fun _=>none) aT∧aT.flatten=q.2.flatMap (aB β)∧cS st.obj q.2∧
   ∀(pre suf:List Value),pre.length=k*ct.length→suf.length=parts.length*ct.length→
    Instr.fill (fun i=>some (i*ct.length,ct.length)) (pre++suf).toArray (parts.map fun x=>(x.1,a.eval x.2))=some (pre++vals).toArray
 | [],k,q,hq=>by
  simp only[d_,M.aa,Option.some.injEq] at hq
  subst hq
  refine⟨[],[],by simp,rfl,⟨rfl,by simp⟩,rfl,trivial,fun pre suf h1 h2=> ?_⟩
  have:suf=[]:=by simpa using h2
  subst this
  simp [Instr.fill]
 | (i,x)::rest,k,q,hq=>by
  simp only[d_] at hq
  cases D2:Nat.beq i k
  ·simp [D2] at hq
  have D2:=Nat.eq_of_beq_eq_true D2
  subst D2
  simp only[Nat.beq_refl,cond_true,M.ae,Option.bind_eq_some_iff,M.aa,Option.some.injEq] at hq
  obtain⟨s,hs,cs,fA,r,hr,q2,cx,rfl⟩:=hq
  obtain⟨fT,bg⟩:=dM (hc.ev hs) fA
  obtain⟨kW,KF⟩:=c_ hc ct ts _ _ r fT hr
  have Bm:=de.cells _ _ _ _ _ kW
  have LB:=(ab.length _ _ _ _ _ Bm).1
  have bt:(a.eval x).cells.size=ct.length:=by simpa using LB
  obtain⟨vals,aT,j_,IJ,jI,Kj,KG,Cv⟩:=iU hc rest (i+1) q2 cx
  refine⟨(a.eval x).cells.toList++vals,(r.2.flatMap (aB β))::aT, ?_,by simp [IJ],bI.cons Bm LB jI,by simp [Kj],KF.append KG, ?_⟩
  ·simp only[List.length_append,j_,List.length_cons,Array.length_toList,bt,Nat.succ_mul]
   omega
  ·intro pre suf h1 h2
   simp only[List.length_cons,Nat.succ_mul] at h2
   simp only[List.map_cons]
   rw[kl (off:=i*ct.length) (by rw[bt]) (by simp [h1,bt];omega)]
   have e1:((pre++suf).toArray.toList.take (i*ct.length)++((a.eval x).cells.toList++(pre++suf).toArray.toList.drop (i*ct.length+(a.eval x).cells.size)))=(pre++(a.eval x).cells.toList)++suf.drop ct.length:=by
    simp only[bt,←h1]
    simp [List.drop_append]
   rw[e1,Cv (pre++(a.eval x).cells.toList) (suf.drop ct.length) (by simp [h1,bt,Nat.succ_mul]) (by simp [h2])]
   simp
theorem Bd (hR:Rel w0 S st a w) {d:Nat} (aQ:o.dst=some d) (hd:bd st.n d) (bW:bJ st d) {t et:TypeId} {len:Nat} {parts:Array (Nat×Operand)} (ho:o.op= .buildSlice t len parts) {ct:List CT} {ts:List TypeId} {q:List (List DC)×List MU}
  (hu:P.underlying t=some (.slice et)) (dx:aY P et ct.length=true) (jL:0<ct.length) (hlen:len=parts.toList.length) (Jb:len*ct.length≤16777216) (hz:∃z,(dJ P et).val st.get st.obj=some z)
  (hq:(d_ ct ts 0 parts.toList).val st.get st.obj=some q) (hn:cY (bn q.2)=true)
  (he:e= {sv:= .own (ag d 0),ow:=(ag d 0,some (.deep et ct ts q.1 none))::ek q.2}):Good P w0 S st o e a w:=by
 subst he
 obtain⟨i,hi,bt⟩:=aX dx
 obtain⟨β,φ,hc⟩:=hR.core
 obtain⟨vals,aT,A3,F4,da,ew,Cj,kU⟩:=iU hc parts.toList 0 q hq
 obtain⟨z,hz⟩:=hz
 obtain⟨i',zv,dQ,mX,_,_⟩:=dw hz
 rw[hi] at dQ
 injection dQ with dQ
 subst dQ
 have hle:len≤maxLen:=by
  have:len≤len*ct.length:=Nat.le_mul_of_pos_right _ jL
  simp only[maxLen]
  omega
 have bp:(Instr.buildSlice t len (parts.map fun x=>(x.1,a.eval x.2))).run P w= .ok (.slice (some ⟨w.heap.size,0,none⟩) len len) (w.alloc (.cells vals.toArray et)):=by
  rcases Nat.eq_zero_or_pos len with h0 | h0
  ·have hp:parts= #[]:=by
    have:parts.toList.length=0:=by omega
    simpa using this
   have hv:vals=[]:=by
    have:vals.length=0:=by rw[A3,←hlen,h0,Nat.zero_mul]
    simpa using this
   subst hp hv h0
   simp [Instr.buildSlice,run_underlying hu,sizeOf,typeInfo,hi,Instr.fill,newRow,Array.range_zero']
  ·refine run_buildSlice (P:=P) w t et len _ vals.toArray i zv hu hi mX (by rw[bt];omega) (by rw[bt];exact Nat.ne_of_gt (Nat.mul_pos h0 jL)) ?_
   have:=kU [] ((Array.range (len*ct.length)).map (zv.cells[· % zv.cells.size]!)).toList (by simp) (by simp [hlen])
   rw[bt]
   generalize (Array.range (len*ct.length)).map (zv.cells[· % zv.cells.size]!)=A at this ⊢
   simpa using this
 have bE:ag d 0 / 64=d:=cM d 0 (by omega)
 have Bq:=dS hc Cj hn
 have JN:∀b∈q.2.flatMap (aB β),∃k∈bn q.2,∃ob,st.obj k=some ob∧b∈al β k ob:=dj Cj
 have cn:=da.lt
 have a7:cl (w.alloc (.cells vals.toArray et)) et ct.length false (.slice (some ⟨w.heap.size,0,none⟩) len len) q.1.length vals:=by
  refine⟨by rw[A3,F4],.inr ⟨w.heap.size,len,vals.toArray,by rw[F4,←hlen],by simpa using d9 _,by rw[F4,←hlen];exact Nat.le_refl _,hle,by simp [A3,hlen], ?_⟩⟩
  rw[F4,←A3]
  simp
 refine bY hR (fun d' h'=>by rw[aQ] at h';injection h' with h';exact h' ▸ hd) (v:= .slice (some ⟨w.heap.size,0,none⟩) len len) (w':=w.alloc (.cells vals.toArray et)) ?_ (hR.kept.alloc _)
  ⟨β.gh (ag d 0) (.slice (some ⟨w.heap.size,0,none⟩) len len) aT.flatten,aA φ (ag d 0) ([w.heap.size]++aT.flatten), ?_, ?_⟩
 ·simp [execOp,ho,bp]
 ·refine hc.compose (v':= .slice (some ⟨w.heap.size,0,none⟩) len len) (G:=fun k=>k∈bn q.2) (fun i hi=>bW.slot i _ hi bE) (fun j ob hj hi=>(bW.obj j ob hj).2 _ hi bE) ?_ (by simp [fo,aA,fc]) (fun j hj y hy=> ?_) (by rw[cm];omega) hR.kept.size (fun b ax _=>alloc_old _ b ax) (fun b ax=> ?_) a7 (da.mono (by rw[cm];omega) (fun b ax=>alloc_old _ b (cn b ax)) (fun _=>rfl)) ?_
  ·cases hn:st.obj (ag d 0) with
   | none=>rfl
   | some ob=>exact absurd bE (bW.obj _ ob hn).1
  ·simp only[fo,aA,hj,if_false,fc] at hy
   rw[AP] at hy
   split at hy
   ·cases hy
   ·rename_i hk
    exact⟨hy,hk⟩
  ·rcases List.mem_append.1 ax with ax | ax
   ·right
    have:b=w.heap.size:=by simpa [Value.ownBlock] using ax
    exact⟨this,by rw[cm];omega⟩
   ·left
    rw[ew] at ax
    obtain⟨k,hk,ob,h3,h4⟩:=JN b ax
    exact⟨k,ob,hk,h3,h4⟩
  ·rw[List.nodup_append]
   refine⟨by simp [Value.ownBlock],by rw[ew];exact Bq,fun b h3 b' h4 e=> ?_⟩
   subst e
   have h5:b=w.heap.size:=by simpa [Value.ownBlock] using h3
   have:=cn b h4
   omega
 ·unfold ak
  exact⟨by simp [Env.gh,aA],rfl⟩
end
end Go.Proofs.YtngbcccnjiaddaaGreat.Vm
set_option linter.unusedVariables false
set_option linter.unusedSimpArgs false
namespace Go.Proofs.YtngbcccnjiaddaaGreat.Vm
section
variable {P:Program} {Γ:Ctx} {w0:World} {S:Own} {st:St} {o:Oper} {e:cL} {a:Act} {w:World}
variable {f:Nat→SV} {h:Nat→Option aj} {β:Env} {φ:Nat→List Nat} {tm:Array Value}
def bA (b:List UInt8):List Value:=b.map fun c=>Value.int .u8 c.toNat
theorem dO (k:Nat) (b:List UInt8) (w:World):(Builtin.firstCells k b.length (.string ⟨b.toArray⟩)).run P w= .ok (bA b).toArray w:=by
 have:((⟨b.toArray⟩:ByteArray).extract 0 b.length).data.map (fun c=>Value.int .u8 c.toNat)=(bA b).toArray:=by
  rw[iy]
  simp [bA]
 simp only[Builtin.firstCells,Sem.run_pure,this]
theorem Bu {t u ty et:TypeId} {i:TypeInfo} {zv:Value} (ht:P.underlying t=some (.slice et)) (hu:P.underlying u=some .string) (hi:P.info? et=some i) (hz:i.zero=some zv) (dx:i.size=1) (Lg:zv.cells.size=1)
  {v:Value} {n:Nat} {vals:List Value} (a7:cl w et 1 false v n vals) (b:List UInt8) (eF:ft P et (n+b.length)=true):
  ∃v' w',(Builtin.append_ #[t,u] ty #[v,.string ⟨b.toArray⟩]).run P w= .ok v' w'∧cl w' et 1 false v' (n+b.length) (vals++bA b)∧w.grownBy w' v.ownBlock∧(v'.ownBlock=v.ownBlock∨v'.ownBlock=some w.heap.size):=by
 obtain⟨EC,IL⟩:=B0 hi eF
 have La:n+b.length≤9223372036854775807:=by simp only[maxLen] at IL;omega
 have Hy:(bA b).length=b.length:=by simp [bA]
 have bg:∀u∈bA b,u.oneCell'=true:=by
  intro u hu
  obtain⟨c,_,rfl⟩:=List.mem_map.1 hu
  rfl
 have hlen:(vals++bA b).length=(n+b.length)*1:=by rw[List.length_append,a7.1,Hy];omega
 have grown:∀(lN:Nat),lN<n+b.length→∀(row:Option Nat),
   cl (w.drew.alloc (.cells (vals.toArray++(bA b).toArray++Builtin.zeroCells zv.cells (grownCap w (n+b.length) lN et - (n+b.length))) et)) et 1 false
    (.slice (some ⟨w.heap.size,0,none⟩) (n+b.length) (grownCap w (n+b.length) lN et)) (n+b.length) (vals++bA b)∧
   w.grownBy (w.drew.alloc (.cells (vals.toArray++(bA b).toArray++Builtin.zeroCells zv.cells (grownCap w (n+b.length) lN et - (n+b.length))) et)) row:=by
  intro lN ho row
  have EI:=grownCap_ge w (n+b.length) lN et
  have D1:grownCap w (n+b.length) lN et≤maxLen:=grownCap_le_maxLen w (n+b.length) lN et IL
  refine⟨⟨hlen,.inr ⟨w.heap.size,_,_,rfl,heap_alloc_new w.drew _,EI,D1, ?_, ?_⟩⟩,⟨rfl,rfl,rfl,by simp,fun k hk _=>heap_alloc_old w.drew _ hk⟩⟩
  ·simp only[Array.size_append,List.size_toArray,size_zeroCells,Lg,a7.1,Hy]
   omega
  ·simp only[Array.toList_append,List.append_assoc]
   rw[←List.append_assoc,←hlen]
   exact List.take_left
 rcases a7.2 with ⟨rfl,rfl,_⟩ | ⟨g,cap,cur,rfl,hg,AX,D1,fA,E3⟩
 ·have hx:vals=[]:=List.eq_nil_of_length_eq_zero (by simpa using a7.1)
  subst hx
  by_cases hm:b.length=0
  ·have L_:b=[]:=List.eq_nil_of_length_eq_zero hm
   subst L_
   refine⟨.slice none 0 0,w, ?_,⟨by simp [bA],.inl ⟨rfl,rfl,rfl⟩⟩,⟨rfl,rfl,rfl,Nat.le_refl _,fun _ _ _=>rfl⟩,.inl rfl⟩
   have hf:=dO (P:=P) i.size [] w
   simp [Builtin.append_,run_underlying ht,run_underlying hu,sizeOf,typeInfo,hi,Builtin.lenOf,dv] at hf ⊢
   simp [hf]
  ·have hn:¬(b.length=0):=hm
   have G_:¬(9223372036854775807<(b.length:Int)):=by omega
   have G9:¬(281474976710656<Builtin.nextslicecap b.length 0*i.bytes):=by
    have hb:=EC
    rw[Nat.zero_add] at hb
    rw[nextslicecap_zero (by omega)]
    omega
   have hf:=dO (P:=P) i.size b w.drew
   have hr:(Builtin.append_ #[t,u] ty #[.slice none 0 0,.string ⟨b.toArray⟩]).run P w=
     .ok (.slice (some ⟨w.heap.size,0,none⟩) b.length (grownCap w b.length 0 et)) (w.drew.alloc (.cells ((bA b).toArray++Builtin.zeroCells zv.cells (grownCap w b.length 0 et - b.length)) et)):=by
    simp [Builtin.append_,run_underlying ht,run_underlying hu,sizeOf,typeInfo,zeroValue,hi,hz,Builtin.lenOf,dv,hn,G_,G9,Question.forced,run_firstCells_none,hf,newRow,grownCap]
   have H3:=grown 0 (by omega) (Value.ownBlock (.slice none 0 0))
   simp only[Nat.zero_add,List.nil_append,Array.empty_append] at H3 ⊢
   exact⟨_,_,hr,H3.1,H3.2,.inr rfl⟩
 ·by_cases EF:n+b.length≤cap
  ·have dP:n*1+(bA b).length≤cur.size:=by rw[Hy,fA];omega
   have hf:=dO (P:=P) 1 b w
   have H2:w.heap[g]? =some (.cells cur et (0,0)):=by simpa using hg
   have ib:=run_storeCells_at P g (n*1) et (bA b) 0 cur w H2 (by simpa using dP) bg
   simp only[Nat.add_zero] at ib
   have hr:(Builtin.append_ #[t,u] ty #[.slice (some ⟨g,0,none⟩) n cap,.string ⟨b.toArray⟩]).run P w=
     .ok (.slice (some ⟨g,0,none⟩) (n+b.length) cap) (w.setRow g (cur.toList.take (n*1)++bA b++cur.toList.drop (n*1+(bA b).length)).toArray):=by
    simp only[Nat.mul_one] at ib
    simp [Builtin.append_,run_underlying ht,run_underlying hu,sizeOf,typeInfo,hi,dx,Builtin.lenOf,dv,EF,hf,Addr.add_lit,ib]
   refine⟨_,_,hr,⟨hlen,.inr ⟨g,cap,_,rfl,setRow_heap w g cur _ et _ H2,EF,D1, ?_, ?_⟩⟩,⟨rfl,rfl,rfl,by simp,fun k _ hk=>setRow_other w g k _ (fun e=>hk (by simp [Value.ownBlock,e]))⟩,.inl rfl⟩
   ·simp only[List.size_toArray,List.length_append,List.length_take,List.length_drop,Array.length_toList]
    omega
   ·simp only[List.append_assoc]
    have E4:cur.toList.take (n*1)=vals:=E3
    rw[E4,←hlen]
    rw[←List.append_assoc]
    exact List.take_left
  ·have holds:∀j u,vals[j]? =some u→w.cell? ((⟨g,0,none⟩:Addr).add j)=some u:=a7.owns.cells (g:=g) rfl
   have hn:¬(n+b.length≤cap):=EF
   have G_:¬(9223372036854775807<((n:Int)+(b.length:Int))):=by omega
   have G9:¬(281474976710656<Builtin.nextslicecap (n+b.length) cap*i.bytes):=by
    have:=growslice_fits (bytes:=i.bytes) (show cap<n+b.length by omega) EC
    omega
   have hf:=dO (P:=P) i.size b w.drew
   have JI:=run_firstCells_some (P:=P) w.drew i.size n ⟨g,0,none⟩ n cap vals (by rw[dx];exact a7.1) (by simpa using holds)
   have hr:(Builtin.append_ #[t,u] ty #[.slice (some ⟨g,0,none⟩) n cap,.string ⟨b.toArray⟩]).run P w=
     .ok (.slice (some ⟨w.heap.size,0,none⟩) (n+b.length) (grownCap w (n+b.length) cap et)) (w.drew.alloc (.cells (vals.toArray++(bA b).toArray++Builtin.zeroCells zv.cells (grownCap w (n+b.length) cap et - (n+b.length))) et)):=by
    simp [Builtin.append_,run_underlying ht,run_underlying hu,sizeOf,typeInfo,zeroValue,hi,hz,Builtin.lenOf,dv,hn,G_,G9,Question.forced,hf,JI,newRow,grownCap]
    congr 2
    apply Array.ext'
    simp [List.append_assoc]
   have H3:=grown cap (by omega) (Value.ownBlock (.slice (some ⟨g,0,none⟩) n cap))
   exact⟨_,_,hr,H3.1,H3.2,.inr rfl⟩
theorem FB (b:List UInt8):dK w [.int .u8] (b.map cQ) (bA b) (List.replicate b.length []):=by
 refine⟨by simp [bA],fun k r' f' hk hf=> ?_⟩
 have FF:k<b.length:=by
  have:=(List.getElem?_eq_some_iff.1 hk).1
  simpa using this
 have EY:r'=cQ b[k]:=by
  rw[List.getElem?_map,List.getElem?_eq_getElem FF] at hk
  simpa using hk.symm
 have Bn:f'=[]:=by
  have:=List.mem_of_getElem? hf
  exact (List.mem_replicate.1 this).2
 subst EY Bn
 unfold cQ
 simp only[a8,bV]
 refine⟨.int b[k].toNat,[],.int .u8 b[k].toNat,[],[],rfl, ?_,⟨_,rfl,rfl, ?_,rfl⟩,⟨rfl,rfl⟩,rfl⟩
 ·simp only[bA,List.length_cons,List.length_nil,Nat.zero_add,Nat.mul_one,Nat.add_zero]
  rw[List.getElem?_map,List.getElem?_eq_getElem FF]
  rfl
 ·rw[ey]
  have h1:IntKind.u8.min=0:=by decide
  have h2:IntKind.u8.max=255:=by decide
  have:=b[k].toNat_lt
  omega
theorem m0 (hR:Rel w0 S st a w) (hd:∀d,o.dst=some d→bd st.n d) (bW:e.ow≠[]→∀d,o.dst=some d→bJ st d) {t t':TypeId} {s x:Operand} {c:Call} (ho:o.op= .call c) (hb:c.callee= .builtin .append) (cv:c.args= #[s,x])
  (FU:c.argTypes= #[t,t']) {sx sy:SV} (h1:(cb s).val st.get st.obj=some sx) (h2:(cb x).val st.get st.obj=some sy) (he:(AF P o.dst t t' sx sy).val st.get st.obj=some e) (aJ:e.ok=true):Good P w0 S st o e a w:=by
 unfold AF at he
 split at he
 case h_2=>simp at he
 rename_i et d id b hu CE aQ
 simp only[M.aU,Option.bind_eq_some_iff] at he
 obtain⟨ob,aL,he⟩:=he
 split at he
 case h_2=>simp at he
 rename_i t1 ct r u
 cases mW:Nat.beq t1 et && aE ct [.int .u8] && aY P et 1
 ·simp [mW] at he
 simp only[mW,cond_true,M.ae,Option.bind_eq_some_iff] at he
 obtain⟨z,hz,he⟩:=he
 cases jO:Nat.beq z.length 1
 ·simp [jO] at he
 simp only[jO,cond_true,M.aa,Option.some.injEq] at he
 simp only[Bool.and_eq_true] at mW
 have JS:=Nat.eq_of_beq_eq_true mW.1.1
 have BF:=aK _ _ mW.1.2
 subst JS BF
 have bW:=bW (by rw[←he];simp) d aQ
 have eF:ft P t1 (r.length+b.length)=true:=by rw[←he] at aJ;exact aJ
 have F8:=Nat.eq_of_beq_eq_true jO
 obtain⟨i,hi,bt⟩:=aX mW.2
 obtain⟨i',zv,dQ,mX,rfl,_⟩:=dw hz
 rw[hi] at dQ
 injection dQ with dQ
 subst dQ
 obtain⟨β,φ,hc⟩:=hR.core
 have EZ:=hc.ev h1
 simp only[ak] at EZ
 have LJ:=hc.ev h2
 simp only[ak] at LJ
 obtain⟨vals,az,a7,da,Hq,kA⟩:=hc.ay id _ aL
 obtain⟨v',w',bp,ga,df,jF⟩:=Bu (P:=P) (ty:=o.type) hu CE hi mX bt (by simpa using F8) a7 b eF
 have ew:az.flatten=[]:=da.flat rfl
 have HK:φ id=(β.val id).ownBlock.toList:=by rw[kA,ew];cases u<;>simp
 have bE:ag d 0 / 64=d:=cM d 0 (by omega)
 have IC:id≠ag d 0:=fun e=>(bW.obj id _ aL).1 (e ▸ bE)
 have gk:∀j,j≠ag d 0→(β.fQ (ag d 0) v').val j=β.val j∧(β.fQ (ag d 0) v').cU j=β.cU j:=by
  intro j hj
  exact⟨by simp [Env.fQ,aA,hj],rfl⟩
 have hval:(β.fQ (ag d 0) v').val (ag d 0)=v':=by simp [Env.fQ,aA]
 have bz:=hc.fresh id _ aL
 have AY:v'.ownBlock.toList.Nodup:=by cases v'.ownBlock<;>simp
 have Am:∀b∈v'.ownBlock.toList,b∈φ id∨b=w.heap.size:=by
  intro b ax
  rcases jF with h3 | h3
  ·rw[h3] at ax
   exact .inl (by rw[HK];exact ax)
  ·rw[h3] at ax
   exact .inr (by simpa using ax)
 have hJ:∀b,(β.val id).ownBlock=some b→b∈φ id:=fun b ax=>by rw[HK,ax];simp
 have jK:∀j oj,aA (aA st.obj id none) (ag d 0) (some (.row t1 [.int .u8] (r++b.map cQ) false u)) j=some oj→j≠ag d 0→j≠id∧st.obj j=some oj:=by
  intro j oj hj mo
  simp only[aA,mo,if_false] at hj
  split at hj
  ·cases hj
  ·exact⟨by assumption,hj⟩
 have fM:∀b,b<w.heap.size→(β.val id).ownBlock≠some b→w'.heap[b]? =w.heap[b]? :=fun b ax cJ=>df.block b ax (fun e=>cJ e.symm)
 have BM:∀b∈v'.ownBlock.toList,∀j oj,j≠id→st.obj j=some oj→b ∉ φ j:=by
  intro b ax j oj hj jd bo
  rcases Am b ax with h3 | h3
  ·exact hc.sep id j _ _ (Ne.symm hj) aL jd b h3 bo
  ·have:=((hc.fresh j oj jd).2 b bo).2
   omega
 have AU:∀b',Av (aA (aA st.obj id none) (ag d 0) (some (.row t1 [.int .u8] (r++b.map cQ) false u))) (β.fQ (ag d 0) v') b'→Av st.obj β b'∨w.heap.size≤b':=by
  rintro b' (⟨j,oj,hj,bo⟩ | hb)
  case inr=>exact .inl (.inr hb)
  by_cases cd:j=ag d 0
  ·subst cd
   simp only[aA,if_true,Option.some.injEq] at hj
   subst hj
   simp only[al,hval] at bo
   rcases Am b' bo with h3 | h3
   ·exact .inl (.inl ⟨id,_,aL,by simp only[al];rw[←HK];exact h3⟩)
   ·exact .inr (by omega)
  ·obtain⟨_,f_⟩:=jK j oj hj cd
   refine .inl (.inl ⟨j,oj,f_, ?_⟩)
   cases oj<;>simp only[al,gk j cd] at bo ⊢ <;>exact bo
 refine bY hR hd (v:=v') (w':=w') ?_ (hR.kept.grown df (fun b ax=>(bz.2 b (hJ b ax)).1))
  ⟨β.fQ (ag d 0) v',aA φ (ag d 0) v'.ownBlock.toList, ?_, ?_⟩
 ·simp [execOp,ho,resolve,hb,cv,FU,invoke,builtin,EZ.1,LJ.1,bp]
 ·rw[←he]
  show Core w0 S st.get (aA (aA st.obj id none) (ag d 0) (some (.row t1 [.int .u8] (r++b.map cQ) false u))) _ _ _ _
  refine hc.step (fun j=>j=ag d 0) df.size (fun b ax hn=>fM b ax (fun e=>hn (.inl ⟨id,_,aL,by simp [al,e]⟩))) AU
   (fun k j hj e=>bW.slot k j hj (by rw[e];exact bE)) gk ?_ ?_
  ·intro j oj hj
   by_cases cd:j=ag d 0
   ·subst cd
    have f_:=hj
    simp only[aA,if_true,Option.some.injEq] at f_
    subst f_
    refine .inr ⟨?_,by simp only[aA,if_true];exact AY, ?_⟩
    ·have mn:=(da.append (by simpa using a7.1) (FB (w:=w) b)).mono (w':=w') df.size (fun b ax=>by
      rw[List.flatten_append,ew] at ax
      simp at ax)
     refine⟨vals++bA b,az++List.replicate b.length [], ?_,mn, ?_, ?_⟩
     ·rw[hval]
      have:(r++b.map cQ).length=r.length+b.length:=by simp
      rw[this]
      exact ga
     ·rw[List.flatten_append,ew]
      simp
     ·rw[hval,List.flatten_append,ew]
      cases u<;>simp [aA]
    ·simp only[aA,if_true]
     intro b ax
     rcases Am b ax with h3 | h3
     ·have:=bz.2 b h3
      exact⟨this.1,by have:=df.size;omega⟩
     ·subst h3
      exact⟨.inl hR.kept.size,ga.lt _ ax⟩
   ·obtain⟨gx,f_⟩:=jK j oj hj cd
    refine .inl ⟨cd,f_,by simp [aA,cd], ?_, ?_⟩
    ·intro k hk e
     exact (bW.obj j oj f_).2 k hk (by rw[e];exact bE)
    ·intro b ax
     have fC:=ah (hc.ay j oj f_) b ax
     refine fM b ((hc.fresh j oj f_).2 b fC).2 (fun e=> ?_)
     exact hc.sep id j _ _ (Ne.symm gx) aL f_ b (hJ b e) fC
  ·intro k j ok oj cJ hk hj b ax
   by_cases Hs:k=ag d 0
   ·subst Hs
    have mo:j≠ag d 0:=Ne.symm cJ
    obtain⟨gx,f_⟩:=jK j oj hj mo
    simp only[aA,if_true] at ax
    simp only[aA,mo,if_false]
    exact BM b ax j oj gx f_
   ·obtain⟨Aj,Cz⟩:=jK k ok hk Hs
    simp only[aA,Hs,if_false] at ax
    by_cases cd:j=ag d 0
    ·subst cd
     simp only[aA,if_true]
     exact fun h3=>BM b h3 k ok Aj Cz ax
    ·obtain⟨gx,f_⟩:=jK j oj hj cd
     simp only[aA,cd,if_false]
     exact hc.sep k j ok oj cJ Cz f_ b ax
 ·rw[←he]
  unfold ak
  exact⟨hval.symm,ga.one⟩
end
end Go.Proofs.YtngbcccnjiaddaaGreat.Vm
namespace Go.Proofs.YtngbcccnjiaddaaGreat.Vm
theorem mI {α:Type} {l:Array α} {x:α} (h:l.toList=[x]):l= #[x]:=by
 cases l;simp at h;subst h;rfl
theorem bL {α:Type} {l:Array α} {x y:α} (h:l.toList=[x,y]):l= #[x,y]:=by
 cases l;simp at h;subst h;rfl
theorem BW {P:Program} {Γ:Ctx} {w0:World} {S:Own} {st:St} {o:Oper} {e:cL} {a:Act} {w:World} (eR:bF P Γ) (hR:Rel w0 S st a w)
  (hv:(evalOp P Γ o).val st.get st.obj=some e) (aJ:e.ok=true) (hd:∀d,o.dst=some d→bd st.n d) (bW:e.ow≠[]→∀d,o.dst=some d→bJ st d):Good P w0 S st o e a w:=by
 unfold evalOp at hv
 split at hv
 ·rename_i x ho
  simp only[M.ae,Option.bind_eq_some_iff,M.aa,Option.some.injEq] at hv
  obtain⟨s,h1,rfl⟩:=hv
  exact mF hR hd (.inl ho) h1 rfl
 ·rename_i x ho
  simp only[M.ae,Option.bind_eq_some_iff,M.aa,Option.some.injEq] at hv
  obtain⟨s,h1,rfl⟩:=hv
  exact mF hR hd (.inr ho) h1 rfl
 ·rename_i c x y ho
  simp only[M.ae,Option.bind_eq_some_iff] at hv
  obtain⟨sc,h0,sx,h1,sy,h2,hv⟩:=hv
  exact C4 hR hd ho h0 h1 h2 hv
 ·rename_i t ho
  split at hv
  ·rename_i d aQ
   simp only[M.ae,Option.bind_eq_some_iff,M.aa,Option.some.injEq] at hv
   obtain⟨z,hz,rfl⟩:=hv
   exact B2 hR aQ (hd d aQ) (bW (by simp) d aQ) ho hz rfl
  ·simp at hv
 ·rename_i t x ho
  split at hv
  ·rename_i d aQ
   simp only[M.ae,Option.bind_eq_some_iff,M.aa,Option.some.injEq] at hv
   obtain⟨s,hs,cs,fA,rfl⟩:=hv
   exact DY hR aQ (hd d aQ) (bW (by simp) d aQ) ho hs fA rfl
  ·simp at hv
 ·rename_i t parts ho
  split at hv
  ·rename_i fs hu
   split at hv
   ·rename_i places hp
    simp only[M.ae,Option.bind_eq_some_iff,M.aa,Option.some.injEq] at hv
    obtain⟨z,hz,cs,fA,rfl⟩:=hv
    exact B3 hR hd ho hu hp hz fA rfl
   ·simp at hv
  ·simp at hv
 ·rename_i t len parts ho
  cases eE:mM Γ o.dst with
  | true=>
   simp only[eE,cond_true] at hv
   unfold Et at hv
   split at hv
   ·rename_i et d hu aQ
    split at hv
    ·rename_i ct ts BF FI
     cases hb:aY P et ct.length && Nat.blt 0 ct.length && Nat.beq len parts.toList.length && Nat.ble (len*ct.length) 16777216
     ·simp only[hb,cond_false,M.mJ,reduceCtorEq] at hv
     simp only[hb,cond_true,M.ae,Option.bind_eq_some_iff] at hv
     obtain⟨z,hz,q,hq,hv⟩:=hv
     cases hn:cY (bn q.2)
     ·simp [hn] at hv
     simp only[hn,cond_true,M.aa,Option.some.injEq] at hv
     simp only[Bool.and_eq_true] at hb
     exact Bd hR aQ (hd d aQ) (bW (by rw[←hv];simp) d aQ) ho hu hb.1.1.1 (Nat.le_of_ble_eq_true hb.1.1.2) (Nat.eq_of_beq_eq_true hb.1.2) (Nat.le_of_ble_eq_true hb.2) ⟨z,hz⟩ hq hn hv.symm
    ·simp at hv
   ·simp at hv
  | false=>
  simp only[eE,cond_false] at hv
  split at hv
  ·rename_i et d hu aQ
   split at hv
   ·rename_i ct BF
    cases hb:aY P et ct.length && Nat.blt 0 ct.length && Nat.beq len parts.toList.length && Nat.ble (len*ct.length) 16777216
    ·simp only[hb,cond_false,M.mJ,reduceCtorEq] at hv
    simp only[hb,cond_true,M.ae,Option.bind_eq_some_iff] at hv
    obtain⟨z,hz,q,hq,hv⟩:=hv
    cases hn:aM q.2.1
    ·simp [hn] at hv
    simp only[hn,cond_true,M.aa,Option.some.injEq] at hv
    simp only[Bool.and_eq_true] at hb
    exact kH hR aQ (hd d aQ) (bW (by rw[←hv];simp) d aQ) ho hu hb.1.1.1 (Nat.le_of_ble_eq_true hb.1.1.2) (Nat.eq_of_beq_eq_true hb.1.2) (Nat.le_of_ble_eq_true hb.2) hq ⟨z,hz⟩ hn hv.symm
   ·simp at hv
  ·simp at hv
 ·rename_i t x ho
  simp only[M.ae,Option.bind_eq_some_iff] at hv
  obtain⟨s,h1,hv⟩:=hv
  unfold GR at hv
  split at hv
  ·rename_i id i z off
   simp only[M.aU,Option.bind_eq_some_iff] at hv
   obtain⟨ob,aL,hv⟩:=hv
   split at hv
   ·rename_i t' ct ts rows hl
    cases eE:mM Γ o.dst with
    | false=>
     simp only[eE,cond_false] at hv
     exact B6 hR hd ho h1 aL hv aJ
    | true=>
     simp only[eE,cond_true] at hv
     unfold GY at hv
     split at hv
     ·rename_i e' t1 d AZ aQ
      cases hb:Nat.beq z ct.length && Nat.beq (aF ct) 1 && !(bq P t) && (P.underlying t).isSome
      ·simp [hb] at hv
      simp only[hb,cond_true,M.aa,Option.some.injEq] at hv
      simp only[Bool.and_eq_true,Bool.not_eq_true'] at hb
      obtain⟨⟨⟨b1,b2⟩,b3⟩,b4⟩:=hb
      have b1:=Nat.eq_of_beq_eq_true b1
      subst b1
      obtain⟨td,hu⟩:=Option.isSome_iff_exists.1 b4
      have hi:i<rows.length:=by rw[←hv] at aJ;simpa using aJ
      exact C5 hR aQ (hd d aQ) (bW (by rw[←hv];simp) d aQ) ho h1 aL AZ (Nat.eq_of_beq_eq_true b2) b3 hu hi (by rw[←hv]) (by rw[←hv]) (by rw[←hv])
     ·simp at hv
   ·exact mE hR hd ho h1 hv aJ
  ·exact mE hR hd ho h1 hv aJ
 ·rename_i t x y ho
  simp only[M.ae,Option.bind_eq_some_iff] at hv
  obtain⟨sx,h1,sy,h2,hv⟩:=hv
  have plain:(Bh P t sx sy).val st.get st.obj=some e→Good P w0 S st o e a w:=by
   clear hv
   intro hv
   unfold Bh at hv
   simp only[M.ae,Option.bind_eq_some_iff] at hv
   obtain⟨bM,fA,hv⟩:=hv
   cases dx:aY P t bM.length
   ·simp [dx] at hv
   simp only[dx,cond_true] at hv
   split at hv
   ·rename_i id off
    simp only[M.aU,Option.bind_eq_some_iff] at hv
    obtain⟨ob,aL,hv⟩:=hv
    split at hv
    ·rename_i t' cells
     cases dP:Nat.ble (off+bM.length) cells.length
     ·simp [dP] at hv
     simp only[dP,cond_true,M.aa,Option.some.injEq] at hv
     exact lC hR hd ho h1 h2 fA dx aL (Nat.le_of_ble_eq_true dP) hv.symm
    ·simp at hv
   ·rename_i id i z off
    simp only[M.aU,Option.bind_eq_some_iff] at hv
    obtain⟨ob,aL,hv⟩:=hv
    split at hv
    ·rename_i t' ct rows fz u
     cases dP:Nat.beq z ct.length && Nat.ble (off+bM.length) ct.length
     ·simp [dP] at hv
     simp only[dP,cond_true,M.ae,Option.bind_eq_some_iff] at hv
     obtain⟨r,hr,hv⟩:=hv
     cases hm:bP id r.2.1 && aM r.2.1
     ·simp [hm] at hv
     simp only[hm,cond_true,M.aa,Option.some.injEq] at hv
     simp only[Bool.and_eq_true] at dP hm
     have hz:=Nat.eq_of_beq_eq_true dP.1
     subst hz
     have hi:i<rows.length:=by rw[←hv] at aJ;simpa using aJ
     exact lD hR hd ho h1 h2 fA dx aL (Nat.le_of_ble_eq_true dP.2) hr hm.1 hm.2 hi (by rw[←hv]) (by rw[←hv]) (by rw[←hv])
    ·simp at hv
   ·simp at hv
  unfold FA at hv
  split at hv
  ·rename_i id i z off
   simp only[M.aU,Option.bind_eq_some_iff] at hv
   obtain⟨ob,aL,hv⟩:=hv
   split at hv
   ·rename_i t' ct ts rows hl
    unfold Fz at hv
    simp only[M.ae,Option.bind_eq_some_iff] at hv
    obtain⟨bM,fA,hv⟩:=hv
    cases dx:aY P t bM.length && Nat.beq z ct.length && Nat.ble (off+bM.length) ct.length
    ·simp [dx] at hv
    simp only[dx,cond_true] at hv
    simp only[Bool.and_eq_true] at dx
    obtain⟨⟨s1,s2⟩,s3⟩:=dx
    have s2:=Nat.eq_of_beq_eq_true s2
    subst s2
    have s3:=Nat.le_of_ble_eq_true s3
    cases hf:aq ((ct.drop off).take bM.length) with
    | true=>
     simp only[hf,cond_true,M.ae,Option.bind_eq_some_iff] at hv
     obtain⟨r,hr,hv⟩:=hv
     cases hm:r.2.1.isEmpty
     ·simp [hm] at hv
     simp only[hm,cond_true,M.aa,Option.some.injEq] at hv
     have hi:i<rows.length:=by rw[←hv] at aJ;simpa using aJ
     exact Bg hR hd ho h1 h2 fA s1 aL s3 hf hr hi (by rw[←hv]) (by rw[←hv]) (by rw[←hv])
    | false=>
     simp only[hf,cond_false] at hv
     cases Ke:Nat.beq (aF ((ct.drop off).take bM.length)) (aF ct)
     ·simp [Ke] at hv
     simp only[Ke,cond_true,M.ae,Option.bind_eq_some_iff] at hv
     obtain⟨r,hr,hv⟩:=hv
     cases hm:cY (id::bn r.2)
     ·simp [hm] at hv
     simp only[hm,cond_true,M.aa,Option.some.injEq] at hv
     have hi:i<rows.length∧CD hl i=true:=by rw[←hv] at aJ;simpa using aJ
     exact Bf hR hd ho h1 h2 fA s1 aL s3 (Nat.eq_of_beq_eq_true Ke) hr hm hi.1 hi.2 (by rw[←hv]) (by rw[←hv]) (by rw[←hv])
   ·exact plain hv
  ·exact plain hv
 ·rename_i x ho
  simp only[M.ae,Option.bind_eq_some_iff] at hv
  obtain⟨s,h1,hv⟩:=hv
  exact mG hR hd ho h1 hv
 ·rename_i op t x y t' ho
  simp only[M.ae,Option.bind_eq_some_iff] at hv
  obtain⟨sx,h1,sy,h2,hv⟩:=hv
  exact DX hR hd ho h1 h2 hv aJ
 ·rename_i op t x ho
  simp only[M.ae,Option.bind_eq_some_iff] at hv
  obtain⟨sx,h1,hv⟩:=hv
  exact Fy hR hd ho h1 hv
 ·rename_i s t x ho
  simp only[M.ae,Option.bind_eq_some_iff] at hv
  obtain⟨sx,h1,hv⟩:=hv
  exact C0 hR hd bW ho h1 hv
 ·rename_i t l c ho
  simp only[M.ae,Option.bind_eq_some_iff] at hv
  obtain⟨sl,h1,sc,h2,hv⟩:=hv
  cases eE:mM Γ o.dst with
  | true=>
   simp only[eE,cond_true] at hv
   unfold GS at hv
   split at hv
   ·rename_i et n m d hu aQ
    split at hv
    ·rename_i ct ts i BF FI hi
     cases hb:Nat.beq i.size ct.length && Nat.blt 0 ct.length
     ·simp [hb] at hv
     simp only[hb,cond_true,M.ae,Option.bind_eq_some_iff] at hv
     obtain⟨z,hz,r,hr,hv⟩:=hv
     cases Cj:(bn r.2).isEmpty
     ·simp [Cj] at hv
     simp only[Cj,cond_true,M.aa,Option.some.injEq] at hv
     simp only[Bool.and_eq_true] at hb
     exact B7 hR aQ (hd d aQ) (bW (by rw[←hv];simp) d aQ) ho h1 h2 hu hi (Nat.eq_of_beq_eq_true hb.1) hz hr (by simpa using Cj) hv.symm aJ
    ·simp at hv
   ·simp at hv
  | false=>
  simp only[eE,cond_false] at hv
  unfold GU at hv
  split at hv
  ·rename_i et n m d hu aQ
   split at hv
   ·rename_i ct i BF hi
    cases hb:Nat.beq i.size ct.length && Nat.blt 0 ct.length
    ·simp [hb] at hv
    simp only[hb,cond_true,M.ae,Option.bind_eq_some_iff,M.aa,Option.some.injEq] at hv
    obtain⟨z,hz,r,hr,hv⟩:=hv
    simp only[Bool.and_eq_true] at hb
    exact C3 hR aQ (hd d aQ) (bW (by rw[←hv];simp) d aQ) ho h1 h2 hu hi (Nat.eq_of_beq_eq_true hb.1) hz hr hv.symm aJ
   ·simp at hv
  ·simp at hv
 ·rename_i t x lo hi mx ho
  split at hv
  ·simp only[M.ae,Option.bind_eq_some_iff] at hv
   obtain⟨sx,h1,sl,h2,sh,h3,hv⟩:=hv
   cases eE:mM Γ o.dst
   ·simp only[eE,cond_false] at hv
    exact B8 hR hd ho h1 h2 h3 hv aJ
   ·simp only[eE,cond_true] at hv
    exact Be hR hd ho h1 h2 h3 hv aJ
  ·simp at hv
 ·rename_i t x f ho
  split at hv
  ·rename_i fs hu
   split at hv
   ·rename_i fd hf
    cases hz:aY P fd.type 0
    ·simp only[hz,cond_false] at hv
     split at hv
     ·simp at hv
     ·rename_i i hi
      simp only[M.ae,Option.bind_eq_some_iff] at hv
      obtain⟨s,h1,hv⟩:=hv
      exact lB hR hd ho hu hf hz hi h1 hv
    ·simp [hz] at hv
   ·simp at hv
  ·simp at hv
 ·rename_i t x i ho
  simp only[M.ae,Option.bind_eq_some_iff] at hv
  obtain⟨sx,h1,si,h2,hv⟩:=hv
  exact kI hR hd ho h1 h2 hv aJ
 ·rename_i t x i ho
  simp only[M.ae,Option.bind_eq_some_iff] at hv
  obtain⟨sx,h1,si,h2,hv⟩:=hv
  exact B5 hR hd ho h1 h2 hv aJ
 ·rename_i x i ho
  simp only[M.ae,Option.bind_eq_some_iff] at hv
  obtain⟨sx,h1,hv⟩:=hv
  split at hv
  ·rename_i vs
   split at hv
   ·rename_i v MH
    simp only[M.aa,Option.some.injEq] at hv
    exact m5 hR hd ho h1 MH hv.symm
   ·simp at hv
  ·simp at hv
 ·rename_i c ho
  split at hv
  ·rename_i g hg
   simp only[M.ae,Option.bind_eq_some_iff] at hv
   obtain⟨l,hl,hv⟩:=hv
   cases jJ:Gb Γ g with
   | none=>
    unfold kN at hv
    rw[jJ] at hv
    simp at hv
   | some s=>
    cases eE:s.G2 with
    | true=>
     unfold kN at hv
     rw[jJ] at hv
     simp only[eE,cond_true] at hv
     simp at hv
    | false=>
    cases hp:s.pt with
    | some q=>
     unfold kN at hv
     rw[jJ] at hv
     simp only[eE,cond_false,hp] at hv
     simp at hv
    | none=>
    cases hm:s.ms with
    | nil=>
     cases aQ:o.dst with
     | none=>
      unfold kN at hv
      rw[jJ,aQ] at hv
      simp only[eE,cond_false,hp,hm] at hv
      simp at hv
     | some d=>
      rw[aQ] at hv
      exact CZ eR jJ eE hp hm hR aQ (hd d aQ) (fun h=>bW h d aQ) ho hg hl hv aJ
    | cons m ms=>
     have hv':(AG s o.dst l).val st.get st.obj=some e:=by
      unfold kN at hv
      rw[jJ] at hv
      simp only[eE,cond_false,hp,hm] at hv
      exact hv
     refine B4 eR jJ eE hp (by rw[hm];simp) hR hd (fun d aQ h=>bW h d aQ) (us:=c.args.toList.map a.eval) (fun fn hf hb hn=> ?_) (fun β φ hc=>AL hc _ l hl) hv' aJ
     have E6:c.args.map a.eval=(c.args.toList.map a.eval).toArray:=by rw[←Array.toList_map,Array.toArray_toList]
     rw[←E6]
     exact B1 ho hg hf hb hn
  ·rename_i hb
   split at hv
   ·rename_i x t hx ht
    simp only[M.ae,Option.bind_eq_some_iff] at hv
    obtain⟨s,h1,hv⟩:=hv
    exact C2 hR hd ho hb (mI hx) (mI ht) h1 hv
   ·simp at hv
  ·rename_i hb
   split at hv
   ·rename_i x y hx
    simp only[M.ae,Option.bind_eq_some_iff] at hv
    obtain⟨s,h1,s2,h2,hv⟩:=hv
    exact j6 (mx:=false) hR hd ho hb (bL hx) h1 h2 hv
   ·simp at hv
  ·rename_i hb
   split at hv
   ·rename_i x y hx
    simp only[M.ae,Option.bind_eq_some_iff] at hv
    obtain⟨s,h1,s2,h2,hv⟩:=hv
    exact j6 (mx:=true) hR hd ho hb (bL hx) h1 h2 hv
   ·simp at hv
  ·rename_i hb
   split at hv
   ·rename_i s x t t' hx ht
    cases kx:Nat.beq t t'
    ·simp only[kx,cond_false,M.ae,Option.bind_eq_some_iff] at hv
     obtain⟨ss,h1,sx,h2,hv⟩:=hv
     exact m0 hR hd bW ho hb (bL hx) (bL ht) h1 h2 hv aJ
    simp only[kx,cond_true] at hv
    have ky:=Nat.eq_of_beq_eq_true kx
    subst ky
    simp only[M.ae,Option.bind_eq_some_iff] at hv
    obtain⟨ss,h1,sx,h2,hv⟩:=hv
    cases eE:mM Γ o.dst with
    | true=>
     simp only[eE,cond_true] at hv
     unfold C8 at hv
     split at hv
     ·rename_i et d hu aQ
      split at hv
      ·rename_i ct ts BF FI
       cases mW:aY P et ct.length && Nat.blt 0 ct.length
       ·simp [mW] at hv
       simp only[mW,cond_true,M.ae,Option.bind_eq_some_iff] at hv
       obtain⟨z,hz,hv⟩:=hv
       cases jO:Nat.beq z.length ct.length
       ·simp [jO] at hv
       simp only[jO,cond_true,M.ae,Option.bind_eq_some_iff] at hv
       obtain⟨p,KW,q,KX,hv⟩:=hv
       cases hn:cY (p.2++q.2)
       ·simp [hn] at hv
       simp only[hn,cond_true,M.aa,Option.some.injEq] at hv
       simp only[Bool.and_eq_true] at mW
       have eF:ft P et (p.1.length+q.1.length)=true:=by rw[←hv] at aJ;exact aJ
       exact mZ hR aQ (hd d aQ) (bW (by rw[←hv];simp) d aQ) ho hb (bL hx) (bL ht) h1 h2 hu mW.1 (Nat.le_of_ble_eq_true mW.2) hz (Nat.eq_of_beq_eq_true jO) KW KX hn eF (by rw[←hv]) (by rw[←hv]) (by rw[←hv])
      ·simp at hv
     ·simp at hv
    | false=>
    simp only[eE,cond_false] at hv
    unfold C9 at hv
    split at hv
    ·rename_i et d hu aQ
     split at hv
     ·rename_i ct BF
      cases mW:aY P et ct.length && Nat.blt 0 ct.length
      ·simp [mW] at hv
      simp only[mW,cond_true,M.ae,Option.bind_eq_some_iff] at hv
      obtain⟨z,hz,hv⟩:=hv
      cases jO:Nat.beq z.length ct.length
      ·simp [jO] at hv
      simp only[jO,cond_true] at hv
      have F8:=Nat.eq_of_beq_eq_true jO
      simp only[Bool.and_eq_true] at mW
      have jL:0<ct.length:=Nat.le_of_ble_eq_true mW.2
      split at hv
      ·simp only[M.ae,Option.bind_eq_some_iff,M.aa,Option.some.injEq] at hv
       obtain⟨q,hq,hv⟩:=hv
       have eF:ft P et q.1.length=true:=by rw[←hv] at aJ;exact aJ
       exact kF hR aQ (hd d aQ) (bW (by rw[←hv];simp) d aQ) ho hb (bL hx) (bL ht) h1 h2 hu mW.1 jL hz F8 hq eF (by rw[←hv]) (by rw[←hv]) (by rw[←hv])
      ·rename_i id
       simp only[M.aU,Option.bind_eq_some_iff] at hv
       obtain⟨ob,aL,hv⟩:=hv
       split at hv
       ·rename_i t' e' r u
        cases he:Nat.beq t' et && aE e' ct
        ·simp [he] at hv
        simp only[he,cond_true,M.ae,Option.bind_eq_some_iff] at hv
        obtain⟨q,hq,hv⟩:=hv
        cases hn:bP id q.2.1
        ·simp [hn] at hv
        simp only[hn,cond_true,M.aa,Option.some.injEq] at hv
        simp only[Bool.and_eq_true] at he
        have e1:=Nat.eq_of_beq_eq_true he.1
        have e2:=aK _ _ he.2
        subst e1 e2
        have eF:ft P t' (r.length+q.1.length)=true:=by rw[←hv] at aJ;exact aJ
        exact kG hR aQ (hd d aQ) (bW (by rw[←hv];simp) d aQ) ho hb (bL hx) (bL ht) h1 h2 aL hu mW.1 jL hz F8 hq hn eF (by rw[←hv]) (by rw[←hv]) (by rw[←hv])
       ·simp at hv
      ·simp at hv
     ·simp at hv
    ·simp at hv
   ·simp at hv
  ·rename_i hb
   split at hv
   ·rename_i s x t t' hx ht
    simp only[M.ae,Option.bind_eq_some_iff] at hv
    obtain⟨ss,h1,sx,h2,hv⟩:=hv
    exact C1 hR hd ho hb (bL hx) (bL ht) h1 h2 hv aJ
   ·simp at hv
  ·simp at hv
 ·simp at hv
end Go.Proofs.YtngbcccnjiaddaaGreat.Vm
namespace Go.Proofs.YtngbcccnjiaddaaGreat.Vm
structure Tr (st HV:St):Prop where
 n:HV.n=st.n
 ok:st.ok=true
 get:∀i,i ∉ HV.ls→HV.get i=st.get i
 ls:∀i∈st.ls,i∈HV.ls
 obj:∀id o,st.obj id=some o→id ∉ HV.lm→HV.obj id=some o
 lm:∀i∈st.lm,i∈HV.lm
theorem Tr.refl {st:St} (h:st.ok=true):Tr st st:=⟨rfl,h,fun _ _=>rfl,fun _ h=>h,fun _ _ h _=>h,fun _ h=>h⟩
theorem Tr.trans {a b c:St} (h:Tr a b) (k:Tr b c):Tr a c:=
 ⟨k.n.trans h.n,h.ok,fun i hi=>(k.get i hi).trans (h.get i (fun h'=>hi (k.ls i h'))),fun i hi=>k.ls i (h.ls i hi),
  fun id o ho hi=>k.obj id o (h.obj id o ho (fun h'=>hi (k.lm id h'))) hi,fun i hi=>k.lm i (h.lm i hi)⟩
theorem Ez {ow:List (Nat×Option aj)} {h:Nat→Option aj} {j:Nat} (hj:j ∉ ow.map (·.1)):fo ow h j=h j:=by
 induction ow with
 | nil=>rfl
 | cons x l ih=>
  obtain⟨i,ob⟩:=x
  simp only[List.map_cons,List.mem_cons,not_or] at hj
  simp only[fo,aA,hj.1,if_false]
  exact ih hj.2
theorem Cb {st:St} {d:Option Nat} {e:cL} (aJ:(st.apply d e).ok=true):Tr st (st.apply d e):=by
 have HA:st.ok=true:=by
  simp only[St.apply,gn] at aJ
  exact aJ.1.1
 refine⟨rfl,HA,fun i hi=> ?_,fun i hi=> ?_,fun id o ho hi=> ?_,fun i hi=> ?_⟩
 ·cases d with
  | none=>rfl
  | some d=>
   have dQ:i≠d:=fun h=>hi (by simp [St.apply,h])
   rw[apply_get]
   simp [aA,dQ]
 ·cases d<;>simp [St.apply,hi]
 ·rw[fb]
  simp only[St.apply,List.mem_append,not_or] at hi
  rw[Ez hi.2.1]
  cases kT:e.cw with
  | none=>exact ho
  | some x=>
   obtain⟨k,off,bM⟩:=x
   simp only[kT,List.mem_singleton] at hi
   rw[←ho]
   simp only[fc]
   cases st.obj k with
   | none=>rfl
   | some b=>cases b<;>simp [aA,hi.1]
 ·simp only[St.apply,List.mem_append]
  exact .inr (.inr hi)
theorem bb {st:St} :st.fail.ok=false:=rfl
theorem Dy {P:Program} {Γ:Ctx} {st:St} {o:Oper} (aJ:(st.cA P Γ o).ok=true):Tr st (st.cA P Γ o):=by
 unfold St.cA at aJ ⊢
 split
 ·rename_i e r hr
  simp only[hr] at aJ
  cases hf:jB o.dst e st
  ·simp [hf,bb] at aJ
  ·simp only[hf,cond_true] at aJ ⊢
   exact Cb aJ
 ·rename_i hr
  simp [hr,bb] at aJ
theorem mr (st:St) (s:Nat) (b:Bool):(st.fN s b).get=aA st.get s (.kb b):=by
 funext i
 show jh ((s,.kb b)::st.sl) i=_
 simp only[jh,aA,St.get]
 cases hk:Nat.beq s i
 ·have e2:=Nat.ne_of_beq_eq_false hk
  rw[if_neg (fun h=>e2 h.symm)]
  rfl
 ·simp [(Nat.eq_of_beq_eq_true hk).symm]
theorem j9 {st:St} {s:Nat} {b:Bool} (aJ:st.ok=true):Tr st (st.fN s b):=by
 refine⟨rfl,aJ,fun i hi=> ?_,fun i hi=>by simp [St.fN,hi],fun _ _ h _=>h,fun _ h=>h⟩
 rw[mr]
 have:i≠s:=fun h=>hi (by simp [St.fN,h])
 simp [aA,this]
theorem gb {i:Nat} {l:List Nat} :il i l=true↔i∈l:=by
 induction l with
 | nil=>simp [il]
 | cons k l ih=>
  simp only[il,Bool.or_eq_true,List.mem_cons,ih]
  constructor
  ·rintro (h | h)
   ·exact .inl (Nat.eq_of_beq_eq_true h).symm
   ·exact .inr h
  ·rintro (rfl | h)
   ·exact .inl (Nat.beq_refl i)
   ·exact .inr h
theorem Aq {i:Nat} {l:List Nat} :i∈dedup l↔i∈l:=by
 induction l with
 | nil=>simp [dedup]
 | cons k l ih=>
  simp only[dedup]
  cases hm:il k l
  ·simp [ih]
  ·simp only[cond_true,List.mem_cons,ih]
   constructor
   ·exact .inr
   ·rintro (rfl | h)
    ·exact gb.1 hm
    ·exact h
theorem ik {g:Bool} {f h:Nat→SV} {l:List (Nat×SV)} :∀(r:List Nat) (i:Nat),jh (gA g f h r l) i=if i∈r then eZ g (f i) (h i) else jh l i
 | [],i=>by simp [gA]
 | k::r,i=>by
  simp only[gA,jh]
  cases hk:Nat.beq k i
  ·have e2:=Nat.ne_of_beq_eq_false hk
   simp only[cond_false,ik r i,List.mem_cons]
   by_cases hi:i∈r
   ·simp [hi]
   ·rw[if_neg hi,if_neg (fun h=>h.elim (fun h=>e2 h.symm) hi)]
  ·have e1:=Nat.eq_of_beq_eq_true hk
   subst e1
   simp
theorem iq {hp:List (Nat×aj)} :∀ {l:List Nat} {i:Nat},i∈cF hp l↔i∈l∧∃o,dF hp i=some o
 | [],i=>by simp [cF]
 | k::l,i=>by
  simp only[cF]
  cases hk:dF hp k with
  | none=>
   simp only[iq (l:=l),List.mem_cons]
   constructor
   ·rintro ⟨h1,h2⟩
    exact⟨.inr h1,h2⟩
   ·rintro ⟨rfl | h1,h2⟩
    ·rw[hk] at h2;obtain⟨o,h2⟩:=h2;cases h2
    ·exact⟨h1,h2⟩
  | some o=>
   simp only[List.mem_cons,iq (l:=l)]
   constructor
   ·rintro (rfl | ⟨h1,h2⟩)
    ·exact⟨.inl rfl,o,hk⟩
    ·exact⟨.inr h1,h2⟩
   ·rintro ⟨rfl | h1,h2⟩
    ·exact .inl rfl
    ·exact .inr ⟨h1,h2⟩
theorem mc {g:Bool} {f k h:Nat→Option aj} :∀(l:List Nat) (i:Nat),fo (jQ g f k l) h i=if i∈l then mz g (f i) (k i) else h i
 | [],i=>by simp [jQ,fo]
 | j::l,i=>by
  simp only[jQ,fo,aA,List.mem_cons]
  by_cases hi:i=j
  ·subst hi;simp
  ·simp only[hi,if_false,false_or]
   exact mc l i
theorem Ar (pre:St) (g:Bool) (a b:St) (i:Nat):(merge pre g a b).obj i=if i∈cF pre.hp (dedup (a.lm++b.lm)) then mz g (a.obj i) (b.obj i) else pre.obj i:=by
 show dF (kD _ pre.hp) i=_
 rw[ij,mc]
 rfl
theorem Cd {pre a b:St} {g:Bool} (hp:pre.ok=true) (J0:(merge pre g a b).ok=true):Tr pre (merge pre g a b):=by
 refine⟨rfl,hp,fun i hi=> ?_,fun i hi=>List.mem_append_right _ hi,fun i o h hi=> ?_,fun i h=>List.mem_append_right _ h⟩
 ·have hi:i ∉ dedup (a.ls++b.ls)∧i ∉ pre.ls:=by simpa only[merge,List.mem_append,not_or] using hi
  show jh (gA g a.get b.get (dedup (a.ls++b.ls)) pre.sl) i=jh pre.sl i
  rw[ik,if_neg hi.1]
 ·have hi:i ∉ cF pre.hp (dedup (a.lm++b.lm)):=fun h'=>hi (List.mem_append_left _ h')
  rw[Ar,if_neg hi]
  exact h
theorem Core.sub {w0:World} {S:Own} {f f':Nat→SV} {h h':Nat→Option aj} {β:Env} {φ:Nat→List Nat} {tm:Array Value} {w:World} (hc:Core w0 S f h β φ tm w)
  (hh:∀j o,h' j=some o→h j=some o∨∃t cs Bw,o= .box t Bw∧h j=some (.box t cs)∧∀vs,af w (Av h' β) β cs vs→af w (Av h' β) β Bw vs)
  (hf:∀i v,ak w (Av h' β) β (f i) v→ak w (Av h' β) β (f' i) v):Core w0 S f' h' β φ tm w:=by
 have E0:∀j o,h' j=some o→∃o',h j=some o'∧al β j o=al β j o':=by
  intro j o ho
  rcases hh j o ho with h1 | ⟨t,cs,Bw,rfl,h1,_⟩
  ·exact⟨o,h1,rfl⟩
  ·exact⟨_,h1,rfl⟩
 have cP:∀b,Av h' β b→Av h β b:=fun b hb=>hb.imp (fun ⟨j,o,hj,hb⟩=>by
  obtain⟨o',h1,h2⟩:=E0 j o hj
  exact⟨j,o',h1,h2 ▸ hb⟩) id
 have hm:=hc.step (h':=h') (β':=β) (φ':=φ) (w':=w) (fun _=>False) (Nat.le_refl _) (fun _ _ _=>rfl) (fun b hb=> .inl (cP b hb)) (fun _ _ _ h=>h) (fun _ _=>⟨rfl,rfl⟩)
  (fun id o ho=>by
   rcases hh id o ho with h1 | ⟨t,cs,Bw,rfl,h1,h2⟩
   ·exact .inl ⟨fun h=>h,h1,rfl,fun _ _ h=>h,fun _ _=>rfl⟩
   ·refine .inr ⟨?_,hc.fresh id _ h1⟩
    have h3:=(hc.ay id _ h1).mono (w':=w) (av':=Av h' β) (β':=β) (Nat.le_refl _) (fun _ _ _=>rfl) (fun b hb=> .inl (cP b hb)) (fun _ _=>⟨rfl,rfl⟩) (fun _ _=>rfl) rfl
    obtain⟨vs,e1,e2,e3,e4⟩:=h3
    exact⟨vs,e1,h2 vs e2,e3,e4⟩)
  (fun i j o p cJ hi hj b hb=>by
   obtain⟨o',h1,_⟩:=E0 i o hi
   obtain⟨p',h2,_⟩:=E0 j p hj
   exact hc.sep i j o' p' cJ h1 h2 b hb)
 exact⟨fun i=>hf i _ (hm.ca i),hm.ay,hm.fresh,hm.sep,hm.gH,hm.bars⟩
theorem DN {w:World} {av:Nat→Prop} {β:Env} {g:Bool} {x y:Option aj} {o:aj} (h:mz g x y=some o):
  (bif g then x else y)=some o∨∃t cs Bw,o= .box t Bw∧(bif g then x else y)=some (.box t cs)∧∀vs,af w av β cs vs→af w av β Bw vs:=by
 unfold mz at h
 split at h
 ·rename_i t cs t' Bw
  cases hc:Nat.beq t t' && Nat.beq cs.length Bw.length
  ·simp [hc] at h
  ·simp only[hc,cond_true,Option.some.injEq] at h
   simp only[Bool.and_eq_true] at hc
   have ht:=Nat.eq_of_beq_eq_true hc.1
   have hl:=Nat.eq_of_beq_eq_true hc.2
   subst ht h
   refine .inr ⟨t,bif g then cs else Bw,_,rfl,by cases g<;>rfl,fun vs hv=>af.merge g cs Bw vs hl hv⟩
 ·rename_i t e r fz u t' e' r' JB u'
  cases hc:Nat.beq t t' && aE e e' && (fz==JB) && (u==u')
  ·simp [hc] at h
  ·simp only[hc,cond_true,Option.some.injEq] at h
   simp only[Bool.and_eq_true] at hc
   have ht:=Nat.eq_of_beq_eq_true hc.1.1.1
   have he:=aK _ _ hc.1.1.2
   have hf:fz=JB:=by simpa using hc.1.2
   have hu:u=u':=by simpa using hc.2
   subst ht he hf hu h
   refine .inl ?_
   cases g<;>rfl
 ·cases h
theorem gf {w0:World} {S:Own} {pre yes no:St} {g:Bool} {a:Act} {w:World} (hy:g=true→Tr pre.reset yes∧Rel w0 S yes a w) (hn:g=false→Tr pre.reset no∧Rel w0 S no a w)
  (J0:(merge pre g yes no).ok=true):Rel w0 S (merge pre g yes no) a w:=by
 have key:∀r:St,Tr pre.reset r→Rel w0 S r a w→(∀i∈r.ls,i∈yes.ls++no.ls)→(∀i∈r.lm,i∈yes.lm++no.lm)→(∀i v av β,ak w av β (r.get i) v→ak w av β (eZ g (yes.get i) (no.get i)) v)→
   (∀i,(bif g then yes.obj i else no.obj i)=r.obj i)→Rel w0 S (merge pre g yes no) a w:=by
  intro r ht hr Mt FG Mv A1
  obtain⟨β,φ,hc⟩:=hr.core
  refine⟨hr.size.trans (congrArg (· % 1099511627776) ht.n),fun x hx=>by have h1:=hr.fx x hx;rw[ht.n] at h1;exact h1,hr.defers,hr.kept,β,φ, ?_⟩
  refine hc.sub (fun j o ho=> ?_) (fun i v hv=> ?_)
  ·rw[Ar] at ho
   split at ho
   ·have:=DN (w:=w) (av:=Av (merge pre g yes no).obj β) (β:=β) ho
    rw[A1 j] at this
    exact this
   ·rename_i hj
    refine .inl (ht.obj j o ho (fun h=>hj ?_))
    exact iq.2 ⟨Aq.2 (FG j h),o,ho⟩
  ·show ak w _ β (jh (gA g yes.get no.get (dedup (yes.ls++no.ls)) pre.sl) i) v
   rw[ik]
   split
   ·exact Mv i v _ β hv
   ·rename_i hi
    have:r.get i=pre.get i:=ht.get i (fun h=>hi (Aq.2 (Mt i h)))
    rw[this] at hv
    exact hv
 cases g with
 | true=>
  obtain⟨ht,hr⟩:=hy rfl
  exact key yes ht hr (fun i hi=>List.mem_append_left _ hi) (fun i hi=>List.mem_append_left _ hi) (fun i v av β hv=>ak.merge true _ _ _ hv) (fun _=>rfl)
 | false=>
  obtain⟨ht,hr⟩:=hn rfl
  exact key no ht hr (fun i hi=>List.mem_append_right _ hi) (fun i hi=>List.mem_append_right _ hi) (fun i v av β hv=>ak.merge false _ _ _ hv) (fun _=>rfl)
theorem Rel.reset {w0:World} {S:Own} {st:St} {a:Act} {w:World} (h:Rel w0 S st a w):Rel w0 S st.reset a w:=⟨h.size,h.fx,h.defers,h.kept,h.core⟩
theorem Rel.fN {w0:World} {S:Own} {st:St} {a:Act} {w:World} (h:Rel w0 S st a w) {s:Nat} {b:Bool} (hs:a.tmps.getD s undef= .bool b):Rel w0 S (st.fN s b) a w:=by
 obtain⟨β,φ,hc⟩:=h.core
 refine⟨h.size,h.fx,h.defers,h.kept,β,φ, ?_⟩
 rw[mr]
 exact⟨fun i=>by
  by_cases hi:i=s
  ·subst hi
   simp only[aA,if_true,ak]
   exact hs
  ·have:=hc.ca i
   show ak w (Av st.obj β) β _ _
   simpa only[aA,hi,if_false] using this,hc.ay,hc.fresh,hc.sep,hc.gH,hc.bars⟩
theorem Rel.Ax {w0:World} {S:Own} {st:St} {a:Act} {w:World} (h:Rel w0 S st a w) {s:Nat} {g:Bool} (hs:st.get s= .bool g):a.tmps.getD s undef= .bool g:=by
 obtain⟨β,φ,hc⟩:=h.core
 have:=hc.ca s
 rw[hs] at this
 simpa only[ak] using this
theorem bf {P:Program} {Γ:Ctx} {ops:Array Oper} {gs:List Nat} {kh:List cu→Bool} :∀(rest:List Oper) (i:Nat) (acc:List cu) (st:St),(a_ P Γ ops gs kh rest i acc st).ok=true→
  Tr st (a_ P Γ ops gs kh rest i acc st)
 | [],i,acc,st,h=>by
  simp only[a_] at h ⊢
  simp only[gn] at h
  exact⟨rfl,h.1,fun _ _=>rfl,fun _ h=>h,fun _ _ h _=>h,fun _ h=>h⟩
 | o::rest,i,acc,st,h=>by
  rw[a_] at h ⊢
  split
  ·rename_i hw;simp [hw,bb] at h
  ·rename_i hw
   simp only[hw] at h
   have h1:=bf rest _ _ _ h
   exact (Cb h1.ok).trans h1
  ·rename_i hw
   simp only[hw] at h
   have plain:(a_ P Γ ops gs kh rest (i+1) (acc++[bH P Γ ops i st o]) (st.cA P Γ o)).ok=true→Tr st (a_ P Γ ops gs kh rest (i+1) (acc++[bH P Γ ops i st o]) (st.cA P Γ o)):=by
    intro h'
    have h1:=bf rest _ _ _ h'
    exact (Dy h1.ok).trans h1
   split
   ·rename_i hd
    simp only[hd] at h
    exact plain h
   ·rename_i s hd
    simp only[hd] at h
    cases hm:il s gs
    ·simp only[hm,cond_false] at h ⊢
     exact plain h
    ·simp only[hm,cond_true] at h ⊢
     split
     ·rename_i g hg
      simp only[hg] at h
      have DL:(st.cA P Γ o).ok=true:=by
       have h':=h
       simp only[merge,Fs] at h'
       cases g with
       | true=>simp only[cond_true] at h';exact (bf rest _ _ _ h').ok
       | false=>simp only[cond_false] at h';exact (bf rest _ _ _ h').ok
      exact (Dy DL).trans (Cd DL h)
     ·rename_i hg
      have h':(a_ P Γ ops gs kh rest (i+1) (acc++[bH P Γ ops i st o]) (st.cA P Γ o)).ok=true:=by
       revert h
       split
       ·rename_i g H2;exact absurd H2 (hg g)
       ·exact id
      exact plain h'
end Go.Proofs.YtngbcccnjiaddaaGreat.Vm
set_option linter.unusedVariables false
set_option linter.unusedSimpArgs false
namespace Go.Proofs.YtngbcccnjiaddaaGreat.Vm
theorem jl {ds l:List Nat} (h:mA ds l=true):∀i∈l,i / 64 ∉ ds:=by
 induction l with
 | nil=>simp
 | cons k l ih=>
  simp only[mA,Bool.and_eq_true,Bool.not_eq_true'] at h
  intro i hi
  rcases List.mem_cons.1 hi with rfl | hi
  ·intro hm
   rw[gb.2 hm] at h
   simp at h
  ·exact ih h.2 i hi
theorem Gc {l:List (Nat×SV)} {i:Nat} :jh l i= .fw∨∃x∈l,jh l i=x.2:=by
 induction l with
 | nil=>exact .inl rfl
 | cons y l ih=>
  obtain⟨k,s⟩:=y
  simp only[jh]
  cases Nat.beq k i
  ·rcases ih with h | ⟨x,hx,h⟩
   ·exact .inl h
   ·exact .inr ⟨x,List.mem_cons_of_mem _ hx,h⟩
  ·exact .inr ⟨_,List.mem_cons_self ..,rfl⟩
theorem Dn {l:List (Nat×aj)} {i:Nat} {ob:aj} (h:dF l i=some ob):(i,ob)∈l:=by
 induction l with
 | nil=>simp [dF] at h
 | cons y l ih=>
  obtain⟨k,s⟩:=y
  simp only[dF] at h
  cases hk:Nat.beq k i
  ·simp only[hk,cond_false] at h
   exact List.mem_cons_of_mem _ (ih h)
  ·simp only[hk,cond_true,Option.some.injEq] at h
   rw[Nat.eq_of_beq_eq_true hk,h]
   exact List.mem_cons_self ..
theorem BD {ds:List Nat} {st:St} (h:eD ds st=true):∀d∈ds,bJ st d:=by
 intro d hd
 simp only[eD,Bool.and_eq_true,List.all_eq_true] at h
 constructor
 ·intro i j hj
  rcases Gc (l:=st.sl) (i:=i) with h0 | ⟨x,hx,h0⟩
  ·have:st.get i= .fw:=h0
   rw[this] at hj
   simp [bU] at hj
  ·have:st.get i=x.2:=h0
   rw[this] at hj
   exact fun e=>jl (h.1 x hx) j hj (e ▸ hd)
 ·intro j ob hj
  have hm:=h.2 _ (Dn hj)
  refine⟨fun e=>jl hm j (List.mem_cons_self ..) (e ▸ hd),fun k hk e=>jl hm k (List.mem_cons_of_mem _ hk) (e ▸ hd)⟩
section
variable {P:Program} {Γ:Ctx} {w0:World} {S:Own} {ops:Array Oper} {gs:List Nat}
theorem lY {st:St} {o:Oper} (h:(st.cA P Γ o).ok=true):∃e s r,(evalOp P Γ o).run st.get st.obj=some (e,s,r)∧jB o.dst e st=true∧st.cA P Γ o=st.apply o.dst e:=by
 unfold St.cA at h ⊢
 split at h
 ·rename_i e r hr
  obtain⟨s,r⟩:=r
  cases hf:jB o.dst e st
  ·simp [hf,bb] at h
  ·exact⟨e,s,r,hr,hf,by simp [hr,hf]⟩
 ·simp [bb] at h
theorem Ad (eR:bF P Γ) {st:St} {o:Oper} {a:Act} {w:World} (hR:Rel w0 S st a w) (h:(st.cA P Γ o).ok=true) (Q:Exit→Act→World→Prop):
  o.wp P a w (fun a' w'=>∃v,a'=a.put o.dst v∧Rel w0 S (st.cA P Γ o) a' w') Q:=by
 obtain⟨e,s,r,hr,hf,he⟩:=lY h
 rw[he] at h ⊢
 simp only[St.apply,gn] at h
 refine BW eR hR (M.eu _ hr) h.1.2 (fun d hd=> ?_) (fun how d hd=> ?_) Q
 ·have:=h.2
  rw[hd] at this
  exact lG this
 ·unfold jB at hf
  rw[hd] at hf
  split at hf
  ·rename_i d' _ Ix
   injection Ix with Ix
   subst Ix
   exact BD hf d (List.mem_singleton.2 rfl)
  ·rename_i BK
   cases hw:e.ow with
   | nil=>exact absurd hw how
   | cons x l=>exact (BK x l d hw rfl).elim
theorem kL {st:St} {o:Oper} {a:Act} {w:World} {b:Bool} (hR:Rel w0 S st a w) (h:fy ops st o=some b):Region.wanted o (yielded ops a.tmps)=b:=by
 obtain⟨β,φ,hc⟩:=hR.core
 unfold fy at h
 unfold Region.wanted
 split at h
 ·rename_i hg
  simp only[hg]
  simpa using h
 ·rename_i j want hg
  simp only[hg]
  split at h
  ·cases h
  ·rename_i s hs
   have ku:=hc.ca s
   split at h
   ·rename_i b' ax
    rw[ax] at ku
    simp only[ak] at ku
    have:a.tmps[s]? =some (.bool b'):=by
     rw[Array.getD_eq_getD_getElem?] at ku
     cases hq:a.tmps[s]? with
     | none=>rw[hq] at ku;simp [undef] at ku
     | some v=>rw[hq] at ku;simpa using ku
    simp only[yielded,hs,Option.bind_some,this]
    have h:=Option.some.inj h
    rw[←h]
    rfl
   ·rename_i ax
    rw[ax] at ku
    simp only[ak] at ku
    have:∀c,a.tmps[s]? ≠some (.bool c):=by
     intro c hq
     rw[Array.getD_eq_getD_getElem?,hq] at ku
     simp [undef] at ku
    have hy:yielded ops a.tmps j=none:=by
     unfold yielded
     rw[hs]
     simp only[Option.bind_some]
    rw[hy]
    have h:=Option.some.inj h
    rw[←h]
    rfl
   ·cases h
theorem Fx {st:St} {o:Oper} {a:Act} {w:World} (hR:Rel w0 S st a w) (h:(st.skip o.dst).ok=true):Rel w0 S (st.skip o.dst) (a.put o.dst undef) w:=by
 obtain⟨β,φ,hc⟩:=hR.core
 refine iL hR (fun d hd=> ?_) hR.kept ⟨β,φ,hc,by simp [ak]⟩
 simp only[St.skip,St.apply,gn] at h
 have:=h.2
 rw[hd] at this
 exact lG this
theorem Rel.GV {st:St} {a:Act} {w:World} (hR:Rel w0 S st a w) (b:Bool):Rel w0 S {st with ok:=b} a w:=⟨hR.size,hR.fx,hR.defers,hR.kept,hR.core⟩
theorem cX {pre a b:St} {g:Bool} (h:(merge pre g a b).ok=true):(g=true→a.ok=true)∧(g=false→b.ok=true):=by
 simp only[merge,Fs] at h
 cases g
 ·exact⟨by simp,fun _=>h⟩
 ·exact⟨fun _=>h,by simp⟩
theorem eC (eR:bF P Γ) {kh:List cu→Bool} {Q:Exit→Act→World→Prop} :∀(rest:List Oper) (i:Nat) (acc:List cu) (st:St) (a:Act) (w:World),Rel w0 S st a w→
  (a_ P Γ ops gs kh rest i acc st).ok=true→(∀a' w',Rel w0 S (a_ P Γ ops gs kh rest i acc st) a' w'→Q .normal a' w')→wpList P ops Q rest a w
 | [],i,acc,st,a,w,hR,aJ,hQ=>by
  simp only[a_] at hQ
  exact hQ a w (hR.GV _)
 | o::rest,i,acc,st,a,w,hR,aJ,hQ=>by
  rw[a_] at aJ hQ
  cases hw:fy ops st o with
  | none=>simp [hw,bb] at aJ
  | some b=>
   simp only[hw] at aJ hQ
   have An:=kL hR hw
   unfold wpList
   cases b with
   | false=>
    rw[if_neg (by rw[An];simp)]
    simp only at aJ hQ
    exact eC eR rest _ _ _ _ w (Fx hR (bf rest _ _ _ aJ).ok) aJ hQ
   | true=>
    rw[if_pos An]
    simp only at aJ hQ
    refine .inl ?_
    have plain:(a_ P Γ ops gs kh rest (i+1) (acc++[bH P Γ ops i st o]) (st.cA P Γ o)).ok=true→
      (∀a' w',Rel w0 S (a_ P Γ ops gs kh rest (i+1) (acc++[bH P Γ ops i st o]) (st.cA P Γ o)) a' w'→Q .normal a' w')→o.wp P a w (wpList P ops Q rest) Q:=by
     intro h1 h2
     have hd:=(bf rest _ _ _ h1).ok
     refine Oper.wp_mono ?_ (Ad eR hR hd Q)
     rintro a' w' ⟨v,rfl,eO⟩
     exact eC eR rest _ _ _ _ w' eO h1 h2
    split at aJ
    ·rename_i hd
     simp only[hd] at hQ
     exact plain aJ hQ
    ·rename_i s hd
     simp only[hd] at hQ
     cases hm:il s gs
     ·simp only[hm,cond_false] at aJ hQ
      exact plain aJ hQ
     ·simp only[hm,cond_true] at aJ hQ
      split at aJ
      ·rename_i g hg
       simp only[hg] at hQ
       have lK:=cX aJ
       have DL:(st.cA P Γ o).ok=true:=by
        cases g with
        | true=>exact (bf rest _ _ _ (lK.1 rfl)).ok
        | false=>exact (bf rest _ _ _ (lK.2 rfl)).ok
       refine Oper.wp_mono ?_ (Ad eR hR DL Q)
       rintro a' w' ⟨v,rfl,eO⟩
       have dr:=eO.Ax hg
       cases g with
       | true=>
        have hy:=lK.1 rfl
        refine eC eR rest (i+1) (acc++[bH P Γ ops i st o]) ((st.cA P Γ o).reset.fN s true) _ w' (eO.reset.fN dr) hy ?_
        intro J1 Ln J7
        exact hQ J1 Ln (gf (fun _=>⟨(j9 (st:=(st.cA P Γ o).reset) DL).trans (bf rest _ _ _ hy),J7⟩) (by simp) aJ)
       | false=>
        have hn:=lK.2 rfl
        refine eC eR rest (i+1) (acc++[bH P Γ ops i st o]) ((st.cA P Γ o).reset.fN s false) _ w' (eO.reset.fN dr) hn ?_
        intro J1 Ln J7
        exact hQ J1 Ln (gf (by simp) (fun _=>⟨(j9 (st:=(st.cA P Γ o).reset) DL).trans (bf rest _ _ _ hn),J7⟩) aJ)
      ·rename_i hg
       have L7:∀a' w',Rel w0 S (a_ P Γ ops gs kh rest (i+1) (acc++[bH P Γ ops i st o]) (st.cA P Γ o)) a' w'→Q .normal a' w':=by
        revert hQ
        split
        ·rename_i g H2;exact absurd H2 (hg g)
        ·exact id
       exact plain aJ L7
theorem AA {draw:Bool} {st:St} (h:(bX P Γ ops draw st).ok=true):Tr st (bX P Γ ops draw st):=by
 unfold bX at h ⊢
 cases draw
 ·simp only[cond_false] at h ⊢
  exact bf _ _ _ _ h
 ·simp only[cond_true] at h ⊢
  cases hf:eD (lu ops.toList) st && gr ops.toList 0 && P.follows .mixedOrders
  ·simp [hf,bb] at h
  ·simp only[hf,cond_true] at h ⊢
   exact bf _ _ _ _ h
theorem CQ (eR:bF P Γ) {st:St} {a:Act} {w:World} {id:Nat} {Q:Exit→Act→World→Prop} (hR:Rel w0 S st a w) (h:(bX P Γ ops false st).ok=true)
  (hQ:∀a' w',Rel w0 S (bX P Γ ops false st) a' w'→Q .normal a' w'):(Code.region id ops false).wp P Q a w:=by
 unfold bX at h hQ
 simp only[cond_false] at h hQ
 exact wp_region_list (eC eR _ _ _ _ a w hR h hQ)
end
end Go.Proofs.YtngbcccnjiaddaaGreat.Vm
set_option linter.unusedVariables false
set_option linter.unusedSimpArgs false
namespace Go.Proofs.YtngbcccnjiaddaaGreat.Vm
theorem M.kE {α:Type} {f f':Nat→SV} {h h':Nat→Option aj} :∀(m:M α) {a:α} {s o:List Nat},m.run f h=some (a,s,o)→(∀i∈s,f' i=f i)→(∀i∈o,h' i=h i)→m.run f' h'=some (a,s,o)
 | .pure a,_,_,_,e,_,_=>by simpa [M.run] using e
 | .fail,_,_,_,e,_,_=>by simp [M.run] at e
 | .slot i k,a,s,o,e,hs,ho=>by
  simp only[M.run] at e ⊢
  split at e
  ·rename_i b s' o' hk
   simp only[Option.some.injEq,Prod.mk.injEq] at e
   obtain⟨rfl,rfl,rfl⟩:=e
   rw[hs i (List.mem_cons_self ..),M.kE (k (f i)) hk (fun j hj=>hs j (List.mem_cons_of_mem _ hj)) ho]
  ·cases e
 | .obj i k,a,s,o,e,hs,ho=>by
  simp only[M.run] at e ⊢
  split at e
  ·rename_i x hx
   split at e
   ·rename_i b s' o' hk
    simp only[Option.some.injEq,Prod.mk.injEq] at e
    obtain⟨rfl,rfl,rfl⟩:=e
    rw[ho i (List.mem_cons_self ..),hx]
    simp only
    rw[M.kE (k x) hk hs (fun j hj=>ho j (List.mem_cons_of_mem _ hj))]
   ·cases e
  ·cases e
structure PS where
 i:Nat
 o:Oper
 run:Bool
 st:St
 e:cL
 log:cu
def PS.f (p:PS) (s:Nat) (v:SV):SV:=if p.o.dst=some s then p.e.sv else v
def Gd:List (Nat×Option aj)→Nat→Option (Option aj)
 | [],_=>none
 | (i,x)::l,j=>if j=i then some x else Gd l j
def Ep (cw:Option (Nat×Nat×List SV)) (id:Nat) (v:Option aj):Option aj:=
 match cw with
 | some (i,off,bM)=>if id=i then (match v with | some (.box t cells)=>some (.box t (cG cells off bM)) | o=>o) else v
 | none=>v
def PS.h (p:PS) (id:Nat) (v:Option aj):Option aj:=
 match Gd p.e.ow id with
 | some x=>x
 | none=>Ep p.e.cw id v
theorem Ig (cw:Option (Nat×Nat×List SV)) (h:Nat→Option aj) (id:Nat):fc cw h id=Ep cw id (h id):=by
 cases cw with
 | none=>rfl
 | some x=>
  obtain⟨i,off,bM⟩:=x
  simp only[fc,Ep]
  by_cases hi:id=i
  ·subst hi
   rw[if_pos rfl]
   cases hh:h id with
   | none=>simp [hh]
   | some b=>cases b<;>simp [aA,hh]
  ·rw[if_neg hi]
   cases h i with
   | none=>rfl
   | some b=>cases b<;>simp [aA,hi]
theorem Ih (ow:List (Nat×Option aj)) (h:Nat→Option aj) (id:Nat):fo ow h id=match Gd ow id with | some x=>x | none=>h id:=by
 induction ow with
 | nil=>rfl
 | cons x l ih=>
  obtain⟨i,ob⟩:=x
  simp only[fo,aA,Gd]
  split
  ·rfl
  ·exact ih
theorem ju (st:St) (p:PS) (id:Nat):(st.apply p.o.dst p.e).obj id=p.h id (st.obj id):=by
 rw[fb,Ih]
 unfold PS.h
 rw[Ig]
theorem lF (st:St) (p:PS) (s:Nat):(st.apply p.o.dst p.e).get s=p.f s (st.get s):=by
 unfold PS.f
 cases hd:p.o.dst with
 | none=>simp [gR]
 | some d=>
  rw[apply_get]
  simp only[aA,Option.some.injEq]
  by_cases hs:s=d
  ·simp [hs]
  ·rw[if_neg hs,if_neg (fun h:d=s=>hs h.symm)]
inductive Path (P:Program) (Γ:Ctx) (ops:Array Oper) (gs:List Nat):List Oper→Nat→St→List PS→St→Prop where
 | nil (i:Nat) (st:St):Path P Γ ops gs [] i st [] st
 | skip (o:Oper) (rest:List Oper) (i:Nat) (st:St) (l:List PS) (fin:St) (hw:fy ops st o=some false) (aJ:(st.skip o.dst).ok=true) (h:Path P Γ ops gs rest (i+1) (st.skip o.dst) l fin):
   Path P Γ ops gs (o::rest) i st (⟨i,o,false,st, {sv:= .undef},iP ops i o⟩::l) fin
 | op (o:Oper) (rest:List Oper) (i:Nat) (st:St) (l:List PS) (fin:St) (e:cL) (hw:fy ops st o=some true) (aJ:(st.cA P Γ o).ok=true) (he:st.cA P Γ o=st.apply o.dst e)
   (hr:∃s r,(evalOp P Γ o).run st.get st.obj=some (e,s,r)) (h:Path P Γ ops gs rest (i+1) (st.cA P Γ o) l fin):
   Path P Γ ops gs (o::rest) i st (⟨i,o,true,st,e,bH P Γ ops i st o⟩::l) fin
 | JW (o:Oper) (rest:List Oper) (i:Nat) (st:St) (l:List PS) (fin:St) (e:cL) (s:Nat) (g:Bool) (hw:fy ops st o=some true) (aJ:(st.cA P Γ o).ok=true) (he:st.cA P Γ o=st.apply o.dst e)
   (hr:∃s r,(evalOp P Γ o).run st.get st.obj=some (e,s,r)) (hd:o.dst=some s) (hg:e.sv= .bool g) (h:Path P Γ ops gs rest (i+1) ((st.cA P Γ o).reset.fN s g) l fin):
   Path P Γ ops gs (o::rest) i st (⟨i,o,true,st, {e with sv:= .kb g},bH P Γ ops i st o⟩::l) fin
section
variable {P:Program} {Γ:Ctx} {w0:World} {S:Own} {ops:Array Oper} {gs:List Nat}
theorem eX {kh:List cu→Bool} :∀(rest:List Oper) (i:Nat) (acc:List cu) (st:St),(a_ P Γ ops gs kh rest i acc st).ok=true→
  ∃l fin,Path P Γ ops gs rest i st l fin∧fin.ok=true∧kh (acc++l.map (·.log))=true∧∀(w0:World) (S:Own) (a:Act) (w:World),Rel w0 S fin a w→Rel w0 S (a_ P Γ ops gs kh rest i acc st) a w
 | [],i,acc,st,aJ=>by
  simp only[a_,gn] at aJ ⊢
  exact⟨[],st,.nil i st,aJ.1,by simpa using aJ.2,fun w0 S a w h=>h.GV _⟩
 | o::rest,i,acc,st,aJ=>by
  rw[a_] at aJ ⊢
  cases hw:fy ops st o with
  | none=>simp [hw,bb] at aJ
  | some b=>
   simp only[hw] at aJ ⊢
   cases b with
   | false=>
    simp only at aJ ⊢
    obtain⟨l,fin,h1,h2,h3,h4⟩:=eX rest _ _ _ aJ
    exact⟨_,fin,.skip o rest i st l fin hw (bf rest _ _ _ aJ).ok h1,h2,by simpa using h3,h4⟩
   | true=>
    simp only at aJ ⊢
    have plain:(a_ P Γ ops gs kh rest (i+1) (acc++[bH P Γ ops i st o]) (st.cA P Γ o)).ok=true→
      ∃l fin,Path P Γ ops gs (o::rest) i st l fin∧fin.ok=true∧kh (acc++l.map (·.log))=true∧∀(w0:World) (S:Own) (a:Act) (w:World),Rel w0 S fin a w→
       Rel w0 S (a_ P Γ ops gs kh rest (i+1) (acc++[bH P Γ ops i st o]) (st.cA P Γ o)) a w:=by
     intro h1
     have hd:=(bf rest _ _ _ h1).ok
     obtain⟨l,fin,g1,g2,g3,g4⟩:=eX rest _ _ _ h1
     obtain⟨e,s,r,hr,_,he⟩:=lY hd
     exact⟨_,fin,.op o rest i st l fin e hw hd he ⟨s,r,hr⟩ g1,g2,by simpa using g3,g4⟩
    split at aJ
    ·rename_i hd
     exact plain aJ
    ·rename_i s hd
     cases hm:il s gs
     ·simp only[hm,cond_false] at aJ ⊢
      exact plain aJ
     ·simp only[hm,cond_true] at aJ ⊢
      split at aJ
      ·rename_i g hg
       have lK:=cX aJ
       have JD:∀b:Bool,g=b→(a_ P Γ ops gs kh rest (i+1) (acc++[bH P Γ ops i st o]) ((st.cA P Γ o).reset.fN s b)).ok=true:=by
        rintro b rfl
        cases g with
        | true=>exact lK.1 rfl
        | false=>exact lK.2 rfl
       have Kf:=(bf rest _ _ _ (JD g rfl)).ok
       have JF:(st.cA P Γ o).ok=true:=Kf
       obtain⟨l,fin,g1,g2,g3,g4⟩:=eX rest (i+1) (acc++[bH P Γ ops i st o]) _ (JD g rfl)
       obtain⟨e,s',r,hr,_,he⟩:=lY JF
       have fT:e.sv= .bool g:=by
        rw[he,hd,apply_get] at hg
        simpa [aA] using hg
       refine⟨_,fin,.JW o rest i st l fin e s g hw JF he ⟨s',r,hr⟩ hd fT g1,g2,by simpa using g3,fun w0 S a w hR=> ?_⟩
       have eO:=g4 w0 S a w hR
       refine gf (fun FV=> ?_) (fun Mo=> ?_) aJ
       ·subst FV
        exact⟨(j9 (st:=(st.cA P Γ o).reset) JF).trans (bf rest _ _ _ (JD true rfl)),eO⟩
       ·subst Mo
        exact⟨(j9 (st:=(st.cA P Γ o).reset) JF).trans (bf rest _ _ _ (JD false rfl)),eO⟩
      ·rename_i hg
       exact plain aJ
def kQ (L:Nat→Bool) (l:List PS) (s:Nat) (v:SV):SV:=l.foldl (fun v p=>if L p.i then p.f s v else v) v
def kR (L:Nat→Bool) (l:List PS) (id:Nat) (v:Option aj):Option aj:=l.foldl (fun v p=>if L p.i then p.h id v else v) v
def PS.tF (p:PS) (s:Nat):Prop:=p.o.dst=some s
def PS.tH (p:PS) (id:Nat):Prop:=id∈p.e.ow.map (·.1)∨∃off bM,p.e.cw=some (id,off,bM)
theorem PS.Ie {p:PS} {s:Nat} (h:¬p.tF s) (v:SV):p.f s v=v:=by unfold PS.f PS.tF at*;rw[if_neg h]
theorem Fk {ow:List (Nat×Option aj)} {id:Nat} (h:id ∉ ow.map (·.1)):Gd ow id=none:=by
 induction ow with
 | nil=>rfl
 | cons x l ih=>
  obtain⟨i,ob⟩:=x
  simp only[List.map_cons,List.mem_cons,not_or] at h
  simp only[Gd]
  rw[if_neg h.1]
  exact ih h.2
theorem PS.Il {p:PS} {id:Nat} (h:¬p.tH id) (v:Option aj):p.h id v=v:=by
 unfold PS.tH at h
 simp only[not_or] at h
 unfold PS.h
 rw[Fk h.1]
 simp only
 unfold Ep
 split
 ·rename_i i off bM kT
  by_cases hi:id=i
  ·subst hi
   exact absurd ⟨off,bM,kT⟩ h.2
  ·rw[if_neg hi]
 ·rfl
theorem ff {α:Type} (step:PS→α→α) {L:Nat→Bool} :∀(l:List PS) (v:α),(∀q∈l,L q.i=false)→l.foldl (fun v q=>if L q.i then step q v else v) v=v
 | [],v,_=>rfl
 | z::l,v,h=>by
  simp only[List.foldl_cons,h z (List.mem_cons_self ..),Bool.false_eq_true,if_false]
  exact ff step l v (fun q hq=>h q (List.mem_cons_of_mem _ hq))
section Ii
variable {α:Type} (step:PS→α→α) (T:PS→Prop)
theorem fold_congr (dR:∀p v,¬T p→step p v=v) {L L':Nat→Bool} :∀(l:List PS) (v:α),(∀p∈l,T p→L p.i=L' p.i)→
  l.foldl (fun v p=>if L p.i then step p v else v) v=l.foldl (fun v p=>if L' p.i then step p v else v) v
 | [],v,_=>rfl
 | p::l,v,h=>by
  simp only[List.foldl_cons]
  have:(if L p.i then step p v else v)=if L' p.i then step p v else v:=by
   by_cases ht:T p
   ·rw[h p (List.mem_cons_self ..) ht]
   ·rw[dR p v ht]
    simp
  rw[this]
  exact fold_congr dR l _ (fun q hq=>h q (List.mem_cons_of_mem _ hq))
theorem gX (dR:∀p v,¬T p→step p v=v) {L:Nat→Bool} {q:PS} :∀(l:List PS) (v:α),q∈l→(l.map (·.i)).Nodup→L q.i=false→l.Pairwise (fun a b=>a.i<b.i)→(∀p∈l,q.i<p.i→T q→T p→L p.i=false)→
  l.foldl (fun v p=>if (L p.i || p.i==q.i) then step p v else v) v=step q (l.foldl (fun v p=>if L p.i then step p v else v) v)
 | [],v,hq,_,_,_,_=>by simp at hq
 | p::l,v,hq,hn,hL,hp,BK=>by
  simp only[List.foldl_cons]
  simp only[List.map_cons,List.nodup_cons] at hn
  rw[List.pairwise_cons] at hp
  rcases List.mem_cons.1 hq with rfl | LF
  ·simp only[hL,beq_self_eq_true,Bool.or_true,if_true,Bool.false_eq_true,if_false]
   have e1:l.foldl (fun v p=>if (L p.i || p.i==q.i) then step p v else v) (step q v)=l.foldl (fun v p=>if L p.i then step p v else v) (step q v):=by
    refine fold_congr step T dR (L:=fun k=>L k || k==q.i) (L':=L) l _ (fun r hr _=> ?_)
    have:r.i≠q.i:=fun e=>hn.1 (e ▸ List.mem_map_of_mem hr)
    simp [this]
   rw[e1]
   by_cases ht:T q
   ·have e2:∀u,l.foldl (fun v p=>if L p.i then step p v else v) u=u:=by
     intro u
     have:=fold_congr step T dR (L:=L) (L':=fun _=>false) l u (fun r hr ME=>BK r (List.mem_cons_of_mem _ hr) (hp.1 r hr) ht ME)
     rw[this]
     exact ff step (L:=fun _=>false) l u (fun _ _=>rfl)
    rw[e2,e2]
   ·rw[dR q v ht,dR q _ ht]
  ·have cJ:p.i≠q.i:=fun e=>hn.1 (e ▸ List.mem_map_of_mem LF)
   have:(if (L p.i || p.i==q.i) then step p v else v)=if L p.i then step p v else v:=by simp [cJ]
   rw[this]
   exact gX dR l _ LF hn.2 hL hp.2 (fun r hr=>BK r (List.mem_cons_of_mem _ hr))
end Ii
theorem cr:∀ {rest:List Oper} {i:Nat} {st:St} {l:List PS} {fin:St},Path P Γ ops gs rest i st l fin→l.map (·.i)=List.range' i rest.length∧l.map (·.o)=rest∧(∀p∈l,p.log.i=p.i∧p.log.d=p.o.dst):=by
 intro rest i st l fin h
 induction h with
 | nil=>exact⟨rfl,rfl,by simp⟩
 | skip o rest i st l fin hw aJ h ih=>
  refine⟨by simp [ih.1,List.range'_succ],by simp [ih.2.1],fun p hp=> ?_⟩
  rcases List.mem_cons.1 hp with rfl | hp
  ·exact⟨rfl,rfl⟩
  ·exact ih.2.2 p hp
 | op o rest i st l fin e hw aJ he hr h ih=>
  refine⟨by simp [ih.1,List.range'_succ],by simp [ih.2.1],fun p hp=> ?_⟩
  rcases List.mem_cons.1 hp with rfl | hp
  ·obtain⟨s,r,hr⟩:=hr
   simp [bH,hr]
  ·exact ih.2.2 p hp
 | JW o rest i st l fin e s g hw aJ he hr hd hg h ih=>
  refine⟨by simp [ih.1,List.range'_succ],by simp [ih.2.1],fun p hp=> ?_⟩
  rcases List.mem_cons.1 hp with rfl | hp
  ·obtain⟨s,r,hr⟩:=hr
   simp [bH,hr]
  ·exact ih.2.2 p hp
def D7 (st:St) (l:List PS) (fin:St):Prop:=
 (∀p∈l,(∀s,p.st.get s=kQ (fun k=>decide (k<p.i)) l s (st.get s))∧(∀id,p.st.obj id=kR (fun k=>decide (k<p.i)) l id (st.obj id))∧p.st.n=st.n)∧
  (∀s,fin.get s=kQ (fun _=>true) l s (st.get s))∧(∀id,fin.obj id=kR (fun _=>true) l id (st.obj id))∧fin.n=st.n
theorem i9 (p0:PS) {st Ju:St} {Jt:List Oper} {l':List PS} {G7:St} {i:Nat} (hi:p0.i=i) (ib:p0.st=st) (hf:∀s,Ju.get s=p0.f s (st.get s)) (hh:∀id,Ju.obj id=p0.h id (st.obj id)) (hn:Ju.n=st.n)
  (dE:Path P Γ ops gs Jt (i+1) Ju l' G7) (ih:D7 Ju l' G7):D7 st (p0::l') G7:=by
 have ID:=(cr dE).1
 have EI:∀p∈l',i+1≤p.i:=by
  intro p hp
  have:p.i∈l'.map (·.i):=List.mem_map_of_mem hp
  rw[ID] at this
  exact (List.mem_range'_1.1 this).1
 refine⟨fun p hp=> ?_,fun s=> ?_,fun id=> ?_,ih.2.2.2.trans hn⟩
 ·rcases List.mem_cons.1 hp with rfl | hp
  ·have none_lt:∀q∈p::l',decide (q.i<p.i)=false:=by
    intro q hq
    rcases List.mem_cons.1 hq with rfl | hq
    ·simp
    ·have:=EI q hq
     simp
     omega
   refine⟨fun s=> ?_,fun id=> ?_,by rw[ib]⟩
   ·have:=ff (fun q v=>PS.f q s v) (L:=fun k=>decide (k<p.i)) (p::l') (st.get s) none_lt
    rw[ib]
    exact this.symm
   ·have:=ff (fun q v=>PS.h q id v) (L:=fun k=>decide (k<p.i)) (p::l') (st.obj id) none_lt
    rw[ib]
    exact this.symm
  ·have h0:=EI p hp
   have cn:decide (p0.i<p.i)=true:=by simp;omega
   obtain⟨g1,g2,g3⟩:=ih.1 p hp
   refine⟨fun s=> ?_,fun id=> ?_,g3.trans hn⟩
   ·rw[g1 s,hf s]
    unfold kQ
    simp only[List.foldl_cons,cn,if_true]
   ·rw[g2 id,hh id]
    unfold kR
    simp only[List.foldl_cons,cn,if_true]
 ·rw[ih.2.1 s,hf s]
  unfold kQ
  simp only[List.foldl_cons,if_true]
 ·rw[ih.2.2.1 id,hh id]
  unfold kR
  simp only[List.foldl_cons,if_true]
theorem Fc {st:St} {o:Oper} {e:cL} {s:Nat} {g:Bool} (hd:o.dst=some s) (p:PS) (hp:p.o=o) (KU:p.e= {e with sv:= .kb g}) (k:Nat):(((st.apply o.dst e).reset).fN s g).get k=p.f k (st.get k):=by
 rw[mr]
 have e1:(st.apply o.dst e).reset.get=(st.apply o.dst e).get:=rfl
 rw[e1,hd,apply_get]
 unfold PS.f
 rw[hp,hd,KU]
 simp only[aA,Option.some.injEq]
 by_cases hk:k=s
 ·simp [hk]
 ·rw[if_neg hk,if_neg hk,if_neg (fun h:s=k=>hk h.symm)]
theorem Fe {st:St} {o:Oper} {e:cL} {s:Nat} {g:Bool} (p:PS) (hp:p.o=o) (KU:p.e= {e with sv:= .kb g}) (id:Nat):(((st.apply o.dst e).reset).fN s g).obj id=p.h id (st.obj id):=by
 have e1:(((st.apply o.dst e).reset).fN s g).obj id=(st.apply p.o.dst p.e).obj id:=by
  rw[fb,KU]
  show (st.apply o.dst e).obj id=_
  rw[fb]
 rw[e1]
 exact ju st p id
theorem lb {rest:List Oper} {i:Nat} {st:St} {l:List PS} {fin:St} (h:Path P Γ ops gs rest i st l fin):D7 st l fin:=by
 induction h with
 | nil=>exact⟨by simp,fun _=>rfl,fun _=>rfl,rfl⟩
 | skip o rest i st l fin hw aJ h ih=>
  exact i9 ⟨i,o,false,st, {sv:= .undef},iP ops i o⟩ rfl rfl (fun s=>lF st ⟨i,o,false,st, {sv:= .undef},iP ops i o⟩ s) (fun id=>ju st ⟨i,o,false,st, {sv:= .undef},iP ops i o⟩ id) rfl h ih
 | op o rest i st l fin e hw aJ he hr h ih=>
  refine i9 ⟨i,o,true,st,e,bH P Γ ops i st o⟩ rfl rfl (fun s=> ?_) (fun id=> ?_) ?_ h ih
  ·rw[he];exact lF st ⟨i,o,true,st,e,bH P Γ ops i st o⟩ s
  ·rw[he];exact ju st ⟨i,o,true,st,e,bH P Γ ops i st o⟩ id
  ·rw[he];rfl
 | JW o rest i st l fin e s g hw aJ he hr hd hg h ih=>
  refine i9 ⟨i,o,true,st, {e with sv:= .kb g},bH P Γ ops i st o⟩ rfl rfl (fun s=> ?_) (fun id=> ?_) ?_ h ih
  ·rw[he];exact Fc hd ⟨i,o,true,st, {e with sv:= .kb g},bH P Γ ops i st o⟩ rfl rfl s
  ·rw[he];exact Fe ⟨i,o,true,st, {e with sv:= .kb g},bH P Γ ops i st o⟩ rfl rfl id
  ·rw[he];rfl
def i7 (P:Program) (Γ:Ctx) (ops:Array Oper) (p:PS):Prop:=
 (fy ops p.st p.o=some false∧p.e= {sv:= .undef} ∧(p.st.skip p.o.dst).ok=true∧p.log=iP ops p.i p.o)∨
 (fy ops p.st p.o=some true∧∃e s r,(evalOp P Γ p.o).run p.st.get p.st.obj=some (e,s,r)∧(p.st.apply p.o.dst e).ok=true∧p.log=bH P Γ ops p.i p.st p.o∧
  (p.e=e∨∃d g,p.o.dst=some d∧e.sv= .bool g∧p.e= {e with sv:= .kb g}))
theorem CO {rest:List Oper} {i:Nat} {st:St} {l:List PS} {fin:St} (h:Path P Γ ops gs rest i st l fin):∀p∈l,i7 P Γ ops p:=by
 induction h with
 | nil=>simp
 | skip o rest i st l fin hw aJ h ih=>
  intro p hp
  rcases List.mem_cons.1 hp with rfl | hp
  ·exact .inl ⟨hw,rfl,aJ,rfl⟩
  ·exact ih p hp
 | op o rest i st l fin e hw aJ he hr h ih=>
  intro p hp
  rcases List.mem_cons.1 hp with rfl | hp
  ·obtain⟨s,r,hr⟩:=hr
   exact .inr ⟨hw,e,s,r,hr,by rw[←he];exact aJ,rfl,.inl rfl⟩
  ·exact ih p hp
 | JW o rest i st l fin e s g hw aJ he hr hd hg h ih=>
  intro p hp
  rcases List.mem_cons.1 hp with rfl | hp
  ·obtain⟨s',r,hr⟩:=hr
   exact .inr ⟨hw,e,s',r,hr,by rw[←he];exact aJ,rfl,.inr ⟨s,g,hd,hg,rfl⟩⟩
  ·exact ih p hp
end
end Go.Proofs.YtngbcccnjiaddaaGreat.Vm
