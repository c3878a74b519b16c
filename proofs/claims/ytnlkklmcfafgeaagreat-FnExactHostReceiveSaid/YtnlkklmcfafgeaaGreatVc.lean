/- The value machine: calls, every operation, regions in every order. Conditions: as each lemma says. -/
import Derived.Test.YtnlkklmcfafgeaaGreatVb
import Derived.ArgAppend
set_option linter.unusedVariables false
set_option linter.unusedSimpArgs false
namespace Go.Proofs.YtnlkklmcfafgeaaGreat.Vm
section
variable {P:Program} {Γ:Ctx} {w0:World} {S:Own} {st:St} {o:Oper} {e:cS} {a:Act} {w w':World}
variable {f:Nat→SV} {h:Nat→Option ao} {β:Env} {φ:Nat→List Nat} {tm:Array Value}
theorem Bf (hR:Rel w0 S st a w) (hd:∀d,o.dst=some d→bn st.n d) {t:TypeId} {x:Operand} {lo hi:Option Operand} (ho:o.op= .slice t x lo hi none) {sx:SV} {DX DW:Option SV}
  (h1:(cm x).val st.get st.obj=some sx) (h2:(kl lo).val st.get st.obj=some DX) (h3:(kl hi).val st.get st.obj=some DW)
  (he:(CY P t sx DX DW).val st.get st.obj=some e) (aP:e.ok=true):Good P w0 S st o e a w:=by
 unfold CY at he
 split at he
 ·rename_i et id k l hu
  simp only[M.a8,af] at he
  obtain⟨ob,aS,he⟩:=he
  split at he
  ·rename_i t' ct r fz u
   cases hz:Nat.beq t' et && bb P et ct.length
   ·simp [hz] at he
   simp only[hz,aj,M.ab,aa] at he
   subst he
   simp only[aw] at hz
   simp only[aw,eX] at aP
   obtain⟨i,dY,dF⟩:=ba hz.2
   refine au hR hd rfl rfl fun β φ hc=> ?_
   have hx:=hc.ev h1
   simp only[aq] at hx
   obtain⟨vals,aE,bd,_⟩:=hc.aC id _ aS
   rcases bd.2 with ⟨_,h0,_⟩ | ⟨g,cap,cur,hv,hg,AZ,D3,fI,E8⟩
   ·omega
   have hb:=jr (P:=P) (isS:=true) (n:=r.length) (cap:=cap) (l:=l.toNat) (m:=r.length) (c:=decide (0≤l) && decide (l≤(r.length:Int))) AZ hc h2 h3 rfl (by simp only[aw,eX];exact aP.1)
   refine⟨.slice (some ⟨g,if l.toNat<cap then l.toNat*ct.length else 0,none⟩) (r.length - l.toNat) (cap - l.toNat), ?_, ?_⟩
   ·have bA:(execOp a.eval o).run P w= .ok (.value (.slice (if cap=l.toNat then some ⟨g,0,none⟩ else (some (⟨g,0,none⟩:Addr)).map (·.add (l.toNat*i.size))) (r.length - l.toNat) (cap - l.toNat))) w:=by
     simp [execOp,ho,hx.1,hv,Instr.sliceAt,Instr.slice,run_underlying hu,hb,sizeOf,typeInfo,dY]
    rw[bA]
    by_cases cz:l.toNat<cap
    ·rw[if_neg (by omega),if_pos cz,dF]
     simp [dw]
    ·rw[if_pos (by omega),if_neg cz]
   ·simp only[aq]
    exact⟨g,r.length,cap,hv,by omega,rfl⟩
  ·simp at he
 ·simp at he
theorem dS.take {ct:List CT} {rows:List (List DC)} {vals:List Value} {aE:List (List Nat)} (di:dS w ct rows vals aE) (k:Nat):dS w ct (rows.take k) (vals.take (k*ct.length)) (aE.take k):=by
 refine⟨by simp [di.1],fun i r f hi hf=> ?_⟩
 rw[List.getElem?_take] at hi hf
 split at hi
 ·rename_i D4
  rw[if_pos D4] at hf
  refine bt.bf.jo (fun j u hj hu=> ?_) (di.2 i r f hi hf)
  rw[List.getElem?_take,if_pos]
  ·exact hu
  ·have:(i+1)*ct.length≤k*ct.length:=Nat.mul_le_mul_right _ D4
   rw[Nat.succ_mul] at this
   omega
 ·cases hi
theorem dS.drop {ct:List CT} {rows:List (List DC)} {vals:List Value} {aE:List (List Nat)} (di:dS w ct rows vals aE) (k:Nat):dS w ct (rows.drop k) (vals.drop (k*ct.length)) (aE.drop k):=by
 refine⟨by simp [di.1],fun i r f hi hf=> ?_⟩
 rw[List.getElem?_drop] at hi hf
 refine bt.bf.jo (fun j u hj hu=> ?_) (di.2 (k+i) r f hi hf)
 rw[List.getElem?_drop,←hu]
 congr 1
 rw[Nat.add_mul]
 omega
theorem C1 (hR:Rel w0 S st a w) (hd:∀d,o.dst=some d→bn st.n d) {t t2:TypeId} {x y:Operand} {c:Call} (ho:o.op= .call c) (hb:c.callee= .builtin .copy) (cD:c.args= #[x,y]) (FX:c.argTypes= #[t,t2]) {sx sy:SV}
  (h1:(cm x).val st.get st.obj=some sx) (h2:(cm y).val st.get st.obj=some sy) (he:(Ep P t sx sy).val st.get st.obj=some e) (aP:e.ok=true):Good P w0 S st o e a w:=by
 unfold Ep at he
 split at he
 ·rename_i et id lo z s hu
  simp only[M.a8,af] at he
  obtain⟨ob,aS,he⟩:=he
  split at he
  ·rename_i t' ct r fz u
   cases hz:Nat.beq t' et && bb P et 1 && Nat.beq z 1 && aL ct [.int .u8]
   ·simp [hz] at he
   simp only[hz,aj,M.ab,aa] at he
   subst he
   simp only[aw] at hz
   have BG:=aR _ _ hz.2
   subst BG
   have mY:=aM hz.1.2
   subst mY
   obtain⟨i,hi,bD⟩:=ba hz.1.1.2
   have KB:lo≤r.length:=by simpa using aP
   obtain⟨β,φ,hc⟩:=hR.core
   have E4:=hc.ev h1
   simp only[aq] at E4
   obtain⟨g,n,cap,hval,M3,BO⟩:=E4
   have hy:=hc.ev h2
   simp only[aq] at hy
   obtain⟨vals,aE,bd,di,Ht,kA⟩:=hc.aC id _ aS
   have FY:g∈ar β id (.row t' [.int .u8] r fz u):=by simp [ar,hval,Value.ownBlock]
   rcases bd.2 with ⟨JW,_,_⟩ | ⟨g',Ie,cur,hv',hg,AZ,D3,fI,E8⟩
   ·rw[hval] at JW;cases JW
   rw[hval] at hv'
   injection hv' with e1 e2 e3
   injection e1 with e1
   injection e1 with e1
   subst e1 e2 e3
   have Cx:=ak (hc.aC id _ aS) g FY
   have LF:=(hc.fresh id _ aS).2 g Cx
   have A4:=bd.1
   simp only[dx,List.length_nil,Nat.zero_add,Nat.mul_one] at A4 fI E8 BO
   have BH:ax [CT.int .u8]=true:=rfl
   let us:List Value:=(s.take (r.length - lo)).map fun b=>Value.int .u8 b.toNat
   have Dk:us.length=min s.length (r.length - lo):=by simp [us,Nat.min_comm]
   have bk:∀v∈us,v.oneCell'=true:=by
    intro v hv
    simp only[us,List.mem_map] at hv
    obtain⟨b,_,rfl⟩:=hv
    rfl
   have EL:∀j,j<cur.size→¬((bif fz then (cur.size,cur.size+1) else ((0,0):Nat×Nat)).1≤j∧j<(bif fz then (cur.size,cur.size+1) else ((0,0):Nat×Nat)).2):=by
    intro j hj
    cases fz<;>simp<;>omega
   have HF:us=[]∨(if lo<cap then lo else 0)=lo:=by
    rcases Nat.lt_or_ge lo cap with h3 | h3
    ·exact .inr (if_pos h3)
    ·refine .inl ?_
     have:us.length=0:=by rw[Dk];omega
     exact List.eq_nil_of_length_eq_zero this
   have HK:(storeCells ⟨g,if lo<cap then lo else 0,none⟩ us 0).run P w= .ok () (w.setRow g (cur.toList.take lo++(us++cur.toList.drop (lo+us.length))).toArray):=by
    rcases HF with h3 | h3
    ·rw[h3]
     simp only[storeCells,List.nil_append,List.length_nil,Nat.add_zero,List.take_append_drop,Array.toArray_toList]
     rw[setRow_self w g cur t' _ hg]
     rfl
    ·rw[h3]
     have:=bV P g lo t' _ us 0 cur w hg EL (by rw[Dk,fI];omega) bk
     simpa only[Nat.add_zero] using this
   have mj:(Builtin.firstCells i.size (Nat.min s.length (r.length - lo)) (.string ⟨s.toArray⟩)).run P w= .ok us.toArray w:=by
    have:((⟨s.toArray⟩:ByteArray).extract 0 (Nat.min s.length (r.length - lo))).data.map (fun b=>Value.int .u8 b.toNat)=us.toArray:=by
     rw[iz]
     have e5:s.take (Nat.min s.length (r.length - lo))=s.take (r.length - lo):=by
      rcases Nat.le_total s.length (r.length - lo) with h3 | h3
      ·rw[show Nat.min s.length (r.length - lo)=s.length from Nat.min_eq_left h3,List.take_length,List.take_of_length_le h3]
      ·rw[show Nat.min s.length (r.length - lo)=r.length - lo from Nat.min_eq_right h3]
     simp [us,e5]
    simp only[Builtin.firstCells,Sem.run_pure,this]
   have mn:(cur.toList.take lo++(us++cur.toList.drop (lo+us.length))).length=cur.size:=by
    simp only[fv,List.length_take,List.length_drop,Array.length_toList]
    omega
   have eP:(r.take lo++(((s.take (r.length - lo)).map cY)++r.drop (lo+min s.length (r.length - lo)))).length=r.length:=by
    simp only[fv,List.length_take,List.length_drop,List.length_map]
    omega
   have Kw:dS w [.int .u8] ((s.take (r.length - lo)).map cY) us (List.replicate us.length []):=by
    refine⟨by simp [us],fun k r' f' hk hf=> ?_⟩
    have FI:k<(s.take (r.length - lo)).length:=by
     have:=(List.getElem?_eq_some_iff.1 hk).1
     simpa using this
    have E3:r'=cY (s.take (r.length - lo))[k]:=by
     rw[List.getElem?_map,List.getElem?_eq_getElem FI] at hk
     simpa using hk.symm
    have Bo:f'=[]:=by
     have:=List.mem_of_getElem? hf
     exact (List.mem_replicate.1 this).2
    subst E3 Bo
    unfold cY
    simp only[bf,cd]
    refine⟨.int (s.take (r.length - lo))[k].toNat,[],.int .u8 (s.take (r.length - lo))[k].toNat,[],[],rfl, ?_,⟨_,rfl,rfl, ?_,rfl⟩,⟨rfl,rfl⟩,rfl⟩
    ·simp only[us,dx,List.length_nil,Nat.zero_add,Nat.mul_one,Nat.add_zero]
     rw[List.getElem?_map,List.getElem?_eq_getElem FI]
     rfl
    ·rw[eG]
     have h1:IntKind.u8.min=0:=by decide
     have h2:IntKind.u8.max=255:=by decide
     have:=(s.take (r.length - lo))[k].toNat_lt
     omega
   have mo:dS w [.int .u8] (r.take lo++(((s.take (r.length - lo)).map cY)++r.drop (lo+min s.length (r.length - lo)))) (vals.take lo++(us++vals.drop (lo+us.length))) (aE.take lo++(List.replicate us.length []++aE.drop (lo+us.length))):=by
    have a1:=di.take lo
    have a2:=di.drop (lo+us.length)
    simp only[dx,List.length_nil,Nat.zero_add,Nat.mul_one] at a1 a2
    rw[←Dk]
    refine a1.append ?_ (Kw.append ?_ a2)
    ·simp only[dx,List.length_nil,Nat.zero_add,Nat.mul_one,List.length_take,A4]
    ·simp [us]
   have Ho:=mo.flat BH
   have HL:φ id=[g]:=by
    rw[kA,di.flat BH,hval]
    cases u<;>simp [Value.ownBlock]
   refine cg hR hd (v:= .int .i64 (min s.length (r.length - lo):Nat)) (w':=w.setRow g (cur.toList.take lo++(us++cur.toList.drop (lo+us.length))).toArray) ?_ (hR.kept.setRow LF.1 _)
    ⟨β,aD φ id [g], ?_, ?_⟩
   ·have Bs:Nat.min s.length (r.length - lo)=min s.length (r.length - lo):=rfl
    simp [execOp,ho,resolve,hb,cD,FX,invoke,builtin,Builtin.copy_,run_underlying hu,BO,hy.1,Builtin.lenOf,sizeOf,typeInfo,hi,dD,mj,HK,goInt]
   ·show Core w0 S st.get (aD st.obj id (some (.row t' [.int .u8] (r.take lo++(((s.take (r.length - lo)).map cY)++r.drop (lo+min s.length (r.length - lo)))) fz u))) _ _ _ _
    refine hc.rewrite aS FY (fun b aB=>aB) ?_ (by simp) ?_
    ·refine⟨vals.take lo++(us++vals.drop (lo+us.length)),aE.take lo++(List.replicate us.length []++aE.drop (lo+us.length)),⟨?_,.inr ⟨g,cap,(cur.toList.take lo++(us++cur.toList.drop (lo+us.length))).toArray,by rw[eP];exact hval, ?_,by rw[eP];exact AZ,D3, ?_, ?_⟩⟩, ?_, ?_, ?_⟩
     ·rw[eP]
      simp only[dx,List.length_nil,Nat.zero_add,Nat.mul_one,fv,List.length_take,List.length_drop,A4]
      omega
     ·rw[setRow_heap w _ _ _ _ _ hg]
      simp only[List.size_toArray,mn]
     ·simp only[List.size_toArray,mn,dx,List.length_nil,Nat.zero_add,Nat.mul_one]
      exact fI
     ·rw[eP]
      simp only[dx,List.length_nil,Nat.zero_add,Nat.mul_one]
      rw[iA _ _ _ _ (by omega) (by simp only[Array.length_toList];omega),E8]
     ·exact mo.mono (by simp) (fun b aB=>by rw[Ho] at aB;simp at aB)
     ·rw[Ho];simp
     ·rw[Ho,hval]
      cases u<;>simp [Value.ownBlock]
    ·intro b aB
     have Mg:b=g:=by simpa using aB
     subst Mg
     exact⟨LF,fun j oj hj je=>hc.sep id j _ _ (Ne.symm hj) aS je b Cx⟩
   ·unfold aq
    refine⟨rfl, ?_⟩
    rw[eG]
    have h1:IntKind.i64.min= -9223372036854775808:=by decide
    have h2:IntKind.i64.max=9223372036854775807:=by decide
    have:=hy.2
    simp only[maxLen] at this
    omega
  ·simp at he
 ·simp at he
end
end Go.Proofs.YtnlkklmcfafgeaaGreat.Vm
set_option linter.unusedVariables false
set_option linter.unusedSimpArgs false
namespace Go.Proofs.YtnlkklmcfafgeaaGreat.Vm
theorem dy (c:CT):(∃e,c= .sl e)∨ax [c]=true:=by
 cases c with
 | sl e=>exact .inl ⟨e,rfl⟩
 | _=>exact .inr rfl
theorem fy {c:CT} {cs:List CT} :ax (c::cs)=(ax [c] && ax cs):=by
 cases c<;>rfl
theorem d7 {c:CT} {cs:List CT} (hc:ax [c]=true):aJ (c::cs)=aJ cs:=by
 cases c with
 | sl e=>simp [ax] at hc
 | _=>rfl
theorem d8:∀ {cs:List CT},aJ cs=0→ax cs=true
 | [],_=>rfl
 | c::cs,h=>by
  rcases dy c with ⟨e,rfl⟩ | hc
  ·simp [aJ] at h
  ·rw[d7 hc] at h
   rw[fy,hc,d8 h]
   rfl
theorem d6:∀(a b:List CT),aJ (a++b)=aJ a+aJ b
 | [],b=>by simp [aJ]
 | c::cs,b=>by
  rcases dy c with ⟨e,rfl⟩ | hc
  ·simp only[List.cons_append,aJ,d6 cs b];omega
  ·rw[List.cons_append,d7 hc,d7 hc,d6 cs b]
theorem flat_get:∀ {cs:List CT} {k:Nat} {e:List CT},ax cs=true→cs[k]? =some (.sl e)→False
 | [],k,e,_,h=>by simp at h
 | c::cs,k,e,hf,h=>by
  rw[fy,aw] at hf
  cases k with
  | zero=>
   simp only[List.getElem?_cons_zero,aa] at h
   subst h
   simp [ax] at hf
  | succ k=>exact flat_get hf.2 (by simpa using h)
section
variable {w:World}
theorem ae.length {hv:Option Value} :∀(cs:List CT) (ts:List TypeId) (ds:List DC) (us:List Value) (mb:List Nat),ae w hv cs ts ds us mb→us.length=cs.length∧ds.length=cs.length
 | [],_,_,_,_,h=>by
  simp only[ae] at h
  obtain⟨_,rfl,rfl,_⟩:=h
  exact⟨rfl,rfl⟩
 | c::cs,_,_,_,_,h=>by
  rcases dy c with ⟨e,rfl⟩ | hc
  ·simp only[ae] at h
   obtain⟨t,ea,rows,bc,v,aW,m1,gw,rfl,rfl,rfl,_,_,h6,rfl⟩:=h
   have:=ae.length cs _ _ _ _ h6
   simp [this.1,this.2]
  ·rw[ae.flat hc] at h
   obtain⟨d,bc,v,aW,rfl,rfl,_,h4⟩:=h
   have:=ae.length cs _ _ _ _ h4
   simp [this.1,this.2]
theorem ae.lt {hv:Option Value} :∀(cs:List CT) (ts:List TypeId) (ds:List DC) (us:List Value) (mb:List Nat),ae w hv cs ts ds us mb→∀b∈mb,b<w.heap.size
 | [],_,_,_,_,h=>by
  simp only[ae] at h
  simp [h.2.2.2]
 | c::cs,_,_,_,_,h=>by
  rcases dy c with ⟨e,rfl⟩ | hc
  ·simp only[ae] at h
   obtain⟨t,ea,rows,bc,v,aW,m1,gw,rfl,rfl,rfl,_,h5,h6,rfl⟩:=h
   intro b hb
   rcases List.mem_append.1 hb with hb | hb
   ·cases hv with
    | none=>
     obtain⟨vals,aE,g1,_,rfl⟩:=h5
     exact g1.lt b hb
    | some v0=>
     rw[h5.2.2] at hb
     simp at hb
   ·exact ae.lt cs _ _ _ _ h6 b hb
  ·rw[ae.flat hc] at h
   obtain⟨d,bc,v,aW,rfl,rfl,_,h4⟩:=h
   exact ae.lt cs _ _ _ _ h4
theorem bQ.lt {e:List CT} {ts:List TypeId} {rows:List (List DC)} {vals:List Value} {hv:Nat→Option Value} {a7:List (List Nat)} (h:bQ w e ts rows vals hv a7):∀b∈a7.flatten,b<w.heap.size:=by
 intro b hb
 obtain⟨m,hm,hb⟩:=List.mem_flatten.1 hb
 obtain⟨i,hi,rfl⟩:=List.getElem_of_mem hm
 have dY:i<rows.length:=by have:=h.1;omega
 exact ae.lt _ _ _ _ _ (h.2 i rows[i] a7[i] (by simp) (by simp)) b hb
theorem ae.split {hv:Option Value} :∀(AM lr:List CT) (ts:List TypeId) (ds:List DC) (us:List Value) (mb:List Nat),ae w hv (AM++lr) ts ds us mb→
  ∃Gq HZ m1 m2,ts=Gq++HZ∧mb=m1++m2∧ae w hv AM Gq (ds.take AM.length) (us.take AM.length) m1∧ae w hv lr HZ (ds.drop AM.length) (us.drop AM.length) m2
 | [],lr,ts,ds,us,mb,h=>⟨[],ts,[],mb,rfl,rfl,by simp [ae],by simpa using h⟩
 | c::cs,lr,_,_,_,_,h=>by
  rw[List.cons_append] at h
  rcases dy c with ⟨e,rfl⟩ | hc
  ·simp only[ae] at h
   obtain⟨t,ea,rows,bc,v,aW,m1,gw,rfl,rfl,rfl,h4,h5,h6,rfl⟩:=h
   obtain⟨a1,a2,b1,b2,rfl,rfl,k1,k2⟩:=ae.split cs lr _ _ _ _ h6
   refine⟨t::a1,a2,m1++b1,b2,rfl,by simp, ?_,by simpa using k2⟩
   simp only[ae,dx,List.take_succ_cons]
   exact⟨t,a1,rows,_,v,_,m1,b1,rfl,rfl,rfl,h4,h5,k1,rfl⟩
  ·rw[ae.flat hc] at h
   obtain⟨d,bc,v,aW,rfl,rfl,h3,h4⟩:=h
   obtain⟨a1,a2,b1,b2,rfl,rfl,k1,k2⟩:=ae.split cs lr _ _ _ _ h4
   refine⟨a1,a2,b1,b2,rfl,rfl, ?_,by simpa using k2⟩
   rw[ae.flat hc]
   simp only[dx,List.take_succ_cons]
   exact⟨d,_,v,_,rfl,rfl,h3,k1⟩
theorem ae.join {hv:Option Value} :∀(AM lr:List CT) (Gq HZ:List TypeId) (d1 d2:List DC) (u1 u2:List Value) (m1 m2:List Nat),ae w hv AM Gq d1 u1 m1→ae w hv lr HZ d2 u2 m2→
  ae w hv (AM++lr) (Gq++HZ) (d1++d2) (u1++u2) (m1++m2)
 | [],lr,_,_,_,_,_,_,_,_,h,h2=>by
  simp only[ae] at h
  obtain⟨rfl,rfl,rfl,rfl⟩:=h
  simpa using h2
 | c::cs,lr,_,_,_,_,_,_,_,_,h,h2=>by
  rcases dy c with ⟨e,rfl⟩ | hc
  ·simp only[ae] at h
   obtain⟨t,ea,rows,bc,v,aW,m1,gw,rfl,rfl,rfl,h4,h5,h6,rfl⟩:=h
   simp only[List.cons_append,ae]
   exact⟨t,_,rows,_,v,_,m1,_,rfl,rfl,rfl,h4,h5,ae.join cs lr _ _ _ _ _ _ _ _ h6 h2,by simp⟩
  ·rw[ae.flat hc] at h
   obtain⟨d,bc,v,aW,rfl,rfl,h3,h4⟩:=h
   simp only[List.cons_append]
   rw[ae.flat hc]
   exact⟨d,_,v,_,rfl,rfl,h3,ae.join cs lr _ _ _ _ _ _ _ _ h4 h2⟩
theorem ae.CN {hv:Option Value} :∀(cs:List CT) (ds:List DC) (us:List Value) (fp:List Nat),ax cs=true→bf w cs ds (fun j=>us[j]?) fp→us.length=cs.length→ae w hv cs [] ds us []
 | [],ds,us,fp,_,h,hl=>by
  simp only[bf] at h
  simp only[ae]
  exact⟨trivial,h.1,by simpa using hl,trivial⟩
 | c::cs,ds,us,fp,hf,h,hl=>by
  rw[fy,aw] at hf
  simp only[bf] at h
  obtain⟨d,r',v,f1,f2,rfl,h0,h1,h2,rfl⟩:=h
  cases us with
  | nil=>simp at hl
  | cons u us=>
   simp only[List.getElem?_cons_zero,aa] at h0
   subst h0
   rw[ae.flat hf.1]
   refine⟨d,r',u,us,rfl,rfl, ?_,ae.CN cs r' us f2 hf.2 (by simpa using h2) (by simpa using hl)⟩
   have hz:f1=[]:=dS.ma [c] [d] (fun _=>some u) f1 hf.1 (by simp only[bf];exact⟨d,[],u,f1,[],rfl,rfl,h1,by simp,by simp⟩)
   subst hz
   exact h1
theorem ae.toFlat {hv:Option Value} :∀(cs:List CT) (ts:List TypeId) (ds:List DC) (us:List Value) (mb:List Nat),ax cs=true→ae w hv cs ts ds us mb→ts=[]∧mb=[]∧bf w cs ds (fun j=>us[j]?) []
 | [],_,_,_,_,_,h=>by
  simp only[ae] at h
  obtain⟨rfl,rfl,rfl,rfl⟩:=h
  exact⟨rfl,rfl,by simp [bf]⟩
 | c::cs,_,_,_,_,hf,h=>by
  rw[fy,aw] at hf
  rw[ae.flat hf.1] at h
  obtain⟨d,bc,v,aW,rfl,rfl,h3,h4⟩:=h
  obtain⟨k1,k2,k3⟩:=ae.toFlat cs _ _ _ _ hf.2 h4
  refine⟨k1,k2, ?_⟩
  simp only[bf]
  exact⟨d,bc,v,[],[],rfl,rfl,h3,by simpa using k3,rfl⟩
theorem ae.Bb {hv hv':Option Value} {cs:List CT} {ts:List TypeId} {ds:List DC} {us:List Value} {mb:List Nat} (hf:ax cs=true) (h:ae w hv cs ts ds us mb):ae w hv' cs ts ds us mb:=by
 obtain⟨rfl,rfl,k3⟩:=ae.toFlat _ _ _ _ _ hf h
 exact ae.CN _ _ _ _ hf k3 (ae.length _ _ _ _ _ h).1
theorem ae.out:∀(e:List CT) (off:Nat) (e':List CT) (ts:List TypeId) (r:List DC) (us:List Value) (m:List Nat),e[off]? =some (.sl e')→aJ e=1→ae w none e ts r us m→
  ∃t1 v rws,ts=[t1]∧us[off]? =some v∧r[off]? =some (.sl rws)∧ax e'=true∧J2 w none t1 e' rws v m∧ae w (some v) e [t1] r us []
 | [],_,_,_,_,_,_,h,_,_=>by simp at h
 | c::cs,off,e',_,_,_,_,h,hn,hc=>by
  rcases dy c with ⟨e,rfl⟩ | hf
  ·simp only[aJ] at hn
   have eF:ax cs=true:=d8 (by omega)
   cases off with
   | zero=>
    simp only[List.getElem?_cons_zero,aa,CT.sl.injEq] at h
    subst h
    simp only[ae] at hc
    obtain⟨t,ea,rows,bc,v,aW,m1,gw,rfl,rfl,rfl,h4,h5,h6,rfl⟩:=hc
    obtain⟨rfl,rfl,_⟩:=ae.toFlat _ _ _ _ _ eF h6
    have bk:v.oneCell'=true:=by
     obtain⟨vals,aE,g1,_⟩:=h5
     exact g1.one
    refine⟨t,v,rows,rfl,rfl,rfl,h4,by simpa using h5, ?_⟩
    simp only[ae]
    exact⟨t,[],rows,bc,v,aW,[],[],rfl,rfl,rfl,h4,⟨rfl,bk,rfl⟩,ae.Bb eF h6,rfl⟩
   | succ k=>exact (flat_get eF (by simpa using h)).elim
  ·cases off with
   | zero=>
    simp only[List.getElem?_cons_zero,aa] at h
    subst h
    simp [ax] at hf
   | succ k=>
    rw[ae.flat hf] at hc
    obtain⟨d,bc,v,aW,rfl,rfl,h3,h4⟩:=hc
    rw[d7 hf] at hn
    obtain⟨t1,v1,rws,rfl,k1,k2,k3,k4,k5⟩:=ae.out cs k e' _ _ _ _ (by simpa using h) hn h4
    refine⟨t1,v1,rws,rfl,by simpa using k1,by simpa using k2,k3,k4, ?_⟩
    rw[ae.flat hf]
    exact⟨d,bc,v,aW,rfl,rfl,h3,k5⟩
theorem CV {c:CT} {cs:List CT} (hc:ax [c]=true):ek (c::cs)=ek cs+1:=by
 cases c with
 | sl e=>simp [ax] at hc
 | _=>rfl
theorem ae.back {v:Value} {rws:List (List DC)} {m1:List Nat} :∀(e:List CT) (e':List CT) (t1:TypeId) (r:List DC) (us:List Value) (m:List Nat),e[ek e]? =some (.sl e')→aJ e=1→ae w (some v) e [t1] r us m→
  J2 w none t1 e' rws v m1→ae w none e [t1] (bX r (ek e) [.sl rws]) us m1
 | [],_,_,_,_,_,h,_,_,_=>by simp [ek] at h
 | c::cs,e',t1,_,_,_,h,hn,hc,hs=>by
  rcases dy c with ⟨e,rfl⟩ | hf
  ·simp only[aJ] at hn
   have eF:ax cs=true:=d8 (by omega)
   simp only[ek,List.getElem?_cons_zero,aa,CT.sl.injEq] at h
   subst h
   simp only[ae] at hc
   obtain⟨t,ea,rows,bc,v',aW,M6,gw,h1,rfl,rfl,h4,⟨rfl,bk,rfl⟩,h6,rfl⟩:=hc
   simp only[List.cons.injEq] at h1
   obtain⟨rfl,rfl⟩:=h1
   obtain⟨_,rfl,_⟩:=ae.toFlat _ _ _ _ _ eF h6
   simp only[ek,bX,ae]
   exact⟨t1,[],rws,bc,v',aW,m1,[],rfl,by simp,rfl,h4,hs,ae.Bb eF h6,by simp⟩
  ·rw[CV hf] at h ⊢
   rw[ae.flat hf] at hc ⊢
   obtain⟨d,bc,v',aW,rfl,rfl,h3,h4⟩:=hc
   rw[d7 hf] at hn
   refine⟨d,bX bc (ek cs) [.sl rws],v',aW, ?_,rfl,h3,ae.back cs e' t1 _ _ _ (by simpa using h) hn h4 hs⟩
   have e1:ek cs+1+([DC.sl rws]:List DC).length=(ek cs+([DC.sl rws]:List DC).length)+1:=by omega
   simp only[bX,e1,List.take_succ_cons,List.drop_succ_cons,List.cons_append]
theorem AV {α:Type} (l nu:List α) (p j:Nat) (h:p+nu.length≤l.length):(l.take p++(nu++l.drop (p+nu.length)))[j]? =if j<p then l[j]? else if j<p+nu.length then nu[j - p]? else l[j]? :=by
 have ht:(l.take p).length=p:=by simp;omega
 split
 ·rename_i hj
  rw[List.getElem?_append_left (by omega),List.getElem?_take,if_pos hj]
 ·rename_i hj
  rw[List.getElem?_append_right (by omega),ht]
  split
  ·rw[List.getElem?_append_left (by omega)]
  ·rw[List.getElem?_append_right (by omega),List.getElem?_drop]
   congr 1
   omega
theorem Fy {α:Type} (vals nu:List α) (i off el:Nat) (mr:off+nu.length≤el) (hl:i*el+el≤vals.length):
  ((vals.take (i*el+off)++(nu++vals.drop (i*el+off+nu.length))).drop (i*el)).take el=((vals.drop (i*el)).take el).take off++(nu++((vals.drop (i*el)).take el).drop (off+nu.length)):=by
 apply List.ext_getElem?
 intro j
 rw[AV _ _ _ _ (by simp;omega),List.getElem?_take,List.getElem?_drop,AV _ _ _ _ (by omega)]
 simp only[List.getElem?_take,List.getElem?_drop]
 by_cases hj:j<el
 ·rw[if_pos hj,if_pos hj]
  by_cases h1:j<off
  ·rw[if_pos (by omega),if_pos h1]
  ·rw[if_neg (by omega),if_neg h1]
   by_cases h2:j<off+nu.length
   ·rw[if_pos (by omega),if_pos h2]
    congr 1
    omega
   ·rw[if_neg (by omega),if_neg h2]
 ·rw[if_neg hj,if_neg hj,if_neg (by omega),if_neg (by omega)]
theorem DV {α:Type} (vals nu:List α) (i off el k:Nat) (mr:off+nu.length≤el) (hl:i*el+el≤vals.length) (hk:k≠i):
  ((vals.take (i*el+off)++(nu++vals.drop (i*el+off+nu.length))).drop (k*el)).take el=(vals.drop (k*el)).take el:=by
 apply List.ext_getElem?
 intro j
 rw[List.getElem?_take,List.getElem?_drop,AV _ _ _ _ (by omega),List.getElem?_take,List.getElem?_drop]
 by_cases hj:j<el
 ·rw[if_pos hj,if_pos hj]
  rcases Nat.lt_or_ge k i with cz | EM
  ·have:k*el+el≤i*el:=by rw[←Nat.succ_mul];exact Nat.mul_le_mul_right _ cz
   rw[if_pos (by omega)]
  ·have:i*el+el≤k*el:=by rw[←Nat.succ_mul];exact Nat.mul_le_mul_right _ (by omega)
   rw[if_neg (by omega),if_neg (by omega)]
 ·rw[if_neg hj,if_neg hj]
theorem bQ.set {w w':World} {e:List CT} {ts:List TypeId} {rows:List (List DC)} {vals:List Value} {hv hv':Nat→Option Value} {a7:List (List Nat)} (h:bQ w e ts rows vals hv a7) (hs:w.heap.size≤w'.heap.size) (hl:vals.length=rows.length*e.length)
  {i off:Nat} (hi:i<rows.length) {nu:List Value} (mr:off+nu.length≤e.length) {r:List DC} {m:List Nat} (hm:∀j,j≠i→∀m',a7[j]? =some m'→∀b∈m',w'.heap[b]? =w.heap[b]?)
  (hh:∀j,j≠i→hv' j=hv j) (hr:ae w' (hv' i) e ts r (((vals.drop (i*e.length)).take e.length).take off++(nu++((vals.drop (i*e.length)).take e.length).drop (off+nu.length))) m):
  bQ w' e ts (rows.set i r) (vals.take (i*e.length+off)++(nu++vals.drop (i*e.length+off+nu.length))) hv' (a7.set i m):=by
 have EP:i*e.length+e.length≤vals.length:=by rw[hl,←Nat.succ_mul];exact Nat.mul_le_mul_right _ hi
 refine⟨by simp [h.1],fun k r' m' hk F0=> ?_⟩
 by_cases Al:k=i
 ·subst Al
  rw[List.getElem?_set_self hi,aa] at hk
  rw[List.getElem?_set_self (by rw[h.1];exact hi),aa] at F0
  subst hk F0
  rw[Fy _ _ _ _ _ mr EP]
  exact hr
 ·rw[List.getElem?_set_ne (Ne.symm Al)] at hk F0
  rw[DV _ _ _ _ _ _ mr EP Al,hh k Al]
  exact ae.mono hs _ _ _ _ _ (h.2 k r' m' hk F0) (hm k Al m' F0)
end
end Go.Proofs.YtnlkklmcfafgeaaGreat.Vm
set_option linter.unusedVariables false
set_option linter.unusedSimpArgs false
namespace Go.Proofs.YtnlkklmcfafgeaaGreat.Vm
def Env.fF (β:Env) (id:Nat) (l:List Nat):Env:=⟨β.da,β.val,β.gN,aD β.nb id l⟩
def Env.gn (β:Env) (id:Nat) (v:Value) (l:List Nat):Env:=⟨β.da,aD β.val id v,β.gN,aD β.nb id l⟩
section
variable {P:Program} {Γ:Ctx} {w0:World} {S:Own} {st:St} {o:Oper} {e:cS} {a:Act} {w w':World}
variable {f:Nat→SV} {h:Nat→Option ao} {β:Env} {φ:Nat→List Nat} {tm:Array Value}
theorem Core.Dw (hc:Core w0 S f h β φ tm w) {id:Nat} {ob:ao} {t:TypeId} {ct:List CT} {ts:List TypeId} {rows:List (List DC)} {hl:Option (Nat×Nat)} {FN:List Nat} {G:Nat→Prop} {h':Nat→Option ao}
  (dZ:h id=some ob) (hG:∀k,G k→k≠id) (hh:h' id=some (.deep t ct ts rows hl)) (DK:∀j,j≠id→∀x,h' j=some x→h j=some x∧¬G j)
  (hs:w.heap.size≤w'.heap.size) (hw:∀b,b<w.heap.size→b ∉ (β.val id).ownBlock.toList→w'.heap[b]? =w.heap[b]?)
  (bd:∀b∈(β.val id).ownBlock.toList,b∈ar β id ob)
  (js:∀b∈FN,b∈ar β id ob∨∃k x,G k∧h k=some x∧b∈ar β k x)
  (hY:f9 w' (Av h' (β.fF id FN)) (β.fF id FN) id (.deep t ct ts rows hl) ((β.val id).ownBlock.toList++FN)) (hnd:((β.val id).ownBlock.toList++FN).Nodup):
  Core w0 S f h' (β.fF id FN) (aD φ id ((β.val id).ownBlock.toList++FN)) tm w':=by
 have jf:∀j oj,j≠id→ar (β.fF id FN) j oj=ar β j oj:=by
  intro j oj hj
  cases oj<;>simp [ar,Env.fF,aD,hj]
 have EV:∀b∈(β.val id).ownBlock.toList++FN,b∈ar β id ob∨∃k x,G k∧h k=some x∧b∈ar β k x:=by
  intro b hb
  rcases List.mem_append.1 hb with hb | hb
  ·exact .inl (bd b hb)
  ·exact js b hb
 have bM:∀b∈(β.val id).ownBlock.toList++FN,((w0.heap.size≤b∨S b)∧b<w.heap.size)∧Av h β b∧∀j oj,j≠id→h j=some oj→¬G j→b ∉ φ j:=by
  intro b hb
  rcases EV b hb with h1 | ⟨k,x,hk,hx,h1⟩
  ·have h2:=ak (hc.aC id ob dZ) b h1
   exact⟨(hc.fresh id ob dZ).2 b h2,.inl ⟨id,ob,dZ,h1⟩,fun j oj hj je _=>hc.sep id j ob oj (Ne.symm hj) dZ je b h2⟩
  ·have h2:=ak (hc.aC k x hx) b h1
   exact⟨(hc.fresh k x hx).2 b h2,.inl ⟨k,x,hx,h1⟩,fun j oj hj je hg=>hc.sep k j x oj (fun e=>hg (e ▸ hk)) hx je b h2⟩
 refine hc.mK (fun _=>False) hs (fun b hb hn=>hw b hb (fun hx=>hn (.inl ⟨id,ob,dZ,bd b hx⟩))) ?_ (fun _ _ _ h=>h) (fun _ _=>⟨rfl,rfl⟩) ?_ ?_
 ·rintro b (⟨j,oj,hj,bz⟩ | hb)
  case inr=>exact .inl (.inr hb)
  by_cases cn:j=id
  ·subst cn
   rw[hh,aa] at hj
   subst hj
   refine .inl (bM b ?_).2.1
   simpa [ar,Env.fF,aD] using bz
  ·rw[jf j oj cn] at bz
   exact .inl (.inl ⟨j,oj,(DK j cn oj hj).1,bz⟩)
 ·intro j oj hj
  by_cases cn:j=id
  ·subst cn
   rw[hh,aa] at hj
   subst hj
   refine .inr ⟨by simpa [aD] using hY,by simpa [aD] using hnd,fun b hb=> ?_⟩
   have:=(bM b (by simpa [aD] using hb)).1
   exact⟨this.1,by omega⟩
  ·have h1:=(DK j cn oj hj).1
   refine .inl ⟨fun h=>h,h1,by simp [Env.fF,aD,cn],by simp [aD,cn],fun _ _ h=>h,fun b hb=> ?_⟩
   have fK:=ak (hc.aC j oj h1) b hb
   exact hw b ((hc.fresh j oj h1).2 b fK).2 (fun hx=>hc.sep id j ob oj (Ne.symm cn) dZ h1 b (ak (hc.aC id ob dZ) b (bd b hx)) fK)
 ·intro i j oi oj cQ hi hj b hb
  by_cases ly:i=id
  ·subst ly
   have gD:j≠i:=Ne.symm cQ
   simp only[aD,if_true] at hb
   simp only[aD,gD,if_false]
   obtain⟨h1,h2⟩:=DK j gD oj hj
   exact (bM b hb).2.2 j oj gD h1 h2
  ·simp only[aD,ly,if_false] at hb
   obtain⟨h1,h2⟩:=DK i ly oi hi
   by_cases cn:j=id
   ·subst cn
    simp only[aD,if_true]
    exact fun aB=>(bM b aB).2.2 i oi ly h1 h2 hb
   ·simp only[aD,cn,if_false]
    exact hc.sep i j oi oj cQ h1 (DK j cn oj hj).1 b hb
theorem C2 (hR:Rel w0 S st a w) (hd:∀d,o.dst=some d→bn st.n d) {c:Call} {x:Operand} {t:TypeId} (ho:o.op= .call c) (hb:c.callee= .builtin .len)
  (hx:c.args= #[x]) (ht:c.argTypes= #[t]) {sx:SV} (h1:(cm x).val st.get st.obj=some sx) (he:(HR P t sx).val st.get st.obj=some e):Good P w0 S st o e a w:=by
 unfold HR at he
 split at he
 ·rename_i id
  simp only[M.a8,af] at he
  obtain⟨ob,aS,he⟩:=he
  split at he
  ·rename_i t' ct ts r hl
   split at he
   ·rename_i et hu
    simp only[M.ab,aa] at he
    subst he
    refine au hR hd rfl rfl fun β φ hc=> ?_
    have hv:=hc.ev h1
    simp only[aq] at hv
    obtain⟨vals,a7,bd,_⟩:=hc.aC id _ aS
    have key:∃q cap,β.val id= .slice q r.length cap∧r.length≤maxLen:=by
     rcases bd.2 with ⟨hv',h0,_⟩ | ⟨g,cap,cur,hv',_,AX,hm,_⟩
     ·exact⟨none,0,by rw[hv',h0],by omega⟩
     ·exact⟨_,cap,hv',by omega⟩
    obtain⟨q,cap,hq,hm⟩:=key
    refine⟨.int .i64 r.length, ?_,by unfold aq;exact⟨rfl,A5 hm⟩⟩
    simp [execOp,ho,resolve,hb,hx,ht,invoke,builtin,hv.1,hq,Builtin.len_,run_underlying hu,goInt]
   ·simp at he
  ·refine AA hR hd ho hb hx ht h1 ?_
   exact he
 ·exact AA hR hd ho hb hx ht h1 he
theorem kI (hR:Rel w0 S st a w) (hd:∀d,o.dst=some d→bn st.n d) {t:TypeId} {x i:Operand} (ho:o.op= .indexAddr t x i) {sx si:SV}
  (h1:(cm x).val st.get st.obj=some sx) (h2:(cm i).val st.get st.obj=some si) (he:(jg P t sx si).val st.get st.obj=some e) (aP:e.ok=true):Good P w0 S st o e a w:=by
 unfold jg at he
 split at he
 ·rename_i id
  simp only[M.a8,af] at he
  obtain⟨ob,aS,he⟩:=he
  split at he
  ·rename_i t' ct ts r hl
   split at he
   ·rename_i et k n hu
    cases hz:bb P et ct.length
    ·simp [hz] at he
    simp only[hz,aj,M.ab,aa] at he
    subst he
    simp only[aw,eX] at aP
    obtain⟨i',hi,dF⟩:=ba hz
    refine au hR hd rfl rfl fun β φ hc=> ?_
    have hv:=hc.ev h1
    have GG:=hc.ev h2
    simp only[aq] at hv GG
    obtain⟨vals,a7,bd,_⟩:=hc.aC id _ aS
    rcases bd.2 with ⟨_,h0,_⟩ | ⟨g,cap,cur,hv',_⟩
    ·omega
    ·refine⟨.pointer (some ⟨g,0+n.toNat*i'.size,none⟩), ?_, ?_⟩
     ·simp [execOp,ho,hv.1,hv',GG.1,Instr.indexAt,asIntOf,run_underlying hu,aP.1,aP.2,sizeOf,typeInfo,hi,dw]
     ·simp only[aq]
      exact⟨g,by rw[hv'];rfl,by rw[dF];simp⟩
   ·simp at he
  ·exact gR hR hd ho h1 h2 he aP
 ·exact gR hR hd ho h1 h2 he aP
theorem Et (hc:Core w0 S f h β φ tm w) {id:Nat} {t:TypeId} {ct:List CT} {ts:List TypeId} {rows:List (List DC)} {hl:Option (Nat×Nat)} (aS:h id=some (.deep t ct ts rows hl)) {i:Nat} (hi:i<rows.length) {g:Nat} (hg:(β.val id).ownBlock=some g):
  ∃(us:List Value) (m:List Nat),ae w (hZ β hl i) ct ts (rows.getD i []) us m∧us.length=ct.length∧∀j u,us[j]? =some u→w.cell? ⟨g,i*ct.length+j,none⟩=some u:=by
 obtain⟨vals,a7,bd,di,_,_⟩:=hc.aC id _ aS
 have hf:i<a7.length:=by rw[di.1];exact hi
 have eP:=di.2 i (rows.getD i []) a7[i] (cI hi) (by simp)
 exact⟨_,_,eP,(ae.length _ _ _ _ _ eP).1,fun j u hj=>bd.cell hg (f0 hj)⟩
theorem ae.get {hv:Option Value} :∀(cs:List CT) (ts:List TypeId) (r:List DC) (us:List Value) (m:List Nat) (k:Nat) (c:CT),ae w hv cs ts r us m→cs[k]? =some c→ax [c]=true→
  ∃v,us[k]? =some v∧cd w c (r.getD k default) v []
 | [],_,_,_,_,_,_,_,hk,_=>by simp at hk
 | c0::cs,_,_,_,_,k,c,h,hk,hf=>by
  rcases dy c0 with ⟨e,rfl⟩ | hc
  ·simp only[ae] at h
   obtain⟨t,ea,rows,bc,v,aW,m1,gw,rfl,rfl,rfl,_,_,h6,rfl⟩:=h
   cases k with
   | zero=>
    simp only[List.getElem?_cons_zero,aa] at hk
    subst hk
    simp [ax] at hf
   | succ k=>
    obtain⟨v',h1,h2⟩:=ae.get cs _ _ _ _ k c h6 (by simpa using hk) hf
    exact⟨v',by simpa using h1,by simpa using h2⟩
  ·rw[ae.flat hc] at h
   obtain⟨d,bc,v,aW,rfl,rfl,h3,h4⟩:=h
   cases k with
   | zero=>
    simp only[List.getElem?_cons_zero,aa] at hk
    subst hk
    exact⟨v,by simp,by simpa using h3⟩
   | succ k=>
    obtain⟨v',h1,h2⟩:=ae.get cs _ _ _ _ k c h4 (by simpa using hk) hf
    exact⟨v',by simpa using h1,by simpa using h2⟩
theorem ae.bT {hv:Option Value} {av:Nat→Prop} {cs:List CT} {ts:List TypeId} {r:List DC} {us:List Value} {m:List Nat} (h:ae w hv cs ts r us m):
  ∀(n k:Nat),k+n≤cs.length→ax ((cs.drop k).take n)=true→∃vs:List Value,vs.length=n∧(∀j v,vs[j]? =some v→us[k+j]? =some v)∧ah w av β (cr ((cs.drop k).take n) r k) vs∧∀x∈vs,x.oneCell'=true
 | 0,k,_,_=>⟨[],rfl,by simp,by simp [cr,ah],by simp⟩
 | n+1,k,hk,hf=>by
  have cz:k<cs.length:=by omega
  have Iy:(cs.drop k).take (n+1)=cs[k]::(cs.drop (k+1)).take n:=by
   rw[List.drop_eq_getElem_cons cz,List.take_succ_cons]
  rw[Iy,fy,aw] at hf
  obtain⟨v,e1,e2⟩:=ae.get cs ts r us m k cs[k] h (by simp) hf.1
  obtain⟨vs,l1,l2,l3,l4⟩:=ae.bT h n (k+1) (by omega) hf.2
  refine⟨v::vs,by simp [l1], ?_, ?_, ?_⟩
  ·intro j u hj
   cases j with
   | zero=>simp at hj;subst hj;simpa using e1
   | succ j=>have:=l2 j u (by simpa using hj);rw[←this];congr 1;omega
  ·rw[Iy]
   simp only[cr,ah]
   exact⟨v,vs,rfl,dG e2 (by simp),l3⟩
  ·intro x hx
   rcases List.mem_cons.1 hx with rfl | hx
   ·exact e2.one
   ·exact l4 x hx
theorem B6 (hR:Rel w0 S st a w) (hd:∀d,o.dst=some d→bn st.n d) {t:TypeId} {x:Operand} (ho:o.op= .load t x) {id i z off:Nat} {t':TypeId} {ct:List CT} {ts:List TypeId} {rows:List (List DC)} {hl:Option (Nat×Nat)}
  (h1:(cm x).val st.get st.obj=some (.ey id i z off)) (aS:st.obj id=some (.deep t' ct ts rows hl)) (he:(Fp P t i z off ct rows).val st.get st.obj=some e) (aP:e.ok=true):Good P w0 S st o e a w:=by
 unfold Fp at he
 cases hz:Nat.beq z ct.length
 ·simp [hz] at he
 have Jl:=aM hz
 simp only[hz,Bool.not_true,aQ] at he
 split at he
 ·simp at he
 rename_i td hu
 have reads:∀β φ,Core w0 S st.get st.obj β φ a.tmps w→i<rows.length→∃g us m,a.eval x= .pointer (some ⟨g,i*ct.length+off,none⟩)∧ae w (hZ β hl i) ct ts (rows.getD i []) us m∧
   ∀j u,us[j]? =some u→w.cell? ⟨g,i*ct.length+j,none⟩=some u:=by
  intro β φ hc hi
  have hx:=hc.ev h1
  simp only[aq] at hx
  obtain⟨g,hg,hv⟩:=hx
  obtain⟨us,m,k1,_,k3⟩:=Et hc aS hi hg
  exact⟨g,us,m,by rw[hv,Jl],k1,k3⟩
 cases ha:bB P t
 ·simp only[ha,aQ] at he
  split at he
  ·rename_i c AX
   cases hf:ax [c]
   ·simp [hf] at he
   simp only[hf,aj,M.ab,aa] at he
   subst he
   have hi:i<rows.length:=by simpa using aP
   refine au hR hd rfl rfl fun β φ hc=> ?_
   obtain⟨g,us,m,hv,hr,hcell⟩:=reads β φ hc hi
   obtain⟨v,e1,e2⟩:=ae.get _ _ _ _ _ _ _ hr AX hf
   refine⟨v, ?_,dG e2 (by simp)⟩
   simp [execOp,ho,hv,d5 ha hu (hcell _ _ e1)]
  ·simp at he
 ·simp only[ha,aj] at he
  split at he
  ·rename_i j hj
   cases Jm:Nat.ble (off+j.size) ct.length && ax ((ct.drop off).take j.size)
   ·simp [Jm] at he
   simp only[Jm,aj,M.ab,aa] at he
   subst he
   simp only[aw] at Jm
   have hi:i<rows.length:=by simpa using aP
   have hle:=Nat.le_of_ble_eq_true Jm.1
   refine au hR hd rfl rfl fun β φ hc=> ?_
   obtain⟨g,us,m,hv,hr,hcell⟩:=reads β φ hc hi
   obtain⟨vs,l1,l2,l3,l4⟩:=ae.bT (β:=β) (av:=Av st.obj β) hr j.size off hle Jm.2
   refine⟨.agg vs.toArray, ?_, ?_⟩
   ·have:∀k v,vs[k]? =some v→w.cell? ⟨g,(i*ct.length+off)+k,none⟩=some v:=fun k v hk=>by
     rw[Nat.add_assoc]
     exact hcell _ _ (l2 k v hk)
    simp [execOp,ho,hv,fE ha hj l1 this]
   ·simp only[aq]
    exact⟨vs,rfl,l3,l4⟩
  ·simp at he
theorem AQ {a7:List (List Nat)} {i:Nat} (hi:i<a7.length):∀b∈(a7.set i []).flatten,b∈a7.flatten:=by
 intro b hb
 rw[b_ hi] at hb
 rw[bE hi]
 simp only[List.nil_append,List.mem_append] at hb ⊢
 rcases hb with hb | hb<;>simp [hb]
theorem D0 (hR:Rel w0 S st a w) {d:Nat} (ca:bL st d) {β:Env} {φ:Nat→List Nat} (hc:Core w0 S st.get st.obj β φ a.tmps w) {id i off g:Nat} {t' t1:TypeId} {ct e':List CT} {rows:List (List DC)}
  (hg:(β.val id).ownBlock=some g) (aS:st.obj id=some (.deep t' ct [t1] rows none)) (mr:ct[off]? =some (.sl e')) (EG:aJ ct=1) (hi:i<rows.length):
  ∃(us:List Value) (v:Value) (β':Env) (φ':Nat→List Nat),us.length=ct.length∧(∀j u,us[j]? =some u→w.cell? ⟨g,i*ct.length+j,none⟩=some u)∧us[off]? =some v∧v.oneCell'=true∧ae w (some v) ct [t1] (rows.getD i []) us []∧β'.val (ai d 0)=v∧
   Core w0 S st.get (aD (aD st.obj id (some (.deep t' ct [t1] rows (some (i,ai d 0))))) (ai d 0) (some (.row t1 e' ((rows.getD i []).getD off default).cV false true))) β' φ' a.tmps w:=by
 have bM:ai d 0 / 64=d:=cT d 0 (by omega)
 generalize MD:ai d 0=nid at*
 have cQ:id≠nid:=fun e=>(ca.obj id _ aS).1 (e ▸ bM)
 obtain⟨vals,a7,bd,di,js,kA⟩:=hc.aC id _ aS
 have kq:i<a7.length:=by rw[di.1];exact hi
 have eP:=di.2 i (rows.getD i []) a7[i] (cI hi) (by simp)
 obtain⟨M8,v,rws,JV,hv,Jc,eF,kv,I5⟩:=ae.out ct off e' _ _ _ _ mr EG eP
 simp only[List.cons.injEq,and_true] at JV
 subst JV
 obtain⟨AE,FV,GO,KT,GK⟩:=kv
 have Lc:((rows.getD i []).getD off default).cV=rws:=by
  rw[List.getD_eq_getElem?_getD,Jc]
  rfl
 rw[Lc]
 have Gb:=(hc.fresh id _ aS).1
 rw[kA] at Gb
 have jN:∀b∈v.ownBlock.toList,b∈a7.flatten:=by
  intro b hb
  rw[bE kq,GK]
  simp [hb]
 have It:∀b∈(β.val id).ownBlock.toList++a7.flatten,Av st.obj β b:=fun b hb=> .inl ⟨id,_,aS,by simpa [ar,js] using hb⟩
 have Ar:∀b∈(β.val id).ownBlock.toList++a7.flatten,b∈φ id:=fun b hb=>by rw[kA];exact hb
 have Am:∀b∈(β.val id).ownBlock.toList++(a7.set i []).flatten,b∈(β.val id).ownBlock.toList++a7.flatten:=by
  intro b hb
  rcases List.mem_append.1 hb with hb | hb
  ·exact aT _ hb
  ·exact aK _ (AQ kq b hb)
 have Dg:∀b∈v.ownBlock.toList,b ∉ (β.val id).ownBlock.toList++(a7.set i []).flatten:=by
  intro b hb iG
  rw[bE kq,List.nodup_append] at Gb
  obtain⟨_,n2,n3⟩:=Gb
  rw[List.nodup_append] at n2
  obtain⟨_,n4,n5⟩:=n2
  rw[List.nodup_append] at n4
  obtain⟨_,_,n6⟩:=n4
  rw[←GK] at hb
  rcases List.mem_append.1 iG with iG | iG
  ·exact n3 b iG b (by simp [hb]) rfl
  ·rw[b_ kq] at iG
   simp only[List.nil_append,List.mem_append] at iG
   rcases iG with iG | iG
   ·exact n5 b iG b (by simp [hb]) rfl
   ·exact n6 b hb b iG rfl
 have E0:((β.val id).ownBlock.toList++(a7.set i []).flatten).Nodup:=by
  refine List.Sublist.nodup ?_ Gb
  refine (List.Sublist.refl _).append ?_
  rw[b_ kq,bE kq]
  exact (List.Sublist.refl _).append ((List.nil_sublist _).append (List.Sublist.refl _))
 have F_:v.ownBlock.toList.Nodup:=by cases v.ownBlock<;>simp
 let β':Env:=⟨β.da,aD β.val nid v,β.gN,aD β.nb id (a7.set i []).flatten⟩
 have E9:β'.val id=β.val id:=by simp [β',aD,cQ]
 have mv:β'.val nid=v:=by simp [β',aD]
 have IX:β'.nb id=(a7.set i []).flatten:=by simp [β',aD]
 let h':Nat→Option ao:=aD (aD st.obj id (some (.deep t' ct [t1] rows (some (i,nid))))) nid (some (.row t1 e' rws false true))
 let φ':Nat→List Nat:=aD (aD φ id ((β.val id).ownBlock.toList++(a7.set i []).flatten)) nid v.ownBlock.toList
 have EH:Core w0 S st.get h' β' φ' a.tmps w:=by
  have e1:h' nid=some (.row t1 e' rws false true):=by simp [h',aD]
  have e2:h' id=some (.deep t' ct [t1] rows (some (i,nid))):=by simp [h',aD,cQ]
  have e3:∀j,j≠nid→j≠id→h' j=st.obj j:=fun j h1 h2=>by simp [h',aD,h1,h2]
  have p1:φ' nid=v.ownBlock.toList:=by simp [φ',aD]
  have p2:φ' id=(β.val id).ownBlock.toList++(a7.set i []).flatten:=by simp [φ',aD,cQ]
  have p3:∀j,j≠nid→j≠id→φ' j=φ j:=fun j h1 h2=>by simp [φ',aD,h1,h2]
  have jf:∀j oj,j≠nid→j≠id→ar β' j oj=ar β j oj:=by
   intro j oj h1 h2
   cases oj<;>simp [ar,β',aD,h1,h2]
  have Kd:∀b,Av h' β' b→Av st.obj β b:=by
   rintro b (⟨j,oj,hj,bz⟩ | hb)
   case inr=>exact .inr hb
   by_cases mq:j=nid
   ·subst mq
    rw[e1,aa] at hj
    subst hj
    exact It b (aK _ (jN b (by simpa [ar,mv] using bz)))
   ·by_cases gD:j=id
    ·subst gD
     rw[e2,aa] at hj
     subst hj
     exact It b (Am b (by simpa only[ar,E9,IX] using bz))
    ·rw[e3 j mq gD] at hj
     rw[jf j oj mq gD] at bz
     exact .inl ⟨j,oj,hj,bz⟩
  have bG:=(hc.fresh id _ aS).2
  refine hc.mK (fun j=>j=nid) (Nat.le_refl _) (fun _ _ _=>rfl) (fun b hb=> .inl (Kd b hb)) (fun k j hj e=>ca.slot k j hj (e ▸ bM)) (fun j hj=>⟨by simp [β',aD,hj],rfl⟩) ?_ ?_
  ·intro j oj hj
   by_cases mq:j=nid
   ·subst mq
    rw[e1,aa] at hj
    subst hj
    refine .inr ⟨?_,by rw[p1];exact F_,fun b hb=> ?_⟩
    ·refine⟨AE,FV,by rw[mv];exact GO,KT, ?_, ?_⟩
     ·rw[KT.Du eF]
      simp
     ·rw[p1,mv,KT.Du eF]
      simp
    ·rw[p1] at hb
     exact bG b (Ar b (aK _ (jN b hb)))
   ·by_cases gD:j=id
    ·subst gD
     rw[e2,aa] at hj
     subst hj
     refine .inr ⟨?_,by rw[p2];exact E0,fun b hb=> ?_⟩
     ·refine⟨vals,a7.set i [],by rw[E9];exact bd,⟨by simp [di.1],fun k r m hk hm=> ?_⟩,IX,by rw[p2,E9]⟩
      by_cases Al:k=i
      ·subst Al
       rw[List.getElem?_set_self kq,aa] at hm
       subst hm
       have E3:r=rows.getD k []:=by
        rw[cI (d:=[]) hi,aa] at hk
        exact hk.symm
       subst E3
       simp only[hZ,if_true]
       rw[mv]
       exact I5
      ·rw[List.getElem?_set_ne (Ne.symm Al)] at hm
       simp only[hZ,Al,if_false]
       exact di.2 k r m hk hm
     ·rw[p2] at hb
      exact bG b (Ar b (Am b hb))
    ·rw[e3 j mq gD] at hj
     refine .inl ⟨mq,hj,by simp [β',aD,gD],p3 j mq gD,fun k hk e=>(ca.obj j oj hj).2 k hk (e ▸ bM),fun _ _=>rfl⟩
  ·have kinds:∀j oj,h' j=some oj→∀b∈φ' j,(j=nid∧b∈v.ownBlock.toList)∨(j=id∧b∈(β.val id).ownBlock.toList++(a7.set i []).flatten)∨(j≠nid∧j≠id∧st.obj j=some oj∧b∈φ j):=by
    intro j oj hj b hb
    by_cases mq:j=nid
    ·subst mq
     rw[p1] at hb
     exact .inl ⟨rfl,hb⟩
    ·by_cases gD:j=id
     ·subst gD
      rw[p2] at hb
      exact .inr (.inl ⟨rfl,hb⟩)
     ·rw[p3 j mq gD] at hb
      rw[e3 j mq gD] at hj
      exact .inr (.inr ⟨mq,gD,hj,hb⟩)
   intro j k oj ok Kx hj hk b hb aB
   rcases kinds j oj hj b hb with ⟨rfl,x1⟩ | ⟨rfl,x1⟩ | ⟨x0,L2,x1,x2⟩<;>rcases kinds k ok hk b aB with ⟨rfl,y1⟩ | ⟨rfl,y1⟩ | ⟨y0,L3,y1,y2⟩
   ·exact Kx rfl
   ·exact Dg b x1 y1
   ·exact hc.sep id k _ ok (Ne.symm L3) aS y1 b (Ar b (aK _ (jN b x1))) y2
   ·exact Dg b y1 x1
   ·exact Kx rfl
   ·exact hc.sep _ k _ ok (Ne.symm L3) aS y1 b (Ar b (Am b x1)) y2
   ·exact hc.sep id j _ oj (Ne.symm L2) aS x1 b (Ar b (aK _ (jN b y1))) x2
   ·exact hc.sep _ j _ oj (Ne.symm L2) aS x1 b (Ar b (Am b y1)) x2
   ·exact hc.sep j k oj ok Kx x1 y1 b x2 y2
 exact⟨_,v,β',φ',(ae.length _ _ _ _ _ eP).1,fun j u hj=>bd.cell hg (f0 hj),hv,GO.one,I5,mv,EH⟩
theorem C5 (hR:Rel w0 S st a w) {d:Nat} (aX:o.dst=some d) (hd:bn st.n d) (ca:bL st d) {t:TypeId} {x:Operand} (ho:o.op= .load t x) {id i off:Nat} {t' t1:TypeId} {ct e':List CT} {rows:List (List DC)} {td:TypeDesc}
  (h1:(cm x).val st.get st.obj=some (.ey id i ct.length off)) (aS:st.obj id=some (.deep t' ct [t1] rows none)) (mr:ct[off]? =some (.sl e')) (EG:aJ ct=1) (ha:bB P t=false) (hu:P.underlying t=some td) (hi:i<rows.length)
  (f8:e.sv= .own (ai d 0)) (kT:e.cw=none) (how:e.ow=[(ai d 0,some (.row t1 e' ((rows.getD i []).getD off default).cV false true)),(id,some (.deep t' ct [t1] rows (some (i,ai d 0))))]):Good P w0 S st o e a w:=by
 obtain⟨β,φ,hc⟩:=hR.core
 have hx:=hc.ev h1
 simp only[aq] at hx
 obtain⟨g,hg,hx⟩:=hx
 obtain⟨us,v,β',φ',_,hcell,hv,bk,_,mv,EH⟩:=D0 hR ca hc hg aS mr EG hi
 have hcell:=hcell _ _ hv
 refine cg hR (fun d' h'=>by rw[aX] at h';injection h' with h';exact h' ▸ hd) (v:=v) (w':=w) ?_ hR.kept ⟨β',φ', ?_, ?_⟩
 ·simp [execOp,ho,hx,d5 ha hu hcell]
 ·rw[how,kT]
  exact EH
 ·rw[f8]
  unfold aq
  exact⟨mv.symm,bk⟩
theorem ah.part {w:World} {av:Nat→Prop} {β:Env} :∀(ss:List SV) (us:List Value) (n m:Nat),ah w av β ss us→ah w av β ((ss.drop n).take m) ((us.drop n).take m)
 | [],us,n,m,h=>by simp only[ah] at h;subst h;simp [ah]
 | s::ss,us,n,m,h=>by
  have h0:=h
  simp only[ah] at h
  obtain⟨v,l',rfl,h1,h2⟩:=h
  cases n with
  | zero=>
   cases m with
   | zero=>simp [ah]
   | succ m=>
    have:=ah.part ss l' 0 m h2
    simp only[List.drop_zero,List.take_succ_cons,ah] at this ⊢
    exact⟨v,_,rfl,h1,this⟩
  | succ n=>simpa only[List.drop_succ_cons] using ah.part ss l' n m h2
end
end Go.Proofs.YtnlkklmcfafgeaaGreat.Vm
set_option linter.unusedVariables false
set_option linter.unusedSimpArgs false
namespace Go.Proofs.YtnlkklmcfafgeaaGreat.Vm
section
variable {P:Program} {Γ:Ctx} {w0:World} {S:Own} {st:St} {o:Oper} {e:cS} {a:Act} {w w':World}
variable {f:Nat→SV} {h:Nat→Option ao} {β:Env} {φ:Nat→List Nat} {tm:Array Value}
theorem ae.Gp {hv:Option Value} {pre part suf:List CT} {ts:List TypeId} {r ds:List DC} {us nu:List Value} {m:List Nat} (h:ae w hv (pre++(part++suf)) ts r us m) (hf:ax part=true) (hn:ae w hv part [] ds nu []):
  ae w hv (pre++(part++suf)) ts (bX r pre.length ds) (us.take pre.length++(nu++us.drop (pre.length+nu.length))) m:=by
 obtain⟨Gq,HZ,m1,m2,rfl,rfl,k1,k2⟩:=ae.split _ _ _ _ _ _ h
 obtain⟨MT,MV,m3,m4,rfl,rfl,k3,k4⟩:=ae.split _ _ _ _ _ _ k2
 obtain⟨rfl,rfl,_⟩:=ae.toFlat _ _ _ _ _ hf k3
 obtain⟨l1,l2⟩:=ae.length _ _ _ _ _ hn
 rw[List.drop_drop,List.drop_drop] at k4
 have:=ae.join _ _ _ _ _ _ _ _ _ _ k1 (ae.join _ _ _ _ _ _ _ _ _ _ hn k4)
 simpa only[bX,l1,l2] using this
theorem ae.Gn {hv:Option Value} {pre part suf:List CT} {ts ea:List TypeId} {r ds:List DC} {us nu:List Value} {m m':List Nat} (h:ae w hv (pre++(part++suf)) ts r us m) (hf:aJ part=aJ (pre++(part++suf))) (hn:ae w none part ea ds nu m'):
  ae w none (pre++(part++suf)) ea (bX r pre.length ds) (us.take pre.length++(nu++us.drop (pre.length+nu.length))) m':=by
 rw[d6,d6] at hf
 have f1:ax pre=true:=d8 (by omega)
 have f2:ax suf=true:=d8 (by omega)
 obtain⟨Gq,HZ,m1,m2,rfl,rfl,k1,k2⟩:=ae.split _ _ _ _ _ _ h
 obtain⟨MT,MV,m3,m4,rfl,rfl,k3,k4⟩:=ae.split _ _ _ _ _ _ k2
 obtain⟨rfl,rfl,_⟩:=ae.toFlat _ _ _ _ _ f1 k1
 obtain⟨rfl,rfl,_⟩:=ae.toFlat _ _ _ _ _ f2 k4
 obtain⟨l1,l2⟩:=ae.length _ _ _ _ _ hn
 rw[List.drop_drop,List.drop_drop] at k4
 have:=ae.join _ _ _ _ _ _ _ _ _ _ (ae.Bb (hv':=none) f1 k1) (ae.join _ _ _ _ _ _ _ _ _ _ hn (ae.Bb (hv':=none) f2 k4))
 simpa only[bX,l1,l2,List.nil_append,List.append_nil] using this
theorem dm.cells:∀(cs:List CT) (ts:List TypeId) (ds:List DC) (us:List Value) (mb:List Nat),dm w cs ts ds us mb→ae w none cs ts ds us mb
 | [],_,_,_,_,h=>by simpa only[dm,ae] using h
 | .sl e::cs,_,_,_,_,h=>by
  simp only[dm] at h
  obtain⟨t,ea,rows,bc,v,aW,vals,aE,gw,rfl,rfl,rfl,h4,h5,h6,h7,rfl⟩:=h
  simp only[ae]
  exact⟨t,ea,rows,bc,v,aW,_,gw,rfl,rfl,rfl,h4,⟨vals,aE,h5,h6,rfl⟩,dm.cells cs _ _ _ _ h7,rfl⟩
 | .int k::cs,_,_,_,_,h=>by
  simp only[dm] at h
  obtain⟨d,bc,v,aW,rfl,rfl,h3,h4⟩:=h
  simp only[ae]
  exact⟨d,bc,v,aW,rfl,rfl,h3,dm.cells cs _ _ _ _ h4⟩
 | .bool::cs,_,_,_,_,h=>by
  simp only[dm] at h
  obtain⟨d,bc,v,aW,rfl,rfl,h3,h4⟩:=h
  simp only[ae]
  exact⟨d,bc,v,aW,rfl,rfl,h3,dm.cells cs _ _ _ _ h4⟩
 | .str::cs,_,_,_,_,h=>by
  simp only[dm] at h
  obtain⟨d,bc,v,aW,rfl,rfl,h3,h4⟩:=h
  simp only[ae]
  exact⟨d,bc,v,aW,rfl,rfl,h3,dm.cells cs _ _ _ _ h4⟩
theorem three (ct:List CT) (off n:Nat):ct.take off++((ct.drop off).take n++ct.drop (off+n))=ct:=by
 rw[←List.drop_drop,List.take_append_drop,List.take_append_drop]
theorem AB {t t':TypeId} {x y:Operand} (ho:o.op= .store t x y) {g i off:Nat} {ct:List CT} {n cap:Nat} {cur:Array Value} (hx:a.eval x= .pointer (some ⟨g,i*ct.length+off,none⟩)) {ti:TypeInfo} (F8:P.info? t=some ti) (bD:ti.size=(a.eval y).cells.size)
  (bk:∀v∈(a.eval y).cells.toList,v.oneCell'=true) (hh:w.heap[g]? =some (.cells cur t' (0,0))) (hi:i<n) (AZ:n≤cap) (fI:cur.size=cap*ct.length) (dX:off+(a.eval y).cells.toList.length≤ct.length):
  (execOp a.eval o).run P w= .ok .skip (w.setRow g (cur.toList.take (i*ct.length+off)++((a.eval y).cells.toList++cur.toList.drop (i*ct.length+off+(a.eval y).cells.toList.length))).toArray):=by
 have hlen:i*ct.length+ct.length≤n*ct.length:=by rw[←Nat.succ_mul];exact Nat.mul_le_mul_right _ hi
 have BK:n*ct.length≤cap*ct.length:=Nat.mul_le_mul_right _ AZ
 have bA:=bV P g (i*ct.length+off) t' (0,0) (a.eval y).cells.toList 0 cur w hh (fun j _ h=>by simp at h) (by omega) bk
 simp only[Nat.add_zero] at bA
 have:=iy (P:=P) (t:=t) (b:=g) (off:=i*ct.length+off) (x:=a.eval y) F8 bD bA
 simp [execOp,ho,hx,this]
theorem cx.written {t:TypeId} {el i off n:Nat} {v:Value} {vals nu:List Value} (bd:cx w t el false v n vals) {g:Nat} (hg:v.ownBlock=some g) (hi:i<n) (dX:off+nu.length≤el) {cap:Nat} {cur:Array Value} (hh:w.heap[g]? =some (.cells cur t (0,0))) (fI:cur.size=cap*el) (AZ:n≤cap):
  cx (w.setRow g (cur.toList.take (i*el+off)++(nu++cur.toList.drop (i*el+off+nu.length))).toArray) t el false v n (vals.take (i*el+off)++(nu++vals.drop (i*el+off+nu.length))):=by
 have hlen:i*el+el≤n*el:=by rw[←Nat.succ_mul];exact Nat.mul_le_mul_right _ hi
 have BK:n*el≤cap*el:=Nat.mul_le_mul_right _ AZ
 have mn:(cur.toList.take (i*el+off)++(nu++cur.toList.drop (i*el+off+nu.length))).length=cur.size:=by
  simp only[fv,List.length_take,List.length_drop,Array.length_toList]
  omega
 rcases bd.2 with ⟨hv,h0,_⟩ | ⟨g',Ie,L5,hv,Ks,KL,D3,ml,E8⟩
 ·omega
 have Hr:g'=g:=by simpa [hv,Value.ownBlock] using hg
 subst Hr
 rw[hh] at Ks
 simp only[aQ,aa,Obj.cells.injEq] at Ks
 obtain⟨rfl,_⟩:=Ks
 refine⟨?_,.inr ⟨g',Ie,(cur.toList.take (i*el+off)++(nu++cur.toList.drop (i*el+off+nu.length))).toArray,hv, ?_,KL,D3,by simpa [mn] using ml, ?_⟩⟩
 ·have:=bd.1
  simp only[fv,List.length_take,List.length_drop]
  omega
 ·rw[setRow_heap w _ _ _ _ _ hh]
  simp
 ·simp only
  rw[iA _ _ _ _ (by omega) (by simp only[Array.length_toList];omega),E8]
theorem Bh (hR:Rel w0 S st a w) (hd:∀d,o.dst=some d→bn st.n d) {t t':TypeId} {x y:Operand} (ho:o.op= .store t x y) {id i off:Nat} {sy:SV} {bT:List SV} {ct:List CT} {ts:List TypeId} {rows:List (List DC)} {hl:Option (Nat×Nat)} {r:List DC×fg×Bool}
  (h1:(cm x).val st.get st.obj=some (.ey id i ct.length off)) (h2:(cm y).val st.get st.obj=some sy) (fI:(aG sy).val st.get st.obj=some bT) (dF:bb P t bT.length=true)
  (aS:st.obj id=some (.deep t' ct ts rows hl)) (dX:off+bT.length≤ct.length) (hf:ax ((ct.drop off).take bT.length)=true) (hr:(cq ((ct.drop off).take bT.length) bT).val st.get st.obj=some r)
  (hi:i<rows.length) (kT:e.cw=none) (BO:e.sv= .undef) (how:e.ow=[(id,some (.deep t' ct ts (rows.set i (bX (rows.getD i []) off r.1)) hl))]):Good P w0 S st o e a w:=by
 obtain⟨ti,F8,bD⟩:=ba dF
 obtain⟨β,φ,hc⟩:=hR.core
 have hx:=hc.ev h1
 simp only[aq] at hx
 obtain⟨g,hg,hx⟩:=hx
 obtain⟨f8,bk⟩:=dU (hc.ev h2) fI
 have ka:=ah.length _ _ f8
 have mU:(a.eval y).cells.size=bT.length:=by simpa using ka
 obtain⟨fp,kc,_,_,_⟩:=d9 hc _ _ _ r f8 hr
 obtain⟨vals,a7,bd,di,js,kA⟩:=hc.aC id _ aS
 have kV:g∈ar β id (.deep t' ct ts rows hl):=by simp [ar,hg]
 rcases bd.2 with ⟨hv,h0,_⟩ | ⟨g',cap,cur,hv,hh,AZ,D3,ml,E8⟩
 ·omega
 have Hr:g'=g:=by simpa [hv,Value.ownBlock] using hg
 subst Hr
 simp only[aQ] at hh
 have Dk:(a.eval y).cells.toList.length=bT.length:=by simpa using mU
 have bA:=AB (P:=P) ho hx F8 (bD.trans mU.symm) bk hh hi AZ ml (by rw[Dk];exact dX)
 have H8:=bd.written (off:=off) (nu:=(a.eval y).cells.toList) hg hi (by rw[Dk];exact dX) hh ml AZ
 generalize (a.eval y).cells.toList=nu at*
 rw[←Dk] at dX hf kc hr
 have kq:i<a7.length:=by rw[di.1];exact hi
 have eP:=di.2 i (rows.getD i []) a7[i] (cI hi) (by simp)
 have GJ:(ct.take off).length=off:=by simp;omega
 have IL:((ct.drop off).take nu.length).length=nu.length:=by simp;omega
 have bM:=ae.Gp (pre:=ct.take off) (part:=(ct.drop off).take nu.length) (suf:=ct.drop (off+nu.length)) (by rw[three];exact eP) hf (ae.CN _ _ _ _ hf kc IL.symm)
 rw[three,GJ] at bM
 have bG:=hc.fresh id _ aS
 have hnd:=bG.1
 rw[kA] at hnd
 have JT:∀b∈a7.flatten,b≠g':=by
  intro b hb e
  subst e
  rw[List.nodup_append] at hnd
  exact hnd.2.2 b (by simp [hg]) b hb rfl
 have kt:∀j m',a7[j]? =some m'→∀b∈m',b∈a7.flatten:=fun j m' hj b hb=>List.mem_flatten.2 ⟨m',List.mem_of_getElem? hj,hb⟩
 have MB:a7.set i a7[i]=a7:=List.set_getElem_self ..
 have mo:=di.set (w':=w.setRow g' (cur.toList.take (i*ct.length+off)++(nu++cur.toList.drop (i*ct.length+off+nu.length))).toArray) (hv':=hZ β hl) (by simp) bd.1 hi dX
  (fun j _ m' hj b hb=>setRow_other w g' b _ (JT b (kt j m' hj b hb))) (fun _ _=>rfl)
  (ae.mono (by simp) _ _ _ _ _ bM (fun b hb=>setRow_other w g' b _ (JT b (kt i a7[i] (by simp) b hb))))
 rw[MB] at mo
 have An:∀b∈ar β id (.deep t' ct ts (rows.set i (bX (rows.getD i []) off r.1)) hl),b∈ar β id (.deep t' ct ts rows hl):=fun b hb=>hb
 refine iF hR hd bA (hR.kept.setRow (bG.2 g' (ak (hc.aC id _ aS) g' kV)).1 _) ⟨β,aD φ id ((β.val id).ownBlock.toList++a7.flatten), ?_,by rw[BO];simp [aq]⟩
 rw[how,kT]
 show Core w0 S st.get (aD st.obj id (some (.deep t' ct ts (rows.set i (bX (rows.getD i []) off r.1)) hl))) _ _ _ _
 refine hc.rewrite aS kV An ?_ hnd ?_
 ·exact⟨_,a7,by simpa using H8,mo,js,rfl⟩
 ·intro b hb
  have aB:b∈φ id:=by rw[kA];exact hb
  exact⟨bG.2 b aB,fun j oj hj je=>hc.sep id j _ _ (Ne.symm hj) aS je b aB⟩
theorem AR:∀(U:List MU) (h:Nat→Option ao) (j:Nat),fo (eB U) h j=if j∈bw U then none else h j
 | [],h,j=>by simp [eB,bw,fo]
 | x::l,h,j=>by
  have ih:=AR l h j
  cases x<;>simp only[eB,bw,fo,aD]<;>first | exact ih | (by_cases hj:j=_<;>simp [hj,ih]<;>done) | skip
  all_goals
   simp only[List.mem_cons,ih]
   split<;>rename_i hj
   ·simp [hj]
   ·simp [hj]
theorem Bg (hR:Rel w0 S st a w) (hd:∀d,o.dst=some d→bn st.n d) {t t':TypeId} {x y:Operand} (ho:o.op= .store t x y) {id i off:Nat} {sy:SV} {bT:List SV} {ct:List CT} {ts:List TypeId} {rows:List (List DC)} {hl:Option (Nat×Nat)} {r:List DC×List MU}
  (h1:(cm x).val st.get st.obj=some (.ey id i ct.length off)) (h2:(cm y).val st.get st.obj=some sy) (fI:(aG sy).val st.get st.obj=some bT) (dF:bb P t bT.length=true)
  (aS:st.obj id=some (.deep t' ct ts rows hl)) (dX:off+bT.length≤ct.length) (hf:aJ ((ct.drop off).take bT.length)=aJ ct) (hr:(a9 ((ct.drop off).take bT.length) ts bT).val st.get st.obj=some r)
  (Jg:df (id::bw r.2)=true) (hi:i<rows.length) (ID:CD hl i=true) (kT:e.cw=none) (BO:e.sv= .undef) (how:e.ow=(id,some (.deep t' ct ts (rows.set i (bX (rows.getD i []) off r.1)) none))::eB r.2):Good P w0 S st o e a w:=by
 obtain⟨ti,F8,bD⟩:=ba dF
 obtain⟨β,φ,hc⟩:=hR.core
 have hx:=hc.ev h1
 simp only[aq] at hx
 obtain⟨g,hg,hx⟩:=hx
 obtain⟨f8,bk⟩:=dU (hc.ev h2) fI
 have ka:=ah.length _ _ f8
 have mU:(a.eval y).cells.size=bT.length:=by simpa using ka
 obtain⟨kW,Cj⟩:=dh hc _ _ _ _ r f8 hr
 have IY:=dm.cells _ _ _ _ _ kW
 obtain⟨mX,Lf⟩:=dg Jg
 have Bs:=d3 hc Cj Lf
 have JQ:∀b∈r.2.flatMap (aF β),∃k∈bw r.2,∃ob,st.obj k=some ob∧b∈ar β k ob:=du Cj
 obtain⟨vals,a7,bd,di,js,kA⟩:=hc.aC id _ aS
 have kV:g∈ar β id (.deep t' ct ts rows hl):=by simp [ar,hg]
 rcases bd.2 with ⟨hv,h0,_⟩ | ⟨g',cap,cur,hv,hh,AZ,D3,ml,E8⟩
 ·omega
 have Hr:g'=g:=by simpa [hv,Value.ownBlock] using hg
 subst Hr
 simp only[aQ] at hh
 have Dk:(a.eval y).cells.toList.length=bT.length:=by simpa using mU
 have bA:=AB (P:=P) ho hx F8 (bD.trans mU.symm) bk hh hi AZ ml (by rw[Dk];exact dX)
 have H8:=bd.written (off:=off) (nu:=(a.eval y).cells.toList) hg hi (by rw[Dk];exact dX) hh ml AZ
 generalize (a.eval y).cells.toList=nu at*
 rw[←Dk] at dX hf IY hr
 have kq:i<a7.length:=by rw[di.1];exact hi
 have eP:=di.2 i (rows.getD i []) a7[i] (cI hi) (by simp)
 have GJ:(ct.take off).length=off:=by simp;omega
 have bM:=ae.Gn (pre:=ct.take off) (part:=(ct.drop off).take nu.length) (suf:=ct.drop (off+nu.length)) (by rw[three];exact eP) (by rw[three];exact hf) IY
 rw[three,GJ] at bM
 have bG:=hc.fresh id _ aS
 have hnd:=bG.1
 rw[kA] at hnd
 have Cx:g'∈φ id:=ak (hc.aC id _ aS) g' kV
 have JT:∀b∈a7.flatten,b≠g':=by
  intro b hb e
  subst e
  rw[List.nodup_append] at hnd
  exact hnd.2.2 b (by simp [hg]) b hb rfl
 have F4:∀b∈r.2.flatMap (aF β),b ∉ φ id:=by
  intro b hb iG
  obtain⟨k,hk,ob,IK,Aj⟩:=JQ b hb
  exact hc.sep k id ob _ (fun e=>mX (e ▸ hk)) IK aS b (ak (hc.aC k ob IK) b Aj) iG
 have KM:∀b∈r.2.flatMap (aF β),b≠g':=fun b hb e=>F4 b hb (e ▸ Cx)
 have kt:∀j m',a7[j]? =some m'→∀b∈m',b∈a7.flatten:=fun j m' hj b hb=>List.mem_flatten.2 ⟨m',List.mem_of_getElem? hj,hb⟩
 have Kt:∀j,j≠i→(none:Option Value)=hZ β hl j:=by
  intro j hj
  cases hl with
  | none=>rfl
  | some q=>
   obtain⟨k,nid⟩:=q
   have:=aM ID
   subst this
   simp [hZ,hj]
 have mo:=di.set (w':=w.setRow g' (cur.toList.take (i*ct.length+off)++(nu++cur.toList.drop (i*ct.length+off+nu.length))).toArray) (hv':=fun _=>none) (by simp) bd.1 hi dX
  (fun j _ m' hj b hb=>setRow_other w g' b _ (JT b (kt j m' hj b hb))) Kt
  (ae.mono (by simp) _ _ _ _ _ bM (fun b hb=>setRow_other w g' b _ (KM b hb)))
 have E0:((β.val id).ownBlock.toList++(a7.set i (r.2.flatMap (aF β))).flatten).Nodup:=by
  rw[b_ kq]
  have h3:=hnd
  rw[bE kq] at h3
  have h4:=gK (A:=(β.val id).ownBlock.toList++(a7.take i).flatten) (p1:=[]) (p2:=a7[i]) (p3:=[]) (B:=(a7.drop (i+1)).flatten) (n:=r.2.flatMap (aF β)) (by simpa using h3) Bs
   (fun b hb iG=>F4 b hb (by rw[kA,bE kq];simpa using iG))
  simpa using h4
 refine iF hR hd bA (hR.kept.setRow (bG.2 g' Cx).1 _) ⟨β.fF id (a7.set i (r.2.flatMap (aF β))).flatten,aD φ id ((β.val id).ownBlock.toList++(a7.set i (r.2.flatMap (aF β))).flatten), ?_,by rw[BO];simp [aq]⟩
 rw[how,kT]
 refine hc.Dw (t:=t') (ct:=ct) (ts:=ts) (rows:=rows.set i (bX (rows.getD i []) off r.1)) (hl:=none) (G:=fun k=>k∈bw r.2) aS (fun k hk e=>mX (e ▸ hk)) (by simp [fo,aD,fc]) (fun j hj x hx=> ?_) (by simp) (fun b hb iG=>setRow_other w g' b _ (fun e=>iG (by rw[e,hg];simp))) (fun b hb=>by simp only[ar];exact aT _ hb) (fun b hb=> ?_) ?_ E0
 ·simp only[fo,aD,hj,if_false,fc] at hx
  rw[AR] at hx
  split at hx
  ·cases hx
  ·rename_i hk
   exact⟨hx,hk⟩
 ·rw[b_ kq] at hb
  simp only[List.mem_append] at hb
  rcases hb with hb | hb | hb
  ·left
   simp only[ar,js]
   rw[bE kq]
   simp [hb]
  ·right
   obtain⟨k,hk,ob,h3,h4⟩:=JQ b hb
   exact⟨k,ob,hk,h3,h4⟩
  ·left
   simp only[ar,js]
   rw[bE kq]
   simp [hb]
 ·exact⟨_,_,by simpa [Env.fF] using H8,mo,by simp [Env.fF,aD],by simp [Env.fF]⟩
theorem m8 (hR:Rel w0 S st a w) {d:Nat} (aX:o.dst=some d) (hd:bn st.n d) (ca:bL st d) {t:TypeId} {ct:List CT} {ts:List TypeId} {rows:List (List DC)} {w':World} {v:Value}
  (bA:(execOp a.eval o).run P w= .ok (.value v) w') (hk:Kept S w0 w') (hs:w.heap.size≤w'.heap.size) (hw:∀b,b<w.heap.size→w'.heap[b]? =w.heap[b]?)
  (hB:∀b∈v.ownBlock.toList,b=w.heap.size) {vals:List Value} (bd:cx w' t ct.length false v rows.length vals)
  (di:bQ w' ct ts rows vals (fun _=>none) (List.replicate rows.length []))
  (f8:e.sv= .own (ai d 0)) (kT:e.cw=none) (how:e.ow=[(ai d 0,some (.deep t ct ts rows none))]):Good P w0 S st o e a w:=by
 obtain⟨β,φ,hc⟩:=hR.core
 have bM:ai d 0 / 64=d:=cT d 0 (by omega)
 have hle:=hR.kept.size
 have BH:(List.replicate rows.length ([]:List Nat)).flatten=[]:=by simp
 have hval:(β.gn (ai d 0) v []).val (ai d 0)=v:=by simp [Env.gn,aD]
 have EZ:(β.gn (ai d 0) v []).nb (ai d 0)=[]:=by simp [Env.gn,aD]
 have F_:v.ownBlock.toList.Nodup:=by cases v.ownBlock<;>simp
 refine cg hR (fun d' h'=>by rw[aX] at h';injection h' with h';exact h' ▸ hd) bA hk
  ⟨β.gn (ai d 0) v [],aD φ (ai d 0) v.ownBlock.toList, ?_, ?_⟩
 ·rw[how,kT]
  refine hc.create hs hw (fun i hi=>ca.slot i _ hi bM) (fun j ob hj hi=>(ca.obj j ob hj).2 _ hi bM) ?_ (fun j hj=>⟨by simp [Env.gn,aD,hj],rfl⟩) ?_ ?_ F_ ?_ rfl (fun j hj=>by simp [Env.gn,aD,hj])
  ·cases hn:st.obj (ai d 0) with
   | none=>rfl
   | some ob=>exact absurd bM (ca.obj _ ob hn).1
  ·intro b hb
   simp only[ar,hval,EZ,List.append_nil] at hb
   rw[hB b hb]
   exact Nat.le_refl _
  ·exact⟨vals,List.replicate rows.length [],by rw[hval];exact bd,di,by rw[EZ,BH],by rw[hval,BH,List.append_nil]⟩
  ·intro b hb
   have h1:=hB b hb
   subst h1
   refine⟨⟨.inl hle,bd.lt _ hb⟩,fun j ob hj bz=> ?_⟩
   have:=((hc.fresh j ob hj).2 _ bz).2
   omega
 ·rw[f8]
  unfold aq
  exact⟨hval.symm,bd.one⟩
theorem i6 {α:Type} (z:List α):∀(n k:Nat),k<n→(((List.replicate n z).flatten).drop (k*z.length)).take z.length=z
 | 0,k,h=>by omega
 | n+1,0,_=>by simp [List.replicate_succ]
 | n+1,k+1,h=>by
  rw[List.replicate_succ,List.flatten_cons,Nat.succ_mul,Nat.add_comm,List.drop_append,List.drop_of_length_le (by omega),List.nil_append]
  rw[show z.length+k*z.length - z.length=k*z.length by omega]
  exact i6 z n k (by omega)
theorem bQ.replicate {ct:List CT} {ts:List TypeId} {r:List DC} {z:List Value} (h:ae w none ct ts r z []) (hl:z.length=ct.length) (n:Nat):bQ w ct ts (List.replicate n r) (List.replicate n z).flatten (fun _=>none) (List.replicate n []):=by
 refine⟨by simp,fun i r' m hi hm=> ?_⟩
 have di:i<n:=by have:=(List.getElem?_eq_some_iff.1 hi).1;simpa using this
 rw[List.getElem?_replicate_of_lt di,aa] at hi hm
 subst hi hm
 rw[←hl,i6 z n i di]
 exact h
theorem Dt:∀ {U:List MU},bw U=[]→U.flatMap (aF β)=[]
 | [],_=>rfl
 | x::l,h=>by
  cases x<;>simp [bw] at h
  simp [aF,Dt h]
theorem B7 (hR:Rel w0 S st a w) {d:Nat} (aX:o.dst=some d) (hd:bn st.n d) (ca:bL st d) {t et:TypeId} {l c:Operand} (ho:o.op= .makeSlice t l c) {n m:Int} {ct:List CT} {ts:List TypeId} {i:TypeInfo} {z:List SV} {r:List DC×List MU}
  (hl:(cm l).val st.get st.obj=some (.int .i64 n)) (hm:(cm c).val st.get st.obj=some (.int .i64 m)) (hu:P.underlying t=some (.slice et)) (hi:P.info? et=some i) (dF:i.size=ct.length)
  (hz:(dR P et).val st.get st.obj=some z) (hr:(a9 ct ts z).val st.get st.obj=some r) (Cj:bw r.2=[])
  (he:e= {sv:= .own (ai d 0),ow:=[(ai d 0,some (.deep et ct ts (List.replicate n.toNat r.1) none))],ok:=decide (0≤n) && decide (n≤m) && decide (m.toNat*i.bytes≤140737488355328) && decide (m≤9223372036854775807)})
  (aP:e.ok=true):Good P w0 S st o e a w:=by
 subst he
 simp only[aw,eX] at aP
 obtain⟨⟨⟨h0,I1⟩,Bm⟩,JR⟩:=aP
 obtain⟨i',zv,dY,mZ,rfl,bk⟩:=dE hz
 rw[hi] at dY
 injection dY with dY
 subst dY
 obtain⟨Jz,JA,Cg⟩:=hR.core
 obtain⟨kW,_⟩:=dh Cg ct ts _ _ r (eS zv.cells.toList) hr
 have Bn:=dm.cells _ _ _ _ _ kW
 rw[Dt Cj] at Bn
 have jP:zv.cells.toList.length=ct.length:=(ae.length _ _ _ _ _ Bn).1
 have EW:(madeCells zv.cells (m.toNat*i.size)).toList=(List.replicate m.toNat zv.cells.toList).flatten:=by
  have:=Ds zv.cells m.toNat
  rw[dF,←jP]
  simpa using this
 have hx:=Cg.ev hl
 have hy:=Cg.ev hm
 simp only[aq] at hx hy
 have hb:(i.bytes:Int)*m≤281474976710656:=by
  have h1:((m.toNat*i.bytes:Nat):Int)≤140737488355328:=by omega
  rw[Int.natCast_mul,Int.toNat_of_nonneg (by omega),Int.mul_comm] at h1
  omega
 have bA:=run_make (P:=P) w t et i zv hu hi mZ .i64 .i64 n m h0 I1 hb JR
 refine m8 hR aX hd ca (vals:=(List.replicate n.toNat zv.cells.toList).flatten) (v:= .slice (some ⟨w.heap.size,0,none⟩) n.toNat m.toNat)
  (w':=w.alloc (.cells (madeCells zv.cells (m.toNat*i.size)) et)) ?_ (hR.kept.alloc _) (by rw[cy];omega) (fun b hb=>alloc_old _ b hb) (by simp [Value.ownBlock]) ?_ ?_ rfl rfl rfl
 ·simp [execOp,ho,hx.1,hy.1,bA]
 ·refine⟨by simp [jP],.inr ⟨w.heap.size,m.toNat,_,by simp,by simpa using ep _,by simp;omega,by simp only[maxLen];omega,by rw[size_madeCells,dF], ?_⟩⟩
  rw[EW]
  have:List.replicate m.toNat zv.cells.toList=List.replicate n.toNat zv.cells.toList++List.replicate (m.toNat - n.toNat) zv.cells.toList:=by
   rw[List.replicate_append_replicate]
   congr 1
   omega
  rw[this,List.flatten_append,List.take_append_of_le_length (by simp [jP]),List.take_of_length_le (by simp [jP])]
 ·rw[List.length_replicate]
  exact bQ.replicate (ae.mono (by rw[cy];omega) _ _ _ _ _ Bn (by simp)) jP _
theorem DS (hc:Core w0 S f h β φ tm w) {id nid i:Nat} {t t1:TypeId} {ct e2:List CT} {rows r:List (List DC)} {u:Bool} {h':Nat→Option ao} (aS:h id=some (.deep t ct [t1] rows (some (i,nid)))) (hn:h nid=some (.row t1 e2 r false u)) (kv:∃e',ct[ek ct]? =some (.sl e')∧e'=e2) (EG:aJ ct=1)
  (cQ:nid≠id) (hf:ax e2=true) (hh:h' id=some (.deep t ct [t1] (rows.set i (bX (rows.getD i []) (ek ct) [.sl r])) none)) (DK:∀j,j≠id→h' j=if j=nid then none else h j):
  ∃β' φ',Core w0 S f h' β' φ' tm w:=by
 obtain⟨e',kv,rfl⟩:=kv
 obtain⟨vals,a7,bd,di,js,kA⟩:=hc.aC id _ aS
 obtain⟨Ce,mR,I8,jJ,_,_⟩:=hc.aC nid _ hn
 have hnd:=(hc.fresh id _ aS).1
 rw[kA] at hnd
 have LL:ar β nid (.row t1 e' r false u)=(β.val nid).ownBlock.toList:=rfl
 have F4:∀b∈(β.val nid).ownBlock.toList,b ∉ φ id:=fun b hb=>hc.sep nid id _ _ cQ hn aS b (ak (hc.aC nid _ hn) b (LL ▸ hb))
 have F_:(β.val nid).ownBlock.toList.Nodup:=by cases (β.val nid).ownBlock<;>simp
 have kt:∀b∈(a7.set i (β.val nid).ownBlock.toList).flatten,b∈a7.flatten∨b∈(β.val nid).ownBlock.toList:=by
  intro b hb
  by_cases hi:i<a7.length
  ·rw[b_ hi] at hb
   rw[bE hi]
   simp only[List.mem_append] at hb ⊢
   rcases hb with hb | hb | hb<;>simp [hb]
  ·rw[List.set_eq_of_length_le (by omega)] at hb
   exact .inl hb
 have E0:((β.val id).ownBlock.toList++(a7.set i (β.val nid).ownBlock.toList).flatten).Nodup:=by
  by_cases hi:i<a7.length
  ·rw[b_ hi]
   have h3:=hnd
   rw[bE hi] at h3
   have h4:=gK (A:=(β.val id).ownBlock.toList++(a7.take i).flatten) (p1:=[]) (p2:=a7[i]) (p3:=[]) (B:=(a7.drop (i+1)).flatten) (n:=(β.val nid).ownBlock.toList) (by simpa using h3) F_
    (fun b hb iG=>F4 b hb (by rw[kA,bE hi];simpa using iG))
   simpa using h4
  ·rw[List.set_eq_of_length_le (by omega)]
   exact hnd
 refine⟨β.fF id (a7.set i (β.val nid).ownBlock.toList).flatten,aD φ id ((β.val id).ownBlock.toList++(a7.set i (β.val nid).ownBlock.toList).flatten), ?_⟩
 refine hc.Dw (t:=t) (ct:=ct) (ts:=[t1]) (rows:=rows.set i (bX (rows.getD i []) (ek ct) [.sl r])) (hl:=none) (G:=fun k=>k=nid) aS (fun k hk e=>cQ (hk ▸ e)) hh (fun j hj x hx=> ?_) (Nat.le_refl _) (fun _ _ _=>rfl) (fun b hb=>by simp only[ar];exact aT _ hb) (fun b hb=> ?_) ?_ E0
 ·rw[DK j hj] at hx
  split at hx
  ·cases hx
  ·rename_i hk
   exact⟨hx,hk⟩
 ·rcases kt b hb with hb | hb
  ·left
   simp only[ar,js]
   exact aK _ hb
  ·exact .inr ⟨nid,_,rfl,hn,LL ▸ hb⟩
 ·refine⟨vals,a7.set i (β.val nid).ownBlock.toList,by simpa [Env.fF] using bd,⟨by simp [di.1],fun k r' m hk hm=> ?_⟩,by simp [Env.fF,aD],by simp [Env.fF]⟩
  by_cases Al:k=i
  ·subst Al
   have FI:k<rows.length:=by have:=(List.getElem?_eq_some_iff.1 hk).1;simpa using this
   have F0:k<a7.length:=by rw[di.1];exact FI
   rw[List.getElem?_set_self FI,aa] at hk
   rw[List.getElem?_set_self F0,aa] at hm
   subst hk hm
   have h3:=di.2 k (rows.getD k []) a7[k] (cI FI) (by simp)
   simp only[hZ,if_true] at h3
   exact ae.back _ e' t1 _ _ a7[k] kv EG h3 ⟨Ce,mR,I8,jJ,rfl⟩
  ·rw[List.getElem?_set_ne (Ne.symm Al)] at hk hm
   have:=di.2 k r' m hk hm
   simp only[hZ,Al,if_false] at this
   exact this
end
end Go.Proofs.YtnlkklmcfafgeaaGreat.Vm
set_option linter.unusedVariables false
set_option linter.unusedSimpArgs false
namespace Go.Proofs.YtnlkklmcfafgeaaGreat.Vm
section
variable {P:Program} {Γ:Ctx} {w0:World} {S:Own} {st:St} {o:Oper} {e:cS} {a:Act} {w w':World}
variable {f:Nat→SV} {h:Nat→Option ao} {β:Env} {φ:Nat→List Nat} {tm:Array Value}
theorem Core.compose (hc:Core w0 S f h β φ tm w) {id:Nat} {G:Nat→Prop} {h':Nat→Option ao} {v':Value} {t:TypeId} {ct:List CT} {ts:List TypeId} {rows:List (List DC)} {vals:List Value} {a7:List (List Nat)}
  (dA:∀i,id ∉ cb (f i)) (Cy:∀j x,h j=some x→id ∉ cK x) (LJ:h id=none)
  (hh:h' id=some (.deep t ct ts rows none)) (DK:∀j,j≠id→∀x,h' j=some x→h j=some x∧¬G j)
  (hs:w.heap.size≤w'.heap.size) (hk:w0.heap.size≤w.heap.size) (hw:∀b,b<w.heap.size→(∀k x,G k→h k=some x→b ∉ ar β k x)→w'.heap[b]? =w.heap[b]?)
  (Mh:∀b∈v'.ownBlock.toList++a7.flatten,(∃k x,G k∧h k=some x∧b∈ar β k x)∨(b=w.heap.size∧b<w'.heap.size))
  (bd:cx w' t ct.length false v' rows.length vals) (di:bQ w' ct ts rows vals (fun _=>none) a7) (hnd:(v'.ownBlock.toList++a7.flatten).Nodup):
  Core w0 S f h' (β.gn id v' a7.flatten) (aD φ id (v'.ownBlock.toList++a7.flatten)) tm w':=by
 have hval:(β.gn id v' a7.flatten).val id=v':=by simp [Env.gn,aD]
 have EZ:(β.gn id v' a7.flatten).nb id=a7.flatten:=by simp [Env.gn,aD]
 have jf:∀j oj,j≠id→ar (β.gn id v' a7.flatten) j oj=ar β j oj:=by
  intro j oj hj
  cases oj<;>simp [ar,Env.gn,aD,hj]
 have Dh:∀b∈v'.ownBlock.toList++a7.flatten,((w0.heap.size≤b∨S b)∧b<w'.heap.size)∧(Av h β b∨w.heap.size≤b)∧∀j oj,h j=some oj→¬G j→b ∉ φ j:=by
  intro b hb
  rcases Mh b hb with ⟨k,x,Ky,hx,h1⟩ | ⟨h1,h2⟩
  ·have h2:=ak (hc.aC k x hx) b h1
   have h3:=(hc.fresh k x hx).2 b h2
   exact⟨⟨h3.1,by omega⟩,.inl (.inl ⟨k,x,hx,h1⟩),fun j oj je hg=>hc.sep k j x oj (fun e=>hg (e ▸ Ky)) hx je b h2⟩
  ·exact⟨⟨.inl (by omega),h2⟩,.inr (by omega),fun j oj je _ bz=>by have:=((hc.fresh j oj je).2 b bz).2;omega⟩
 refine hc.mK (fun j=>j=id) hs (fun b hb hn=>hw b hb (fun k x _ hx Aj=>hn (.inl ⟨k,x,hx,Aj⟩))) ?_ (fun i j hj e=>dA i (e ▸ hj)) (fun j hj=>⟨by simp [Env.gn,aD,hj],rfl⟩) ?_ ?_
 ·rintro b (⟨j,oj,hj,bz⟩ | hb)
  case inr=>exact .inl (.inr hb)
  by_cases cn:j=id
  ·subst cn
   rw[hh,aa] at hj
   subst hj
   simp only[ar,hval,EZ] at bz
   exact (Dh b bz).2.1
  ·rw[jf j oj cn] at bz
   exact .inl (.inl ⟨j,oj,(DK j cn oj hj).1,bz⟩)
 ·intro j oj hj
  by_cases cn:j=id
  ·subst cn
   rw[hh,aa] at hj
   subst hj
   refine .inr ⟨?_,by simpa [aD] using hnd,fun b hb=>(Dh b (by simpa [aD] using hb)).1⟩
   exact⟨vals,a7,by rw[hval];exact bd,di,EZ,by rw[hval];simp [aD]⟩
  ·obtain⟨h1,hg⟩:=DK j cn oj hj
   refine .inl ⟨cn,h1,by simp [Env.gn,aD,cn],by simp [aD,cn],fun k Mw e=>Cy j oj h1 (e ▸ Mw),fun b hb=> ?_⟩
   have fK:=ak (hc.aC j oj h1) b hb
   exact hw b ((hc.fresh j oj h1).2 b fK).2 (fun k x Ky hx Aj=>hc.sep k j x oj (fun e=>hg (e ▸ Ky)) hx h1 b (ak (hc.aC k x hx) b Aj) fK)
 ·intro i j oi oj cQ hi hj b hb
  by_cases ly:i=id
  ·subst ly
   have gD:j≠i:=Ne.symm cQ
   simp only[aD,if_true] at hb
   simp only[aD,gD,if_false]
   obtain⟨h1,h2⟩:=DK j gD oj hj
   exact (Dh b hb).2.2 j oj h1 h2
  ·simp only[aD,ly,if_false] at hb
   obtain⟨h1,h2⟩:=DK i ly oi hi
   by_cases cn:j=id
   ·subst cn
    simp only[aD,if_true]
    exact fun aB=>(Dh b aB).2.2 i oi h1 h2 hb
   ·simp only[aD,cn,if_false]
    exact hc.sep i j oi oj cQ h1 (DK j cn oj hj).1 b hb
theorem bQ.append {ct:List CT} {ts:List TypeId} {r1 r2:List (List DC)} {v1 v2:List Value} {m1 m2:List (List Nat)} (h1:bQ w ct ts r1 v1 (fun _=>none) m1) (hl:v1.length=r1.length*ct.length) (h2:bQ w ct ts r2 v2 (fun _=>none) m2):
  bQ w ct ts (r1++r2) (v1++v2) (fun _=>none) (m1++m2):=by
 refine⟨by simp [h1.1,h2.1],fun i r m hi hm=> ?_⟩
 rw[List.getElem?_append] at hi hm
 rw[h1.1] at hm
 by_cases cz:i<r1.length
 ·rw[if_pos cz] at hi hm
  have hle:i*ct.length+ct.length≤v1.length:=by rw[hl,←Nat.succ_mul];exact Nat.mul_le_mul_right _ cz
  have:=h1.2 i r m hi hm
  rw[List.drop_append_of_le_length (by omega),List.take_append_of_le_length (by simp;omega)]
  exact this
 ·rw[if_neg cz] at hi hm
  have:=h2.2 (i - r1.length) r m hi hm
  have e1:(v1++v2).drop (i*ct.length)=v2.drop ((i - r1.length)*ct.length):=by
   have EM:v1.length≤i*ct.length:=by rw[hl];exact Nat.mul_le_mul_right _ (by omega)
   rw[List.drop_append,List.drop_of_length_le EM,List.nil_append,hl,Nat.sub_mul]
  rw[e1]
  exact this
theorem ae.one:∀(cs:List CT) (ts:List TypeId) (ds:List DC) (us:List Value) (mb:List Nat),ae w none cs ts ds us mb→∀u∈us,u.oneCell'=true
 | [],_,_,_,_,h=>by
  simp only[ae] at h
  simp [h.2.2.1]
 | c::cs,_,_,_,_,h=>by
  rcases dy c with ⟨e,rfl⟩ | hc
  ·simp only[ae] at h
   obtain⟨t,ea,rows,bc,v,aW,m1,gw,rfl,rfl,rfl,_,⟨vals,aE,g1,_⟩,h6,rfl⟩:=h
   intro u hu
   rcases List.mem_cons.1 hu with rfl | hu
   ·exact g1.one
   ·exact ae.one cs _ _ _ _ h6 u hu
  ·rw[ae.flat hc] at h
   obtain⟨d,bc,v,aW,rfl,rfl,h3,h4⟩:=h
   intro u hu
   rcases List.mem_cons.1 hu with rfl | hu
   ·exact h3.one
   ·exact ae.one cs _ _ _ _ h4 u hu
theorem bQ.one {ct:List CT} {ts:List TypeId} {rows:List (List DC)} {vals:List Value} {a7:List (List Nat)} (h:bQ w ct ts rows vals (fun _=>none) a7) (hl:vals.length=rows.length*ct.length) (hp:0<ct.length):∀u∈vals,u.oneCell'=true:=by
 intro u hu
 obtain⟨p,KY,rfl⟩:=List.getElem_of_mem hu
 have hi:p / ct.length<rows.length:=by rw[Nat.div_lt_iff_lt_mul hp];omega
 have hj:=Nat.mod_lt p hp
 have hm:p / ct.length<a7.length:=by rw[h.1];exact hi
 have hc:=h.2 (p / ct.length) rows[p / ct.length] a7[p / ct.length] (by simp) (by simp)
 refine ae.one _ _ _ _ _ hc _ (List.mem_of_getElem? (i:=p % ct.length) ?_)
 rw[List.getElem?_take,if_pos hj,List.getElem?_drop]
 have:p / ct.length*ct.length+p % ct.length=p:=by rw[Nat.mul_comm];exact Nat.div_add_mod p ct.length
 rw[this]
 simp [KY]
theorem Bz (hc:Core w0 S f h β φ tm w) {et:TypeId} {ct:List CT} {ts:List TypeId} {s:SV} {v:Value} {q:List (List DC)×List Nat} (hs:aq w (Av h β) β s v) (hq:(Ae et ct ts s).val f h=some q):
  ∃vals a7,cx w et ct.length false v q.1.length vals∧bQ w ct ts q.1 vals (fun _=>none) a7∧(v.ownBlock.toList++a7.flatten).Nodup∧
   ((q.2=[]∧v= .slice none 0 0∧a7=[])∨∃id,q.2=[id]∧∃x,h id=some x∧ar β id x=v.ownBlock.toList++a7.flatten):=by
 unfold Ae at hq
 split at hq
 ·simp only[M.ab,aa] at hq
  subst hq
  simp only[aq] at hs
  subst hs
  exact⟨[],[],⟨by simp,.inl ⟨rfl,rfl,rfl⟩⟩,⟨rfl,by simp⟩,by simp [Value.ownBlock],.inl ⟨rfl,rfl,rfl⟩⟩
 ·rename_i id
  simp only[M.a8,af] at hq
  obtain⟨ob,aS,hq⟩:=hq
  simp only[aq] at hs
  split at hq
  ·rename_i t' e' ea r
   cases hb:Nat.beq t' et && aL e' ct && fR ea ts
   ·simp [hb] at hq
   simp only[hb,aj,M.ab,aa] at hq
   subst hq
   simp only[aw] at hb
   have b1:=aM hb.1.1
   have b2:=aR _ _ hb.1.2
   have b3:=gr _ _ hb.2
   subst b1 b2 b3
   have ca:=(hc.fresh id _ aS).1
   obtain⟨vals,a7,g1,g2,g3,g4⟩:=hc.aC id _ aS
   rw[g4] at ca
   rw[←hs.1] at g1 ca
   exact⟨vals,a7,g1,g2,ca,.inr ⟨id,rfl,_,aS,by simp only[ar,g3,hs.1]⟩⟩
  ·simp at hq
 ·simp at hq
theorem EA:∀(ids:List Nat) (h:Nat→Option ao) (j:Nat),fo (gone ids) h j=if j∈ids then none else h j
 | [],h,j=>by simp [gone,fo]
 | i::l,h,j=>by
  have ih:=EA l h j
  show aD (fo (gone l) h) i none j=_
  simp only[aD,List.mem_cons]
  by_cases hj:j=i
  ·simp [hj]
  ·simp only[hj,if_false,false_or]
   exact ih
theorem CL {l m:List Nat} (hn:df (l++m)=true):∀i∈l,i ∉ m:=by
 induction l with
 | nil=>simp
 | cons x l ih=>
  obtain⟨h1,h2⟩:=dg (i:=x) (l:=l++m) hn
  intro i hi
  rcases List.mem_cons.1 hi with rfl | hi
  ·exact fun hm=>h1 (aK _ hm)
  ·exact ih h2 i hi
theorem m5 (hR:Rel w0 S st a w) {d:Nat} (aX:o.dst=some d) (hd:bn st.n d) (ca:bL st d) {t et:TypeId} {s x:Operand} {c:Call} (ho:o.op= .call c) (hb:c.callee= .builtin .append) (cD:c.args= #[s,x])
  (FX:c.argTypes= #[t,t]) {ss sx:SV} {ct:List CT} {ts:List TypeId} {p q:List (List DC)×List Nat} {z:List SV} (h1:(cm s).val st.get st.obj=some ss) (h2:(cm x).val st.get st.obj=some sx) (hu:P.underlying t=some (.slice et))
  (dF:bb P et ct.length=true) (hp:0<ct.length) (hz:(dR P et).val st.get st.obj=some z) (jP:z.length=ct.length) (KZ:(Ae et ct ts ss).val st.get st.obj=some p) (K_:(Ae et ct ts sx).val st.get st.obj=some q) (hnd:df (p.2++q.2)=true)
  (eO:fD P et (p.1.length+q.1.length)=true) (f8:e.sv= .own (ai d 0)) (kT:e.cw=none)
  (how:e.ow=(ai d 0,some (.deep et ct ts (p.1++q.1) none))::gone (p.2++q.2)):Good P w0 S st o e a w:=by
 obtain⟨i,hi,bD⟩:=ba dF
 obtain⟨i',zv,dY,mZ,rfl,_⟩:=dE hz
 rw[hi] at dY
 injection dY with dY
 subst dY
 obtain⟨β,φ,hc⟩:=hR.core
 obtain⟨G3,CI,o1,d1,n1,k1⟩:=Bz hc (hc.ev h1) KZ
 obtain⟨Ce,CJ,o2,d2,n2,k2⟩:=Bz hc (hc.ev h2) K_
 have bk:=d2.one o2.1 hp
 obtain⟨Q,cc,GU,H7,hcell⟩:∃Q cc,a.eval x= .slice Q q.1.length cc∧(Q=none→q.1.length=0)∧∀ad,Q=some ad→∀j u,Ce[j]? =some u→w.cell? (ad.add j)=some u:=by
  rcases o2.2 with ⟨hv,h0,_⟩ | ⟨g,cap,cur,hv,_⟩
  ·exact⟨none,0,by rw[hv,h0],fun _=>h0,by simp⟩
  ·refine⟨some ⟨g,0,none⟩,cap,hv,by simp,fun ad H3 j u hj=> ?_⟩
   simp only[aa] at H3
   subst H3
   rw[dw]
   have:=o2.cell (g:=g) (by rw[hv];rfl) hj
   simpa using this
 obtain⟨v',w',bA,gj,dn,jG⟩:=ja (P:=P) (ty:=o.type) (c:=cc) hu hi mZ bD (by simpa using jP) hp o1 o2.1 H7 hcell bk eO
 have bM:ai d 0 / 64=d:=cT d 0 (by omega)
 have ET:∀b∈(a.eval s).ownBlock.toList++CI.flatten,∃k y,k∈p.2∧st.obj k=some y∧b∈ar β k y:=by
  intro b aB
  rcases k1 with ⟨_,hv,hm⟩ | ⟨id,dZ,y,hy,ht⟩
  ·rw[hv,hm] at aB;simp [Value.ownBlock] at aB
  ·exact⟨id,y,by rw[dZ];simp,hy,by rw[ht];exact aB⟩
 have jJ:∀b∈(a.eval x).ownBlock.toList++CJ.flatten,∃k y,k∈q.2∧st.obj k=some y∧b∈ar β k y:=by
  intro b aB
  rcases k2 with ⟨_,hv,hm⟩ | ⟨id,dZ,y,hy,ht⟩
  ·rw[hv,hm] at aB;simp [Value.ownBlock] at aB
  ·exact⟨id,y,by rw[dZ];simp,hy,by rw[ht];exact aB⟩
 have Hl:=CL hnd
 have Ct:∀b∈(a.eval s).ownBlock.toList++CI.flatten,b ∉ (a.eval x).ownBlock.toList++CJ.flatten:=by
  intro b h3 h4
  obtain⟨k,y,hk,hy,GC⟩:=ET b h3
  obtain⟨k',y',Cz,Jk,iG⟩:=jJ b h4
  exact hc.sep k k' y y' (fun e=>Hl k hk (e ▸ Cz)) hy Jk b (ak (hc.aC k y hy) b GC) (ak (hc.aC k' y' Jk) b iG)
 have fU:∀b,b<w.heap.size→(a.eval s).ownBlock≠some b→w'.heap[b]? =w.heap[b]? :=fun b aB cQ=>dn.block b aB (fun e=>cQ e.symm)
 have F1:=d1.lt
 have F2:=d2.lt
 have KO:∀b∈CI.flatten,(a.eval s).ownBlock≠some b:=by
  intro b aB e
  rw[List.nodup_append] at n1
  exact n1.2.2 b (by rw[e];simp) b aB rfl
 have KP:∀b∈CJ.flatten,(a.eval s).ownBlock≠some b:=by
  intro b aB e
  exact Ct b (aT _ (by rw[e];simp)) (aK _ aB)
 have LN:∀b∈v'.ownBlock.toList,b∈(a.eval s).ownBlock.toList∨b=w.heap.size:=by
  intro b aB
  rcases jG with h3 | h3
  ·rw[h3] at aB;exact .inl aB
  ·rw[h3] at aB;exact .inr (by simpa using aB)
 have F_:v'.ownBlock.toList.Nodup:=by cases v'.ownBlock<;>simp
 have HA:(v'.ownBlock.toList++(CI++CJ).flatten).Nodup:=by
  rw[List.flatten_append,List.nodup_append]
  rw[List.nodup_append] at n1 n2
  refine⟨F_, ?_,fun b h3 b' h4 e=> ?_⟩
  ·rw[List.nodup_append]
   refine⟨n1.2.1,n2.2.1,fun b h3 b' h4 e=> ?_⟩
   subst e
   exact Ct b (aK _ h3) (aK _ h4)
  ·subst e
   rcases LN b h3 with h5 | h5
   ·rcases List.mem_append.1 h4 with h4 | h4
    ·exact n1.2.2 b h5 b h4 rfl
    ·exact Ct b (aT _ h5) (aK _ h4)
   ·rcases List.mem_append.1 h4 with h4 | h4
    ·have:=F1 b h4;omega
    ·have:=F2 b h4;omega
 have IA:bQ w' ct ts (p.1++q.1) (G3++Ce) (fun _=>none) (CI++CJ):=by
  refine bQ.append ?_ o1.1 ?_
  ·exact d1.mono dn.size (fun b aB=>fU b (F1 b aB) (KO b aB)) (fun _=>rfl)
  ·exact d2.mono dn.size (fun b aB=>fU b (F2 b aB) (KP b aB)) (fun _=>rfl)
 have I9:cx w' et ct.length false v' (p.1++q.1).length (G3++Ce):=by rw[fv];exact gj
 have IJ:∀b,(a.eval s).ownBlock=some b→w0.heap.size≤b∨S b:=by
  intro b aB
  obtain⟨k,y,_,hy,jH⟩:=ET b (aT _ (by rw[aB];simp))
  exact ((hc.fresh k y hy).2 b (ak (hc.aC k y hy) b jH)).1
 refine cg hR (fun d' h'=>by rw[aX] at h';injection h' with h';exact h' ▸ hd) (v:=v') (w':=w') ?_ (hR.kept.grown dn IJ)
  ⟨β.gn (ai d 0) v' (CI++CJ).flatten,aD φ (ai d 0) (v'.ownBlock.toList++(CI++CJ).flatten), ?_, ?_⟩
 ·simp [execOp,ho,resolve,hb,cD,FX,invoke,builtin,GU,bA]
 ·rw[how,kT]
  refine hc.compose (G:=fun k=>k∈p.2++q.2) (fun i hi=>ca.slot i _ hi bM) (fun j ob hj hi=>(ca.obj j ob hj).2 _ hi bM) ?_ (by simp [fo,aD,fc]) (fun j hj y hy=> ?_) dn.size hR.kept.size (fun b aB hn=> ?_) (fun b aB=> ?_) I9 IA HA
  ·cases hn:st.obj (ai d 0) with
   | none=>rfl
   | some ob=>exact absurd bM (ca.obj _ ob hn).1
  ·simp only[fo,aD,hj,if_false,fc] at hy
   rw[EA] at hy
   split at hy
   ·cases hy
   ·rename_i hk
    exact⟨hy,hk⟩
  ·refine fU b aB (fun e=> ?_)
   obtain⟨k,y,hk,hy,jH⟩:=ET b (aT _ (by rw[e];simp))
   exact hn k y (aT _ hk) hy jH
  ·rcases List.mem_append.1 aB with aB | aB
   ·rcases LN b aB with h3 | h3
    ·obtain⟨k,y,hk,hy,jH⟩:=ET b (aT _ h3)
     exact .inl ⟨k,y,aT _ hk,hy,jH⟩
    ·exact .inr ⟨h3,gj.lt b aB⟩
   ·rw[List.flatten_append] at aB
    rcases List.mem_append.1 aB with aB | aB
    ·obtain⟨k,y,hk,hy,jH⟩:=ET b (aK _ aB)
     exact .inl ⟨k,y,aT _ hk,hy,jH⟩
    ·obtain⟨k,y,hk,hy,jH⟩:=jJ b (aK _ aB)
     exact .inl ⟨k,y,aK _ hk,hy,jH⟩
 ·rw[f8]
  unfold aq
  exact⟨by simp [Env.gn,aD],gj.one⟩
theorem bQ.cons {ct:List CT} {ts:List TypeId} {r:List DC} {l:List Value} {m:List Nat} {rows:List (List DC)} {vals:List Value} {a7:List (List Nat)} (h1:ae w none ct ts r l m) (hl:l.length=ct.length) (h2:bQ w ct ts rows vals (fun _=>none) a7):
  bQ w ct ts (r::rows) (l++vals) (fun _=>none) (m::a7):=by
 have:=bQ.append (r1:=[r]) (v1:=l) (m1:=[m]) ⟨rfl,fun i r' m' hi hm=>by
  have Mu:i=0:=by
   have:=(List.getElem?_eq_some_iff.1 hi).1
   simpa using this
  subst Mu
  simp only[List.getElem?_cons_zero,aa] at hi hm
  subst hi hm
  rw[Nat.zero_mul,List.drop_zero,List.take_of_length_le (by omega)]
  exact h1⟩ (by simp [hl]) h2
 simpa using this
theorem iV (hc:Core w0 S st.get st.obj β φ a.tmps w) {ct:List CT} {ts:List TypeId} :∀(parts:List (Nat×Operand)) (k:Nat) (q:List (List DC)×List MU),(eu ct ts k parts).val st.get st.obj=some q→
  ∃(vals:List Value) (a7:List (List Nat)),vals.length=parts.length*ct.length∧q.1.length=parts.length∧bQ w ct ts q.1 vals (fun _=>none) a7∧a7.flatten=q.2.flatMap (aF β)∧c_ st.obj q.2∧
   ∀(pre suf:List Value),pre.length=k*ct.length→suf.length=parts.length*ct.length→
    Instr.fill (fun i=>some (i*ct.length,ct.length)) (pre++suf).toArray (parts.map fun x=>(x.1,a.eval x.2))=some (pre++vals).toArray
 | [],k,q,hq=>by
  simp only[eu,M.ab,aa] at hq
  subst hq
  refine⟨[],[],by simp,rfl,⟨rfl,by simp⟩,rfl,trivial,fun pre suf h1 h2=> ?_⟩
  have:suf=[]:=by simpa using h2
  subst this
  simp [Instr.fill]
 | (i,x)::rest,k,q,hq=>by
  simp only[eu] at hq
  cases D4:Nat.beq i k
  ·simp [D4] at hq
  have D4:=aM D4
  subst D4
  simp only[Nat.beq_refl,aj,M.ag,af,M.ab,aa] at hq
  obtain⟨s,hs,cs,fI,r,hr,q2,cE,rfl⟩:=hq
  obtain⟨f8,bk⟩:=dU (hc.ev hs) fI
  obtain⟨kW,KJ⟩:=dh hc ct ts _ _ r f8 hr
  have Bn:=dm.cells _ _ _ _ _ kW
  have LH:=(ae.length _ _ _ _ _ Bn).1
  have bD:(a.eval x).cells.size=ct.length:=by simpa using LH
  obtain⟨vals,a7,ka,IL,jJ,Kn,KK,Cv⟩:=iV hc rest (i+1) q2 cE
  refine⟨(a.eval x).cells.toList++vals,(r.2.flatMap (aF β))::a7, ?_,by simp [IL],bQ.cons Bn LH jJ,by simp [Kn],KJ.append KK, ?_⟩
  ·simp only[fv,ka,dx,Array.length_toList,bD,Nat.succ_mul]
   omega
  ·intro pre suf h1 h2
   simp only[dx,Nat.succ_mul] at h2
   simp only[List.map_cons]
   rw[km (off:=i*ct.length) (by rw[bD]) (by simp [h1,bD];omega)]
   have e1:((pre++suf).toArray.toList.take (i*ct.length)++((a.eval x).cells.toList++(pre++suf).toArray.toList.drop (i*ct.length+(a.eval x).cells.size)))=(pre++(a.eval x).cells.toList)++suf.drop ct.length:=by
    simp only[bD,←h1]
    simp [List.drop_append]
   rw[e1,Cv (pre++(a.eval x).cells.toList) (suf.drop ct.length) (by simp [h1,bD,Nat.succ_mul]) (by simp [h2])]
   simp
theorem Be (hR:Rel w0 S st a w) {d:Nat} (aX:o.dst=some d) (hd:bn st.n d) (ca:bL st d) {t et:TypeId} {len:Nat} {parts:Array (Nat×Operand)} (ho:o.op= .buildSlice t len parts) {ct:List CT} {ts:List TypeId} {q:List (List DC)×List MU}
  (hu:P.underlying t=some (.slice et)) (dF:bb P et ct.length=true) (jM:0<ct.length) (hlen:len=parts.toList.length) (Je:len*ct.length≤16777216) (hz:∃z,(dR P et).val st.get st.obj=some z)
  (hq:(eu ct ts 0 parts.toList).val st.get st.obj=some q) (hn:df (bw q.2)=true)
  (he:e= {sv:= .own (ai d 0),ow:=(ai d 0,some (.deep et ct ts q.1 none))::eB q.2}):Good P w0 S st o e a w:=by
 subst he
 obtain⟨i,hi,bD⟩:=ba dF
 obtain⟨β,φ,hc⟩:=hR.core
 obtain⟨vals,a7,A4,F7,di,eF,Cj,kU⟩:=iV hc parts.toList 0 q hq
 obtain⟨z,hz⟩:=hz
 obtain⟨i',zv,dY,mZ,_,_⟩:=dE hz
 rw[hi] at dY
 injection dY with dY
 subst dY
 have hle:len≤maxLen:=by
  have:len≤len*ct.length:=Nat.le_mul_of_pos_right _ jM
  simp only[maxLen]
  omega
 have bA:(Instr.buildSlice t len (parts.map fun x=>(x.1,a.eval x.2))).run P w= .ok (.slice (some ⟨w.heap.size,0,none⟩) len len) (w.alloc (.cells vals.toArray et)):=by
  rcases Nat.eq_zero_or_pos len with h0 | h0
  ·have hp:parts= #[]:=by
    have:parts.toList.length=0:=by omega
    simpa using this
   have hv:vals=[]:=by
    have:vals.length=0:=by rw[A4,←hlen,h0,Nat.zero_mul]
    simpa using this
   subst hp hv h0
   simp [Instr.buildSlice,run_underlying hu,sizeOf,typeInfo,hi,Instr.fill,newRow,Array.range_zero']
  ·refine run_buildSlice (P:=P) w t et len _ vals.toArray i zv hu hi mZ (by rw[bD];omega) (by rw[bD];exact Nat.ne_of_gt (Nat.mul_pos h0 jM)) ?_
   have:=kU [] ((Array.range (len*ct.length)).map (zv.cells[· % zv.cells.size]!)).toList (by simp) (by simp [hlen])
   rw[bD]
   generalize (Array.range (len*ct.length)).map (zv.cells[· % zv.cells.size]!)=A at this ⊢
   simpa using this
 have bM:ai d 0 / 64=d:=cT d 0 (by omega)
 have Bs:=d3 hc Cj hn
 have JQ:∀b∈q.2.flatMap (aF β),∃k∈bw q.2,∃ob,st.obj k=some ob∧b∈ar β k ob:=du Cj
 have cz:=di.lt
 have bd:cx (w.alloc (.cells vals.toArray et)) et ct.length false (.slice (some ⟨w.heap.size,0,none⟩) len len) q.1.length vals:=by
  refine⟨by rw[A4,F7],.inr ⟨w.heap.size,len,vals.toArray,by rw[F7,←hlen],by simpa using ep _,by rw[F7,←hlen];exact Nat.le_refl _,hle,by simp [A4,hlen], ?_⟩⟩
  rw[F7,←A4]
  simp
 refine cg hR (fun d' h'=>by rw[aX] at h';injection h' with h';exact h' ▸ hd) (v:= .slice (some ⟨w.heap.size,0,none⟩) len len) (w':=w.alloc (.cells vals.toArray et)) ?_ (hR.kept.alloc _)
  ⟨β.gn (ai d 0) (.slice (some ⟨w.heap.size,0,none⟩) len len) a7.flatten,aD φ (ai d 0) ([w.heap.size]++a7.flatten), ?_, ?_⟩
 ·simp [execOp,ho,bA]
 ·refine hc.compose (v':= .slice (some ⟨w.heap.size,0,none⟩) len len) (G:=fun k=>k∈bw q.2) (fun i hi=>ca.slot i _ hi bM) (fun j ob hj hi=>(ca.obj j ob hj).2 _ hi bM) ?_ (by simp [fo,aD,fc]) (fun j hj y hy=> ?_) (by rw[cy];omega) hR.kept.size (fun b aB _=>alloc_old _ b aB) (fun b aB=> ?_) bd (di.mono (by rw[cy];omega) (fun b aB=>alloc_old _ b (cz b aB)) (fun _=>rfl)) ?_
  ·cases hn:st.obj (ai d 0) with
   | none=>rfl
   | some ob=>exact absurd bM (ca.obj _ ob hn).1
  ·simp only[fo,aD,hj,if_false,fc] at hy
   rw[AR] at hy
   split at hy
   ·cases hy
   ·rename_i hk
    exact⟨hy,hk⟩
  ·rcases List.mem_append.1 aB with aB | aB
   ·right
    have:b=w.heap.size:=by simpa [Value.ownBlock] using aB
    exact⟨this,by rw[cy];omega⟩
   ·left
    rw[eF] at aB
    obtain⟨k,hk,ob,h3,h4⟩:=JQ b aB
    exact⟨k,ob,hk,h3,h4⟩
  ·rw[List.nodup_append]
   refine⟨by simp [Value.ownBlock],by rw[eF];exact Bs,fun b h3 b' h4 e=> ?_⟩
   subst e
   have h5:b=w.heap.size:=by simpa [Value.ownBlock] using h3
   have:=cz b h4
   omega
 ·unfold aq
  exact⟨by simp [Env.gn,aD],rfl⟩
end
end Go.Proofs.YtnlkklmcfafgeaaGreat.Vm
set_option linter.unusedVariables false
set_option linter.unusedSimpArgs false
namespace Go.Proofs.YtnlkklmcfafgeaaGreat.Vm
section
variable {P:Program} {Γ:Ctx} {w0:World} {S:Own} {st:St} {o:Oper} {e:cS} {a:Act} {w:World}
variable {f:Nat→SV} {h:Nat→Option ao} {β:Env} {φ:Nat→List Nat} {tm:Array Value}
def bH (b:List UInt8):List Value:=b.map fun c=>Value.int .u8 c.toNat
theorem dW (k:Nat) (b:List UInt8) (w:World):(Builtin.firstCells k b.length (.string ⟨b.toArray⟩)).run P w= .ok (bH b).toArray w:=by
 have:((⟨b.toArray⟩:ByteArray).extract 0 b.length).data.map (fun c=>Value.int .u8 c.toNat)=(bH b).toArray:=by
  rw[iz]
  simp [bH]
 simp only[Builtin.firstCells,Sem.run_pure,this]
theorem Bv {t u ty et:TypeId} {i:TypeInfo} {zv:Value} (ht:P.underlying t=some (.slice et)) (hu:P.underlying u=some .string) (hi:P.info? et=some i) (hz:i.zero=some zv) (dF:i.size=1) (Lj:zv.cells.size=1)
  {v:Value} {n:Nat} {vals:List Value} (bd:cx w et 1 false v n vals) (b:List UInt8) (eO:fD P et (n+b.length)=true):
  ∃v' w',(Builtin.append_ #[t,u] ty #[v,.string ⟨b.toArray⟩]).run P w= .ok v' w'∧cx w' et 1 false v' (n+b.length) (vals++bH b)∧w.grownBy w' v.ownBlock∧(v'.ownBlock=v.ownBlock∨v'.ownBlock=some w.heap.size):=by
 obtain⟨EE,IP⟩:=B0 hi eO
 have Ld:n+b.length≤9223372036854775807:=by simp only[maxLen] at IP;omega
 have HB:(bH b).length=b.length:=by simp [bH]
 have bk:∀u∈bH b,u.oneCell'=true:=by
  intro u hu
  obtain⟨c,_,rfl⟩:=List.mem_map.1 hu
  rfl
 have hlen:(vals++bH b).length=(n+b.length)*1:=by rw[fv,bd.1,HB];omega
 have grown:∀(lN:Nat),lN<n+b.length→∀(row:Option Nat),
   cx (w.drew.alloc (.cells (vals.toArray++(bH b).toArray++Builtin.zeroCells zv.cells (grownCap w (n+b.length) lN et - (n+b.length))) et)) et 1 false
    (.slice (some ⟨w.heap.size,0,none⟩) (n+b.length) (grownCap w (n+b.length) lN et)) (n+b.length) (vals++bH b)∧
   w.grownBy (w.drew.alloc (.cells (vals.toArray++(bH b).toArray++Builtin.zeroCells zv.cells (grownCap w (n+b.length) lN et - (n+b.length))) et)) row:=by
  intro lN ho row
  have EM:=grownCap_ge w (n+b.length) lN et
  have D3:grownCap w (n+b.length) lN et≤maxLen:=grownCap_le_maxLen w (n+b.length) lN et IP
  refine⟨⟨hlen,.inr ⟨w.heap.size,_,_,rfl,heap_alloc_new w.drew _,EM,D3, ?_, ?_⟩⟩,⟨rfl,rfl,rfl,by simp,fun k hk _=>heap_alloc_old w.drew _ hk⟩⟩
  ·simp only[Array.size_append,List.size_toArray,size_zeroCells,Lj,bd.1,HB]
   omega
  ·simp only[Array.toList_append,List.append_assoc]
   rw[←List.append_assoc,←hlen]
   exact List.take_left
 rcases bd.2 with ⟨rfl,rfl,_⟩ | ⟨g,cap,cur,rfl,hg,AZ,D3,fI,E7⟩
 ·have hx:vals=[]:=List.eq_nil_of_length_eq_zero (by simpa using bd.1)
  subst hx
  by_cases hm:b.length=0
  ·have Me:b=[]:=List.eq_nil_of_length_eq_zero hm
   subst Me
   refine⟨.slice none 0 0,w, ?_,⟨by simp [bH],.inl ⟨rfl,rfl,rfl⟩⟩,⟨rfl,rfl,rfl,Nat.le_refl _,fun _ _ _=>rfl⟩,.inl rfl⟩
   have hf:=dW (P:=P) i.size [] w
   simp [Builtin.append_,run_underlying ht,run_underlying hu,sizeOf,typeInfo,hi,Builtin.lenOf,dD] at hf ⊢
   simp [hf]
  ·have hn:¬(b.length=0):=hm
   have Hd:¬(9223372036854775807<(b.length:Int)):=by omega
   have Hc:¬(281474976710656<Builtin.nextslicecap b.length 0*i.bytes):=by
    have hb:=EE
    rw[Nat.zero_add] at hb
    rw[nextslicecap_zero (by omega)]
    omega
   have hf:=dW (P:=P) i.size b w.drew
   have hr:(Builtin.append_ #[t,u] ty #[.slice none 0 0,.string ⟨b.toArray⟩]).run P w=
     .ok (.slice (some ⟨w.heap.size,0,none⟩) b.length (grownCap w b.length 0 et)) (w.drew.alloc (.cells ((bH b).toArray++Builtin.zeroCells zv.cells (grownCap w b.length 0 et - b.length)) et)):=by
    simp [Builtin.append_,run_underlying ht,run_underlying hu,sizeOf,typeInfo,zeroValue,hi,hz,Builtin.lenOf,dD,hn,Hd,Hc,Question.forced,run_firstCells_none,hf,newRow,grownCap]
   have H6:=grown 0 (by omega) (Value.ownBlock (.slice none 0 0))
   simp only[Nat.zero_add,List.nil_append,Array.empty_append] at H6 ⊢
   exact⟨_,_,hr,H6.1,H6.2,.inr rfl⟩
 ·by_cases EJ:n+b.length≤cap
  ·have dX:n*1+(bH b).length≤cur.size:=by rw[HB,fI];omega
   have hf:=dW (P:=P) 1 b w
   have H5:w.heap[g]? =some (.cells cur et (0,0)):=by simpa using hg
   have ic:=run_storeCells_at P g (n*1) et (bH b) 0 cur w H5 (by simpa using dX) bk
   simp only[Nat.add_zero] at ic
   have hr:(Builtin.append_ #[t,u] ty #[.slice (some ⟨g,0,none⟩) n cap,.string ⟨b.toArray⟩]).run P w=
     .ok (.slice (some ⟨g,0,none⟩) (n+b.length) cap) (w.setRow g (cur.toList.take (n*1)++bH b++cur.toList.drop (n*1+(bH b).length)).toArray):=by
    simp only[Nat.mul_one] at ic
    simp [Builtin.append_,run_underlying ht,run_underlying hu,sizeOf,typeInfo,hi,dF,Builtin.lenOf,dD,EJ,hf,Addr.add_lit,ic]
   refine⟨_,_,hr,⟨hlen,.inr ⟨g,cap,_,rfl,setRow_heap w g cur _ et _ H5,EJ,D3, ?_, ?_⟩⟩,⟨rfl,rfl,rfl,by simp,fun k _ hk=>setRow_other w g k _ (fun e=>hk (by simp [Value.ownBlock,e]))⟩,.inl rfl⟩
   ·simp only[List.size_toArray,fv,List.length_take,List.length_drop,Array.length_toList]
    omega
   ·simp only[List.append_assoc]
    have E8:cur.toList.take (n*1)=vals:=E7
    rw[E8,←hlen]
    rw[←List.append_assoc]
    exact List.take_left
  ·have holds:∀j u,vals[j]? =some u→w.cell? ((⟨g,0,none⟩:Addr).add j)=some u:=bd.owns.cells (g:=g) rfl
   have hn:¬(n+b.length≤cap):=EJ
   have Hd:¬(9223372036854775807<((n:Int)+(b.length:Int))):=by omega
   have Hc:¬(281474976710656<Builtin.nextslicecap (n+b.length) cap*i.bytes):=by
    have:=growslice_fits (bytes:=i.bytes) (show cap<n+b.length by omega) EE
    omega
   have hf:=dW (P:=P) i.size b w.drew
   have JL:=run_firstCells_some (P:=P) w.drew i.size n ⟨g,0,none⟩ n cap vals (by rw[dF];exact bd.1) (by simpa using holds)
   have hr:(Builtin.append_ #[t,u] ty #[.slice (some ⟨g,0,none⟩) n cap,.string ⟨b.toArray⟩]).run P w=
     .ok (.slice (some ⟨w.heap.size,0,none⟩) (n+b.length) (grownCap w (n+b.length) cap et)) (w.drew.alloc (.cells (vals.toArray++(bH b).toArray++Builtin.zeroCells zv.cells (grownCap w (n+b.length) cap et - (n+b.length))) et)):=by
    simp [Builtin.append_,run_underlying ht,run_underlying hu,sizeOf,typeInfo,zeroValue,hi,hz,Builtin.lenOf,dD,hn,Hd,Hc,Question.forced,hf,JL,newRow,grownCap]
    congr 2
    apply Array.ext'
    simp [List.append_assoc]
   have H6:=grown cap (by omega) (Value.ownBlock (.slice (some ⟨g,0,none⟩) n cap))
   exact⟨_,_,hr,H6.1,H6.2,.inr rfl⟩
theorem FE (b:List UInt8):dS w [.int .u8] (b.map cY) (bH b) (List.replicate b.length []):=by
 refine⟨by simp [bH],fun k r' f' hk hf=> ?_⟩
 have FI:k<b.length:=by
  have:=(List.getElem?_eq_some_iff.1 hk).1
  simpa using this
 have E3:r'=cY b[k]:=by
  rw[List.getElem?_map,List.getElem?_eq_getElem FI] at hk
  simpa using hk.symm
 have Bo:f'=[]:=by
  have:=List.mem_of_getElem? hf
  exact (List.mem_replicate.1 this).2
 subst E3 Bo
 unfold cY
 simp only[bf,cd]
 refine⟨.int b[k].toNat,[],.int .u8 b[k].toNat,[],[],rfl, ?_,⟨_,rfl,rfl, ?_,rfl⟩,⟨rfl,rfl⟩,rfl⟩
 ·simp only[bH,dx,List.length_nil,Nat.zero_add,Nat.mul_one,Nat.add_zero]
  rw[List.getElem?_map,List.getElem?_eq_getElem FI]
  rfl
 ·rw[eG]
  have h1:IntKind.u8.min=0:=by decide
  have h2:IntKind.u8.max=255:=by decide
  have:=b[k].toNat_lt
  omega
theorem m6 (hR:Rel w0 S st a w) (hd:∀d,o.dst=some d→bn st.n d) (ca:e.ow≠[]→∀d,o.dst=some d→bL st d) {t t':TypeId} {s x:Operand} {c:Call} (ho:o.op= .call c) (hb:c.callee= .builtin .append) (cD:c.args= #[s,x])
  (FX:c.argTypes= #[t,t']) {sx sy:SV} (h1:(cm s).val st.get st.obj=some sx) (h2:(cm x).val st.get st.obj=some sy) (he:(AH P o.dst t t' sx sy).val st.get st.obj=some e) (aP:e.ok=true):Good P w0 S st o e a w:=by
 unfold AH at he
 split at he
 case h_2=>simp at he
 rename_i et d id b hu CE aX
 simp only[M.a8,af] at he
 obtain⟨ob,aS,he⟩:=he
 split at he
 case h_2=>simp at he
 rename_i t1 ct r u
 cases mY:Nat.beq t1 et && aL ct [.int .u8] && bb P et 1
 ·simp [mY] at he
 simp only[mY,aj,M.ag,af] at he
 obtain⟨z,hz,he⟩:=he
 cases jP:Nat.beq z.length 1
 ·simp [jP] at he
 simp only[jP,aj,M.ab,aa] at he
 simp only[aw] at mY
 have JV:=aM mY.1.1
 have BG:=aR _ _ mY.1.2
 subst JV BG
 have ca:=ca (by rw[←he];simp) d aX
 have eO:fD P t1 (r.length+b.length)=true:=by rw[←he] at aP;exact aP
 have Ga:=aM jP
 obtain⟨i,hi,bD⟩:=ba mY.2
 obtain⟨i',zv,dY,mZ,rfl,_⟩:=dE hz
 rw[hi] at dY
 injection dY with dY
 subst dY
 obtain⟨β,φ,hc⟩:=hR.core
 have E4:=hc.ev h1
 simp only[aq] at E4
 have LO:=hc.ev h2
 simp only[aq] at LO
 obtain⟨vals,aE,bd,di,Ht,kA⟩:=hc.aC id _ aS
 obtain⟨v',w',bA,gj,dn,jG⟩:=Bv (P:=P) (ty:=o.type) hu CE hi mZ bD (by simpa using Ga) bd b eO
 have eF:aE.flatten=[]:=di.flat rfl
 have HN:φ id=(β.val id).ownBlock.toList:=by rw[kA,eF];cases u<;>simp
 have bM:ai d 0 / 64=d:=cT d 0 (by omega)
 have IE:id≠ai d 0:=fun e=>(ca.obj id _ aS).1 (e ▸ bM)
 have gv:∀j,j≠ai d 0→(β.fY (ai d 0) v').val j=β.val j∧(β.fY (ai d 0) v').da j=β.da j:=by
  intro j hj
  exact⟨by simp [Env.fY,aD,hj],rfl⟩
 have hval:(β.fY (ai d 0) v').val (ai d 0)=v':=by simp [Env.fY,aD]
 have bG:=hc.fresh id _ aS
 have A0:v'.ownBlock.toList.Nodup:=by cases v'.ownBlock<;>simp
 have Ao:∀b∈v'.ownBlock.toList,b∈φ id∨b=w.heap.size:=by
  intro b aB
  rcases jG with h3 | h3
  ·rw[h3] at aB
   exact .inl (by rw[HN];exact aB)
  ·rw[h3] at aB
   exact .inr (by simpa using aB)
 have ia:∀b,(β.val id).ownBlock=some b→b∈φ id:=fun b aB=>by rw[HN,aB];simp
 have jL:∀j oj,aD (aD st.obj id none) (ai d 0) (some (.row t1 [.int .u8] (r++b.map cY) false u)) j=some oj→j≠ai d 0→j≠id∧st.obj j=some oj:=by
  intro j oj hj mq
  simp only[aD,mq,if_false] at hj
  split at hj
  ·cases hj
  ·exact⟨by assumption,hj⟩
 have fU:∀b,b<w.heap.size→(β.val id).ownBlock≠some b→w'.heap[b]? =w.heap[b]? :=fun b aB cQ=>dn.block b aB (fun e=>cQ e.symm)
 have BN:∀b∈v'.ownBlock.toList,∀j oj,j≠id→st.obj j=some oj→b ∉ φ j:=by
  intro b aB j oj hj je bz
  rcases Ao b aB with h3 | h3
  ·exact hc.sep id j _ _ (Ne.symm hj) aS je b h3 bz
  ·have:=((hc.fresh j oj je).2 b bz).2
   omega
 have AW:∀b',Av (aD (aD st.obj id none) (ai d 0) (some (.row t1 [.int .u8] (r++b.map cY) false u))) (β.fY (ai d 0) v') b'→Av st.obj β b'∨w.heap.size≤b':=by
  rintro b' (⟨j,oj,hj,bz⟩ | hb)
  case inr=>exact .inl (.inr hb)
  by_cases cn:j=ai d 0
  ·subst cn
   simp only[aD,if_true,aa] at hj
   subst hj
   simp only[ar,hval] at bz
   rcases Ao b' bz with h3 | h3
   ·exact .inl (.inl ⟨id,_,aS,by simp only[ar];rw[←HN];exact h3⟩)
   ·exact .inr (by omega)
  ·obtain⟨_,gi⟩:=jL j oj hj cn
   refine .inl (.inl ⟨j,oj,gi, ?_⟩)
   cases oj<;>simp only[ar,gv j cn] at bz ⊢ <;>exact bz
 refine cg hR hd (v:=v') (w':=w') ?_ (hR.kept.grown dn (fun b aB=>(bG.2 b (ia b aB)).1))
  ⟨β.fY (ai d 0) v',aD φ (ai d 0) v'.ownBlock.toList, ?_, ?_⟩
 ·simp [execOp,ho,resolve,hb,cD,FX,invoke,builtin,E4.1,LO.1,bA]
 ·rw[←he]
  show Core w0 S st.get (aD (aD st.obj id none) (ai d 0) (some (.row t1 [.int .u8] (r++b.map cY) false u))) _ _ _ _
  refine hc.step (fun j=>j=ai d 0) dn.size (fun b aB hn=>fU b aB (fun e=>hn (.inl ⟨id,_,aS,by simp [ar,e]⟩))) AW
   (fun k j hj e=>ca.slot k j hj (by rw[e];exact bM)) gv ?_ ?_
  ·intro j oj hj
   by_cases cn:j=ai d 0
   ·subst cn
    have gi:=hj
    simp only[aD,if_true,aa] at gi
    subst gi
    refine .inr ⟨?_,by simp only[aD,if_true];exact A0, ?_⟩
    ·have mo:=(di.append (by simpa using bd.1) (FE (w:=w) b)).mono (w':=w') dn.size (fun b aB=>by
      rw[List.flatten_append,eF] at aB
      simp at aB)
     refine⟨vals++bH b,aE++List.replicate b.length [], ?_,mo, ?_, ?_⟩
     ·rw[hval]
      have:(r++b.map cY).length=r.length+b.length:=by simp
      rw[this]
      exact gj
     ·rw[List.flatten_append,eF]
      simp
     ·rw[hval,List.flatten_append,eF]
      cases u<;>simp [aD]
    ·simp only[aD,if_true]
     intro b aB
     rcases Ao b aB with h3 | h3
     ·have:=bG.2 b h3
      exact⟨this.1,by have:=dn.size;omega⟩
     ·subst h3
      exact⟨.inl hR.kept.size,gj.lt _ aB⟩
   ·obtain⟨gD,gi⟩:=jL j oj hj cn
    refine .inl ⟨cn,gi,by simp [aD,cn], ?_, ?_⟩
    ·intro k hk e
     exact (ca.obj j oj gi).2 k hk (by rw[e];exact bM)
    ·intro b aB
     have fK:=ak (hc.aC j oj gi) b aB
     refine fU b ((hc.fresh j oj gi).2 b fK).2 (fun e=> ?_)
     exact hc.sep id j _ _ (Ne.symm gD) aS gi b (ia b e) fK
  ·intro k j ok oj cQ hk hj b aB
   by_cases Hv:k=ai d 0
   ·subst Hv
    have mq:j≠ai d 0:=Ne.symm cQ
    obtain⟨gD,gi⟩:=jL j oj hj mq
    simp only[aD,if_true] at aB
    simp only[aD,mq,if_false]
    exact BN b aB j oj gD gi
   ·obtain⟨Al,Cz⟩:=jL k ok hk Hv
    simp only[aD,Hv,if_false] at aB
    by_cases cn:j=ai d 0
    ·subst cn
     simp only[aD,if_true]
     exact fun h3=>BN b h3 k ok Al Cz aB
    ·obtain⟨gD,gi⟩:=jL j oj hj cn
     simp only[aD,cn,if_false]
     exact hc.sep k j ok oj cQ Cz gi b aB
 ·rw[←he]
  unfold aq
  exact⟨hval.symm,gj.one⟩
end
end Go.Proofs.YtnlkklmcfafgeaaGreat.Vm
namespace Go.Proofs.YtnlkklmcfafgeaaGreat.Vm
theorem mL {α:Type} {l:Array α} {x:α} (h:l.toList=[x]):l= #[x]:=by
 cases l;simp at h;subst h;rfl
theorem bS {α:Type} {l:Array α} {x y:α} (h:l.toList=[x,y]):l= #[x,y]:=by
 cases l;simp at h;subst h;rfl
theorem BW {P:Program} {Γ:Ctx} {w0:World} {S:Own} {st:St} {o:Oper} {e:cS} {a:Act} {w:World} (fa:bN P Γ) (hR:Rel w0 S st a w)
  (hv:(evalOp P Γ o).val st.get st.obj=some e) (aP:e.ok=true) (hd:∀d,o.dst=some d→bn st.n d) (ca:e.ow≠[]→∀d,o.dst=some d→bL st d):Good P w0 S st o e a w:=by
 unfold evalOp at hv
 split at hv
 ·rename_i x ho
  simp only[M.ag,af,M.ab,aa] at hv
  obtain⟨s,h1,rfl⟩:=hv
  exact mI hR hd (.inl ho) h1 rfl
 ·rename_i x ho
  simp only[M.ag,af,M.ab,aa] at hv
  obtain⟨s,h1,rfl⟩:=hv
  exact mI hR hd (.inr ho) h1 rfl
 ·rename_i c x y ho
  simp only[M.ag,af] at hv
  obtain⟨sc,h0,sx,h1,sy,h2,hv⟩:=hv
  exact C4 hR hd ho h0 h1 h2 hv
 ·rename_i t ho
  split at hv
  ·rename_i d aX
   simp only[M.ag,af,M.ab,aa] at hv
   obtain⟨z,hz,rfl⟩:=hv
   exact B2 hR aX (hd d aX) (ca (by simp) d aX) ho hz rfl
  ·simp at hv
 ·rename_i t x ho
  split at hv
  ·rename_i d aX
   simp only[M.ag,af,M.ab,aa] at hv
   obtain⟨s,hs,cs,fI,rfl⟩:=hv
   exact DZ hR aX (hd d aX) (ca (by simp) d aX) ho hs fI rfl
  ·simp at hv
 ·rename_i t parts ho
  split at hv
  ·rename_i fs hu
   split at hv
   ·rename_i places hp
    simp only[M.ag,af,M.ab,aa] at hv
    obtain⟨z,hz,cs,fI,rfl⟩:=hv
    exact B3 hR hd ho hu hp hz fI rfl
   ·simp at hv
  ·simp at hv
 ·rename_i t len parts ho
  cases eN:lV Γ o.dst with
  | true=>
   simp only[eN,aj] at hv
   unfold Ev at hv
   split at hv
   ·rename_i et d hu aX
    split at hv
    ·rename_i ct ts BG FM
     cases hb:bb P et ct.length && Nat.blt 0 ct.length && Nat.beq len parts.toList.length && Nat.ble (len*ct.length) 16777216
     ·simp only[hb,aQ,M.mM,reduceCtorEq] at hv
     simp only[hb,aj,M.ag,af] at hv
     obtain⟨z,hz,q,hq,hv⟩:=hv
     cases hn:df (bw q.2)
     ·simp [hn] at hv
     simp only[hn,aj,M.ab,aa] at hv
     simp only[aw] at hb
     exact Be hR aX (hd d aX) (ca (by rw[←hv];simp) d aX) ho hu hb.1.1.1 (Nat.le_of_ble_eq_true hb.1.1.2) (aM hb.1.2) (Nat.le_of_ble_eq_true hb.2) ⟨z,hz⟩ hq hn hv.symm
    ·simp at hv
   ·simp at hv
  | false=>
  simp only[eN,aQ] at hv
  split at hv
  ·rename_i et d hu aX
   split at hv
   ·rename_i ct BG
    cases hb:bb P et ct.length && Nat.blt 0 ct.length && Nat.beq len parts.toList.length && Nat.ble (len*ct.length) 16777216
    ·simp only[hb,aQ,M.mM,reduceCtorEq] at hv
    simp only[hb,aj,M.ag,af] at hv
    obtain⟨z,hz,q,hq,hv⟩:=hv
    cases hn:aU q.2.1
    ·simp [hn] at hv
    simp only[hn,aj,M.ab,aa] at hv
    simp only[aw] at hb
    exact kH hR aX (hd d aX) (ca (by rw[←hv];simp) d aX) ho hu hb.1.1.1 (Nat.le_of_ble_eq_true hb.1.1.2) (aM hb.1.2) (Nat.le_of_ble_eq_true hb.2) hq ⟨z,hz⟩ hn hv.symm
   ·simp at hv
  ·simp at hv
 ·rename_i t x ho
  simp only[M.ag,af] at hv
  obtain⟨s,h1,hv⟩:=hv
  unfold GW at hv
  split at hv
  ·rename_i id i z off
   simp only[M.a8,af] at hv
   obtain⟨ob,aS,hv⟩:=hv
   split at hv
   ·rename_i t' ct ts rows hl
    cases eN:lV Γ o.dst with
    | false=>
     simp only[eN,aQ] at hv
     exact B6 hR hd ho h1 aS hv aP
    | true=>
     simp only[eN,aj] at hv
     unfold G2 at hv
     split at hv
     ·rename_i e' t1 d mr aX
      cases hb:Nat.beq z ct.length && Nat.beq (aJ ct) 1 && !(bB P t) && (P.underlying t).isSome
      ·simp [hb] at hv
      simp only[hb,aj,M.ab,aa] at hv
      simp only[aw,Bool.not_eq_true'] at hb
      obtain⟨⟨⟨b1,b2⟩,b3⟩,b4⟩:=hb
      have b1:=aM b1
      subst b1
      obtain⟨td,hu⟩:=Option.isSome_iff_exists.1 b4
      have hi:i<rows.length:=by rw[←hv] at aP;simpa using aP
      exact C5 hR aX (hd d aX) (ca (by rw[←hv];simp) d aX) ho h1 aS mr (aM b2) b3 hu hi (by rw[←hv]) (by rw[←hv]) (by rw[←hv])
     ·simp at hv
   ·exact mH hR hd ho h1 hv aP
  ·exact mH hR hd ho h1 hv aP
 ·rename_i t x y ho
  simp only[M.ag,af] at hv
  obtain⟨sx,h1,sy,h2,hv⟩:=hv
  have plain:(Bi P t sx sy).val st.get st.obj=some e→Good P w0 S st o e a w:=by
   clear hv
   intro hv
   unfold Bi at hv
   simp only[M.ag,af] at hv
   obtain⟨bT,fI,hv⟩:=hv
   cases dF:bb P t bT.length
   ·simp [dF] at hv
   simp only[dF,aj] at hv
   split at hv
   ·rename_i id off
    simp only[M.a8,af] at hv
    obtain⟨ob,aS,hv⟩:=hv
    split at hv
    ·rename_i t' cells
     cases dX:Nat.ble (off+bT.length) cells.length
     ·simp [dX] at hv
     simp only[dX,aj,M.ab,aa] at hv
     exact lC hR hd ho h1 h2 fI dF aS (Nat.le_of_ble_eq_true dX) hv.symm
    ·simp at hv
   ·rename_i id i z off
    simp only[M.a8,af] at hv
    obtain⟨ob,aS,hv⟩:=hv
    split at hv
    ·rename_i t' ct rows fz u
     cases dX:Nat.beq z ct.length && Nat.ble (off+bT.length) ct.length
     ·simp [dX] at hv
     simp only[dX,aj,M.ag,af] at hv
     obtain⟨r,hr,hv⟩:=hv
     cases hm:bW id r.2.1 && aU r.2.1
     ·simp [hm] at hv
     simp only[hm,aj,M.ab,aa] at hv
     simp only[aw] at dX hm
     have hz:=aM dX.1
     subst hz
     have hi:i<rows.length:=by rw[←hv] at aP;simpa using aP
     exact lD hR hd ho h1 h2 fI dF aS (Nat.le_of_ble_eq_true dX.2) hr hm.1 hm.2 hi (by rw[←hv]) (by rw[←hv]) (by rw[←hv])
    ·simp at hv
   ·simp at hv
  unfold FD at hv
  split at hv
  ·rename_i id i z off
   simp only[M.a8,af] at hv
   obtain⟨ob,aS,hv⟩:=hv
   split at hv
   ·rename_i t' ct ts rows hl
    unfold FC at hv
    simp only[M.ag,af] at hv
    obtain⟨bT,fI,hv⟩:=hv
    cases dF:bb P t bT.length && Nat.beq z ct.length && Nat.ble (off+bT.length) ct.length
    ·simp [dF] at hv
    simp only[dF,aj] at hv
    simp only[aw] at dF
    obtain⟨⟨s1,s2⟩,s3⟩:=dF
    have s2:=aM s2
    subst s2
    have s3:=Nat.le_of_ble_eq_true s3
    cases hf:ax ((ct.drop off).take bT.length) with
    | true=>
     simp only[hf,aj,M.ag,af] at hv
     obtain⟨r,hr,hv⟩:=hv
     cases hm:r.2.1.isEmpty
     ·simp [hm] at hv
     simp only[hm,aj,M.ab,aa] at hv
     have hi:i<rows.length:=by rw[←hv] at aP;simpa using aP
     exact Bh hR hd ho h1 h2 fI s1 aS s3 hf hr hi (by rw[←hv]) (by rw[←hv]) (by rw[←hv])
    | false=>
     simp only[hf,aQ] at hv
     cases Ki:Nat.beq (aJ ((ct.drop off).take bT.length)) (aJ ct)
     ·simp [Ki] at hv
     simp only[Ki,aj,M.ag,af] at hv
     obtain⟨r,hr,hv⟩:=hv
     cases hm:df (id::bw r.2)
     ·simp [hm] at hv
     simp only[hm,aj,M.ab,aa] at hv
     have hi:i<rows.length∧CD hl i=true:=by rw[←hv] at aP;simpa using aP
     exact Bg hR hd ho h1 h2 fI s1 aS s3 (aM Ki) hr hm hi.1 hi.2 (by rw[←hv]) (by rw[←hv]) (by rw[←hv])
   ·exact plain hv
  ·exact plain hv
 ·rename_i x ho
  simp only[M.ag,af] at hv
  obtain⟨s,h1,hv⟩:=hv
  exact mJ hR hd ho h1 hv
 ·rename_i op t x y t' ho
  simp only[M.ag,af] at hv
  obtain⟨sx,h1,sy,h2,hv⟩:=hv
  exact DY hR hd ho h1 h2 hv aP
 ·rename_i op t x ho
  simp only[M.ag,af] at hv
  obtain⟨sx,h1,hv⟩:=hv
  exact FB hR hd ho h1 hv
 ·rename_i s t x ho
  simp only[M.ag,af] at hv
  obtain⟨sx,h1,hv⟩:=hv
  exact C0 hR hd ca ho h1 hv
 ·rename_i t l c ho
  simp only[M.ag,af] at hv
  obtain⟨sl,h1,sc,h2,hv⟩:=hv
  cases eN:lV Γ o.dst with
  | true=>
   simp only[eN,aj] at hv
   unfold GX at hv
   split at hv
   ·rename_i et n m d hu aX
    split at hv
    ·rename_i ct ts i BG FM hi
     cases hb:Nat.beq i.size ct.length && Nat.blt 0 ct.length
     ·simp [hb] at hv
     simp only[hb,aj,M.ag,af] at hv
     obtain⟨z,hz,r,hr,hv⟩:=hv
     cases Cj:(bw r.2).isEmpty
     ·simp [Cj] at hv
     simp only[Cj,aj,M.ab,aa] at hv
     simp only[aw] at hb
     exact B7 hR aX (hd d aX) (ca (by rw[←hv];simp) d aX) ho h1 h2 hu hi (aM hb.1) hz hr (by simpa using Cj) hv.symm aP
    ·simp at hv
   ·simp at hv
  | false=>
  simp only[eN,aQ] at hv
  unfold GY at hv
  split at hv
  ·rename_i et n m d hu aX
   split at hv
   ·rename_i ct i BG hi
    cases hb:Nat.beq i.size ct.length && Nat.blt 0 ct.length
    ·simp [hb] at hv
    simp only[hb,aj,M.ag,af,M.ab,aa] at hv
    obtain⟨z,hz,r,hr,hv⟩:=hv
    simp only[aw] at hb
    exact C3 hR aX (hd d aX) (ca (by rw[←hv];simp) d aX) ho h1 h2 hu hi (aM hb.1) hz hr hv.symm aP
   ·simp at hv
  ·simp at hv
 ·rename_i t x lo hi mx ho
  split at hv
  ·simp only[M.ag,af] at hv
   obtain⟨sx,h1,sl,h2,sh,h3,hv⟩:=hv
   cases eN:lV Γ o.dst
   ·simp only[eN,aQ] at hv
    exact B8 hR hd ho h1 h2 h3 hv aP
   ·simp only[eN,aj] at hv
    exact Bf hR hd ho h1 h2 h3 hv aP
  ·simp at hv
 ·rename_i t x f ho
  split at hv
  ·rename_i fs hu
   split at hv
   ·rename_i fd hf
    cases hz:bb P fd.type 0
    ·simp only[hz,aQ] at hv
     split at hv
     ·simp at hv
     ·rename_i i hi
      simp only[M.ag,af] at hv
      obtain⟨s,h1,hv⟩:=hv
      exact lB hR hd ho hu hf hz hi h1 hv
    ·simp [hz] at hv
   ·simp at hv
  ·simp at hv
 ·rename_i t x i ho
  simp only[M.ag,af] at hv
  obtain⟨sx,h1,si,h2,hv⟩:=hv
  exact kI hR hd ho h1 h2 hv aP
 ·rename_i t x i ho
  simp only[M.ag,af] at hv
  obtain⟨sx,h1,si,h2,hv⟩:=hv
  exact B5 hR hd ho h1 h2 hv aP
 ·rename_i x i ho
  simp only[M.ag,af] at hv
  obtain⟨sx,h1,hv⟩:=hv
  split at hv
  ·rename_i vs
   split at hv
   ·rename_i v MN
    simp only[M.ab,aa] at hv
    exact m7 hR hd ho h1 MN hv.symm
   ·simp at hv
  ·simp at hv
 ·rename_i c ho
  split at hv
  ·rename_i g hg
   simp only[M.ag,af] at hv
   obtain⟨l,hl,hv⟩:=hv
   cases jK:Ge Γ g with
   | none=>
    unfold kN at hv
    rw[jK] at hv
    simp at hv
   | some s=>
    cases eN:s.G6 with
    | true=>
     unfold kN at hv
     rw[jK] at hv
     simp only[eN,aj] at hv
     simp at hv
    | false=>
    cases hp:s.pt with
    | some q=>
     unfold kN at hv
     rw[jK] at hv
     simp only[eN,aQ,hp] at hv
     simp at hv
    | none=>
    cases hm:s.ms with
    | nil=>
     cases aX:o.dst with
     | none=>
      unfold kN at hv
      rw[jK,aX] at hv
      simp only[eN,aQ,hp,hm] at hv
      simp at hv
     | some d=>
      rw[aX] at hv
      exact CZ fa jK eN hp hm hR aX (hd d aX) (fun h=>ca h d aX) ho hg hl hv aP
    | cons m ms=>
     have hv':(AJ s o.dst l).val st.get st.obj=some e:=by
      unfold kN at hv
      rw[jK] at hv
      simp only[eN,aQ,hp,hm] at hv
      exact hv
     refine B4 fa jK eN hp (by rw[hm];simp) hR hd (fun d aX h=>ca h d aX) (us:=c.args.toList.map a.eval) (fun fn hf hb hn=> ?_) (fun β φ hc=>AO hc _ l hl) hv' aP
     have E_:c.args.map a.eval=(c.args.toList.map a.eval).toArray:=by rw[←Array.toList_map,Array.toArray_toList]
     rw[←E_]
     exact B1 ho hg hf hb hn
  ·rename_i hb
   split at hv
   ·rename_i x t hx ht
    simp only[M.ag,af] at hv
    obtain⟨s,h1,hv⟩:=hv
    exact C2 hR hd ho hb (mL hx) (mL ht) h1 hv
   ·simp at hv
  ·rename_i hb
   split at hv
   ·rename_i x y hx
    simp only[M.ag,af] at hv
    obtain⟨s,h1,s2,h2,hv⟩:=hv
    exact j7 (mx:=false) hR hd ho hb (bS hx) h1 h2 hv
   ·simp at hv
  ·rename_i hb
   split at hv
   ·rename_i x y hx
    simp only[M.ag,af] at hv
    obtain⟨s,h1,s2,h2,hv⟩:=hv
    exact j7 (mx:=true) hR hd ho hb (bS hx) h1 h2 hv
   ·simp at hv
  ·rename_i hb
   split at hv
   ·rename_i s x t t' hx ht
    cases ky:Nat.beq t t'
    ·simp only[ky,aQ,M.ag,af] at hv
     obtain⟨ss,h1,sx,h2,hv⟩:=hv
     exact m6 hR hd ca ho hb (bS hx) (bS ht) h1 h2 hv aP
    simp only[ky,aj] at hv
    have kz:=aM ky
    subst kz
    simp only[M.ag,af] at hv
    obtain⟨ss,h1,sx,h2,hv⟩:=hv
    cases eN:lV Γ o.dst with
    | true=>
     simp only[eN,aj] at hv
     unfold C8 at hv
     split at hv
     ·rename_i et d hu aX
      split at hv
      ·rename_i ct ts BG FM
       cases mY:bb P et ct.length && Nat.blt 0 ct.length
       ·simp [mY] at hv
       simp only[mY,aj,M.ag,af] at hv
       obtain⟨z,hz,hv⟩:=hv
       cases jP:Nat.beq z.length ct.length
       ·simp [jP] at hv
       simp only[jP,aj,M.ag,af] at hv
       obtain⟨p,KZ,q,K_,hv⟩:=hv
       cases hn:df (p.2++q.2)
       ·simp [hn] at hv
       simp only[hn,aj,M.ab,aa] at hv
       simp only[aw] at mY
       have eO:fD P et (p.1.length+q.1.length)=true:=by rw[←hv] at aP;exact aP
       exact m5 hR aX (hd d aX) (ca (by rw[←hv];simp) d aX) ho hb (bS hx) (bS ht) h1 h2 hu mY.1 (Nat.le_of_ble_eq_true mY.2) hz (aM jP) KZ K_ hn eO (by rw[←hv]) (by rw[←hv]) (by rw[←hv])
      ·simp at hv
     ·simp at hv
    | false=>
    simp only[eN,aQ] at hv
    unfold C9 at hv
    split at hv
    ·rename_i et d hu aX
     split at hv
     ·rename_i ct BG
      cases mY:bb P et ct.length && Nat.blt 0 ct.length
      ·simp [mY] at hv
      simp only[mY,aj,M.ag,af] at hv
      obtain⟨z,hz,hv⟩:=hv
      cases jP:Nat.beq z.length ct.length
      ·simp [jP] at hv
      simp only[jP,aj] at hv
      have Ga:=aM jP
      simp only[aw] at mY
      have jM:0<ct.length:=Nat.le_of_ble_eq_true mY.2
      split at hv
      ·simp only[M.ag,af,M.ab,aa] at hv
       obtain⟨q,hq,hv⟩:=hv
       have eO:fD P et q.1.length=true:=by rw[←hv] at aP;exact aP
       exact kF hR aX (hd d aX) (ca (by rw[←hv];simp) d aX) ho hb (bS hx) (bS ht) h1 h2 hu mY.1 jM hz Ga hq eO (by rw[←hv]) (by rw[←hv]) (by rw[←hv])
      ·rename_i id
       simp only[M.a8,af] at hv
       obtain⟨ob,aS,hv⟩:=hv
       split at hv
       ·rename_i t' e' r u
        cases he:Nat.beq t' et && aL e' ct
        ·simp [he] at hv
        simp only[he,aj,M.ag,af] at hv
        obtain⟨q,hq,hv⟩:=hv
        cases hn:bW id q.2.1
        ·simp [hn] at hv
        simp only[hn,aj,M.ab,aa] at hv
        simp only[aw] at he
        have e1:=aM he.1
        have e2:=aR _ _ he.2
        subst e1 e2
        have eO:fD P t' (r.length+q.1.length)=true:=by rw[←hv] at aP;exact aP
        exact kG hR aX (hd d aX) (ca (by rw[←hv];simp) d aX) ho hb (bS hx) (bS ht) h1 h2 aS hu mY.1 jM hz Ga hq hn eO (by rw[←hv]) (by rw[←hv]) (by rw[←hv])
       ·simp at hv
      ·simp at hv
     ·simp at hv
    ·simp at hv
   ·simp at hv
  ·rename_i hb
   split at hv
   ·rename_i s x t t' hx ht
    simp only[M.ag,af] at hv
    obtain⟨ss,h1,sx,h2,hv⟩:=hv
    exact C1 hR hd ho hb (bS hx) (bS ht) h1 h2 hv aP
   ·simp at hv
  ·simp at hv
 ·simp at hv
end Go.Proofs.YtnlkklmcfafgeaaGreat.Vm
namespace Go.Proofs.YtnlkklmcfafgeaaGreat.Vm
structure Tr (st HY:St):Prop where
 n:HY.n=st.n
 ok:st.ok=true
 get:∀i,i ∉ HY.ls→HY.get i=st.get i
 ls:∀i∈st.ls,i∈HY.ls
 obj:∀id o,st.obj id=some o→id ∉ HY.lm→HY.obj id=some o
 lm:∀i∈st.lm,i∈HY.lm
theorem Tr.refl {st:St} (h:st.ok=true):Tr st st:=⟨rfl,h,fun _ _=>rfl,fun _ h=>h,fun _ _ h _=>h,fun _ h=>h⟩
theorem Tr.trans {a b c:St} (h:Tr a b) (k:Tr b c):Tr a c:=
 ⟨k.n.trans h.n,h.ok,fun i hi=>(k.get i hi).trans (h.get i (fun h'=>hi (k.ls i h'))),fun i hi=>k.ls i (h.ls i hi),
  fun id o ho hi=>k.obj id o (h.obj id o ho (fun h'=>hi (k.lm id h'))) hi,fun i hi=>k.lm i (h.lm i hi)⟩
theorem EB {ow:List (Nat×Option ao)} {h:Nat→Option ao} {j:Nat} (hj:j ∉ ow.map (·.1)):fo ow h j=h j:=by
 induction ow with
 | nil=>rfl
 | cons x l ih=>
  obtain⟨i,ob⟩:=x
  simp only[List.map_cons,List.mem_cons,not_or] at hj
  simp only[fo,aD,hj.1,if_false]
  exact ih hj.2
theorem Cb {st:St} {d:Option Nat} {e:cS} (aP:(st.apply d e).ok=true):Tr st (st.apply d e):=by
 have HD:st.ok=true:=by
  simp only[St.apply,gy] at aP
  exact aP.1.1
 refine⟨rfl,HD,fun i hi=> ?_,fun i hi=> ?_,fun id o ho hi=> ?_,fun i hi=> ?_⟩
 ·cases d with
  | none=>rfl
  | some d=>
   have dY:i≠d:=fun h=>hi (by simp [St.apply,h])
   rw[apply_get]
   simp [aD,dY]
 ·cases d<;>simp [St.apply,hi]
 ·rw[fl]
  simp only[St.apply,List.mem_append,not_or] at hi
  rw[EB hi.2.1]
  cases kT:e.cw with
  | none=>exact ho
  | some x=>
   obtain⟨k,off,bT⟩:=x
   simp only[kT,List.mem_singleton] at hi
   rw[←ho]
   simp only[fc]
   cases st.obj k with
   | none=>rfl
   | some b=>cases b<;>simp [aD,hi.1]
 ·simp only[St.apply,List.mem_append]
  exact .inr (.inr hi)
theorem bl {st:St} :st.fail.ok=false:=rfl
theorem Dz {P:Program} {Γ:Ctx} {st:St} {o:Oper} (aP:(st.cH P Γ o).ok=true):Tr st (st.cH P Γ o):=by
 unfold St.cH at aP ⊢
 split
 ·rename_i e r hr
  simp only[hr] at aP
  cases hf:jC o.dst e st
  ·simp [hf,bl] at aP
  ·simp only[hf,aj] at aP ⊢
   exact Cb aP
 ·rename_i hr
  simp [hr,bl] at aP
theorem mw (st:St) (s:Nat) (b:Bool):(st.fV s b).get=aD st.get s (.kb b):=by
 funext i
 show ji ((s,.kb b)::st.sl) i=_
 simp only[ji,aD,St.get]
 cases hk:Nat.beq s i
 ·have e2:=Nat.ne_of_beq_eq_false hk
  rw[if_neg (fun h=>e2 h.symm)]
  rfl
 ·simp [(aM hk).symm]
theorem j_ {st:St} {s:Nat} {b:Bool} (aP:st.ok=true):Tr st (st.fV s b):=by
 refine⟨rfl,aP,fun i hi=> ?_,fun i hi=>by simp [St.fV,hi],fun _ _ h _=>h,fun _ h=>h⟩
 rw[mw]
 have:i≠s:=fun h=>hi (by simp [St.fV,h])
 simp [aD,this]
theorem gk {i:Nat} {l:List Nat} :iq i l=true↔i∈l:=by
 induction l with
 | nil=>simp [iq]
 | cons k l ih=>
  simp only[iq,Bool.or_eq_true,List.mem_cons,ih]
  constructor
  ·rintro (h | h)
   ·exact .inl (aM h).symm
   ·exact .inr h
  ·rintro (rfl | h)
   ·exact .inl (Nat.beq_refl i)
   ·exact .inr h
theorem As {i:Nat} {l:List Nat} :i∈dedup l↔i∈l:=by
 induction l with
 | nil=>simp [dedup]
 | cons k l ih=>
  simp only[dedup]
  cases hm:iq k l
  ·simp [ih]
  ·simp only[aj,List.mem_cons,ih]
   constructor
   ·exact .inr
   ·rintro (rfl | h)
    ·exact gk.1 hm
    ·exact h
theorem il {g:Bool} {f h:Nat→SV} {l:List (Nat×SV)} :∀(r:List Nat) (i:Nat),ji (gG g f h r l) i=if i∈r then eI g (f i) (h i) else ji l i
 | [],i=>by simp [gG]
 | k::r,i=>by
  simp only[gG,ji]
  cases hk:Nat.beq k i
  ·have e2:=Nat.ne_of_beq_eq_false hk
   simp only[aQ,il r i,List.mem_cons]
   by_cases hi:i∈r
   ·simp [hi]
   ·rw[if_neg hi,if_neg (fun h=>h.elim (fun h=>e2 h.symm) hi)]
  ·have e1:=aM hk
   subst e1
   simp
theorem ir {hp:List (Nat×ao)} :∀ {l:List Nat} {i:Nat},i∈cM hp l↔i∈l∧∃o,dN hp i=some o
 | [],i=>by simp [cM]
 | k::l,i=>by
  simp only[cM]
  cases hk:dN hp k with
  | none=>
   simp only[ir (l:=l),List.mem_cons]
   constructor
   ·rintro ⟨h1,h2⟩
    exact⟨.inr h1,h2⟩
   ·rintro ⟨rfl | h1,h2⟩
    ·rw[hk] at h2;obtain⟨o,h2⟩:=h2;cases h2
    ·exact⟨h1,h2⟩
  | some o=>
   simp only[List.mem_cons,ir (l:=l)]
   constructor
   ·rintro (rfl | ⟨h1,h2⟩)
    ·exact⟨.inl rfl,o,hk⟩
    ·exact⟨.inr h1,h2⟩
   ·rintro ⟨rfl | h1,h2⟩
    ·exact .inl rfl
    ·exact .inr ⟨h1,h2⟩
theorem me {g:Bool} {f k h:Nat→Option ao} :∀(l:List Nat) (i:Nat),fo (jR g f k l) h i=if i∈l then mC g (f i) (k i) else h i
 | [],i=>by simp [jR,fo]
 | j::l,i=>by
  simp only[jR,fo,aD,List.mem_cons]
  by_cases hi:i=j
  ·subst hi;simp
  ·simp only[hi,if_false,false_or]
   exact me l i
theorem Au (pre:St) (g:Bool) (a b:St) (i:Nat):(merge pre g a b).obj i=if i∈cM pre.hp (dedup (a.lm++b.lm)) then mC g (a.obj i) (b.obj i) else pre.obj i:=by
 show dN (kD _ pre.hp) i=_
 rw[ik,me]
 rfl
theorem Cd {pre a b:St} {g:Bool} (hp:pre.ok=true) (J3:(merge pre g a b).ok=true):Tr pre (merge pre g a b):=by
 refine⟨rfl,hp,fun i hi=> ?_,fun i hi=>aK _ hi,fun i o h hi=> ?_,fun i h=>aK _ h⟩
 ·have hi:i ∉ dedup (a.ls++b.ls)∧i ∉ pre.ls:=by simpa only[merge,List.mem_append,not_or] using hi
  show ji (gG g a.get b.get (dedup (a.ls++b.ls)) pre.sl) i=ji pre.sl i
  rw[il,if_neg hi.1]
 ·have hi:i ∉ cM pre.hp (dedup (a.lm++b.lm)):=fun h'=>hi (aT _ h')
  rw[Au,if_neg hi]
  exact h
theorem Core.sub {w0:World} {S:Own} {f f':Nat→SV} {h h':Nat→Option ao} {β:Env} {φ:Nat→List Nat} {tm:Array Value} {w:World} (hc:Core w0 S f h β φ tm w)
  (hh:∀j o,h' j=some o→h j=some o∨∃t cs Bx,o= .box t Bx∧h j=some (.box t cs)∧∀vs,ah w (Av h' β) β cs vs→ah w (Av h' β) β Bx vs)
  (hf:∀i v,aq w (Av h' β) β (f i) v→aq w (Av h' β) β (f' i) v):Core w0 S f' h' β φ tm w:=by
 have E5:∀j o,h' j=some o→∃o',h j=some o'∧ar β j o=ar β j o':=by
  intro j o ho
  rcases hh j o ho with h1 | ⟨t,cs,Bx,rfl,h1,_⟩
  ·exact⟨o,h1,rfl⟩
  ·exact⟨_,h1,rfl⟩
 have cX:∀b,Av h' β b→Av h β b:=fun b hb=>hb.imp (fun ⟨j,o,hj,hb⟩=>by
  obtain⟨o',h1,h2⟩:=E5 j o hj
  exact⟨j,o',h1,h2 ▸ hb⟩) id
 have hm:=hc.step (h':=h') (β':=β) (φ':=φ) (w':=w) (fun _=>False) (Nat.le_refl _) (fun _ _ _=>rfl) (fun b hb=> .inl (cX b hb)) (fun _ _ _ h=>h) (fun _ _=>⟨rfl,rfl⟩)
  (fun id o ho=>by
   rcases hh id o ho with h1 | ⟨t,cs,Bx,rfl,h1,h2⟩
   ·exact .inl ⟨fun h=>h,h1,rfl,fun _ _ h=>h,fun _ _=>rfl⟩
   ·refine .inr ⟨?_,hc.fresh id _ h1⟩
    have h3:=(hc.aC id _ h1).mono (w':=w) (av':=Av h' β) (β':=β) (Nat.le_refl _) (fun _ _ _=>rfl) (fun b hb=> .inl (cX b hb)) (fun _ _=>⟨rfl,rfl⟩) (fun _ _=>rfl) rfl
    obtain⟨vs,e1,e2,e3,e4⟩:=h3
    exact⟨vs,e1,h2 vs e2,e3,e4⟩)
  (fun i j o p cQ hi hj b hb=>by
   obtain⟨o',h1,_⟩:=E5 i o hi
   obtain⟨p',h2,_⟩:=E5 j p hj
   exact hc.sep i j o' p' cQ h1 h2 b hb)
 exact⟨fun i=>hf i _ (hm.cl i),hm.aC,hm.fresh,hm.sep,hm.gN,hm.bars⟩
theorem DP {w:World} {av:Nat→Prop} {β:Env} {g:Bool} {x y:Option ao} {o:ao} (h:mC g x y=some o):
  (bif g then x else y)=some o∨∃t cs Bx,o= .box t Bx∧(bif g then x else y)=some (.box t cs)∧∀vs,ah w av β cs vs→ah w av β Bx vs:=by
 unfold mC at h
 split at h
 ·rename_i t cs t' Bx
  cases hc:Nat.beq t t' && Nat.beq cs.length Bx.length
  ·simp [hc] at h
  ·simp only[hc,aj,aa] at h
   simp only[aw] at hc
   have ht:=aM hc.1
   have hl:=aM hc.2
   subst ht h
   refine .inr ⟨t,bif g then cs else Bx,_,rfl,by cases g<;>rfl,fun vs hv=>ah.merge g cs Bx vs hl hv⟩
 ·rename_i t e r fz u t' e' r' JE u'
  cases hc:Nat.beq t t' && aL e e' && (fz==JE) && (u==u')
  ·simp [hc] at h
  ·simp only[hc,aj,aa] at h
   simp only[aw] at hc
   have ht:=aM hc.1.1.1
   have he:=aR _ _ hc.1.1.2
   have hf:fz=JE:=by simpa using hc.1.2
   have hu:u=u':=by simpa using hc.2
   subst ht he hf hu h
   refine .inl ?_
   cases g<;>rfl
 ·cases h
theorem gl {w0:World} {S:Own} {pre yes no:St} {g:Bool} {a:Act} {w:World} (hy:g=true→Tr pre.reset yes∧Rel w0 S yes a w) (hn:g=false→Tr pre.reset no∧Rel w0 S no a w)
  (J3:(merge pre g yes no).ok=true):Rel w0 S (merge pre g yes no) a w:=by
 have key:∀r:St,Tr pre.reset r→Rel w0 S r a w→(∀i∈r.ls,i∈yes.ls++no.ls)→(∀i∈r.lm,i∈yes.lm++no.lm)→(∀i v av β,aq w av β (r.get i) v→aq w av β (eI g (yes.get i) (no.get i)) v)→
   (∀i,(bif g then yes.obj i else no.obj i)=r.obj i)→Rel w0 S (merge pre g yes no) a w:=by
  intro r ht hr My FJ MA A2
  obtain⟨β,φ,hc⟩:=hr.core
  refine⟨hr.size.trans (congrArg (· % 1099511627776) ht.n),fun x hx=>by have h1:=hr.fx x hx;rw[ht.n] at h1;exact h1,hr.defers,hr.kept,β,φ, ?_⟩
  refine hc.sub (fun j o ho=> ?_) (fun i v hv=> ?_)
  ·rw[Au] at ho
   split at ho
   ·have:=DP (w:=w) (av:=Av (merge pre g yes no).obj β) (β:=β) ho
    rw[A2 j] at this
    exact this
   ·rename_i hj
    refine .inl (ht.obj j o ho (fun h=>hj ?_))
    exact ir.2 ⟨As.2 (FJ j h),o,ho⟩
  ·show aq w _ β (ji (gG g yes.get no.get (dedup (yes.ls++no.ls)) pre.sl) i) v
   rw[il]
   split
   ·exact MA i v _ β hv
   ·rename_i hi
    have:r.get i=pre.get i:=ht.get i (fun h=>hi (As.2 (My i h)))
    rw[this] at hv
    exact hv
 cases g with
 | true=>
  obtain⟨ht,hr⟩:=hy rfl
  exact key yes ht hr (fun i hi=>aT _ hi) (fun i hi=>aT _ hi) (fun i v av β hv=>aq.merge true _ _ _ hv) (fun _=>rfl)
 | false=>
  obtain⟨ht,hr⟩:=hn rfl
  exact key no ht hr (fun i hi=>aK _ hi) (fun i hi=>aK _ hi) (fun i v av β hv=>aq.merge false _ _ _ hv) (fun _=>rfl)
theorem Rel.reset {w0:World} {S:Own} {st:St} {a:Act} {w:World} (h:Rel w0 S st a w):Rel w0 S st.reset a w:=⟨h.size,h.fx,h.defers,h.kept,h.core⟩
theorem Rel.fV {w0:World} {S:Own} {st:St} {a:Act} {w:World} (h:Rel w0 S st a w) {s:Nat} {b:Bool} (hs:a.tmps.getD s undef= .bool b):Rel w0 S (st.fV s b) a w:=by
 obtain⟨β,φ,hc⟩:=h.core
 refine⟨h.size,h.fx,h.defers,h.kept,β,φ, ?_⟩
 rw[mw]
 exact⟨fun i=>by
  by_cases hi:i=s
  ·subst hi
   simp only[aD,if_true,aq]
   exact hs
  ·have:=hc.cl i
   show aq w (Av st.obj β) β _ _
   simpa only[aD,hi,if_false] using this,hc.aC,hc.fresh,hc.sep,hc.gN,hc.bars⟩
theorem Rel.Az {w0:World} {S:Own} {st:St} {a:Act} {w:World} (h:Rel w0 S st a w) {s:Nat} {g:Bool} (hs:st.get s= .bool g):a.tmps.getD s undef= .bool g:=by
 obtain⟨β,φ,hc⟩:=h.core
 have:=hc.cl s
 rw[hs] at this
 simpa only[aq] using this
theorem bo {P:Program} {Γ:Ctx} {ops:Array Oper} {gs:List Nat} {ki:List cC→Bool} :∀(rest:List Oper) (i:Nat) (acc:List cC) (st:St),(bh P Γ ops gs ki rest i acc st).ok=true→
  Tr st (bh P Γ ops gs ki rest i acc st)
 | [],i,acc,st,h=>by
  simp only[bh] at h ⊢
  simp only[gy] at h
  exact⟨rfl,h.1,fun _ _=>rfl,fun _ h=>h,fun _ _ h _=>h,fun _ h=>h⟩
 | o::rest,i,acc,st,h=>by
  rw[bh] at h ⊢
  split
  ·rename_i hw;simp [hw,bl] at h
  ·rename_i hw
   simp only[hw] at h
   have h1:=bo rest _ _ _ h
   exact (Cb h1.ok).trans h1
  ·rename_i hw
   simp only[hw] at h
   have plain:(bh P Γ ops gs ki rest (i+1) (acc++[bP P Γ ops i st o]) (st.cH P Γ o)).ok=true→Tr st (bh P Γ ops gs ki rest (i+1) (acc++[bP P Γ ops i st o]) (st.cH P Γ o)):=by
    intro h'
    have h1:=bo rest _ _ _ h'
    exact (Dz h1.ok).trans h1
   split
   ·rename_i hd
    simp only[hd] at h
    exact plain h
   ·rename_i s hd
    simp only[hd] at h
    cases hm:iq s gs
    ·simp only[hm,aQ] at h ⊢
     exact plain h
    ·simp only[hm,aj] at h ⊢
     split
     ·rename_i g hg
      simp only[hg] at h
      have DM:(st.cH P Γ o).ok=true:=by
       have h':=h
       simp only[merge,Fv] at h'
       cases g with
       | true=>simp only[aj] at h';exact (bo rest _ _ _ h').ok
       | false=>simp only[aQ] at h';exact (bo rest _ _ _ h').ok
      exact (Dz DM).trans (Cd DM h)
     ·rename_i hg
      have h':(bh P Γ ops gs ki rest (i+1) (acc++[bP P Γ ops i st o]) (st.cH P Γ o)).ok=true:=by
       revert h
       split
       ·rename_i g H5;exact absurd H5 (hg g)
       ·exact id
      exact plain h'
end Go.Proofs.YtnlkklmcfafgeaaGreat.Vm
set_option linter.unusedVariables false
set_option linter.unusedSimpArgs false
namespace Go.Proofs.YtnlkklmcfafgeaaGreat.Vm
theorem jm {ds l:List Nat} (h:mD ds l=true):∀i∈l,i / 64 ∉ ds:=by
 induction l with
 | nil=>simp
 | cons k l ih=>
  simp only[mD,aw,Bool.not_eq_true'] at h
  intro i hi
  rcases List.mem_cons.1 hi with rfl | hi
  ·intro hm
   rw[gk.2 hm] at h
   simp at h
  ·exact ih h.2 i hi
theorem Gf {l:List (Nat×SV)} {i:Nat} :ji l i= .fG∨∃x∈l,ji l i=x.2:=by
 induction l with
 | nil=>exact .inl rfl
 | cons y l ih=>
  obtain⟨k,s⟩:=y
  simp only[ji]
  cases Nat.beq k i
  ·rcases ih with h | ⟨x,hx,h⟩
   ·exact .inl h
   ·exact .inr ⟨x,List.mem_cons_of_mem _ hx,h⟩
  ·exact .inr ⟨_,List.mem_cons_self ..,rfl⟩
theorem Dp {l:List (Nat×ao)} {i:Nat} {ob:ao} (h:dN l i=some ob):(i,ob)∈l:=by
 induction l with
 | nil=>simp [dN] at h
 | cons y l ih=>
  obtain⟨k,s⟩:=y
  simp only[dN] at h
  cases hk:Nat.beq k i
  ·simp only[hk,aQ] at h
   exact List.mem_cons_of_mem _ (ih h)
  ·simp only[hk,aj,aa] at h
   rw[aM hk,h]
   exact List.mem_cons_self ..
theorem BF {ds:List Nat} {st:St} (h:eM ds st=true):∀d∈ds,bL st d:=by
 intro d hd
 simp only[eM,aw,List.all_eq_true] at h
 constructor
 ·intro i j hj
  rcases Gf (l:=st.sl) (i:=i) with h0 | ⟨x,hx,h0⟩
  ·have:st.get i= .fG:=h0
   rw[this] at hj
   simp [cb] at hj
  ·have:st.get i=x.2:=h0
   rw[this] at hj
   exact fun e=>jm (h.1 x hx) j hj (e ▸ hd)
 ·intro j ob hj
  have hm:=h.2 _ (Dp hj)
  refine⟨fun e=>jm hm j (List.mem_cons_self ..) (e ▸ hd),fun k hk e=>jm hm k (List.mem_cons_of_mem _ hk) (e ▸ hd)⟩
section
variable {P:Program} {Γ:Ctx} {w0:World} {S:Own} {ops:Array Oper} {gs:List Nat}
theorem lZ {st:St} {o:Oper} (h:(st.cH P Γ o).ok=true):∃e s r,(evalOp P Γ o).run st.get st.obj=some (e,s,r)∧jC o.dst e st=true∧st.cH P Γ o=st.apply o.dst e:=by
 unfold St.cH at h ⊢
 split at h
 ·rename_i e r hr
  obtain⟨s,r⟩:=r
  cases hf:jC o.dst e st
  ·simp [hf,bl] at h
  ·exact⟨e,s,r,hr,hf,by simp [hr,hf]⟩
 ·simp [bl] at h
theorem Af (fa:bN P Γ) {st:St} {o:Oper} {a:Act} {w:World} (hR:Rel w0 S st a w) (h:(st.cH P Γ o).ok=true) (Q:Exit→Act→World→Prop):
  o.wp P a w (fun a' w'=>∃v,a'=a.put o.dst v∧Rel w0 S (st.cH P Γ o) a' w') Q:=by
 obtain⟨e,s,r,hr,hf,he⟩:=lZ h
 rw[he] at h ⊢
 simp only[St.apply,gy] at h
 refine BW fa hR (M.eE _ hr) h.1.2 (fun d hd=> ?_) (fun how d hd=> ?_) Q
 ·have:=h.2
  rw[hd] at this
  exact lG this
 ·unfold jC at hf
  rw[hd] at hf
  split at hf
  ·rename_i d' _ Iz
   injection Iz with Iz
   subst Iz
   exact BF hf d (List.mem_singleton.2 rfl)
  ·rename_i BL
   cases hw:e.ow with
   | nil=>exact absurd hw how
   | cons x l=>exact (BL x l d hw rfl).elim
theorem kL {st:St} {o:Oper} {a:Act} {w:World} {b:Bool} (hR:Rel w0 S st a w) (h:fH ops st o=some b):Region.wanted o (yielded ops a.tmps)=b:=by
 obtain⟨β,φ,hc⟩:=hR.core
 unfold fH at h
 unfold Region.wanted
 split at h
 ·rename_i hg
  simp only[hg]
  simpa using h
 ·rename_i j want hg
  simp only[hg]
  split at h
  ·cases h
  ·rename_i s hs
   have kv:=hc.cl s
   split at h
   ·rename_i b' aB
    rw[aB] at kv
    simp only[aq] at kv
    have:a.tmps[s]? =some (.bool b'):=by
     rw[Array.getD_eq_getD_getElem?] at kv
     cases hq:a.tmps[s]? with
     | none=>rw[hq] at kv;simp [undef] at kv
     | some v=>rw[hq] at kv;simpa using kv
    simp only[yielded,hs,Option.bind_some,this]
    have h:=Option.some.inj h
    rw[←h]
    rfl
   ·rename_i aB
    rw[aB] at kv
    simp only[aq] at kv
    have:∀c,a.tmps[s]? ≠some (.bool c):=by
     intro c hq
     rw[Array.getD_eq_getD_getElem?,hq] at kv
     simp [undef] at kv
    have hy:yielded ops a.tmps j=none:=by
     unfold yielded
     rw[hs]
     simp only[Option.bind_some]
    rw[hy]
    have h:=Option.some.inj h
    rw[←h]
    rfl
   ·cases h
theorem FA {st:St} {o:Oper} {a:Act} {w:World} (hR:Rel w0 S st a w) (h:(st.skip o.dst).ok=true):Rel w0 S (st.skip o.dst) (a.put o.dst undef) w:=by
 obtain⟨β,φ,hc⟩:=hR.core
 refine iM hR (fun d hd=> ?_) hR.kept ⟨β,φ,hc,by simp [aq]⟩
 simp only[St.skip,St.apply,gy] at h
 have:=h.2
 rw[hd] at this
 exact lG this
theorem Rel.GZ {st:St} {a:Act} {w:World} (hR:Rel w0 S st a w) (b:Bool):Rel w0 S {st with ok:=b} a w:=⟨hR.size,hR.fx,hR.defers,hR.kept,hR.core⟩
theorem de {pre a b:St} {g:Bool} (h:(merge pre g a b).ok=true):(g=true→a.ok=true)∧(g=false→b.ok=true):=by
 simp only[merge,Fv] at h
 cases g
 ·exact⟨by simp,fun _=>h⟩
 ·exact⟨fun _=>h,by simp⟩
theorem eK (fa:bN P Γ) {ki:List cC→Bool} {Q:Exit→Act→World→Prop} :∀(rest:List Oper) (i:Nat) (acc:List cC) (st:St) (a:Act) (w:World),Rel w0 S st a w→
  (bh P Γ ops gs ki rest i acc st).ok=true→(∀a' w',Rel w0 S (bh P Γ ops gs ki rest i acc st) a' w'→Q .normal a' w')→wpList P ops Q rest a w
 | [],i,acc,st,a,w,hR,aP,hQ=>by
  simp only[bh] at hQ
  exact hQ a w (hR.GZ _)
 | o::rest,i,acc,st,a,w,hR,aP,hQ=>by
  rw[bh] at aP hQ
  cases hw:fH ops st o with
  | none=>simp [hw,bl] at aP
  | some b=>
   simp only[hw] at aP hQ
   have Ap:=kL hR hw
   unfold wpList
   cases b with
   | false=>
    rw[if_neg (by rw[Ap];simp)]
    simp only at aP hQ
    exact eK fa rest _ _ _ _ w (FA hR (bo rest _ _ _ aP).ok) aP hQ
   | true=>
    rw[if_pos Ap]
    simp only at aP hQ
    refine .inl ?_
    have plain:(bh P Γ ops gs ki rest (i+1) (acc++[bP P Γ ops i st o]) (st.cH P Γ o)).ok=true→
      (∀a' w',Rel w0 S (bh P Γ ops gs ki rest (i+1) (acc++[bP P Γ ops i st o]) (st.cH P Γ o)) a' w'→Q .normal a' w')→o.wp P a w (wpList P ops Q rest) Q:=by
     intro h1 h2
     have hd:=(bo rest _ _ _ h1).ok
     refine Oper.wp_mono ?_ (Af fa hR hd Q)
     rintro a' w' ⟨v,rfl,eZ⟩
     exact eK fa rest _ _ _ _ w' eZ h1 h2
    split at aP
    ·rename_i hd
     simp only[hd] at hQ
     exact plain aP hQ
    ·rename_i s hd
     simp only[hd] at hQ
     cases hm:iq s gs
     ·simp only[hm,aQ] at aP hQ
      exact plain aP hQ
     ·simp only[hm,aj] at aP hQ
      split at aP
      ·rename_i g hg
       simp only[hg] at hQ
       have lK:=de aP
       have DM:(st.cH P Γ o).ok=true:=by
        cases g with
        | true=>exact (bo rest _ _ _ (lK.1 rfl)).ok
        | false=>exact (bo rest _ _ _ (lK.2 rfl)).ok
       refine Oper.wp_mono ?_ (Af fa hR DM Q)
       rintro a' w' ⟨v,rfl,eZ⟩
       have dA:=eZ.Az hg
       cases g with
       | true=>
        have hy:=lK.1 rfl
        refine eK fa rest (i+1) (acc++[bP P Γ ops i st o]) ((st.cH P Γ o).reset.fV s true) _ w' (eZ.reset.fV dA) hy ?_
        intro J4 Lq Ka
        exact hQ J4 Lq (gl (fun _=>⟨(j_ (st:=(st.cH P Γ o).reset) DM).trans (bo rest _ _ _ hy),Ka⟩) (by simp) aP)
       | false=>
        have hn:=lK.2 rfl
        refine eK fa rest (i+1) (acc++[bP P Γ ops i st o]) ((st.cH P Γ o).reset.fV s false) _ w' (eZ.reset.fV dA) hn ?_
        intro J4 Lq Ka
        exact hQ J4 Lq (gl (by simp) (fun _=>⟨(j_ (st:=(st.cH P Γ o).reset) DM).trans (bo rest _ _ _ hn),Ka⟩) aP)
      ·rename_i hg
       have Mb:∀a' w',Rel w0 S (bh P Γ ops gs ki rest (i+1) (acc++[bP P Γ ops i st o]) (st.cH P Γ o)) a' w'→Q .normal a' w':=by
        revert hQ
        split
        ·rename_i g H5;exact absurd H5 (hg g)
        ·exact id
       exact plain aP Mb
theorem AD {draw:Bool} {st:St} (h:(cf P Γ ops draw st).ok=true):Tr st (cf P Γ ops draw st):=by
 unfold cf at h ⊢
 cases draw
 ·simp only[aQ] at h ⊢
  exact bo _ _ _ _ h
 ·simp only[aj] at h ⊢
  cases hf:eM (lu ops.toList) st && gz ops.toList 0 && P.follows .mixedOrders
  ·simp [hf,bl] at h
  ·simp only[hf,aj] at h ⊢
   exact bo _ _ _ _ h
theorem CQ (fa:bN P Γ) {st:St} {a:Act} {w:World} {id:Nat} {Q:Exit→Act→World→Prop} (hR:Rel w0 S st a w) (h:(cf P Γ ops false st).ok=true)
  (hQ:∀a' w',Rel w0 S (cf P Γ ops false st) a' w'→Q .normal a' w'):(Code.region id ops false).wp P Q a w:=by
 unfold cf at h hQ
 simp only[aQ] at h hQ
 exact wp_region_list (eK fa _ _ _ _ a w hR h hQ)
end
end Go.Proofs.YtnlkklmcfafgeaaGreat.Vm
set_option linter.unusedVariables false
set_option linter.unusedSimpArgs false
namespace Go.Proofs.YtnlkklmcfafgeaaGreat.Vm
theorem M.kE {α:Type} {f f':Nat→SV} {h h':Nat→Option ao} :∀(m:M α) {a:α} {s o:List Nat},m.run f h=some (a,s,o)→(∀i∈s,f' i=f i)→(∀i∈o,h' i=h i)→m.run f' h'=some (a,s,o)
 | .pure a,_,_,_,e,_,_=>by simpa [M.run] using e
 | .fail,_,_,_,e,_,_=>by simp [M.run] at e
 | .slot i k,a,s,o,e,hs,ho=>by
  simp only[M.run] at e ⊢
  split at e
  ·rename_i b s' o' hk
   simp only[aa,Prod.mk.injEq] at e
   obtain⟨rfl,rfl,rfl⟩:=e
   rw[hs i (List.mem_cons_self ..),M.kE (k (f i)) hk (fun j hj=>hs j (List.mem_cons_of_mem _ hj)) ho]
  ·cases e
 | .obj i k,a,s,o,e,hs,ho=>by
  simp only[M.run] at e ⊢
  split at e
  ·rename_i x hx
   split at e
   ·rename_i b s' o' hk
    simp only[aa,Prod.mk.injEq] at e
    obtain⟨rfl,rfl,rfl⟩:=e
    rw[ho i (List.mem_cons_self ..),hx]
    simp only
    rw[M.kE (k x) hk hs (fun j hj=>ho j (List.mem_cons_of_mem _ hj))]
   ·cases e
  ·cases e
structure PS where
 i:Nat
 o:Oper
 run:Bool
 st:St
 e:cS
 log:cC
def PS.f (p:PS) (s:Nat) (v:SV):SV:=if p.o.dst=some s then p.e.sv else v
def Gg:List (Nat×Option ao)→Nat→Option (Option ao)
 | [],_=>none
 | (i,x)::l,j=>if j=i then some x else Gg l j
def Es (cw:Option (Nat×Nat×List SV)) (id:Nat) (v:Option ao):Option ao:=
 match cw with
 | some (i,off,bT)=>if id=i then (match v with | some (.box t cells)=>some (.box t (cN cells off bT)) | o=>o) else v
 | none=>v
def PS.h (p:PS) (id:Nat) (v:Option ao):Option ao:=
 match Gg p.e.ow id with
 | some x=>x
 | none=>Es p.e.cw id v
theorem Ij (cw:Option (Nat×Nat×List SV)) (h:Nat→Option ao) (id:Nat):fc cw h id=Es cw id (h id):=by
 cases cw with
 | none=>rfl
 | some x=>
  obtain⟨i,off,bT⟩:=x
  simp only[fc,Es]
  by_cases hi:id=i
  ·subst hi
   rw[if_pos rfl]
   cases hh:h id with
   | none=>simp [hh]
   | some b=>cases b<;>simp [aD,hh]
  ·rw[if_neg hi]
   cases h i with
   | none=>rfl
   | some b=>cases b<;>simp [aD,hi]
theorem Ik (ow:List (Nat×Option ao)) (h:Nat→Option ao) (id:Nat):fo ow h id=match Gg ow id with | some x=>x | none=>h id:=by
 induction ow with
 | nil=>rfl
 | cons x l ih=>
  obtain⟨i,ob⟩:=x
  simp only[fo,aD,Gg]
  split
  ·rfl
  ·exact ih
theorem jv (st:St) (p:PS) (id:Nat):(st.apply p.o.dst p.e).obj id=p.h id (st.obj id):=by
 rw[fl,Ik]
 unfold PS.h
 rw[Ij]
theorem lF (st:St) (p:PS) (s:Nat):(st.apply p.o.dst p.e).get s=p.f s (st.get s):=by
 unfold PS.f
 cases hd:p.o.dst with
 | none=>simp [gX]
 | some d=>
  rw[apply_get]
  simp only[aD,aa]
  by_cases hs:s=d
  ·simp [hs]
  ·rw[if_neg hs,if_neg (fun h:d=s=>hs h.symm)]
inductive Path (P:Program) (Γ:Ctx) (ops:Array Oper) (gs:List Nat):List Oper→Nat→St→List PS→St→Prop where
 | nil (i:Nat) (st:St):Path P Γ ops gs [] i st [] st
 | skip (o:Oper) (rest:List Oper) (i:Nat) (st:St) (l:List PS) (fin:St) (hw:fH ops st o=some false) (aP:(st.skip o.dst).ok=true) (h:Path P Γ ops gs rest (i+1) (st.skip o.dst) l fin):
   Path P Γ ops gs (o::rest) i st (⟨i,o,false,st, {sv:= .undef},iQ ops i o⟩::l) fin
 | op (o:Oper) (rest:List Oper) (i:Nat) (st:St) (l:List PS) (fin:St) (e:cS) (hw:fH ops st o=some true) (aP:(st.cH P Γ o).ok=true) (he:st.cH P Γ o=st.apply o.dst e)
   (hr:∃s r,(evalOp P Γ o).run st.get st.obj=some (e,s,r)) (h:Path P Γ ops gs rest (i+1) (st.cH P Γ o) l fin):
   Path P Γ ops gs (o::rest) i st (⟨i,o,true,st,e,bP P Γ ops i st o⟩::l) fin
 | JZ (o:Oper) (rest:List Oper) (i:Nat) (st:St) (l:List PS) (fin:St) (e:cS) (s:Nat) (g:Bool) (hw:fH ops st o=some true) (aP:(st.cH P Γ o).ok=true) (he:st.cH P Γ o=st.apply o.dst e)
   (hr:∃s r,(evalOp P Γ o).run st.get st.obj=some (e,s,r)) (hd:o.dst=some s) (hg:e.sv= .bool g) (h:Path P Γ ops gs rest (i+1) ((st.cH P Γ o).reset.fV s g) l fin):
   Path P Γ ops gs (o::rest) i st (⟨i,o,true,st, {e with sv:= .kb g},bP P Γ ops i st o⟩::l) fin
section
variable {P:Program} {Γ:Ctx} {w0:World} {S:Own} {ops:Array Oper} {gs:List Nat}
theorem fh {ki:List cC→Bool} :∀(rest:List Oper) (i:Nat) (acc:List cC) (st:St),(bh P Γ ops gs ki rest i acc st).ok=true→
  ∃l fin,Path P Γ ops gs rest i st l fin∧fin.ok=true∧ki (acc++l.map (·.log))=true∧∀(w0:World) (S:Own) (a:Act) (w:World),Rel w0 S fin a w→Rel w0 S (bh P Γ ops gs ki rest i acc st) a w
 | [],i,acc,st,aP=>by
  simp only[bh,gy] at aP ⊢
  exact⟨[],st,.nil i st,aP.1,by simpa using aP.2,fun w0 S a w h=>h.GZ _⟩
 | o::rest,i,acc,st,aP=>by
  rw[bh] at aP ⊢
  cases hw:fH ops st o with
  | none=>simp [hw,bl] at aP
  | some b=>
   simp only[hw] at aP ⊢
   cases b with
   | false=>
    simp only at aP ⊢
    obtain⟨l,fin,h1,h2,h3,h4⟩:=fh rest _ _ _ aP
    exact⟨_,fin,.skip o rest i st l fin hw (bo rest _ _ _ aP).ok h1,h2,by simpa using h3,h4⟩
   | true=>
    simp only at aP ⊢
    have plain:(bh P Γ ops gs ki rest (i+1) (acc++[bP P Γ ops i st o]) (st.cH P Γ o)).ok=true→
      ∃l fin,Path P Γ ops gs (o::rest) i st l fin∧fin.ok=true∧ki (acc++l.map (·.log))=true∧∀(w0:World) (S:Own) (a:Act) (w:World),Rel w0 S fin a w→
       Rel w0 S (bh P Γ ops gs ki rest (i+1) (acc++[bP P Γ ops i st o]) (st.cH P Γ o)) a w:=by
     intro h1
     have hd:=(bo rest _ _ _ h1).ok
     obtain⟨l,fin,g1,g2,g3,g4⟩:=fh rest _ _ _ h1
     obtain⟨e,s,r,hr,_,he⟩:=lZ hd
     exact⟨_,fin,.op o rest i st l fin e hw hd he ⟨s,r,hr⟩ g1,g2,by simpa using g3,g4⟩
    split at aP
    ·rename_i hd
     exact plain aP
    ·rename_i s hd
     cases hm:iq s gs
     ·simp only[hm,aQ] at aP ⊢
      exact plain aP
     ·simp only[hm,aj] at aP ⊢
      split at aP
      ·rename_i g hg
       have lK:=de aP
       have JG:∀b:Bool,g=b→(bh P Γ ops gs ki rest (i+1) (acc++[bP P Γ ops i st o]) ((st.cH P Γ o).reset.fV s b)).ok=true:=by
        rintro b rfl
        cases g with
        | true=>exact lK.1 rfl
        | false=>exact lK.2 rfl
       have Kj:=(bo rest _ _ _ (JG g rfl)).ok
       have JI:(st.cH P Γ o).ok=true:=Kj
       obtain⟨l,fin,g1,g2,g3,g4⟩:=fh rest (i+1) (acc++[bP P Γ ops i st o]) _ (JG g rfl)
       obtain⟨e,s',r,hr,_,he⟩:=lZ JI
       have f8:e.sv= .bool g:=by
        rw[he,hd,apply_get] at hg
        simpa [aD] using hg
       refine⟨_,fin,.JZ o rest i st l fin e s g hw JI he ⟨s',r,hr⟩ hd f8 g1,g2,by simpa using g3,fun w0 S a w hR=> ?_⟩
       have eZ:=g4 w0 S a w hR
       refine gl (fun FY=> ?_) (fun Mt=> ?_) aP
       ·subst FY
        exact⟨(j_ (st:=(st.cH P Γ o).reset) JI).trans (bo rest _ _ _ (JG true rfl)),eZ⟩
       ·subst Mt
        exact⟨(j_ (st:=(st.cH P Γ o).reset) JI).trans (bo rest _ _ _ (JG false rfl)),eZ⟩
      ·rename_i hg
       exact plain aP
def kQ (L:Nat→Bool) (l:List PS) (s:Nat) (v:SV):SV:=l.foldl (fun v p=>if L p.i then p.f s v else v) v
def kR (L:Nat→Bool) (l:List PS) (id:Nat) (v:Option ao):Option ao:=l.foldl (fun v p=>if L p.i then p.h id v else v) v
def PS.tF (p:PS) (s:Nat):Prop:=p.o.dst=some s
def PS.tH (p:PS) (id:Nat):Prop:=id∈p.e.ow.map (·.1)∨∃off bT,p.e.cw=some (id,off,bT)
theorem PS.Ii {p:PS} {s:Nat} (h:¬p.tF s) (v:SV):p.f s v=v:=by unfold PS.f PS.tF at*;rw[if_neg h]
theorem Fo {ow:List (Nat×Option ao)} {id:Nat} (h:id ∉ ow.map (·.1)):Gg ow id=none:=by
 induction ow with
 | nil=>rfl
 | cons x l ih=>
  obtain⟨i,ob⟩:=x
  simp only[List.map_cons,List.mem_cons,not_or] at h
  simp only[Gg]
  rw[if_neg h.1]
  exact ih h.2
theorem PS.Ip {p:PS} {id:Nat} (h:¬p.tH id) (v:Option ao):p.h id v=v:=by
 unfold PS.tH at h
 simp only[not_or] at h
 unfold PS.h
 rw[Fo h.1]
 simp only
 unfold Es
 split
 ·rename_i i off bT kT
  by_cases hi:id=i
  ·subst hi
   exact absurd ⟨off,bT,kT⟩ h.2
  ·rw[if_neg hi]
 ·rfl
theorem fq {α:Type} (step:PS→α→α) {L:Nat→Bool} :∀(l:List PS) (v:α),(∀q∈l,L q.i=false)→l.foldl (fun v q=>if L q.i then step q v else v) v=v
 | [],v,_=>rfl
 | z::l,v,h=>by
  simp only[List.foldl_cons,h z (List.mem_cons_self ..),Bool.false_eq_true,if_false]
  exact fq step l v (fun q hq=>h q (List.mem_cons_of_mem _ hq))
section Il
variable {α:Type} (step:PS→α→α) (T:PS→Prop)
theorem fold_congr (dZ:∀p v,¬T p→step p v=v) {L L':Nat→Bool} :∀(l:List PS) (v:α),(∀p∈l,T p→L p.i=L' p.i)→
  l.foldl (fun v p=>if L p.i then step p v else v) v=l.foldl (fun v p=>if L' p.i then step p v else v) v
 | [],v,_=>rfl
 | p::l,v,h=>by
  simp only[List.foldl_cons]
  have:(if L p.i then step p v else v)=if L' p.i then step p v else v:=by
   by_cases ht:T p
   ·rw[h p (List.mem_cons_self ..) ht]
   ·rw[dZ p v ht]
    simp
  rw[this]
  exact fold_congr dZ l _ (fun q hq=>h q (List.mem_cons_of_mem _ hq))
theorem hJ (dZ:∀p v,¬T p→step p v=v) {L:Nat→Bool} {q:PS} :∀(l:List PS) (v:α),q∈l→(l.map (·.i)).Nodup→L q.i=false→l.Pairwise (fun a b=>a.i<b.i)→(∀p∈l,q.i<p.i→T q→T p→L p.i=false)→
  l.foldl (fun v p=>if (L p.i || p.i==q.i) then step p v else v) v=step q (l.foldl (fun v p=>if L p.i then step p v else v) v)
 | [],v,hq,_,_,_,_=>by simp at hq
 | p::l,v,hq,hn,hL,hp,BL=>by
  simp only[List.foldl_cons]
  simp only[List.map_cons,List.nodup_cons] at hn
  rw[List.pairwise_cons] at hp
  rcases List.mem_cons.1 hq with rfl | LK
  ·simp only[hL,beq_self_eq_true,Bool.or_true,if_true,Bool.false_eq_true,if_false]
   have e1:l.foldl (fun v p=>if (L p.i || p.i==q.i) then step p v else v) (step q v)=l.foldl (fun v p=>if L p.i then step p v else v) (step q v):=by
    refine fold_congr step T dZ (L:=fun k=>L k || k==q.i) (L':=L) l _ (fun r hr _=> ?_)
    have:r.i≠q.i:=fun e=>hn.1 (e ▸ List.mem_map_of_mem hr)
    simp [this]
   rw[e1]
   by_cases ht:T q
   ·have e2:∀u,l.foldl (fun v p=>if L p.i then step p v else v) u=u:=by
     intro u
     have:=fold_congr step T dZ (L:=L) (L':=fun _=>false) l u (fun r hr MJ=>BL r (List.mem_cons_of_mem _ hr) (hp.1 r hr) ht MJ)
     rw[this]
     exact fq step (L:=fun _=>false) l u (fun _ _=>rfl)
    rw[e2,e2]
   ·rw[dZ q v ht,dZ q _ ht]
  ·have cQ:p.i≠q.i:=fun e=>hn.1 (e ▸ List.mem_map_of_mem LK)
   have:(if (L p.i || p.i==q.i) then step p v else v)=if L p.i then step p v else v:=by simp [cQ]
   rw[this]
   exact hJ dZ l _ LK hn.2 hL hp.2 (fun r hr=>BL r (List.mem_cons_of_mem _ hr))
end Il
theorem cB:∀ {rest:List Oper} {i:Nat} {st:St} {l:List PS} {fin:St},Path P Γ ops gs rest i st l fin→l.map (·.i)=List.range' i rest.length∧l.map (·.o)=rest∧(∀p∈l,p.log.i=p.i∧p.log.d=p.o.dst):=by
 intro rest i st l fin h
 induction h with
 | nil=>exact⟨rfl,rfl,by simp⟩
 | skip o rest i st l fin hw aP h ih=>
  refine⟨by simp [ih.1,List.range'_succ],by simp [ih.2.1],fun p hp=> ?_⟩
  rcases List.mem_cons.1 hp with rfl | hp
  ·exact⟨rfl,rfl⟩
  ·exact ih.2.2 p hp
 | op o rest i st l fin e hw aP he hr h ih=>
  refine⟨by simp [ih.1,List.range'_succ],by simp [ih.2.1],fun p hp=> ?_⟩
  rcases List.mem_cons.1 hp with rfl | hp
  ·obtain⟨s,r,hr⟩:=hr
   simp [bP,hr]
  ·exact ih.2.2 p hp
 | JZ o rest i st l fin e s g hw aP he hr hd hg h ih=>
  refine⟨by simp [ih.1,List.range'_succ],by simp [ih.2.1],fun p hp=> ?_⟩
  rcases List.mem_cons.1 hp with rfl | hp
  ·obtain⟨s,r,hr⟩:=hr
   simp [bP,hr]
  ·exact ih.2.2 p hp
def D9 (st:St) (l:List PS) (fin:St):Prop:=
 (∀p∈l,(∀s,p.st.get s=kQ (fun k=>decide (k<p.i)) l s (st.get s))∧(∀id,p.st.obj id=kR (fun k=>decide (k<p.i)) l id (st.obj id))∧p.st.n=st.n)∧
  (∀s,fin.get s=kQ (fun _=>true) l s (st.get s))∧(∀id,fin.obj id=kR (fun _=>true) l id (st.obj id))∧fin.n=st.n
theorem i_ (p0:PS) {st Jx:St} {Jw:List Oper} {l':List PS} {Ha:St} {i:Nat} (hi:p0.i=i) (ic:p0.st=st) (hf:∀s,Jx.get s=p0.f s (st.get s)) (hh:∀id,Jx.obj id=p0.h id (st.obj id)) (hn:Jx.n=st.n)
  (dM:Path P Γ ops gs Jw (i+1) Jx l' Ha) (ih:D9 Jx l' Ha):D9 st (p0::l') Ha:=by
 have IG:=(cB dM).1
 have EM:∀p∈l',i+1≤p.i:=by
  intro p hp
  have:p.i∈l'.map (·.i):=List.mem_map_of_mem hp
  rw[IG] at this
  exact (List.mem_range'_1.1 this).1
 refine⟨fun p hp=> ?_,fun s=> ?_,fun id=> ?_,ih.2.2.2.trans hn⟩
 ·rcases List.mem_cons.1 hp with rfl | hp
  ·have none_lt:∀q∈p::l',decide (q.i<p.i)=false:=by
    intro q hq
    rcases List.mem_cons.1 hq with rfl | hq
    ·simp
    ·have:=EM q hq
     simp
     omega
   refine⟨fun s=> ?_,fun id=> ?_,by rw[ic]⟩
   ·have:=fq (fun q v=>PS.f q s v) (L:=fun k=>decide (k<p.i)) (p::l') (st.get s) none_lt
    rw[ic]
    exact this.symm
   ·have:=fq (fun q v=>PS.h q id v) (L:=fun k=>decide (k<p.i)) (p::l') (st.obj id) none_lt
    rw[ic]
    exact this.symm
  ·have h0:=EM p hp
   have cz:decide (p0.i<p.i)=true:=by simp;omega
   obtain⟨g1,g2,g3⟩:=ih.1 p hp
   refine⟨fun s=> ?_,fun id=> ?_,g3.trans hn⟩
   ·rw[g1 s,hf s]
    unfold kQ
    simp only[List.foldl_cons,cz,if_true]
   ·rw[g2 id,hh id]
    unfold kR
    simp only[List.foldl_cons,cz,if_true]
 ·rw[ih.2.1 s,hf s]
  unfold kQ
  simp only[List.foldl_cons,if_true]
 ·rw[ih.2.2.1 id,hh id]
  unfold kR
  simp only[List.foldl_cons,if_true]
theorem Fg {st:St} {o:Oper} {e:cS} {s:Nat} {g:Bool} (hd:o.dst=some s) (p:PS) (hp:p.o=o) (KX:p.e= {e with sv:= .kb g}) (k:Nat):(((st.apply o.dst e).reset).fV s g).get k=p.f k (st.get k):=by
 rw[mw]
 have e1:(st.apply o.dst e).reset.get=(st.apply o.dst e).get:=rfl
 rw[e1,hd,apply_get]
 unfold PS.f
 rw[hp,hd,KX]
 simp only[aD,aa]
 by_cases hk:k=s
 ·simp [hk]
 ·rw[if_neg hk,if_neg hk,if_neg (fun h:s=k=>hk h.symm)]
theorem Fh {st:St} {o:Oper} {e:cS} {s:Nat} {g:Bool} (p:PS) (hp:p.o=o) (KX:p.e= {e with sv:= .kb g}) (id:Nat):(((st.apply o.dst e).reset).fV s g).obj id=p.h id (st.obj id):=by
 have e1:(((st.apply o.dst e).reset).fV s g).obj id=(st.apply p.o.dst p.e).obj id:=by
  rw[fl,KX]
  show (st.apply o.dst e).obj id=_
  rw[fl]
 rw[e1]
 exact jv st p id
theorem lb {rest:List Oper} {i:Nat} {st:St} {l:List PS} {fin:St} (h:Path P Γ ops gs rest i st l fin):D9 st l fin:=by
 induction h with
 | nil=>exact⟨by simp,fun _=>rfl,fun _=>rfl,rfl⟩
 | skip o rest i st l fin hw aP h ih=>
  exact i_ ⟨i,o,false,st, {sv:= .undef},iQ ops i o⟩ rfl rfl (fun s=>lF st ⟨i,o,false,st, {sv:= .undef},iQ ops i o⟩ s) (fun id=>jv st ⟨i,o,false,st, {sv:= .undef},iQ ops i o⟩ id) rfl h ih
 | op o rest i st l fin e hw aP he hr h ih=>
  refine i_ ⟨i,o,true,st,e,bP P Γ ops i st o⟩ rfl rfl (fun s=> ?_) (fun id=> ?_) ?_ h ih
  ·rw[he];exact lF st ⟨i,o,true,st,e,bP P Γ ops i st o⟩ s
  ·rw[he];exact jv st ⟨i,o,true,st,e,bP P Γ ops i st o⟩ id
  ·rw[he];rfl
 | JZ o rest i st l fin e s g hw aP he hr hd hg h ih=>
  refine i_ ⟨i,o,true,st, {e with sv:= .kb g},bP P Γ ops i st o⟩ rfl rfl (fun s=> ?_) (fun id=> ?_) ?_ h ih
  ·rw[he];exact Fg hd ⟨i,o,true,st, {e with sv:= .kb g},bP P Γ ops i st o⟩ rfl rfl s
  ·rw[he];exact Fh ⟨i,o,true,st, {e with sv:= .kb g},bP P Γ ops i st o⟩ rfl rfl id
  ·rw[he];rfl
def i9 (P:Program) (Γ:Ctx) (ops:Array Oper) (p:PS):Prop:=
 (fH ops p.st p.o=some false∧p.e= {sv:= .undef} ∧(p.st.skip p.o.dst).ok=true∧p.log=iQ ops p.i p.o)∨
 (fH ops p.st p.o=some true∧∃e s r,(evalOp P Γ p.o).run p.st.get p.st.obj=some (e,s,r)∧(p.st.apply p.o.dst e).ok=true∧p.log=bP P Γ ops p.i p.st p.o∧
  (p.e=e∨∃d g,p.o.dst=some d∧e.sv= .bool g∧p.e= {e with sv:= .kb g}))
theorem CO {rest:List Oper} {i:Nat} {st:St} {l:List PS} {fin:St} (h:Path P Γ ops gs rest i st l fin):∀p∈l,i9 P Γ ops p:=by
 induction h with
 | nil=>simp
 | skip o rest i st l fin hw aP h ih=>
  intro p hp
  rcases List.mem_cons.1 hp with rfl | hp
  ·exact .inl ⟨hw,rfl,aP,rfl⟩
  ·exact ih p hp
 | op o rest i st l fin e hw aP he hr h ih=>
  intro p hp
  rcases List.mem_cons.1 hp with rfl | hp
  ·obtain⟨s,r,hr⟩:=hr
   exact .inr ⟨hw,e,s,r,hr,by rw[←he];exact aP,rfl,.inl rfl⟩
  ·exact ih p hp
 | JZ o rest i st l fin e s g hw aP he hr hd hg h ih=>
  intro p hp
  rcases List.mem_cons.1 hp with rfl | hp
  ·obtain⟨s',r,hr⟩:=hr
   exact .inr ⟨hw,e,s',r,hr,by rw[←he];exact aP,rfl,.inr ⟨s,g,hd,hg,rfl⟩⟩
  ·exact ih p hp
end
end Go.Proofs.YtnlkklmcfafgeaaGreat.Vm
